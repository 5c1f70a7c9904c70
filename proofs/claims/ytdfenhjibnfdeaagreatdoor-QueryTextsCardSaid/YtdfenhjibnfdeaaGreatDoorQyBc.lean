/-  -/
import Derived.Test.YtdfenhjibnfdeaaGreatDoorQyBa
import Derived.Test.YtdfenhjibnfdeaaGreatDoorQyAt
namespace Go.Proofs.YtdfenhjibnfdeaaGreatDoor
open Go.RowKit Go.Shelf
theorem infoStrQ:(Tryz.prog.info? 9).map (fun i=>(i.zero,i.size,i.bytes))=some (some (.string ⟨#[]⟩),1,16):=by kernel_rfl
def TextK (k:Nat):Prop:=∀(c:CondD) (a:Option Addr) (cap:Nat) (w:World),cnodes c≤k→cnodes c≤1000000→CondIs w c a→Env w→callC nodeOK c=true→(textC c).size≤1000000 →
 Calls Tryz.prog 32 #[condV c a cap] w fun e w'=>e=.returned (.string (textC c))∧Below w.heap.size w w'
theorem quoteQ_size (s:ByteArray):(quoteB s).size≤2 * s.size+2:=by
 have h1:=esc_flat (lstB s)
 rw [lstB_len] at h1
 show (quoteL (lstB s)).toArray.size≤_
 simp only [quoteL,List.size_toArray,List.length_append,List.length_cons,List.length_nil]
 omega
theorem own_cap {w:World} {N e size n g c:Nat} {xs:List Value} {m:Nat} (h:w.ownsRow N e size (.slice (some ⟨g,0,none⟩) m c) n xs):n≤c:=by
 rcases h.2 with ⟨h,_⟩ | ⟨g2,cap2,cur,h1,_,_,h4,_⟩
 ·cases h
 ·injection h1 with _ _ h1
  rw [h1];exact h4
theorem len_nodes:∀ks:List CondD,ks.length≤cnodesL ks
 |[]=>Nat.le_refl _
 |c :: r=>by have:=len_nodes r;have:=cnodes_pos c;rw [cnodesL,List.length_cons];omega
theorem one_str (s:ByteArray):∀v∈[Value.string s],v.oneCell'=true:=by intro v hv;rw [List.mem_singleton.1 hv];rfl
set_option maxRecDepth 100000 in
set_option maxHeartbeats 8000000 in
theorem text_step (k:Nat) (IH:TextK k):TextK (k+1):=by
 intro c a cap w hk hk1 hc he hok hsz
 obtain ⟨op,key,val,n,ks⟩:=c
 have hk2:cnodesL ks≤k:=by rw [cnodes] at hk;omega
 obtain ⟨h1,h2,h3,h4⟩:=hc.open
 rw [callC_eq,Bool.and_eq_true] at hok
 obtain ⟨hno,hkids⟩:=hok
 show Calls Tryz.prog 32 #[.agg #[.int .i64 op,.string key,.string val,.int .i64 n,.slice a ks.length cap]] w _
 have hk3:cnodesL ks≤1000000:=by rw [cnodes] at hk1;omega
 have hlen:ks.length≤1000000:=Nat.le_trans (len_nodes ks) hk3
 have h3:ks.length≤140737488355328:=h3
 have h1:key.size≤140737488355328:=h1
 have h2:val.size≤140737488355328:=h2
 obtain ⟨RES,hRES⟩:∃z,textC (.mk op key val n ks)=z:=⟨_,rfl⟩
 have HRES:=Lib.hid hRES
 rw [hRES] at hsz ⊢
 have B1:=(Below.refl w.heap.size w).alloc (Nat.le_refl _) (.cells #[.int .i64 op,.string key,.string val,.int .i64 n,.slice a ks.length cap] 24)
 have HC0:=Lib.hid (row_new w (.cells #[.int .i64 op,.string key,.string val,.int .i64 n,.slice a ks.length cap] 24))
 have HKS:=Lib.hid (show ∀c∈ks,(textC c).size≤1000000∧(kidT c).size≤1000000 from fun c hc=>by
  have:=kid_size hno hc
  rw [hRES] at this
  have:=kidT_size c
  omega)
 obtain ⟨N,hN⟩:∃N,ks.length=N:=⟨_,rfl⟩
 have HNO:=Lib.hid (show nodeB op key val n ks.length=true from hno)
 rw [hN] at h3 hlen HC0 B1 HNO ⊢
 have HN:=Lib.hid hN
 have H4:=Lib.hid (show 0<ks.length→∃b off,a=some ⟨b,off,none⟩∧KidsIs w b ks off from h4)
 have HKD:=Lib.hid hkids
 have HE:=Lib.hid he
 obtain ⟨i0,hi,hi0,hi1,hi2⟩:=info_parts infoStrQ
 clear hc he hno hkids hRES h4 hk hk1 hN
 go_enter Tryz.func32,Tryz.ntmps32
 go_wp2
 go_loopw [3,10] (fun v i wr=>∃(j:Nat) (vv:Value),j≤N∧i=.int .i64 j∧v=vv∧wr.ownsRow (w.heap.size+1) 9 1 vv j (((ks.take j).map kidT).map Value.string)∧Below w.heap.size w wr∧wr.heap[w.heap.size]?=some (.cells #[.int .i64 op,.string key,.string val,.int .i64 n,.slice a N cap] 24 (0,0))) (fun _ i _=>N - (intOf i).toNat)
 case atStart=>exact ⟨0,_,by omega,rfl,rfl,World.ownsRow_nil _ _ _ _,B1,HC0.out⟩
 case round =>
  obtain ⟨j,vv,hj,rfl,rfl,hown,hbr,hbx⟩:=hrel
  have HBX:=Lib.hid hbx
  clear hbx
  by_cases hlt:j<N
  ·obtain ⟨c,hcj⟩:∃c,ks[j]?=some c:=⟨ks[j]'(by rw [HN.out];exact hlt),List.getElem?_eq_getElem _⟩
   obtain ⟨b,off,ha,hrow⟩:=H4.out (by rw [HN.out];omega)
   subst ha
   obtain ⟨a',cap',⟨q0,q1,q2,q3,q4⟩,hci⟩:=KidsIs.at _ _ j c hrow hcj
   have c0:=cell_later hbr q0
   have c1:=cell_later hbr q1
   have c2:=cell_later hbr q2
   have c3:=cell_later hbr q3
   have c4:=cell_later hbr q4
   have hm:=List.mem_of_getElem? hcj
   have O1:=Lib.hid hown
   have ba:=(Below.refl wr.heap.size wr).alloc (Nat.le_refl _) (.cells #[.int .i64 c.op,.string c.key,.string c.val,.int .i64 c.n,.slice a' c.kids.length cap'] 24)
   have CL:=Lib.hid (IH c a' cap' _ (Nat.le_trans (cnodes_mem hm) hk2) (Nat.le_trans (cnodes_mem hm) hk3) ((hci.later hbr).later ba) ((HE.out.later hbr).later ba) (callC_kid HKD.out c hm) (HKS.out c hm).1)
   have HD:=Lib.hid (row_new wr (.cells #[.int .i64 c.op,.string c.key,.string c.val,.int .i64 c.n,.slice a' c.kids.length cap'] 24))
   have HTK:=Lib.hid (show (ks.take (j+1)).map kidT=(ks.take j).map kidT++[kidT c] by
    obtain ⟨hk,rfl⟩:=List.getElem?_eq_some_iff.1 hcj
    rw [List.take_succ_eq_append_getElem hk,List.map_append];rfl)
   have hts:=(HKS.out c hm).1
   clear q0 q1 q2 q3 q4 hci hrow hcj hown ba hm
   rw [cond_cells] at CL
   by_cases k5:c.op=5
   ·have x5:(c.op==5)=true:=by rw [beq_iff_eq];exact k5
    have HKT:=Lib.hid (show kidT c=(⟨#[40]⟩++textC c)++⟨#[41]⟩ by rw [kidT,parT,if_pos (Or.inl k5)])
    clear k5
    have e1:∀W,(Op.stringOp .add ⟨#[40]⟩ (textC c)).run Tryz.prog W=.ok (.string (⟨#[40]⟩++textC c)) W:=fun W=>run_string_add_sum W _ _ (by have:(⟨#[40]⟩:ByteArray).size=1:=rfl;omega)
    have e2:∀W,(Op.stringOp .add (⟨#[40]⟩++textC c) ⟨#[41]⟩).run Tryz.prog W=.ok (.string ((⟨#[40]⟩++textC c)++⟨#[41]⟩)) W:=fun W=>run_string_add_sum W _ _ (by have:(⟨#[40]⟩:ByteArray).size=1:=rfl;have:(⟨#[41]⟩:ByteArray).size=1:=rfl;simp only [ByteArray.size_append];omega)
    go_wp2_with fail
    refine CL.out.mono ?_
    rintro e w2 ⟨rfl,hb2⟩
    have HD2:=Lib.hid (row_later hb2 HD.out)
    have O2:=Lib.hid (own_laterL (O1.out.alloc (.cells #[.int .i64 c.op,.string c.key,.string c.val,.int .i64 c.n,.slice a' c.kids.length cap'] 24)) hb2)
    have HB2:=Lib.hid (row_later hb2 (row_past (o':=.cells #[.int .i64 c.op,.string c.key,.string c.val,.int .i64 c.n,.slice a' c.kids.length cap'] 24) HBX.out))
    have B2:=below_step (hbr.alloc hbr.size (.cells #[.int .i64 c.op,.string c.key,.string c.val,.int .i64 c.n,.slice a' c.kids.length cap'] 24)) (Nat.le_refl _) hb2
    have hs2:=B2.size
    clear hb2
    obtain ⟨dz,d0,d1,d2,d3,d4⟩:=rk5 HD2.out
    go_wp2_with (at_builtin;refine wpList_append_own _ rfl _ _ 47 rfl (w.heap.size+1) 9 i0 (.string ⟨#[]⟩) 1 16 Tryz.underlying47 hi hi0 hi1 hi2 rfl (by decide) _ _ _ rfl (O2.out.alloc _) ⟨w2.heap.size,0,none⟩ 1 1 [.string (kidT c)] rfl rfl (by rw [HKT.out];exact cells_newQ w2 _ _) (one_str _) (by unfold maxLen;omega) (by omega) (by simp;omega) ?_;intro v' w9 hown9 hgrow9 _;have HO9:=Lib.hid hown9;have B9:=(B2.alloc hs2 _).grown hgrow9 (by simp;omega) (fun j ej=>by have:=(O2.out.lt j ej).1;omega);have HB9:=Lib.hid ((hgrow9.block _ (by simp;have:=lt_of_block HB2.out;omega) (fun e=>by have:=(O2.out.lt _ e.symm).1;omega)).trans (row_past HB2.out));clear hown9 hgrow9)
    go_roundw
    case rel=>exact ⟨j+1,v',by omega,by go_num,rfl,by rw [HTK.out,List.map_append];exact HO9.out,B9,HB9.out⟩
    case measure=>simp [intOf];omega
   ·have x5:(c.op==5)=false:=by rw [beq_eq_false_iff_ne];exact k5
    by_cases k6:c.op=6
    ·have x6:(c.op==6)=true:=by rw [beq_iff_eq];exact k6
     have HKT:=Lib.hid (show kidT c=(⟨#[40]⟩++textC c)++⟨#[41]⟩ by rw [kidT,parT,if_pos (Or.inr k6)])
     clear k5 k6
     have e1:∀W,(Op.stringOp .add ⟨#[40]⟩ (textC c)).run Tryz.prog W=.ok (.string (⟨#[40]⟩++textC c)) W:=fun W=>run_string_add_sum W _ _ (by have:(⟨#[40]⟩:ByteArray).size=1:=rfl;omega)
     have e2:∀W,(Op.stringOp .add (⟨#[40]⟩++textC c) ⟨#[41]⟩).run Tryz.prog W=.ok (.string ((⟨#[40]⟩++textC c)++⟨#[41]⟩)) W:=fun W=>run_string_add_sum W _ _ (by have:(⟨#[40]⟩:ByteArray).size=1:=rfl;have:(⟨#[41]⟩:ByteArray).size=1:=rfl;simp only [ByteArray.size_append];omega)
     go_wp2_with fail
     refine CL.out.mono ?_
     rintro e w2 ⟨rfl,hb2⟩
     have HD2:=Lib.hid (row_later hb2 HD.out)
     have O2:=Lib.hid (own_laterL (O1.out.alloc (.cells #[.int .i64 c.op,.string c.key,.string c.val,.int .i64 c.n,.slice a' c.kids.length cap'] 24)) hb2)
     have HB2:=Lib.hid (row_later hb2 (row_past (o':=.cells #[.int .i64 c.op,.string c.key,.string c.val,.int .i64 c.n,.slice a' c.kids.length cap'] 24) HBX.out))
     have B2:=below_step (hbr.alloc hbr.size (.cells #[.int .i64 c.op,.string c.key,.string c.val,.int .i64 c.n,.slice a' c.kids.length cap'] 24)) (Nat.le_refl _) hb2
     have hs2:=B2.size
     clear hb2
     obtain ⟨dz,d0,d1,d2,d3,d4⟩:=rk5 HD2.out
     go_wp2_with (at_builtin;refine wpList_append_own _ rfl _ _ 47 rfl (w.heap.size+1) 9 i0 (.string ⟨#[]⟩) 1 16 Tryz.underlying47 hi hi0 hi1 hi2 rfl (by decide) _ _ _ rfl (O2.out.alloc _) ⟨w2.heap.size,0,none⟩ 1 1 [.string (kidT c)] rfl rfl (by rw [HKT.out];exact cells_newQ w2 _ _) (one_str _) (by unfold maxLen;omega) (by omega) (by simp;omega) ?_;intro v' w9 hown9 hgrow9 _;have HO9:=Lib.hid hown9;have B9:=(B2.alloc hs2 _).grown hgrow9 (by simp;omega) (fun j ej=>by have:=(O2.out.lt j ej).1;omega);have HB9:=Lib.hid ((hgrow9.block _ (by simp;have:=lt_of_block HB2.out;omega) (fun e=>by have:=(O2.out.lt _ e.symm).1;omega)).trans (row_past HB2.out));clear hown9 hgrow9)
     go_roundw
     case rel=>exact ⟨j+1,v',by omega,by go_num,rfl,by rw [HTK.out,List.map_append];exact HO9.out,B9,HB9.out⟩
     case measure=>simp [intOf];omega
    ·have x6:(c.op==6)=false:=by rw [beq_eq_false_iff_ne];exact k6
     have HKT:=Lib.hid (show kidT c=textC c by rw [kidT,parT,if_neg (fun h=>h.elim k5 k6)])
     clear k5 k6
     have e1:∀W,(Op.stringOp .add ⟨#[40]⟩ (textC c)).run Tryz.prog W=.ok (.string (⟨#[40]⟩++textC c)) W:=fun W=>run_string_add_sum W _ _ (by have:(⟨#[40]⟩:ByteArray).size=1:=rfl;omega)
     have e2:∀W,(Op.stringOp .add (⟨#[40]⟩++textC c) ⟨#[41]⟩).run Tryz.prog W=.ok (.string ((⟨#[40]⟩++textC c)++⟨#[41]⟩)) W:=fun W=>run_string_add_sum W _ _ (by have:(⟨#[40]⟩:ByteArray).size=1:=rfl;have:(⟨#[41]⟩:ByteArray).size=1:=rfl;simp only [ByteArray.size_append];omega)
     go_wp2_with fail
     refine CL.out.mono ?_
     rintro e w2 ⟨rfl,hb2⟩
     have HD2:=Lib.hid (row_later hb2 HD.out)
     have O2:=Lib.hid (own_laterL (O1.out.alloc (.cells #[.int .i64 c.op,.string c.key,.string c.val,.int .i64 c.n,.slice a' c.kids.length cap'] 24)) hb2)
     have HB2:=Lib.hid (row_later hb2 (row_past (o':=.cells #[.int .i64 c.op,.string c.key,.string c.val,.int .i64 c.n,.slice a' c.kids.length cap'] 24) HBX.out))
     have B2:=below_step (hbr.alloc hbr.size (.cells #[.int .i64 c.op,.string c.key,.string c.val,.int .i64 c.n,.slice a' c.kids.length cap'] 24)) (Nat.le_refl _) hb2
     have hs2:=B2.size
     clear hb2
     obtain ⟨dz,d0,d1,d2,d3,d4⟩:=rk5 HD2.out
     go_wp2_with (at_builtin;refine wpList_append_own _ rfl _ _ 47 rfl (w.heap.size+1) 9 i0 (.string ⟨#[]⟩) 1 16 Tryz.underlying47 hi hi0 hi1 hi2 rfl (by decide) _ _ _ rfl (O2.out.alloc _) ⟨w2.heap.size,0,none⟩ 1 1 [.string (kidT c)] rfl rfl (by rw [HKT.out];exact cells_newQ w2 _ _) (one_str _) (by unfold maxLen;omega) (by omega) (by simp;omega) ?_;intro v' w9 hown9 hgrow9 _;have HO9:=Lib.hid hown9;have B9:=(B2.alloc hs2 _).grown hgrow9 (by simp;omega) (fun j ej=>by have:=(O2.out.lt j ej).1;omega);have HB9:=Lib.hid ((hgrow9.block _ (by simp;have:=lt_of_block HB2.out;omega) (fun e=>by have:=(O2.out.lt _ e.symm).1;omega)).trans (row_past HB2.out));clear hown9 hgrow9)
     go_roundw
     case rel=>exact ⟨j+1,v',by omega,by go_num,rfl,by rw [HTK.out,List.map_append];exact HO9.out,B9,HB9.out⟩
     case measure=>simp [intOf];omega
  ·obtain rfl:j=N:=by omega
   rw [List.take_of_length_le (by rw [HN.out];exact Nat.le_refl _)] at hown
   have OW:=Lib.hid hown
   have HV:=Lib.hid (HE.out.later hbr)
   have hrs:=hbr.size
   clear hown HE H4 HKD HC0
   obtain ⟨zz,z0,z1,z2,z3,z4⟩:=rk5 HBX.out
   have hnb:=HNO.out
   have hre:=HRES.out
   rw [textC_eq] at hre
   unfold nodeB at hnb
   by_cases o1:op=1
   ·subst o1
    have HR:=Lib.hid (show wAlways=RES from hre)
    clear hnb hre
    go_wp2
    go_ret
    exact ⟨congrArg (fun s=>Ending.returned (.string s)) HR.out,hbr⟩
   rw [if_neg o1] at hnb
   by_cases o2:op=2
   ·subst o2
    have HR:=Lib.hid (show key=RES from hre)
    clear hnb hre
    go_wp2
    go_ret
    exact ⟨congrArg (fun s=>Ending.returned (.string s)) HR.out,hbr⟩
   rw [if_neg o2] at hnb hre
   have hmx:Tryz.prog.follows .mixedOrders=true:=by kernel_rfl
   have x2:(op==2)=false:=by rw [beq_eq_false_iff_ne];exact o2
   by_cases o3:op=3
   ·subst o3
    rw [if_pos rfl] at hnb hre
    simp only [Bool.and_eq_true,decide_eq_true_eq] at hnb
    have hv:=hnb.1.1.2
    have QT:=Lib.hid (fun W=>quote_any val (by omega) W)
    have hq:=quoteQ_size val
    have e1:∀W,(Op.stringOp .add key ⟨#[32,61,32]⟩).run Tryz.prog W=.ok (.string (key++⟨#[32,61,32]⟩)) W:=fun W=>run_string_add_sum W _ _ (by have:(⟨#[32,61,32]⟩:ByteArray).size=3:=rfl;omega)
    have e2:∀W,(Op.stringOp .add (key++⟨#[32,61,32]⟩) (quoteB val)).run Tryz.prog W=.ok (.string RES) W:=fun W=>by rw [←hre];exact run_string_add_sum W _ _ (by have:(⟨#[32,61,32]⟩:ByteArray).size=3:=rfl;simp only [ByteArray.size_append];omega)
    clear hnb hre
    have d0:=cell_belowBy z0
    have d1:=cell_belowBy z1
    have d2:=cell_belowBy z2
    go_wp2
    refine wp_region_quiet_below (by assumption) (by kernel_rfl) ?_
    repeat (go_big_quiet_step (first | (go_at_call 16;exact calls_belowBy (QT.out _))))
    refine wpQuiet_nil ?_
    intro w6 hw'
    obtain ⟨⟨w7,hb7⟩,hw''⟩:=hw'
    subst hw''
    have B7:=below_step hbr (Nat.le_refl _) hb7
    go_wp2
    go_ret
    exact ⟨rfl,B7⟩
   rw [if_neg o3] at hnb hre
   have x3:(op==3)=false:=by rw [beq_eq_false_iff_ne];exact o3
   by_cases o7:op=7
   ·subst o7
    rw [if_pos rfl] at hnb hre
    simp only [Bool.and_eq_true,decide_eq_true_eq] at hnb
    have hn0:=hnb.1.1.2
    have hn9:=hnb.1.2
    have IT:=Lib.hid (fun W he=>itoa_below n (by omega) (by omega) W he)
    have hq:=itoaB_size n (by omega) (by omega)
    have e1:∀W,(Op.stringOp .add key ⟨#[32,62,32]⟩).run Tryz.prog W=.ok (.string (key++⟨#[32,62,32]⟩)) W:=fun W=>run_string_add_sum W _ _ (by have:(⟨#[32,62,32]⟩:ByteArray).size=3:=rfl;omega)
    have e2:∀W,(Op.stringOp .add (key++⟨#[32,62,32]⟩) (itoaB n)).run Tryz.prog W=.ok (.string RES) W:=fun W=>by rw [←hre];exact run_string_add_sum W _ _ (by have:(⟨#[32,62,32]⟩:ByteArray).size=3:=rfl;simp only [ByteArray.size_append];omega)
    clear hnb hre
    have d0:=cell_belowBy z0
    have d1:=cell_belowBy z1
    have d3:=cell_belowBy z3
    go_wp2
    refine wp_region_quiet_below (by assumption) (by kernel_rfl) ?_
    repeat (go_big_quiet_step (first | (go_at_call 30;exact calls_belowBy (IT.out _ (HV.out.later (BelowBy.below _))))))
    refine wpQuiet_nil ?_
    intro w6 hw'
    obtain ⟨⟨w7,hb7⟩,hw''⟩:=hw'
    subst hw''
    have B7:=below_step hbr (Nat.le_refl _) hb7
    go_wp2
    go_ret
    exact ⟨rfl,B7⟩
   rw [if_neg o7] at hnb hre
   have x7:(op==7)=false:=by rw [beq_eq_false_iff_ne];exact o7
   by_cases o4:op=4
   ·subst o4
    rw [if_pos rfl] at hnb hre
    simp only [Bool.and_eq_true,decide_eq_true_eq] at hnb
    have hN1:=hnb.2
    obtain ⟨x,rfl⟩:=List.length_eq_one_iff.1 (HN.out.trans hN1)
    subst hN1
    obtain ⟨g,cap2,rfl,hg1,hg2⟩:=own_slice OW.out (by omega)
    have q0:=World.ownsRow.cells OW.out (g:=g) rfl 0 _ rfl
    rw [Addr.add_lit] at q0
    simp only [Nat.zero_add] at q0
    have hks:=(HKS.out x (List.mem_singleton.2 rfl)).2
    have e1:∀W,(Op.stringOp .add ⟨#[110,111,116,32]⟩ (kidT x)).run Tryz.prog W=.ok (.string RES) W:=fun W=>by rw [←hre];exact run_string_add_sum W _ _ (by have:(⟨#[110,111,116,32]⟩:ByteArray).size=4:=rfl;omega)
    clear hnb hre
    go_wp2
    go_ret
    exact ⟨rfl,hbr⟩
   rw [if_neg o4] at hnb hre
   have x4:(op==4)=false:=by rw [beq_eq_false_iff_ne];exact o4
   have hop:op=5∨op=6:=by
    by_cases h:op=5∨op=6
    ·exact h
    ·rw [if_neg h] at hnb;cases hnb
   rw [if_pos hop] at hnb
   simp only [Bool.and_eq_true,decide_eq_true_eq] at hnb
   have hN2:=hnb.2
   obtain ⟨g,cap2,rfl,hg1,hg2⟩:=own_slice OW.out (by omega)
   have hc:=World.ownsRow.cells OW.out (g:=g) rfl
   have JC:=fun sep (hs:(joinB (ks.map kidT) sep).size≤1000000)=>Tryz.strings_Join g 0 cap2 (ks.map kidT) sep wr (fun j x hx=>by
    have:=hc j (.string x) (by rw [List.getElem?_map,hx];rfl)
    rwa [Addr.add_lit] at this) hg2 (by rw [List.length_map,HN.out];omega) (by rw [List.length_map,HN.out];exact own_cap OW.out) (by rw [joinB_size] at hs;omega)
   rw [List.length_map,HN.out] at JC
   rcases hop with rfl | rfl
   ·rw [if_pos rfl] at hre
    have J:=Lib.hid ((JC ⟨#[32,97,110,100,32]⟩ (by rw [hre];exact hsz)).mono fun e w' h=>(⟨h.1.trans (congrArg (fun s=>Ending.returned (.string s)) hre),h.2⟩:e=.returned (.string RES)∧Below wr.heap.size wr w'))
    clear hre hnb hc JC
    go_wp2_with fail
    refine J.out.mono ?_
    rintro e w2 ⟨rfl,hb2⟩
    have B7:=below_step hbr (Nat.le_refl _) hb2
    go_wp2
    go_ret
    exact ⟨rfl,B7⟩
   ·rw [if_neg (by decide),if_pos rfl] at hre
    have J:=Lib.hid ((JC ⟨#[32,111,114,32]⟩ (by rw [hre];exact hsz)).mono fun e w' h=>(⟨h.1.trans (congrArg (fun s=>Ending.returned (.string s)) hre),h.2⟩:e=.returned (.string RES)∧Below wr.heap.size wr w'))
    clear hre hnb hc JC
    go_wp2_with fail
    refine J.out.mono ?_
    rintro e w2 ⟨rfl,hb2⟩
    have B7:=below_step hbr (Nat.le_refl _) hb2
    go_wp2
    go_ret
    exact ⟨rfl,B7⟩
theorem text_all:∀k,TextK k
 |0=>fun c _ _ _ hk=>by have:=cnodes_pos c;omega
 |k+1=>text_step k (text_all k)
theorem textc_any (c:CondD) (a:Option Addr) (cap:Nat) (w:World) (hc:CondIs w c a) (he:Env w) (hv:validC c=true) (hs:(textC c).size≤1000000) :
  Calls Tryz.prog 32 #[condV c a cap] w fun e w'=>e=.returned (.string (textC c))∧Below w.heap.size w w':=by
 rw [validC,Bool.and_eq_true,decide_eq_true_eq] at hv
 exact text_all (cnodes c) c a cap w (Nat.le_refl _) (by omega) hc he hv.2 hs
end Go.Proofs.YtdfenhjibnfdeaaGreatDoor
