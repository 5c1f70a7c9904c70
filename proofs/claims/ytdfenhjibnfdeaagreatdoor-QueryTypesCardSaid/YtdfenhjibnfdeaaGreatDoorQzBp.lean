/-  -/
import Derived.Test.YtdfenhjibnfdeaaGreatDoorQzAy
import Derived.Test.YtdfenhjibnfdeaaGreatDoorQzBe
import Derived.Test.YtdfenhjibnfdeaaGreatDoorQzBn
import Derived.Test.YtdfenhjibnfdeaaGreatDoorQzBo
namespace Go.Proofs.YtdfenhjibnfdeaaGreatDoor
open Go.RowKit Go.Shelf
def MapV (w:World) (N1:Nat) (v:Value) (M0:List ObQ) (W:World) (vn:Value) (M:List ObQ):Prop :=
 (vn=v∧M=M0)∨((∀x∈M,okQ w x)∧W.ownsRow N1 50 6 vn M.length (M.flatMap encQ))
theorem MapV.later {w:World} {N1:Nat} {v:Value} {M0:List ObQ} {W W':World} {vn:Value} {M:List ObQ} (h:MapV w N1 v M0 W vn M) (hb:Below W.heap.size W W'):MapV w N1 v M0 W' vn M :=
 h.imp id fun h=>⟨h.1,own_laterL h.2 hb⟩
theorem MapV.set {w:World} {N1:Nat} {v:Value} {M0:List ObQ} {W:World} {vn:Value} {M:List ObQ} (h:MapV w N1 v M0 W vn M) {p:Addr} (hp:p.block<N1) (u:Value):MapV w N1 v M0 (W.setCell p u) vn M :=
 h.imp id fun h=>⟨h.1,own_setW h.2 hp u⟩
theorem MapV.objs {w:World} {N1:Nat} {v:Value} {M0:List ObQ} {W:World} {vn:Value} {M:List ObQ} (h:MapV w N1 v M0 W vn M) (hv:ObjsM w w v M0) (hl:M.length≤1000) (hb:Below w.heap.size w W):ObjsM w W vn M:=by
 rcases h with ⟨rfl,rfl⟩ | ⟨h1,h2⟩
 ·exact hv.later hb
 ·exact ObjsM.of_own h2 (by omega) h1
structure TyI (w:World) (z N1:Nat) (v:Value) (M0:List ObQ) (q:QryD) (a:Option Addr) (cap:Nat) (vn:Value) (M:List ObQ) (W:World):Prop where
 low:Below w.heap.size w W
 rq:W.heap[w.heap.size]?=some (.cells (qryC q a cap) 28 (0,0))
 rm:W.heap[w.heap.size+1]?=some (.cells #[v] 62 (0,0))
 rn:W.heap[z]?=some (.cells #[vn] 62 (0,0))
 big:N1≤W.heap.size
 map:MapV w N1 v M0 W vn M
theorem TyI.stable (w:World) (z N1:Nat) (v:Value) (M0:List ObQ) (q:QryD) (a:Option Addr) (cap:Nat) (vn:Value) (M:List ObQ):StableW (TyI w z N1 v M0 q a cap vn M):=fun _W _W' h hb =>
 ⟨below_step h.low (Nat.le_refl _) hb,row_later hb h.rq,row_later hb h.rm,row_later hb h.rn,Nat.le_trans h.big hb.size,h.map.later hb⟩
theorem TyI.store {w:World} {z N1:Nat} {v:Value} {M0:List ObQ} {q:QryD} {a:Option Addr} {cap:Nat} {vn v':Value} {M M':List ObQ} {W:World} (h:TyI w z N1 v M0 q a cap vn M W) (hz:w.heap.size+1<z) (hN:z<N1) (ho:W.ownsRow N1 50 6 v' M'.length (M'.flatMap encQ)) (hk:∀x∈M',okQ w x) :
  TyI w z N1 v M0 q a cap v' M' (W.setCell ⟨z,0,none⟩ v') :=
 ⟨h.low.setCell (by simp only;omega) _,row_set_other h.rq (by simp only;omega),row_set_other h.rm (by simp only;omega),row_set (i:=0) h.rn,Nat.le_trans h.big (by simp),.inr ⟨hk,own_setW ho (by simp only;omega) _⟩⟩
theorem idx_none {id:ByteArray} {l:List ObjD} (h:posO id l=none):idxO id l=-1:=by unfold idxO;rw [h]
theorem idx_some {id:ByteArray} {l:List ObjD} {i:Nat} (h:posO id l=some i):idxO id l=(i:Int):=by unfold idxO;rw [h]
theorem checkP_vals (q:QryD) (l:List ObjD):checkP 13 q l=1∨checkP 13 q l=8∨checkP 13 q l=0∨checkP 13 q l=11∨checkP 13 q l=13:=by
 unfold checkP
 split
 ·exact Or.inl rfl
 split
 ·exact Or.inr (Or.inl rfl)
 split
 ·exact Or.inr (Or.inr (Or.inl rfl))
 split
 ·exact Or.inr (Or.inr (Or.inr (Or.inl rfl)))
 split
 ·split
  ·exact Or.inr (Or.inr (Or.inl rfl))
  ·exact Or.inr (Or.inr (Or.inr (Or.inr rfl)))
 ·exact Or.inr (Or.inr (Or.inl rfl))
theorem law_vals {E F:Int} (hE:E=1∨E=8∨E=0∨E=11∨E=13) (hF:F=1∨F=8∨F=0∨F=11∨F=13) (h:(decide (E=8)=decide (F=8))∧(E=0→F=0)∧(E=13→F=13)∧(decide (E=1)=decide (F=1))) :
  (E=1∧F=1)∨(E=8∧F=8)∨(E=0∧F=0)∨(E=13∧F=13)∨(E=11∧F=11)∨(E=11∧F=0)∨(E=11∧F=13):=by
 obtain ⟨h1,h2,h3,h4⟩:=h
 rcases hE with rfl | rfl | rfl | rfl | rfl<;>rcases hF with rfl | rfl | rfl | rfl | rfl<;>simp_all
set_option maxRecDepth 100000 in
set_option maxHeartbeats 8000000 in
theorem qtypes_any (q:QryD) (a:Option Addr) (cap:Nat) (v:Value) (l:List ObjD) (vm:Value) (more:List ObjD) (w:World) (hc:CondIs w q.wher a) (hi:q.id.size≤140737488355328) (hkey:q.key.size≤140737488355328) (hp:q.prof.size≤140737488355328) (hv:ObjsIs w v l) (hm:ObjsIs w vm more) (he:Env w) :
  Calls Tryz.prog 7 #[.agg (qryC q a cap),.agg #[v],vm] w fun e w'=>e=.returned (.bool true)∧Below w.heap.size w w':=by
 have b2:=((Below.refl w.heap.size w).alloc (Nat.le_refl _) (.cells (qryC q a cap) 28)).alloc (by simp) (.cells #[v] 62)
 have rq:=row_past (o':=.cells #[v] 62) (row_new w (.cells (qryC q a cap) 28))
 have rm:=row_new1 w (.cells (qryC q a cap) 28) (.cells #[v] 62)
 obtain ⟨w0,hw0⟩:∃w0,(w.alloc (.cells (qryC q a cap) 28)).alloc (.cells #[v] 62)=w0:=⟨_,rfl⟩
 rw [hw0] at b2 rq rm
 have HW:=Lib.hid hw0
 have RQ0:=Lib.hid rq
 have RM0:=Lib.hid rm
 have B0:=Lib.hid b2
 have HD:=Lib.hid (head_any w0 (he.later b2))
 have FQ:=Lib.hid (fun g W (hb:Below w.heap.size w W) hr=>fewQ_any q a cap g W (hc.later hb) hr)
 have F25:=Lib.hid (fun W (hb:Below w.heap.size w W)=>few12_25 v l W (hv.later hb))
 have F10:=Lib.hid (fun W (hb:Below w.heap.size w W)=>few12_10 vm more W (hm.later hb))
 have CH:=Lib.hid (fun vn L W (hb:Below w.heap.size w W) hn=>check_any q a cap vn L W (hc.later hb) hi hkey hp hn)
 obtain ⟨M0,hM0,hvM⟩:=ObjsM.of_is hv
 obtain ⟨m2,hm2,hmM⟩:=ObjsM.of_is hm
 have HVM:=Lib.hid hvM
 have HMM:=Lib.hid hmM
 have HL:=Lib.hid hM0
 have HM:=Lib.hid hm2
 have HV:=Lib.hid hv
 have hmx:Tryz.prog.follows .mixedOrders=true:=by kernel_rfl
 obtain ⟨ta,tc,hvs⟩:∃a c,v=.slice a l.length c:=by obtain ⟨a,c,e,_⟩:=hv;exact ⟨a,c,e⟩
 obtain ⟨ma,mc,hms⟩:∃a c,vm=.slice a more.length c:=by obtain ⟨a,c,e,_⟩:=hm;exact ⟨a,c,e⟩
 clear hc hi hkey hp hv hm he b2 rq rm hw0 hvM hmM hM0 hm2
 subst hvs hms
 obtain ⟨K,hK⟩:∃K,more.length=K:=⟨_,rfl⟩
 have HK:=Lib.hid hK
 rw [hK] at F10 HMM ⊢
 clear hK
 go_enter Tryz.func7,Tryz.ntmps7
 go_wp2_with fail
 rw [HW.out]
 refine HD.out.mono ?_
 rintro e w1 ⟨rfl,hb⟩
 have RQ1:=Lib.hid (row_later hb RQ0.out)
 have RM1:=Lib.hid (row_later hb RM0.out)
 have B1:=Lib.hid (below_step B0.out (Nat.le_refl _) hb)
 clear hb RQ0 RM0 B0
 clear HD HW
 have xz:=lt_of_block RQ1.out
 have x0:=cell_of_row w1 _ 0 _ _ _ RQ1.out
 have x1:=cell_of_row w1 _ 1 _ _ _ RQ1.out
 have x2:=cell_of_row w1 _ 2 _ _ _ RQ1.out
 have x3:=cell_of_row w1 _ 3 _ _ _ RQ1.out
 have x4:=cell_of_row w1 _ 4 _ _ _ RQ1.out
 have x5:=cell_of_row w1 _ 5 _ _ _ RQ1.out
 have x6:=cell_of_row w1 _ 6 _ _ _ RQ1.out
 have x7:=cell_of_row w1 _ 7 _ _ _ RQ1.out
 have x8:=cell_of_row w1 _ 8 _ _ _ RQ1.out
 have x9:=cell_of_row w1 _ 9 _ _ _ RQ1.out
 have x10:=cell_of_row w1 _ 10 _ _ _ RQ1.out
 have x11:=cell_of_row w1 _ 11 _ _ _ RQ1.out
 have x12:=cell_of_row w1 _ 12 _ _ _ RQ1.out
 have x13:=cell_of_row w1 _ 13 _ _ _ RQ1.out
 simp only [List.getElem?_toArray,List.getElem?_cons_zero,List.getElem?_cons_succ] at x0 x1 x2 x3 x4 x5 x6 x7 x8 x9 x10 x11 x12 x13
 go_wp2_with fail
 have ba:=(Below.refl w1.heap.size w1).alloc (Nat.le_refl _) (.cells (qryC q a cap) 28)
 refine (FQ.out w1.heap.size (w1.alloc (.cells (qryC q a cap) 28)) (below_step B1.out (Nat.le_refl _) ba) (row_new _ _)).mono ?_
 rintro e w2 ⟨fb,rfl,hb9⟩
 have hb:=below_step ba (Nat.le_refl _) hb9
 clear hb9 ba
 have RQ2:=Lib.hid (row_later hb RQ1.out)
 have RM2:=Lib.hid (row_later hb RM1.out)
 have B2:=Lib.hid (below_step B1.out (Nat.le_refl _) hb)
 clear hb RQ1 RM1 B1
 clear FQ
 clear x0 x1 x2 x3 x4 x5 x6 x7 x8 x9 x10 x11 x12 x13 xz
 cases fb
 case false =>
  go_wp2
  go_ret
  exact ⟨rfl,B2.out⟩
 obtain ⟨xz,x0⟩:=rk1 RM2.out
 go_wp2_with fail
 refine (F25.out _ B2.out).mono ?_
 rintro e w3 ⟨⟨fm,rfl,hfm⟩,hb⟩
 have HF:=Lib.hid hfm
 have RQ3:=Lib.hid (row_later hb RQ2.out)
 have RM3:=Lib.hid (row_later hb RM2.out)
 have B3:=Lib.hid (below_step B2.out (Nat.le_refl _) hb)
 clear hb RQ2 RM2 B2
 clear hfm F25
 clear x0 xz
 cases fm
 case false =>
  go_wp2
  go_ret
  exact ⟨rfl,B3.out⟩
 go_wp2_with fail
 refine (F10.out _ B3.out).mono ?_
 rintro e w4 ⟨⟨fn,rfl,hfn⟩,hb⟩
 have HG:=Lib.hid hfn
 have RQ4:=Lib.hid (row_later hb RQ3.out)
 have RM4:=Lib.hid (row_later hb RM3.out)
 have B4:=Lib.hid (below_step B3.out (Nat.le_refl _) hb)
 clear hb RQ3 RM3 B3
 clear hfn F10
 cases fn
 case false =>
  go_wp2
  go_ret
  exact ⟨rfl,B4.out⟩
 have hl25:l.length≤25:=by first | exact HF.out trivial | exact HF.out rfl
 have hK10:K≤10:=by rw [←HK.out];first | exact HG.out trivial | exact HG.out rfl
 clear HF HG
 have ba:=(Below.refl w4.heap.size w4).alloc (Nat.le_refl _) (.cells #[.slice ta l.length tc] 62)
 have rn:=row_new w4 (.cells #[.slice ta l.length tc] 62)
 have hz1:w.heap.size+1<w4.heap.size:=lt_of_block RM4.out
 have z5:(w4.alloc (.cells #[.slice ta l.length tc] 62)).heap.size=w4.heap.size+1:=by simp
 obtain ⟨xz,x0⟩:=rk1 RM4.out
 go_wp2_with fail
 generalize hw5:w4.alloc (.cells #[.slice ta l.length tc] 62)=w5
 rw [hw5] at ba rn z5
 obtain ⟨z,hz⟩:∃z,w4.heap.size=z:=⟨_,rfl⟩
 have TI:=Lib.hid (show TyI w w4.heap.size (w4.heap.size+1) (.slice ta l.length tc) M0 q a cap (.slice ta l.length tc) M0 w5 from ⟨below_step B4.out (Nat.le_refl _) ba,row_later ba RQ4.out,row_later ba RM4.out,rn,by omega,.inl ⟨rfl,rfl⟩⟩)
 clear ba rn z5 hw5
 clear x0 xz
 rw [hz] at TI hz1 ⊢
 obtain ⟨N1,hN1⟩:∃N1,z+1=N1:=⟨_,rfl⟩
 rw [hN1] at TI
 have hzN:z<N1:=by omega
 clear hz hN1 RQ4 RM4 B4
 have hM0l:M0.length=l.length:=by have:=congrArg List.length HL.out;rw [List.length_map] at this;exact this
 have hm2l:m2.length=K:=by have:=congrArg List.length HM.out;rw [List.length_map,HK.out] at this;exact this
 go_loopw [9] (fun i wr=>∃(k:Nat) (vn:Value) (M:List ObQ),k≤K∧i=.int .i64 k∧M.map (·.1)=(more.take k).foldl addOne l∧M.length≤l.length+k∧TyI w z N1 (.slice ta l.length tc) M0 q a cap vn M wr) (fun i _=>K - (intOf i).toNat)
 case atStart=>exact ⟨0,_,M0,by omega,rfl,HL.out,by omega,TI.out⟩
 case round =>
  obtain ⟨k,vn,M,hk,rfl,hmp,hml,hti⟩:=hrel
  have HTI:=Lib.hid hti
  obtain ⟨L,hL⟩:∃L,(more.take k).foldl addOne l=L:=⟨_,rfl⟩
  rw [hL] at hmp
  have HMP:=Lib.hid hmp
  have HLE:=Lib.hid hL
  have HOM:=Lib.hid (hti.map.objs HVM.out (by omega) hti.low)
  have HOB:=Lib.hid (show ObjsIs wr vn L by rw [←hmp];exact HOM.out.is hti.low)
  clear hti hmp hL TI
  by_cases hlt:k<K
  ·obtain ⟨⟨x,xr,xt⟩,hx⟩:∃x,m2[k]?=some x:=⟨m2[k]'(by rw [hm2l];exact hlt),List.getElem?_eq_getElem _⟩
   have hxm:more[k]?=some x:=by rw [←HM.out,List.getElem?_map,hx];rfl
   have HSN:=Lib.hid (show (more.take (k+1)).foldl addOne l=addOne L x by
    obtain ⟨hk',e9⟩:=List.getElem?_eq_some_iff.1 hxm
    rw [List.take_succ_eq_append_getElem hk',List.foldl_append,HLE.out,e9];rfl)
   obtain ⟨a1,c1,e1,hn1,hc1,hk1⟩:=HMM.out
   injection e1 with e2 e3 e4
   subst e2 e4
   obtain ⟨b,off,ha,hcell⟩:=hc1 (by omega)
   subst ha
   have HOK:=Lib.hid (hk1 _ (List.mem_of_getElem? hx))
   have C0:=Lib.hid (hcell _ _ (flatQ_at m2 k _ hx 0 _ rfl))
   have C1:=Lib.hid (hcell _ _ (flatQ_at m2 k _ hx 1 _ rfl))
   have C2:=Lib.hid (hcell _ _ (flatQ_at m2 k _ hx 2 _ rfl))
   have C3:=Lib.hid (hcell _ _ (flatQ_at m2 k _ hx 3 _ rfl))
   have C4:=Lib.hid (hcell _ _ (flatQ_at m2 k _ hx 4 _ rfl))
   have C5:=Lib.hid (hcell _ _ (flatQ_at m2 k _ hx 5 _ rfl))
   rw [←Nat.add_assoc] at C0 C1 C2 C3 C4 C5
   rw [Nat.add_zero] at C0
   clear hcell hc1 hk1 e3 hn1 hx hxm
   have FN:=Lib.hid (fun W (hb:Below wr.heap.size wr W)=>rfind12_any vn L x.id W (HOB.out.later hb))
   have VO:=Lib.hid (fun W (hb:Below wr.heap.size wr W)=>rvalidO_any x.id x.kind x.x x.y xr xt x.refs x.tags W HOK.out.2.2 ((HOK.out.later (below_step HTI.out.low (Nat.le_refl _) hb)).1) ((HOK.out.later (below_step HTI.out.low (Nat.le_refl _) hb)).2.1))
   have HRN:=Lib.hid HTI.out.rn
   have d0:=cell_later HTI.out.low C0.out
   have d1:=cell_later HTI.out.low C1.out
   have d2:=cell_later HTI.out.low C2.out
   have d3:=cell_later HTI.out.low C3.out
   have d4:=cell_later HTI.out.low C4.out
   have d5:=cell_later HTI.out.low C5.out
   have dN:decide ((k:Int)<K)=true:=decide_eq_true (by omega)
   cases hpo:posO x.id L with
   |some i =>
    have HAD:=Lib.hid (show addOne L x=L by unfold addOne;rw [hpo];rfl)
    rw [idx_some hpo] at FN
    have di:decide ((i:Int)<0)=false:=decide_eq_false (by omega)
    clear hpo
    obtain ⟨nz,n0⟩:=rk1 HRN.out
    go_wp2
    have kn0:=cell_belowBy n0
    have kc0:=cell_belowBy d0
    have kc1:=cell_belowBy d1
    have kc2:=cell_belowBy d2
    have kc3:=cell_belowBy d3
    have kc4:=cell_belowBy d4
    have kc5:=cell_belowBy d5
    have bz:=lt_of_cell d0
    clear n0 d0 d1 d2 d3 d4 d5
    refine wp_region_quiet_below (by assumption) (by kernel_rfl) ?_
    repeat (go_big_quiet_step (first | (go_at_call 25;exact calls_belowBy (FN.out _ (BelowBy.below _))) | (go_at_call 26;exact calls_belowBy (VO.out _ (BelowBy.below _)))))
    refine wpQuiet_nil ?_
    intro w6 hw'
    obtain ⟨⟨w7,hb7⟩,hw''⟩:=hw'
    subst hw''
    have T6:=Lib.hid (TyI.stable w z N1 (.slice ta l.length tc) M0 q a cap vn M _ _ HTI.out hb7)
    clear kn0 kc0 kc1 kc2 kc3 kc4 kc5 FN VO
    go_wp2
    go_roundw
    case rel=>exact ⟨k+1,vn,M,by omega,by go_num,by rw [HSN.out,HAD.out];exact HMP.out,by omega,T6.out⟩
    case measure=>simp [intOf];omega
   |none =>
    rw [idx_none hpo] at FN
    cases hok:objOK ⟨x.id,x.kind,x.x,x.y,x.refs,x.tags⟩
    ·rw [hok] at VO
     have HAD:=Lib.hid (show addOne L x=L by unfold addOne;rw [hpo,show objOK x=false from hok];rfl)
     clear hpo hok
     obtain ⟨nz,n0⟩:=rk1 HRN.out
     go_wp2
     have kn0:=cell_belowBy n0
     have kc0:=cell_belowBy d0
     have kc1:=cell_belowBy d1
     have kc2:=cell_belowBy d2
     have kc3:=cell_belowBy d3
     have kc4:=cell_belowBy d4
     have kc5:=cell_belowBy d5
     have bz:=lt_of_cell d0
     clear n0 d0 d1 d2 d3 d4 d5
     refine wp_region_quiet_below (by assumption) (by kernel_rfl) ?_
     repeat (go_big_quiet_step (first | (go_at_call 25;exact calls_belowBy (FN.out _ (BelowBy.below _))) | (go_at_call 26;exact calls_belowBy (VO.out _ (BelowBy.below _)))))
     refine wpQuiet_nil ?_
     intro w6 hw'
     obtain ⟨⟨w7,hb7⟩,hw''⟩:=hw'
     subst hw''
     have T6:=Lib.hid (TyI.stable w z N1 (.slice ta l.length tc) M0 q a cap vn M _ _ HTI.out hb7)
     clear kn0 kc0 kc1 kc2 kc3 kc4 kc5 FN VO
     go_wp2
     go_roundw
     case rel=>exact ⟨k+1,vn,M,by omega,by go_num,by rw [HSN.out,HAD.out];exact HMP.out,by omega,T6.out⟩
     case measure=>simp [intOf];omega
    ·rw [hok] at VO
     have HAD:=Lib.hid (show addOne L x=insP x L by unfold addOne;rw [hpo,show objOK x=true from hok];rfl)
     have HNO:=Lib.hid (show ∀y∈M,y.1.id≠x.id from fun y hy=>posO_none x.id L hpo y.1 (by rw [←HMP.out];exact List.mem_map.2 ⟨y,hy,rfl⟩))
     clear hpo hok
     obtain ⟨nz,n0⟩:=rk1 HRN.out
     go_wp2
     have kn0:=cell_belowBy n0
     have kc0:=cell_belowBy d0
     have kc1:=cell_belowBy d1
     have kc2:=cell_belowBy d2
     have kc3:=cell_belowBy d3
     have kc4:=cell_belowBy d4
     have kc5:=cell_belowBy d5
     have bz:=lt_of_cell d0
     clear n0 d0 d1 d2 d3 d4 d5
     refine wp_region_quiet_below (by assumption) (by kernel_rfl) ?_
     repeat (go_big_quiet_step (first | (go_at_call 25;exact calls_belowBy (FN.out _ (BelowBy.below _))) | (go_at_call 26;exact calls_belowBy (VO.out _ (BelowBy.below _)))))
     refine wpQuiet_nil ?_
     intro w6 hw'
     obtain ⟨⟨w7,hb7⟩,hw''⟩:=hw'
     subst hw''
     have T6:=Lib.hid (TyI.stable w z N1 (.slice ta l.length tc) M0 q a cap vn M _ _ HTI.out hb7)
     clear kn0 kc0 kc1 kc2 kc3 kc4 kc5 FN VO
     go_wp2
     have hst:=StableW.below w6.heap.size w6 (Nat.le_refl _)
     have hMl:M.length≤1000:=by omega
     have WT:=Lib.hid (fun W (hb:Below w6.heap.size w6 W)=>with_any vn M x xr xt w W ((T6.out.map.objs HVM.out hMl T6.out.low).later hb) hMl HOK.out HNO.out)
     have h10:∀W,Below w6.heap.size w6 W→Below w.heap.size w W:=fun W h=>below_step T6.out.low (Nat.le_refl _) h
     refine wp_region_nodes 0 7 (fun W=>Below w.heap.size w W) (fun W=>Below w6.heap.size w6 W) hmx (by kernel_rfl) (by kernel_rfl) (by kernel_rfl) hst h10 (Below.refl _ _).drew (by kernel_rfl) ?_
     apply Exists.intro
     refine ⟨fun W hW=>?_,?_⟩
     ·simp only [List.take_zero]
      exact wpQuiet_nil rfl
     refine node_quiet 1 (some 52) (.slice (some ⟨b,off,none⟩) K mc) rfl rfl hst h10 (by kernel_rfl) (by kernel_rfl) (by kernel_rfl) rfl (QuietB.pure fun w=>(by go_simp)) ?_
     simp only [Act.put,List.setIfInBounds_toArray,List.set_cons_succ,List.set_cons_zero]
     refine node_quiet 2 (some 53) (.int .i64 k) rfl rfl hst h10 (by kernel_rfl) (by kernel_rfl) (by kernel_rfl) rfl (QuietB.pure fun w=>(by go_simp)) ?_
     simp only [Act.put,List.setIfInBounds_toArray,List.set_cons_succ,List.set_cons_zero]
     refine node_quiet 3 (some 54) (.pointer (some ⟨b,off+k * 6,none⟩)) rfl rfl hst h10 (by kernel_rfl) (by kernel_rfl) (by kernel_rfl) rfl (QuietB.pure fun w=>(by go_simp)) ?_
     simp only [Act.put,List.setIfInBounds_toArray,List.set_cons_succ,List.set_cons_zero]
     refine node_quiet 4 (some 55) (.agg #[.string x.id,.int .i64 x.kind,.int .i64 x.x,.int .i64 x.y,xr,xt]) rfl rfl hst h10 (by kernel_rfl) (by kernel_rfl) (by kernel_rfl) rfl (QuietB.at' fun W hW=>(by
      have d0:=cell_later hW C0.out
      have d1:=cell_later hW C1.out
      have d2:=cell_later hW C2.out
      have d3:=cell_later hW C3.out
      have d4:=cell_later hW C4.out
      have d5:=cell_later hW C5.out
      have bz:=lt_of_cell d0
      clear hW
      go_simp)) ?_
     simp only [Act.put,List.setIfInBounds_toArray,List.set_cons_succ,List.set_cons_zero]
     refine any_one 0 (by kernel_rfl) rfl rfl ?_
     refine LoudB.mkD (some 51) (ι:=Unit) (fun _=>.agg #[vn]) (fun _=>fun W=>Below w6.heap.size w6 W) rfl (fun _=>hst) (fun _ W d=>h10 W d) (fun W hS K' hK'=>?_) (fun _=>?_)
     ·have hK2:=hK' () _ hS
      have HWn:=Lib.hid (row_later hS T6.out.rn)
      clear hS hK'
      obtain ⟨nz,n0⟩:=rk1 HWn.out
      go_simp
      exact hK2
     simp only [Act.put,List.setIfInBounds_toArray,List.set_cons_succ,List.set_cons_zero]
     refine any_one 5 (by kernel_rfl) rfl rfl ?_
     refine LoudB.mkD (some 56) (ι:=Value × Nat) (fun p=>.agg #[p.1]) (fun p=>fun W=>Below w6.heap.size w6 W∧(W.ownsRow N1 50 6 p.1 (M.take p.2++(x,xr,xt) :: M.drop p.2).length ((M.take p.2++(x,xr,xt) :: M.drop p.2).flatMap encQ)∧(M.take p.2++(x,xr,xt) :: M.drop p.2).map (·.1)=insP x L)) rfl (fun p=>hst.and ((StableW.owns _ _ _ _ _ _).and (StableW.const _))) (fun _ W d=>h10 W d.1) (fun W hS K' hK'=>?_) (fun p=>?_)
     ·have hbig:N1≤W.heap.size:=Nat.le_trans T6.out.big hS.size
      have hW9:=WT.out W hS
      go_simp
      refine hW9.mono ?_
      rintro e w' ⟨v',kk,rfl,how,hmap,hb'⟩
      exact hK' (v',kk) _ ⟨below_step hS (Nat.le_refl _) hb',own_base how hbig,hmap.trans (by rw [HMP.out])⟩
     obtain ⟨v',kk⟩:=p
     simp only [Act.put,List.setIfInBounds_toArray,List.set_cons_succ,List.set_cons_zero]
     refine any_one 6 (by kernel_rfl) rfl rfl ?_
     refine LoudB.mkD none (ι:=Unit) (fun _=>undef) (fun _=>fun W=>TyI w z N1 (.slice ta l.length tc) M0 q a cap v' (M.take kk++(x,xr,xt) :: M.drop kk) W∧(M.take kk++(x,xr,xt) :: M.drop kk).map (·.1)=insP x L) rfl (fun _=>(TyI.stable _ _ _ _ _ _ _ _ _ _).and (StableW.const _)) (fun _ W d=>d.1.low) (fun W hS K' hK'=>?_) (fun _=>?_)
     ·obtain ⟨hS1,hS2,hS3⟩:=hS
      obtain ⟨av,cv,hv9⟩:=own_form hS2
      subst hv9
      have TW:=TyI.stable w z N1 (.slice ta l.length tc) M0 q a cap vn M _ _ T6.out hS1
      have HWn:=Lib.hid TW.rn
      have hK2:=hK' () _ ⟨TW.store hz1 hzN hS2 (fun y hy=>by
       have hM:∀y∈M,okQ w y:=by obtain ⟨_,_,_,_,_,h⟩:=T6.out.map.objs HVM.out hMl T6.out.low;exact h
       rcases List.mem_append.1 hy with h | h
       ·exact hM y (List.mem_of_mem_take h)
       ·rcases List.mem_cons.1 h with h | h
        ·rw [h];exact HOK.out
        ·exact hM y (List.mem_of_mem_drop h)),hS3⟩
      clear hS1 hS2 hS3 TW hK'
      simp only [List.length_append,List.length_cons,List.length_take,List.length_drop] at hK2
      obtain ⟨nz,n0⟩:=rk1 HWn.out
      have nf0:=frozen_of_row W _ 0 _ _ HWn.out
      go_simp
      exact hK2
     simp only [Act.put]
     refine any_end (by kernel_rfl) fun w8 hw8=>?_
     have T8:=Lib.hid hw8.1
     have HMP2:=Lib.hid (hw8.2.trans HAD.out.symm)
     clear hw8
     go_wp2
     go_roundw
     case rel=>exact ⟨k+1,v',M.take kk++(x,xr,xt) :: M.drop kk,by omega,by go_num,by rw [HSN.out];exact HMP2.out,by rw [List.length_append,List.length_cons,List.length_take,List.length_drop];omega,T8.out⟩
     case measure=>simp [intOf];omega
  ·have hkK:K≤k:=by omega
   have HLL:more.foldl addOne l=L:=by rw [←HLE.out,List.take_of_length_le (by rw [HK.out];omega)]
   have hlaw:(decide (checkP 13 q l=8)=decide (checkP 13 q (more.foldl addOne l)=8))∧(checkP 13 q l=0→checkP 13 q (more.foldl addOne l)=0)∧(checkP 13 q l=13→checkP 13 q (more.foldl addOne l)=13)∧(decide (checkP 13 q l=1)=decide (checkP 13 q (more.foldl addOne l)=1)):=types_law 13 (by decide) q l more (by rw [HK.out];omega)
   rw [HLL] at hlaw
   have LAW:=Lib.hid (law_vals (checkP_vals q l) (checkP_vals q L) hlaw)
   have dN:decide ((k:Int)<K)=false:=decide_eq_false (by omega)
   have C1:=Lib.hid (fun W (hb:Below wr.heap.size wr W)=>CH.out (.slice ta l.length tc) l W (below_step HTI.out.low (Nat.le_refl _) hb) (HV.out.later (below_step HTI.out.low (Nat.le_refl _) hb)))
   have C2:=Lib.hid (fun W (hb:Below wr.heap.size wr W)=>CH.out vn L W (below_step HTI.out.low (Nat.le_refl _) hb) (HOB.out.later hb))
   obtain ⟨E,hE⟩:∃E,checkP 13 q l=E:=⟨_,rfl⟩
   obtain ⟨F,hF⟩:∃F,checkP 13 q L=F:=⟨_,rfl⟩
   rw [hE] at C1
   rw [hF] at C2
   rw [hE,hF] at LAW
   have LW:=Lib.hid HTI.out.low
   have HQx:=Lib.hid HTI.out.rq
   have HMx:=Lib.hid HTI.out.rm
   have HNx:=Lib.hid HTI.out.rn
   clear hE hF hlaw HLL hkK CH HV HOB HOM HTI HMP HLE
   have xz:=lt_of_block HQx.out
   have x0:=cell_of_row wr _ 0 _ _ _ HQx.out
   have x1:=cell_of_row wr _ 1 _ _ _ HQx.out
   have x2:=cell_of_row wr _ 2 _ _ _ HQx.out
   have x3:=cell_of_row wr _ 3 _ _ _ HQx.out
   have x4:=cell_of_row wr _ 4 _ _ _ HQx.out
   have x5:=cell_of_row wr _ 5 _ _ _ HQx.out
   have x6:=cell_of_row wr _ 6 _ _ _ HQx.out
   have x7:=cell_of_row wr _ 7 _ _ _ HQx.out
   have x8:=cell_of_row wr _ 8 _ _ _ HQx.out
   have x9:=cell_of_row wr _ 9 _ _ _ HQx.out
   have x10:=cell_of_row wr _ 10 _ _ _ HQx.out
   have x11:=cell_of_row wr _ 11 _ _ _ HQx.out
   have x12:=cell_of_row wr _ 12 _ _ _ HQx.out
   have x13:=cell_of_row wr _ 13 _ _ _ HQx.out
   simp only [List.getElem?_toArray,List.getElem?_cons_zero,List.getElem?_cons_succ] at x0 x1 x2 x3 x4 x5 x6 x7 x8 x9 x10 x11 x12 x13
   obtain ⟨mz,m0⟩:=rk1 HMx.out
   obtain ⟨nz,n0⟩:=rk1 HNx.out
   go_wp2
   have kx0:=cell_belowBy x0
   have kx1:=cell_belowBy x1
   have kx2:=cell_belowBy x2
   have kx3:=cell_belowBy x3
   have kx4:=cell_belowBy x4
   have kx5:=cell_belowBy x5
   have kx6:=cell_belowBy x6
   have kx7:=cell_belowBy x7
   have kx8:=cell_belowBy x8
   have kx9:=cell_belowBy x9
   have kx10:=cell_belowBy x10
   have kx11:=cell_belowBy x11
   have kx12:=cell_belowBy x12
   have kx13:=cell_belowBy x13
   have km0:=cell_belowBy m0
   have kn0:=cell_belowBy n0
   clear x0 x1 x2 x3 x4 x5 x6 x7 x8 x9 x10 x11 x12 x13 m0 n0
   refine wp_region_quiet_below (by assumption) (by kernel_rfl) ?_
   repeat (go_big_quiet_step (first | (go_at_call 28;first | with_reducible exact calls_belowBy (C1.out _ (BelowBy.below _)) | with_reducible exact calls_belowBy (C2.out _ (BelowBy.below _)))))
   refine wpQuiet_nil ?_
   intro w6 hw'
   obtain ⟨⟨w7,hb7⟩,hw''⟩:=hw'
   subst hw''
   have B7:=below_step LW.out (Nat.le_refl _) hb7
   clear hb7 C1 C2 km0 kn0 kx0 kx1 kx2 kx3 kx4 kx5 kx6 kx7 kx8 kx9 kx10 kx11 kx12 kx13
   rcases LAW.out with ⟨e1,e2⟩ | ⟨e1,e2⟩ | ⟨e1,e2⟩ | ⟨e1,e2⟩ | ⟨e1,e2⟩ | ⟨e1,e2⟩ | ⟨e1,e2⟩
   all_goals
    subst e1 e2
    go_wp2
    go_ret
    exact ⟨rfl,B7⟩
end Go.Proofs.YtdfenhjibnfdeaaGreatDoor
