/-  -/
import Derived.Test.YtdfenhjibnfdeaaGreatDoorQzAx
namespace Go.Proofs.YtdfenhjibnfdeaaGreatDoor
open Go.RowKit Go.Shelf
theorem ltB_bl {a b:ByteArray} {r:Bool} (h:ltB a b=r):Op.bytesLess a.toList b.toList=r:=h
theorem own_capI {w:World} {base size n:Nat} {e:TypeId} {ao:Option Addr} {m c:Nat} {xs:List Value} (h:w.ownsRow base e size (.slice ao m c) n xs):m=n∧n≤c:=by
 rcases h.2 with ⟨h1,h2⟩ | ⟨g,cap,cur,h1,_,_,h2,_⟩
 ·injection h1 with a b d;subst b d;omega
 ·injection h1 with a b d;subst b d;exact ⟨rfl,h2⟩
theorem src_own {w:World} {base size n c:Nat} {e:TypeId} {ao:Option Addr} {xs:List Value} (h:w.ownsRow base e size (.slice ao n c) n xs):SrcRow w (.slice ao n c) n xs:=by
 have hc:=fun g=>World.ownsRow.cells h (g:=g)
 rcases h.2 with ⟨e1,h1⟩ | ⟨g,cap,cur,e1,_⟩
 ·exact ⟨ao,c,rfl,Or.inl h1⟩
 ·injection e1 with e2 e3 e4
  subst e2
  exact ⟨_,c,rfl,Or.inr ⟨_,rfl,hc g rfl⟩⟩
theorem own_blockI {w:World} {base size n:Nat} {e:TypeId} {v:Value} {xs:List Value} (h:w.ownsRow base e size v n xs) (j:Nat) (hj:v.ownBlock=some j):base≤j:=(h.lt j hj).1
set_option maxRecDepth 100000 in
set_option maxHeartbeats 8000000 in
theorem with_any (v:Value) (M:List ObQ) (o:ObjD) (vr vt:Value) (w0 w:World) (hv:ObjsM w0 w v M) (hl:M.length≤1000) (ho:okQ w0 (o,vr,vt)) (hno:∀x∈M,x.1.id≠o.id) :
  Calls Tryz.prog 27 #[.agg #[v],.agg #[.string o.id,.int .i64 o.kind,.int .i64 o.x,.int .i64 o.y,vr,vt]] w fun e w'=>∃(v':Value) (k:Nat),e=.returned (.agg #[v'])∧w'.ownsRow w.heap.size 50 6 v' (M.take k++(o,vr,vt) :: M.drop k).length ((M.take k++(o,vr,vt) :: M.drop k).flatMap encQ)∧(M.take k++(o,vr,vt) :: M.drop k).map (·.1)=insP o (M.map (·.1))∧Below w.heap.size w w':=by
 have b1:=(((Below.refl w.heap.size w).alloc (Nat.le_refl _) (.cells #[v] 62)).alloc (by simp) (.cells #[.string o.id,.int .i64 o.kind,.int .i64 o.x,.int .i64 o.y,vr,vt] 50)).alloc (by simp;omega) (.cells #[.slice none 0 0] 62)
 have g2:=row_past (o':=.cells #[.slice none 0 0] 62) (row_past (o':=.cells #[.string o.id,.int .i64 o.kind,.int .i64 o.x,.int .i64 o.y,vr,vt] 50) (row_new w (.cells #[v] 62)))
 have g3:=row_past (o':=.cells #[.slice none 0 0] 62) (row_new1 w (.cells #[v] 62) (.cells #[.string o.id,.int .i64 o.kind,.int .i64 o.x,.int .i64 o.y,vr,vt] 50))
 have g4:=row_new2 w (.cells #[v] 62) (.cells #[.string o.id,.int .i64 o.kind,.int .i64 o.x,.int .i64 o.y,vr,vt] 50) (.cells #[.slice none 0 0] 62)
 obtain ⟨w1,hw1⟩:∃z,((w.alloc (.cells #[v] 62)).alloc (.cells #[.string o.id,.int .i64 o.kind,.int .i64 o.x,.int .i64 o.y,vr,vt] 50)).alloc (.cells #[.slice none 0 0] 62)=z:=⟨_,rfl⟩
 rw [hw1] at b1 g2 g3 g4
 have HW:=Lib.hid hw1
 have WO:=Lib.hid (wout_any v M o.id w0 w1 (hv.later b1) hl hno)
 have hz1:w.heap.size+2<w1.heap.size:=lt_of_block g4
 have G2:=Lib.hid g2
 have G3:=Lib.hid g3
 have G4:=Lib.hid g4
 have B1:=Lib.hid b1
 have HOK:=Lib.hid ho
 obtain ⟨l,hlm⟩:∃l,M.map (·.1)=l:=⟨_,rfl⟩
 obtain ⟨N,hml⟩:∃N,M.length=N:=⟨_,rfl⟩
 rw [hml] at hl WO
 have HN:=Lib.hid (show l.length=N by rw [←hlm,List.length_map];exact hml)
 have HMP:=Lib.hid hlm
 have HKS:=Lib.hid (show ∀x∈M,okQ w0 x by obtain ⟨_,_,_,_,_,h⟩:=hv;exact h)
 rw [hlm]
 obtain ⟨i0,hi,hi0,hi1,hi2⟩:=info_parts infoObQ
 have hmx:Tryz.prog.follows .mixedOrders=true:=by kernel_rfl
 obtain ⟨av,nv,cv,hvs⟩:∃a n c,v=.slice a n c:=by obtain ⟨a,c,e,_⟩:=hv;exact ⟨a,_,c,e⟩
 subst hvs
 clear hw1 b1 g2 g3 g4 hv hno ho hlm
 go_enter Tryz.func27,Tryz.ntmps27
 go_wp2_with fail
 rw [HW.out]
 refine WO.out.mono ?_
 rintro e w2 ⟨v',rfl,how,hb⟩
 obtain ⟨ao,c,hv'⟩:=own_form how
 subst hv'
 have z2:=hb.size
 have r2:=row_set (i:=0) (v:=.slice ao N c) (row_later hb G2.out)
 have r3:=row_set_other (a:=⟨w.heap.size,0,none⟩) (v:=.slice ao N c) (row_later hb G3.out) (by simp only;omega)
 have r4:=row_set_other (a:=⟨w.heap.size,0,none⟩) (v:=.slice ao N c) (row_later hb G4.out) (by simp only;omega)
 have ow:=own_setW how (p:=⟨w.heap.size,0,none⟩) (by simp only;omega) (.slice ao N c)
 have lo:=(below_step B1.out (Nat.le_refl _) hb).setCell (p:=⟨w.heap.size,0,none⟩) (by simp only;omega) (.slice ao N c)
 have G22:=Lib.hid (row_later hb G2.out)
 obtain ⟨mz,m0⟩:=rk1 G22.out
 have mf0:=frozen_of_row w2 _ 0 _ _ G22.out
 go_wp2_with fail
 generalize hw3:w2.setCell ⟨w.heap.size,0,none⟩ (.slice ao N c)=w3
 rw [hw3] at r2 r3 r4 ow lo
 clear hw3
 have G2:=Lib.hid (show w3.heap[w.heap.size]?=some (.cells #[.slice ao N c] 62 (0,0)) from r2)
 have G3:=Lib.hid r3
 have G4:=Lib.hid r4
 have OW:=Lib.hid ow
 have LO:=Lib.hid lo
 clear r2 r3 r4 ow lo how hb B1 HW WO z2
 clear m0 mz mf0
 have hc9:=fun g=>World.ownsRow.cells OW.out (g:=g)
 have HC9:=Lib.hid hc9
 clear hc9
 go_loopw [5] (fun i wr=>∃k:Nat,k≤N∧i=.int .i64 k∧(∀(j:Nat) (y:ObjD),j<k→l[j]?=some y→ltB y.id o.id=true)∧Below w3.heap.size w3 wr) (fun i _=>N - (intOf i).toNat)
 case atStart=>exact ⟨0,by omega,rfl,(fun j y h _=>by omega),Below.refl _ _⟩
 case round =>
  obtain ⟨k,hk,rfl,hlo,hbr⟩:=hrel
  have HLT:=Lib.hid hlo
  have R2:=Lib.hid (row_later hbr G2.out)
  have R3:=Lib.hid (row_later hbr G3.out)
  clear hlo
  by_cases hlt:k<N
  ·obtain ⟨x,hx⟩:∃x,M[k]?=some x:=⟨M[k]'(by rw [hml];exact hlt),List.getElem?_eq_getElem _⟩
   have hlx:l[k]?=some x.1:=by rw [←HMP.out,List.getElem?_map,hx];rfl
   have HLX:=Lib.hid hlx
   rcases OW.out.2 with ⟨hn1,hn2⟩ | ⟨gM,cap,cur,hv9,hbg,hg,hnc,_⟩
   ·omega
   injection hv9 with e1 e2 e3
   subst e1
   have c0:=cell_later hbr (HC9.out gM rfl _ _ (flatQ_at M k x hx 0 _ rfl))
   rw [Addr.add_lit,Nat.zero_add,Nat.add_zero] at c0
   have dN:decide ((k:Int)<N)=true:=decide_eq_true (by omega)
   have d0:=cell_belowBy c0
   clear hlx hx hg c0 e2 e3 hbg
   cases hlb:ltB x.1.id o.id
   ·have LB:=ltB_bl hlb
    have HI:=Lib.hid (insP_at o l k (by rw [HN.out];exact hk) HLT.out (fun y hy=>by rw [HLX.out] at hy;injection hy with hy;subst hy;exact hlb))
    clear hlb
    obtain ⟨xz,x0⟩:=rk1 R2.out
    obtain ⟨yz,y0,y1,y2,y3,y4,y5⟩:=rk6 R3.out
    go_wp2
    have k2:=cell_belowBy x0
    have l0:=cell_belowBy y0
    clear x0 y0 y1 y2 y3 y4 y5
    refine wp_region_quiet_below (by assumption) (by kernel_rfl) ?_
    repeat (go_big_quiet_step (fail))
    refine wpQuiet_nil ?_
    intro w6 hw'
    obtain ⟨⟨w7,hb7⟩,hw''⟩:=hw'
    subst hw''
    have B35:=below_step hbr (Nat.le_refl _) hb7
    have P2:=Lib.hid (row_later B35 G2.out)
    have P3:=Lib.hid (row_later B35 G3.out)
    have P4:=Lib.hid (row_later B35 G4.out)
    have OW5:=Lib.hid (own_laterL OW.out B35)
    have L5:=Lib.hid (below_step LO.out (Nat.le_refl _) B35)
    have hz4:=lt_of_block P4.out
    have hNc:=(own_capI OW.out).2
    have hkq:(k:Int)≤N:=by omega
    have hNci:(N:Int)≤c:=by omega
    have hkc:(k:Int)≤c:=by omega
    have hkc':k≤c:=by omega
    clear hb7 hbr B35
    go_wp2
    have hst:=StableW.below w6.heap.size w6 (Nat.le_refl _)
    refine wp_region_nodes 1 7 (fun W=>Below w6.heap.size w6 W) (fun W=>Below w6.heap.size w6 W) hmx (by kernel_rfl) (by kernel_rfl) (by kernel_rfl) hst (fun _ h=>h) (Below.refl _ _).drew (by kernel_rfl) ?_
    apply Exists.intro
    refine ⟨fun W hW=>?_,?_⟩
    ·have HW3:=Lib.hid (row_later hW P3.out)
     clear hW
     obtain ⟨yz,y0,y1,y2,y3,y4,y5⟩:=rk6 HW3.out
     have ky0:=cell_belowBy y0
     have ky1:=cell_belowBy y1
     have ky2:=cell_belowBy y2
     have ky3:=cell_belowBy y3
     have ky4:=cell_belowBy y4
     have ky5:=cell_belowBy y5
     clear y0 y1 y2 y3 y4 y5
     simp only [List.take_succ_cons,List.take_zero]
     repeat (go_big_quiet_step (fail))
     exact wpQuiet_nil rfl
    refine node_quiet 2 (some 31) (.pointer (some ⟨w.heap.size,0,none⟩)) rfl rfl hst (fun _ h=>h) (by kernel_rfl) (by kernel_rfl) (by kernel_rfl) rfl (QuietB.pure fun w=>(by go_simp)) ?_
    simp only [Act.put,List.setIfInBounds_toArray,List.set_cons_succ,List.set_cons_zero]
    refine node_quiet 3 (some 32) (.slice (some ⟨gM,0,none⟩) N c) rfl rfl hst (fun _ h=>h) (by kernel_rfl) (by kernel_rfl) (by kernel_rfl) rfl (QuietB.at' fun W hW=>(by
     have HB9:=Lib.hid (row_later hW P2.out)
     clear hW
     obtain ⟨xz,x0⟩:=rk1 HB9.out
     go_simp)) ?_
    simp only [Act.put,List.setIfInBounds_toArray,List.set_cons_succ,List.set_cons_zero]
    refine node_quiet 4 (some 33) (.int .i64 k) rfl rfl hst (fun _ h=>h) (by kernel_rfl) (by kernel_rfl) (by kernel_rfl) rfl (QuietB.pure fun w=>(by go_simp)) ?_
    simp only [Act.put,List.setIfInBounds_toArray,List.set_cons_succ,List.set_cons_zero]
    refine node_quiet 5 (some 34) (.slice (if c=k then (some ⟨gM,0,none⟩) else (some ⟨gM,k * 6,none⟩)) (N - k) (c - k)) rfl rfl hst (fun _ h=>h) (by kernel_rfl) (by kernel_rfl) (by kernel_rfl) rfl (QuietB.pure fun w=>(by go_simp)) ?_
    simp only [Act.put,List.setIfInBounds_toArray,List.set_cons_succ,List.set_cons_zero]
    refine any_one 1 (by kernel_rfl) rfl rfl ?_
    refine LoudB.mkD (some 30) (ι:=Nat) (fun g=>.slice (some ⟨g,0,none⟩) 1 1) (fun g=>fun W=>(Below w6.heap.size w6 W∧w6.heap.size≤g)∧W.heap[g]?=some (.cells #[.string o.id,.int .i64 o.kind,.int .i64 o.x,.int .i64 o.y,vr,vt] 50)) rfl (fun g=>(hst.and (StableW.const _)).and (StableW.row _ _)) (fun _ W d=>d.1.1) (fun W hS K' hK'=>?_) (fun g=>?_)
    ·go_simp
     exact hK' W.heap.size _ ⟨⟨hS.alloc hS.size _,hS.size⟩,row_new _ _⟩
    simp only [Act.put,List.setIfInBounds_toArray,List.set_cons_succ,List.set_cons_zero]
    refine any_one 6 (by kernel_rfl) rfl rfl ?_
    refine LoudB.mkD (some 35) (ι:=Value) (fun v'=>v') (fun v'=>fun W=>Below w6.heap.size w6 W∧W.ownsRow w6.heap.size 50 6 v' (1+(N - k)) (encQ (o,vr,vt)++(M.drop k).flatMap encQ)) rfl (fun v'=>hst.and (StableW.owns _ _ _ _ _ _)) (fun _ W d=>d.1) (fun W hS K' hK'=>?_) (fun v'=>?_)
    ·obtain ⟨⟨hS1,hS2⟩,hS3⟩:=hS
     have own1:W.ownsRow w6.heap.size 50 6 (.slice (some ⟨g,0,none⟩) 1 1) 1 (encQ (o,vr,vt)):=⟨rfl,.inr ⟨g,1,_,rfl,hS2,hS3,Nat.le_refl _,by unfold maxLen;omega,rfl,rfl⟩⟩
     have src1:=srcQ_drop (M:=M) (q:=k) (by rw [hml];exact own_laterL OW5.out hS1) (by rw [hml];exact hk)
     rw [hml] at src1
     try simp only [Option.map_some,Addr.add_lit,Nat.zero_add] at src1
     refine wp_append_src _ _ _ 60 rfl w6.heap.size 50 i0 (.agg #[.string ⟨#[]⟩,.int .i64 0,.int .i64 0,.int .i64 0,.slice none 0 0,.slice none 0 0]) 6 88 Tryz.underlying60 hi hi0 hi1 hi2 rfl (by decide) _ 1 (encQ (o,vr,vt)) rfl own1 (N - k) ((M.drop k).flatMap encQ) src1 (by rw [flatQ_len,List.length_drop,hml]) (flatQ_one fun x hx=>HKS.out x (List.mem_of_mem_drop hx)) (by unfold maxLen;omega) (by omega) hS1.size ?_
     intro v' w9 hown2 hgrow
     exact hK' v' w9 ⟨hS1.grown hgrow hS1.size (fun j ej=>own_blockI own1 j ej),hown2⟩
    simp only [Act.put,List.setIfInBounds_toArray,List.set_cons_succ,List.set_cons_zero]
    refine node_quiet 7 (some 6) v' rfl rfl (hst.and (StableW.owns _ _ _ _ _ _)) (fun _ d=>d.1) (by kernel_rfl) (by kernel_rfl) (by kernel_rfl) rfl (QuietB.pure fun w=>(by go_simp)) ?_
    simp only [Act.put,List.setIfInBounds_toArray,List.set_cons_succ,List.set_cons_zero]
    refine any_end (by kernel_rfl) fun w8 hw8=>?_
    obtain ⟨hB8,hO8⟩:=hw8
    obtain ⟨aR,cR,hvR⟩:=own_form hO8
    subst hvR
    have Q2:=Lib.hid (row_later hB8 P2.out)
    have Q4:=Lib.hid (row_later hB8 P4.out)
    have OW8:=Lib.hid (own_laterL OW5.out hB8)
    have O8:=Lib.hid hO8
    have L8:=Lib.hid (below_step L5.out (Nat.le_refl _) hB8)
    have hz8:=hB8.size
    clear hB8 hO8 P2 P3 P4 OW5 L5
    have BA:=(Below.refl w8.heap.size w8).alloc (Nat.le_refl _) (.cells #[] 50)
    have own0:(w8.alloc (.cells #[] 50)).ownsRow w8.heap.size 50 6 (.slice (some ⟨w8.heap.size,0,none⟩) 0 0) 0 []:=⟨rfl,.inr ⟨w8.heap.size,0,#[],rfl,Nat.le_refl _,row_new _ _,Nat.le_refl _,by unfold maxLen;omega,rfl,rfl⟩⟩
    have src0:=srcQ_take (M:=M) (q:=k) (by rw [hml];exact own_laterL OW8.out BA) (by rw [hml];exact hk) c
    have HOW0:=Lib.hid own0
    have HSR0:=Lib.hid src0
    have HBA:=Lib.hid BA
    clear own0 src0 BA
    obtain ⟨xz,x0⟩:=rk1 Q2.out
    go_wp2_with (
     at_builtin
     first
      |(
       refine wpList_append_src rfl _ _ 60 rfl w8.heap.size 50 i0 (.agg #[.string ⟨#[]⟩,.int .i64 0,.int .i64 0,.int .i64 0,.slice none 0 0,.slice none 0 0]) 6 88 Tryz.underlying60 hi hi0 hi1 hi2 rfl (by decide) _ 0 [] rfl HOW0.out k ((M.take k).flatMap encQ) HSR0.out (by rw [flatQ_len,List.length_take,hml,Nat.min_eq_left hk]) (flatQ_one fun x hx=>HKS.out x (List.mem_of_mem_take hx)) (by unfold maxLen;omega) (by omega) (by simp) ?_
       intro v9 w9 hown9 hgrow9
       simp only [Nat.zero_add,List.nil_append] at hown9
       obtain ⟨a9,c9,hv9⟩:=own_form hown9
       subst hv9
       have HO9:=Lib.hid hown9
       have B9:=Lib.hid (HBA.out.grown hgrow9 HBA.out.size (fun j ej=>own_blockI HOW0.out j ej))
       have R9:=Lib.hid (src_own (own_laterL O8.out B9.out))
       clear hown9 hgrow9)
      |(
       refine wpList_append_src rfl _ _ 60 rfl w8.heap.size 50 i0 (.agg #[.string ⟨#[]⟩,.int .i64 0,.int .i64 0,.int .i64 0,.slice none 0 0,.slice none 0 0]) 6 88 Tryz.underlying60 hi hi0 hi1 hi2 rfl (by decide) _ k ((M.take k).flatMap encQ) rfl HO9.out (1+(N - k)) (encQ (o,vr,vt)++(M.drop k).flatMap encQ) R9.out (by rw [List.length_append,encQ_len,flatQ_len,List.length_drop,hml];omega) (fun u hu=>by rcases List.mem_append.1 hu with h | h;exact encQ_one HOK.out u h;exact flatQ_one (fun x hx=>HKS.out x (List.mem_of_mem_drop hx)) u h) (by unfold maxLen;omega) (by omega) B9.out.size ?_
       intro v10 w10 hown10 hgrow10
       obtain ⟨aT,cT,hvT⟩:=own_form hown10
       subst hvT
       have HO10:=Lib.hid hown10
       have B10:=Lib.hid (B9.out.grown hgrow10 B9.out.size (fun j ej=>own_blockI HO9.out j ej))
       have Q10:=Lib.hid (row_later B10.out Q4.out)
       clear hown10 hgrow10
       obtain ⟨zz,z0⟩:=rk1 Q10.out
       have zf0:=frozen_of_row w10 _ 0 _ _ Q10.out
       )
     )
    all_goals
     have oF:=own_setW HO10.out (p:=⟨w.heap.size+1+1,0,none⟩) (by simp only;omega) (.slice aT (k+(1+(N - k))) cT)
     have hzF:w.heap.size≤w8.heap.size:=by omega
     have lF:=(below_step L8.out (Nat.le_refl _) B10.out).setCell (p:=⟨w.heap.size+1+1,0,none⟩) (by simp only;omega) (.slice aT (k+(1+(N - k))) cT)
     have rF:=row_set (i:=0) (v:=(.slice aT (k+(1+(N - k))) cT)) (show w10.heap[w.heap.size+1+1]?=_ from Q10.out)
     generalize hwF:w10.setCell ⟨w.heap.size+1+1,0,none⟩ (.slice aT (k+(1+(N - k))) cT)=wF
     rw [hwF] at oF lF rF
     have RF:=Lib.hid (show wF.heap[w.heap.size+1+1]?=some (.cells #[.slice aT (k+(1+(N - k))) cT] 62 (0,0)) from rF)
     clear rF hwF z0 zz zf0
     obtain ⟨sz,s0⟩:=rk1 RF.out
     refine bodyPost_ret (v:=.agg #[.slice aT (k+(1+(N - k))) cT]) (by simp [results,Tryz.results27,go_sem,s0]) rfl ⟨_,rfl,k,?_,?_,lF⟩
     ·rw [show min k N+(N - k+1)=k+(1+(N - k)) by rw [Nat.min_eq_left hk];omega]
      exact own_base oF (by omega)
     ·rw [HMP.out,HI.out]
   ·have LB:=ltB_bl hlb
    have HL2:=Lib.hid (show ∀(j:Nat) (y:ObjD),j<k+1→l[j]?=some y→ltB y.id o.id=true from fun j y hj hy=>by
     by_cases hjk:j=k
     ·subst hjk;rw [HLX.out] at hy;injection hy with hy;subst hy;exact hlb
     ·exact HLT.out j y (by omega) hy)
    clear hlb
    obtain ⟨xz,x0⟩:=rk1 R2.out
    obtain ⟨yz,y0,y1,y2,y3,y4,y5⟩:=rk6 R3.out
    go_wp2
    have k2:=cell_belowBy x0
    have l0:=cell_belowBy y0
    clear x0 y0 y1 y2 y3 y4 y5
    refine wp_region_quiet_below (by assumption) (by kernel_rfl) ?_
    repeat (go_big_quiet_step (fail))
    refine wpQuiet_nil ?_
    intro w6 hw'
    obtain ⟨⟨w7,hb7⟩,hw''⟩:=hw'
    subst hw''
    have B7:=below_step hbr (Nat.le_refl _) hb7
    go_wp2
    go_roundw
    case rel=>exact ⟨k+1,by omega,by go_num,HL2.out,B7⟩
    case measure=>simp [intOf];omega
  ·have hkN:k=N:=by omega
   have HI:=Lib.hid (insP_at o l k (by rw [HN.out];exact hk) HLT.out (fun y hy=>by have:=(List.getElem?_eq_some_iff.1 hy).1;rw [HN.out] at this;omega))
   have dN:decide ((k:Int)<N)=false:=decide_eq_false (by omega)
   clear hkN
   obtain ⟨xz,x0⟩:=rk1 R2.out
   obtain ⟨yz,y0,y1,y2,y3,y4,y5⟩:=rk6 R3.out
   go_wp2
   have k2:=cell_belowBy x0
   have l0:=cell_belowBy y0
   clear x0 y0 y1 y2 y3 y4 y5
   refine wp_region_quiet_below (by assumption) (by kernel_rfl) ?_
   repeat (go_big_quiet_step (fail))
   refine wpQuiet_nil ?_
   intro w6 hw'
   obtain ⟨⟨w7,hb7⟩,hw''⟩:=hw'
   subst hw''
   have B35:=below_step hbr (Nat.le_refl _) hb7
   have P2:=Lib.hid (row_later B35 G2.out)
   have P3:=Lib.hid (row_later B35 G3.out)
   have P4:=Lib.hid (row_later B35 G4.out)
   have OW5:=Lib.hid (own_laterL OW.out B35)
   have L5:=Lib.hid (below_step LO.out (Nat.le_refl _) B35)
   have hz4:=lt_of_block P4.out
   have hNc:=(own_capI OW.out).2
   have hkq:(k:Int)≤N:=by omega
   have hNci:(N:Int)≤c:=by omega
   have hkc:(k:Int)≤c:=by omega
   have hkc':k≤c:=by omega
   clear hb7 hbr B35
   go_wp2
   have hst:=StableW.below w6.heap.size w6 (Nat.le_refl _)
   refine wp_region_nodes 1 7 (fun W=>Below w6.heap.size w6 W) (fun W=>Below w6.heap.size w6 W) hmx (by kernel_rfl) (by kernel_rfl) (by kernel_rfl) hst (fun _ h=>h) (Below.refl _ _).drew (by kernel_rfl) ?_
   apply Exists.intro
   refine ⟨fun W hW=>?_,?_⟩
   ·have HW3:=Lib.hid (row_later hW P3.out)
    clear hW
    obtain ⟨yz,y0,y1,y2,y3,y4,y5⟩:=rk6 HW3.out
    have ky0:=cell_belowBy y0
    have ky1:=cell_belowBy y1
    have ky2:=cell_belowBy y2
    have ky3:=cell_belowBy y3
    have ky4:=cell_belowBy y4
    have ky5:=cell_belowBy y5
    clear y0 y1 y2 y3 y4 y5
    simp only [List.take_succ_cons,List.take_zero]
    repeat (go_big_quiet_step (fail))
    exact wpQuiet_nil rfl
   refine node_quiet 2 (some 31) (.pointer (some ⟨w.heap.size,0,none⟩)) rfl rfl hst (fun _ h=>h) (by kernel_rfl) (by kernel_rfl) (by kernel_rfl) rfl (QuietB.pure fun w=>(by go_simp)) ?_
   simp only [Act.put,List.setIfInBounds_toArray,List.set_cons_succ,List.set_cons_zero]
   refine node_quiet 3 (some 32) (.slice (ao) N c) rfl rfl hst (fun _ h=>h) (by kernel_rfl) (by kernel_rfl) (by kernel_rfl) rfl (QuietB.at' fun W hW=>(by
    have HB9:=Lib.hid (row_later hW P2.out)
    clear hW
    obtain ⟨xz,x0⟩:=rk1 HB9.out
    go_simp)) ?_
   simp only [Act.put,List.setIfInBounds_toArray,List.set_cons_succ,List.set_cons_zero]
   refine node_quiet 4 (some 33) (.int .i64 k) rfl rfl hst (fun _ h=>h) (by kernel_rfl) (by kernel_rfl) (by kernel_rfl) rfl (QuietB.pure fun w=>(by go_simp)) ?_
   simp only [Act.put,List.setIfInBounds_toArray,List.set_cons_succ,List.set_cons_zero]
   refine node_quiet 5 (some 34) (.slice (if c=k then (ao) else (ao.map (fun z=>z.add (k * 6)))) (N - k) (c - k)) rfl rfl hst (fun _ h=>h) (by kernel_rfl) (by kernel_rfl) (by kernel_rfl) rfl (QuietB.pure fun w=>(by go_simp)) ?_
   simp only [Act.put,List.setIfInBounds_toArray,List.set_cons_succ,List.set_cons_zero]
   refine any_one 1 (by kernel_rfl) rfl rfl ?_
   refine LoudB.mkD (some 30) (ι:=Nat) (fun g=>.slice (some ⟨g,0,none⟩) 1 1) (fun g=>fun W=>(Below w6.heap.size w6 W∧w6.heap.size≤g)∧W.heap[g]?=some (.cells #[.string o.id,.int .i64 o.kind,.int .i64 o.x,.int .i64 o.y,vr,vt] 50)) rfl (fun g=>(hst.and (StableW.const _)).and (StableW.row _ _)) (fun _ W d=>d.1.1) (fun W hS K' hK'=>?_) (fun g=>?_)
   ·go_simp
    exact hK' W.heap.size _ ⟨⟨hS.alloc hS.size _,hS.size⟩,row_new _ _⟩
   simp only [Act.put,List.setIfInBounds_toArray,List.set_cons_succ,List.set_cons_zero]
   refine any_one 6 (by kernel_rfl) rfl rfl ?_
   refine LoudB.mkD (some 35) (ι:=Value) (fun v'=>v') (fun v'=>fun W=>Below w6.heap.size w6 W∧W.ownsRow w6.heap.size 50 6 v' (1+(N - k)) (encQ (o,vr,vt)++(M.drop k).flatMap encQ)) rfl (fun v'=>hst.and (StableW.owns _ _ _ _ _ _)) (fun _ W d=>d.1) (fun W hS K' hK'=>?_) (fun v'=>?_)
   ·obtain ⟨⟨hS1,hS2⟩,hS3⟩:=hS
    have own1:W.ownsRow w6.heap.size 50 6 (.slice (some ⟨g,0,none⟩) 1 1) 1 (encQ (o,vr,vt)):=⟨rfl,.inr ⟨g,1,_,rfl,hS2,hS3,Nat.le_refl _,by unfold maxLen;omega,rfl,rfl⟩⟩
    have src1:=srcQ_drop (M:=M) (q:=k) (by rw [hml];exact own_laterL OW5.out hS1) (by rw [hml];exact hk)
    rw [hml] at src1
    try simp only [Option.map_some,Addr.add_lit,Nat.zero_add] at src1
    refine wp_append_src _ _ _ 60 rfl w6.heap.size 50 i0 (.agg #[.string ⟨#[]⟩,.int .i64 0,.int .i64 0,.int .i64 0,.slice none 0 0,.slice none 0 0]) 6 88 Tryz.underlying60 hi hi0 hi1 hi2 rfl (by decide) _ 1 (encQ (o,vr,vt)) rfl own1 (N - k) ((M.drop k).flatMap encQ) src1 (by rw [flatQ_len,List.length_drop,hml]) (flatQ_one fun x hx=>HKS.out x (List.mem_of_mem_drop hx)) (by unfold maxLen;omega) (by omega) hS1.size ?_
    intro v' w9 hown2 hgrow
    exact hK' v' w9 ⟨hS1.grown hgrow hS1.size (fun j ej=>own_blockI own1 j ej),hown2⟩
   simp only [Act.put,List.setIfInBounds_toArray,List.set_cons_succ,List.set_cons_zero]
   refine node_quiet 7 (some 6) v' rfl rfl (hst.and (StableW.owns _ _ _ _ _ _)) (fun _ d=>d.1) (by kernel_rfl) (by kernel_rfl) (by kernel_rfl) rfl (QuietB.pure fun w=>(by go_simp)) ?_
   simp only [Act.put,List.setIfInBounds_toArray,List.set_cons_succ,List.set_cons_zero]
   refine any_end (by kernel_rfl) fun w8 hw8=>?_
   obtain ⟨hB8,hO8⟩:=hw8
   obtain ⟨aR,cR,hvR⟩:=own_form hO8
   subst hvR
   have Q2:=Lib.hid (row_later hB8 P2.out)
   have Q4:=Lib.hid (row_later hB8 P4.out)
   have OW8:=Lib.hid (own_laterL OW5.out hB8)
   have O8:=Lib.hid hO8
   have L8:=Lib.hid (below_step L5.out (Nat.le_refl _) hB8)
   have hz8:=hB8.size
   clear hB8 hO8 P2 P3 P4 OW5 L5
   have BA:=(Below.refl w8.heap.size w8).alloc (Nat.le_refl _) (.cells #[] 50)
   have own0:(w8.alloc (.cells #[] 50)).ownsRow w8.heap.size 50 6 (.slice (some ⟨w8.heap.size,0,none⟩) 0 0) 0 []:=⟨rfl,.inr ⟨w8.heap.size,0,#[],rfl,Nat.le_refl _,row_new _ _,Nat.le_refl _,by unfold maxLen;omega,rfl,rfl⟩⟩
   have src0:=srcQ_take (M:=M) (q:=k) (by rw [hml];exact own_laterL OW8.out BA) (by rw [hml];exact hk) c
   have HOW0:=Lib.hid own0
   have HSR0:=Lib.hid src0
   have HBA:=Lib.hid BA
   clear own0 src0 BA
   obtain ⟨xz,x0⟩:=rk1 Q2.out
   go_wp2_with (
    at_builtin
    first
     |(
      refine wpList_append_src rfl _ _ 60 rfl w8.heap.size 50 i0 (.agg #[.string ⟨#[]⟩,.int .i64 0,.int .i64 0,.int .i64 0,.slice none 0 0,.slice none 0 0]) 6 88 Tryz.underlying60 hi hi0 hi1 hi2 rfl (by decide) _ 0 [] rfl HOW0.out k ((M.take k).flatMap encQ) HSR0.out (by rw [flatQ_len,List.length_take,hml,Nat.min_eq_left hk]) (flatQ_one fun x hx=>HKS.out x (List.mem_of_mem_take hx)) (by unfold maxLen;omega) (by omega) (by simp) ?_
      intro v9 w9 hown9 hgrow9
      simp only [Nat.zero_add,List.nil_append] at hown9
      obtain ⟨a9,c9,hv9⟩:=own_form hown9
      subst hv9
      have HO9:=Lib.hid hown9
      have B9:=Lib.hid (HBA.out.grown hgrow9 HBA.out.size (fun j ej=>own_blockI HOW0.out j ej))
      have R9:=Lib.hid (src_own (own_laterL O8.out B9.out))
      clear hown9 hgrow9)
     |(
      refine wpList_append_src rfl _ _ 60 rfl w8.heap.size 50 i0 (.agg #[.string ⟨#[]⟩,.int .i64 0,.int .i64 0,.int .i64 0,.slice none 0 0,.slice none 0 0]) 6 88 Tryz.underlying60 hi hi0 hi1 hi2 rfl (by decide) _ k ((M.take k).flatMap encQ) rfl HO9.out (1+(N - k)) (encQ (o,vr,vt)++(M.drop k).flatMap encQ) R9.out (by rw [List.length_append,encQ_len,flatQ_len,List.length_drop,hml];omega) (fun u hu=>by rcases List.mem_append.1 hu with h | h;exact encQ_one HOK.out u h;exact flatQ_one (fun x hx=>HKS.out x (List.mem_of_mem_drop hx)) u h) (by unfold maxLen;omega) (by omega) B9.out.size ?_
      intro v10 w10 hown10 hgrow10
      obtain ⟨aT,cT,hvT⟩:=own_form hown10
      subst hvT
      have HO10:=Lib.hid hown10
      have B10:=Lib.hid (B9.out.grown hgrow10 B9.out.size (fun j ej=>own_blockI HO9.out j ej))
      have Q10:=Lib.hid (row_later B10.out Q4.out)
      clear hown10 hgrow10
      obtain ⟨zz,z0⟩:=rk1 Q10.out
      have zf0:=frozen_of_row w10 _ 0 _ _ Q10.out
      )
    )
   all_goals
    have oF:=own_setW HO10.out (p:=⟨w.heap.size+1+1,0,none⟩) (by simp only;omega) (.slice aT (k+(1+(N - k))) cT)
    have hzF:w.heap.size≤w8.heap.size:=by omega
    have lF:=(below_step L8.out (Nat.le_refl _) B10.out).setCell (p:=⟨w.heap.size+1+1,0,none⟩) (by simp only;omega) (.slice aT (k+(1+(N - k))) cT)
    have rF:=row_set (i:=0) (v:=(.slice aT (k+(1+(N - k))) cT)) (show w10.heap[w.heap.size+1+1]?=_ from Q10.out)
    generalize hwF:w10.setCell ⟨w.heap.size+1+1,0,none⟩ (.slice aT (k+(1+(N - k))) cT)=wF
    rw [hwF] at oF lF rF
    have RF:=Lib.hid (show wF.heap[w.heap.size+1+1]?=some (.cells #[.slice aT (k+(1+(N - k))) cT] 62 (0,0)) from rF)
    clear rF hwF z0 zz zf0
    obtain ⟨sz,s0⟩:=rk1 RF.out
    refine bodyPost_ret (v:=.agg #[.slice aT (k+(1+(N - k))) cT]) (by simp [results,Tryz.results27,go_sem,s0]) rfl ⟨_,rfl,k,?_,?_,lF⟩
    ·rw [show min k N+(N - k+1)=k+(1+(N - k)) by rw [Nat.min_eq_left hk];omega]
     exact own_base oF (by omega)
    ·rw [HMP.out,HI.out]
end Go.Proofs.YtdfenhjibnfdeaaGreatDoor
