/-  -/
import Derived.Test.YtdfenhjibnfdeaaGreatDoorQzAo
import Derived.Test.YtdfenhjibnfdeaaGreatDoorQzAw
import Derived.Test.YtdfenhjibnfdeaaGreatDoorQzAv
namespace Go.Proofs.YtdfenhjibnfdeaaGreatDoor
open Go.RowKit Go.Shelf
theorem infoObQ:(Tryz.prog.info? 50).map (fun i=>(i.zero,i.size,i.bytes))=some (some (.agg #[.string ⟨#[]⟩,.int .i64 0,.int .i64 0,.int .i64 0,.slice none 0 0,.slice none 0 0]),6,88):=by kernel_rfl
theorem row_grownW {w w':World} {row:Option Nat} (h:w.grownBy w' row) {b:Nat} {o:Obj} (hb:w.heap[b]?=some o) (hne:some b≠row):w'.heap[b]?=some o:=(h.block b (lt_of_block hb) hne).trans hb
theorem own_setW {w:World} {base e size n:Nat} {v:Value} {xs:List Value} (h:w.ownsRow base e size v n xs) {p:Addr} (hp:p.block<base) (u:Value):(w.setCell p u).ownsRow base e size v n xs:=by
 obtain ⟨h0,h⟩:=h
 refine ⟨h0,?_⟩
 rcases h with h | ⟨g,cap,cur,e,hb,hg,r⟩
 ·exact .inl h
 ·exact .inr ⟨g,cap,cur,e,hb,row_set_other hg (by omega),r⟩
structure WoI (w:World) (base:Nat) (mv vO:Value) (M:List ObQ) (W:World):Prop where
 low:Below w.heap.size w W
 r2:W.heap[w.heap.size]?=some (.cells #[mv] 62 (0,0))
 r4:W.heap[w.heap.size+1]?=some (.cells #[.slice none 0 0] 62 (0,0))
 r5:W.heap[w.heap.size+2]?=some (.cells #[vO] 62 (0,0))
 big:base≤W.heap.size
 own:W.ownsRow base 50 6 vO M.length (M.flatMap encQ)
theorem WoI.stable (w:World) (base:Nat) (mv vO:Value) (M:List ObQ):StableW (WoI w base mv vO M):=fun _W _W' h hb =>
 ⟨below_step h.low (Nat.le_refl _) hb,row_later hb h.r2,row_later hb h.r4,row_later hb h.r5,Nat.le_trans h.big hb.size,own_laterL h.own hb⟩
structure WoA (w:World) (base:Nat) (mv vO v':Value) (M:List ObQ) (W:World):Prop where
 low:Below w.heap.size w W
 r2:W.heap[w.heap.size]?=some (.cells #[mv] 62 (0,0))
 r4:W.heap[w.heap.size+1]?=some (.cells #[.slice none 0 0] 62 (0,0))
 r5:W.heap[w.heap.size+2]?=some (.cells #[vO] 62 (0,0))
 big:base≤W.heap.size
 own:W.ownsRow base 50 6 v' M.length (M.flatMap encQ)
theorem WoA.stable (w:World) (base:Nat) (mv vO v':Value) (M:List ObQ):StableW (WoA w base mv vO v' M):=fun _W _W' h hb =>
 ⟨below_step h.low (Nat.le_refl _) hb,row_later hb h.r2,row_later hb h.r4,row_later hb h.r5,Nat.le_trans h.big hb.size,own_laterL h.own hb⟩
theorem WoI.append {w:World} {base:Nat} {mv vO v':Value} {M:List ObQ} {x:ObQ} {W w9:World} (h:WoI w base mv vO M W) (hB:w.heap.size+2<base) (hg:W.grownBy w9 vO.ownBlock) (ho:w9.ownsRow base 50 6 v' (M.length+1) (M.flatMap encQ++encQ x)):WoA w base mv vO v' (M++[x]) w9:=by
 have ne:∀x,x<base→some x≠vO.ownBlock:=fun x hx e=>by have:=(h.own.lt x e.symm).1;omega
 exact ⟨h.low.grown hg (by have:=h.big;omega) (fun j ej=>by have:=(h.own.lt j ej).1;omega),row_grownW hg h.r2 (ne _ (by omega)),row_grownW hg h.r4 (ne _ (by omega)),row_grownW hg h.r5 (ne _ (by omega)),Nat.le_trans h.big hg.size,by
  rw [List.length_append,List.flatMap_append];simpa using ho⟩
theorem WoA.store {w:World} {base:Nat} {mv vO v':Value} {M:List ObQ} {W:World} (h:WoA w base mv vO v' M W) (hb:w.heap.size+2<base):WoI w base mv v' M (W.setCell ⟨w.heap.size+2,0,none⟩ v') :=
 ⟨h.low.setCell (by simp only;omega) _,row_set_other h.r2 (by simp only;omega),row_set_other h.r4 (by simp only;omega),row_set (i:=0) h.r5,Nat.le_trans h.big (by simp),own_setW h.own (by simp only;omega) _⟩
set_option maxRecDepth 100000 in
set_option maxHeartbeats 8000000 in
theorem wout_any (v:Value) (M0:List ObQ) (id:ByteArray) (w0 w:World) (hv:ObjsM w0 w v M0) (hl:M0.length≤1000) (hno:∀x∈M0,x.1.id≠id) :
  Calls Tryz.prog 54 #[.agg #[v],.string id] w fun e w'=>∃v':Value,e=.returned (.agg #[v'])∧w'.ownsRow w.heap.size 50 6 v' M0.length (M0.flatMap encQ)∧Below w.heap.size w w':=by
 obtain ⟨a,cap,rfl,hn,hc,hoks0⟩:=hv
 obtain ⟨N,hN⟩:∃N,M0.length=N:=⟨_,rfl⟩
 rw [hN] at hn hc hl ⊢
 have HN:=Lib.hid hN
 have HC:=Lib.hid hc
 have HNO:=Lib.hid hno
 have HK0:=Lib.hid hoks0
 obtain ⟨i0,hi,hi0,hi1,hi2⟩:=info_parts infoObQ
 have b1:=(((Below.refl w.heap.size w).alloc (Nat.le_refl _) (.cells #[.slice a N cap] 62)).alloc (by simp) (.cells #[.slice none 0 0] 62)).alloc (by simp;omega) (.cells #[.slice none 0 0] 62)
 have g2:=row_past (o':=.cells #[.slice none 0 0] 62) (row_past (o':=.cells #[.slice none 0 0] 62) (row_new w (.cells #[.slice a N cap] 62)))
 have g4:=row_past (o':=.cells #[.slice none 0 0] 62) (row_new1 w (.cells #[.slice a N cap] 62) (.cells #[.slice none 0 0] 62))
 have g5:=row_new2 w (.cells #[.slice a N cap] 62) (.cells #[.slice none 0 0] 62) (.cells #[.slice none 0 0] 62)
 obtain ⟨w1,hw1⟩:∃z,((w.alloc (.cells #[.slice a N cap] 62)).alloc (.cells #[.slice none 0 0] 62)).alloc (.cells #[.slice none 0 0] 62)=z:=⟨_,rfl⟩
 rw [hw1] at b1 g2 g4 g5
 obtain ⟨N0,hN0'⟩:∃z,w1.heap.size=z:=⟨_,rfl⟩
 have hN0:w.heap.size+2<N0:=by rw [←hN0'];exact lt_of_block g5
 have T0:=Lib.hid (show WoI w N0 (.slice a N cap) (.slice none 0 0) [] w1 from ⟨b1,g2,g4,g5,by omega,World.ownsRow_nil _ _ _ _⟩)
 have HW:=Lib.hid hw1
 have hmx:Tryz.prog.follows .mixedOrders=true:=by kernel_rfl
 clear hc hN hno hoks0 b1 g2 g4 g5 hw1 hN0'
 go_enter Tryz.func54,Tryz.ntmps54
 go_wp2_with fail
 rw [HW.out]
 go_loopw [6] (fun i wr=>∃(k:Nat) (vO:Value) (M:List ObQ),k≤N∧i=.int .i64 k∧M=M0.take k∧WoI w N0 (.slice a N cap) vO M wr) (fun i _=>N - (intOf i).toNat)
 case atStart=>exact ⟨0,_,[],by omega,rfl,rfl,T0.out⟩
 case round =>
  obtain ⟨k,vO,M,hk,rfl,hmp,hti⟩:=hrel
  have HTI:=Lib.hid hti
  have HM2:=Lib.hid hti.r2
  have HMP:=Lib.hid hmp
  have hml:M.length=k:=by
   rw [hmp,List.length_take,HN.out];omega
  clear hti hmp
  by_cases hlt:k<N
  ·obtain ⟨⟨o,vr,vt⟩,ho⟩:∃x,M0[k]?=some x:=⟨M0[k]'(by rw [HN.out];exact hlt),List.getElem?_eq_getElem _⟩
   obtain ⟨b,off,ha,hcell⟩:=HC.out (by omega)
   subst ha
   have c0:=hcell _ _ (flatQ_at M0 k _ ho 0 _ rfl)
   have c1:=hcell _ _ (flatQ_at M0 k _ ho 1 _ rfl)
   have c2:=hcell _ _ (flatQ_at M0 k _ ho 2 _ rfl)
   have c3:=hcell _ _ (flatQ_at M0 k _ ho 3 _ rfl)
   have c4:=hcell _ _ (flatQ_at M0 k _ ho 4 _ rfl)
   have c5:=hcell _ _ (flatQ_at M0 k _ ho 5 _ rfl)
   rw [←Nat.add_assoc] at c0 c1 c2 c3 c4 c5
   rw [Nat.add_zero] at c0
   have HOK:=Lib.hid (HK0.out _ (List.mem_of_getElem? ho))
   have hne:o.id≠id:=HNO.out _ (List.mem_of_getElem? ho)
   have e1:(o.id.toList==id.toList)=false:=str_eq_false hne
   have HMP2:=Lib.hid (show M++[(o,vr,vt)]=M0.take (k+1) by
    obtain ⟨hk',e9⟩:=List.getElem?_eq_some_iff.1 ho
    rw [List.take_succ_eq_append_getElem hk',e9,HMP.out])
   have C0:=Lib.hid c0
   have C1:=Lib.hid c1
   have C2:=Lib.hid c2
   have C3:=Lib.hid c3
   have C4:=Lib.hid c4
   have C5:=Lib.hid c5
   have d0:=cell_later HTI.out.low C0.out
   have dz:=lt_of_cell d0
   have dN:decide ((k:Int)<N)=true:=decide_eq_true (by omega)
   clear hcell ho hne c0 c1 c2 c3 c4 c5
   obtain ⟨mz,m0⟩:=rk1 HM2.out
   go_wp2
   clear m0 mz
   clear d0 dz HM2
   have hst:=WoI.stable w N0 (.slice (some ⟨b,off,none⟩) N cap) vO M
   refine wp_region_nodes 1 10 (fun W=>Below w.heap.size w W∧W.heap[w.heap.size]?=some (.cells #[.slice (some ⟨b,off,none⟩) N cap] 62 (0,0))) (fun W=>WoI w N0 (.slice (some ⟨b,off,none⟩) N cap) vO M W) hmx (by kernel_rfl) (by kernel_rfl) (by kernel_rfl) hst (fun W d=>⟨d.low,d.r2⟩) (hst _ _ HTI.out (Below.refl _ _).drew) (by kernel_rfl) ?_
   apply Exists.intro
   refine ⟨fun W hW=>?_,?_⟩
   ·clear hW
    simp only [List.take_succ_cons,List.take_zero]
    repeat (go_big_quiet_step (fail))
    exact wpQuiet_nil rfl
   refine node_quiet 2 (some 24) (.pointer (some ⟨w.heap.size,0,none⟩)) rfl rfl hst (fun W d=>⟨d.low,d.r2⟩) (by kernel_rfl) (by kernel_rfl) (by kernel_rfl) rfl (QuietB.pure fun w=>(by go_simp)) ?_
   simp only [Act.put,List.setIfInBounds_toArray,List.set_cons_succ,List.set_cons_zero]
   refine node_quiet 3 (some 25) (.slice (some ⟨b,off,none⟩) N cap) rfl rfl hst (fun W d=>⟨d.low,d.r2⟩) (by kernel_rfl) (by kernel_rfl) (by kernel_rfl) rfl (QuietB.at' fun W hW=>(by
    have HB9:=Lib.hid hW.2
    clear hW
    obtain ⟨xz,x0⟩:=rk1 HB9.out
    go_simp)) ?_
   simp only [Act.put,List.setIfInBounds_toArray,List.set_cons_succ,List.set_cons_zero]
   refine node_quiet 4 (some 26) (.int .i64 k) rfl rfl hst (fun W d=>⟨d.low,d.r2⟩) (by kernel_rfl) (by kernel_rfl) (by kernel_rfl) rfl (QuietB.pure fun w=>(by go_simp)) ?_
   simp only [Act.put,List.setIfInBounds_toArray,List.set_cons_succ,List.set_cons_zero]
   refine node_quiet 5 (some 27) (.pointer (some ⟨b,off+k * 6,none⟩)) rfl rfl hst (fun W d=>⟨d.low,d.r2⟩) (by kernel_rfl) (by kernel_rfl) (by kernel_rfl) rfl (QuietB.pure fun w=>(by go_simp)) ?_
   simp only [Act.put,List.setIfInBounds_toArray,List.set_cons_succ,List.set_cons_zero]
   refine node_quiet 6 (some 28) (.agg #[.string o.id,.int .i64 o.kind,.int .i64 o.x,.int .i64 o.y,vr,vt]) rfl rfl hst (fun W d=>⟨d.low,d.r2⟩) (by kernel_rfl) (by kernel_rfl) (by kernel_rfl) rfl (QuietB.at' fun W hW=>(by
    have q0:=cell_later hW.1 C0.out
    have q1:=cell_later hW.1 C1.out
    have q2:=cell_later hW.1 C2.out
    have q3:=cell_later hW.1 C3.out
    have q4:=cell_later hW.1 C4.out
    have q5:=cell_later hW.1 C5.out
    have hz:=lt_of_cell q0
    clear hW
    go_simp)) ?_
   simp only [Act.put,List.setIfInBounds_toArray,List.set_cons_succ,List.set_cons_zero]
   refine any_two 1 7 (by kernel_rfl) rfl rfl rfl rfl ?_ ?_
   ·refine LoudB.mkD (some 23) (ι:=Unit) (fun _=>vO) (fun _=>fun W=>WoI w N0 (.slice (some ⟨b,off,none⟩) N cap) vO M W) rfl (fun _=>hst) (fun _ W d=>⟨d.low,d.r2⟩) (fun W hS K' hK'=>?_) (fun _=>?_)
    ·have hK2:=hK' () _ hS
     have HPX:=Lib.hid hS.r5
     clear hS hK'
     obtain ⟨yz,y0⟩:=rk1 HPX.out
     go_simp
     exact hK2
    simp only [Act.put,List.setIfInBounds_toArray,List.set_cons_succ,List.set_cons_zero]
    refine any_one 7 (by kernel_rfl) rfl rfl ?_
    refine LoudB.mkD (some 29) (ι:=Nat) (fun g=>.slice (some ⟨g,0,none⟩) 1 1) (fun g=>fun W=>WoI w N0 (.slice (some ⟨b,off,none⟩) N cap) vO M W∧W.heap[g]?=some (.cells #[.string o.id,.int .i64 o.kind,.int .i64 o.x,.int .i64 o.y,vr,vt] 50)) rfl (fun g=>hst.and (StableW.row _ _)) (fun _ W d=>⟨d.1.low,d.1.r2⟩) (fun W hS K' hK'=>?_) (fun g=>?_)
    ·have h2:=hst _ _ hS ((Below.refl W.heap.size W).alloc (Nat.le_refl _) (.cells #[.string o.id,.int .i64 o.kind,.int .i64 o.x,.int .i64 o.y,vr,vt] 50))
     clear hS
     go_simp
     exact hK' W.heap.size _ ⟨h2,row_new _ _⟩
    simp only [Act.put,List.setIfInBounds_toArray,List.set_cons_succ,List.set_cons_zero]
    refine any_one 8 (by kernel_rfl) rfl rfl ?_
    refine LoudB.mkD (some 30) (ι:=Value) (fun v'=>v') (fun v'=>fun W=>WoA w N0 (.slice (some ⟨b,off,none⟩) N cap) vO v' (M++[(o,vr,vt)]) W) rfl (fun v'=>WoA.stable _ _ _ _ _ _) (fun _ W d=>⟨d.low,d.r2⟩) (fun W hS K' hK'=>?_) (fun v'=>?_)
    ·obtain ⟨hS1,hS2⟩:=hS
     refine wp_append_own _ _ _ 60 rfl N0 50 i0 (.agg #[.string ⟨#[]⟩,.int .i64 0,.int .i64 0,.int .i64 0,.slice none 0 0,.slice none 0 0]) 6 88 Tryz.underlying60 hi hi0 hi1 hi2 rfl (by decide) _ _ _ rfl hS1.own ⟨g,0,none⟩ 1 1 (encQ (o,vr,vt)) rfl rfl (cells_rowQ hS2) (encQ_one HOK.out) (by unfold maxLen;omega) (by omega) hS1.big ?_
     intro v' w9 hown2 hgrow _
     exact hK' v' w9 (hS1.append hN0 hgrow hown2)
    simp only [Act.put,List.setIfInBounds_toArray,List.set_cons_succ,List.set_cons_zero]
    refine node_quiet 9 (some 31) (.pointer (some ⟨w.heap.size+2,0,none⟩)) rfl rfl (WoA.stable _ _ _ _ _ _) (fun W d=>⟨d.low,d.r2⟩) (by kernel_rfl) (by kernel_rfl) (by kernel_rfl) rfl (QuietB.pure fun w=>(by go_simp)) ?_
    simp only [Act.put,List.setIfInBounds_toArray,List.set_cons_succ,List.set_cons_zero]
    refine any_one 10 (by kernel_rfl) rfl rfl ?_
    refine LoudB.mkD none (ι:=Unit) (fun _=>undef) (fun _=>fun W=>WoI w N0 (.slice (some ⟨b,off,none⟩) N cap) v' (M++[(o,vr,vt)]) W) rfl (fun _=>WoI.stable _ _ _ _ _) (fun _ W d=>⟨d.low,d.r2⟩) (fun W hS K' hK'=>?_) (fun _=>?_)
    ·obtain ⟨g9,c9,rfl,-,-⟩:=own_slice hS.own (by simp)
     have hK2:=hK' () _ (hS.store hN0)
     rw [show (M++[(o,vr,vt)]).length=k+1 by simp [hml]] at hK2
     have HPX:=Lib.hid hS.r5
     clear hS hK'
     obtain ⟨yz,y0⟩:=rk1 HPX.out
     have yf0:=frozen_of_row W _ 0 _ _ HPX.out
     go_simp
     exact hK2
    simp only [Act.put]
    refine any_end (by kernel_rfl) fun w5 hw5=>?_
    have HT5:=Lib.hid hw5
    clear hw5
    go_wp2
    go_roundw
    case rel=>exact ⟨k+1,v',M++[(o,vr,vt)],by omega,by go_num,HMP2.out,HT5.out⟩
    case measure=>simp [intOf];omega
   ·refine LoudB.mkD (some 29) (ι:=Nat) (fun g=>.slice (some ⟨g,0,none⟩) 1 1) (fun g=>fun W=>WoI w N0 (.slice (some ⟨b,off,none⟩) N cap) vO M W∧W.heap[g]?=some (.cells #[.string o.id,.int .i64 o.kind,.int .i64 o.x,.int .i64 o.y,vr,vt] 50)) rfl (fun g=>hst.and (StableW.row _ _)) (fun _ W d=>⟨d.1.low,d.1.r2⟩) (fun W hS K' hK'=>?_) (fun g=>?_)
    ·have h2:=hst _ _ hS ((Below.refl W.heap.size W).alloc (Nat.le_refl _) (.cells #[.string o.id,.int .i64 o.kind,.int .i64 o.x,.int .i64 o.y,vr,vt] 50))
     clear hS
     go_simp
     exact hK' W.heap.size _ ⟨h2,row_new _ _⟩
    simp only [Act.put,List.setIfInBounds_toArray,List.set_cons_succ,List.set_cons_zero]
    refine any_one 1 (by kernel_rfl) rfl rfl ?_
    refine LoudB.mkD (some 23) (ι:=Unit) (fun _=>vO) (fun _=>fun W=>WoI w N0 (.slice (some ⟨b,off,none⟩) N cap) vO M W∧W.heap[g]?=some (.cells #[.string o.id,.int .i64 o.kind,.int .i64 o.x,.int .i64 o.y,vr,vt] 50)) rfl (fun _=>hst.and (StableW.row _ _)) (fun _ W d=>⟨d.1.low,d.1.r2⟩) (fun W hS K' hK'=>?_) (fun _=>?_)
    ·have hK2:=hK' () _ hS
     have HPX:=Lib.hid hS.1.r5
     clear hS hK'
     obtain ⟨yz,y0⟩:=rk1 HPX.out
     go_simp
     exact hK2
    simp only [Act.put,List.setIfInBounds_toArray,List.set_cons_succ,List.set_cons_zero]
    refine any_one 8 (by kernel_rfl) rfl rfl ?_
    refine LoudB.mkD (some 30) (ι:=Value) (fun v'=>v') (fun v'=>fun W=>WoA w N0 (.slice (some ⟨b,off,none⟩) N cap) vO v' (M++[(o,vr,vt)]) W) rfl (fun v'=>WoA.stable _ _ _ _ _ _) (fun _ W d=>⟨d.low,d.r2⟩) (fun W hS K' hK'=>?_) (fun v'=>?_)
    ·obtain ⟨hS1,hS2⟩:=hS
     refine wp_append_own _ _ _ 60 rfl N0 50 i0 (.agg #[.string ⟨#[]⟩,.int .i64 0,.int .i64 0,.int .i64 0,.slice none 0 0,.slice none 0 0]) 6 88 Tryz.underlying60 hi hi0 hi1 hi2 rfl (by decide) _ _ _ rfl hS1.own ⟨g,0,none⟩ 1 1 (encQ (o,vr,vt)) rfl rfl (cells_rowQ hS2) (encQ_one HOK.out) (by unfold maxLen;omega) (by omega) hS1.big ?_
     intro v' w9 hown2 hgrow _
     exact hK' v' w9 (hS1.append hN0 hgrow hown2)
    simp only [Act.put,List.setIfInBounds_toArray,List.set_cons_succ,List.set_cons_zero]
    refine node_quiet 9 (some 31) (.pointer (some ⟨w.heap.size+2,0,none⟩)) rfl rfl (WoA.stable _ _ _ _ _ _) (fun W d=>⟨d.low,d.r2⟩) (by kernel_rfl) (by kernel_rfl) (by kernel_rfl) rfl (QuietB.pure fun w=>(by go_simp)) ?_
    simp only [Act.put,List.setIfInBounds_toArray,List.set_cons_succ,List.set_cons_zero]
    refine any_one 10 (by kernel_rfl) rfl rfl ?_
    refine LoudB.mkD none (ι:=Unit) (fun _=>undef) (fun _=>fun W=>WoI w N0 (.slice (some ⟨b,off,none⟩) N cap) v' (M++[(o,vr,vt)]) W) rfl (fun _=>WoI.stable _ _ _ _ _) (fun _ W d=>⟨d.low,d.r2⟩) (fun W hS K' hK'=>?_) (fun _=>?_)
    ·obtain ⟨g9,c9,rfl,-,-⟩:=own_slice hS.own (by simp)
     have hK2:=hK' () _ (hS.store hN0)
     rw [show (M++[(o,vr,vt)]).length=k+1 by simp [hml]] at hK2
     have HPX:=Lib.hid hS.r5
     clear hS hK'
     obtain ⟨yz,y0⟩:=rk1 HPX.out
     have yf0:=frozen_of_row W _ 0 _ _ HPX.out
     go_simp
     exact hK2
    simp only [Act.put]
    refine any_end (by kernel_rfl) fun w5 hw5=>?_
    have HT5:=Lib.hid hw5
    clear hw5
    go_wp2
    go_roundw
    case rel=>exact ⟨k+1,v',M++[(o,vr,vt)],by omega,by go_num,HMP2.out,HT5.out⟩
    case measure=>simp [intOf];omega
  ·obtain rfl:k=N:=by omega
   obtain ⟨ao,cO,hvO⟩:=own_form HTI.out.own
   subst hvO
   have HE:=Lib.hid (show M=M0 by rw [HMP.out,List.take_of_length_le (by rw [HN.out];exact Nat.le_refl _)])
   have H5:=Lib.hid HTI.out.r5
   have H4:=Lib.hid HTI.out.r4
   have HOW:=Lib.hid (own_base HTI.out.own (show w.heap.size≤N0 by omega))
   have HLO:=Lib.hid HTI.out.low
   obtain ⟨mz,m0⟩:=rk1 HM2.out
   obtain ⟨xz,x0⟩:=rk1 H5.out
   obtain ⟨yz,y0⟩:=rk1 H4.out
   have yf0:=frozen_of_row wr _ 0 _ _ H4.out
   go_wp2
   have ow:=own_setW HTI.out.own (p:=⟨w.heap.size+1,0,none⟩) (by simp only;omega) (.slice ao k cO)
   have lo:=HTI.out.low.setCell (p:=⟨w.heap.size+1,0,none⟩) (by simp only;omega) (.slice ao k cO)
   have rF:=row_set (i:=0) (v:=.slice ao k cO) HTI.out.r4
   generalize hwF:wr.setCell ⟨w.heap.size+1,0,none⟩ (.slice ao k cO)=wF
   rw [hwF] at ow lo rF
   rw [hml] at ow
   have RF:=Lib.hid (show wF.heap[w.heap.size+1]?=some (.cells #[.slice ao k cO] 62 (0,0)) from rF)
   clear rF hwF
   obtain ⟨sz,s0⟩:=rk1 RF.out
   refine bodyPost_ret (v:=.agg #[.slice ao k cO]) (by simp [results,Tryz.results54,go_sem,s0]) rfl ⟨_,rfl,by rw [HE.out] at ow;exact own_base ow (by omega),lo⟩
end Go.Proofs.YtdfenhjibnfdeaaGreatDoor
