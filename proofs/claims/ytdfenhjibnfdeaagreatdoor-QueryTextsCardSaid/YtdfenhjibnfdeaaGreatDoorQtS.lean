/- Texts of QueryTexts. -/
import Derived.Test.YtdfenhjibnfdeaaGreatDoorQtR
namespace Go.Proofs.YtdfenhjibnfdeaaGreatDoor
open Go.RowKit Go.Shelf
set_option maxRecDepth 100000 in
set_option maxHeartbeats 16000000 in
theorem validQ3a (q:QryD) (a:Option Addr) (cap:Nat) (w:World) (hc:CondIs w q.wher a) (hk:0≤q.kind∧q.kind<6) (ha:q.ask=3) (hz0:q.id.size≤140737488355328) (hR:validC q.wher=true) (hN0:nameB q.id=false) :
  Calls Tryz.prog 12 #[qryV q a cap] w fun e w'=>e=.returned (.bool (validQ q))∧Below w.heap.size w w':=by
 have a1:(q.ask==1)=false:=by rw [beq_eq_false_iff_ne];omega
 have a2:(q.ask==2)=false:=by rw [beq_eq_false_iff_ne];omega
 have a3:(q.ask==3)=true:=by rw [beq_iff_eq];exact ha
 have HN0:=Lib.hid (fun W=>name_any q.id hz0 W)
 have HN1:=Lib.hid (fun W=>within_any q.n 0 1048576 W)
 have HE:=Lib.hid (show validQ q=(nameB q.id && decide (0≤q.n∧q.n≤1048576) && decide (q.x=0∧q.y=0∧q.key.toList=[]∧q.prof.toList=[]∧q.minute=0)) by
  unfold validQ
  rw [if_neg (by omega)];rw [if_neg (by omega)];rw [if_pos ha,hR,decide_eq_true hk,Bool.eq_iff_iff]
  simp only [←emp_iff,Bool.and_eq_true,decide_eq_true_eq,Bool.true_and]
  try omega
  try (constructor<;>intro h<;>simp_all))
 rw [HE.out]
 clear HE ha
 rw [hN0] at HN0 ⊢
 clear hN0
 obtain ⟨N1,hN1⟩:∃z,decide (0≤q.n∧q.n≤1048576)=z:=⟨_,rfl⟩
 rw [hN1] at HN1 ⊢
 clear hN1
 try simp only [Bool.false_and]
 have B1:=(Below.refl w.heap.size w).alloc (Nat.le_refl _) (.cells (qryC q a cap) 28)
 obtain ⟨w1,hw1⟩:∃w1,w.alloc (.cells (qryC q a cap) 28)=w1:=⟨_,rfl⟩
 have H1:=Lib.hid (row_new w (.cells (qryC q a cap) 28))
 rw [hw1] at B1 H1
 have HW:=Lib.hid hw1
 have hmx:Tryz.prog.follows .mixedOrders=true:=by kernel_rfl
 have HC1:=Lib.hid (hc.later B1)
 have HV:=Lib.hid (fun W (hb:Below w1.heap.size w1 W)=>valid_any q.wher a cap W (HC1.out.later hb))
 clear hc hw1
 have d0:decide (q.kind<0)=false:=by rw [decide_eq_false_iff_not];omega
 have d6:decide ((6:Int)≤q.kind)=false:=by rw [decide_eq_false_iff_not];omega
 rw [hR] at HV
 go_enter Tryz.func12,Tryz.ntmps12
 go_wp2
 rw [HW.out]
 refine wp_region_mix 6 (fun W=>Below w1.heap.size w1 W) (fun W=>Below w1.heap.size w1 W) hmx (by kernel_rfl) (by kernel_rfl) (by kernel_rfl) (StableW.below _ _ (Nat.le_refl _)) (fun W hW=>hW) (Below.refl _ _).drew ?_
 apply Exists.intro
 refine ⟨fun W hW=>?_,?_⟩
 ·have HXW:=row_later hW H1.out
  clear hW
  have xz:=lt_of_block HXW
  have x0:=cell_of_row W _ 0 _ _ _ HXW
  have x1:=cell_of_row W _ 1 _ _ _ HXW
  have x2:=cell_of_row W _ 2 _ _ _ HXW
  have x3:=cell_of_row W _ 3 _ _ _ HXW
  have x4:=cell_of_row W _ 4 _ _ _ HXW
  have x5:=cell_of_row W _ 5 _ _ _ HXW
  have x6:=cell_of_row W _ 6 _ _ _ HXW
  have x7:=cell_of_row W _ 7 _ _ _ HXW
  have x8:=cell_of_row W _ 8 _ _ _ HXW
  have x9:=cell_of_row W _ 9 _ _ _ HXW
  have x10:=cell_of_row W _ 10 _ _ _ HXW
  have x11:=cell_of_row W _ 11 _ _ _ HXW
  have x12:=cell_of_row W _ 12 _ _ _ HXW
  have x13:=cell_of_row W _ 13 _ _ _ HXW
  simp only [List.getElem?_toArray,List.getElem?_cons_zero,List.getElem?_cons_succ] at x0 x1 x2 x3 x4 x5 x6 x7 x8 x9 x10 x11 x12 x13
  have HXW':=Lib.hid HXW
  clear HXW
  have q1:=cell_belowBy x1
  clear x0 x1 x2 x3 x4 x5 x6 x7 x8 x9 x10 x11 x12 x13
  simp only [List.take_succ_cons,List.take_zero]
  repeat (go_big_quiet_step (fail))
  exact wpQuiet_nil rfl
 simp only [List.drop_succ_cons,List.drop_zero]
 refine tailM_step (ι:=Nat) (fun g=>.slice (some ⟨g,0,none⟩) 6 6) (fun g W=>Below w1.heap.size w1 W) rfl (fun g=>StableW.below _ _ (Nat.le_refl _)) (fun _ _ h=>h) (fun W hS K hK=>?_) (fun g=>?_)
 ·go_simp
  refine (words_any W).mono ?_
  rintro e w2 ⟨rfl,-,hb2⟩
  exact hK W.heap.size _ (below_step hS (Nat.le_refl _) hb2)
 simp only [Act.put,List.setIfInBounds_toArray,List.set_cons_succ,List.set_cons_zero]
 refine tailM_pure (.int .i64 6) rfl (StableW.below _ _ (Nat.le_refl _)) (fun _ h=>h) (fun W hS K hK=>?_) ?_
 ·have HXW:=row_later hS H1.out
  have yz:=lt_of_block HXW
  have y0:=cell_of_row W _ 0 _ _ _ HXW
  have y1:=cell_of_row W _ 1 _ _ _ HXW
  have y2:=cell_of_row W _ 2 _ _ _ HXW
  have y3:=cell_of_row W _ 3 _ _ _ HXW
  have y4:=cell_of_row W _ 4 _ _ _ HXW
  have y5:=cell_of_row W _ 5 _ _ _ HXW
  have y6:=cell_of_row W _ 6 _ _ _ HXW
  have y7:=cell_of_row W _ 7 _ _ _ HXW
  have y8:=cell_of_row W _ 8 _ _ _ HXW
  have y9:=cell_of_row W _ 9 _ _ _ HXW
  have y10:=cell_of_row W _ 10 _ _ _ HXW
  have y11:=cell_of_row W _ 11 _ _ _ HXW
  have y12:=cell_of_row W _ 12 _ _ _ HXW
  have y13:=cell_of_row W _ 13 _ _ _ HXW
  simp only [List.getElem?_toArray,List.getElem?_cons_zero,List.getElem?_cons_succ] at y0 y1 y2 y3 y4 y5 y6 y7 y8 y9 y10 y11 y12 y13
  have HXW':=Lib.hid HXW
  clear HXW
  go_simp
  exact hK
 simp only [Act.put,List.setIfInBounds_toArray,List.set_cons_succ,List.set_cons_zero]
 refine tailM_pure (.bool false) rfl (StableW.below _ _ (Nat.le_refl _)) (fun _ h=>h) (fun W hS K hK=>?_) ?_
 ·have HXW:=row_later hS H1.out
  have yz:=lt_of_block HXW
  have y0:=cell_of_row W _ 0 _ _ _ HXW
  have y1:=cell_of_row W _ 1 _ _ _ HXW
  have y2:=cell_of_row W _ 2 _ _ _ HXW
  have y3:=cell_of_row W _ 3 _ _ _ HXW
  have y4:=cell_of_row W _ 4 _ _ _ HXW
  have y5:=cell_of_row W _ 5 _ _ _ HXW
  have y6:=cell_of_row W _ 6 _ _ _ HXW
  have y7:=cell_of_row W _ 7 _ _ _ HXW
  have y8:=cell_of_row W _ 8 _ _ _ HXW
  have y9:=cell_of_row W _ 9 _ _ _ HXW
  have y10:=cell_of_row W _ 10 _ _ _ HXW
  have y11:=cell_of_row W _ 11 _ _ _ HXW
  have y12:=cell_of_row W _ 12 _ _ _ HXW
  have y13:=cell_of_row W _ 13 _ _ _ HXW
  simp only [List.getElem?_toArray,List.getElem?_cons_zero,List.getElem?_cons_succ] at y0 y1 y2 y3 y4 y5 y6 y7 y8 y9 y10 y11 y12 y13
  have HXW':=Lib.hid HXW
  clear HXW
  go_simp
  exact hK
 simp only [Act.put,List.setIfInBounds_toArray,List.set_cons_succ,List.set_cons_zero]
 refine tailM_pure (.bool false) rfl (StableW.below _ _ (Nat.le_refl _)) (fun _ h=>h) (fun W hS K hK=>?_) ?_
 ·have HXW:=row_later hS H1.out
  have yz:=lt_of_block HXW
  have y0:=cell_of_row W _ 0 _ _ _ HXW
  have y1:=cell_of_row W _ 1 _ _ _ HXW
  have y2:=cell_of_row W _ 2 _ _ _ HXW
  have y3:=cell_of_row W _ 3 _ _ _ HXW
  have y4:=cell_of_row W _ 4 _ _ _ HXW
  have y5:=cell_of_row W _ 5 _ _ _ HXW
  have y6:=cell_of_row W _ 6 _ _ _ HXW
  have y7:=cell_of_row W _ 7 _ _ _ HXW
  have y8:=cell_of_row W _ 8 _ _ _ HXW
  have y9:=cell_of_row W _ 9 _ _ _ HXW
  have y10:=cell_of_row W _ 10 _ _ _ HXW
  have y11:=cell_of_row W _ 11 _ _ _ HXW
  have y12:=cell_of_row W _ 12 _ _ _ HXW
  have y13:=cell_of_row W _ 13 _ _ _ HXW
  simp only [List.getElem?_toArray,List.getElem?_cons_zero,List.getElem?_cons_succ] at y0 y1 y2 y3 y4 y5 y6 y7 y8 y9 y10 y11 y12 y13
  have HXW':=Lib.hid HXW
  clear HXW
  go_simp
  exact hK
 simp only [Act.put,List.setIfInBounds_toArray,List.set_cons_succ,List.set_cons_zero]
 refine tailM_pure (.bool false) rfl (StableW.below _ _ (Nat.le_refl _)) (fun _ h=>h) (fun W hS K hK=>?_) ?_
 ·have HXW:=row_later hS H1.out
  have yz:=lt_of_block HXW
  have y0:=cell_of_row W _ 0 _ _ _ HXW
  have y1:=cell_of_row W _ 1 _ _ _ HXW
  have y2:=cell_of_row W _ 2 _ _ _ HXW
  have y3:=cell_of_row W _ 3 _ _ _ HXW
  have y4:=cell_of_row W _ 4 _ _ _ HXW
  have y5:=cell_of_row W _ 5 _ _ _ HXW
  have y6:=cell_of_row W _ 6 _ _ _ HXW
  have y7:=cell_of_row W _ 7 _ _ _ HXW
  have y8:=cell_of_row W _ 8 _ _ _ HXW
  have y9:=cell_of_row W _ 9 _ _ _ HXW
  have y10:=cell_of_row W _ 10 _ _ _ HXW
  have y11:=cell_of_row W _ 11 _ _ _ HXW
  have y12:=cell_of_row W _ 12 _ _ _ HXW
  have y13:=cell_of_row W _ 13 _ _ _ HXW
  simp only [List.getElem?_toArray,List.getElem?_cons_zero,List.getElem?_cons_succ] at y0 y1 y2 y3 y4 y5 y6 y7 y8 y9 y10 y11 y12 y13
  have HXW':=Lib.hid HXW
  clear HXW
  go_simp
  exact hK
 simp only [Act.put,List.setIfInBounds_toArray,List.set_cons_succ,List.set_cons_zero]
 refine tailM_pure (.pointer (some ⟨w.heap.size,2,none⟩)) rfl (StableW.below _ _ (Nat.le_refl _)) (fun _ h=>h) (fun W hS K hK=>?_) ?_
 ·have HXW:=row_later hS H1.out
  have yz:=lt_of_block HXW
  have y0:=cell_of_row W _ 0 _ _ _ HXW
  have y1:=cell_of_row W _ 1 _ _ _ HXW
  have y2:=cell_of_row W _ 2 _ _ _ HXW
  have y3:=cell_of_row W _ 3 _ _ _ HXW
  have y4:=cell_of_row W _ 4 _ _ _ HXW
  have y5:=cell_of_row W _ 5 _ _ _ HXW
  have y6:=cell_of_row W _ 6 _ _ _ HXW
  have y7:=cell_of_row W _ 7 _ _ _ HXW
  have y8:=cell_of_row W _ 8 _ _ _ HXW
  have y9:=cell_of_row W _ 9 _ _ _ HXW
  have y10:=cell_of_row W _ 10 _ _ _ HXW
  have y11:=cell_of_row W _ 11 _ _ _ HXW
  have y12:=cell_of_row W _ 12 _ _ _ HXW
  have y13:=cell_of_row W _ 13 _ _ _ HXW
  simp only [List.getElem?_toArray,List.getElem?_cons_zero,List.getElem?_cons_succ] at y0 y1 y2 y3 y4 y5 y6 y7 y8 y9 y10 y11 y12 y13
  have HXW':=Lib.hid HXW
  clear HXW
  go_simp
  exact hK
 simp only [Act.put,List.setIfInBounds_toArray,List.set_cons_succ,List.set_cons_zero]
 refine tailM_pure (condV q.wher a cap) rfl (StableW.below _ _ (Nat.le_refl _)) (fun _ h=>h) (fun W hS K hK=>?_) ?_
 ·have HXW:=row_later hS H1.out
  have yz:=lt_of_block HXW
  have y0:=cell_of_row W _ 0 _ _ _ HXW
  have y1:=cell_of_row W _ 1 _ _ _ HXW
  have y2:=cell_of_row W _ 2 _ _ _ HXW
  have y3:=cell_of_row W _ 3 _ _ _ HXW
  have y4:=cell_of_row W _ 4 _ _ _ HXW
  have y5:=cell_of_row W _ 5 _ _ _ HXW
  have y6:=cell_of_row W _ 6 _ _ _ HXW
  have y7:=cell_of_row W _ 7 _ _ _ HXW
  have y8:=cell_of_row W _ 8 _ _ _ HXW
  have y9:=cell_of_row W _ 9 _ _ _ HXW
  have y10:=cell_of_row W _ 10 _ _ _ HXW
  have y11:=cell_of_row W _ 11 _ _ _ HXW
  have y12:=cell_of_row W _ 12 _ _ _ HXW
  have y13:=cell_of_row W _ 13 _ _ _ HXW
  simp only [List.getElem?_toArray,List.getElem?_cons_zero,List.getElem?_cons_succ] at y0 y1 y2 y3 y4 y5 y6 y7 y8 y9 y10 y11 y12 y13
  have HXW':=Lib.hid HXW
  clear HXW
  go_simp
  exact hK
 simp only [Act.put,List.setIfInBounds_toArray,List.set_cons_succ,List.set_cons_zero]
 refine tailM_step (ι:=Unit) (fun _=>.bool true) (fun _ W=>Below w1.heap.size w1 W) rfl (fun _=>StableW.below _ _ (Nat.le_refl _)) (fun _ _ h=>h) (fun W hS K hK=>?_) (fun _=>?_)
 ·go_simp
  refine (HV.out W hS).mono ?_
  rintro e w2 ⟨rfl,hb2⟩
  exact hK () _ (below_step hS (Nat.le_refl _) hb2)
 simp only [Act.put,List.setIfInBounds_toArray,List.set_cons_succ,List.set_cons_zero]
 refine tailM_pure (.bool false) rfl (StableW.below _ _ (Nat.le_refl _)) (fun _ h=>h) (fun W hS K hK=>?_) ?_
 ·have HXW:=row_later hS H1.out
  have yz:=lt_of_block HXW
  have y0:=cell_of_row W _ 0 _ _ _ HXW
  have y1:=cell_of_row W _ 1 _ _ _ HXW
  have y2:=cell_of_row W _ 2 _ _ _ HXW
  have y3:=cell_of_row W _ 3 _ _ _ HXW
  have y4:=cell_of_row W _ 4 _ _ _ HXW
  have y5:=cell_of_row W _ 5 _ _ _ HXW
  have y6:=cell_of_row W _ 6 _ _ _ HXW
  have y7:=cell_of_row W _ 7 _ _ _ HXW
  have y8:=cell_of_row W _ 8 _ _ _ HXW
  have y9:=cell_of_row W _ 9 _ _ _ HXW
  have y10:=cell_of_row W _ 10 _ _ _ HXW
  have y11:=cell_of_row W _ 11 _ _ _ HXW
  have y12:=cell_of_row W _ 12 _ _ _ HXW
  have y13:=cell_of_row W _ 13 _ _ _ HXW
  simp only [List.getElem?_toArray,List.getElem?_cons_zero,List.getElem?_cons_succ] at y0 y1 y2 y3 y4 y5 y6 y7 y8 y9 y10 y11 y12 y13
  have HXW':=Lib.hid HXW
  clear HXW
  go_simp
  exact hK
 simp only [Act.put,List.setIfInBounds_toArray,List.set_cons_succ,List.set_cons_zero]
 refine tailM_pure (.bool false) rfl (StableW.below _ _ (Nat.le_refl _)) (fun _ h=>h) (fun W hS K hK=>?_) ?_
 ·have HXW:=row_later hS H1.out
  have yz:=lt_of_block HXW
  have y0:=cell_of_row W _ 0 _ _ _ HXW
  have y1:=cell_of_row W _ 1 _ _ _ HXW
  have y2:=cell_of_row W _ 2 _ _ _ HXW
  have y3:=cell_of_row W _ 3 _ _ _ HXW
  have y4:=cell_of_row W _ 4 _ _ _ HXW
  have y5:=cell_of_row W _ 5 _ _ _ HXW
  have y6:=cell_of_row W _ 6 _ _ _ HXW
  have y7:=cell_of_row W _ 7 _ _ _ HXW
  have y8:=cell_of_row W _ 8 _ _ _ HXW
  have y9:=cell_of_row W _ 9 _ _ _ HXW
  have y10:=cell_of_row W _ 10 _ _ _ HXW
  have y11:=cell_of_row W _ 11 _ _ _ HXW
  have y12:=cell_of_row W _ 12 _ _ _ HXW
  have y13:=cell_of_row W _ 13 _ _ _ HXW
  simp only [List.getElem?_toArray,List.getElem?_cons_zero,List.getElem?_cons_succ] at y0 y1 y2 y3 y4 y5 y6 y7 y8 y9 y10 y11 y12 y13
  have HXW':=Lib.hid HXW
  clear HXW
  go_simp
  exact hK
 simp only [Act.put,List.setIfInBounds_toArray,List.set_cons_succ,List.set_cons_zero]
 refine tailM_nil fun w3 hb3=>?_
 have B3:=below_step B1 (Nat.le_refl _) hb3
 have H3:=Lib.hid (row_later hb3 H1.out)
 clear hb3 d0 d6 HW HV H1 B1 hR
 have xz:=lt_of_block H3.out
 have x0:=cell_of_row w3 _ 0 _ _ _ H3.out
 have x1:=cell_of_row w3 _ 1 _ _ _ H3.out
 have x2:=cell_of_row w3 _ 2 _ _ _ H3.out
 have x3:=cell_of_row w3 _ 3 _ _ _ H3.out
 have x4:=cell_of_row w3 _ 4 _ _ _ H3.out
 have x5:=cell_of_row w3 _ 5 _ _ _ H3.out
 have x6:=cell_of_row w3 _ 6 _ _ _ H3.out
 have x7:=cell_of_row w3 _ 7 _ _ _ H3.out
 have x8:=cell_of_row w3 _ 8 _ _ _ H3.out
 have x9:=cell_of_row w3 _ 9 _ _ _ H3.out
 have x10:=cell_of_row w3 _ 10 _ _ _ H3.out
 have x11:=cell_of_row w3 _ 11 _ _ _ H3.out
 have x12:=cell_of_row w3 _ 12 _ _ _ H3.out
 have x13:=cell_of_row w3 _ 13 _ _ _ H3.out
 simp only [List.getElem?_toArray,List.getElem?_cons_zero,List.getElem?_cons_succ] at x0 x1 x2 x3 x4 x5 x6 x7 x8 x9 x10 x11 x12 x13
 go_wp2
 generalize hw4:w3.alloc (.cells #[.int .i64 q.ask,.int .i64 q.kind,.int .i64 0,.string ⟨#[]⟩,.string ⟨#[]⟩,.int .i64 0,.slice none 0 0,.string ⟨#[]⟩,.int .i64 0,.int .i64 0,.int .i64 0,.string ⟨#[]⟩,.string ⟨#[]⟩,.int .i64 0] 28)=w4
 have hX:=row_new w3 (.cells #[.int .i64 q.ask,.int .i64 q.kind,.int .i64 0,.string ⟨#[]⟩,.string ⟨#[]⟩,.int .i64 0,.slice none 0 0,.string ⟨#[]⟩,.int .i64 0,.int .i64 0,.int .i64 0,.string ⟨#[]⟩,.string ⟨#[]⟩,.int .i64 0] 28)
 have hb34:=(Below.refl w3.heap.size w3).alloc (Nat.le_refl _) (.cells #[.int .i64 q.ask,.int .i64 q.kind,.int .i64 0,.string ⟨#[]⟩,.string ⟨#[]⟩,.int .i64 0,.slice none 0 0,.string ⟨#[]⟩,.int .i64 0,.int .i64 0,.int .i64 0,.string ⟨#[]⟩,.string ⟨#[]⟩,.int .i64 0] 28)
 rw [hw4] at hX hb34
 have HX4:=Lib.hid hX
 have HB34:=Lib.hid hb34
 clear hX hb34 hw4
 clear x0 x1 x2 x3 x4 x5 x6 x7 x8 x9 x10 x11 x12 x13 xz
 refine wp_region_nodes 14 4 (fun W=>Below w3.heap.size w3 W) (CX w3 #[.int .i64 q.ask,.int .i64 q.kind,.int .i64 0,.string ⟨#[]⟩,.string ⟨#[]⟩,.int .i64 0,.slice none 0 0,.string ⟨#[]⟩,.int .i64 0,.int .i64 0,.int .i64 0,.string ⟨#[]⟩,.string ⟨#[]⟩,.int .i64 0]) hmx (by kernel_rfl) (by kernel_rfl) (by kernel_rfl) (CX.stable w3 _) (fun _ h=>h.1) ⟨HB34.out.drew,HX4.out⟩ (by kernel_rfl) ?_
 apply Exists.intro
 refine ⟨fun W hW=>?_,?_⟩
 ·have HXW:=row_later hW H3.out
  clear hW
  have xz:=lt_of_block HXW
  have x0:=cell_of_row W _ 0 _ _ _ HXW
  have x1:=cell_of_row W _ 1 _ _ _ HXW
  have x2:=cell_of_row W _ 2 _ _ _ HXW
  have x3:=cell_of_row W _ 3 _ _ _ HXW
  have x4:=cell_of_row W _ 4 _ _ _ HXW
  have x5:=cell_of_row W _ 5 _ _ _ HXW
  have x6:=cell_of_row W _ 6 _ _ _ HXW
  have x7:=cell_of_row W _ 7 _ _ _ HXW
  have x8:=cell_of_row W _ 8 _ _ _ HXW
  have x9:=cell_of_row W _ 9 _ _ _ HXW
  have x10:=cell_of_row W _ 10 _ _ _ HXW
  have x11:=cell_of_row W _ 11 _ _ _ HXW
  have x12:=cell_of_row W _ 12 _ _ _ HXW
  have x13:=cell_of_row W _ 13 _ _ _ HXW
  simp only [List.getElem?_toArray,List.getElem?_cons_zero,List.getElem?_cons_succ] at x0 x1 x2 x3 x4 x5 x6 x7 x8 x9 x10 x11 x12 x13
  have HXW':=Lib.hid HXW
  clear HXW
  have q0:=cell_belowBy x0
  have q1:=cell_belowBy x1
  have q2:=cell_belowBy x2
  have q3:=cell_belowBy x3
  have q4:=cell_belowBy x4
  have q5:=cell_belowBy x5
  have q6:=cell_belowBy x6
  have q7:=cell_belowBy x7
  have q8:=cell_belowBy x8
  have q9:=cell_belowBy x9
  have q10:=cell_belowBy x10
  have q11:=cell_belowBy x11
  have q12:=cell_belowBy x12
  have q13:=cell_belowBy x13
  clear x0 x1 x2 x3 x4 x5 x6 x7 x8 x9 x10 x11 x12 x13
  simp only [List.take_succ_cons,List.take_zero]
  repeat (go_big_quiet_step (first | (go_at_call 36;with_reducible exact calls_belowBy (HN0.out _)) | (go_at_call 35;with_reducible exact calls_same (HN1.out _))))
  exact wpQuiet_nil rfl
 refine any_one 14 (by kernel_rfl) rfl rfl (LoudB.mkD none (ι:=Unit) (fun _=>undef) (fun _=>CX w3 #[.int .i64 q.ask,.int .i64 q.kind,.int .i64 0,.string ⟨#[]⟩,.string ⟨#[]⟩,.int .i64 0,.slice none 0 0,.string q.id,.int .i64 0,.int .i64 0,.int .i64 0,.string ⟨#[]⟩,.string ⟨#[]⟩,.int .i64 0]) rfl (fun _=>CX.stable w3 _) (fun _ _ h=>h.1) (fun W hS K hK=>?_) (fun _=>?_))
 ·obtain ⟨hS1,hS2⟩:=hS
  have c0:=cell_of_row W _ 7 _ _ _ hS2
  have f0:=frozen_of_row W _ 7 _ _ hS2
  simp only [List.getElem?_toArray,List.getElem?_cons_zero,List.getElem?_cons_succ] at c0
  have hz:=lt_of_block hS2
  go_simp
  exact hK () _ ⟨(hS1.setCell (by simp only;omega) _),(row_set (i:=7) hS2)⟩
 simp only [Act.put]
 refine any_one 15 (by kernel_rfl) rfl rfl (LoudB.mkD (some 55) (ι:=Unit) (fun _=>.pointer (some ⟨w3.heap.size,8,none⟩)) (fun _=>CX w3 #[.int .i64 q.ask,.int .i64 q.kind,.int .i64 0,.string ⟨#[]⟩,.string ⟨#[]⟩,.int .i64 0,.slice none 0 0,.string q.id,.int .i64 0,.int .i64 0,.int .i64 0,.string ⟨#[]⟩,.string ⟨#[]⟩,.int .i64 0]) rfl (fun _=>CX.stable w3 _) (fun _ _ h=>h.1) (fun W hS K hK=>?_) (fun _=>?_))
 ·go_simp
  exact hK () _ hS
 simp only [Act.put,List.setIfInBounds_toArray,List.set_cons_succ,List.set_cons_zero]
 refine any_one 16 (by kernel_rfl) rfl rfl (LoudB.mkD none (ι:=Unit) (fun _=>undef) (fun _=>CX w3 #[.int .i64 q.ask,.int .i64 q.kind,.int .i64 0,.string ⟨#[]⟩,.string ⟨#[]⟩,.int .i64 0,.slice none 0 0,.string q.id,.int .i64 q.n,.int .i64 0,.int .i64 0,.string ⟨#[]⟩,.string ⟨#[]⟩,.int .i64 0]) rfl (fun _=>CX.stable w3 _) (fun _ _ h=>h.1) (fun W hS K hK=>?_) (fun _=>?_))
 ·obtain ⟨hS1,hS2⟩:=hS
  have c0:=cell_of_row W _ 8 _ _ _ hS2
  have f0:=frozen_of_row W _ 8 _ _ hS2
  simp only [List.getElem?_toArray,List.getElem?_cons_zero,List.getElem?_cons_succ] at c0
  have hz:=lt_of_block hS2
  go_simp
  exact hK () _ ⟨(hS1.setCell (by simp only;omega) _),(row_set (i:=8) hS2)⟩
 simp only [Act.put]
 refine any_one 17 (by kernel_rfl) rfl rfl (LoudB.mkD (some 5) (ι:=Unit) (fun _=>.bool false) (fun _=>CX w3 #[.int .i64 q.ask,.int .i64 q.kind,.int .i64 0,.string ⟨#[]⟩,.string ⟨#[]⟩,.int .i64 0,.slice none 0 0,.string q.id,.int .i64 q.n,.int .i64 0,.int .i64 0,.string ⟨#[]⟩,.string ⟨#[]⟩,.int .i64 0]) rfl (fun _=>CX.stable w3 _) (fun _ _ h=>h.1) (fun W hS K hK=>?_) (fun _=>?_))
 ·go_simp
  exact hK () _ hS
 simp only [Act.put,List.setIfInBounds_toArray,List.set_cons_succ,List.set_cons_zero]
 refine any_end (by kernel_rfl) fun w5 hw5=>?_
 obtain ⟨hb5,hX5⟩:=hw5
 have B5:=below_step B3 (Nat.le_refl _) hb5
 have HX5:=Lib.hid hX5
 have H5:=Lib.hid (row_later hb5 H3.out)
 clear hb5 hX5
 have xz:=lt_of_block H5.out
 have x0:=cell_of_row w5 _ 0 _ _ _ H5.out
 have x1:=cell_of_row w5 _ 1 _ _ _ H5.out
 have x2:=cell_of_row w5 _ 2 _ _ _ H5.out
 have x3:=cell_of_row w5 _ 3 _ _ _ H5.out
 have x4:=cell_of_row w5 _ 4 _ _ _ H5.out
 have x5:=cell_of_row w5 _ 5 _ _ _ H5.out
 have x6:=cell_of_row w5 _ 6 _ _ _ H5.out
 have x7:=cell_of_row w5 _ 7 _ _ _ H5.out
 have x8:=cell_of_row w5 _ 8 _ _ _ H5.out
 have x9:=cell_of_row w5 _ 9 _ _ _ H5.out
 have x10:=cell_of_row w5 _ 10 _ _ _ H5.out
 have x11:=cell_of_row w5 _ 11 _ _ _ H5.out
 have x12:=cell_of_row w5 _ 12 _ _ _ H5.out
 have x13:=cell_of_row w5 _ 13 _ _ _ H5.out
 simp only [List.getElem?_toArray,List.getElem?_cons_zero,List.getElem?_cons_succ] at x0 x1 x2 x3 x4 x5 x6 x7 x8 x9 x10 x11 x12 x13
 have yz:=lt_of_block HX5.out
 have y0:=cell_of_row w5 _ 0 _ _ _ HX5.out
 have y1:=cell_of_row w5 _ 1 _ _ _ HX5.out
 have y2:=cell_of_row w5 _ 2 _ _ _ HX5.out
 have y3:=cell_of_row w5 _ 3 _ _ _ HX5.out
 have y4:=cell_of_row w5 _ 4 _ _ _ HX5.out
 have y5:=cell_of_row w5 _ 5 _ _ _ HX5.out
 have y6:=cell_of_row w5 _ 6 _ _ _ HX5.out
 have y7:=cell_of_row w5 _ 7 _ _ _ HX5.out
 have y8:=cell_of_row w5 _ 8 _ _ _ HX5.out
 have y9:=cell_of_row w5 _ 9 _ _ _ HX5.out
 have y10:=cell_of_row w5 _ 10 _ _ _ HX5.out
 have y11:=cell_of_row w5 _ 11 _ _ _ HX5.out
 have y12:=cell_of_row w5 _ 12 _ _ _ HX5.out
 have y13:=cell_of_row w5 _ 13 _ _ _ HX5.out
 simp only [List.getElem?_toArray,List.getElem?_cons_zero,List.getElem?_cons_succ] at y0 y1 y2 y3 y4 y5 y6 y7 y8 y9 y10 y11 y12 y13
 go_wp2
 go_ret
 exact ⟨rfl,B5⟩
set_option maxRecDepth 100000 in
set_option maxHeartbeats 16000000 in
theorem validQ3b (q:QryD) (a:Option Addr) (cap:Nat) (w:World) (hc:CondIs w q.wher a) (hk:0≤q.kind∧q.kind<6) (ha:q.ask=3) (hz0:q.id.size≤140737488355328) (hR:validC q.wher=true) (hN0:nameB q.id=true) (hN1:decide (0≤q.n∧q.n≤1048576)=false) :
  Calls Tryz.prog 12 #[qryV q a cap] w fun e w'=>e=.returned (.bool (validQ q))∧Below w.heap.size w w':=by
 have a1:(q.ask==1)=false:=by rw [beq_eq_false_iff_ne];omega
 have a2:(q.ask==2)=false:=by rw [beq_eq_false_iff_ne];omega
 have a3:(q.ask==3)=true:=by rw [beq_iff_eq];exact ha
 have HN0:=Lib.hid (fun W=>name_any q.id hz0 W)
 have HN1:=Lib.hid (fun W=>within_any q.n 0 1048576 W)
 have HE:=Lib.hid (show validQ q=(nameB q.id && decide (0≤q.n∧q.n≤1048576) && decide (q.x=0∧q.y=0∧q.key.toList=[]∧q.prof.toList=[]∧q.minute=0)) by
  unfold validQ
  rw [if_neg (by omega)];rw [if_neg (by omega)];rw [if_pos ha,hR,decide_eq_true hk,Bool.eq_iff_iff]
  simp only [←emp_iff,Bool.and_eq_true,decide_eq_true_eq,Bool.true_and]
  try omega
  try (constructor<;>intro h<;>simp_all))
 rw [HE.out]
 clear HE ha
 rw [hN0] at HN0 ⊢
 clear hN0
 rw [hN1] at HN1 ⊢
 clear hN1
 try simp only [Bool.false_and,Bool.true_and]
 have B1:=(Below.refl w.heap.size w).alloc (Nat.le_refl _) (.cells (qryC q a cap) 28)
 obtain ⟨w1,hw1⟩:∃w1,w.alloc (.cells (qryC q a cap) 28)=w1:=⟨_,rfl⟩
 have H1:=Lib.hid (row_new w (.cells (qryC q a cap) 28))
 rw [hw1] at B1 H1
 have HW:=Lib.hid hw1
 have hmx:Tryz.prog.follows .mixedOrders=true:=by kernel_rfl
 have HC1:=Lib.hid (hc.later B1)
 have HV:=Lib.hid (fun W (hb:Below w1.heap.size w1 W)=>valid_any q.wher a cap W (HC1.out.later hb))
 clear hc hw1
 have d0:decide (q.kind<0)=false:=by rw [decide_eq_false_iff_not];omega
 have d6:decide ((6:Int)≤q.kind)=false:=by rw [decide_eq_false_iff_not];omega
 rw [hR] at HV
 go_enter Tryz.func12,Tryz.ntmps12
 go_wp2
 rw [HW.out]
 refine wp_region_mix 6 (fun W=>Below w1.heap.size w1 W) (fun W=>Below w1.heap.size w1 W) hmx (by kernel_rfl) (by kernel_rfl) (by kernel_rfl) (StableW.below _ _ (Nat.le_refl _)) (fun W hW=>hW) (Below.refl _ _).drew ?_
 apply Exists.intro
 refine ⟨fun W hW=>?_,?_⟩
 ·have HXW:=row_later hW H1.out
  clear hW
  have xz:=lt_of_block HXW
  have x0:=cell_of_row W _ 0 _ _ _ HXW
  have x1:=cell_of_row W _ 1 _ _ _ HXW
  have x2:=cell_of_row W _ 2 _ _ _ HXW
  have x3:=cell_of_row W _ 3 _ _ _ HXW
  have x4:=cell_of_row W _ 4 _ _ _ HXW
  have x5:=cell_of_row W _ 5 _ _ _ HXW
  have x6:=cell_of_row W _ 6 _ _ _ HXW
  have x7:=cell_of_row W _ 7 _ _ _ HXW
  have x8:=cell_of_row W _ 8 _ _ _ HXW
  have x9:=cell_of_row W _ 9 _ _ _ HXW
  have x10:=cell_of_row W _ 10 _ _ _ HXW
  have x11:=cell_of_row W _ 11 _ _ _ HXW
  have x12:=cell_of_row W _ 12 _ _ _ HXW
  have x13:=cell_of_row W _ 13 _ _ _ HXW
  simp only [List.getElem?_toArray,List.getElem?_cons_zero,List.getElem?_cons_succ] at x0 x1 x2 x3 x4 x5 x6 x7 x8 x9 x10 x11 x12 x13
  have HXW':=Lib.hid HXW
  clear HXW
  have q1:=cell_belowBy x1
  clear x0 x1 x2 x3 x4 x5 x6 x7 x8 x9 x10 x11 x12 x13
  simp only [List.take_succ_cons,List.take_zero]
  repeat (go_big_quiet_step (fail))
  exact wpQuiet_nil rfl
 simp only [List.drop_succ_cons,List.drop_zero]
 refine tailM_step (ι:=Nat) (fun g=>.slice (some ⟨g,0,none⟩) 6 6) (fun g W=>Below w1.heap.size w1 W) rfl (fun g=>StableW.below _ _ (Nat.le_refl _)) (fun _ _ h=>h) (fun W hS K hK=>?_) (fun g=>?_)
 ·go_simp
  refine (words_any W).mono ?_
  rintro e w2 ⟨rfl,-,hb2⟩
  exact hK W.heap.size _ (below_step hS (Nat.le_refl _) hb2)
 simp only [Act.put,List.setIfInBounds_toArray,List.set_cons_succ,List.set_cons_zero]
 refine tailM_pure (.int .i64 6) rfl (StableW.below _ _ (Nat.le_refl _)) (fun _ h=>h) (fun W hS K hK=>?_) ?_
 ·have HXW:=row_later hS H1.out
  have yz:=lt_of_block HXW
  have y0:=cell_of_row W _ 0 _ _ _ HXW
  have y1:=cell_of_row W _ 1 _ _ _ HXW
  have y2:=cell_of_row W _ 2 _ _ _ HXW
  have y3:=cell_of_row W _ 3 _ _ _ HXW
  have y4:=cell_of_row W _ 4 _ _ _ HXW
  have y5:=cell_of_row W _ 5 _ _ _ HXW
  have y6:=cell_of_row W _ 6 _ _ _ HXW
  have y7:=cell_of_row W _ 7 _ _ _ HXW
  have y8:=cell_of_row W _ 8 _ _ _ HXW
  have y9:=cell_of_row W _ 9 _ _ _ HXW
  have y10:=cell_of_row W _ 10 _ _ _ HXW
  have y11:=cell_of_row W _ 11 _ _ _ HXW
  have y12:=cell_of_row W _ 12 _ _ _ HXW
  have y13:=cell_of_row W _ 13 _ _ _ HXW
  simp only [List.getElem?_toArray,List.getElem?_cons_zero,List.getElem?_cons_succ] at y0 y1 y2 y3 y4 y5 y6 y7 y8 y9 y10 y11 y12 y13
  have HXW':=Lib.hid HXW
  clear HXW
  go_simp
  exact hK
 simp only [Act.put,List.setIfInBounds_toArray,List.set_cons_succ,List.set_cons_zero]
 refine tailM_pure (.bool false) rfl (StableW.below _ _ (Nat.le_refl _)) (fun _ h=>h) (fun W hS K hK=>?_) ?_
 ·have HXW:=row_later hS H1.out
  have yz:=lt_of_block HXW
  have y0:=cell_of_row W _ 0 _ _ _ HXW
  have y1:=cell_of_row W _ 1 _ _ _ HXW
  have y2:=cell_of_row W _ 2 _ _ _ HXW
  have y3:=cell_of_row W _ 3 _ _ _ HXW
  have y4:=cell_of_row W _ 4 _ _ _ HXW
  have y5:=cell_of_row W _ 5 _ _ _ HXW
  have y6:=cell_of_row W _ 6 _ _ _ HXW
  have y7:=cell_of_row W _ 7 _ _ _ HXW
  have y8:=cell_of_row W _ 8 _ _ _ HXW
  have y9:=cell_of_row W _ 9 _ _ _ HXW
  have y10:=cell_of_row W _ 10 _ _ _ HXW
  have y11:=cell_of_row W _ 11 _ _ _ HXW
  have y12:=cell_of_row W _ 12 _ _ _ HXW
  have y13:=cell_of_row W _ 13 _ _ _ HXW
  simp only [List.getElem?_toArray,List.getElem?_cons_zero,List.getElem?_cons_succ] at y0 y1 y2 y3 y4 y5 y6 y7 y8 y9 y10 y11 y12 y13
  have HXW':=Lib.hid HXW
  clear HXW
  go_simp
  exact hK
 simp only [Act.put,List.setIfInBounds_toArray,List.set_cons_succ,List.set_cons_zero]
 refine tailM_pure (.bool false) rfl (StableW.below _ _ (Nat.le_refl _)) (fun _ h=>h) (fun W hS K hK=>?_) ?_
 ·have HXW:=row_later hS H1.out
  have yz:=lt_of_block HXW
  have y0:=cell_of_row W _ 0 _ _ _ HXW
  have y1:=cell_of_row W _ 1 _ _ _ HXW
  have y2:=cell_of_row W _ 2 _ _ _ HXW
  have y3:=cell_of_row W _ 3 _ _ _ HXW
  have y4:=cell_of_row W _ 4 _ _ _ HXW
  have y5:=cell_of_row W _ 5 _ _ _ HXW
  have y6:=cell_of_row W _ 6 _ _ _ HXW
  have y7:=cell_of_row W _ 7 _ _ _ HXW
  have y8:=cell_of_row W _ 8 _ _ _ HXW
  have y9:=cell_of_row W _ 9 _ _ _ HXW
  have y10:=cell_of_row W _ 10 _ _ _ HXW
  have y11:=cell_of_row W _ 11 _ _ _ HXW
  have y12:=cell_of_row W _ 12 _ _ _ HXW
  have y13:=cell_of_row W _ 13 _ _ _ HXW
  simp only [List.getElem?_toArray,List.getElem?_cons_zero,List.getElem?_cons_succ] at y0 y1 y2 y3 y4 y5 y6 y7 y8 y9 y10 y11 y12 y13
  have HXW':=Lib.hid HXW
  clear HXW
  go_simp
  exact hK
 simp only [Act.put,List.setIfInBounds_toArray,List.set_cons_succ,List.set_cons_zero]
 refine tailM_pure (.bool false) rfl (StableW.below _ _ (Nat.le_refl _)) (fun _ h=>h) (fun W hS K hK=>?_) ?_
 ·have HXW:=row_later hS H1.out
  have yz:=lt_of_block HXW
  have y0:=cell_of_row W _ 0 _ _ _ HXW
  have y1:=cell_of_row W _ 1 _ _ _ HXW
  have y2:=cell_of_row W _ 2 _ _ _ HXW
  have y3:=cell_of_row W _ 3 _ _ _ HXW
  have y4:=cell_of_row W _ 4 _ _ _ HXW
  have y5:=cell_of_row W _ 5 _ _ _ HXW
  have y6:=cell_of_row W _ 6 _ _ _ HXW
  have y7:=cell_of_row W _ 7 _ _ _ HXW
  have y8:=cell_of_row W _ 8 _ _ _ HXW
  have y9:=cell_of_row W _ 9 _ _ _ HXW
  have y10:=cell_of_row W _ 10 _ _ _ HXW
  have y11:=cell_of_row W _ 11 _ _ _ HXW
  have y12:=cell_of_row W _ 12 _ _ _ HXW
  have y13:=cell_of_row W _ 13 _ _ _ HXW
  simp only [List.getElem?_toArray,List.getElem?_cons_zero,List.getElem?_cons_succ] at y0 y1 y2 y3 y4 y5 y6 y7 y8 y9 y10 y11 y12 y13
  have HXW':=Lib.hid HXW
  clear HXW
  go_simp
  exact hK
 simp only [Act.put,List.setIfInBounds_toArray,List.set_cons_succ,List.set_cons_zero]
 refine tailM_pure (.pointer (some ⟨w.heap.size,2,none⟩)) rfl (StableW.below _ _ (Nat.le_refl _)) (fun _ h=>h) (fun W hS K hK=>?_) ?_
 ·have HXW:=row_later hS H1.out
  have yz:=lt_of_block HXW
  have y0:=cell_of_row W _ 0 _ _ _ HXW
  have y1:=cell_of_row W _ 1 _ _ _ HXW
  have y2:=cell_of_row W _ 2 _ _ _ HXW
  have y3:=cell_of_row W _ 3 _ _ _ HXW
  have y4:=cell_of_row W _ 4 _ _ _ HXW
  have y5:=cell_of_row W _ 5 _ _ _ HXW
  have y6:=cell_of_row W _ 6 _ _ _ HXW
  have y7:=cell_of_row W _ 7 _ _ _ HXW
  have y8:=cell_of_row W _ 8 _ _ _ HXW
  have y9:=cell_of_row W _ 9 _ _ _ HXW
  have y10:=cell_of_row W _ 10 _ _ _ HXW
  have y11:=cell_of_row W _ 11 _ _ _ HXW
  have y12:=cell_of_row W _ 12 _ _ _ HXW
  have y13:=cell_of_row W _ 13 _ _ _ HXW
  simp only [List.getElem?_toArray,List.getElem?_cons_zero,List.getElem?_cons_succ] at y0 y1 y2 y3 y4 y5 y6 y7 y8 y9 y10 y11 y12 y13
  have HXW':=Lib.hid HXW
  clear HXW
  go_simp
  exact hK
 simp only [Act.put,List.setIfInBounds_toArray,List.set_cons_succ,List.set_cons_zero]
 refine tailM_pure (condV q.wher a cap) rfl (StableW.below _ _ (Nat.le_refl _)) (fun _ h=>h) (fun W hS K hK=>?_) ?_
 ·have HXW:=row_later hS H1.out
  have yz:=lt_of_block HXW
  have y0:=cell_of_row W _ 0 _ _ _ HXW
  have y1:=cell_of_row W _ 1 _ _ _ HXW
  have y2:=cell_of_row W _ 2 _ _ _ HXW
  have y3:=cell_of_row W _ 3 _ _ _ HXW
  have y4:=cell_of_row W _ 4 _ _ _ HXW
  have y5:=cell_of_row W _ 5 _ _ _ HXW
  have y6:=cell_of_row W _ 6 _ _ _ HXW
  have y7:=cell_of_row W _ 7 _ _ _ HXW
  have y8:=cell_of_row W _ 8 _ _ _ HXW
  have y9:=cell_of_row W _ 9 _ _ _ HXW
  have y10:=cell_of_row W _ 10 _ _ _ HXW
  have y11:=cell_of_row W _ 11 _ _ _ HXW
  have y12:=cell_of_row W _ 12 _ _ _ HXW
  have y13:=cell_of_row W _ 13 _ _ _ HXW
  simp only [List.getElem?_toArray,List.getElem?_cons_zero,List.getElem?_cons_succ] at y0 y1 y2 y3 y4 y5 y6 y7 y8 y9 y10 y11 y12 y13
  have HXW':=Lib.hid HXW
  clear HXW
  go_simp
  exact hK
 simp only [Act.put,List.setIfInBounds_toArray,List.set_cons_succ,List.set_cons_zero]
 refine tailM_step (ι:=Unit) (fun _=>.bool true) (fun _ W=>Below w1.heap.size w1 W) rfl (fun _=>StableW.below _ _ (Nat.le_refl _)) (fun _ _ h=>h) (fun W hS K hK=>?_) (fun _=>?_)
 ·go_simp
  refine (HV.out W hS).mono ?_
  rintro e w2 ⟨rfl,hb2⟩
  exact hK () _ (below_step hS (Nat.le_refl _) hb2)
 simp only [Act.put,List.setIfInBounds_toArray,List.set_cons_succ,List.set_cons_zero]
 refine tailM_pure (.bool false) rfl (StableW.below _ _ (Nat.le_refl _)) (fun _ h=>h) (fun W hS K hK=>?_) ?_
 ·have HXW:=row_later hS H1.out
  have yz:=lt_of_block HXW
  have y0:=cell_of_row W _ 0 _ _ _ HXW
  have y1:=cell_of_row W _ 1 _ _ _ HXW
  have y2:=cell_of_row W _ 2 _ _ _ HXW
  have y3:=cell_of_row W _ 3 _ _ _ HXW
  have y4:=cell_of_row W _ 4 _ _ _ HXW
  have y5:=cell_of_row W _ 5 _ _ _ HXW
  have y6:=cell_of_row W _ 6 _ _ _ HXW
  have y7:=cell_of_row W _ 7 _ _ _ HXW
  have y8:=cell_of_row W _ 8 _ _ _ HXW
  have y9:=cell_of_row W _ 9 _ _ _ HXW
  have y10:=cell_of_row W _ 10 _ _ _ HXW
  have y11:=cell_of_row W _ 11 _ _ _ HXW
  have y12:=cell_of_row W _ 12 _ _ _ HXW
  have y13:=cell_of_row W _ 13 _ _ _ HXW
  simp only [List.getElem?_toArray,List.getElem?_cons_zero,List.getElem?_cons_succ] at y0 y1 y2 y3 y4 y5 y6 y7 y8 y9 y10 y11 y12 y13
  have HXW':=Lib.hid HXW
  clear HXW
  go_simp
  exact hK
 simp only [Act.put,List.setIfInBounds_toArray,List.set_cons_succ,List.set_cons_zero]
 refine tailM_pure (.bool false) rfl (StableW.below _ _ (Nat.le_refl _)) (fun _ h=>h) (fun W hS K hK=>?_) ?_
 ·have HXW:=row_later hS H1.out
  have yz:=lt_of_block HXW
  have y0:=cell_of_row W _ 0 _ _ _ HXW
  have y1:=cell_of_row W _ 1 _ _ _ HXW
  have y2:=cell_of_row W _ 2 _ _ _ HXW
  have y3:=cell_of_row W _ 3 _ _ _ HXW
  have y4:=cell_of_row W _ 4 _ _ _ HXW
  have y5:=cell_of_row W _ 5 _ _ _ HXW
  have y6:=cell_of_row W _ 6 _ _ _ HXW
  have y7:=cell_of_row W _ 7 _ _ _ HXW
  have y8:=cell_of_row W _ 8 _ _ _ HXW
  have y9:=cell_of_row W _ 9 _ _ _ HXW
  have y10:=cell_of_row W _ 10 _ _ _ HXW
  have y11:=cell_of_row W _ 11 _ _ _ HXW
  have y12:=cell_of_row W _ 12 _ _ _ HXW
  have y13:=cell_of_row W _ 13 _ _ _ HXW
  simp only [List.getElem?_toArray,List.getElem?_cons_zero,List.getElem?_cons_succ] at y0 y1 y2 y3 y4 y5 y6 y7 y8 y9 y10 y11 y12 y13
  have HXW':=Lib.hid HXW
  clear HXW
  go_simp
  exact hK
 simp only [Act.put,List.setIfInBounds_toArray,List.set_cons_succ,List.set_cons_zero]
 refine tailM_nil fun w3 hb3=>?_
 have B3:=below_step B1 (Nat.le_refl _) hb3
 have H3:=Lib.hid (row_later hb3 H1.out)
 clear hb3 d0 d6 HW HV H1 B1 hR
 have xz:=lt_of_block H3.out
 have x0:=cell_of_row w3 _ 0 _ _ _ H3.out
 have x1:=cell_of_row w3 _ 1 _ _ _ H3.out
 have x2:=cell_of_row w3 _ 2 _ _ _ H3.out
 have x3:=cell_of_row w3 _ 3 _ _ _ H3.out
 have x4:=cell_of_row w3 _ 4 _ _ _ H3.out
 have x5:=cell_of_row w3 _ 5 _ _ _ H3.out
 have x6:=cell_of_row w3 _ 6 _ _ _ H3.out
 have x7:=cell_of_row w3 _ 7 _ _ _ H3.out
 have x8:=cell_of_row w3 _ 8 _ _ _ H3.out
 have x9:=cell_of_row w3 _ 9 _ _ _ H3.out
 have x10:=cell_of_row w3 _ 10 _ _ _ H3.out
 have x11:=cell_of_row w3 _ 11 _ _ _ H3.out
 have x12:=cell_of_row w3 _ 12 _ _ _ H3.out
 have x13:=cell_of_row w3 _ 13 _ _ _ H3.out
 simp only [List.getElem?_toArray,List.getElem?_cons_zero,List.getElem?_cons_succ] at x0 x1 x2 x3 x4 x5 x6 x7 x8 x9 x10 x11 x12 x13
 go_wp2
 generalize hw4:w3.alloc (.cells #[.int .i64 q.ask,.int .i64 q.kind,.int .i64 0,.string ⟨#[]⟩,.string ⟨#[]⟩,.int .i64 0,.slice none 0 0,.string ⟨#[]⟩,.int .i64 0,.int .i64 0,.int .i64 0,.string ⟨#[]⟩,.string ⟨#[]⟩,.int .i64 0] 28)=w4
 have hX:=row_new w3 (.cells #[.int .i64 q.ask,.int .i64 q.kind,.int .i64 0,.string ⟨#[]⟩,.string ⟨#[]⟩,.int .i64 0,.slice none 0 0,.string ⟨#[]⟩,.int .i64 0,.int .i64 0,.int .i64 0,.string ⟨#[]⟩,.string ⟨#[]⟩,.int .i64 0] 28)
 have hb34:=(Below.refl w3.heap.size w3).alloc (Nat.le_refl _) (.cells #[.int .i64 q.ask,.int .i64 q.kind,.int .i64 0,.string ⟨#[]⟩,.string ⟨#[]⟩,.int .i64 0,.slice none 0 0,.string ⟨#[]⟩,.int .i64 0,.int .i64 0,.int .i64 0,.string ⟨#[]⟩,.string ⟨#[]⟩,.int .i64 0] 28)
 rw [hw4] at hX hb34
 have HX4:=Lib.hid hX
 have HB34:=Lib.hid hb34
 clear hX hb34 hw4
 clear x0 x1 x2 x3 x4 x5 x6 x7 x8 x9 x10 x11 x12 x13 xz
 refine wp_region_nodes 14 4 (fun W=>Below w3.heap.size w3 W) (CX w3 #[.int .i64 q.ask,.int .i64 q.kind,.int .i64 0,.string ⟨#[]⟩,.string ⟨#[]⟩,.int .i64 0,.slice none 0 0,.string ⟨#[]⟩,.int .i64 0,.int .i64 0,.int .i64 0,.string ⟨#[]⟩,.string ⟨#[]⟩,.int .i64 0]) hmx (by kernel_rfl) (by kernel_rfl) (by kernel_rfl) (CX.stable w3 _) (fun _ h=>h.1) ⟨HB34.out.drew,HX4.out⟩ (by kernel_rfl) ?_
 apply Exists.intro
 refine ⟨fun W hW=>?_,?_⟩
 ·have HXW:=row_later hW H3.out
  clear hW
  have xz:=lt_of_block HXW
  have x0:=cell_of_row W _ 0 _ _ _ HXW
  have x1:=cell_of_row W _ 1 _ _ _ HXW
  have x2:=cell_of_row W _ 2 _ _ _ HXW
  have x3:=cell_of_row W _ 3 _ _ _ HXW
  have x4:=cell_of_row W _ 4 _ _ _ HXW
  have x5:=cell_of_row W _ 5 _ _ _ HXW
  have x6:=cell_of_row W _ 6 _ _ _ HXW
  have x7:=cell_of_row W _ 7 _ _ _ HXW
  have x8:=cell_of_row W _ 8 _ _ _ HXW
  have x9:=cell_of_row W _ 9 _ _ _ HXW
  have x10:=cell_of_row W _ 10 _ _ _ HXW
  have x11:=cell_of_row W _ 11 _ _ _ HXW
  have x12:=cell_of_row W _ 12 _ _ _ HXW
  have x13:=cell_of_row W _ 13 _ _ _ HXW
  simp only [List.getElem?_toArray,List.getElem?_cons_zero,List.getElem?_cons_succ] at x0 x1 x2 x3 x4 x5 x6 x7 x8 x9 x10 x11 x12 x13
  have HXW':=Lib.hid HXW
  clear HXW
  have q0:=cell_belowBy x0
  have q1:=cell_belowBy x1
  have q2:=cell_belowBy x2
  have q3:=cell_belowBy x3
  have q4:=cell_belowBy x4
  have q5:=cell_belowBy x5
  have q6:=cell_belowBy x6
  have q7:=cell_belowBy x7
  have q8:=cell_belowBy x8
  have q9:=cell_belowBy x9
  have q10:=cell_belowBy x10
  have q11:=cell_belowBy x11
  have q12:=cell_belowBy x12
  have q13:=cell_belowBy x13
  clear x0 x1 x2 x3 x4 x5 x6 x7 x8 x9 x10 x11 x12 x13
  simp only [List.take_succ_cons,List.take_zero]
  repeat (go_big_quiet_step (first | (go_at_call 36;with_reducible exact calls_belowBy (HN0.out _)) | (go_at_call 35;with_reducible exact calls_same (HN1.out _))))
  exact wpQuiet_nil rfl
 refine any_one 14 (by kernel_rfl) rfl rfl (LoudB.mkD none (ι:=Unit) (fun _=>undef) (fun _=>CX w3 #[.int .i64 q.ask,.int .i64 q.kind,.int .i64 0,.string ⟨#[]⟩,.string ⟨#[]⟩,.int .i64 0,.slice none 0 0,.string q.id,.int .i64 0,.int .i64 0,.int .i64 0,.string ⟨#[]⟩,.string ⟨#[]⟩,.int .i64 0]) rfl (fun _=>CX.stable w3 _) (fun _ _ h=>h.1) (fun W hS K hK=>?_) (fun _=>?_))
 ·obtain ⟨hS1,hS2⟩:=hS
  have c0:=cell_of_row W _ 7 _ _ _ hS2
  have f0:=frozen_of_row W _ 7 _ _ hS2
  simp only [List.getElem?_toArray,List.getElem?_cons_zero,List.getElem?_cons_succ] at c0
  have hz:=lt_of_block hS2
  go_simp
  exact hK () _ ⟨(hS1.setCell (by simp only;omega) _),(row_set (i:=7) hS2)⟩
 simp only [Act.put]
 refine any_one 15 (by kernel_rfl) rfl rfl (LoudB.mkD (some 55) (ι:=Unit) (fun _=>.pointer (some ⟨w3.heap.size,8,none⟩)) (fun _=>CX w3 #[.int .i64 q.ask,.int .i64 q.kind,.int .i64 0,.string ⟨#[]⟩,.string ⟨#[]⟩,.int .i64 0,.slice none 0 0,.string q.id,.int .i64 0,.int .i64 0,.int .i64 0,.string ⟨#[]⟩,.string ⟨#[]⟩,.int .i64 0]) rfl (fun _=>CX.stable w3 _) (fun _ _ h=>h.1) (fun W hS K hK=>?_) (fun _=>?_))
 ·go_simp
  exact hK () _ hS
 simp only [Act.put,List.setIfInBounds_toArray,List.set_cons_succ,List.set_cons_zero]
 refine any_one 16 (by kernel_rfl) rfl rfl (LoudB.mkD none (ι:=Unit) (fun _=>undef) (fun _=>CX w3 #[.int .i64 q.ask,.int .i64 q.kind,.int .i64 0,.string ⟨#[]⟩,.string ⟨#[]⟩,.int .i64 0,.slice none 0 0,.string q.id,.int .i64 q.n,.int .i64 0,.int .i64 0,.string ⟨#[]⟩,.string ⟨#[]⟩,.int .i64 0]) rfl (fun _=>CX.stable w3 _) (fun _ _ h=>h.1) (fun W hS K hK=>?_) (fun _=>?_))
 ·obtain ⟨hS1,hS2⟩:=hS
  have c0:=cell_of_row W _ 8 _ _ _ hS2
  have f0:=frozen_of_row W _ 8 _ _ hS2
  simp only [List.getElem?_toArray,List.getElem?_cons_zero,List.getElem?_cons_succ] at c0
  have hz:=lt_of_block hS2
  go_simp
  exact hK () _ ⟨(hS1.setCell (by simp only;omega) _),(row_set (i:=8) hS2)⟩
 simp only [Act.put]
 refine any_one 17 (by kernel_rfl) rfl rfl (LoudB.mkD (some 5) (ι:=Unit) (fun _=>.bool false) (fun _=>CX w3 #[.int .i64 q.ask,.int .i64 q.kind,.int .i64 0,.string ⟨#[]⟩,.string ⟨#[]⟩,.int .i64 0,.slice none 0 0,.string q.id,.int .i64 q.n,.int .i64 0,.int .i64 0,.string ⟨#[]⟩,.string ⟨#[]⟩,.int .i64 0]) rfl (fun _=>CX.stable w3 _) (fun _ _ h=>h.1) (fun W hS K hK=>?_) (fun _=>?_))
 ·go_simp
  exact hK () _ hS
 simp only [Act.put,List.setIfInBounds_toArray,List.set_cons_succ,List.set_cons_zero]
 refine any_end (by kernel_rfl) fun w5 hw5=>?_
 obtain ⟨hb5,hX5⟩:=hw5
 have B5:=below_step B3 (Nat.le_refl _) hb5
 have HX5:=Lib.hid hX5
 have H5:=Lib.hid (row_later hb5 H3.out)
 clear hb5 hX5
 have xz:=lt_of_block H5.out
 have x0:=cell_of_row w5 _ 0 _ _ _ H5.out
 have x1:=cell_of_row w5 _ 1 _ _ _ H5.out
 have x2:=cell_of_row w5 _ 2 _ _ _ H5.out
 have x3:=cell_of_row w5 _ 3 _ _ _ H5.out
 have x4:=cell_of_row w5 _ 4 _ _ _ H5.out
 have x5:=cell_of_row w5 _ 5 _ _ _ H5.out
 have x6:=cell_of_row w5 _ 6 _ _ _ H5.out
 have x7:=cell_of_row w5 _ 7 _ _ _ H5.out
 have x8:=cell_of_row w5 _ 8 _ _ _ H5.out
 have x9:=cell_of_row w5 _ 9 _ _ _ H5.out
 have x10:=cell_of_row w5 _ 10 _ _ _ H5.out
 have x11:=cell_of_row w5 _ 11 _ _ _ H5.out
 have x12:=cell_of_row w5 _ 12 _ _ _ H5.out
 have x13:=cell_of_row w5 _ 13 _ _ _ H5.out
 simp only [List.getElem?_toArray,List.getElem?_cons_zero,List.getElem?_cons_succ] at x0 x1 x2 x3 x4 x5 x6 x7 x8 x9 x10 x11 x12 x13
 have yz:=lt_of_block HX5.out
 have y0:=cell_of_row w5 _ 0 _ _ _ HX5.out
 have y1:=cell_of_row w5 _ 1 _ _ _ HX5.out
 have y2:=cell_of_row w5 _ 2 _ _ _ HX5.out
 have y3:=cell_of_row w5 _ 3 _ _ _ HX5.out
 have y4:=cell_of_row w5 _ 4 _ _ _ HX5.out
 have y5:=cell_of_row w5 _ 5 _ _ _ HX5.out
 have y6:=cell_of_row w5 _ 6 _ _ _ HX5.out
 have y7:=cell_of_row w5 _ 7 _ _ _ HX5.out
 have y8:=cell_of_row w5 _ 8 _ _ _ HX5.out
 have y9:=cell_of_row w5 _ 9 _ _ _ HX5.out
 have y10:=cell_of_row w5 _ 10 _ _ _ HX5.out
 have y11:=cell_of_row w5 _ 11 _ _ _ HX5.out
 have y12:=cell_of_row w5 _ 12 _ _ _ HX5.out
 have y13:=cell_of_row w5 _ 13 _ _ _ HX5.out
 simp only [List.getElem?_toArray,List.getElem?_cons_zero,List.getElem?_cons_succ] at y0 y1 y2 y3 y4 y5 y6 y7 y8 y9 y10 y11 y12 y13
 go_wp2
 go_ret
 exact ⟨rfl,B5⟩
set_option maxRecDepth 100000 in
set_option maxHeartbeats 16000000 in
theorem validQ3c (q:QryD) (a:Option Addr) (cap:Nat) (w:World) (hc:CondIs w q.wher a) (hk:0≤q.kind∧q.kind<6) (ha:q.ask=3) (hz0:q.id.size≤140737488355328) (hR:validC q.wher=true) (hN0:nameB q.id=true) (hN1:decide (0≤q.n∧q.n≤1048576)=true) :
  Calls Tryz.prog 12 #[qryV q a cap] w fun e w'=>e=.returned (.bool (validQ q))∧Below w.heap.size w w':=by
 have a1:(q.ask==1)=false:=by rw [beq_eq_false_iff_ne];omega
 have a2:(q.ask==2)=false:=by rw [beq_eq_false_iff_ne];omega
 have a3:(q.ask==3)=true:=by rw [beq_iff_eq];exact ha
 have HN0:=Lib.hid (fun W=>name_any q.id hz0 W)
 have HN1:=Lib.hid (fun W=>within_any q.n 0 1048576 W)
 have HE:=Lib.hid (show validQ q=(nameB q.id && decide (0≤q.n∧q.n≤1048576) && decide (q.x=0∧q.y=0∧q.key.toList=[]∧q.prof.toList=[]∧q.minute=0)) by
  unfold validQ
  rw [if_neg (by omega)];rw [if_neg (by omega)];rw [if_pos ha,hR,decide_eq_true hk,Bool.eq_iff_iff]
  simp only [←emp_iff,Bool.and_eq_true,decide_eq_true_eq,Bool.true_and]
  try omega
  try (constructor<;>intro h<;>simp_all))
 rw [HE.out]
 clear HE ha
 rw [hN0] at HN0 ⊢
 clear hN0
 rw [hN1] at HN1 ⊢
 clear hN1
 have B1:=(Below.refl w.heap.size w).alloc (Nat.le_refl _) (.cells (qryC q a cap) 28)
 obtain ⟨w1,hw1⟩:∃w1,w.alloc (.cells (qryC q a cap) 28)=w1:=⟨_,rfl⟩
 have H1:=Lib.hid (row_new w (.cells (qryC q a cap) 28))
 rw [hw1] at B1 H1
 have HW:=Lib.hid hw1
 have hmx:Tryz.prog.follows .mixedOrders=true:=by kernel_rfl
 have HC1:=Lib.hid (hc.later B1)
 have HV:=Lib.hid (fun W (hb:Below w1.heap.size w1 W)=>valid_any q.wher a cap W (HC1.out.later hb))
 clear hc hw1
 have d0:decide (q.kind<0)=false:=by rw [decide_eq_false_iff_not];omega
 have d6:decide ((6:Int)≤q.kind)=false:=by rw [decide_eq_false_iff_not];omega
 rw [hR] at HV
 go_enter Tryz.func12,Tryz.ntmps12
 go_wp2
 rw [HW.out]
 refine wp_region_mix 6 (fun W=>Below w1.heap.size w1 W) (fun W=>Below w1.heap.size w1 W) hmx (by kernel_rfl) (by kernel_rfl) (by kernel_rfl) (StableW.below _ _ (Nat.le_refl _)) (fun W hW=>hW) (Below.refl _ _).drew ?_
 apply Exists.intro
 refine ⟨fun W hW=>?_,?_⟩
 ·have HXW:=row_later hW H1.out
  clear hW
  have xz:=lt_of_block HXW
  have x0:=cell_of_row W _ 0 _ _ _ HXW
  have x1:=cell_of_row W _ 1 _ _ _ HXW
  have x2:=cell_of_row W _ 2 _ _ _ HXW
  have x3:=cell_of_row W _ 3 _ _ _ HXW
  have x4:=cell_of_row W _ 4 _ _ _ HXW
  have x5:=cell_of_row W _ 5 _ _ _ HXW
  have x6:=cell_of_row W _ 6 _ _ _ HXW
  have x7:=cell_of_row W _ 7 _ _ _ HXW
  have x8:=cell_of_row W _ 8 _ _ _ HXW
  have x9:=cell_of_row W _ 9 _ _ _ HXW
  have x10:=cell_of_row W _ 10 _ _ _ HXW
  have x11:=cell_of_row W _ 11 _ _ _ HXW
  have x12:=cell_of_row W _ 12 _ _ _ HXW
  have x13:=cell_of_row W _ 13 _ _ _ HXW
  simp only [List.getElem?_toArray,List.getElem?_cons_zero,List.getElem?_cons_succ] at x0 x1 x2 x3 x4 x5 x6 x7 x8 x9 x10 x11 x12 x13
  have HXW':=Lib.hid HXW
  clear HXW
  have q1:=cell_belowBy x1
  clear x0 x1 x2 x3 x4 x5 x6 x7 x8 x9 x10 x11 x12 x13
  simp only [List.take_succ_cons,List.take_zero]
  repeat (go_big_quiet_step (fail))
  exact wpQuiet_nil rfl
 simp only [List.drop_succ_cons,List.drop_zero]
 refine tailM_step (ι:=Nat) (fun g=>.slice (some ⟨g,0,none⟩) 6 6) (fun g W=>Below w1.heap.size w1 W) rfl (fun g=>StableW.below _ _ (Nat.le_refl _)) (fun _ _ h=>h) (fun W hS K hK=>?_) (fun g=>?_)
 ·go_simp
  refine (words_any W).mono ?_
  rintro e w2 ⟨rfl,-,hb2⟩
  exact hK W.heap.size _ (below_step hS (Nat.le_refl _) hb2)
 simp only [Act.put,List.setIfInBounds_toArray,List.set_cons_succ,List.set_cons_zero]
 refine tailM_pure (.int .i64 6) rfl (StableW.below _ _ (Nat.le_refl _)) (fun _ h=>h) (fun W hS K hK=>?_) ?_
 ·have HXW:=row_later hS H1.out
  have yz:=lt_of_block HXW
  have y0:=cell_of_row W _ 0 _ _ _ HXW
  have y1:=cell_of_row W _ 1 _ _ _ HXW
  have y2:=cell_of_row W _ 2 _ _ _ HXW
  have y3:=cell_of_row W _ 3 _ _ _ HXW
  have y4:=cell_of_row W _ 4 _ _ _ HXW
  have y5:=cell_of_row W _ 5 _ _ _ HXW
  have y6:=cell_of_row W _ 6 _ _ _ HXW
  have y7:=cell_of_row W _ 7 _ _ _ HXW
  have y8:=cell_of_row W _ 8 _ _ _ HXW
  have y9:=cell_of_row W _ 9 _ _ _ HXW
  have y10:=cell_of_row W _ 10 _ _ _ HXW
  have y11:=cell_of_row W _ 11 _ _ _ HXW
  have y12:=cell_of_row W _ 12 _ _ _ HXW
  have y13:=cell_of_row W _ 13 _ _ _ HXW
  simp only [List.getElem?_toArray,List.getElem?_cons_zero,List.getElem?_cons_succ] at y0 y1 y2 y3 y4 y5 y6 y7 y8 y9 y10 y11 y12 y13
  have HXW':=Lib.hid HXW
  clear HXW
  go_simp
  exact hK
 simp only [Act.put,List.setIfInBounds_toArray,List.set_cons_succ,List.set_cons_zero]
 refine tailM_pure (.bool false) rfl (StableW.below _ _ (Nat.le_refl _)) (fun _ h=>h) (fun W hS K hK=>?_) ?_
 ·have HXW:=row_later hS H1.out
  have yz:=lt_of_block HXW
  have y0:=cell_of_row W _ 0 _ _ _ HXW
  have y1:=cell_of_row W _ 1 _ _ _ HXW
  have y2:=cell_of_row W _ 2 _ _ _ HXW
  have y3:=cell_of_row W _ 3 _ _ _ HXW
  have y4:=cell_of_row W _ 4 _ _ _ HXW
  have y5:=cell_of_row W _ 5 _ _ _ HXW
  have y6:=cell_of_row W _ 6 _ _ _ HXW
  have y7:=cell_of_row W _ 7 _ _ _ HXW
  have y8:=cell_of_row W _ 8 _ _ _ HXW
  have y9:=cell_of_row W _ 9 _ _ _ HXW
  have y10:=cell_of_row W _ 10 _ _ _ HXW
  have y11:=cell_of_row W _ 11 _ _ _ HXW
  have y12:=cell_of_row W _ 12 _ _ _ HXW
  have y13:=cell_of_row W _ 13 _ _ _ HXW
  simp only [List.getElem?_toArray,List.getElem?_cons_zero,List.getElem?_cons_succ] at y0 y1 y2 y3 y4 y5 y6 y7 y8 y9 y10 y11 y12 y13
  have HXW':=Lib.hid HXW
  clear HXW
  go_simp
  exact hK
 simp only [Act.put,List.setIfInBounds_toArray,List.set_cons_succ,List.set_cons_zero]
 refine tailM_pure (.bool false) rfl (StableW.below _ _ (Nat.le_refl _)) (fun _ h=>h) (fun W hS K hK=>?_) ?_
 ·have HXW:=row_later hS H1.out
  have yz:=lt_of_block HXW
  have y0:=cell_of_row W _ 0 _ _ _ HXW
  have y1:=cell_of_row W _ 1 _ _ _ HXW
  have y2:=cell_of_row W _ 2 _ _ _ HXW
  have y3:=cell_of_row W _ 3 _ _ _ HXW
  have y4:=cell_of_row W _ 4 _ _ _ HXW
  have y5:=cell_of_row W _ 5 _ _ _ HXW
  have y6:=cell_of_row W _ 6 _ _ _ HXW
  have y7:=cell_of_row W _ 7 _ _ _ HXW
  have y8:=cell_of_row W _ 8 _ _ _ HXW
  have y9:=cell_of_row W _ 9 _ _ _ HXW
  have y10:=cell_of_row W _ 10 _ _ _ HXW
  have y11:=cell_of_row W _ 11 _ _ _ HXW
  have y12:=cell_of_row W _ 12 _ _ _ HXW
  have y13:=cell_of_row W _ 13 _ _ _ HXW
  simp only [List.getElem?_toArray,List.getElem?_cons_zero,List.getElem?_cons_succ] at y0 y1 y2 y3 y4 y5 y6 y7 y8 y9 y10 y11 y12 y13
  have HXW':=Lib.hid HXW
  clear HXW
  go_simp
  exact hK
 simp only [Act.put,List.setIfInBounds_toArray,List.set_cons_succ,List.set_cons_zero]
 refine tailM_pure (.bool false) rfl (StableW.below _ _ (Nat.le_refl _)) (fun _ h=>h) (fun W hS K hK=>?_) ?_
 ·have HXW:=row_later hS H1.out
  have yz:=lt_of_block HXW
  have y0:=cell_of_row W _ 0 _ _ _ HXW
  have y1:=cell_of_row W _ 1 _ _ _ HXW
  have y2:=cell_of_row W _ 2 _ _ _ HXW
  have y3:=cell_of_row W _ 3 _ _ _ HXW
  have y4:=cell_of_row W _ 4 _ _ _ HXW
  have y5:=cell_of_row W _ 5 _ _ _ HXW
  have y6:=cell_of_row W _ 6 _ _ _ HXW
  have y7:=cell_of_row W _ 7 _ _ _ HXW
  have y8:=cell_of_row W _ 8 _ _ _ HXW
  have y9:=cell_of_row W _ 9 _ _ _ HXW
  have y10:=cell_of_row W _ 10 _ _ _ HXW
  have y11:=cell_of_row W _ 11 _ _ _ HXW
  have y12:=cell_of_row W _ 12 _ _ _ HXW
  have y13:=cell_of_row W _ 13 _ _ _ HXW
  simp only [List.getElem?_toArray,List.getElem?_cons_zero,List.getElem?_cons_succ] at y0 y1 y2 y3 y4 y5 y6 y7 y8 y9 y10 y11 y12 y13
  have HXW':=Lib.hid HXW
  clear HXW
  go_simp
  exact hK
 simp only [Act.put,List.setIfInBounds_toArray,List.set_cons_succ,List.set_cons_zero]
 refine tailM_pure (.pointer (some ⟨w.heap.size,2,none⟩)) rfl (StableW.below _ _ (Nat.le_refl _)) (fun _ h=>h) (fun W hS K hK=>?_) ?_
 ·have HXW:=row_later hS H1.out
  have yz:=lt_of_block HXW
  have y0:=cell_of_row W _ 0 _ _ _ HXW
  have y1:=cell_of_row W _ 1 _ _ _ HXW
  have y2:=cell_of_row W _ 2 _ _ _ HXW
  have y3:=cell_of_row W _ 3 _ _ _ HXW
  have y4:=cell_of_row W _ 4 _ _ _ HXW
  have y5:=cell_of_row W _ 5 _ _ _ HXW
  have y6:=cell_of_row W _ 6 _ _ _ HXW
  have y7:=cell_of_row W _ 7 _ _ _ HXW
  have y8:=cell_of_row W _ 8 _ _ _ HXW
  have y9:=cell_of_row W _ 9 _ _ _ HXW
  have y10:=cell_of_row W _ 10 _ _ _ HXW
  have y11:=cell_of_row W _ 11 _ _ _ HXW
  have y12:=cell_of_row W _ 12 _ _ _ HXW
  have y13:=cell_of_row W _ 13 _ _ _ HXW
  simp only [List.getElem?_toArray,List.getElem?_cons_zero,List.getElem?_cons_succ] at y0 y1 y2 y3 y4 y5 y6 y7 y8 y9 y10 y11 y12 y13
  have HXW':=Lib.hid HXW
  clear HXW
  go_simp
  exact hK
 simp only [Act.put,List.setIfInBounds_toArray,List.set_cons_succ,List.set_cons_zero]
 refine tailM_pure (condV q.wher a cap) rfl (StableW.below _ _ (Nat.le_refl _)) (fun _ h=>h) (fun W hS K hK=>?_) ?_
 ·have HXW:=row_later hS H1.out
  have yz:=lt_of_block HXW
  have y0:=cell_of_row W _ 0 _ _ _ HXW
  have y1:=cell_of_row W _ 1 _ _ _ HXW
  have y2:=cell_of_row W _ 2 _ _ _ HXW
  have y3:=cell_of_row W _ 3 _ _ _ HXW
  have y4:=cell_of_row W _ 4 _ _ _ HXW
  have y5:=cell_of_row W _ 5 _ _ _ HXW
  have y6:=cell_of_row W _ 6 _ _ _ HXW
  have y7:=cell_of_row W _ 7 _ _ _ HXW
  have y8:=cell_of_row W _ 8 _ _ _ HXW
  have y9:=cell_of_row W _ 9 _ _ _ HXW
  have y10:=cell_of_row W _ 10 _ _ _ HXW
  have y11:=cell_of_row W _ 11 _ _ _ HXW
  have y12:=cell_of_row W _ 12 _ _ _ HXW
  have y13:=cell_of_row W _ 13 _ _ _ HXW
  simp only [List.getElem?_toArray,List.getElem?_cons_zero,List.getElem?_cons_succ] at y0 y1 y2 y3 y4 y5 y6 y7 y8 y9 y10 y11 y12 y13
  have HXW':=Lib.hid HXW
  clear HXW
  go_simp
  exact hK
 simp only [Act.put,List.setIfInBounds_toArray,List.set_cons_succ,List.set_cons_zero]
 refine tailM_step (ι:=Unit) (fun _=>.bool true) (fun _ W=>Below w1.heap.size w1 W) rfl (fun _=>StableW.below _ _ (Nat.le_refl _)) (fun _ _ h=>h) (fun W hS K hK=>?_) (fun _=>?_)
 ·go_simp
  refine (HV.out W hS).mono ?_
  rintro e w2 ⟨rfl,hb2⟩
  exact hK () _ (below_step hS (Nat.le_refl _) hb2)
 simp only [Act.put,List.setIfInBounds_toArray,List.set_cons_succ,List.set_cons_zero]
 refine tailM_pure (.bool false) rfl (StableW.below _ _ (Nat.le_refl _)) (fun _ h=>h) (fun W hS K hK=>?_) ?_
 ·have HXW:=row_later hS H1.out
  have yz:=lt_of_block HXW
  have y0:=cell_of_row W _ 0 _ _ _ HXW
  have y1:=cell_of_row W _ 1 _ _ _ HXW
  have y2:=cell_of_row W _ 2 _ _ _ HXW
  have y3:=cell_of_row W _ 3 _ _ _ HXW
  have y4:=cell_of_row W _ 4 _ _ _ HXW
  have y5:=cell_of_row W _ 5 _ _ _ HXW
  have y6:=cell_of_row W _ 6 _ _ _ HXW
  have y7:=cell_of_row W _ 7 _ _ _ HXW
  have y8:=cell_of_row W _ 8 _ _ _ HXW
  have y9:=cell_of_row W _ 9 _ _ _ HXW
  have y10:=cell_of_row W _ 10 _ _ _ HXW
  have y11:=cell_of_row W _ 11 _ _ _ HXW
  have y12:=cell_of_row W _ 12 _ _ _ HXW
  have y13:=cell_of_row W _ 13 _ _ _ HXW
  simp only [List.getElem?_toArray,List.getElem?_cons_zero,List.getElem?_cons_succ] at y0 y1 y2 y3 y4 y5 y6 y7 y8 y9 y10 y11 y12 y13
  have HXW':=Lib.hid HXW
  clear HXW
  go_simp
  exact hK
 simp only [Act.put,List.setIfInBounds_toArray,List.set_cons_succ,List.set_cons_zero]
 refine tailM_pure (.bool false) rfl (StableW.below _ _ (Nat.le_refl _)) (fun _ h=>h) (fun W hS K hK=>?_) ?_
 ·have HXW:=row_later hS H1.out
  have yz:=lt_of_block HXW
  have y0:=cell_of_row W _ 0 _ _ _ HXW
  have y1:=cell_of_row W _ 1 _ _ _ HXW
  have y2:=cell_of_row W _ 2 _ _ _ HXW
  have y3:=cell_of_row W _ 3 _ _ _ HXW
  have y4:=cell_of_row W _ 4 _ _ _ HXW
  have y5:=cell_of_row W _ 5 _ _ _ HXW
  have y6:=cell_of_row W _ 6 _ _ _ HXW
  have y7:=cell_of_row W _ 7 _ _ _ HXW
  have y8:=cell_of_row W _ 8 _ _ _ HXW
  have y9:=cell_of_row W _ 9 _ _ _ HXW
  have y10:=cell_of_row W _ 10 _ _ _ HXW
  have y11:=cell_of_row W _ 11 _ _ _ HXW
  have y12:=cell_of_row W _ 12 _ _ _ HXW
  have y13:=cell_of_row W _ 13 _ _ _ HXW
  simp only [List.getElem?_toArray,List.getElem?_cons_zero,List.getElem?_cons_succ] at y0 y1 y2 y3 y4 y5 y6 y7 y8 y9 y10 y11 y12 y13
  have HXW':=Lib.hid HXW
  clear HXW
  go_simp
  exact hK
 simp only [Act.put,List.setIfInBounds_toArray,List.set_cons_succ,List.set_cons_zero]
 refine tailM_nil fun w3 hb3=>?_
 have B3:=below_step B1 (Nat.le_refl _) hb3
 have H3:=Lib.hid (row_later hb3 H1.out)
 clear hb3 d0 d6 HW HV H1 B1 hR
 have xz:=lt_of_block H3.out
 have x0:=cell_of_row w3 _ 0 _ _ _ H3.out
 have x1:=cell_of_row w3 _ 1 _ _ _ H3.out
 have x2:=cell_of_row w3 _ 2 _ _ _ H3.out
 have x3:=cell_of_row w3 _ 3 _ _ _ H3.out
 have x4:=cell_of_row w3 _ 4 _ _ _ H3.out
 have x5:=cell_of_row w3 _ 5 _ _ _ H3.out
 have x6:=cell_of_row w3 _ 6 _ _ _ H3.out
 have x7:=cell_of_row w3 _ 7 _ _ _ H3.out
 have x8:=cell_of_row w3 _ 8 _ _ _ H3.out
 have x9:=cell_of_row w3 _ 9 _ _ _ H3.out
 have x10:=cell_of_row w3 _ 10 _ _ _ H3.out
 have x11:=cell_of_row w3 _ 11 _ _ _ H3.out
 have x12:=cell_of_row w3 _ 12 _ _ _ H3.out
 have x13:=cell_of_row w3 _ 13 _ _ _ H3.out
 simp only [List.getElem?_toArray,List.getElem?_cons_zero,List.getElem?_cons_succ] at x0 x1 x2 x3 x4 x5 x6 x7 x8 x9 x10 x11 x12 x13
 go_wp2
 generalize hw4:w3.alloc (.cells #[.int .i64 q.ask,.int .i64 q.kind,.int .i64 0,.string ⟨#[]⟩,.string ⟨#[]⟩,.int .i64 0,.slice none 0 0,.string ⟨#[]⟩,.int .i64 0,.int .i64 0,.int .i64 0,.string ⟨#[]⟩,.string ⟨#[]⟩,.int .i64 0] 28)=w4
 have hX:=row_new w3 (.cells #[.int .i64 q.ask,.int .i64 q.kind,.int .i64 0,.string ⟨#[]⟩,.string ⟨#[]⟩,.int .i64 0,.slice none 0 0,.string ⟨#[]⟩,.int .i64 0,.int .i64 0,.int .i64 0,.string ⟨#[]⟩,.string ⟨#[]⟩,.int .i64 0] 28)
 have hb34:=(Below.refl w3.heap.size w3).alloc (Nat.le_refl _) (.cells #[.int .i64 q.ask,.int .i64 q.kind,.int .i64 0,.string ⟨#[]⟩,.string ⟨#[]⟩,.int .i64 0,.slice none 0 0,.string ⟨#[]⟩,.int .i64 0,.int .i64 0,.int .i64 0,.string ⟨#[]⟩,.string ⟨#[]⟩,.int .i64 0] 28)
 rw [hw4] at hX hb34
 have HX4:=Lib.hid hX
 have HB34:=Lib.hid hb34
 clear hX hb34 hw4
 clear x0 x1 x2 x3 x4 x5 x6 x7 x8 x9 x10 x11 x12 x13 xz
 refine wp_region_nodes 14 4 (fun W=>Below w3.heap.size w3 W) (CX w3 #[.int .i64 q.ask,.int .i64 q.kind,.int .i64 0,.string ⟨#[]⟩,.string ⟨#[]⟩,.int .i64 0,.slice none 0 0,.string ⟨#[]⟩,.int .i64 0,.int .i64 0,.int .i64 0,.string ⟨#[]⟩,.string ⟨#[]⟩,.int .i64 0]) hmx (by kernel_rfl) (by kernel_rfl) (by kernel_rfl) (CX.stable w3 _) (fun _ h=>h.1) ⟨HB34.out.drew,HX4.out⟩ (by kernel_rfl) ?_
 apply Exists.intro
 refine ⟨fun W hW=>?_,?_⟩
 ·have HXW:=row_later hW H3.out
  clear hW
  have xz:=lt_of_block HXW
  have x0:=cell_of_row W _ 0 _ _ _ HXW
  have x1:=cell_of_row W _ 1 _ _ _ HXW
  have x2:=cell_of_row W _ 2 _ _ _ HXW
  have x3:=cell_of_row W _ 3 _ _ _ HXW
  have x4:=cell_of_row W _ 4 _ _ _ HXW
  have x5:=cell_of_row W _ 5 _ _ _ HXW
  have x6:=cell_of_row W _ 6 _ _ _ HXW
  have x7:=cell_of_row W _ 7 _ _ _ HXW
  have x8:=cell_of_row W _ 8 _ _ _ HXW
  have x9:=cell_of_row W _ 9 _ _ _ HXW
  have x10:=cell_of_row W _ 10 _ _ _ HXW
  have x11:=cell_of_row W _ 11 _ _ _ HXW
  have x12:=cell_of_row W _ 12 _ _ _ HXW
  have x13:=cell_of_row W _ 13 _ _ _ HXW
  simp only [List.getElem?_toArray,List.getElem?_cons_zero,List.getElem?_cons_succ] at x0 x1 x2 x3 x4 x5 x6 x7 x8 x9 x10 x11 x12 x13
  have HXW':=Lib.hid HXW
  clear HXW
  have q0:=cell_belowBy x0
  have q1:=cell_belowBy x1
  have q2:=cell_belowBy x2
  have q3:=cell_belowBy x3
  have q4:=cell_belowBy x4
  have q5:=cell_belowBy x5
  have q6:=cell_belowBy x6
  have q7:=cell_belowBy x7
  have q8:=cell_belowBy x8
  have q9:=cell_belowBy x9
  have q10:=cell_belowBy x10
  have q11:=cell_belowBy x11
  have q12:=cell_belowBy x12
  have q13:=cell_belowBy x13
  clear x0 x1 x2 x3 x4 x5 x6 x7 x8 x9 x10 x11 x12 x13
  simp only [List.take_succ_cons,List.take_zero]
  repeat (go_big_quiet_step (first | (go_at_call 36;with_reducible exact calls_belowBy (HN0.out _)) | (go_at_call 35;with_reducible exact calls_same (HN1.out _))))
  exact wpQuiet_nil rfl
 refine any_one 14 (by kernel_rfl) rfl rfl (LoudB.mkD none (ι:=Unit) (fun _=>undef) (fun _=>CX w3 #[.int .i64 q.ask,.int .i64 q.kind,.int .i64 0,.string ⟨#[]⟩,.string ⟨#[]⟩,.int .i64 0,.slice none 0 0,.string q.id,.int .i64 0,.int .i64 0,.int .i64 0,.string ⟨#[]⟩,.string ⟨#[]⟩,.int .i64 0]) rfl (fun _=>CX.stable w3 _) (fun _ _ h=>h.1) (fun W hS K hK=>?_) (fun _=>?_))
 ·obtain ⟨hS1,hS2⟩:=hS
  have c0:=cell_of_row W _ 7 _ _ _ hS2
  have f0:=frozen_of_row W _ 7 _ _ hS2
  simp only [List.getElem?_toArray,List.getElem?_cons_zero,List.getElem?_cons_succ] at c0
  have hz:=lt_of_block hS2
  go_simp
  exact hK () _ ⟨(hS1.setCell (by simp only;omega) _),(row_set (i:=7) hS2)⟩
 simp only [Act.put]
 refine any_one 15 (by kernel_rfl) rfl rfl (LoudB.mkD (some 55) (ι:=Unit) (fun _=>.pointer (some ⟨w3.heap.size,8,none⟩)) (fun _=>CX w3 #[.int .i64 q.ask,.int .i64 q.kind,.int .i64 0,.string ⟨#[]⟩,.string ⟨#[]⟩,.int .i64 0,.slice none 0 0,.string q.id,.int .i64 0,.int .i64 0,.int .i64 0,.string ⟨#[]⟩,.string ⟨#[]⟩,.int .i64 0]) rfl (fun _=>CX.stable w3 _) (fun _ _ h=>h.1) (fun W hS K hK=>?_) (fun _=>?_))
 ·go_simp
  exact hK () _ hS
 simp only [Act.put,List.setIfInBounds_toArray,List.set_cons_succ,List.set_cons_zero]
 refine any_one 16 (by kernel_rfl) rfl rfl (LoudB.mkD none (ι:=Unit) (fun _=>undef) (fun _=>CX w3 #[.int .i64 q.ask,.int .i64 q.kind,.int .i64 0,.string ⟨#[]⟩,.string ⟨#[]⟩,.int .i64 0,.slice none 0 0,.string q.id,.int .i64 q.n,.int .i64 0,.int .i64 0,.string ⟨#[]⟩,.string ⟨#[]⟩,.int .i64 0]) rfl (fun _=>CX.stable w3 _) (fun _ _ h=>h.1) (fun W hS K hK=>?_) (fun _=>?_))
 ·obtain ⟨hS1,hS2⟩:=hS
  have c0:=cell_of_row W _ 8 _ _ _ hS2
  have f0:=frozen_of_row W _ 8 _ _ hS2
  simp only [List.getElem?_toArray,List.getElem?_cons_zero,List.getElem?_cons_succ] at c0
  have hz:=lt_of_block hS2
  go_simp
  exact hK () _ ⟨(hS1.setCell (by simp only;omega) _),(row_set (i:=8) hS2)⟩
 simp only [Act.put]
 refine any_one 17 (by kernel_rfl) rfl rfl (LoudB.mkD (some 5) (ι:=Unit) (fun _=>.bool true) (fun _=>CX w3 #[.int .i64 q.ask,.int .i64 q.kind,.int .i64 0,.string ⟨#[]⟩,.string ⟨#[]⟩,.int .i64 0,.slice none 0 0,.string q.id,.int .i64 q.n,.int .i64 0,.int .i64 0,.string ⟨#[]⟩,.string ⟨#[]⟩,.int .i64 0]) rfl (fun _=>CX.stable w3 _) (fun _ _ h=>h.1) (fun W hS K hK=>?_) (fun _=>?_))
 ·go_simp
  exact hK () _ hS
 simp only [Act.put,List.setIfInBounds_toArray,List.set_cons_succ,List.set_cons_zero]
 refine any_end (by kernel_rfl) fun w5 hw5=>?_
 obtain ⟨hb5,hX5⟩:=hw5
 have B5:=below_step B3 (Nat.le_refl _) hb5
 have HX5:=Lib.hid hX5
 have H5:=Lib.hid (row_later hb5 H3.out)
 clear hb5 hX5
 have xz:=lt_of_block H5.out
 have x0:=cell_of_row w5 _ 0 _ _ _ H5.out
 have x1:=cell_of_row w5 _ 1 _ _ _ H5.out
 have x2:=cell_of_row w5 _ 2 _ _ _ H5.out
 have x3:=cell_of_row w5 _ 3 _ _ _ H5.out
 have x4:=cell_of_row w5 _ 4 _ _ _ H5.out
 have x5:=cell_of_row w5 _ 5 _ _ _ H5.out
 have x6:=cell_of_row w5 _ 6 _ _ _ H5.out
 have x7:=cell_of_row w5 _ 7 _ _ _ H5.out
 have x8:=cell_of_row w5 _ 8 _ _ _ H5.out
 have x9:=cell_of_row w5 _ 9 _ _ _ H5.out
 have x10:=cell_of_row w5 _ 10 _ _ _ H5.out
 have x11:=cell_of_row w5 _ 11 _ _ _ H5.out
 have x12:=cell_of_row w5 _ 12 _ _ _ H5.out
 have x13:=cell_of_row w5 _ 13 _ _ _ H5.out
 simp only [List.getElem?_toArray,List.getElem?_cons_zero,List.getElem?_cons_succ] at x0 x1 x2 x3 x4 x5 x6 x7 x8 x9 x10 x11 x12 x13
 have yz:=lt_of_block HX5.out
 have y0:=cell_of_row w5 _ 0 _ _ _ HX5.out
 have y1:=cell_of_row w5 _ 1 _ _ _ HX5.out
 have y2:=cell_of_row w5 _ 2 _ _ _ HX5.out
 have y3:=cell_of_row w5 _ 3 _ _ _ HX5.out
 have y4:=cell_of_row w5 _ 4 _ _ _ HX5.out
 have y5:=cell_of_row w5 _ 5 _ _ _ HX5.out
 have y6:=cell_of_row w5 _ 6 _ _ _ HX5.out
 have y7:=cell_of_row w5 _ 7 _ _ _ HX5.out
 have y8:=cell_of_row w5 _ 8 _ _ _ HX5.out
 have y9:=cell_of_row w5 _ 9 _ _ _ HX5.out
 have y10:=cell_of_row w5 _ 10 _ _ _ HX5.out
 have y11:=cell_of_row w5 _ 11 _ _ _ HX5.out
 have y12:=cell_of_row w5 _ 12 _ _ _ HX5.out
 have y13:=cell_of_row w5 _ 13 _ _ _ HX5.out
 simp only [List.getElem?_toArray,List.getElem?_cons_zero,List.getElem?_cons_succ] at y0 y1 y2 y3 y4 y5 y6 y7 y8 y9 y10 y11 y12 y13
 go_wp2
 all_goals
  go_ret
  rw [show (true && true && decide (q.x=0∧q.y=0∧q.key.toList=[]∧q.prof.toList=[]∧q.minute=0))=decide (q.x=0∧q.y=0∧q.key.toList=[]∧q.prof.toList=[]∧q.minute=0) from Bool.true_and _]
  refine ⟨ret_bool ?_,B5⟩
  rw [Bool.eq_iff_iff]
  simp only [beq_iff_eq,decide_eq_true_eq]
  constructor
  ·intro hh
   first | (exact absurd hh (by decide)) | exact ⟨by omega,by omega,by assumption,by assumption,by omega⟩
  ·rintro ⟨e0,e1,e2,e3,e4⟩
   first | trivial | rfl | omega | contradiction
set_option maxRecDepth 100000 in
set_option maxHeartbeats 16000000 in
theorem validQ3_any (q:QryD) (a:Option Addr) (cap:Nat) (w:World) (hc:CondIs w q.wher a) (hk:0≤q.kind∧q.kind<6) (ha:q.ask=3) (hz0:q.id.size≤140737488355328) (hR:validC q.wher=true) :
  Calls Tryz.prog 12 #[qryV q a cap] w fun e w'=>e=.returned (.bool (validQ q))∧Below w.heap.size w w':=by
 cases hN0:nameB q.id
 ·exact validQ3a q a cap w hc hk ha hz0 hR hN0
 cases hN1:decide (0≤q.n∧q.n≤1048576)
 ·exact validQ3b q a cap w hc hk ha hz0 hR hN0 hN1
 exact validQ3c q a cap w hc hk ha hz0 hR hN0 hN1
end Go.Proofs.YtdfenhjibnfdeaaGreatDoor
