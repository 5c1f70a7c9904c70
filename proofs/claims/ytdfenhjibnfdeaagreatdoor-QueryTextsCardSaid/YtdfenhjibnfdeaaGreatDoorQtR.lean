/- Texts of QueryTexts. -/
import Derived.Test.YtdfenhjibnfdeaaGreatDoorQtI
import Derived.Test.YtdfenhjibnfdeaaGreatDoorQyBf
import Derived.Test.YtdfenhjibnfdeaaGreatDoorQtJ
import Derived.Test.YtdfenhjibnfdeaaGreatDoorQyAn
import Derived.Deep.Quiet
import Derived.Deep.QuietTactic
import Derived.StillTail
namespace Go.Proofs.YtdfenhjibnfdeaaGreatDoor
open Go.RowKit
instance (w:World):Inhabited (BelowBy w):=⟨⟨w,Below.refl _ _⟩⟩
end Go.Proofs.YtdfenhjibnfdeaaGreatDoor
namespace Go.Proofs.YtdfenhjibnfdeaaGreatDoor
open Go.RowKit
theorem StableW.const (p:Prop):StableW fun _=>p:=fun _ _ h _=>h
end Go.Proofs.YtdfenhjibnfdeaaGreatDoor
namespace Go.Proofs.YtdfenhjibnfdeaaGreatDoor
open Go.RowKit Go.Shelf
set_option maxRecDepth 100000 in
set_option maxHeartbeats 8000000 in
theorem validQF_any (q:QryD) (a:Option Addr) (cap:Nat) (w:World) (hc:CondIs w q.wher a) (hk:0≤q.kind∧q.kind<6) (hR:validC q.wher=false) :
  Calls Tryz.prog 12 #[qryV q a cap] w fun e w'=>e=.returned (.bool (validQ q))∧Below w.heap.size w w':=by
 have HE:=Lib.hid (show validQ q=false by simp [validQ,hR])
 rw [HE.out]
 have B1:=(Below.refl w.heap.size w).alloc (Nat.le_refl _) (.cells (qryC q a cap) 28)
 obtain ⟨w1,hw1⟩:∃w1,w.alloc (.cells (qryC q a cap) 28)=w1:=⟨_,rfl⟩
 have H1:=Lib.hid (row_new w (.cells (qryC q a cap) 28))
 rw [hw1] at B1 H1
 have HW:=Lib.hid hw1
 have hmx:Tryz.prog.follows .mixedOrders=true:=by kernel_rfl
 have HC1:=Lib.hid (hc.later B1)
 have HV:=Lib.hid (fun W (hb:Below w1.heap.size w1 W)=>valid_any q.wher a cap W (HC1.out.later hb))
 clear hc hw1
 have d0:decide (q.kind<0)=false:=by rw [decide_eq_false_iff_not];omega
 have d6:decide ((6:Int)≤q.kind)=false:=by rw [decide_eq_false_iff_not];omega
 rw [hR] at HV
 go_enter Tryz.func12,Tryz.ntmps12
 go_wp2
 rw [HW.out]
 refine wp_region_mix 6 (fun W=>Below w1.heap.size w1 W) (fun W=>Below w1.heap.size w1 W) hmx (by kernel_rfl) (by kernel_rfl) (by kernel_rfl) (StableW.below _ _ (Nat.le_refl _)) (fun W hW=>hW) (Below.refl _ _).drew ?_
 apply Exists.intro
 refine ⟨fun W hW=>?_,?_⟩
 ·have HXW:=row_later hW H1.out
  clear hW
  have xz:=lt_of_block HXW
  have x0:=cell_of_row W _ 0 _ _ _ HXW
  have x1:=cell_of_row W _ 1 _ _ _ HXW
  have x2:=cell_of_row W _ 2 _ _ _ HXW
  have x3:=cell_of_row W _ 3 _ _ _ HXW
  have x4:=cell_of_row W _ 4 _ _ _ HXW
  have x5:=cell_of_row W _ 5 _ _ _ HXW
  have x6:=cell_of_row W _ 6 _ _ _ HXW
  have x7:=cell_of_row W _ 7 _ _ _ HXW
  have x8:=cell_of_row W _ 8 _ _ _ HXW
  have x9:=cell_of_row W _ 9 _ _ _ HXW
  have x10:=cell_of_row W _ 10 _ _ _ HXW
  have x11:=cell_of_row W _ 11 _ _ _ HXW
  have x12:=cell_of_row W _ 12 _ _ _ HXW
  have x13:=cell_of_row W _ 13 _ _ _ HXW
  simp only [List.getElem?_toArray,List.getElem?_cons_zero,List.getElem?_cons_succ] at x0 x1 x2 x3 x4 x5 x6 x7 x8 x9 x10 x11 x12 x13
  have HXW':=Lib.hid HXW
  clear HXW
  have q1:=cell_belowBy x1
  clear x0 x1 x2 x3 x4 x5 x6 x7 x8 x9 x10 x11 x12 x13
  simp only [List.take_succ_cons,List.take_zero]
  repeat (go_big_quiet_step (fail))
  exact wpQuiet_nil rfl
 simp only [List.drop_succ_cons,List.drop_zero]
 refine tailM_step (ι:=Nat) (fun g=>.slice (some ⟨g,0,none⟩) 6 6) (fun g W=>Below w1.heap.size w1 W) rfl (fun g=>StableW.below _ _ (Nat.le_refl _)) (fun _ _ h=>h) (fun W hS K hK=>?_) (fun g=>?_)
 ·go_simp
  refine (words_any W).mono ?_
  rintro e w2 ⟨rfl,-,hb2⟩
  exact hK W.heap.size _ (below_step hS (Nat.le_refl _) hb2)
 simp only [Act.put,List.setIfInBounds_toArray,List.set_cons_succ,List.set_cons_zero]
 refine tailM_pure (.int .i64 6) rfl (StableW.below _ _ (Nat.le_refl _)) (fun _ h=>h) (fun W hS K hK=>?_) ?_
 ·have HXW:=row_later hS H1.out
  have yz:=lt_of_block HXW
  have y0:=cell_of_row W _ 0 _ _ _ HXW
  have y1:=cell_of_row W _ 1 _ _ _ HXW
  have y2:=cell_of_row W _ 2 _ _ _ HXW
  have y3:=cell_of_row W _ 3 _ _ _ HXW
  have y4:=cell_of_row W _ 4 _ _ _ HXW
  have y5:=cell_of_row W _ 5 _ _ _ HXW
  have y6:=cell_of_row W _ 6 _ _ _ HXW
  have y7:=cell_of_row W _ 7 _ _ _ HXW
  have y8:=cell_of_row W _ 8 _ _ _ HXW
  have y9:=cell_of_row W _ 9 _ _ _ HXW
  have y10:=cell_of_row W _ 10 _ _ _ HXW
  have y11:=cell_of_row W _ 11 _ _ _ HXW
  have y12:=cell_of_row W _ 12 _ _ _ HXW
  have y13:=cell_of_row W _ 13 _ _ _ HXW
  simp only [List.getElem?_toArray,List.getElem?_cons_zero,List.getElem?_cons_succ] at y0 y1 y2 y3 y4 y5 y6 y7 y8 y9 y10 y11 y12 y13
  have HXW':=Lib.hid HXW
  clear HXW
  go_simp
  exact hK
 simp only [Act.put,List.setIfInBounds_toArray,List.set_cons_succ,List.set_cons_zero]
 refine tailM_pure (.bool false) rfl (StableW.below _ _ (Nat.le_refl _)) (fun _ h=>h) (fun W hS K hK=>?_) ?_
 ·have HXW:=row_later hS H1.out
  have yz:=lt_of_block HXW
  have y0:=cell_of_row W _ 0 _ _ _ HXW
  have y1:=cell_of_row W _ 1 _ _ _ HXW
  have y2:=cell_of_row W _ 2 _ _ _ HXW
  have y3:=cell_of_row W _ 3 _ _ _ HXW
  have y4:=cell_of_row W _ 4 _ _ _ HXW
  have y5:=cell_of_row W _ 5 _ _ _ HXW
  have y6:=cell_of_row W _ 6 _ _ _ HXW
  have y7:=cell_of_row W _ 7 _ _ _ HXW
  have y8:=cell_of_row W _ 8 _ _ _ HXW
  have y9:=cell_of_row W _ 9 _ _ _ HXW
  have y10:=cell_of_row W _ 10 _ _ _ HXW
  have y11:=cell_of_row W _ 11 _ _ _ HXW
  have y12:=cell_of_row W _ 12 _ _ _ HXW
  have y13:=cell_of_row W _ 13 _ _ _ HXW
  simp only [List.getElem?_toArray,List.getElem?_cons_zero,List.getElem?_cons_succ] at y0 y1 y2 y3 y4 y5 y6 y7 y8 y9 y10 y11 y12 y13
  have HXW':=Lib.hid HXW
  clear HXW
  go_simp
  exact hK
 simp only [Act.put,List.setIfInBounds_toArray,List.set_cons_succ,List.set_cons_zero]
 refine tailM_pure (.bool false) rfl (StableW.below _ _ (Nat.le_refl _)) (fun _ h=>h) (fun W hS K hK=>?_) ?_
 ·have HXW:=row_later hS H1.out
  have yz:=lt_of_block HXW
  have y0:=cell_of_row W _ 0 _ _ _ HXW
  have y1:=cell_of_row W _ 1 _ _ _ HXW
  have y2:=cell_of_row W _ 2 _ _ _ HXW
  have y3:=cell_of_row W _ 3 _ _ _ HXW
  have y4:=cell_of_row W _ 4 _ _ _ HXW
  have y5:=cell_of_row W _ 5 _ _ _ HXW
  have y6:=cell_of_row W _ 6 _ _ _ HXW
  have y7:=cell_of_row W _ 7 _ _ _ HXW
  have y8:=cell_of_row W _ 8 _ _ _ HXW
  have y9:=cell_of_row W _ 9 _ _ _ HXW
  have y10:=cell_of_row W _ 10 _ _ _ HXW
  have y11:=cell_of_row W _ 11 _ _ _ HXW
  have y12:=cell_of_row W _ 12 _ _ _ HXW
  have y13:=cell_of_row W _ 13 _ _ _ HXW
  simp only [List.getElem?_toArray,List.getElem?_cons_zero,List.getElem?_cons_succ] at y0 y1 y2 y3 y4 y5 y6 y7 y8 y9 y10 y11 y12 y13
  have HXW':=Lib.hid HXW
  clear HXW
  go_simp
  exact hK
 simp only [Act.put,List.setIfInBounds_toArray,List.set_cons_succ,List.set_cons_zero]
 refine tailM_pure (.bool false) rfl (StableW.below _ _ (Nat.le_refl _)) (fun _ h=>h) (fun W hS K hK=>?_) ?_
 ·have HXW:=row_later hS H1.out
  have yz:=lt_of_block HXW
  have y0:=cell_of_row W _ 0 _ _ _ HXW
  have y1:=cell_of_row W _ 1 _ _ _ HXW
  have y2:=cell_of_row W _ 2 _ _ _ HXW
  have y3:=cell_of_row W _ 3 _ _ _ HXW
  have y4:=cell_of_row W _ 4 _ _ _ HXW
  have y5:=cell_of_row W _ 5 _ _ _ HXW
  have y6:=cell_of_row W _ 6 _ _ _ HXW
  have y7:=cell_of_row W _ 7 _ _ _ HXW
  have y8:=cell_of_row W _ 8 _ _ _ HXW
  have y9:=cell_of_row W _ 9 _ _ _ HXW
  have y10:=cell_of_row W _ 10 _ _ _ HXW
  have y11:=cell_of_row W _ 11 _ _ _ HXW
  have y12:=cell_of_row W _ 12 _ _ _ HXW
  have y13:=cell_of_row W _ 13 _ _ _ HXW
  simp only [List.getElem?_toArray,List.getElem?_cons_zero,List.getElem?_cons_succ] at y0 y1 y2 y3 y4 y5 y6 y7 y8 y9 y10 y11 y12 y13
  have HXW':=Lib.hid HXW
  clear HXW
  go_simp
  exact hK
 simp only [Act.put,List.setIfInBounds_toArray,List.set_cons_succ,List.set_cons_zero]
 refine tailM_pure (.pointer (some ⟨w.heap.size,2,none⟩)) rfl (StableW.below _ _ (Nat.le_refl _)) (fun _ h=>h) (fun W hS K hK=>?_) ?_
 ·have HXW:=row_later hS H1.out
  have yz:=lt_of_block HXW
  have y0:=cell_of_row W _ 0 _ _ _ HXW
  have y1:=cell_of_row W _ 1 _ _ _ HXW
  have y2:=cell_of_row W _ 2 _ _ _ HXW
  have y3:=cell_of_row W _ 3 _ _ _ HXW
  have y4:=cell_of_row W _ 4 _ _ _ HXW
  have y5:=cell_of_row W _ 5 _ _ _ HXW
  have y6:=cell_of_row W _ 6 _ _ _ HXW
  have y7:=cell_of_row W _ 7 _ _ _ HXW
  have y8:=cell_of_row W _ 8 _ _ _ HXW
  have y9:=cell_of_row W _ 9 _ _ _ HXW
  have y10:=cell_of_row W _ 10 _ _ _ HXW
  have y11:=cell_of_row W _ 11 _ _ _ HXW
  have y12:=cell_of_row W _ 12 _ _ _ HXW
  have y13:=cell_of_row W _ 13 _ _ _ HXW
  simp only [List.getElem?_toArray,List.getElem?_cons_zero,List.getElem?_cons_succ] at y0 y1 y2 y3 y4 y5 y6 y7 y8 y9 y10 y11 y12 y13
  have HXW':=Lib.hid HXW
  clear HXW
  go_simp
  exact hK
 simp only [Act.put,List.setIfInBounds_toArray,List.set_cons_succ,List.set_cons_zero]
 refine tailM_pure (condV q.wher a cap) rfl (StableW.below _ _ (Nat.le_refl _)) (fun _ h=>h) (fun W hS K hK=>?_) ?_
 ·have HXW:=row_later hS H1.out
  have yz:=lt_of_block HXW
  have y0:=cell_of_row W _ 0 _ _ _ HXW
  have y1:=cell_of_row W _ 1 _ _ _ HXW
  have y2:=cell_of_row W _ 2 _ _ _ HXW
  have y3:=cell_of_row W _ 3 _ _ _ HXW
  have y4:=cell_of_row W _ 4 _ _ _ HXW
  have y5:=cell_of_row W _ 5 _ _ _ HXW
  have y6:=cell_of_row W _ 6 _ _ _ HXW
  have y7:=cell_of_row W _ 7 _ _ _ HXW
  have y8:=cell_of_row W _ 8 _ _ _ HXW
  have y9:=cell_of_row W _ 9 _ _ _ HXW
  have y10:=cell_of_row W _ 10 _ _ _ HXW
  have y11:=cell_of_row W _ 11 _ _ _ HXW
  have y12:=cell_of_row W _ 12 _ _ _ HXW
  have y13:=cell_of_row W _ 13 _ _ _ HXW
  simp only [List.getElem?_toArray,List.getElem?_cons_zero,List.getElem?_cons_succ] at y0 y1 y2 y3 y4 y5 y6 y7 y8 y9 y10 y11 y12 y13
  have HXW':=Lib.hid HXW
  clear HXW
  go_simp
  exact hK
 simp only [Act.put,List.setIfInBounds_toArray,List.set_cons_succ,List.set_cons_zero]
 refine tailM_step (ι:=Unit) (fun _=>.bool false) (fun _ W=>Below w1.heap.size w1 W) rfl (fun _=>StableW.below _ _ (Nat.le_refl _)) (fun _ _ h=>h) (fun W hS K hK=>?_) (fun _=>?_)
 ·go_simp
  refine (HV.out W hS).mono ?_
  rintro e w2 ⟨rfl,hb2⟩
  exact hK () _ (below_step hS (Nat.le_refl _) hb2)
 simp only [Act.put,List.setIfInBounds_toArray,List.set_cons_succ,List.set_cons_zero]
 refine tailM_pure (.bool true) rfl (StableW.below _ _ (Nat.le_refl _)) (fun _ h=>h) (fun W hS K hK=>?_) ?_
 ·have HXW:=row_later hS H1.out
  have yz:=lt_of_block HXW
  have y0:=cell_of_row W _ 0 _ _ _ HXW
  have y1:=cell_of_row W _ 1 _ _ _ HXW
  have y2:=cell_of_row W _ 2 _ _ _ HXW
  have y3:=cell_of_row W _ 3 _ _ _ HXW
  have y4:=cell_of_row W _ 4 _ _ _ HXW
  have y5:=cell_of_row W _ 5 _ _ _ HXW
  have y6:=cell_of_row W _ 6 _ _ _ HXW
  have y7:=cell_of_row W _ 7 _ _ _ HXW
  have y8:=cell_of_row W _ 8 _ _ _ HXW
  have y9:=cell_of_row W _ 9 _ _ _ HXW
  have y10:=cell_of_row W _ 10 _ _ _ HXW
  have y11:=cell_of_row W _ 11 _ _ _ HXW
  have y12:=cell_of_row W _ 12 _ _ _ HXW
  have y13:=cell_of_row W _ 13 _ _ _ HXW
  simp only [List.getElem?_toArray,List.getElem?_cons_zero,List.getElem?_cons_succ] at y0 y1 y2 y3 y4 y5 y6 y7 y8 y9 y10 y11 y12 y13
  have HXW':=Lib.hid HXW
  clear HXW
  go_simp
  exact hK
 simp only [Act.put,List.setIfInBounds_toArray,List.set_cons_succ,List.set_cons_zero]
 refine tailM_pure (.bool true) rfl (StableW.below _ _ (Nat.le_refl _)) (fun _ h=>h) (fun W hS K hK=>?_) ?_
 ·have HXW:=row_later hS H1.out
  have yz:=lt_of_block HXW
  have y0:=cell_of_row W _ 0 _ _ _ HXW
  have y1:=cell_of_row W _ 1 _ _ _ HXW
  have y2:=cell_of_row W _ 2 _ _ _ HXW
  have y3:=cell_of_row W _ 3 _ _ _ HXW
  have y4:=cell_of_row W _ 4 _ _ _ HXW
  have y5:=cell_of_row W _ 5 _ _ _ HXW
  have y6:=cell_of_row W _ 6 _ _ _ HXW
  have y7:=cell_of_row W _ 7 _ _ _ HXW
  have y8:=cell_of_row W _ 8 _ _ _ HXW
  have y9:=cell_of_row W _ 9 _ _ _ HXW
  have y10:=cell_of_row W _ 10 _ _ _ HXW
  have y11:=cell_of_row W _ 11 _ _ _ HXW
  have y12:=cell_of_row W _ 12 _ _ _ HXW
  have y13:=cell_of_row W _ 13 _ _ _ HXW
  simp only [List.getElem?_toArray,List.getElem?_cons_zero,List.getElem?_cons_succ] at y0 y1 y2 y3 y4 y5 y6 y7 y8 y9 y10 y11 y12 y13
  have HXW':=Lib.hid HXW
  clear HXW
  go_simp
  exact hK
 simp only [Act.put,List.setIfInBounds_toArray,List.set_cons_succ,List.set_cons_zero]
 refine tailM_nil fun w3 hb3=>?_
 have B3:=below_step B1 (Nat.le_refl _) hb3
 have H3:=Lib.hid (row_later hb3 H1.out)
 clear hb3 d0 d6 HW HV H1 B1 hR
 have xz:=lt_of_block H3.out
 have x0:=cell_of_row w3 _ 0 _ _ _ H3.out
 have x1:=cell_of_row w3 _ 1 _ _ _ H3.out
 have x2:=cell_of_row w3 _ 2 _ _ _ H3.out
 have x3:=cell_of_row w3 _ 3 _ _ _ H3.out
 have x4:=cell_of_row w3 _ 4 _ _ _ H3.out
 have x5:=cell_of_row w3 _ 5 _ _ _ H3.out
 have x6:=cell_of_row w3 _ 6 _ _ _ H3.out
 have x7:=cell_of_row w3 _ 7 _ _ _ H3.out
 have x8:=cell_of_row w3 _ 8 _ _ _ H3.out
 have x9:=cell_of_row w3 _ 9 _ _ _ H3.out
 have x10:=cell_of_row w3 _ 10 _ _ _ H3.out
 have x11:=cell_of_row w3 _ 11 _ _ _ H3.out
 have x12:=cell_of_row w3 _ 12 _ _ _ H3.out
 have x13:=cell_of_row w3 _ 13 _ _ _ H3.out
 simp only [List.getElem?_toArray,List.getElem?_cons_zero,List.getElem?_cons_succ] at x0 x1 x2 x3 x4 x5 x6 x7 x8 x9 x10 x11 x12 x13
 go_wp2
 go_ret
 exact ⟨rfl,B3⟩
set_option maxRecDepth 100000 in
set_option maxHeartbeats 8000000 in
theorem validQ1_any (q:QryD) (a:Option Addr) (cap:Nat) (w:World) (hc:CondIs w q.wher a) (hk:0≤q.kind∧q.kind<6) (ha:q.ask=1) (hR:validC q.wher=true) :
  Calls Tryz.prog 12 #[qryV q a cap] w fun e w'=>e=.returned (.bool (validQ q))∧Below w.heap.size w w':=by
 have HE:=Lib.hid (show validQ q=decide (q.id.toList=[]∧q.n=0∧q.x=0∧q.y=0∧q.key.toList=[]∧q.prof.toList=[]∧q.minute=0) by unfold validQ;rw [if_pos ha,hR,decide_eq_true hk];simp only [emp_iff];rfl)
 rw [HE.out]
 clear HE
 have a1:(q.ask==1)=true:=by rw [beq_iff_eq];exact ha
 have B1:=(Below.refl w.heap.size w).alloc (Nat.le_refl _) (.cells (qryC q a cap) 28)
 obtain ⟨w1,hw1⟩:∃w1,w.alloc (.cells (qryC q a cap) 28)=w1:=⟨_,rfl⟩
 have H1:=Lib.hid (row_new w (.cells (qryC q a cap) 28))
 rw [hw1] at B1 H1
 have HW:=Lib.hid hw1
 have hmx:Tryz.prog.follows .mixedOrders=true:=by kernel_rfl
 have HC1:=Lib.hid (hc.later B1)
 have HV:=Lib.hid (fun W (hb:Below w1.heap.size w1 W)=>valid_any q.wher a cap W (HC1.out.later hb))
 clear hc hw1
 have d0:decide (q.kind<0)=false:=by rw [decide_eq_false_iff_not];omega
 have d6:decide ((6:Int)≤q.kind)=false:=by rw [decide_eq_false_iff_not];omega
 rw [hR] at HV
 go_enter Tryz.func12,Tryz.ntmps12
 go_wp2
 rw [HW.out]
 refine wp_region_mix 6 (fun W=>Below w1.heap.size w1 W) (fun W=>Below w1.heap.size w1 W) hmx (by kernel_rfl) (by kernel_rfl) (by kernel_rfl) (StableW.below _ _ (Nat.le_refl _)) (fun W hW=>hW) (Below.refl _ _).drew ?_
 apply Exists.intro
 refine ⟨fun W hW=>?_,?_⟩
 ·have HXW:=row_later hW H1.out
  clear hW
  have xz:=lt_of_block HXW
  have x0:=cell_of_row W _ 0 _ _ _ HXW
  have x1:=cell_of_row W _ 1 _ _ _ HXW
  have x2:=cell_of_row W _ 2 _ _ _ HXW
  have x3:=cell_of_row W _ 3 _ _ _ HXW
  have x4:=cell_of_row W _ 4 _ _ _ HXW
  have x5:=cell_of_row W _ 5 _ _ _ HXW
  have x6:=cell_of_row W _ 6 _ _ _ HXW
  have x7:=cell_of_row W _ 7 _ _ _ HXW
  have x8:=cell_of_row W _ 8 _ _ _ HXW
  have x9:=cell_of_row W _ 9 _ _ _ HXW
  have x10:=cell_of_row W _ 10 _ _ _ HXW
  have x11:=cell_of_row W _ 11 _ _ _ HXW
  have x12:=cell_of_row W _ 12 _ _ _ HXW
  have x13:=cell_of_row W _ 13 _ _ _ HXW
  simp only [List.getElem?_toArray,List.getElem?_cons_zero,List.getElem?_cons_succ] at x0 x1 x2 x3 x4 x5 x6 x7 x8 x9 x10 x11 x12 x13
  have HXW':=Lib.hid HXW
  clear HXW
  have q1:=cell_belowBy x1
  clear x0 x1 x2 x3 x4 x5 x6 x7 x8 x9 x10 x11 x12 x13
  simp only [List.take_succ_cons,List.take_zero]
  repeat (go_big_quiet_step (fail))
  exact wpQuiet_nil rfl
 simp only [List.drop_succ_cons,List.drop_zero]
 refine tailM_step (ι:=Nat) (fun g=>.slice (some ⟨g,0,none⟩) 6 6) (fun g W=>Below w1.heap.size w1 W) rfl (fun g=>StableW.below _ _ (Nat.le_refl _)) (fun _ _ h=>h) (fun W hS K hK=>?_) (fun g=>?_)
 ·go_simp
  refine (words_any W).mono ?_
  rintro e w2 ⟨rfl,-,hb2⟩
  exact hK W.heap.size _ (below_step hS (Nat.le_refl _) hb2)
 simp only [Act.put,List.setIfInBounds_toArray,List.set_cons_succ,List.set_cons_zero]
 refine tailM_pure (.int .i64 6) rfl (StableW.below _ _ (Nat.le_refl _)) (fun _ h=>h) (fun W hS K hK=>?_) ?_
 ·have HXW:=row_later hS H1.out
  have yz:=lt_of_block HXW
  have y0:=cell_of_row W _ 0 _ _ _ HXW
  have y1:=cell_of_row W _ 1 _ _ _ HXW
  have y2:=cell_of_row W _ 2 _ _ _ HXW
  have y3:=cell_of_row W _ 3 _ _ _ HXW
  have y4:=cell_of_row W _ 4 _ _ _ HXW
  have y5:=cell_of_row W _ 5 _ _ _ HXW
  have y6:=cell_of_row W _ 6 _ _ _ HXW
  have y7:=cell_of_row W _ 7 _ _ _ HXW
  have y8:=cell_of_row W _ 8 _ _ _ HXW
  have y9:=cell_of_row W _ 9 _ _ _ HXW
  have y10:=cell_of_row W _ 10 _ _ _ HXW
  have y11:=cell_of_row W _ 11 _ _ _ HXW
  have y12:=cell_of_row W _ 12 _ _ _ HXW
  have y13:=cell_of_row W _ 13 _ _ _ HXW
  simp only [List.getElem?_toArray,List.getElem?_cons_zero,List.getElem?_cons_succ] at y0 y1 y2 y3 y4 y5 y6 y7 y8 y9 y10 y11 y12 y13
  have HXW':=Lib.hid HXW
  clear HXW
  go_simp
  exact hK
 simp only [Act.put,List.setIfInBounds_toArray,List.set_cons_succ,List.set_cons_zero]
 refine tailM_pure (.bool false) rfl (StableW.below _ _ (Nat.le_refl _)) (fun _ h=>h) (fun W hS K hK=>?_) ?_
 ·have HXW:=row_later hS H1.out
  have yz:=lt_of_block HXW
  have y0:=cell_of_row W _ 0 _ _ _ HXW
  have y1:=cell_of_row W _ 1 _ _ _ HXW
  have y2:=cell_of_row W _ 2 _ _ _ HXW
  have y3:=cell_of_row W _ 3 _ _ _ HXW
  have y4:=cell_of_row W _ 4 _ _ _ HXW
  have y5:=cell_of_row W _ 5 _ _ _ HXW
  have y6:=cell_of_row W _ 6 _ _ _ HXW
  have y7:=cell_of_row W _ 7 _ _ _ HXW
  have y8:=cell_of_row W _ 8 _ _ _ HXW
  have y9:=cell_of_row W _ 9 _ _ _ HXW
  have y10:=cell_of_row W _ 10 _ _ _ HXW
  have y11:=cell_of_row W _ 11 _ _ _ HXW
  have y12:=cell_of_row W _ 12 _ _ _ HXW
  have y13:=cell_of_row W _ 13 _ _ _ HXW
  simp only [List.getElem?_toArray,List.getElem?_cons_zero,List.getElem?_cons_succ] at y0 y1 y2 y3 y4 y5 y6 y7 y8 y9 y10 y11 y12 y13
  have HXW':=Lib.hid HXW
  clear HXW
  go_simp
  exact hK
 simp only [Act.put,List.setIfInBounds_toArray,List.set_cons_succ,List.set_cons_zero]
 refine tailM_pure (.bool false) rfl (StableW.below _ _ (Nat.le_refl _)) (fun _ h=>h) (fun W hS K hK=>?_) ?_
 ·have HXW:=row_later hS H1.out
  have yz:=lt_of_block HXW
  have y0:=cell_of_row W _ 0 _ _ _ HXW
  have y1:=cell_of_row W _ 1 _ _ _ HXW
  have y2:=cell_of_row W _ 2 _ _ _ HXW
  have y3:=cell_of_row W _ 3 _ _ _ HXW
  have y4:=cell_of_row W _ 4 _ _ _ HXW
  have y5:=cell_of_row W _ 5 _ _ _ HXW
  have y6:=cell_of_row W _ 6 _ _ _ HXW
  have y7:=cell_of_row W _ 7 _ _ _ HXW
  have y8:=cell_of_row W _ 8 _ _ _ HXW
  have y9:=cell_of_row W _ 9 _ _ _ HXW
  have y10:=cell_of_row W _ 10 _ _ _ HXW
  have y11:=cell_of_row W _ 11 _ _ _ HXW
  have y12:=cell_of_row W _ 12 _ _ _ HXW
  have y13:=cell_of_row W _ 13 _ _ _ HXW
  simp only [List.getElem?_toArray,List.getElem?_cons_zero,List.getElem?_cons_succ] at y0 y1 y2 y3 y4 y5 y6 y7 y8 y9 y10 y11 y12 y13
  have HXW':=Lib.hid HXW
  clear HXW
  go_simp
  exact hK
 simp only [Act.put,List.setIfInBounds_toArray,List.set_cons_succ,List.set_cons_zero]
 refine tailM_pure (.bool false) rfl (StableW.below _ _ (Nat.le_refl _)) (fun _ h=>h) (fun W hS K hK=>?_) ?_
 ·have HXW:=row_later hS H1.out
  have yz:=lt_of_block HXW
  have y0:=cell_of_row W _ 0 _ _ _ HXW
  have y1:=cell_of_row W _ 1 _ _ _ HXW
  have y2:=cell_of_row W _ 2 _ _ _ HXW
  have y3:=cell_of_row W _ 3 _ _ _ HXW
  have y4:=cell_of_row W _ 4 _ _ _ HXW
  have y5:=cell_of_row W _ 5 _ _ _ HXW
  have y6:=cell_of_row W _ 6 _ _ _ HXW
  have y7:=cell_of_row W _ 7 _ _ _ HXW
  have y8:=cell_of_row W _ 8 _ _ _ HXW
  have y9:=cell_of_row W _ 9 _ _ _ HXW
  have y10:=cell_of_row W _ 10 _ _ _ HXW
  have y11:=cell_of_row W _ 11 _ _ _ HXW
  have y12:=cell_of_row W _ 12 _ _ _ HXW
  have y13:=cell_of_row W _ 13 _ _ _ HXW
  simp only [List.getElem?_toArray,List.getElem?_cons_zero,List.getElem?_cons_succ] at y0 y1 y2 y3 y4 y5 y6 y7 y8 y9 y10 y11 y12 y13
  have HXW':=Lib.hid HXW
  clear HXW
  go_simp
  exact hK
 simp only [Act.put,List.setIfInBounds_toArray,List.set_cons_succ,List.set_cons_zero]
 refine tailM_pure (.pointer (some ⟨w.heap.size,2,none⟩)) rfl (StableW.below _ _ (Nat.le_refl _)) (fun _ h=>h) (fun W hS K hK=>?_) ?_
 ·have HXW:=row_later hS H1.out
  have yz:=lt_of_block HXW
  have y0:=cell_of_row W _ 0 _ _ _ HXW
  have y1:=cell_of_row W _ 1 _ _ _ HXW
  have y2:=cell_of_row W _ 2 _ _ _ HXW
  have y3:=cell_of_row W _ 3 _ _ _ HXW
  have y4:=cell_of_row W _ 4 _ _ _ HXW
  have y5:=cell_of_row W _ 5 _ _ _ HXW
  have y6:=cell_of_row W _ 6 _ _ _ HXW
  have y7:=cell_of_row W _ 7 _ _ _ HXW
  have y8:=cell_of_row W _ 8 _ _ _ HXW
  have y9:=cell_of_row W _ 9 _ _ _ HXW
  have y10:=cell_of_row W _ 10 _ _ _ HXW
  have y11:=cell_of_row W _ 11 _ _ _ HXW
  have y12:=cell_of_row W _ 12 _ _ _ HXW
  have y13:=cell_of_row W _ 13 _ _ _ HXW
  simp only [List.getElem?_toArray,List.getElem?_cons_zero,List.getElem?_cons_succ] at y0 y1 y2 y3 y4 y5 y6 y7 y8 y9 y10 y11 y12 y13
  have HXW':=Lib.hid HXW
  clear HXW
  go_simp
  exact hK
 simp only [Act.put,List.setIfInBounds_toArray,List.set_cons_succ,List.set_cons_zero]
 refine tailM_pure (condV q.wher a cap) rfl (StableW.below _ _ (Nat.le_refl _)) (fun _ h=>h) (fun W hS K hK=>?_) ?_
 ·have HXW:=row_later hS H1.out
  have yz:=lt_of_block HXW
  have y0:=cell_of_row W _ 0 _ _ _ HXW
  have y1:=cell_of_row W _ 1 _ _ _ HXW
  have y2:=cell_of_row W _ 2 _ _ _ HXW
  have y3:=cell_of_row W _ 3 _ _ _ HXW
  have y4:=cell_of_row W _ 4 _ _ _ HXW
  have y5:=cell_of_row W _ 5 _ _ _ HXW
  have y6:=cell_of_row W _ 6 _ _ _ HXW
  have y7:=cell_of_row W _ 7 _ _ _ HXW
  have y8:=cell_of_row W _ 8 _ _ _ HXW
  have y9:=cell_of_row W _ 9 _ _ _ HXW
  have y10:=cell_of_row W _ 10 _ _ _ HXW
  have y11:=cell_of_row W _ 11 _ _ _ HXW
  have y12:=cell_of_row W _ 12 _ _ _ HXW
  have y13:=cell_of_row W _ 13 _ _ _ HXW
  simp only [List.getElem?_toArray,List.getElem?_cons_zero,List.getElem?_cons_succ] at y0 y1 y2 y3 y4 y5 y6 y7 y8 y9 y10 y11 y12 y13
  have HXW':=Lib.hid HXW
  clear HXW
  go_simp
  exact hK
 simp only [Act.put,List.setIfInBounds_toArray,List.set_cons_succ,List.set_cons_zero]
 refine tailM_step (ι:=Unit) (fun _=>.bool true) (fun _ W=>Below w1.heap.size w1 W) rfl (fun _=>StableW.below _ _ (Nat.le_refl _)) (fun _ _ h=>h) (fun W hS K hK=>?_) (fun _=>?_)
 ·go_simp
  refine (HV.out W hS).mono ?_
  rintro e w2 ⟨rfl,hb2⟩
  exact hK () _ (below_step hS (Nat.le_refl _) hb2)
 simp only [Act.put,List.setIfInBounds_toArray,List.set_cons_succ,List.set_cons_zero]
 refine tailM_pure (.bool false) rfl (StableW.below _ _ (Nat.le_refl _)) (fun _ h=>h) (fun W hS K hK=>?_) ?_
 ·have HXW:=row_later hS H1.out
  have yz:=lt_of_block HXW
  have y0:=cell_of_row W _ 0 _ _ _ HXW
  have y1:=cell_of_row W _ 1 _ _ _ HXW
  have y2:=cell_of_row W _ 2 _ _ _ HXW
  have y3:=cell_of_row W _ 3 _ _ _ HXW
  have y4:=cell_of_row W _ 4 _ _ _ HXW
  have y5:=cell_of_row W _ 5 _ _ _ HXW
  have y6:=cell_of_row W _ 6 _ _ _ HXW
  have y7:=cell_of_row W _ 7 _ _ _ HXW
  have y8:=cell_of_row W _ 8 _ _ _ HXW
  have y9:=cell_of_row W _ 9 _ _ _ HXW
  have y10:=cell_of_row W _ 10 _ _ _ HXW
  have y11:=cell_of_row W _ 11 _ _ _ HXW
  have y12:=cell_of_row W _ 12 _ _ _ HXW
  have y13:=cell_of_row W _ 13 _ _ _ HXW
  simp only [List.getElem?_toArray,List.getElem?_cons_zero,List.getElem?_cons_succ] at y0 y1 y2 y3 y4 y5 y6 y7 y8 y9 y10 y11 y12 y13
  have HXW':=Lib.hid HXW
  clear HXW
  go_simp
  exact hK
 simp only [Act.put,List.setIfInBounds_toArray,List.set_cons_succ,List.set_cons_zero]
 refine tailM_pure (.bool false) rfl (StableW.below _ _ (Nat.le_refl _)) (fun _ h=>h) (fun W hS K hK=>?_) ?_
 ·have HXW:=row_later hS H1.out
  have yz:=lt_of_block HXW
  have y0:=cell_of_row W _ 0 _ _ _ HXW
  have y1:=cell_of_row W _ 1 _ _ _ HXW
  have y2:=cell_of_row W _ 2 _ _ _ HXW
  have y3:=cell_of_row W _ 3 _ _ _ HXW
  have y4:=cell_of_row W _ 4 _ _ _ HXW
  have y5:=cell_of_row W _ 5 _ _ _ HXW
  have y6:=cell_of_row W _ 6 _ _ _ HXW
  have y7:=cell_of_row W _ 7 _ _ _ HXW
  have y8:=cell_of_row W _ 8 _ _ _ HXW
  have y9:=cell_of_row W _ 9 _ _ _ HXW
  have y10:=cell_of_row W _ 10 _ _ _ HXW
  have y11:=cell_of_row W _ 11 _ _ _ HXW
  have y12:=cell_of_row W _ 12 _ _ _ HXW
  have y13:=cell_of_row W _ 13 _ _ _ HXW
  simp only [List.getElem?_toArray,List.getElem?_cons_zero,List.getElem?_cons_succ] at y0 y1 y2 y3 y4 y5 y6 y7 y8 y9 y10 y11 y12 y13
  have HXW':=Lib.hid HXW
  clear HXW
  go_simp
  exact hK
 simp only [Act.put,List.setIfInBounds_toArray,List.set_cons_succ,List.set_cons_zero]
 refine tailM_nil fun w3 hb3=>?_
 have B3:=below_step B1 (Nat.le_refl _) hb3
 have H3:=Lib.hid (row_later hb3 H1.out)
 clear hb3 d0 d6 HW HV H1 B1 hR
 have xz:=lt_of_block H3.out
 have x0:=cell_of_row w3 _ 0 _ _ _ H3.out
 have x1:=cell_of_row w3 _ 1 _ _ _ H3.out
 have x2:=cell_of_row w3 _ 2 _ _ _ H3.out
 have x3:=cell_of_row w3 _ 3 _ _ _ H3.out
 have x4:=cell_of_row w3 _ 4 _ _ _ H3.out
 have x5:=cell_of_row w3 _ 5 _ _ _ H3.out
 have x6:=cell_of_row w3 _ 6 _ _ _ H3.out
 have x7:=cell_of_row w3 _ 7 _ _ _ H3.out
 have x8:=cell_of_row w3 _ 8 _ _ _ H3.out
 have x9:=cell_of_row w3 _ 9 _ _ _ H3.out
 have x10:=cell_of_row w3 _ 10 _ _ _ H3.out
 have x11:=cell_of_row w3 _ 11 _ _ _ H3.out
 have x12:=cell_of_row w3 _ 12 _ _ _ H3.out
 have x13:=cell_of_row w3 _ 13 _ _ _ H3.out
 simp only [List.getElem?_toArray,List.getElem?_cons_zero,List.getElem?_cons_succ] at x0 x1 x2 x3 x4 x5 x6 x7 x8 x9 x10 x11 x12 x13
 go_wp2
 all_goals
  go_ret
  refine ⟨ret_bool ?_,(B3.alloc (by have:=B3.size;simp;omega) _)⟩
  rw [Bool.eq_iff_iff]
  simp only [beq_iff_eq,decide_eq_true_eq]
  constructor
  ·intro hh
   first | (exact absurd hh (by decide)) | exact ⟨by assumption,by omega,by omega,by omega,by assumption,by assumption,by omega⟩
  ·rintro ⟨e1,e2,e3,e4,e5,e6,e7⟩
   first | rfl | omega | contradiction
end Go.Proofs.YtdfenhjibnfdeaaGreatDoor
