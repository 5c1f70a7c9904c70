/-   -/
import Derived.Test.YtdfenhjibnfdeaaGreatDoorQzAl
import Derived.Test.YtdfenhjibnfdeaaGreatDoorQzAv
import Derived.Test.YtdfenhjibnfdeaaGreatDoorQzAz
import Derived.Test.YtdfenhjibnfdeaaGreatDoorQzBa
import Derived.Test.YtdfenhjibnfdeaaGreatDoorQzBb
import Derived.Test.YtdfenhjibnfdeaaGreatDoorQzBc
namespace Go.Proofs.YtdfenhjibnfdeaaGreatDoor
open Go.RowKit Go.Shelf
set_option maxRecDepth 100000 in
set_option maxHeartbeats 8000000 in
theorem validQL_any (q:QryD) (a:Option Addr) (cap:Nat) (w:World) (hk:q.kind<0) :
  Calls Tryz.prog 12 #[qryV q a cap] w fun e w'=>e=.returned (.bool false)∧Below w.heap.size w w':=by
 have B1:=(Below.refl w.heap.size w).alloc (Nat.le_refl _) (.cells (qryC q a cap) 28)
 obtain ⟨w1,hw1⟩:∃w1,w.alloc (.cells (qryC q a cap) 28)=w1:=⟨_,rfl⟩
 have H1:=Lib.hid (row_new w (.cells (qryC q a cap) 28))
 rw [hw1] at B1 H1
 have HW:=Lib.hid hw1
 have hmx:Tryz.prog.follows .mixedOrders=true:=by kernel_rfl
 have d0:decide (q.kind<0)=true:=decide_eq_true hk
 clear hw1
 go_enter Tryz.func12,Tryz.ntmps12
 go_wp2
 rw [HW.out]
 have xz:=lt_of_block H1.out
 have x0:=cell_of_row w1 _ 0 _ _ _ H1.out
 have x1:=cell_of_row w1 _ 1 _ _ _ H1.out
 have x2:=cell_of_row w1 _ 2 _ _ _ H1.out
 have x3:=cell_of_row w1 _ 3 _ _ _ H1.out
 have x4:=cell_of_row w1 _ 4 _ _ _ H1.out
 have x5:=cell_of_row w1 _ 5 _ _ _ H1.out
 have x6:=cell_of_row w1 _ 6 _ _ _ H1.out
 have x7:=cell_of_row w1 _ 7 _ _ _ H1.out
 have x8:=cell_of_row w1 _ 8 _ _ _ H1.out
 have x9:=cell_of_row w1 _ 9 _ _ _ H1.out
 have x10:=cell_of_row w1 _ 10 _ _ _ H1.out
 have x11:=cell_of_row w1 _ 11 _ _ _ H1.out
 have x12:=cell_of_row w1 _ 12 _ _ _ H1.out
 have x13:=cell_of_row w1 _ 13 _ _ _ H1.out
 simp only [List.getElem?_toArray,List.getElem?_cons_zero,List.getElem?_cons_succ] at x0 x1 x2 x3 x4 x5 x6 x7 x8 x9 x10 x11 x12 x13
 have k1:=cell_belowBy x1
 clear x0 x1 x2 x3 x4 x5 x6 x7 x8 x9 x10 x11 x12 x13
 refine wp_region_quiet_below (by assumption) (by kernel_rfl) ?_
 repeat (go_big_quiet_step (fail))
 refine wpQuiet_nil ?_
 intro w6 hw'
 obtain ⟨⟨w7,hb7⟩,hw''⟩:=hw'
 subst hw''
 have B7:=below_step B1 (Nat.le_refl _) hb7
 go_wp2
 go_ret
 exact ⟨rfl,B7⟩
set_option maxRecDepth 100000 in
set_option maxHeartbeats 8000000 in
theorem validQG_any (q:QryD) (a:Option Addr) (cap:Nat) (w:World) (hk:6≤q.kind) :
  Calls Tryz.prog 12 #[qryV q a cap] w fun e w'=>e=.returned (.bool false)∧Below w.heap.size w w':=by
 have B1:=(Below.refl w.heap.size w).alloc (Nat.le_refl _) (.cells (qryC q a cap) 28)
 obtain ⟨w1,hw1⟩:∃w1,w.alloc (.cells (qryC q a cap) 28)=w1:=⟨_,rfl⟩
 have H1:=Lib.hid (row_new w (.cells (qryC q a cap) 28))
 rw [hw1] at B1 H1
 have HW:=Lib.hid hw1
 have hmx:Tryz.prog.follows .mixedOrders=true:=by kernel_rfl
 have d0:decide (q.kind<0)=false:=decide_eq_false (by omega)
 have d6:decide ((6:Int)≤q.kind)=true:=decide_eq_true hk
 have hst:=StableW.below w1.heap.size w1 (Nat.le_refl _)
 clear hw1
 go_enter Tryz.func12,Tryz.ntmps12
 go_wp2
 rw [HW.out]
 refine wp_region_nodes 6 10 (fun W=>Below w1.heap.size w1 W) (fun W=>Below w1.heap.size w1 W) hmx (by kernel_rfl) (by kernel_rfl) (by kernel_rfl) hst (fun W hW=>hW) (Below.refl _ _).drew (by kernel_rfl) ?_
 apply Exists.intro
 refine ⟨fun W hW=>?_,?_⟩
 ·have HXW:=row_later hW H1.out
  clear hW
  have xz:=lt_of_block HXW
  have x0:=cell_of_row W _ 0 _ _ _ HXW
  have x1:=cell_of_row W _ 1 _ _ _ HXW
  have x2:=cell_of_row W _ 2 _ _ _ HXW
  have x3:=cell_of_row W _ 3 _ _ _ HXW
  have x4:=cell_of_row W _ 4 _ _ _ HXW
  have x5:=cell_of_row W _ 5 _ _ _ HXW
  have x6:=cell_of_row W _ 6 _ _ _ HXW
  have x7:=cell_of_row W _ 7 _ _ _ HXW
  have x8:=cell_of_row W _ 8 _ _ _ HXW
  have x9:=cell_of_row W _ 9 _ _ _ HXW
  have x10:=cell_of_row W _ 10 _ _ _ HXW
  have x11:=cell_of_row W _ 11 _ _ _ HXW
  have x12:=cell_of_row W _ 12 _ _ _ HXW
  have x13:=cell_of_row W _ 13 _ _ _ HXW
  simp only [List.getElem?_toArray,List.getElem?_cons_zero,List.getElem?_cons_succ] at x0 x1 x2 x3 x4 x5 x6 x7 x8 x9 x10 x11 x12 x13
  have HXW':=Lib.hid HXW
  clear HXW
  have q1:=cell_belowBy x1
  clear x0 x1 x2 x3 x4 x5 x6 x7 x8 x9 x10 x11 x12 x13
  simp only [List.take_succ_cons,List.take_zero]
  repeat (go_big_quiet_step (fail))
  exact wpQuiet_nil rfl
 refine any_one 6 (by kernel_rfl) rfl rfl ?_
 refine LoudB.mkD (some 12) (ι:=Nat) (fun g=>.slice (some ⟨g,0,none⟩) 6 6) (fun g W=>Below w1.heap.size w1 W) rfl (fun g=>hst) (fun _ _ h=>h) (fun W hS K hK=>?_) (fun g=>?_)
 ·go_simp
  refine (words_any W).mono ?_
  rintro e w2 ⟨rfl,-,hb2⟩
  exact hK W.heap.size _ (below_step hS (Nat.le_refl _) hb2)
 simp only [Act.put,List.setIfInBounds_toArray,List.set_cons_succ,List.set_cons_zero]
 refine nodes_quiet 7 9 0 (by kernel_rfl) (by kernel_rfl) (by kernel_rfl) hst (fun _ h=>h) ⟨w1,Below.refl _ _⟩ (by kernel_rfl) (by kernel_rfl) ?_
 apply Exists.intro
 refine ⟨fun W hW=>?_,?_⟩
 ·clear hW
  simp only [List.drop_succ_cons,List.drop_zero,List.take_succ_cons,List.take_zero]
  repeat (go_big_quiet_step (fail))
  exact wpQuiet_nil rfl
 refine any_end (by kernel_rfl) fun w3 hb3=>?_
 have B3:=below_step B1 (Nat.le_refl _) hb3
 go_wp2
 go_ret
 exact ⟨rfl,B3⟩
set_option maxRecDepth 100000 in
set_option maxHeartbeats 8000000 in
theorem validQD_any (q:QryD) (a:Option Addr) (cap:Nat) (w:World) (hc:CondIs w q.wher a) (hk:0≤q.kind∧q.kind<6) (ha:q.ask<1∨6<q.ask) (hR:validC q.wher=true) :
  Calls Tryz.prog 12 #[qryV q a cap] w fun e w'=>e=.returned (.bool false)∧Below w.heap.size w w':=by
 have a1:(q.ask==1)=false:=by rw [beq_eq_false_iff_ne];omega
 have a2:(q.ask==2)=false:=by rw [beq_eq_false_iff_ne];omega
 have a3:(q.ask==3)=false:=by rw [beq_eq_false_iff_ne];omega
 have a4:(q.ask==4)=false:=by rw [beq_eq_false_iff_ne];omega
 have a5:(q.ask==5)=false:=by rw [beq_eq_false_iff_ne];omega
 have a6:(q.ask==6)=false:=by rw [beq_eq_false_iff_ne];omega
 clear ha
 have B1:=(Below.refl w.heap.size w).alloc (Nat.le_refl _) (.cells (qryC q a cap) 28)
 obtain ⟨w1,hw1⟩:∃w1,w.alloc (.cells (qryC q a cap) 28)=w1:=⟨_,rfl⟩
 have H1:=Lib.hid (row_new w (.cells (qryC q a cap) 28))
 rw [hw1] at B1 H1
 have HW:=Lib.hid hw1
 have hmx:Tryz.prog.follows .mixedOrders=true:=by kernel_rfl
 have HC1:=Lib.hid (hc.later B1)
 have HV:=Lib.hid (fun W (hb:Below w1.heap.size w1 W)=>valid_any q.wher a cap W (HC1.out.later hb))
 clear hc hw1
 have d0:decide (q.kind<0)=false:=by rw [decide_eq_false_iff_not];omega
 have d6:decide ((6:Int)≤q.kind)=false:=by rw [decide_eq_false_iff_not];omega
 rw [hR] at HV
 go_enter Tryz.func12,Tryz.ntmps12
 go_wp2
 rw [HW.out]
 refine wp_region_mix 6 (fun W=>Below w1.heap.size w1 W) (fun W=>Below w1.heap.size w1 W) hmx (by kernel_rfl) (by kernel_rfl) (by kernel_rfl) (StableW.below _ _ (Nat.le_refl _)) (fun W hW=>hW) (Below.refl _ _).drew ?_
 apply Exists.intro
 refine ⟨fun W hW=>?_,?_⟩
 ·have HXW:=row_later hW H1.out
  clear hW
  have xz:=lt_of_block HXW
  have x0:=cell_of_row W _ 0 _ _ _ HXW
  have x1:=cell_of_row W _ 1 _ _ _ HXW
  have x2:=cell_of_row W _ 2 _ _ _ HXW
  have x3:=cell_of_row W _ 3 _ _ _ HXW
  have x4:=cell_of_row W _ 4 _ _ _ HXW
  have x5:=cell_of_row W _ 5 _ _ _ HXW
  have x6:=cell_of_row W _ 6 _ _ _ HXW
  have x7:=cell_of_row W _ 7 _ _ _ HXW
  have x8:=cell_of_row W _ 8 _ _ _ HXW
  have x9:=cell_of_row W _ 9 _ _ _ HXW
  have x10:=cell_of_row W _ 10 _ _ _ HXW
  have x11:=cell_of_row W _ 11 _ _ _ HXW
  have x12:=cell_of_row W _ 12 _ _ _ HXW
  have x13:=cell_of_row W _ 13 _ _ _ HXW
  simp only [List.getElem?_toArray,List.getElem?_cons_zero,List.getElem?_cons_succ] at x0 x1 x2 x3 x4 x5 x6 x7 x8 x9 x10 x11 x12 x13
  have HXW':=Lib.hid HXW
  clear HXW
  have q1:=cell_belowBy x1
  clear x0 x1 x2 x3 x4 x5 x6 x7 x8 x9 x10 x11 x12 x13
  simp only [List.take_succ_cons,List.take_zero]
  repeat (go_big_quiet_step (fail))
  exact wpQuiet_nil rfl
 simp only [List.drop_succ_cons,List.drop_zero]
 refine tailM_step (ι:=Nat) (fun g=>.slice (some ⟨g,0,none⟩) 6 6) (fun g W=>Below w1.heap.size w1 W) rfl (fun g=>StableW.below _ _ (Nat.le_refl _)) (fun _ _ h=>h) (fun W hS K hK=>?_) (fun g=>?_)
 ·go_simp
  refine (words_any W).mono ?_
  rintro e w2 ⟨rfl,-,hb2⟩
  exact hK W.heap.size _ (below_step hS (Nat.le_refl _) hb2)
 simp only [Act.put,List.setIfInBounds_toArray,List.set_cons_succ,List.set_cons_zero]
 refine tailM_pure (.int .i64 6) rfl (StableW.below _ _ (Nat.le_refl _)) (fun _ h=>h) (fun W hS K hK=>?_) ?_
 ·have HXW:=row_later hS H1.out
  have yz:=lt_of_block HXW
  have y0:=cell_of_row W _ 0 _ _ _ HXW
  have y1:=cell_of_row W _ 1 _ _ _ HXW
  have y2:=cell_of_row W _ 2 _ _ _ HXW
  have y3:=cell_of_row W _ 3 _ _ _ HXW
  have y4:=cell_of_row W _ 4 _ _ _ HXW
  have y5:=cell_of_row W _ 5 _ _ _ HXW
  have y6:=cell_of_row W _ 6 _ _ _ HXW
  have y7:=cell_of_row W _ 7 _ _ _ HXW
  have y8:=cell_of_row W _ 8 _ _ _ HXW
  have y9:=cell_of_row W _ 9 _ _ _ HXW
  have y10:=cell_of_row W _ 10 _ _ _ HXW
  have y11:=cell_of_row W _ 11 _ _ _ HXW
  have y12:=cell_of_row W _ 12 _ _ _ HXW
  have y13:=cell_of_row W _ 13 _ _ _ HXW
  simp only [List.getElem?_toArray,List.getElem?_cons_zero,List.getElem?_cons_succ] at y0 y1 y2 y3 y4 y5 y6 y7 y8 y9 y10 y11 y12 y13
  have HXW':=Lib.hid HXW
  clear HXW
  go_simp
  exact hK
 simp only [Act.put,List.setIfInBounds_toArray,List.set_cons_succ,List.set_cons_zero]
 refine tailM_pure (.bool false) rfl (StableW.below _ _ (Nat.le_refl _)) (fun _ h=>h) (fun W hS K hK=>?_) ?_
 ·have HXW:=row_later hS H1.out
  have yz:=lt_of_block HXW
  have y0:=cell_of_row W _ 0 _ _ _ HXW
  have y1:=cell_of_row W _ 1 _ _ _ HXW
  have y2:=cell_of_row W _ 2 _ _ _ HXW
  have y3:=cell_of_row W _ 3 _ _ _ HXW
  have y4:=cell_of_row W _ 4 _ _ _ HXW
  have y5:=cell_of_row W _ 5 _ _ _ HXW
  have y6:=cell_of_row W _ 6 _ _ _ HXW
  have y7:=cell_of_row W _ 7 _ _ _ HXW
  have y8:=cell_of_row W _ 8 _ _ _ HXW
  have y9:=cell_of_row W _ 9 _ _ _ HXW
  have y10:=cell_of_row W _ 10 _ _ _ HXW
  have y11:=cell_of_row W _ 11 _ _ _ HXW
  have y12:=cell_of_row W _ 12 _ _ _ HXW
  have y13:=cell_of_row W _ 13 _ _ _ HXW
  simp only [List.getElem?_toArray,List.getElem?_cons_zero,List.getElem?_cons_succ] at y0 y1 y2 y3 y4 y5 y6 y7 y8 y9 y10 y11 y12 y13
  have HXW':=Lib.hid HXW
  clear HXW
  go_simp
  exact hK
 simp only [Act.put,List.setIfInBounds_toArray,List.set_cons_succ,List.set_cons_zero]
 refine tailM_pure (.bool false) rfl (StableW.below _ _ (Nat.le_refl _)) (fun _ h=>h) (fun W hS K hK=>?_) ?_
 ·have HXW:=row_later hS H1.out
  have yz:=lt_of_block HXW
  have y0:=cell_of_row W _ 0 _ _ _ HXW
  have y1:=cell_of_row W _ 1 _ _ _ HXW
  have y2:=cell_of_row W _ 2 _ _ _ HXW
  have y3:=cell_of_row W _ 3 _ _ _ HXW
  have y4:=cell_of_row W _ 4 _ _ _ HXW
  have y5:=cell_of_row W _ 5 _ _ _ HXW
  have y6:=cell_of_row W _ 6 _ _ _ HXW
  have y7:=cell_of_row W _ 7 _ _ _ HXW
  have y8:=cell_of_row W _ 8 _ _ _ HXW
  have y9:=cell_of_row W _ 9 _ _ _ HXW
  have y10:=cell_of_row W _ 10 _ _ _ HXW
  have y11:=cell_of_row W _ 11 _ _ _ HXW
  have y12:=cell_of_row W _ 12 _ _ _ HXW
  have y13:=cell_of_row W _ 13 _ _ _ HXW
  simp only [List.getElem?_toArray,List.getElem?_cons_zero,List.getElem?_cons_succ] at y0 y1 y2 y3 y4 y5 y6 y7 y8 y9 y10 y11 y12 y13
  have HXW':=Lib.hid HXW
  clear HXW
  go_simp
  exact hK
 simp only [Act.put,List.setIfInBounds_toArray,List.set_cons_succ,List.set_cons_zero]
 refine tailM_pure (.bool false) rfl (StableW.below _ _ (Nat.le_refl _)) (fun _ h=>h) (fun W hS K hK=>?_) ?_
 ·have HXW:=row_later hS H1.out
  have yz:=lt_of_block HXW
  have y0:=cell_of_row W _ 0 _ _ _ HXW
  have y1:=cell_of_row W _ 1 _ _ _ HXW
  have y2:=cell_of_row W _ 2 _ _ _ HXW
  have y3:=cell_of_row W _ 3 _ _ _ HXW
  have y4:=cell_of_row W _ 4 _ _ _ HXW
  have y5:=cell_of_row W _ 5 _ _ _ HXW
  have y6:=cell_of_row W _ 6 _ _ _ HXW
  have y7:=cell_of_row W _ 7 _ _ _ HXW
  have y8:=cell_of_row W _ 8 _ _ _ HXW
  have y9:=cell_of_row W _ 9 _ _ _ HXW
  have y10:=cell_of_row W _ 10 _ _ _ HXW
  have y11:=cell_of_row W _ 11 _ _ _ HXW
  have y12:=cell_of_row W _ 12 _ _ _ HXW
  have y13:=cell_of_row W _ 13 _ _ _ HXW
  simp only [List.getElem?_toArray,List.getElem?_cons_zero,List.getElem?_cons_succ] at y0 y1 y2 y3 y4 y5 y6 y7 y8 y9 y10 y11 y12 y13
  have HXW':=Lib.hid HXW
  clear HXW
  go_simp
  exact hK
 simp only [Act.put,List.setIfInBounds_toArray,List.set_cons_succ,List.set_cons_zero]
 refine tailM_pure (.pointer (some ⟨w.heap.size,2,none⟩)) rfl (StableW.below _ _ (Nat.le_refl _)) (fun _ h=>h) (fun W hS K hK=>?_) ?_
 ·have HXW:=row_later hS H1.out
  have yz:=lt_of_block HXW
  have y0:=cell_of_row W _ 0 _ _ _ HXW
  have y1:=cell_of_row W _ 1 _ _ _ HXW
  have y2:=cell_of_row W _ 2 _ _ _ HXW
  have y3:=cell_of_row W _ 3 _ _ _ HXW
  have y4:=cell_of_row W _ 4 _ _ _ HXW
  have y5:=cell_of_row W _ 5 _ _ _ HXW
  have y6:=cell_of_row W _ 6 _ _ _ HXW
  have y7:=cell_of_row W _ 7 _ _ _ HXW
  have y8:=cell_of_row W _ 8 _ _ _ HXW
  have y9:=cell_of_row W _ 9 _ _ _ HXW
  have y10:=cell_of_row W _ 10 _ _ _ HXW
  have y11:=cell_of_row W _ 11 _ _ _ HXW
  have y12:=cell_of_row W _ 12 _ _ _ HXW
  have y13:=cell_of_row W _ 13 _ _ _ HXW
  simp only [List.getElem?_toArray,List.getElem?_cons_zero,List.getElem?_cons_succ] at y0 y1 y2 y3 y4 y5 y6 y7 y8 y9 y10 y11 y12 y13
  have HXW':=Lib.hid HXW
  clear HXW
  go_simp
  exact hK
 simp only [Act.put,List.setIfInBounds_toArray,List.set_cons_succ,List.set_cons_zero]
 refine tailM_pure (condV q.wher a cap) rfl (StableW.below _ _ (Nat.le_refl _)) (fun _ h=>h) (fun W hS K hK=>?_) ?_
 ·have HXW:=row_later hS H1.out
  have yz:=lt_of_block HXW
  have y0:=cell_of_row W _ 0 _ _ _ HXW
  have y1:=cell_of_row W _ 1 _ _ _ HXW
  have y2:=cell_of_row W _ 2 _ _ _ HXW
  have y3:=cell_of_row W _ 3 _ _ _ HXW
  have y4:=cell_of_row W _ 4 _ _ _ HXW
  have y5:=cell_of_row W _ 5 _ _ _ HXW
  have y6:=cell_of_row W _ 6 _ _ _ HXW
  have y7:=cell_of_row W _ 7 _ _ _ HXW
  have y8:=cell_of_row W _ 8 _ _ _ HXW
  have y9:=cell_of_row W _ 9 _ _ _ HXW
  have y10:=cell_of_row W _ 10 _ _ _ HXW
  have y11:=cell_of_row W _ 11 _ _ _ HXW
  have y12:=cell_of_row W _ 12 _ _ _ HXW
  have y13:=cell_of_row W _ 13 _ _ _ HXW
  simp only [List.getElem?_toArray,List.getElem?_cons_zero,List.getElem?_cons_succ] at y0 y1 y2 y3 y4 y5 y6 y7 y8 y9 y10 y11 y12 y13
  have HXW':=Lib.hid HXW
  clear HXW
  go_simp
  exact hK
 simp only [Act.put,List.setIfInBounds_toArray,List.set_cons_succ,List.set_cons_zero]
 refine tailM_step (ι:=Unit) (fun _=>.bool true) (fun _ W=>Below w1.heap.size w1 W) rfl (fun _=>StableW.below _ _ (Nat.le_refl _)) (fun _ _ h=>h) (fun W hS K hK=>?_) (fun _=>?_)
 ·go_simp
  refine (HV.out W hS).mono ?_
  rintro e w2 ⟨rfl,hb2⟩
  exact hK () _ (below_step hS (Nat.le_refl _) hb2)
 simp only [Act.put,List.setIfInBounds_toArray,List.set_cons_succ,List.set_cons_zero]
 refine tailM_pure (.bool false) rfl (StableW.below _ _ (Nat.le_refl _)) (fun _ h=>h) (fun W hS K hK=>?_) ?_
 ·have HXW:=row_later hS H1.out
  have yz:=lt_of_block HXW
  have y0:=cell_of_row W _ 0 _ _ _ HXW
  have y1:=cell_of_row W _ 1 _ _ _ HXW
  have y2:=cell_of_row W _ 2 _ _ _ HXW
  have y3:=cell_of_row W _ 3 _ _ _ HXW
  have y4:=cell_of_row W _ 4 _ _ _ HXW
  have y5:=cell_of_row W _ 5 _ _ _ HXW
  have y6:=cell_of_row W _ 6 _ _ _ HXW
  have y7:=cell_of_row W _ 7 _ _ _ HXW
  have y8:=cell_of_row W _ 8 _ _ _ HXW
  have y9:=cell_of_row W _ 9 _ _ _ HXW
  have y10:=cell_of_row W _ 10 _ _ _ HXW
  have y11:=cell_of_row W _ 11 _ _ _ HXW
  have y12:=cell_of_row W _ 12 _ _ _ HXW
  have y13:=cell_of_row W _ 13 _ _ _ HXW
  simp only [List.getElem?_toArray,List.getElem?_cons_zero,List.getElem?_cons_succ] at y0 y1 y2 y3 y4 y5 y6 y7 y8 y9 y10 y11 y12 y13
  have HXW':=Lib.hid HXW
  clear HXW
  go_simp
  exact hK
 simp only [Act.put,List.setIfInBounds_toArray,List.set_cons_succ,List.set_cons_zero]
 refine tailM_pure (.bool false) rfl (StableW.below _ _ (Nat.le_refl _)) (fun _ h=>h) (fun W hS K hK=>?_) ?_
 ·have HXW:=row_later hS H1.out
  have yz:=lt_of_block HXW
  have y0:=cell_of_row W _ 0 _ _ _ HXW
  have y1:=cell_of_row W _ 1 _ _ _ HXW
  have y2:=cell_of_row W _ 2 _ _ _ HXW
  have y3:=cell_of_row W _ 3 _ _ _ HXW
  have y4:=cell_of_row W _ 4 _ _ _ HXW
  have y5:=cell_of_row W _ 5 _ _ _ HXW
  have y6:=cell_of_row W _ 6 _ _ _ HXW
  have y7:=cell_of_row W _ 7 _ _ _ HXW
  have y8:=cell_of_row W _ 8 _ _ _ HXW
  have y9:=cell_of_row W _ 9 _ _ _ HXW
  have y10:=cell_of_row W _ 10 _ _ _ HXW
  have y11:=cell_of_row W _ 11 _ _ _ HXW
  have y12:=cell_of_row W _ 12 _ _ _ HXW
  have y13:=cell_of_row W _ 13 _ _ _ HXW
  simp only [List.getElem?_toArray,List.getElem?_cons_zero,List.getElem?_cons_succ] at y0 y1 y2 y3 y4 y5 y6 y7 y8 y9 y10 y11 y12 y13
  have HXW':=Lib.hid HXW
  clear HXW
  go_simp
  exact hK
 simp only [Act.put,List.setIfInBounds_toArray,List.set_cons_succ,List.set_cons_zero]
 refine tailM_nil fun w3 hb3=>?_
 have B3:=below_step B1 (Nat.le_refl _) hb3
 have H3:=Lib.hid (row_later hb3 H1.out)
 clear hb3 d0 d6 HW HV H1 B1 hR
 have xz:=lt_of_block H3.out
 have x0:=cell_of_row w3 _ 0 _ _ _ H3.out
 have x1:=cell_of_row w3 _ 1 _ _ _ H3.out
 have x2:=cell_of_row w3 _ 2 _ _ _ H3.out
 have x3:=cell_of_row w3 _ 3 _ _ _ H3.out
 have x4:=cell_of_row w3 _ 4 _ _ _ H3.out
 have x5:=cell_of_row w3 _ 5 _ _ _ H3.out
 have x6:=cell_of_row w3 _ 6 _ _ _ H3.out
 have x7:=cell_of_row w3 _ 7 _ _ _ H3.out
 have x8:=cell_of_row w3 _ 8 _ _ _ H3.out
 have x9:=cell_of_row w3 _ 9 _ _ _ H3.out
 have x10:=cell_of_row w3 _ 10 _ _ _ H3.out
 have x11:=cell_of_row w3 _ 11 _ _ _ H3.out
 have x12:=cell_of_row w3 _ 12 _ _ _ H3.out
 have x13:=cell_of_row w3 _ 13 _ _ _ H3.out
 simp only [List.getElem?_toArray,List.getElem?_cons_zero,List.getElem?_cons_succ] at x0 x1 x2 x3 x4 x5 x6 x7 x8 x9 x10 x11 x12 x13
 go_wp2
 go_ret
 exact ⟨rfl,B3.alloc (by have:=B3.size;simp;omega) _⟩
end Go.Proofs.YtdfenhjibnfdeaaGreatDoor

namespace Go.Proofs.YtdfenhjibnfdeaaGreatDoor
open Go.RowKit Go.Shelf
theorem validQA_any (q:QryD) (a:Option Addr) (cap:Nat) (w:World) (hc:CondIs w q.wher a) (hi:q.id.size≤140737488355328) (hkey:q.key.size≤140737488355328) (hp:q.prof.size≤140737488355328) :
  Calls Tryz.prog 12 #[qryV q a cap] w fun e w'=>e=.returned (.bool (validQ q))∧Below w.heap.size w w':=by
 by_cases hk:0≤q.kind∧q.kind<6
 case neg =>
  have hv:validQ q=false:=by unfold validQ;rw [decide_eq_false hk];rfl
  rw [hv]
  by_cases h0:q.kind<0
  ·exact validQL_any q a cap w h0
  ·exact validQG_any q a cap w (by omega)
 cases hR:validC q.wher
 case false=>exact validQF_any q a cap w hc hk hR
 by_cases h1:q.ask=1
 ·exact validQ1_any q a cap w hc hk h1 hR
 by_cases h2:q.ask=2
 ·exact validQ2_any q a cap w hc hk h2 hi hR
 by_cases h3:q.ask=3
 ·exact validQ3_any q a cap w hc hk h3 hi hR
 by_cases h4:q.ask=4
 ·exact validQ4_any q a cap w hc hk h4 hR
 by_cases h5:q.ask=5
 ·exact validQ5_any q a cap w hc hk h5 hi hp hR
 by_cases h6:q.ask=6
 ·exact validQ6_any q a cap w hc hk h6 hkey hR
 have hv:validQ q=false:=by
  unfold validQ
  rw [if_neg h1,if_neg h2,if_neg h3,if_neg h4,if_neg h5,if_neg h6,Bool.and_false]
 rw [hv]
 exact validQD_any q a cap w hc hk (by omega) hR
end Go.Proofs.YtdfenhjibnfdeaaGreatDoor
