/- The order of labels: the closure that compares two of them. -/
import Derived.Test.YtapllmniplgajaaGreatDoorLabY
import Derived.Test.YtapllmniplgajaaGreatDoorObjP
import Derived.Test.YtapllmniplgajaaGreatDoorShelf
import Derived.Sort.Walk0
namespace Go.Proofs.YtapllmniplgajaaGreatDoor
open Go.Shelf Go.RowKit Go.Lib Go.Sort

theorem ltB_eq (a b : ByteArray) : ltB a b = ltStr a.toList b.toList := bytesLess_eq _ _
/-- How two texts compare. -/
def cmpS (a b : ByteArray) : Int := if ltB a b then -1 else if ltB b a then 1 else 0
/-- How two labels compare: by rank, then by name. -/
def cfL (x y : LabD) : Int := if Lib.compareInt x.rank y.rank = 0 then cmpS x.id y.id else Lib.compareInt x.rank y.rank
theorem cfL_lt (x y : LabD) : ltOf cfL x y = (decide (x.rank < y.rank) || decide (x.rank = y.rank) && ltB x.id y.id) := by
  unfold ltOf cfL cmpS
  rcases Int.lt_trichotomy x.rank y.rank with h | h | h
  · have hc : Lib.compareInt x.rank y.rank = -1 := by simp [Lib.compareInt, h]
    rw [hc]; simp [h]
  · have hc : Lib.compareInt x.rank y.rank = 0 := by simp [Lib.compareInt, h]
    rw [hc, if_pos rfl]
    cases h1 : ltB x.id y.id
    · cases h2 : ltB y.id x.id <;> simp [h]
    · simp [h]
  · have h1 : ¬ x.rank < y.rank := by omega
    have h2 : ¬ x.rank = y.rank := by omega
    have hc : Lib.compareInt x.rank y.rank = 1 := by simp [Lib.compareInt, h1, h]
    rw [hc]; simp [h1, h2]
theorem swoL : SWO (ltOf cfL) where
  irrefl x := by rw [cfL_lt, ltB_eq, swo_ltStr.irrefl]; simp
  trans x y z h1 h2 := by
    rw [cfL_lt] at *
    simp only [Bool.or_eq_true, Bool.and_eq_true, decide_eq_true_eq] at *
    rcases h1 with h1 | ⟨h1, g1⟩ <;> rcases h2 with h2 | ⟨h2, g2⟩
    · left; omega
    · left; omega
    · left; omega
    · right; refine ⟨by omega, ?_⟩
      rw [ltB_eq] at *
      exact swo_ltStr.trans _ _ _ g1 g2
  ntrans x y z h1 h2 := by
    rw [cfL_lt] at *
    simp only [Bool.or_eq_false_iff, Bool.and_eq_false_iff, decide_eq_false_iff_not] at *
    refine ⟨by omega, ?_⟩
    by_cases h : x.rank = z.rank
    · right
      have a1 : ltB x.id y.id = false := by rcases h1.2 with q | q
                                            · omega
                                            · exact q
      have a2 : ltB y.id z.id = false := by rcases h2.2 with q | q
                                            · omega
                                            · exact q
      rw [ltB_eq] at *
      exact swo_ltStr.ntrans _ _ _ a1 a2
    · left; exact h

theorem isNaNS (x : ByteArray) (w : World) : Calls Tryz.prog 113 #[.string x] w fun e w' => e = .returned (.bool false) ∧ w' = w := by
  go_enter Tryz.func113, Tryz.ntmps113
  go_wp2
  go_ret
  exact ⟨by simp, rfl⟩

set_option maxHeartbeats 1000000 in
theorem cmpS_any (x y : ByteArray) (w : World) : Calls Tryz.prog 93 #[.string x, .string y] w fun e w' => e = .returned (.int .i64 (cmpS x y)) ∧ w' = w := by
  have hn := fun z => isNaNS z
  cases h1 : ltB x y
  · cases h2 : ltB y x
    · have HR := Lib.hid (show cmpS x y = 0 by unfold cmpS; rw [h1, h2]; rfl)
      have h3 := bl_leq x.toList y.toList
      unfold ltB at h1 h2
      rw [h1, h2] at h3
      simp only [Bool.false_or, Bool.not_false] at h3
      go_enter Tryz.func93, Tryz.ntmps93
      go_wp2_with (go_at_call 113; refine (hn _ _).mono ?_; rintro e' w' ⟨rfl, rfl⟩)
      go_ret
      exact ⟨by rw [HR.out]; rfl, rfl⟩
    · have HR := Lib.hid (show cmpS x y = 1 by unfold cmpS; rw [h1, h2]; rfl)
      have h3 := bl_leq x.toList y.toList
      unfold ltB at h1 h2
      rw [h1, h2] at h3
      simp only [Bool.false_or, Bool.not_true] at h3
      go_enter Tryz.func93, Tryz.ntmps93
      go_wp2_with (go_at_call 113; refine (hn _ _).mono ?_; rintro e' w' ⟨rfl, rfl⟩)
      go_ret
      exact ⟨by rw [HR.out]; rfl, rfl⟩
  · have HR := Lib.hid (show cmpS x y = -1 by unfold cmpS; rw [h1]; rfl)
    unfold ltB at h1
    go_enter Tryz.func93, Tryz.ntmps93
    go_wp2_with (go_at_call 113; refine (hn _ _).mono ?_; rintro e' w' ⟨rfl, rfl⟩)
    go_ret
    exact ⟨by rw [HR.out]; rfl, rfl⟩

set_option maxHeartbeats 1000000 in
theorem orI_any (x y : Int) (B : Nat) (cap : Nat) (w : World) (h0 : w.cell? ⟨B, 0, none⟩ = some (.int .i64 x)) (h1 : w.cell? ⟨B, 1, none⟩ = some (.int .i64 y)) :
    Calls Tryz.prog 91 #[.slice (some ⟨B, 0, none⟩) 2 cap] w fun e w' => e = .returned (.int .i64 (if x = 0 then y else x)) ∧ w' = w := by
  obtain ⟨r, hr⟩ : ∃ r, r = if x = 0 then y else x := ⟨_, rfl⟩
  rw [← hr]
  by_cases hx : x = 0
  · have HR := Lib.hid (show r = y by rw [hr, if_pos hx])
    clear hr
    have hxb : (x != 0) = false := by simp [hx]
    by_cases hy : y = 0
    · have hyb : (y != 0) = false := by simp [hy]
      have HY := Lib.hid hy
      clear hx hy
      go_enter Tryz.func91, Tryz.ntmps91
      go_wp2
      refine wp_loop_rounds 3 ?_
      rw [rounds_succ]
      go_wp2
      rw [rounds_succ]
      go_wp2
      rw [rounds_succ]
      go_wp2
      go_ret
      exact ⟨by rw [HR.out, HY.out]; rfl, rfl⟩
    · have hyb : (y != 0) = true := by simp [hy]
      clear hx hy
      go_enter Tryz.func91, Tryz.ntmps91
      go_wp2
      refine wp_loop_rounds 2 ?_
      rw [rounds_succ]
      go_wp2
      rw [rounds_succ]
      go_wp2
      go_ret
      exact ⟨by rw [HR.out]; rfl, rfl⟩
  · have HR := Lib.hid (show r = x by rw [hr, if_neg hx])
    clear hr
    have hxb : (x != 0) = true := by simp [hx]
    clear hx
    go_enter Tryz.func91, Tryz.ntmps91
    go_wp2
    refine wp_loop_rounds 1 ?_
    rw [rounds_succ]
    go_wp2
    go_ret
    exact ⟨by rw [HR.out]; rfl, rfl⟩

/-- A world that has only grown, at its end, and drawn. -/
def Grew (w w' : World) : Prop := ∃ q os, w' = grow (w.drewN q) os
theorem drewN_grow (w : World) (os : Array Obj) (q : Nat) : (grow w os).drewN q = grow (w.drewN q) os := rfl
theorem drewN_drewN (w : World) (p q : Nat) : (w.drewN p).drewN q = w.drewN (p + q) := by
  show ({ w with drawn := w.drawn + p + q } : World) = { w with drawn := w.drawn + (p + q) }
  rw [Nat.add_assoc]
theorem Grew.refl (w : World) : Grew w w := ⟨0, #[], by rw [grow_empty]; rfl⟩
theorem Grew.trans {a b c : World} (h : Grew a b) (h2 : Grew b c) : Grew a c := by
  obtain ⟨q, os, rfl⟩ := h
  obtain ⟨p, os', rfl⟩ := h2
  exact ⟨q + p, os ++ os', by rw [drewN_grow, grow_grow, drewN_drewN]⟩
theorem Grew.alloc {a b : World} (h : Grew a b) (o : Obj) : Grew a (b.alloc o) := h.trans ⟨0, #[o], by rw [alloc_eq_grow]; rfl⟩
theorem Grew.drew {a b : World} (h : Grew a b) : Grew a b.drew := h.trans ⟨1, #[], by rw [grow_empty]; rfl⟩
theorem Grew.drewN {a b : World} (h : Grew a b) (n : Nat) : Grew a (b.drewN n) := h.trans ⟨n, #[], by rw [grow_empty]⟩
theorem Grew.below {a b : World} (h : Grew a b) : Below a.heap.size a b := by
  obtain ⟨q, os, rfl⟩ := h
  refine ⟨rfl, rfl, rfl, ?_, fun k hk => ?_⟩
  · rw [size_grow]; show a.heap.size ≤ a.heap.size + _; omega
  · show (a.heap ++ os)[k]? = _
    rw [Array.getElem?_append_left hk]

set_option maxHeartbeats 1000000 in
theorem key_any (x : LabD) (w : World) : Calls Tryz.prog 60 #[.agg #[.string x.id, .int .i64 x.x, .int .i64 x.y, .int .i64 x.w, .int .i64 x.h, .int .i64 x.rank]] w fun e w' => e = .returned (.tuple #[.int .i64 x.rank, .string x.id]) ∧ Grew w w' := by
  go_enter Tryz.func60, Tryz.ntmps60
  go_wp2_with fail
  have G1 : Grew w (w.alloc (.cells #[.string x.id, .int .i64 x.x, .int .i64 x.y, .int .i64 x.w, .int .i64 x.h, .int .i64 x.rank] 47)) := (Grew.refl w).alloc _
  have HO := row_new w (.cells #[.string x.id, .int .i64 x.x, .int .i64 x.y, .int .i64 x.w, .int .i64 x.h, .int .i64 x.rank] 47)
  generalize hw1 : w.alloc (.cells #[.string x.id, .int .i64 x.x, .int .i64 x.y, .int .i64 x.w, .int .i64 x.h, .int .i64 x.rank] 47) = w1
  rw [hw1] at G1 HO
  clear hw1
  have pz := lt_of_block HO
  have p0 := cell_of_row w1 _ 0 _ _ _ HO
  have p1 := cell_of_row w1 _ 1 _ _ _ HO
  have p2 := cell_of_row w1 _ 2 _ _ _ HO
  have p3 := cell_of_row w1 _ 3 _ _ _ HO
  have p4 := cell_of_row w1 _ 4 _ _ _ HO
  have p5 := cell_of_row w1 _ 5 _ _ _ HO
  simp only [List.getElem?_toArray, List.getElem?_cons_zero, List.getElem?_cons_succ] at p0 p1 p2 p3 p4 p5
  have HO' := Lib.hid HO
  clear HO
  go_wp2_with fail
  go_quiet (fail)
  go_wp2
  go_ret2
  exact ⟨rfl, G1.drewN _⟩

set_option maxHeartbeats 2000000 in
theorem cmpL_any (x y : LabD) (Bk : Nat) (w : World) (hk : w.cell? ⟨Bk, 0, none⟩ = some (.func (.func 60) #[] #[])) :
    Calls Tryz.prog 90 #[.agg #[.string x.id, .int .i64 x.x, .int .i64 x.y, .int .i64 x.w, .int .i64 x.h, .int .i64 x.rank], .agg #[.string y.id, .int .i64 y.x, .int .i64 y.y, .int .i64 y.w, .int .i64 y.h, .int .i64 y.rank], .pointer (some ⟨Bk, 0, none⟩)] w fun e w' => e = .returned (.int .i64 (cfL x y)) ∧ Grew w w' := by
  have K := Lib.hid (fun (z : LabD) w => key_any z w)
  have C1 := Lib.hid (fun w => Tryz.cmp_Compare_int x.rank y.rank w)
  have C2 := Lib.hid (fun w => cmpS_any x.id y.id w)
  have HR : Aside (cfL x y = if Lib.compareInt x.rank y.rank = 0 then cmpS x.id y.id else Lib.compareInt x.rank y.rank) := (show _ = _ from rfl)
  generalize cfL x y = r at HR ⊢
  generalize Lib.compareInt x.rank y.rank = p at HR C1
  generalize cmpS x.id y.id = q at HR C2
  have kz := lt_of_cell hk
  have k1 : (w.alloc (.cells #[.string x.id, .int .i64 x.x, .int .i64 x.y, .int .i64 x.w, .int .i64 x.h, .int .i64 x.rank] 47)).cell? ⟨Bk, 0, none⟩ = some (.func (.func 60) #[] #[]) := cell_later ((Grew.refl w).alloc _).below hk
  go_enter Tryz.func90, Tryz.ntmps90
  go_wp2_with fail
  have G2 : Grew w ((w.alloc (.cells #[.string x.id, .int .i64 x.x, .int .i64 x.y, .int .i64 x.w, .int .i64 x.h, .int .i64 x.rank] 47)).alloc (.cells #[.string y.id, .int .i64 y.x, .int .i64 y.y, .int .i64 y.w, .int .i64 y.h, .int .i64 y.rank] 47)) := ((Grew.refl w).alloc _).alloc _
  have HX := row_past (o' := .cells #[.string y.id, .int .i64 y.x, .int .i64 y.y, .int .i64 y.w, .int .i64 y.h, .int .i64 y.rank] 47) (row_new w (.cells #[.string x.id, .int .i64 x.x, .int .i64 x.y, .int .i64 x.w, .int .i64 x.h, .int .i64 x.rank] 47))
  have HY := row_new1 w (.cells #[.string x.id, .int .i64 x.x, .int .i64 x.y, .int .i64 x.w, .int .i64 x.h, .int .i64 x.rank] 47) (.cells #[.string y.id, .int .i64 y.x, .int .i64 y.y, .int .i64 y.w, .int .i64 y.h, .int .i64 y.rank] 47)
  have k2 := cell_later G2.below hk
  clear k1
  generalize hw2 : (w.alloc (.cells #[.string x.id, .int .i64 x.x, .int .i64 x.y, .int .i64 x.w, .int .i64 x.h, .int .i64 x.rank] 47)).alloc (.cells #[.string y.id, .int .i64 y.x, .int .i64 y.y, .int .i64 y.w, .int .i64 y.h, .int .i64 y.rank] 47) = w2
  rw [hw2] at G2 HX HY k2
  clear hw2 HX hk
  refine (K.out x _).mono ?_
  rintro e w3 ⟨rfl, G3⟩
  have k3 := cell_later G3.below k2
  have HY3 := row_later G3.below HY
  have G23 := G2.trans G3
  clear k2 HY G2 G3
  have pz := lt_of_block HY3
  have p0 := cell_of_row w3 _ 0 _ _ _ HY3
  have p1 := cell_of_row w3 _ 1 _ _ _ HY3
  have p2 := cell_of_row w3 _ 2 _ _ _ HY3
  have p3 := cell_of_row w3 _ 3 _ _ _ HY3
  have p4 := cell_of_row w3 _ 4 _ _ _ HY3
  have p5 := cell_of_row w3 _ 5 _ _ _ HY3
  simp only [List.getElem?_toArray, List.getElem?_cons_zero, List.getElem?_cons_succ] at p0 p1 p2 p3 p4 p5
  have HY3' := Lib.hid HY3
  clear HY3
  go_wp2_with fail
  refine (K.out y _).mono ?_
  rintro e w4 ⟨rfl, G4⟩
  have G24 := G23.trans G4
  clear k3 G23 G4 p0 p1 p2 p3 p4 p5 pz HY3'
  go_wp2_with (first | (go_at_call 92; refine (C1.out _).mono ?_; rintro e' w' ⟨rfl, rfl⟩) | (go_at_call 93; refine (C2.out _).mono ?_; rintro e' w' ⟨rfl, rfl⟩))
  have O := orI_any p q w'.heap.size 2 (w'.alloc (.cells #[.int .i64 p, .int .i64 q] 3)) (by simp) (by simp)
  rw [← HR.out] at O
  refine O.mono ?_
  rintro e w6 ⟨rfl, rfl⟩
  go_wp2
  go_ret
  exact ⟨rfl, G24.alloc _⟩
end Go.Proofs.YtapllmniplgajaaGreatDoor
