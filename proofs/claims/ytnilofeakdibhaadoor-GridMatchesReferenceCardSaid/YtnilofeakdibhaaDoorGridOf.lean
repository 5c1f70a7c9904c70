/- GridOf: the walk. -/
import Derived.Test.YtnilofeakdibhaaDoorGridI
namespace Go.Proofs.YtnilofeakdibhaaDoor
open Go.RowKit

theorem div_box (x s : Int) (hs : 0 < s) : x / s * s ≤ x ∧ x ≤ x / s * s + s - 1 := by
  have h1 := Int.emod_add_mul_ediv x s
  have h2 := Int.emod_nonneg x (Int.ne_of_gt hs)
  have h3 := Int.emod_lt_of_pos x hs
  have h4 : s * (x / s) = x / s * s := Int.mul_comm _ _
  omega
theorem div_unique {x s q : Int} (hs : 0 < s) (h1 : q * s ≤ x) (h2 : x ≤ q * s + s - 1) : x / s = q := by
  refine Int.le_antisymm ?_ ?_
  · have : x < (q + 1) * s := by rw [Int.add_mul]; omega
    have := Int.ediv_lt_of_lt_mul hs this
    omega
  · exact Int.le_ediv_of_mul_le hs h1
theorem div_lt (x : Int) (k : Nat) (hk : k ≤ 17) (h0 : 0 ≤ x) (h1 : x < 1048576) : 0 ≤ x / side k ∧ x / side k < 2 ^ k := by
  have hs := side_bd k hk
  have hp := side_pow k hk
  refine ⟨Int.ediv_nonneg h0 (by omega), Int.ediv_lt_of_lt_mul (by omega) ?_⟩
  rw [hp]; exact h1
theorem side_half (k : Nat) (hk : k + 1 ≤ 17) : side k = side (k + 1) * 2 := by
  have : ∀ z : Fin 17, side z.val = side (z.val + 1) * 2 := by decide
  exact this ⟨k, by omega⟩
theorem div_up (x : Int) (k : Nat) (hk : k + 1 ≤ 17) : x / side (k + 1) / 2 = x / side k := by
  have hs := side_bd (k + 1) hk
  rw [side_half k hk, Int.ediv_ediv_of_nonneg (by omega)]

set_option maxRecDepth 100000 in
set_option maxHeartbeats 1000000 in
theorem of_bad (err : Int) (herr : err = 1 ∨ err = 10) (px py z tz tx ty : Int)
    (hof : ∀ w, Calls Tryd.prog 13 #[.agg #[.int .i64 px, .int .i64 py], .int .i64 z] w fun e w' => e = .returned (.tuple #[.agg #[.int .i64 0, .int .i64 0, .int .i64 0], .int .i64 err]) ∧ Below w.heap.size w w') (w : World) (he : Env w) :
    Calls Tryd.prog 4 #[.agg #[.int .i64 px, .int .i64 py], .int .i64 z, .agg #[.int .i64 tz, .int .i64 tx, .int .i64 ty]] w fun e w' => e = .returned (.bool true) ∧ Below w.heap.size w w' := by
  have HE := Lib.hid he
  have HO := Lib.hid hof
  have hne : (err == 0) = false := by rcases herr with rfl | rfl <;> rfl
  clear he hof herr
  go_enter Tryd.func4, Tryd.ntmps4
  go_wp2_with fail
  refine (head_true _ (HE.out.later (by repeat' (first | exact Below.refl _ _ | refine Below.drew ?_ | refine Below.drewN' ?_ | refine Below.setCell ?_ (by first | omega | (simp; done) | exact Below.size (by assumption) | (simp; omega)) _ | refine Below.alloc ?_ (by first | omega | (simp; done) | exact Below.size (by assumption) | (simp; omega)) _ | refine Below.trans ?_ (Below.mono (by assumption) ?_) | (first | omega | (simp; done) | exact Below.size (by assumption) | (simp; omega)))))).mono ?_; rintro e w1 ⟨rfl, hb1⟩
  have HP := row_later hb1 (row_past (row_new w _))
  have B1 : Below w.heap.size w w1 := below_step (((Below.refl _ _).alloc (Nat.le_refl _) _).alloc (by simp) _) (Nat.le_refl _) hb1
  clear hb1
  have pz := lt_of_block HP
  have p0 := cell_of_row w1 _ 0 _ _ _ HP
  have p1 := cell_of_row w1 _ 1 _ _ _ HP
  simp only [List.getElem?_toArray, List.getElem?_cons_zero, List.getElem?_cons_succ] at p0 p1
  have HP' := Lib.hid HP
  clear HP
  go_wp2_with fail
  refine (HO.out _).mono ?_; rintro e w2 ⟨rfl, hb2⟩
  have B2 := below_step B1 (Nat.le_refl _) hb2
  clear hb2 B1 p0 p1
  go_wp2
  go_ret
  refine ⟨rfl, ?_⟩
  repeat' (first | exact Below.refl _ _ | refine Below.drew ?_ | refine Below.drewN' ?_ | refine Below.setCell ?_ (by first | omega | (simp; done) | exact Below.size (by assumption) | (simp; omega)) _ | refine Below.alloc ?_ (by first | omega | (simp; done) | exact Below.size (by assumption) | (simp; omega)) _ | refine Below.trans ?_ (Below.mono (by assumption) ?_) | (first | omega | (simp; done) | exact Below.size (by assumption) | (simp; omega)))

set_option maxRecDepth 100000 in
set_option maxHeartbeats 2000000 in
theorem of_good (px py tz tx ty : Int) (k : Nat) (hk : k ≤ 17) (hi : 0 ≤ px ∧ 0 ≤ py ∧ px < 1048576 ∧ py < 1048576) (w : World) (he : Env w) :
    Calls Tryd.prog 4 #[.agg #[.int .i64 px, .int .i64 py], .int .i64 k, .agg #[.int .i64 tz, .int .i64 tx, .int .i64 ty]] w fun e w' => e = .returned (.bool true) ∧ Below w.heap.size w w' := by
  have HE := Lib.hid he
  have hs := side_bd k hk
  have hx := div_lt px k hk hi.1 hi.2.2.1
  have hy := div_lt py k hk hi.2.1 hi.2.2.2
  have dx := div_box px (side k) (by omega)
  have dy := div_box py (side k) (by omega)
  have HV := Lib.hid (show validB k (px / side k) (py / side k) = true by simp only [validB, Int.toNat_natCast]; rw [decide_eq_true_eq]; omega)
  have HH := Lib.hid (show hasB (px / side k * side k) (py / side k * side k) (px / side k * side k + side k - 1) (py / side k * side k + side k - 1) px py = true by simp only [hasB]; rw [decide_eq_true_eq]; omega)
  have HB := Lib.hid (fun w => box_ok (px / side k) (py / side k) k hk hx hy w)
  have HO := Lib.hid (fun w => of_ok px py k hk hi w)
  clear he
  go_enter Tryd.func4, Tryd.ntmps4
  go_wp2_with fail
  refine (head_true _ (HE.out.later (by repeat' (first | exact Below.refl _ _ | refine Below.drew ?_ | refine Below.drewN' ?_ | refine Below.setCell ?_ (by first | omega | (simp; done) | exact Below.size (by assumption) | (simp; omega)) _ | refine Below.alloc ?_ (by first | omega | (simp; done) | exact Below.size (by assumption) | (simp; omega)) _ | refine Below.trans ?_ (Below.mono (by assumption) ?_) | (first | omega | (simp; done) | exact Below.size (by assumption) | (simp; omega)))))).mono ?_; rintro e w1 ⟨rfl, hb1⟩
  have B1 : Below w.heap.size w w1 := below_step (((Below.refl _ _).alloc (Nat.le_refl _) _).alloc (by simp) _) (Nat.le_refl _) hb1
  have S1 := hb1.size; simp at S1
  have GP := Lib.hid (row_later hb1 (row_past (row_new w _)))
  have GT := Lib.hid (row_later hb1 (row_new1 w _ _))
  clear hb1
  have HP := GP.out
  have pz := lt_of_block HP
  have p0 := cell_of_row w1 _ 0 _ _ _ HP
  have p1 := cell_of_row w1 _ 1 _ _ _ HP
  simp only [List.getElem?_toArray, List.getElem?_cons_zero, List.getElem?_cons_succ] at p0 p1
  have HP' := Lib.hid HP
  clear HP
  clear HP'
  go_wp2_with fail
  refine (HO.out _).mono ?_; rintro e w2 ⟨rfl, hb2⟩
  have B2 := below_step B1 (Nat.le_refl _) hb2
  have S2 := hb2.size
  have GP := Lib.hid (row_later hb2 GP.out)
  have GT := Lib.hid (row_later hb2 GT.out)
  clear hb2 B1 p0 p1
  go_wp2_with fail
  refine (HB.out _).mono ?_; rintro e w3 ⟨rfl, hb3⟩
  have B3 := below_step (B2.alloc B2.size _) (Nat.le_refl _) hb3
  have GA := Lib.hid (row_later hb3 (row_new w2 _))
  have GP := Lib.hid (row_later hb3 (row_past GP.out))
  have GT := Lib.hid (row_later hb3 (row_past GT.out))
  clear hb3 B2
  have HP := GP.out
  have pz := lt_of_block HP
  have p0 := cell_of_row w3 _ 0 _ _ _ HP
  have p1 := cell_of_row w3 _ 1 _ _ _ HP
  simp only [List.getElem?_toArray, List.getElem?_cons_zero, List.getElem?_cons_succ] at p0 p1
  have HP' := Lib.hid HP
  clear HP
  clear HP'
  go_wp2_with fail
  refine (has_any _ _ _ _ _ _ _).mono ?_; rintro e w4 ⟨rfl, hb4⟩; rw [HH.out]
  have B4 := below_step (B3.alloc B3.size _) (Nat.le_refl _) hb4
  have GA := Lib.hid (row_later hb4 (row_past GA.out))
  have GP := Lib.hid (row_later hb4 (row_past GP.out))
  have GT := Lib.hid (row_later hb4 (row_past GT.out))
  clear hb4 p0 p1 pz
  have HA := GA.out
  have HT := GT.out
  have hkk : ((k : Int) != (k : Int)) = false := by simp
  have az := lt_of_block HA
  have a0 := cell_of_row w4 _ 0 _ _ _ HA
  have a1 := cell_of_row w4 _ 1 _ _ _ HA
  have a2 := cell_of_row w4 _ 2 _ _ _ HA
  simp only [List.getElem?_toArray, List.getElem?_cons_zero, List.getElem?_cons_succ] at a0 a1 a2
  have HA' := Lib.hid HA
  clear HA
  have uz := lt_of_block HT
  have u0 := cell_of_row w4 _ 0 _ _ _ HT
  have u1 := cell_of_row w4 _ 1 _ _ _ HT
  have u2 := cell_of_row w4 _ 2 _ _ _ HT
  have uf0 := frozen_of_row w4 _ 0 _ _ HT
  have uf1 := frozen_of_row w4 _ 1 _ _ HT
  have uf2 := frozen_of_row w4 _ 2 _ _ HT
  simp only [List.getElem?_toArray, List.getElem?_cons_zero, List.getElem?_cons_succ] at u0 u1 u2
  have HT' := Lib.hid HT
  clear HT
  clear HA' HT'
  go_wp2_with fail
  have C4 := B4.setCell (p := ⟨w.heap.size + 1, 0, none⟩) (by simp) (.int .i64 k)
  have GA := Lib.hid (row_set_other (a := ⟨w.heap.size + 1, 0, none⟩) (v := .int .i64 k) GA.out (by simp only; omega))
  have GP := Lib.hid (row_set_other (a := ⟨w.heap.size + 1, 0, none⟩) (v := .int .i64 k) GP.out (by simp))
  have GT := Lib.hid (show _ = some (Obj.cells #[.int .i64 k, .int .i64 tx, .int .i64 ty] 23 (0, 0)) from row_set (i := 0) (v := .int .i64 k) GT.out)
  clear a0 a1 a2 az u0 u1 u2 uz uf0 uf1 uf2
  by_cases hv : (0 ≤ tx ∧ tx < 2 ^ k) ∧ (0 ≤ ty ∧ ty < 2 ^ k)
  · refine (box_ok tx ty k hk hv.1 hv.2 _).mono ?_; rintro e w5 ⟨rfl, hb5⟩
    have B5 := below_step C4 (Nat.le_refl _) hb5
    have GA := row_later hb5 GA.out
    have GP := row_later hb5 GP.out
    have GT := row_later hb5 GT.out
    clear hb5 C4 B4
    have az := lt_of_block GA
    have a0 := cell_of_row w5 _ 0 _ _ _ GA
    have a1 := cell_of_row w5 _ 1 _ _ _ GA
    have a2 := cell_of_row w5 _ 2 _ _ _ GA
    simp only [List.getElem?_toArray, List.getElem?_cons_zero, List.getElem?_cons_succ] at a0 a1 a2
    have GA' := Lib.hid GA
    clear GA
    have pz := lt_of_block GP
    have p0 := cell_of_row w5 _ 0 _ _ _ GP
    have p1 := cell_of_row w5 _ 1 _ _ _ GP
    simp only [List.getElem?_toArray, List.getElem?_cons_zero, List.getElem?_cons_succ] at p0 p1
    have GP' := Lib.hid GP
    clear GP
    have uz := lt_of_block GT
    have u0 := cell_of_row w5 _ 0 _ _ _ GT
    have u1 := cell_of_row w5 _ 1 _ _ _ GT
    have u2 := cell_of_row w5 _ 2 _ _ _ GT
    simp only [List.getElem?_toArray, List.getElem?_cons_zero, List.getElem?_cons_succ] at u0 u1 u2
    have GT' := Lib.hid GT
    clear GT
    go_wp2_with fail
    by_cases heq : tx = px / side k ∧ ty = py / side k
    · obtain ⟨rfl, rfl⟩ := heq
      clear hv
      have e1 : (px / side k == px / side k) = true := by simp
      have e2 : (py / side k == py / side k) = true := by simp
      have W5 := Lib.hid (row_new w5 (.cells #[.int .i64 ((px / side k) * side k), .int .i64 ((py / side k) * side k), .int .i64 ((px / side k) * side k + side k - 1), .int .i64 ((py / side k) * side k + side k - 1)] 33))
      generalize hw6 : w5.alloc (.cells #[.int .i64 ((px / side k) * side k), .int .i64 ((py / side k) * side k), .int .i64 ((px / side k) * side k + side k - 1), .int .i64 ((py / side k) * side k + side k - 1)] 33) = w6
      rw [hw6] at W5
      have B6 : Below w.heap.size w w6 := by rw [← hw6]; exact B5.alloc B5.size _
      have GA := hw6 ▸ row_past GA'.out
      have GP := hw6 ▸ row_past GP'.out
      have GT := hw6 ▸ row_past GT'.out
      clear GA' GP' GT' a0 a1 a2 p0 p1 u0 u1 u2 hw6 az pz uz
      have C := W5.out
      have az := lt_of_block GA
      have a0 := cell_of_row w6 _ 0 _ _ _ GA
      have a1 := cell_of_row w6 _ 1 _ _ _ GA
      have a2 := cell_of_row w6 _ 2 _ _ _ GA
      simp only [List.getElem?_toArray, List.getElem?_cons_zero, List.getElem?_cons_succ] at a0 a1 a2
      have GA' := Lib.hid GA
      clear GA
      have pz := lt_of_block GP
      have p0 := cell_of_row w6 _ 0 _ _ _ GP
      have p1 := cell_of_row w6 _ 1 _ _ _ GP
      simp only [List.getElem?_toArray, List.getElem?_cons_zero, List.getElem?_cons_succ] at p0 p1
      have GP' := Lib.hid GP
      clear GP
      have uz := lt_of_block GT
      have u0 := cell_of_row w6 _ 0 _ _ _ GT
      have u1 := cell_of_row w6 _ 1 _ _ _ GT
      have u2 := cell_of_row w6 _ 2 _ _ _ GT
      simp only [List.getElem?_toArray, List.getElem?_cons_zero, List.getElem?_cons_succ] at u0 u1 u2
      have GT' := Lib.hid GT
      clear GT
      have cz := lt_of_block C
      have c0 := cell_of_row w6 _ 0 _ _ _ C
      have c1 := cell_of_row w6 _ 1 _ _ _ C
      have c2 := cell_of_row w6 _ 2 _ _ _ C
      have c3 := cell_of_row w6 _ 3 _ _ _ C
      simp only [List.getElem?_toArray, List.getElem?_cons_zero, List.getElem?_cons_succ] at c0 c1 c2 c3
      have C' := Lib.hid C
      clear C
      go_region_held3 (fun w' => w'.cell? ⟨w2.heap.size, 0, none⟩ = some (.int .i64 k) ∧ w'.cell? ⟨w2.heap.size, 1, none⟩ = some (.int .i64 (px / side k)) ∧ w'.cell? ⟨w2.heap.size, 2, none⟩ = some (.int .i64 (py / side k)) ∧ w'.cell? ⟨w.heap.size, 0, none⟩ = some (.int .i64 px) ∧ w'.cell? ⟨w.heap.size, 1, none⟩ = some (.int .i64 py) ∧ w'.cell? ⟨w.heap.size + 1, 0, none⟩ = some (.int .i64 k) ∧ w'.cell? ⟨w.heap.size + 1, 1, none⟩ = some (.int .i64 (px / side k)) ∧ w'.cell? ⟨w.heap.size + 1, 2, none⟩ = some (.int .i64 (py / side k)) ∧ w'.cell? ⟨w5.heap.size, 0, none⟩ = some (.int .i64 ((px / side k) * side k)) ∧ w'.cell? ⟨w5.heap.size, 1, none⟩ = some (.int .i64 ((py / side k) * side k)) ∧ w'.cell? ⟨w5.heap.size, 2, none⟩ = some (.int .i64 ((px / side k) * side k + side k - 1)) ∧ w'.cell? ⟨w5.heap.size, 3, none⟩ = some (.int .i64 ((py / side k) * side k + side k - 1)) ∧ Below w6.heap.size w6 w') (first | exact ⟨a0, a1, a2, p0, p1, u0, u1, u2, c0, c1, c2, c3, (Below.refl _ _).drew⟩ | assumption | (have hq := ‹_ ∧ _ ∧ _ ∧ _ ∧ _ ∧ _ ∧ _ ∧ _ ∧ _ ∧ _ ∧ _ ∧ _ ∧ Below w6.heap.size w6 _›; exact ⟨cell_later hb7 hq.1, cell_later hb7 hq.2.1, cell_later hb7 hq.2.2.1, cell_later hb7 hq.2.2.2.1, cell_later hb7 hq.2.2.2.2.1, cell_later hb7 hq.2.2.2.2.2.1, cell_later hb7 hq.2.2.2.2.2.2.1, cell_later hb7 hq.2.2.2.2.2.2.2.1, cell_later hb7 hq.2.2.2.2.2.2.2.2.1, cell_later hb7 hq.2.2.2.2.2.2.2.2.2.1, cell_later hb7 hq.2.2.2.2.2.2.2.2.2.2.1, cell_later hb7 hq.2.2.2.2.2.2.2.2.2.2.2.1, below_step hq.2.2.2.2.2.2.2.2.2.2.2.2 (Nat.le_refl _) hb7⟩)) (first | (go_at_call 14; refine (has_any _ _ _ _ _ _ _).mono ?_; rintro e w7 ⟨rfl, hb7⟩; rw [HH.out]))
      have hbr := (‹_ ∧ _ ∧ _ ∧ _ ∧ _ ∧ _ ∧ _ ∧ _ ∧ _ ∧ _ ∧ _ ∧ _ ∧ Below w6.heap.size w6 _›).2.2.2.2.2.2.2.2.2.2.2.2
      clear a0 a1 a2 p0 p1 u0 u1 u2 c0 c1 c2 c3
      have B7 := below_step B6 (Nat.le_refl _) hbr
      have GA := Lib.hid (row_later hbr GA'.out)
      have GP := Lib.hid (row_later hbr GP'.out)
      clear hbr GA' GP' GT' C' az pz uz cz W5 B5 B6
      have HA := GA.out
      have HP := GP.out
      have S7 := B7.size
      have az := lt_of_block HA
      have a0 := cell_of_row w7 _ 0 _ _ _ HA
      have a1 := cell_of_row w7 _ 1 _ _ _ HA
      have a2 := cell_of_row w7 _ 2 _ _ _ HA
      simp only [List.getElem?_toArray, List.getElem?_cons_zero, List.getElem?_cons_succ] at a0 a1 a2
      have HA' := Lib.hid HA
      clear HA
      have pz := lt_of_block HP
      have p0 := cell_of_row w7 _ 0 _ _ _ HP
      have p1 := cell_of_row w7 _ 1 _ _ _ HP
      simp only [List.getElem?_toArray, List.getElem?_cons_zero, List.getElem?_cons_succ] at p0 p1
      have HP' := Lib.hid HP
      clear HP
      clear HA' HP' B3 hkk
      go_wp2_with fail
      rcases Nat.eq_zero_or_pos k with hk0 | hk0
      · have HU := Lib.hid (show ∀ w, Calls Tryd.prog 15 #[.agg #[.int .i64 k, .int .i64 (px / side k), .int .i64 (py / side k)]] w fun e w' => e = .returned (.tuple #[.agg #[.int .i64 0, .int .i64 0, .int .i64 0], .int .i64 11]) ∧ Below w.heap.size w w' from fun w => by
          have hv := HV.out
          subst hk0
          exact up_none _ _ hv w)
        have HO2 := Lib.hid (show ∀ w, Calls Tryd.prog 13 #[.agg #[.int .i64 px, .int .i64 py], .int .i64 ((k : Int) - 1)] w fun e w' => e = .returned (.tuple #[.agg #[.int .i64 0, .int .i64 0, .int .i64 0], .int .i64 1]) ∧ Below w.heap.size w w' from fun w => of_arg _ _ _ (by omega) w)
        have hz : ((k : Int) == 0) = true := by rw [beq_iff_eq]; omega
        clear hk0
        refine (HU.out _).mono ?_; rintro e w8 ⟨rfl, hb8⟩
        have B8 := below_step B7 (Nat.le_refl _) hb8
        have HP := row_later hb8 GP.out
        clear hb8 B7 a0 a1 a2 p0 p1 az pz
        have pz := lt_of_block HP
        have p0 := cell_of_row w8 _ 0 _ _ _ HP
        have p1 := cell_of_row w8 _ 1 _ _ _ HP
        simp only [List.getElem?_toArray, List.getElem?_cons_zero, List.getElem?_cons_succ] at p0 p1
        have HP' := Lib.hid HP
        clear HP
        go_wp2_with fail
        refine (HO2.out _).mono ?_; rintro e w9 ⟨rfl, hb9⟩
        have B9 := below_step (B8.alloc B8.size _) (Nat.le_refl _) hb9
        clear hb9 B8 p0 p1 pz
        go_wp2
        go_ret
        refine ⟨rfl, ?_⟩
        repeat' (first | exact Below.refl _ _ | refine Below.drew ?_ | refine Below.drewN' ?_ | refine Below.setCell ?_ (by first | omega | (simp; done) | exact Below.size (by assumption) | (simp; omega)) _ | refine Below.alloc ?_ (by first | omega | (simp; done) | exact Below.size (by assumption) | (simp; omega)) _ | refine Below.trans ?_ (Below.mono (by assumption) ?_) | (first | omega | (simp; done) | exact Below.size (by assumption) | (simp; omega)))
      · have HU := Lib.hid (show ∀ w, Calls Tryd.prog 15 #[.agg #[.int .i64 k, .int .i64 (px / side k), .int .i64 (py / side k)]] w fun e w' => e = .returned (.tuple #[.agg #[.int .i64 ((k : Int) - 1), .int .i64 (px / side (k - 1)), .int .i64 (py / side (k - 1))], .int .i64 0]) ∧ Below w.heap.size w w' from fun w => by
          have hv := HV.out
          have hb := valid_bd hv
          have h := up_ok k (px / side k) (py / side k) hv (by omega) (by omega) (by omega) (by omega) w
          obtain ⟨j, rfl⟩ : ∃ j, k = j + 1 := ⟨k - 1, by omega⟩
          rw [div_up _ j hk, div_up _ j hk] at h
          exact h)
        have HO2 := Lib.hid (show ∀ w, Calls Tryd.prog 13 #[.agg #[.int .i64 px, .int .i64 py], .int .i64 ((k : Int) - 1)] w fun e w' => e = .returned (.tuple #[.agg #[.int .i64 ((k : Int) - 1), .int .i64 (px / side (k - 1)), .int .i64 (py / side (k - 1))], .int .i64 0]) ∧ Below w.heap.size w w' from fun w => by
          have h := of_ok px py (k - 1) (by omega) hi w
          rw [show ((k - 1 : Nat) : Int) = (k : Int) - 1 by omega] at h
          exact h)
        have hz : ((k : Int) == 0) = false := by rw [beq_eq_false_iff_ne]; omega
        refine (HU.out _).mono ?_; rintro e w8 ⟨rfl, hb8⟩
        have B8 := below_step B7 (Nat.le_refl _) hb8
        have HP := row_later hb8 GP.out
        clear hb8 B7 a0 a1 a2 p0 p1 az pz
        have pz := lt_of_block HP
        have p0 := cell_of_row w8 _ 0 _ _ _ HP
        have p1 := cell_of_row w8 _ 1 _ _ _ HP
        simp only [List.getElem?_toArray, List.getElem?_cons_zero, List.getElem?_cons_succ] at p0 p1
        have HP' := Lib.hid HP
        clear HP
        go_wp2_with fail
        refine (HO2.out _).mono ?_; rintro e w9 ⟨rfl, hb9⟩
        have B9 := below_step (B8.alloc B8.size _) (Nat.le_refl _) hb9
        have HD := row_later hb9 (row_new w8 _)
        clear hb9 B8 p0 p1 pz
        have dz := lt_of_block HD
        have d0 := cell_of_row w9 _ 0 _ _ _ HD
        have d1 := cell_of_row w9 _ 1 _ _ _ HD
        have d2 := cell_of_row w9 _ 2 _ _ _ HD
        simp only [List.getElem?_toArray, List.getElem?_cons_zero, List.getElem?_cons_succ] at d0 d1 d2
        have HD' := Lib.hid HD
        clear HD
        go_wp2
        go_ret
        refine ⟨rfl, ?_⟩
        repeat' (first | exact Below.refl _ _ | refine Below.drew ?_ | refine Below.drewN' ?_ | refine Below.setCell ?_ (by first | omega | (simp; done) | exact Below.size (by assumption) | (simp; omega)) _ | refine Below.alloc ?_ (by first | omega | (simp; done) | exact Below.size (by assumption) | (simp; omega)) _ | refine Below.trans ?_ (Below.mono (by assumption) ?_) | (first | omega | (simp; done) | exact Below.size (by assumption) | (simp; omega)))
    · have HH2 := Lib.hid (show hasB (tx * side k) (ty * side k) (tx * side k + side k - 1) (ty * side k + side k - 1) px py = false by
        simp only [hasB]; rw [decide_eq_false_iff_not]; intro h
        exact heq ⟨(div_unique (by omega) h.1 h.2.1).symm, (div_unique (by omega) h.2.2.1 h.2.2.2).symm⟩)
      by_cases h1 : tx = px / side k
      · have e1 : (px / side k == tx) = true := by simp [h1]
        have e2 : (py / side k == ty) = false := by rw [beq_eq_false_iff_ne]; intro h; exact heq ⟨h1, h.symm⟩
        clear heq hv h1
        have W5 := Lib.hid (row_new w5 (.cells #[.int .i64 (tx * side k), .int .i64 (ty * side k), .int .i64 (tx * side k + side k - 1), .int .i64 (ty * side k + side k - 1)] 33))
        generalize hw6 : w5.alloc (.cells #[.int .i64 (tx * side k), .int .i64 (ty * side k), .int .i64 (tx * side k + side k - 1), .int .i64 (ty * side k + side k - 1)] 33) = w6
        rw [hw6] at W5
        have B6 : Below w.heap.size w w6 := by rw [← hw6]; exact B5.alloc B5.size _
        have GA := hw6 ▸ row_past GA'.out
        have GP := hw6 ▸ row_past GP'.out
        have GT := hw6 ▸ row_past GT'.out
        clear GA' GP' GT' a0 a1 a2 p0 p1 u0 u1 u2 hw6 az pz uz
        have C := W5.out
        have az := lt_of_block GA
        have a0 := cell_of_row w6 _ 0 _ _ _ GA
        have a1 := cell_of_row w6 _ 1 _ _ _ GA
        have a2 := cell_of_row w6 _ 2 _ _ _ GA
        simp only [List.getElem?_toArray, List.getElem?_cons_zero, List.getElem?_cons_succ] at a0 a1 a2
        have GA' := Lib.hid GA
        clear GA
        have pz := lt_of_block GP
        have p0 := cell_of_row w6 _ 0 _ _ _ GP
        have p1 := cell_of_row w6 _ 1 _ _ _ GP
        simp only [List.getElem?_toArray, List.getElem?_cons_zero, List.getElem?_cons_succ] at p0 p1
        have GP' := Lib.hid GP
        clear GP
        have uz := lt_of_block GT
        have u0 := cell_of_row w6 _ 0 _ _ _ GT
        have u1 := cell_of_row w6 _ 1 _ _ _ GT
        have u2 := cell_of_row w6 _ 2 _ _ _ GT
        simp only [List.getElem?_toArray, List.getElem?_cons_zero, List.getElem?_cons_succ] at u0 u1 u2
        have GT' := Lib.hid GT
        clear GT
        have cz := lt_of_block C
        have c0 := cell_of_row w6 _ 0 _ _ _ C
        have c1 := cell_of_row w6 _ 1 _ _ _ C
        have c2 := cell_of_row w6 _ 2 _ _ _ C
        have c3 := cell_of_row w6 _ 3 _ _ _ C
        simp only [List.getElem?_toArray, List.getElem?_cons_zero, List.getElem?_cons_succ] at c0 c1 c2 c3
        have C' := Lib.hid C
        clear C
        go_region_held3 (fun w' => w'.cell? ⟨w2.heap.size, 0, none⟩ = some (.int .i64 k) ∧ w'.cell? ⟨w2.heap.size, 1, none⟩ = some (.int .i64 (px / side k)) ∧ w'.cell? ⟨w2.heap.size, 2, none⟩ = some (.int .i64 (py / side k)) ∧ w'.cell? ⟨w.heap.size, 0, none⟩ = some (.int .i64 px) ∧ w'.cell? ⟨w.heap.size, 1, none⟩ = some (.int .i64 py) ∧ w'.cell? ⟨w.heap.size + 1, 0, none⟩ = some (.int .i64 k) ∧ w'.cell? ⟨w.heap.size + 1, 1, none⟩ = some (.int .i64 tx) ∧ w'.cell? ⟨w.heap.size + 1, 2, none⟩ = some (.int .i64 ty) ∧ w'.cell? ⟨w5.heap.size, 0, none⟩ = some (.int .i64 (tx * side k)) ∧ w'.cell? ⟨w5.heap.size, 1, none⟩ = some (.int .i64 (ty * side k)) ∧ w'.cell? ⟨w5.heap.size, 2, none⟩ = some (.int .i64 (tx * side k + side k - 1)) ∧ w'.cell? ⟨w5.heap.size, 3, none⟩ = some (.int .i64 (ty * side k + side k - 1)) ∧ Below w6.heap.size w6 w') (first | exact ⟨a0, a1, a2, p0, p1, u0, u1, u2, c0, c1, c2, c3, (Below.refl _ _).drew⟩ | assumption | (have hq := ‹_ ∧ _ ∧ _ ∧ _ ∧ _ ∧ _ ∧ _ ∧ _ ∧ _ ∧ _ ∧ _ ∧ _ ∧ Below w6.heap.size w6 _›; exact ⟨cell_later hb7 hq.1, cell_later hb7 hq.2.1, cell_later hb7 hq.2.2.1, cell_later hb7 hq.2.2.2.1, cell_later hb7 hq.2.2.2.2.1, cell_later hb7 hq.2.2.2.2.2.1, cell_later hb7 hq.2.2.2.2.2.2.1, cell_later hb7 hq.2.2.2.2.2.2.2.1, cell_later hb7 hq.2.2.2.2.2.2.2.2.1, cell_later hb7 hq.2.2.2.2.2.2.2.2.2.1, cell_later hb7 hq.2.2.2.2.2.2.2.2.2.2.1, cell_later hb7 hq.2.2.2.2.2.2.2.2.2.2.2.1, below_step hq.2.2.2.2.2.2.2.2.2.2.2.2 (Nat.le_refl _) hb7⟩)) (first | (go_at_call 14; refine (has_any _ _ _ _ _ _ _).mono ?_; rintro e w7 ⟨rfl, hb7⟩; rw [HH2.out]))
        have hbr := (‹_ ∧ _ ∧ _ ∧ _ ∧ _ ∧ _ ∧ _ ∧ _ ∧ _ ∧ _ ∧ _ ∧ _ ∧ Below w6.heap.size w6 _›).2.2.2.2.2.2.2.2.2.2.2.2
        clear a0 a1 a2 p0 p1 u0 u1 u2 c0 c1 c2 c3
        have B7 := below_step B6 (Nat.le_refl _) hbr
        have GA := Lib.hid (row_later hbr GA'.out)
        have GP := Lib.hid (row_later hbr GP'.out)
        clear hbr GA' GP' GT' C' az pz uz cz W5 B5 B6
        have HA := GA.out
        have HP := GP.out
        have S7 := B7.size
        have az := lt_of_block HA
        have a0 := cell_of_row w7 _ 0 _ _ _ HA
        have a1 := cell_of_row w7 _ 1 _ _ _ HA
        have a2 := cell_of_row w7 _ 2 _ _ _ HA
        simp only [List.getElem?_toArray, List.getElem?_cons_zero, List.getElem?_cons_succ] at a0 a1 a2
        have HA' := Lib.hid HA
        clear HA
        have pz := lt_of_block HP
        have p0 := cell_of_row w7 _ 0 _ _ _ HP
        have p1 := cell_of_row w7 _ 1 _ _ _ HP
        simp only [List.getElem?_toArray, List.getElem?_cons_zero, List.getElem?_cons_succ] at p0 p1
        have HP' := Lib.hid HP
        clear HP
        clear HA' HP' B3 hkk
        go_wp2_with fail
        rcases Nat.eq_zero_or_pos k with hk0 | hk0
        · have HU := Lib.hid (show ∀ w, Calls Tryd.prog 15 #[.agg #[.int .i64 k, .int .i64 (px / side k), .int .i64 (py / side k)]] w fun e w' => e = .returned (.tuple #[.agg #[.int .i64 0, .int .i64 0, .int .i64 0], .int .i64 11]) ∧ Below w.heap.size w w' from fun w => by
            have hv := HV.out
            subst hk0
            exact up_none _ _ hv w)
          have HO2 := Lib.hid (show ∀ w, Calls Tryd.prog 13 #[.agg #[.int .i64 px, .int .i64 py], .int .i64 ((k : Int) - 1)] w fun e w' => e = .returned (.tuple #[.agg #[.int .i64 0, .int .i64 0, .int .i64 0], .int .i64 1]) ∧ Below w.heap.size w w' from fun w => of_arg _ _ _ (by omega) w)
          have hz : ((k : Int) == 0) = true := by rw [beq_iff_eq]; omega
          clear hk0
          refine (HU.out _).mono ?_; rintro e w8 ⟨rfl, hb8⟩
          have B8 := below_step B7 (Nat.le_refl _) hb8
          have HP := row_later hb8 GP.out
          clear hb8 B7 a0 a1 a2 p0 p1 az pz
          have pz := lt_of_block HP
          have p0 := cell_of_row w8 _ 0 _ _ _ HP
          have p1 := cell_of_row w8 _ 1 _ _ _ HP
          simp only [List.getElem?_toArray, List.getElem?_cons_zero, List.getElem?_cons_succ] at p0 p1
          have HP' := Lib.hid HP
          clear HP
          go_wp2_with fail
          refine (HO2.out _).mono ?_; rintro e w9 ⟨rfl, hb9⟩
          have B9 := below_step (B8.alloc B8.size _) (Nat.le_refl _) hb9
          clear hb9 B8 p0 p1 pz
          go_wp2
          go_ret
          refine ⟨rfl, ?_⟩
          repeat' (first | exact Below.refl _ _ | refine Below.drew ?_ | refine Below.drewN' ?_ | refine Below.setCell ?_ (by first | omega | (simp; done) | exact Below.size (by assumption) | (simp; omega)) _ | refine Below.alloc ?_ (by first | omega | (simp; done) | exact Below.size (by assumption) | (simp; omega)) _ | refine Below.trans ?_ (Below.mono (by assumption) ?_) | (first | omega | (simp; done) | exact Below.size (by assumption) | (simp; omega)))
        · have HU := Lib.hid (show ∀ w, Calls Tryd.prog 15 #[.agg #[.int .i64 k, .int .i64 (px / side k), .int .i64 (py / side k)]] w fun e w' => e = .returned (.tuple #[.agg #[.int .i64 ((k : Int) - 1), .int .i64 (px / side (k - 1)), .int .i64 (py / side (k - 1))], .int .i64 0]) ∧ Below w.heap.size w w' from fun w => by
            have hv := HV.out
            have hb := valid_bd hv
            have h := up_ok k (px / side k) (py / side k) hv (by omega) (by omega) (by omega) (by omega) w
            obtain ⟨j, rfl⟩ : ∃ j, k = j + 1 := ⟨k - 1, by omega⟩
            rw [div_up _ j hk, div_up _ j hk] at h
            exact h)
          have HO2 := Lib.hid (show ∀ w, Calls Tryd.prog 13 #[.agg #[.int .i64 px, .int .i64 py], .int .i64 ((k : Int) - 1)] w fun e w' => e = .returned (.tuple #[.agg #[.int .i64 ((k : Int) - 1), .int .i64 (px / side (k - 1)), .int .i64 (py / side (k - 1))], .int .i64 0]) ∧ Below w.heap.size w w' from fun w => by
            have h := of_ok px py (k - 1) (by omega) hi w
            rw [show ((k - 1 : Nat) : Int) = (k : Int) - 1 by omega] at h
            exact h)
          have hz : ((k : Int) == 0) = false := by rw [beq_eq_false_iff_ne]; omega
          refine (HU.out _).mono ?_; rintro e w8 ⟨rfl, hb8⟩
          have B8 := below_step B7 (Nat.le_refl _) hb8
          have HP := row_later hb8 GP.out
          clear hb8 B7 a0 a1 a2 p0 p1 az pz
          have pz := lt_of_block HP
          have p0 := cell_of_row w8 _ 0 _ _ _ HP
          have p1 := cell_of_row w8 _ 1 _ _ _ HP
          simp only [List.getElem?_toArray, List.getElem?_cons_zero, List.getElem?_cons_succ] at p0 p1
          have HP' := Lib.hid HP
          clear HP
          go_wp2_with fail
          refine (HO2.out _).mono ?_; rintro e w9 ⟨rfl, hb9⟩
          have B9 := below_step (B8.alloc B8.size _) (Nat.le_refl _) hb9
          have HD := row_later hb9 (row_new w8 _)
          clear hb9 B8 p0 p1 pz
          have dz := lt_of_block HD
          have d0 := cell_of_row w9 _ 0 _ _ _ HD
          have d1 := cell_of_row w9 _ 1 _ _ _ HD
          have d2 := cell_of_row w9 _ 2 _ _ _ HD
          simp only [List.getElem?_toArray, List.getElem?_cons_zero, List.getElem?_cons_succ] at d0 d1 d2
          have HD' := Lib.hid HD
          clear HD
          go_wp2
          go_ret
          refine ⟨rfl, ?_⟩
          repeat' (first | exact Below.refl _ _ | refine Below.drew ?_ | refine Below.drewN' ?_ | refine Below.setCell ?_ (by first | omega | (simp; done) | exact Below.size (by assumption) | (simp; omega)) _ | refine Below.alloc ?_ (by first | omega | (simp; done) | exact Below.size (by assumption) | (simp; omega)) _ | refine Below.trans ?_ (Below.mono (by assumption) ?_) | (first | omega | (simp; done) | exact Below.size (by assumption) | (simp; omega)))
      · have e1 : (px / side k == tx) = false := by rw [beq_eq_false_iff_ne]; intro h; exact h1 h.symm
        clear heq hv h1
        have W5 := Lib.hid (row_new w5 (.cells #[.int .i64 (tx * side k), .int .i64 (ty * side k), .int .i64 (tx * side k + side k - 1), .int .i64 (ty * side k + side k - 1)] 33))
        generalize hw6 : w5.alloc (.cells #[.int .i64 (tx * side k), .int .i64 (ty * side k), .int .i64 (tx * side k + side k - 1), .int .i64 (ty * side k + side k - 1)] 33) = w6
        rw [hw6] at W5
        have B6 : Below w.heap.size w w6 := by rw [← hw6]; exact B5.alloc B5.size _
        have GA := hw6 ▸ row_past GA'.out
        have GP := hw6 ▸ row_past GP'.out
        have GT := hw6 ▸ row_past GT'.out
        clear GA' GP' GT' a0 a1 a2 p0 p1 u0 u1 u2 hw6 az pz uz
        have C := W5.out
        have az := lt_of_block GA
        have a0 := cell_of_row w6 _ 0 _ _ _ GA
        have a1 := cell_of_row w6 _ 1 _ _ _ GA
        have a2 := cell_of_row w6 _ 2 _ _ _ GA
        simp only [List.getElem?_toArray, List.getElem?_cons_zero, List.getElem?_cons_succ] at a0 a1 a2
        have GA' := Lib.hid GA
        clear GA
        have pz := lt_of_block GP
        have p0 := cell_of_row w6 _ 0 _ _ _ GP
        have p1 := cell_of_row w6 _ 1 _ _ _ GP
        simp only [List.getElem?_toArray, List.getElem?_cons_zero, List.getElem?_cons_succ] at p0 p1
        have GP' := Lib.hid GP
        clear GP
        have uz := lt_of_block GT
        have u0 := cell_of_row w6 _ 0 _ _ _ GT
        have u1 := cell_of_row w6 _ 1 _ _ _ GT
        have u2 := cell_of_row w6 _ 2 _ _ _ GT
        simp only [List.getElem?_toArray, List.getElem?_cons_zero, List.getElem?_cons_succ] at u0 u1 u2
        have GT' := Lib.hid GT
        clear GT
        have cz := lt_of_block C
        have c0 := cell_of_row w6 _ 0 _ _ _ C
        have c1 := cell_of_row w6 _ 1 _ _ _ C
        have c2 := cell_of_row w6 _ 2 _ _ _ C
        have c3 := cell_of_row w6 _ 3 _ _ _ C
        simp only [List.getElem?_toArray, List.getElem?_cons_zero, List.getElem?_cons_succ] at c0 c1 c2 c3
        have C' := Lib.hid C
        clear C
        go_region_held3 (fun w' => w'.cell? ⟨w2.heap.size, 0, none⟩ = some (.int .i64 k) ∧ w'.cell? ⟨w2.heap.size, 1, none⟩ = some (.int .i64 (px / side k)) ∧ w'.cell? ⟨w2.heap.size, 2, none⟩ = some (.int .i64 (py / side k)) ∧ w'.cell? ⟨w.heap.size, 0, none⟩ = some (.int .i64 px) ∧ w'.cell? ⟨w.heap.size, 1, none⟩ = some (.int .i64 py) ∧ w'.cell? ⟨w.heap.size + 1, 0, none⟩ = some (.int .i64 k) ∧ w'.cell? ⟨w.heap.size + 1, 1, none⟩ = some (.int .i64 tx) ∧ w'.cell? ⟨w.heap.size + 1, 2, none⟩ = some (.int .i64 ty) ∧ w'.cell? ⟨w5.heap.size, 0, none⟩ = some (.int .i64 (tx * side k)) ∧ w'.cell? ⟨w5.heap.size, 1, none⟩ = some (.int .i64 (ty * side k)) ∧ w'.cell? ⟨w5.heap.size, 2, none⟩ = some (.int .i64 (tx * side k + side k - 1)) ∧ w'.cell? ⟨w5.heap.size, 3, none⟩ = some (.int .i64 (ty * side k + side k - 1)) ∧ Below w6.heap.size w6 w') (first | exact ⟨a0, a1, a2, p0, p1, u0, u1, u2, c0, c1, c2, c3, (Below.refl _ _).drew⟩ | assumption | (have hq := ‹_ ∧ _ ∧ _ ∧ _ ∧ _ ∧ _ ∧ _ ∧ _ ∧ _ ∧ _ ∧ _ ∧ _ ∧ Below w6.heap.size w6 _›; exact ⟨cell_later hb7 hq.1, cell_later hb7 hq.2.1, cell_later hb7 hq.2.2.1, cell_later hb7 hq.2.2.2.1, cell_later hb7 hq.2.2.2.2.1, cell_later hb7 hq.2.2.2.2.2.1, cell_later hb7 hq.2.2.2.2.2.2.1, cell_later hb7 hq.2.2.2.2.2.2.2.1, cell_later hb7 hq.2.2.2.2.2.2.2.2.1, cell_later hb7 hq.2.2.2.2.2.2.2.2.2.1, cell_later hb7 hq.2.2.2.2.2.2.2.2.2.2.1, cell_later hb7 hq.2.2.2.2.2.2.2.2.2.2.2.1, below_step hq.2.2.2.2.2.2.2.2.2.2.2.2 (Nat.le_refl _) hb7⟩)) (first | (go_at_call 14; refine (has_any _ _ _ _ _ _ _).mono ?_; rintro e w7 ⟨rfl, hb7⟩; rw [HH2.out]))
        have hbr := (‹_ ∧ _ ∧ _ ∧ _ ∧ _ ∧ _ ∧ _ ∧ _ ∧ _ ∧ _ ∧ _ ∧ _ ∧ Below w6.heap.size w6 _›).2.2.2.2.2.2.2.2.2.2.2.2
        clear a0 a1 a2 p0 p1 u0 u1 u2 c0 c1 c2 c3
        have B7 := below_step B6 (Nat.le_refl _) hbr
        have GA := Lib.hid (row_later hbr GA'.out)
        have GP := Lib.hid (row_later hbr GP'.out)
        clear hbr GA' GP' GT' C' az pz uz cz W5 B5 B6
        have HA := GA.out
        have HP := GP.out
        have S7 := B7.size
        have az := lt_of_block HA
        have a0 := cell_of_row w7 _ 0 _ _ _ HA
        have a1 := cell_of_row w7 _ 1 _ _ _ HA
        have a2 := cell_of_row w7 _ 2 _ _ _ HA
        simp only [List.getElem?_toArray, List.getElem?_cons_zero, List.getElem?_cons_succ] at a0 a1 a2
        have HA' := Lib.hid HA
        clear HA
        have pz := lt_of_block HP
        have p0 := cell_of_row w7 _ 0 _ _ _ HP
        have p1 := cell_of_row w7 _ 1 _ _ _ HP
        simp only [List.getElem?_toArray, List.getElem?_cons_zero, List.getElem?_cons_succ] at p0 p1
        have HP' := Lib.hid HP
        clear HP
        clear HA' HP' B3 hkk
        go_wp2_with fail
        rcases Nat.eq_zero_or_pos k with hk0 | hk0
        · have HU := Lib.hid (show ∀ w, Calls Tryd.prog 15 #[.agg #[.int .i64 k, .int .i64 (px / side k), .int .i64 (py / side k)]] w fun e w' => e = .returned (.tuple #[.agg #[.int .i64 0, .int .i64 0, .int .i64 0], .int .i64 11]) ∧ Below w.heap.size w w' from fun w => by
            have hv := HV.out
            subst hk0
            exact up_none _ _ hv w)
          have HO2 := Lib.hid (show ∀ w, Calls Tryd.prog 13 #[.agg #[.int .i64 px, .int .i64 py], .int .i64 ((k : Int) - 1)] w fun e w' => e = .returned (.tuple #[.agg #[.int .i64 0, .int .i64 0, .int .i64 0], .int .i64 1]) ∧ Below w.heap.size w w' from fun w => of_arg _ _ _ (by omega) w)
          have hz : ((k : Int) == 0) = true := by rw [beq_iff_eq]; omega
          clear hk0
          refine (HU.out _).mono ?_; rintro e w8 ⟨rfl, hb8⟩
          have B8 := below_step B7 (Nat.le_refl _) hb8
          have HP := row_later hb8 GP.out
          clear hb8 B7 a0 a1 a2 p0 p1 az pz
          have pz := lt_of_block HP
          have p0 := cell_of_row w8 _ 0 _ _ _ HP
          have p1 := cell_of_row w8 _ 1 _ _ _ HP
          simp only [List.getElem?_toArray, List.getElem?_cons_zero, List.getElem?_cons_succ] at p0 p1
          have HP' := Lib.hid HP
          clear HP
          go_wp2_with fail
          refine (HO2.out _).mono ?_; rintro e w9 ⟨rfl, hb9⟩
          have B9 := below_step (B8.alloc B8.size _) (Nat.le_refl _) hb9
          clear hb9 B8 p0 p1 pz
          go_wp2
          go_ret
          refine ⟨rfl, ?_⟩
          repeat' (first | exact Below.refl _ _ | refine Below.drew ?_ | refine Below.drewN' ?_ | refine Below.setCell ?_ (by first | omega | (simp; done) | exact Below.size (by assumption) | (simp; omega)) _ | refine Below.alloc ?_ (by first | omega | (simp; done) | exact Below.size (by assumption) | (simp; omega)) _ | refine Below.trans ?_ (Below.mono (by assumption) ?_) | (first | omega | (simp; done) | exact Below.size (by assumption) | (simp; omega)))
        · have HU := Lib.hid (show ∀ w, Calls Tryd.prog 15 #[.agg #[.int .i64 k, .int .i64 (px / side k), .int .i64 (py / side k)]] w fun e w' => e = .returned (.tuple #[.agg #[.int .i64 ((k : Int) - 1), .int .i64 (px / side (k - 1)), .int .i64 (py / side (k - 1))], .int .i64 0]) ∧ Below w.heap.size w w' from fun w => by
            have hv := HV.out
            have hb := valid_bd hv
            have h := up_ok k (px / side k) (py / side k) hv (by omega) (by omega) (by omega) (by omega) w
            obtain ⟨j, rfl⟩ : ∃ j, k = j + 1 := ⟨k - 1, by omega⟩
            rw [div_up _ j hk, div_up _ j hk] at h
            exact h)
          have HO2 := Lib.hid (show ∀ w, Calls Tryd.prog 13 #[.agg #[.int .i64 px, .int .i64 py], .int .i64 ((k : Int) - 1)] w fun e w' => e = .returned (.tuple #[.agg #[.int .i64 ((k : Int) - 1), .int .i64 (px / side (k - 1)), .int .i64 (py / side (k - 1))], .int .i64 0]) ∧ Below w.heap.size w w' from fun w => by
            have h := of_ok px py (k - 1) (by omega) hi w
            rw [show ((k - 1 : Nat) : Int) = (k : Int) - 1 by omega] at h
            exact h)
          have hz : ((k : Int) == 0) = false := by rw [beq_eq_false_iff_ne]; omega
          refine (HU.out _).mono ?_; rintro e w8 ⟨rfl, hb8⟩
          have B8 := below_step B7 (Nat.le_refl _) hb8
          have HP := row_later hb8 GP.out
          clear hb8 B7 a0 a1 a2 p0 p1 az pz
          have pz := lt_of_block HP
          have p0 := cell_of_row w8 _ 0 _ _ _ HP
          have p1 := cell_of_row w8 _ 1 _ _ _ HP
          simp only [List.getElem?_toArray, List.getElem?_cons_zero, List.getElem?_cons_succ] at p0 p1
          have HP' := Lib.hid HP
          clear HP
          go_wp2_with fail
          refine (HO2.out _).mono ?_; rintro e w9 ⟨rfl, hb9⟩
          have B9 := below_step (B8.alloc B8.size _) (Nat.le_refl _) hb9
          have HD := row_later hb9 (row_new w8 _)
          clear hb9 B8 p0 p1 pz
          have dz := lt_of_block HD
          have d0 := cell_of_row w9 _ 0 _ _ _ HD
          have d1 := cell_of_row w9 _ 1 _ _ _ HD
          have d2 := cell_of_row w9 _ 2 _ _ _ HD
          simp only [List.getElem?_toArray, List.getElem?_cons_zero, List.getElem?_cons_succ] at d0 d1 d2
          have HD' := Lib.hid HD
          clear HD
          go_wp2
          go_ret
          refine ⟨rfl, ?_⟩
          repeat' (first | exact Below.refl _ _ | refine Below.drew ?_ | refine Below.drewN' ?_ | refine Below.setCell ?_ (by first | omega | (simp; done) | exact Below.size (by assumption) | (simp; omega)) _ | refine Below.alloc ?_ (by first | omega | (simp; done) | exact Below.size (by assumption) | (simp; omega)) _ | refine Below.trans ?_ (Below.mono (by assumption) ?_) | (first | omega | (simp; done) | exact Below.size (by assumption) | (simp; omega)))
  · refine (box_arg k tx ty (by simp only [validB, Int.toNat_natCast]; rw [decide_eq_false_iff_not]; omega) _).mono ?_; rintro e w5 ⟨rfl, hb5⟩
    have B5 := below_step C4 (Nat.le_refl _) hb5
    have GA := Lib.hid (row_later hb5 GA.out)
    have GP := Lib.hid (row_later hb5 GP.out)
    clear hb5 C4 B4
    go_wp2_with fail
    go_quiet (fail)
    generalize hw7 : World.drewN _ _ = w7
    have B7 : Below w.heap.size w w7 := by rw [← hw7]; exact (B5.alloc B5.size _).drewN'
    have GA := Lib.hid (hw7 ▸ row_drewN (row_past GA.out))
    have GP := Lib.hid (hw7 ▸ row_drewN (row_past GP.out))
    clear hw7 B5 hv
    have HA := GA.out
    have HP := GP.out
    have S7 := B7.size
    have az := lt_of_block HA
    have a0 := cell_of_row w7 _ 0 _ _ _ HA
    have a1 := cell_of_row w7 _ 1 _ _ _ HA
    have a2 := cell_of_row w7 _ 2 _ _ _ HA
    simp only [List.getElem?_toArray, List.getElem?_cons_zero, List.getElem?_cons_succ] at a0 a1 a2
    have HA' := Lib.hid HA
    clear HA
    have pz := lt_of_block HP
    have p0 := cell_of_row w7 _ 0 _ _ _ HP
    have p1 := cell_of_row w7 _ 1 _ _ _ HP
    simp only [List.getElem?_toArray, List.getElem?_cons_zero, List.getElem?_cons_succ] at p0 p1
    have HP' := Lib.hid HP
    clear HP
    clear HA' HP' B3 hkk
    go_wp2_with fail
    rcases Nat.eq_zero_or_pos k with hk0 | hk0
    · have HU := Lib.hid (show ∀ w, Calls Tryd.prog 15 #[.agg #[.int .i64 k, .int .i64 (px / side k), .int .i64 (py / side k)]] w fun e w' => e = .returned (.tuple #[.agg #[.int .i64 0, .int .i64 0, .int .i64 0], .int .i64 11]) ∧ Below w.heap.size w w' from fun w => by
        have hv := HV.out
        subst hk0
        exact up_none _ _ hv w)
      have HO2 := Lib.hid (show ∀ w, Calls Tryd.prog 13 #[.agg #[.int .i64 px, .int .i64 py], .int .i64 ((k : Int) - 1)] w fun e w' => e = .returned (.tuple #[.agg #[.int .i64 0, .int .i64 0, .int .i64 0], .int .i64 1]) ∧ Below w.heap.size w w' from fun w => of_arg _ _ _ (by omega) w)
      have hz : ((k : Int) == 0) = true := by rw [beq_iff_eq]; omega
      clear hk0
      refine (HU.out _).mono ?_; rintro e w8 ⟨rfl, hb8⟩
      have B8 := below_step B7 (Nat.le_refl _) hb8
      have HP := row_later hb8 GP.out
      clear hb8 B7 a0 a1 a2 p0 p1 az pz
      have pz := lt_of_block HP
      have p0 := cell_of_row w8 _ 0 _ _ _ HP
      have p1 := cell_of_row w8 _ 1 _ _ _ HP
      simp only [List.getElem?_toArray, List.getElem?_cons_zero, List.getElem?_cons_succ] at p0 p1
      have HP' := Lib.hid HP
      clear HP
      go_wp2_with fail
      refine (HO2.out _).mono ?_; rintro e w9 ⟨rfl, hb9⟩
      have B9 := below_step (B8.alloc B8.size _) (Nat.le_refl _) hb9
      clear hb9 B8 p0 p1 pz
      go_wp2
      go_ret
      refine ⟨rfl, ?_⟩
      repeat' (first | exact Below.refl _ _ | refine Below.drew ?_ | refine Below.drewN' ?_ | refine Below.setCell ?_ (by first | omega | (simp; done) | exact Below.size (by assumption) | (simp; omega)) _ | refine Below.alloc ?_ (by first | omega | (simp; done) | exact Below.size (by assumption) | (simp; omega)) _ | refine Below.trans ?_ (Below.mono (by assumption) ?_) | (first | omega | (simp; done) | exact Below.size (by assumption) | (simp; omega)))
    · have HU := Lib.hid (show ∀ w, Calls Tryd.prog 15 #[.agg #[.int .i64 k, .int .i64 (px / side k), .int .i64 (py / side k)]] w fun e w' => e = .returned (.tuple #[.agg #[.int .i64 ((k : Int) - 1), .int .i64 (px / side (k - 1)), .int .i64 (py / side (k - 1))], .int .i64 0]) ∧ Below w.heap.size w w' from fun w => by
        have hv := HV.out
        have hb := valid_bd hv
        have h := up_ok k (px / side k) (py / side k) hv (by omega) (by omega) (by omega) (by omega) w
        obtain ⟨j, rfl⟩ : ∃ j, k = j + 1 := ⟨k - 1, by omega⟩
        rw [div_up _ j hk, div_up _ j hk] at h
        exact h)
      have HO2 := Lib.hid (show ∀ w, Calls Tryd.prog 13 #[.agg #[.int .i64 px, .int .i64 py], .int .i64 ((k : Int) - 1)] w fun e w' => e = .returned (.tuple #[.agg #[.int .i64 ((k : Int) - 1), .int .i64 (px / side (k - 1)), .int .i64 (py / side (k - 1))], .int .i64 0]) ∧ Below w.heap.size w w' from fun w => by
        have h := of_ok px py (k - 1) (by omega) hi w
        rw [show ((k - 1 : Nat) : Int) = (k : Int) - 1 by omega] at h
        exact h)
      have hz : ((k : Int) == 0) = false := by rw [beq_eq_false_iff_ne]; omega
      refine (HU.out _).mono ?_; rintro e w8 ⟨rfl, hb8⟩
      have B8 := below_step B7 (Nat.le_refl _) hb8
      have HP := row_later hb8 GP.out
      clear hb8 B7 a0 a1 a2 p0 p1 az pz
      have pz := lt_of_block HP
      have p0 := cell_of_row w8 _ 0 _ _ _ HP
      have p1 := cell_of_row w8 _ 1 _ _ _ HP
      simp only [List.getElem?_toArray, List.getElem?_cons_zero, List.getElem?_cons_succ] at p0 p1
      have HP' := Lib.hid HP
      clear HP
      go_wp2_with fail
      refine (HO2.out _).mono ?_; rintro e w9 ⟨rfl, hb9⟩
      have B9 := below_step (B8.alloc B8.size _) (Nat.le_refl _) hb9
      have HD := row_later hb9 (row_new w8 _)
      clear hb9 B8 p0 p1 pz
      have dz := lt_of_block HD
      have d0 := cell_of_row w9 _ 0 _ _ _ HD
      have d1 := cell_of_row w9 _ 1 _ _ _ HD
      have d2 := cell_of_row w9 _ 2 _ _ _ HD
      simp only [List.getElem?_toArray, List.getElem?_cons_zero, List.getElem?_cons_succ] at d0 d1 d2
      have HD' := Lib.hid HD
      clear HD
      go_wp2
      go_ret
      refine ⟨rfl, ?_⟩
      repeat' (first | exact Below.refl _ _ | refine Below.drew ?_ | refine Below.drewN' ?_ | refine Below.setCell ?_ (by first | omega | (simp; done) | exact Below.size (by assumption) | (simp; omega)) _ | refine Below.alloc ?_ (by first | omega | (simp; done) | exact Below.size (by assumption) | (simp; omega)) _ | refine Below.trans ?_ (Below.mono (by assumption) ?_) | (first | omega | (simp; done) | exact Below.size (by assumption) | (simp; omega)))

theorem gridOf_walk (px py z tz tx ty : Int) (w : World) (he : Env w) :
    Calls Tryd.prog 4 #[.agg #[.int .i64 px, .int .i64 py], .int .i64 z, .agg #[.int .i64 tz, .int .i64 tx, .int .i64 ty]] w fun e w' => e = .returned (.bool true) ∧ Below w.heap.size w w' := by
  by_cases hz : 0 ≤ z ∧ z ≤ 17
  · by_cases hi : 0 ≤ px ∧ 0 ≤ py ∧ px < 1048576 ∧ py < 1048576
    · obtain ⟨k, rfl⟩ := Int.eq_ofNat_of_zero_le hz.1
      exact of_good px py tz tx ty k (by omega) hi w he
    · exact of_bad 10 (Or.inr rfl) px py z tz tx ty (fun w => of_range px py z hz hi w) w he
  · exact of_bad 1 (Or.inl rfl) px py z tz tx ty (fun w => of_arg px py z hz w) w he
end Go.Proofs.YtnilofeakdibhaaDoor
