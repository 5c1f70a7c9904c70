/- GridPixels: the walk. -/
import Derived.Test.YtnilofeakdibhaaDoorGridOf
import Derived.Deep.DeepCutAuto
namespace Go.Proofs.YtnilofeakdibhaaDoor
open Go.RowKit

def TilePt (z x y px py : Int) : Array Value := #[.agg #[.int .i64 z, .int .i64 x, .int .i64 y], .agg #[.int .i64 px, .int .i64 py]]

theorem side_two (k : Nat) (h : k ≤ 17) : side k = 2 ^ (20 - k) := by
  have : ∀ z : Fin 18, side z.val = 2 ^ (20 - z.val) := by decide
  exact this ⟨k, by omega⟩
theorem near_any (x y : Int) (px py : Int) (k : Nat) (hk : k ≤ 17) (hx : 0 ≤ x ∧ x < 2 ^ k) (hy : 0 ≤ y ∧ y < 2 ^ k) (w : World) :
    Calls Tryd.prog 16 #[.agg #[.int .i64 k, .int .i64 x, .int .i64 y], .agg #[.int .i64 px, .int .i64 py]] w fun e w' => (∃ a b er : Int, e = .returned (.tuple #[.agg #[.int .i64 a, .int .i64 b], .int .i64 er])) ∧ Below w.heap.size w w' := by
  by_cases hn : nearB px py = true
  · refine (pixel_ok x y px py k hk hx hy hn w).mono ?_
    rintro e w' ⟨rfl, h⟩
    exact ⟨⟨_, _, _, rfl⟩, h⟩
  · refine (pixel_range x y px py k hk hx hy (by simpa using hn) w).mono ?_
    rintro e w' ⟨rfl, h⟩
    exact ⟨⟨_, _, _, rfl⟩, h⟩


set_option maxRecDepth 100000 in
set_option maxHeartbeats 1000000 in
theorem pixels_bad (z x y px py qx qy : Int) (hv : validB z x y = false) (w : World) (he : Env w) :
    Calls Tryd.prog 5 #[.agg #[.int .i64 z, .int .i64 x, .int .i64 y], .agg #[.int .i64 px, .int .i64 py], .agg #[.int .i64 qx, .int .i64 qy]] w fun e w' => e = .returned (.bool true) ∧ Below w.heap.size w w' := by
  have HE := Lib.hid he
  have HV := Lib.hid hv
  have HBX := Lib.hid (fun w => box_arg z x y hv w)
  clear he hv
  go_enter Tryd.func5, Tryd.ntmps5
  go_wp2_with fail
  refine (head_true _ (HE.out.later (by repeat' (first | exact Below.refl _ _ | refine Below.drew ?_ | refine Below.drewN' ?_ | refine Below.setCell ?_ (by first | omega | (simp; done) | exact Below.size (by assumption) | (simp; omega)) _ | refine Below.alloc ?_ (by first | omega | (simp; done) | exact Below.size (by assumption) | (simp; omega)) _ | refine Below.trans ?_ (Below.mono (by assumption) ?_) | (first | omega | (simp; done) | exact Below.size (by assumption) | (simp; omega)))))).mono ?_; rintro e w1 ⟨rfl, hb1⟩
  have B1 : Below w.heap.size w w1 := below_step ((((Below.refl _ _).alloc (Nat.le_refl _) _).alloc (by simp) _).alloc (by simp; omega) _) (Nat.le_refl _) hb1
  have GT := Lib.hid (row_later hb1 (row_past (row_past (row_new w _))))
  have GP := Lib.hid (row_later hb1 (row_past (row_new1 w _ _)))
  have GQ := Lib.hid (row_later hb1 (row_new2 w _ _ _))
  have S1 := hb1.size; simp at S1
  clear hb1
  have HT := GT.out
  have tz := lt_of_block HT
  have t0 := cell_of_row w1 _ 0 _ _ _ HT
  have t1 := cell_of_row w1 _ 1 _ _ _ HT
  have t2 := cell_of_row w1 _ 2 _ _ _ HT
  simp only [List.getElem?_toArray, List.getElem?_cons_zero, List.getElem?_cons_succ] at t0 t1 t2
  have HT' := Lib.hid HT
  clear HT
  clear HT'
  go_wp2_with fail
  refine (HBX.out _).mono ?_; rintro e w2 ⟨rfl, hb2⟩
  have B2 := below_step B1 (Nat.le_refl _) hb2
  have S2 := hb2.size
  have GT := Lib.hid (row_later hb2 GT.out)
  have GP := Lib.hid (row_later hb2 GP.out)
  have GQ := Lib.hid (row_later hb2 GQ.out)
  clear hb2 B1 t0 t1 t2 tz
  have HT := GT.out
  have HP := GP.out
  have tz := lt_of_block HT
  have t0 := cell_of_row w2 _ 0 _ _ _ HT
  have t1 := cell_of_row w2 _ 1 _ _ _ HT
  have t2 := cell_of_row w2 _ 2 _ _ _ HT
  simp only [List.getElem?_toArray, List.getElem?_cons_zero, List.getElem?_cons_succ] at t0 t1 t2
  have HT' := Lib.hid HT
  clear HT
  have pz := lt_of_block HP
  have p0 := cell_of_row w2 _ 0 _ _ _ HP
  have p1 := cell_of_row w2 _ 1 _ _ _ HP
  simp only [List.getElem?_toArray, List.getElem?_cons_zero, List.getElem?_cons_succ] at p0 p1
  have HP' := Lib.hid HP
  clear HP
  clear HT' HP'
  go_wp2_with fail
  refine (pixel_arg _ _ _ _ _ HV.out _).mono ?_; rintro e w3 ⟨rfl, hb3⟩
  have B3 := below_step (B2.alloc B2.size _) (Nat.le_refl _) hb3
  have S3 := hb3.size; simp at S3
  have GB := Lib.hid (row_later hb3 (row_new w2 _))
  have GT := Lib.hid (row_later hb3 (row_past GT.out))
  have GP := Lib.hid (row_later hb3 (row_past GP.out))
  have GQ := Lib.hid (row_later hb3 (row_past GQ.out))
  clear hb3 B2 t0 t1 t2 tz p0 p1 pz
  have HT := GT.out
  have HQ := GQ.out
  have tz := lt_of_block HT
  have t0 := cell_of_row w3 _ 0 _ _ _ HT
  have t1 := cell_of_row w3 _ 1 _ _ _ HT
  have t2 := cell_of_row w3 _ 2 _ _ _ HT
  simp only [List.getElem?_toArray, List.getElem?_cons_zero, List.getElem?_cons_succ] at t0 t1 t2
  have HT' := Lib.hid HT
  clear HT
  have qz := lt_of_block HQ
  have q0 := cell_of_row w3 _ 0 _ _ _ HQ
  have q1 := cell_of_row w3 _ 1 _ _ _ HQ
  simp only [List.getElem?_toArray, List.getElem?_cons_zero, List.getElem?_cons_succ] at q0 q1
  have HQ' := Lib.hid HQ
  clear HQ
  clear HT' HQ'
  go_wp2_with fail
  refine (pixel_arg _ _ _ _ _ HV.out _).mono ?_; rintro e w4 ⟨rfl, hb4⟩
  have B4 := below_step (B3.alloc B3.size _) (Nat.le_refl _) hb4
  clear hb4 B3 t0 t1 t2 tz q0 q1 qz
  go_wp2
  go_ret
  refine ⟨rfl, ?_⟩
  repeat' (first | exact Below.refl _ _ | refine Below.drew ?_ | refine Below.drewN' ?_ | refine Below.setCell ?_ (by first | omega | (simp; done) | exact Below.size (by assumption) | (simp; omega)) _ | refine Below.alloc ?_ (by first | omega | (simp; done) | exact Below.size (by assumption) | (simp; omega)) _ | refine Below.trans ?_ (Below.mono (by assumption) ?_) | (first | omega | (simp; done) | exact Below.size (by assumption) | (simp; omega)))

set_option maxRecDepth 100000 in
set_option maxHeartbeats 1000000 in
theorem pixels_far (x y px py qx qy : Int) (k : Nat) (hk : k ≤ 17) (hx : 0 ≤ x ∧ x < 2 ^ k) (hy : 0 ≤ y ∧ y < 2 ^ k) (hn : nearB px py = false) (w : World) (he : Env w) :
    Calls Tryd.prog 5 #[.agg #[.int .i64 k, .int .i64 x, .int .i64 y], .agg #[.int .i64 px, .int .i64 py], .agg #[.int .i64 qx, .int .i64 qy]] w fun e w' => e = .returned (.bool true) ∧ Below w.heap.size w w' := by
  have HE := Lib.hid he
  have HBX := Lib.hid (fun w => box_ok x y k hk hx hy w)
  have HPX := Lib.hid (fun w => pixel_range x y px py k hk hx hy hn w)
  have HQX := Lib.hid (fun w => near_any x y qx qy k hk hx hy w)
  clear he hn hx hy
  go_enter Tryd.func5, Tryd.ntmps5
  go_wp2_with fail
  refine (head_true _ (HE.out.later (by repeat' (first | exact Below.refl _ _ | refine Below.drew ?_ | refine Below.drewN' ?_ | refine Below.setCell ?_ (by first | omega | (simp; done) | exact Below.size (by assumption) | (simp; omega)) _ | refine Below.alloc ?_ (by first | omega | (simp; done) | exact Below.size (by assumption) | (simp; omega)) _ | refine Below.trans ?_ (Below.mono (by assumption) ?_) | (first | omega | (simp; done) | exact Below.size (by assumption) | (simp; omega)))))).mono ?_; rintro e w1 ⟨rfl, hb1⟩
  have B1 : Below w.heap.size w w1 := below_step ((((Below.refl _ _).alloc (Nat.le_refl _) _).alloc (by simp) _).alloc (by simp; omega) _) (Nat.le_refl _) hb1
  have GT := Lib.hid (row_later hb1 (row_past (row_past (row_new w _))))
  have GP := Lib.hid (row_later hb1 (row_past (row_new1 w _ _)))
  have GQ := Lib.hid (row_later hb1 (row_new2 w _ _ _))
  have S1 := hb1.size; simp at S1
  clear hb1
  have HT := GT.out
  have tz := lt_of_block HT
  have t0 := cell_of_row w1 _ 0 _ _ _ HT
  have t1 := cell_of_row w1 _ 1 _ _ _ HT
  have t2 := cell_of_row w1 _ 2 _ _ _ HT
  simp only [List.getElem?_toArray, List.getElem?_cons_zero, List.getElem?_cons_succ] at t0 t1 t2
  have HT' := Lib.hid HT
  clear HT
  clear HT'
  go_wp2_with fail
  refine (HBX.out _).mono ?_; rintro e w2 ⟨rfl, hb2⟩
  have B2 := below_step B1 (Nat.le_refl _) hb2
  have S2 := hb2.size
  have GT := Lib.hid (row_later hb2 GT.out)
  have GP := Lib.hid (row_later hb2 GP.out)
  have GQ := Lib.hid (row_later hb2 GQ.out)
  clear hb2 B1 t0 t1 t2 tz
  have HT := GT.out
  have HP := GP.out
  have tz := lt_of_block HT
  have t0 := cell_of_row w2 _ 0 _ _ _ HT
  have t1 := cell_of_row w2 _ 1 _ _ _ HT
  have t2 := cell_of_row w2 _ 2 _ _ _ HT
  simp only [List.getElem?_toArray, List.getElem?_cons_zero, List.getElem?_cons_succ] at t0 t1 t2
  have HT' := Lib.hid HT
  clear HT
  have pz := lt_of_block HP
  have p0 := cell_of_row w2 _ 0 _ _ _ HP
  have p1 := cell_of_row w2 _ 1 _ _ _ HP
  simp only [List.getElem?_toArray, List.getElem?_cons_zero, List.getElem?_cons_succ] at p0 p1
  have HP' := Lib.hid HP
  clear HP
  clear HT' HP'
  go_wp2_with fail
  refine (HPX.out _).mono ?_; rintro e w3 ⟨rfl, hb3⟩
  have B3 := below_step (B2.alloc B2.size _) (Nat.le_refl _) hb3
  have S3 := hb3.size; simp at S3
  have GB := Lib.hid (row_later hb3 (row_new w2 _))
  have GT := Lib.hid (row_later hb3 (row_past GT.out))
  have GP := Lib.hid (row_later hb3 (row_past GP.out))
  have GQ := Lib.hid (row_later hb3 (row_past GQ.out))
  clear hb3 B2 t0 t1 t2 tz p0 p1 pz
  have HT := GT.out
  have HQ := GQ.out
  have tz := lt_of_block HT
  have t0 := cell_of_row w3 _ 0 _ _ _ HT
  have t1 := cell_of_row w3 _ 1 _ _ _ HT
  have t2 := cell_of_row w3 _ 2 _ _ _ HT
  simp only [List.getElem?_toArray, List.getElem?_cons_zero, List.getElem?_cons_succ] at t0 t1 t2
  have HT' := Lib.hid HT
  clear HT
  have qz := lt_of_block HQ
  have q0 := cell_of_row w3 _ 0 _ _ _ HQ
  have q1 := cell_of_row w3 _ 1 _ _ _ HQ
  simp only [List.getElem?_toArray, List.getElem?_cons_zero, List.getElem?_cons_succ] at q0 q1
  have HQ' := Lib.hid HQ
  clear HQ
  clear HT' HQ'
  go_wp2_with fail
  refine (HQX.out _).mono ?_; rintro e w4 ⟨⟨a, b, er, rfl⟩, hb4⟩
  have B4 := below_step (B3.alloc B3.size _) (Nat.le_refl _) hb4
  clear hb4 B3 t0 t1 t2 tz q0 q1 qz
  go_wp2
  go_ret
  refine ⟨rfl, ?_⟩
  repeat' (first | exact Below.refl _ _ | refine Below.drew ?_ | refine Below.drewN' ?_ | refine Below.setCell ?_ (by first | omega | (simp; done) | exact Below.size (by assumption) | (simp; omega)) _ | refine Below.alloc ?_ (by first | omega | (simp; done) | exact Below.size (by assumption) | (simp; omega)) _ | refine Below.trans ?_ (Below.mono (by assumption) ?_) | (first | omega | (simp; done) | exact Below.size (by assumption) | (simp; omega)))

set_option maxRecDepth 100000 in
set_option maxHeartbeats 1000000 in
theorem pixels_far2 (x y px py qx qy : Int) (k : Nat) (hk : k ≤ 17) (hx : 0 ≤ x ∧ x < 2 ^ k) (hy : 0 ≤ y ∧ y < 2 ^ k) (hn : nearB px py = true) (hn' : nearB qx qy = false) (w : World) (he : Env w) :
    Calls Tryd.prog 5 #[.agg #[.int .i64 k, .int .i64 x, .int .i64 y], .agg #[.int .i64 px, .int .i64 py], .agg #[.int .i64 qx, .int .i64 qy]] w fun e w' => e = .returned (.bool true) ∧ Below w.heap.size w w' := by
  have HE := Lib.hid he
  have HBX := Lib.hid (fun w => box_ok x y k hk hx hy w)
  have HPX := Lib.hid (fun w => pixel_ok x y px py k hk hx hy hn w)
  have HQX := Lib.hid (fun w => pixel_range x y qx qy k hk hx hy hn' w)
  clear he hn hn' hx hy
  go_enter Tryd.func5, Tryd.ntmps5
  go_wp2_with fail
  refine (head_true _ (HE.out.later (by repeat' (first | exact Below.refl _ _ | refine Below.drew ?_ | refine Below.drewN' ?_ | refine Below.setCell ?_ (by first | omega | (simp; done) | exact Below.size (by assumption) | (simp; omega)) _ | refine Below.alloc ?_ (by first | omega | (simp; done) | exact Below.size (by assumption) | (simp; omega)) _ | refine Below.trans ?_ (Below.mono (by assumption) ?_) | (first | omega | (simp; done) | exact Below.size (by assumption) | (simp; omega)))))).mono ?_; rintro e w1 ⟨rfl, hb1⟩
  have B1 : Below w.heap.size w w1 := below_step ((((Below.refl _ _).alloc (Nat.le_refl _) _).alloc (by simp) _).alloc (by simp; omega) _) (Nat.le_refl _) hb1
  have GT := Lib.hid (row_later hb1 (row_past (row_past (row_new w _))))
  have GP := Lib.hid (row_later hb1 (row_past (row_new1 w _ _)))
  have GQ := Lib.hid (row_later hb1 (row_new2 w _ _ _))
  have S1 := hb1.size; simp at S1
  clear hb1
  have HT := GT.out
  have tz := lt_of_block HT
  have t0 := cell_of_row w1 _ 0 _ _ _ HT
  have t1 := cell_of_row w1 _ 1 _ _ _ HT
  have t2 := cell_of_row w1 _ 2 _ _ _ HT
  simp only [List.getElem?_toArray, List.getElem?_cons_zero, List.getElem?_cons_succ] at t0 t1 t2
  have HT' := Lib.hid HT
  clear HT
  clear HT'
  go_wp2_with fail
  refine (HBX.out _).mono ?_; rintro e w2 ⟨rfl, hb2⟩
  have B2 := below_step B1 (Nat.le_refl _) hb2
  have S2 := hb2.size
  have GT := Lib.hid (row_later hb2 GT.out)
  have GP := Lib.hid (row_later hb2 GP.out)
  have GQ := Lib.hid (row_later hb2 GQ.out)
  clear hb2 B1 t0 t1 t2 tz
  have HT := GT.out
  have HP := GP.out
  have tz := lt_of_block HT
  have t0 := cell_of_row w2 _ 0 _ _ _ HT
  have t1 := cell_of_row w2 _ 1 _ _ _ HT
  have t2 := cell_of_row w2 _ 2 _ _ _ HT
  simp only [List.getElem?_toArray, List.getElem?_cons_zero, List.getElem?_cons_succ] at t0 t1 t2
  have HT' := Lib.hid HT
  clear HT
  have pz := lt_of_block HP
  have p0 := cell_of_row w2 _ 0 _ _ _ HP
  have p1 := cell_of_row w2 _ 1 _ _ _ HP
  simp only [List.getElem?_toArray, List.getElem?_cons_zero, List.getElem?_cons_succ] at p0 p1
  have HP' := Lib.hid HP
  clear HP
  clear HT' HP'
  go_wp2_with fail
  refine (HPX.out _).mono ?_; rintro e w3 ⟨rfl, hb3⟩
  have B3 := below_step (B2.alloc B2.size _) (Nat.le_refl _) hb3
  have S3 := hb3.size; simp at S3
  have GB := Lib.hid (row_later hb3 (row_new w2 _))
  have GT := Lib.hid (row_later hb3 (row_past GT.out))
  have GP := Lib.hid (row_later hb3 (row_past GP.out))
  have GQ := Lib.hid (row_later hb3 (row_past GQ.out))
  clear hb3 B2 t0 t1 t2 tz p0 p1 pz
  have HT := GT.out
  have HQ := GQ.out
  have tz := lt_of_block HT
  have t0 := cell_of_row w3 _ 0 _ _ _ HT
  have t1 := cell_of_row w3 _ 1 _ _ _ HT
  have t2 := cell_of_row w3 _ 2 _ _ _ HT
  simp only [List.getElem?_toArray, List.getElem?_cons_zero, List.getElem?_cons_succ] at t0 t1 t2
  have HT' := Lib.hid HT
  clear HT
  have qz := lt_of_block HQ
  have q0 := cell_of_row w3 _ 0 _ _ _ HQ
  have q1 := cell_of_row w3 _ 1 _ _ _ HQ
  simp only [List.getElem?_toArray, List.getElem?_cons_zero, List.getElem?_cons_succ] at q0 q1
  have HQ' := Lib.hid HQ
  clear HQ
  clear HT' HQ'
  go_wp2_with fail
  refine (HQX.out _).mono ?_; rintro e w4 ⟨rfl, hb4⟩
  have B4 := below_step (B3.alloc B3.size _) (Nat.le_refl _) hb4
  clear hb4 B3 t0 t1 t2 tz q0 q1 qz
  go_wp2
  go_ret
  refine ⟨rfl, ?_⟩
  repeat' (first | exact Below.refl _ _ | refine Below.drew ?_ | refine Below.drewN' ?_ | refine Below.setCell ?_ (by first | omega | (simp; done) | exact Below.size (by assumption) | (simp; omega)) _ | refine Below.alloc ?_ (by first | omega | (simp; done) | exact Below.size (by assumption) | (simp; omega)) _ | refine Below.trans ?_ (Below.mono (by assumption) ?_) | (first | omega | (simp; done) | exact Below.size (by assumption) | (simp; omega)))

theorem pix1 (d s : Int) (hs : 0 < s) : (0 ≤ d * 256 / s ∧ d * 256 / s < 256) ↔ (0 ≤ d ∧ d < s) := by
  rw [Int.ediv_nonneg_iff_of_pos hs, Int.ediv_lt_iff_lt_mul hs]
  omega
theorem pix_mono (a b s : Int) (hs : 0 < s) (h : a ≤ b) : a * 256 / s ≤ b * 256 / s := Int.ediv_le_ediv hs (by omega)
theorem pix_bd (a s M : Int) (hs : 0 < s) (h0 : -M ≤ a) (h1 : a ≤ M) (hM : 0 ≤ M) : -M ≤ a / s ∧ a / s ≤ M := by
  refine ⟨Int.le_ediv_of_mul_le hs ?_, ?_⟩
  · have : M * 1 ≤ M * s := Int.mul_le_mul_of_nonneg_left (by omega) hM
    rw [Int.neg_mul]; omega
  · have h2 : a / s < M + 1 := Int.ediv_lt_of_lt_mul hs (by
      have : (M + 1) * 1 ≤ (M + 1) * s := Int.mul_le_mul_of_nonneg_left (by omega) (by omega)
      omega)
    omega
theorem pix_up (p x s : Int) (hs : 0 < s) : (p - x / 2 * (s * 2)) * 256 / (s * 2) = ((p - x * s) * 256 / s + 256 * (x % 2)) / 2 := by
  have hx := Int.emod_add_mul_ediv x 2
  have e1 : (p - x * s) * 256 / s + 256 * (x % 2) = ((p - x * s) * 256 + (256 * (x % 2)) * s) / s := by
    rw [Int.add_mul_ediv_right _ _ (by omega)]
  rw [e1, Int.ediv_ediv_of_nonneg (by omega)]
  congr 1
  generalize x % 2 = r at hx
  generalize x / 2 = h at hx
  subst hx
  simp only [Int.sub_mul, Int.add_mul]
  have a1 : h * (s * 2) = 2 * h * s := by rw [← Int.mul_assoc, Int.mul_comm (h * s) 2, Int.mul_assoc]
  have a2 : 256 * r * s = r * s * 256 := by rw [Int.mul_comm 256 r, Int.mul_assoc, Int.mul_comm 256 s, Int.mul_assoc]
  rw [a1, a2]
  omega


set_option maxRecDepth 100000 in
set_option maxHeartbeats 2000000 in
theorem pixels_core (x y px py qx qy b0 b1 b2 b3 X0 X1 Y0 Y1 : Int) (k : Nat)
    (HBX : Hid (∀ w, Calls Tryd.prog 12 #[.agg #[.int .i64 k, .int .i64 x, .int .i64 y]] w fun e w' => e = .returned (.tuple #[.agg #[.int .i64 b0, .int .i64 b1, .int .i64 b2, .int .i64 b3], .int .i64 0]) ∧ Below w.heap.size w w'))
    (HPX : Hid (∀ w, Calls Tryd.prog 16 #[.agg #[.int .i64 k, .int .i64 x, .int .i64 y], .agg #[.int .i64 px, .int .i64 py]] w fun e w' => e = .returned (.tuple #[.agg #[.int .i64 X0, .int .i64 X1], .int .i64 0]) ∧ Below w.heap.size w w'))
    (HQX : Hid (∀ w, Calls Tryd.prog 16 #[.agg #[.int .i64 k, .int .i64 x, .int .i64 y], .agg #[.int .i64 qx, .int .i64 qy]] w fun e w' => e = .returned (.tuple #[.agg #[.int .i64 Y0, .int .i64 Y1], .int .i64 0]) ∧ Below w.heap.size w w'))
    (hin : hasB b0 b1 b2 b3 px py = decide (0 ≤ X0 ∧ X0 < 256 ∧ 0 ≤ X1 ∧ X1 < 256)) (hm0 : px ≤ qx → X0 ≤ Y0) (hm1 : py ≤ qy → X1 ≤ Y1)
    (hX0 : -805306368 ≤ X0 ∧ X0 ≤ 805306368) (hX1 : -805306368 ≤ X1 ∧ X1 ≤ 805306368) (hx : 0 ≤ x ∧ x < 131072) (hy : 0 ≤ y ∧ y < 131072)
    (HU : Hid ((k = 0 ∧ ∀ w, Calls Tryd.prog 15 #[.agg #[.int .i64 k, .int .i64 x, .int .i64 y]] w fun e w' => e = .returned (.tuple #[.agg #[.int .i64 0, .int .i64 0, .int .i64 0], .int .i64 11]) ∧ Below w.heap.size w w') ∨
      ((∀ w, Calls Tryd.prog 15 #[.agg #[.int .i64 k, .int .i64 x, .int .i64 y]] w fun e w' => e = .returned (.tuple #[.agg #[.int .i64 ((k : Int) - 1), .int .i64 (x / 2), .int .i64 (y / 2)], .int .i64 0]) ∧ Below w.heap.size w w') ∧
       ∀ w, Calls Tryd.prog 16 #[.agg #[.int .i64 ((k : Int) - 1), .int .i64 (x / 2), .int .i64 (y / 2)], .agg #[.int .i64 px, .int .i64 py]] w fun e w' => e = .returned (.tuple #[.agg #[.int .i64 ((X0 + 256 * (x % 2)) / 2), .int .i64 ((X1 + 256 * (y % 2)) / 2)], .int .i64 0]) ∧ Below w.heap.size w w')))
    (w : World) (he : Env w) :
    Calls Tryd.prog 5 #[.agg #[.int .i64 k, .int .i64 x, .int .i64 y], .agg #[.int .i64 px, .int .i64 py], .agg #[.int .i64 qx, .int .i64 qy]] w fun e w' => e = .returned (.bool true) ∧ Below w.heap.size w w' := by
  have HE := Lib.hid he
  have HIN := Lib.hid hin
  have HM0 := Lib.hid hm0
  have HM1 := Lib.hid hm1
  clear he hin hm0 hm1
  go_enter Tryd.func5, Tryd.ntmps5
  go_wp2_with fail
  refine (head_true _ (HE.out.later (by repeat' (first | exact Below.refl _ _ | refine Below.drew ?_ | refine Below.drewN' ?_ | refine Below.setCell ?_ (by first | omega | (simp; done) | exact Below.size (by assumption) | (simp; omega)) _ | refine Below.alloc ?_ (by first | omega | (simp; done) | exact Below.size (by assumption) | (simp; omega)) _ | refine Below.trans ?_ (Below.mono (by assumption) ?_) | (first | omega | (simp; done) | exact Below.size (by assumption) | (simp; omega)))))).mono ?_; rintro e w1 ⟨rfl, hb1⟩
  have B1 : Below w.heap.size w w1 := below_step ((((Below.refl _ _).alloc (Nat.le_refl _) _).alloc (by simp) _).alloc (by simp; omega) _) (Nat.le_refl _) hb1
  have GT := Lib.hid (row_later hb1 (row_past (row_past (row_new w _))))
  have GP := Lib.hid (row_later hb1 (row_past (row_new1 w _ _)))
  have GQ := Lib.hid (row_later hb1 (row_new2 w _ _ _))
  have S1 := hb1.size; simp at S1
  clear hb1
  have HT := GT.out
  have tz := lt_of_block HT
  have t0 := cell_of_row w1 _ 0 _ _ _ HT
  have t1 := cell_of_row w1 _ 1 _ _ _ HT
  have t2 := cell_of_row w1 _ 2 _ _ _ HT
  simp only [List.getElem?_toArray, List.getElem?_cons_zero, List.getElem?_cons_succ] at t0 t1 t2
  have HT' := Lib.hid HT
  clear HT
  clear HT'
  go_wp2_with fail
  refine (HBX.out _).mono ?_; rintro e w2 ⟨rfl, hb2⟩
  have B2 := below_step B1 (Nat.le_refl _) hb2
  have S2 := hb2.size
  have GT := Lib.hid (row_later hb2 GT.out)
  have GP := Lib.hid (row_later hb2 GP.out)
  have GQ := Lib.hid (row_later hb2 GQ.out)
  clear hb2 B1 t0 t1 t2 tz
  have HT := GT.out
  have HP := GP.out
  have tz := lt_of_block HT
  have t0 := cell_of_row w2 _ 0 _ _ _ HT
  have t1 := cell_of_row w2 _ 1 _ _ _ HT
  have t2 := cell_of_row w2 _ 2 _ _ _ HT
  simp only [List.getElem?_toArray, List.getElem?_cons_zero, List.getElem?_cons_succ] at t0 t1 t2
  have HT' := Lib.hid HT
  clear HT
  have pz := lt_of_block HP
  have p0 := cell_of_row w2 _ 0 _ _ _ HP
  have p1 := cell_of_row w2 _ 1 _ _ _ HP
  simp only [List.getElem?_toArray, List.getElem?_cons_zero, List.getElem?_cons_succ] at p0 p1
  have HP' := Lib.hid HP
  clear HP
  clear HT' HP'
  go_wp2_with fail
  refine (HPX.out _).mono ?_; rintro e w3 ⟨rfl, hb3⟩
  have B3 := below_step (B2.alloc B2.size _) (Nat.le_refl _) hb3
  have S3 := hb3.size; simp at S3
  have GB := Lib.hid (row_later hb3 (row_new w2 _))
  have GT := Lib.hid (row_later hb3 (row_past GT.out))
  have GP := Lib.hid (row_later hb3 (row_past GP.out))
  have GQ := Lib.hid (row_later hb3 (row_past GQ.out))
  clear hb3 B2 t0 t1 t2 tz p0 p1 pz
  have HT := GT.out
  have HQ := GQ.out
  have tz := lt_of_block HT
  have t0 := cell_of_row w3 _ 0 _ _ _ HT
  have t1 := cell_of_row w3 _ 1 _ _ _ HT
  have t2 := cell_of_row w3 _ 2 _ _ _ HT
  simp only [List.getElem?_toArray, List.getElem?_cons_zero, List.getElem?_cons_succ] at t0 t1 t2
  have HT' := Lib.hid HT
  clear HT
  have qz := lt_of_block HQ
  have q0 := cell_of_row w3 _ 0 _ _ _ HQ
  have q1 := cell_of_row w3 _ 1 _ _ _ HQ
  simp only [List.getElem?_toArray, List.getElem?_cons_zero, List.getElem?_cons_succ] at q0 q1
  have HQ' := Lib.hid HQ
  clear HQ
  clear HT' HQ'
  go_wp2_with fail
  refine (HQX.out _).mono ?_; rintro e w4 ⟨rfl, hb4⟩
  have B4 := below_step (B3.alloc B3.size _) (Nat.le_refl _) hb4
  have S4 := hb4.size; simp at S4
  have GX := Lib.hid (row_later hb4 (row_new w3 _))
  have GB := Lib.hid (row_later hb4 (row_past GB.out))
  have GT := Lib.hid (row_later hb4 (row_past GT.out))
  have GP := Lib.hid (row_later hb4 (row_past GP.out))
  have GQ := Lib.hid (row_later hb4 (row_past GQ.out))
  clear hb4 B3 t0 t1 t2 tz q0 q1 qz
  have GY := Lib.hid (row_new w4 (.cells #[.int .i64 Y0, .int .i64 Y1] 31))
  have GX := Lib.hid (row_past (o' := .cells #[.int .i64 Y0, .int .i64 Y1] 31) GX.out)
  have GB := Lib.hid (row_past (o' := .cells #[.int .i64 Y0, .int .i64 Y1] 31) GB.out)
  have GT := Lib.hid (row_past (o' := .cells #[.int .i64 Y0, .int .i64 Y1] 31) GT.out)
  have GP := Lib.hid (row_past (o' := .cells #[.int .i64 Y0, .int .i64 Y1] 31) GP.out)
  have GQ := Lib.hid (row_past (o' := .cells #[.int .i64 Y0, .int .i64 Y1] 31) GQ.out)
  have B5 := B4.alloc B4.size (.cells #[.int .i64 Y0, .int .i64 Y1] 31)
  go_upto_region 7 with fail
  generalize hw5 : w4.alloc (.cells #[.int .i64 Y0, .int .i64 Y1] 31) = w5
  rw [hw5] at GX GY GB GT GP GQ B5
  clear hw5 B4
  have HX := GX.out
  have HB := GB.out
  have HP := GP.out
  have HQ := GQ.out
  have HY := GY.out
  have xz := lt_of_block HX
  have x0 := cell_of_row w5 _ 0 _ _ _ HX
  have x1 := cell_of_row w5 _ 1 _ _ _ HX
  simp only [List.getElem?_toArray, List.getElem?_cons_zero, List.getElem?_cons_succ] at x0 x1
  have HX' := Lib.hid HX
  clear HX
  have vz := lt_of_block HB
  have v0 := cell_of_row w5 _ 0 _ _ _ HB
  have v1 := cell_of_row w5 _ 1 _ _ _ HB
  have v2 := cell_of_row w5 _ 2 _ _ _ HB
  have v3 := cell_of_row w5 _ 3 _ _ _ HB
  simp only [List.getElem?_toArray, List.getElem?_cons_zero, List.getElem?_cons_succ] at v0 v1 v2 v3
  have HB' := Lib.hid HB
  clear HB
  have pz := lt_of_block HP
  have p0 := cell_of_row w5 _ 0 _ _ _ HP
  have p1 := cell_of_row w5 _ 1 _ _ _ HP
  simp only [List.getElem?_toArray, List.getElem?_cons_zero, List.getElem?_cons_succ] at p0 p1
  have HP' := Lib.hid HP
  clear HP
  have qz := lt_of_block HQ
  have q0 := cell_of_row w5 _ 0 _ _ _ HQ
  have q1 := cell_of_row w5 _ 1 _ _ _ HQ
  simp only [List.getElem?_toArray, List.getElem?_cons_zero, List.getElem?_cons_succ] at q0 q1
  have HQ' := Lib.hid HQ
  clear HQ
  have yz := lt_of_block HY
  have y0 := cell_of_row w5 _ 0 _ _ _ HY
  have y1 := cell_of_row w5 _ 1 _ _ _ HY
  simp only [List.getElem?_toArray, List.getElem?_cons_zero, List.getElem?_cons_succ] at y0 y1
  have HY' := Lib.hid HY
  clear HY
  clear HX' HB' HP' HQ' HY'
  go_cut [14] (fun s wx => s = .bool (hasB b0 b1 b2 b3 px py) ∧ wx = w5)
  case first =>
    go_wp2
    all_goals
      go_meet
      refine ⟨congrArg Value.bool ?_, rfl⟩
      rw [HIN.out]
      first | (rw [decide_eq_decide]; omega) | (symm; rw [decide_eq_true_eq]; omega) | (symm; rw [decide_eq_false_iff_not]; omega)
  case rest =>
    obtain ⟨rfl, rfl⟩ := hcut
    go_upto_region 8 with fail
    clear x0 x1 v0 v1 v2 v3 p0 p1 q0 q1 y0 y1 xz vz pz qz yz
    go_cut [110] (fun s w' => s = .bool false ∧ Below wc.heap.size wc w')
    case first =>
      have HB := GB.out
      have HP := GP.out
      have vz := lt_of_block HB
      have v0 := cell_of_row wc _ 0 _ _ _ HB
      have v1 := cell_of_row wc _ 1 _ _ _ HB
      have v2 := cell_of_row wc _ 2 _ _ _ HB
      have v3 := cell_of_row wc _ 3 _ _ _ HB
      simp only [List.getElem?_toArray, List.getElem?_cons_zero, List.getElem?_cons_succ] at v0 v1 v2 v3
      have HB' := Lib.hid HB
      clear HB
      have pz := lt_of_block HP
      have p0 := cell_of_row wc _ 0 _ _ _ HP
      have p1 := cell_of_row wc _ 1 _ _ _ HP
      simp only [List.getElem?_toArray, List.getElem?_cons_zero, List.getElem?_cons_succ] at p0 p1
      have HP' := Lib.hid HP
      clear HP
      go_wp2_with fail
      refine (has_any _ _ _ _ _ _ _).mono ?_; rintro e w6 ⟨rfl, hb6⟩
      clear v0 v1 v2 v3 p0 p1 vz pz HB' HP'
      have HX := row_later hb6 GX.out
      have HP := row_later hb6 GP.out
      have HQ := row_later hb6 GQ.out
      have HY := row_later hb6 GY.out
      have xz := lt_of_block HX
      have x0 := cell_of_row w6 _ 0 _ _ _ HX
      have x1 := cell_of_row w6 _ 1 _ _ _ HX
      simp only [List.getElem?_toArray, List.getElem?_cons_zero, List.getElem?_cons_succ] at x0 x1
      have HX' := Lib.hid HX
      clear HX
      have pz := lt_of_block HP
      have p0 := cell_of_row w6 _ 0 _ _ _ HP
      have p1 := cell_of_row w6 _ 1 _ _ _ HP
      simp only [List.getElem?_toArray, List.getElem?_cons_zero, List.getElem?_cons_succ] at p0 p1
      have HP' := Lib.hid HP
      clear HP
      have qz := lt_of_block HQ
      have q0 := cell_of_row w6 _ 0 _ _ _ HQ
      have q1 := cell_of_row w6 _ 1 _ _ _ HQ
      simp only [List.getElem?_toArray, List.getElem?_cons_zero, List.getElem?_cons_succ] at q0 q1
      have HQ' := Lib.hid HQ
      clear HQ
      have yz := lt_of_block HY
      have y0 := cell_of_row w6 _ 0 _ _ _ HY
      have y1 := cell_of_row w6 _ 1 _ _ _ HY
      simp only [List.getElem?_toArray, List.getElem?_cons_zero, List.getElem?_cons_succ] at y0 y1
      have HY' := Lib.hid HY
      clear HY
      have hne : (hasB b0 b1 b2 b3 px py != hasB b0 b1 b2 b3 px py) = false := by simp
      by_cases h0 : px ≤ qx
      · have g0 := HM0.out h0
        by_cases h1 : py ≤ qy
        · have g1 := HM1.out h1
          go_wp2
          go_meet
          exact ⟨congrArg Value.bool (by simp; omega), hb6⟩
        · go_wp2
          go_meet
          exact ⟨congrArg Value.bool (by simp; omega), hb6⟩
      · by_cases h1 : py ≤ qy
        · have g1 := HM1.out h1
          go_wp2
          go_meet
          exact ⟨congrArg Value.bool (by simp; omega), hb6⟩
        · go_wp2
          go_meet
          exact ⟨rfl, hb6⟩
    case rest =>
      obtain ⟨rfl, hbd⟩ := hcut
      have B6 := below_step B5 (Nat.le_refl _) hbd
      have GX := Lib.hid (row_later hbd GX.out)
      have GT := Lib.hid (row_later hbd GT.out)
      have GP := Lib.hid (row_later hbd GP.out)
      clear hbd B5
      have HT := GT.out
      have tz := lt_of_block HT
      have t0 := cell_of_row wc _ 0 _ _ _ HT
      have t1 := cell_of_row wc _ 1 _ _ _ HT
      have t2 := cell_of_row wc _ 2 _ _ _ HT
      simp only [List.getElem?_toArray, List.getElem?_cons_zero, List.getElem?_cons_succ] at t0 t1 t2
      have HT' := Lib.hid HT
      clear HT
      clear HT'
      go_wp2_with fail
      rcases HU.out with ⟨hk0, hU⟩ | ⟨hU, hZ⟩
      · have HU0 := Lib.hid hU
        have hz : ((k : Int) == 0) = true := by rw [beq_iff_eq]; omega
        clear hU hk0
        refine (HU0.out _).mono ?_; rintro e w7 ⟨rfl, hb7⟩
        have B7 := below_step B6 (Nat.le_refl _) hb7
        have HT := row_later hb7 GT.out
        clear hb7 B6 t0 t1 t2 tz
        have tz := lt_of_block HT
        have t0 := cell_of_row w7 _ 0 _ _ _ HT
        have t1 := cell_of_row w7 _ 1 _ _ _ HT
        have t2 := cell_of_row w7 _ 2 _ _ _ HT
        simp only [List.getElem?_toArray, List.getElem?_cons_zero, List.getElem?_cons_succ] at t0 t1 t2
        have HT' := Lib.hid HT
        clear HT
        go_wp2
        go_ret
        refine ⟨rfl, ?_⟩
        repeat' (first | exact Below.refl _ _ | refine Below.drew ?_ | refine Below.drewN' ?_ | refine Below.setCell ?_ (by first | omega | (simp; done) | exact Below.size (by assumption) | (simp; omega)) _ | refine Below.alloc ?_ (by first | omega | (simp; done) | exact Below.size (by assumption) | (simp; omega)) _ | refine Below.trans ?_ (Below.mono (by assumption) ?_) | (first | omega | (simp; done) | exact Below.size (by assumption) | (simp; omega)))
      · have HU0 := Lib.hid hU
        have HZ0 := Lib.hid hZ
        clear hU hZ
        refine (HU0.out _).mono ?_; rintro e w7 ⟨rfl, hb7⟩
        have B7 := below_step B6 (Nat.le_refl _) hb7
        have GX := Lib.hid (row_later hb7 GX.out)
        have GT := Lib.hid (row_later hb7 GT.out)
        have GP := Lib.hid (row_later hb7 GP.out)
        clear hb7 B6 t0 t1 t2 tz
        have HP := GP.out
        have pz := lt_of_block HP
        have p0 := cell_of_row w7 _ 0 _ _ _ HP
        have p1 := cell_of_row w7 _ 1 _ _ _ HP
        simp only [List.getElem?_toArray, List.getElem?_cons_zero, List.getElem?_cons_succ] at p0 p1
        have HP' := Lib.hid HP
        clear HP
        clear HP'
        go_wp2_with fail
        refine (HZ0.out _).mono ?_; rintro e w8 ⟨rfl, hb8⟩
        have B8 := below_step (B7.alloc B7.size _) (Nat.le_refl _) hb8
        have HX := row_later hb8 (row_past GX.out)
        have HT := row_later hb8 (row_past GT.out)
        clear hb8 B7 p0 p1 pz
        have xz := lt_of_block HX
        have x0 := cell_of_row w8 _ 0 _ _ _ HX
        have x1 := cell_of_row w8 _ 1 _ _ _ HX
        simp only [List.getElem?_toArray, List.getElem?_cons_zero, List.getElem?_cons_succ] at x0 x1
        have HX' := Lib.hid HX
        clear HX
        have tz := lt_of_block HT
        have t0 := cell_of_row w8 _ 0 _ _ _ HT
        have t1 := cell_of_row w8 _ 1 _ _ _ HT
        have t2 := cell_of_row w8 _ 2 _ _ _ HT
        simp only [List.getElem?_toArray, List.getElem?_cons_zero, List.getElem?_cons_succ] at t0 t1 t2
        have HT' := Lib.hid HT
        clear HT
        go_wp2_with fail
        have m0 : x.tmod 2 = x % 2 := Int.tmod_eq_emod_of_nonneg hx.1
        have m1 : y.tmod 2 = y % 2 := Int.tmod_eq_emod_of_nonneg hy.1
        have r0 : 0 ≤ x % 2 ∧ x % 2 < 2 := by omega
        have r1 : 0 ≤ y % 2 ∧ y % 2 < 2 := by omega
        generalize x % 2 = rx at *
        generalize y % 2 = ry at *
        have w0 : IntKind.i64.wrap (256 * rx) = 256 * rx := IntWalk.i64_in _ (by omega)
        have w1' : IntKind.i64.wrap (256 * ry) = 256 * ry := IntWalk.i64_in _ (by omega)
        have w2' : IntKind.i64.wrap (X0 + 256 * rx) = X0 + 256 * rx := IntWalk.i64_in _ (by omega)
        have w3' : IntKind.i64.wrap (X1 + 256 * ry) = X1 + 256 * ry := IntWalk.i64_in _ (by omega)
        have w4' : IntKind.i64.wrap rx = rx := IntWalk.i64_in _ (by omega)
        have w5' : IntKind.i64.wrap ry = ry := IntWalk.i64_in _ (by omega)
        clear hX0 hX1 r0 r1 hx hy
        go_quiet ((go_at_call 17; exact Calls.quiet_of_same ((half_any _ _).mono fun _ _ h => ⟨h.1, h.2.symm⟩)))
        go_wp2
        go_ret
        refine ⟨rfl, ?_⟩
        repeat' (first | exact Below.refl _ _ | refine Below.drew ?_ | refine Below.drewN' ?_ | refine Below.setCell ?_ (by first | omega | (simp; done) | exact Below.size (by assumption) | (simp; omega)) _ | refine Below.alloc ?_ (by first | omega | (simp; done) | exact Below.size (by assumption) | (simp; omega)) _ | refine Below.trans ?_ (Below.mono (by assumption) ?_) | (first | omega | (simp; done) | exact Below.size (by assumption) | (simp; omega)))

theorem gridPixels_walk (z x y px py qx qy : Int) (w : World) (he : Env w) :
    Calls Tryd.prog 5 #[.agg #[.int .i64 z, .int .i64 x, .int .i64 y], .agg #[.int .i64 px, .int .i64 py], .agg #[.int .i64 qx, .int .i64 qy]] w fun e w' => e = .returned (.bool true) ∧ Below w.heap.size w w' := by
  by_cases hv : validB z x y = true
  · have hb := valid_bd hv
    obtain ⟨k, rfl⟩ := Int.eq_ofNat_of_zero_le hb.1
    have hk : k ≤ 17 := by omega
    have hxy : (0 ≤ x ∧ x < 2 ^ k) ∧ (0 ≤ y ∧ y < 2 ^ k) := by
      have hv2 := hv
      simp only [validB, decide_eq_true_eq, Int.toNat_natCast] at hv2
      omega
    obtain ⟨hx, hy⟩ := hxy
    by_cases hp : nearB px py = true
    · by_cases hq : nearB qx qy = true
      · have hs := side_bd k hk
        have h2 := side_two k hk
        have mx := mul_side k hk x hx.1 hx.2
        have my := mul_side k hk y hy.1 hy.2
        have hnp := hp
        have hnq := hq
        simp only [nearB, decide_eq_true_eq] at hnp hnq
        have HP := fun w => pixel_ok x y px py k hk hx hy hp w
        have HQ := fun w => pixel_ok x y qx qy k hk hx hy hq w
        rw [← h2] at HP HQ
        refine pixels_core x y px py qx qy _ _ _ _ _ _ _ _ k (fun w => box_ok x y k hk hx hy w) HP HQ ?_ ?_ ?_ ?_ ?_ ⟨hb.2.2.1, hb.2.2.2.1⟩ ⟨hb.2.2.2.2.1, hb.2.2.2.2.2⟩ ?_ w he
        · simp only [hasB]
          rw [decide_eq_decide]
          have p1 := pix1 (px - x * side k) (side k) (by omega)
          have p2 := pix1 (py - y * side k) (side k) (by omega)
          constructor
          · intro h
            have q1 := p1.2 (by omega)
            have q2 := p2.2 (by omega)
            exact ⟨q1.1, q1.2, q2.1, q2.2⟩
          · intro h
            have q1 := p1.1 ⟨h.1, h.2.1⟩
            have q2 := p2.1 ⟨h.2.2.1, h.2.2.2⟩
            omega
        · intro h; exact pix_mono _ _ _ (by omega) (by omega)
        · intro h; exact pix_mono _ _ _ (by omega) (by omega)
        · exact pix_bd _ _ 805306368 (by omega) (by omega) (by omega) (by omega)
        · exact pix_bd _ _ 805306368 (by omega) (by omega) (by omega) (by omega)
        · rcases Nat.eq_zero_or_pos k with hk0 | hk0
          · refine Or.inl ⟨hk0, ?_⟩
            intro w
            subst hk0
            exact up_none _ _ hv w
          · obtain ⟨j, rfl⟩ : ∃ j, k = j + 1 := ⟨k - 1, by omega⟩
            have e1 : (((j + 1 : Nat) : Int) - 1) = ((j : Nat) : Int) := by omega
            have hj := pow_bd j (by omega)
            have hp2 : (2 : Int) ^ (j + 1) = 2 ^ j * 2 := Int.pow_succ 2 j
            refine Or.inr ⟨fun w => up_ok _ x y hv (by omega) (by omega) (by omega) (by omega) w, ?_⟩
            intro w
            have h := pixel_ok (x / 2) (y / 2) px py j (by omega) (by omega) (by omega) hp w
            have hsj := side_half j hk
            have hsp : 0 < side (j + 1) := by omega
            rw [← side_two j (by omega), hsj, pix_up _ _ _ hsp, pix_up _ _ _ hsp] at h
            rw [e1]
            exact h
      · exact pixels_far2 x y px py qx qy k hk hx hy hp (by simpa using hq) w he
    · exact pixels_far x y px py qx qy k hk hx hy (by simpa using hp) w he
  · exact pixels_bad z x y px py qx qy (by simpa using hv) w he
end Go.Proofs.YtnilofeakdibhaaDoor
