/- GridCovers: the walk. -/
import Derived.Test.YtnilofeakdibhaaDoorGridCovP
namespace Go.Proofs.YtnilofeakdibhaaDoor
open Go.RowKit

theorem box_any (z x y : Int) : ∃ A B C D E : Int, (E == 0) = validB z x y ∧ ∀ w, Calls Tryd.prog 12 #[.agg #[.int .i64 z, .int .i64 x, .int .i64 y]] w fun e w' => e = .returned (.tuple #[.agg #[.int .i64 A, .int .i64 B, .int .i64 C, .int .i64 D], .int .i64 E]) ∧ Below w.heap.size w w' := by
  cases hv : validB z x y
  · exact ⟨0, 0, 0, 0, 1, rfl, box_arg z x y hv⟩
  · have hb : 0 ≤ z ∧ z ≤ 17 := by simp only [validB, decide_eq_true_eq] at hv; omega
    obtain ⟨k, rfl⟩ : ∃ k : Nat, z = k := ⟨z.toNat, by omega⟩
    have hp := valid_pow k hv
    exact ⟨_, _, _, _, 0, rfl, box_ok x y k (by omega) hp.1 hp.2⟩


set_option maxRecDepth 100000 in
set_option maxHeartbeats 1000000 in
theorem covers_arg (a b c d z tz tx ty : Int) (h : covG a b c d z = false) (w : World) (he : Env w) :
    Calls Tryd.prog 6 #[.agg #[.int .i64 a, .int .i64 b, .int .i64 c, .int .i64 d], .int .i64 z, .agg #[.int .i64 tz, .int .i64 tx, .int .i64 ty]] w fun e w' => e = .returned (.bool true) ∧ Below w.heap.size w w' := by
  have HE := Lib.hid he
  have HC := Lib.hid (fun w => cover_arg a b c d z h w)
  obtain ⟨Z1, X1, Y1, E1, e1, h1⟩ := of_any a b z
  obtain ⟨Z2, X2, Y2, E2, e2, h2⟩ := of_any c d z
  have HO1 := Lib.hid h1
  have HO2 := Lib.hid h2
  clear h1 h2 he
  simp only [covG] at h
  rw [← e1, ← e2] at h
  have HK := Lib.hid h
  obtain ⟨XA, XB, XC, XD, XE, -, hx⟩ := box_any z tx ty
  have HX := Lib.hid hx
  clear e1 e2 h hx
  go_enter Tryd.func6, Tryd.ntmps6
  go_wp2_with fail
  refine (head_true _ (HE.out.later (by repeat' (first | exact Below.refl _ _ | refine Below.drew ?_ | refine Below.drewN' ?_ | refine Below.setCell ?_ (by first | omega | (simp; done) | exact Below.size (by assumption) | (simp; omega)) _ | refine Below.alloc ?_ (by first | omega | (simp; done) | exact Below.size (by assumption) | (simp; omega)) _ | refine Below.trans ?_ (Below.mono (by assumption) ?_) | (first | omega | (simp; done) | exact Below.size (by assumption) | (simp; omega)))))).mono ?_; rintro e w1 ⟨rfl, hb1⟩
  have B1 : Below w.heap.size w w1 := below_step (((Below.refl _ _).alloc (Nat.le_refl _) _).alloc (by simp) _) (Nat.le_refl _) hb1
  have S1 := hb1.size; simp at S1
  have GB := Lib.hid (row_later hb1 (row_past (row_new w _)))
  have GT := Lib.hid (row_later hb1 (row_new1 w _ _))
  clear hb1
  have HB := GB.out
  have bz := lt_of_block HB
  have b0 := cell_of_row w1 _ 0 _ _ _ HB
  have b1 := cell_of_row w1 _ 1 _ _ _ HB
  have b2 := cell_of_row w1 _ 2 _ _ _ HB
  have b3 := cell_of_row w1 _ 3 _ _ _ HB
  simp only [List.getElem?_toArray, List.getElem?_cons_zero, List.getElem?_cons_succ] at b0 b1 b2 b3
  have HB' := Lib.hid HB
  clear HB
  clear HB'
  go_wp2_with fail
  refine (HC.out _).mono ?_; rintro e w2 ⟨rfl, hb2⟩
  have B2 := below_step B1 (Nat.le_refl _) hb2
  have S2 := hb2.size
  have GT := Lib.hid (row_later hb2 GT.out)
  have GB := Lib.hid (row_later hb2 GB.out)
  clear hb2 B1 b0 b1 b2 b3 bz
  have HT := GT.out
  have uz := lt_of_block HT
  have u0 := cell_of_row w2 _ 0 _ _ _ HT
  have u1 := cell_of_row w2 _ 1 _ _ _ HT
  have u2 := cell_of_row w2 _ 2 _ _ _ HT
  have uf0 := frozen_of_row w2 _ 0 _ _ HT
  have uf1 := frozen_of_row w2 _ 1 _ _ HT
  have uf2 := frozen_of_row w2 _ 2 _ _ HT
  simp only [List.getElem?_toArray, List.getElem?_cons_zero, List.getElem?_cons_succ] at u0 u1 u2
  have HT' := Lib.hid HT
  clear HT
  clear HT'
  go_wp2_with fail
  have C2 := B2.setCell (p := ⟨w.heap.size + 1, 0, none⟩) (by simp) (.int .i64 z)
  have GB := Lib.hid (row_set_other (a := ⟨w.heap.size + 1, 0, none⟩) (v := .int .i64 z) GB.out (by simp))
  have GT := Lib.hid (show _ = some (Obj.cells #[.int .i64 z, .int .i64 tx, .int .i64 ty] 23 (0, 0)) from row_set (i := 0) (v := .int .i64 z) GT.out)
  clear u0 u1 u2 uz uf0 uf1 uf2
  refine (HX.out _).mono ?_; rintro e w3 ⟨rfl, hb3⟩
  have B3 := below_step C2 (Nat.le_refl _) hb3
  have S3 := hb3.size; simp at S3
  have GT := Lib.hid (row_later hb3 GT.out)
  have GB := Lib.hid (row_later hb3 GB.out)
  clear hb3 C2 B2
  have HB := GB.out
  have bz := lt_of_block HB
  have b0 := cell_of_row w3 _ 0 _ _ _ HB
  have b1 := cell_of_row w3 _ 1 _ _ _ HB
  have b2 := cell_of_row w3 _ 2 _ _ _ HB
  have b3 := cell_of_row w3 _ 3 _ _ _ HB
  simp only [List.getElem?_toArray, List.getElem?_cons_zero, List.getElem?_cons_succ] at b0 b1 b2 b3
  have HB' := Lib.hid HB
  clear HB
  clear HB'
  go_wp2_with fail
  refine (HO1.out _).mono ?_; rintro e w4 ⟨rfl, hb4⟩
  have B4 := below_step (B3.alloc B3.size _) (Nat.le_refl _) hb4
  have S4 := hb4.size; simp at S4
  have GB := Lib.hid (row_later hb4 (row_past GB.out))
  clear hb4 b0 b1 b2 b3 bz
  have HB := GB.out
  have bz := lt_of_block HB
  have b0 := cell_of_row w4 _ 0 _ _ _ HB
  have b1 := cell_of_row w4 _ 1 _ _ _ HB
  have b2 := cell_of_row w4 _ 2 _ _ _ HB
  have b3 := cell_of_row w4 _ 3 _ _ _ HB
  simp only [List.getElem?_toArray, List.getElem?_cons_zero, List.getElem?_cons_succ] at b0 b1 b2 b3
  have HB' := Lib.hid HB
  clear HB
  clear HB'
  go_wp2_with fail
  refine (HO2.out _).mono ?_; rintro e w5 ⟨rfl, hb5⟩
  have B5 := below_step (B4.alloc B4.size _) (Nat.le_refl _) hb5
  have S5 := hb5.size; simp at S5
  have HF := row_later hb5 (row_new w4 _)
  have HB := row_later hb5 (row_past GB.out)
  clear hb5 b0 b1 b2 b3 bz
  have bz := lt_of_block HB
  have b0 := cell_of_row w5 _ 0 _ _ _ HB
  have b1 := cell_of_row w5 _ 1 _ _ _ HB
  have b2 := cell_of_row w5 _ 2 _ _ _ HB
  have b3 := cell_of_row w5 _ 3 _ _ _ HB
  simp only [List.getElem?_toArray, List.getElem?_cons_zero, List.getElem?_cons_succ] at b0 b1 b2 b3
  have HB' := Lib.hid HB
  clear HB
  have fz := lt_of_block HF
  have f0 := cell_of_row w5 _ 0 _ _ _ HF
  have f1 := cell_of_row w5 _ 1 _ _ _ HF
  have f2 := cell_of_row w5 _ 2 _ _ _ HF
  simp only [List.getElem?_toArray, List.getElem?_cons_zero, List.getElem?_cons_succ] at f0 f1 f2
  have HF' := Lib.hid HF
  clear HF
  have h := HK.out
  by_cases k1 : E1 = 0
  case neg =>
    clear h
    have k1' : (E1 == 0) = false := by rw [beq_eq_false_iff_ne]; exact k1
    go_wp2
    go_ret
    refine ⟨rfl, ?_⟩
    repeat' (first | exact Below.refl _ _ | refine Below.drew ?_ | refine Below.drewN' ?_ | refine Below.setCell ?_ (by first | omega | (simp; done) | exact Below.size (by assumption) | (simp; omega)) _ | refine Below.alloc ?_ (by first | omega | (simp; done) | exact Below.size (by assumption) | (simp; omega)) _ | refine Below.trans ?_ (Below.mono (by assumption) ?_) | (first | omega | (simp; done) | exact Below.size (by assumption) | (simp; omega)))
  subst k1
  by_cases k2 : E2 = 0
  case neg =>
    clear h
    have k2' : (E2 == 0) = false := by rw [beq_eq_false_iff_ne]; exact k2
    go_wp2
    go_ret
    refine ⟨rfl, ?_⟩
    repeat' (first | exact Below.refl _ _ | refine Below.drew ?_ | refine Below.drewN' ?_ | refine Below.setCell ?_ (by first | omega | (simp; done) | exact Below.size (by assumption) | (simp; omega)) _ | refine Below.alloc ?_ (by first | omega | (simp; done) | exact Below.size (by assumption) | (simp; omega)) _ | refine Below.trans ?_ (Below.mono (by assumption) ?_) | (first | omega | (simp; done) | exact Below.size (by assumption) | (simp; omega)))
  subst k2
  by_cases k3 : a ≤ c
  · have k4 : d < b := by
      rcases Int.lt_or_le d b with k4 | k4
      · exact k4
      · simp [k3, k4] at h
    clear h
    go_wp2
    go_ret
    refine ⟨rfl, ?_⟩
    repeat' (first | exact Below.refl _ _ | refine Below.drew ?_ | refine Below.drewN' ?_ | refine Below.setCell ?_ (by first | omega | (simp; done) | exact Below.size (by assumption) | (simp; omega)) _ | refine Below.alloc ?_ (by first | omega | (simp; done) | exact Below.size (by assumption) | (simp; omega)) _ | refine Below.trans ?_ (Below.mono (by assumption) ?_) | (first | omega | (simp; done) | exact Below.size (by assumption) | (simp; omega)))
  · have k3' : c < a := by omega
    clear h
    go_wp2
    go_ret
    refine ⟨rfl, ?_⟩
    repeat' (first | exact Below.refl _ _ | refine Below.drew ?_ | refine Below.drewN' ?_ | refine Below.setCell ?_ (by first | omega | (simp; done) | exact Below.size (by assumption) | (simp; omega)) _ | refine Below.alloc ?_ (by first | omega | (simp; done) | exact Below.size (by assumption) | (simp; omega)) _ | refine Below.trans ?_ (Below.mono (by assumption) ?_) | (first | omega | (simp; done) | exact Below.size (by assumption) | (simp; omega)))

set_option maxRecDepth 100000 in
set_option maxHeartbeats 1000000 in
theorem covers_limit (a b c d fx fy sx sy tz tx ty : Int) (k : Nat)
    (h1 : ∀ w, Calls Tryd.prog 13 #[.agg #[.int .i64 a, .int .i64 b], .int .i64 k] w fun e w' => e = .returned (.tuple #[.agg #[.int .i64 k, .int .i64 fx, .int .i64 fy], .int .i64 0]) ∧ Below w.heap.size w w')
    (h2 : ∀ w, Calls Tryd.prog 13 #[.agg #[.int .i64 c, .int .i64 d], .int .i64 k] w fun e w' => e = .returned (.tuple #[.agg #[.int .i64 k, .int .i64 sx, .int .i64 sy], .int .i64 0]) ∧ Below w.heap.size w w')
    (hac : a ≤ c) (hbd : b ≤ d) (hx : 0 ≤ fx ∧ fx ≤ sx ∧ sx < 131072) (hy : 0 ≤ fy ∧ fy ≤ sy ∧ sy < 131072)
    (hbig : 4096 < (sx - fx + 1) * (sy - fy + 1)) (w : World) (he : Env w) :
    Calls Tryd.prog 6 #[.agg #[.int .i64 a, .int .i64 b, .int .i64 c, .int .i64 d], .int .i64 k, .agg #[.int .i64 tz, .int .i64 tx, .int .i64 ty]] w fun e w' => e = .returned (.bool true) ∧ Below w.heap.size w w' := by
  have HE := Lib.hid he
  have HC := Lib.hid (fun w => cover_limit a b c d fx fy sx sy k h1 h2 hac hbd hx hy hbig w)
  have HO1 := Lib.hid h1
  have HO2 := Lib.hid h2
  obtain ⟨XA, XB, XC, XD, XE, -, hbx⟩ := box_any k tx ty
  have HX := Lib.hid hbx
  have M := mul_bd (sx - fx + 1) (sy - fy + 1) (by omega) (by omega) (by omega) (by omega)
  have WM : IntKind.i64.wrap ((sx - fx + 1) * (sy - fy + 1)) = (sx - fx + 1) * (sy - fy + 1) := IntWalk.i64_in _ (by omega)
  clear h1 h2 he hbx
  go_enter Tryd.func6, Tryd.ntmps6
  go_wp2_with fail
  refine (head_true _ (HE.out.later (by repeat' (first | exact Below.refl _ _ | refine Below.drew ?_ | refine Below.drewN' ?_ | refine Below.setCell ?_ (by first | omega | (simp; done) | exact Below.size (by assumption) | (simp; omega)) _ | refine Below.alloc ?_ (by first | omega | (simp; done) | exact Below.size (by assumption) | (simp; omega)) _ | refine Below.trans ?_ (Below.mono (by assumption) ?_) | (first | omega | (simp; done) | exact Below.size (by assumption) | (simp; omega)))))).mono ?_; rintro e w1 ⟨rfl, hb1⟩
  have B1 : Below w.heap.size w w1 := below_step (((Below.refl _ _).alloc (Nat.le_refl _) _).alloc (by simp) _) (Nat.le_refl _) hb1
  have S1 := hb1.size; simp at S1
  have GB := Lib.hid (row_later hb1 (row_past (row_new w _)))
  have GT := Lib.hid (row_later hb1 (row_new1 w _ _))
  clear hb1
  have HB := GB.out
  have bz := lt_of_block HB
  have b0 := cell_of_row w1 _ 0 _ _ _ HB
  have b1 := cell_of_row w1 _ 1 _ _ _ HB
  have b2 := cell_of_row w1 _ 2 _ _ _ HB
  have b3 := cell_of_row w1 _ 3 _ _ _ HB
  simp only [List.getElem?_toArray, List.getElem?_cons_zero, List.getElem?_cons_succ] at b0 b1 b2 b3
  have HB' := Lib.hid HB
  clear HB
  clear HB'
  go_wp2_with fail
  refine (HC.out _).mono ?_; rintro e w2 ⟨rfl, hb2⟩
  have B2 := below_step B1 (Nat.le_refl _) hb2
  have S2 := hb2.size
  have GT := Lib.hid (row_later hb2 GT.out)
  have GB := Lib.hid (row_later hb2 GB.out)
  clear hb2 B1 b0 b1 b2 b3 bz
  have HT := GT.out
  have uz := lt_of_block HT
  have u0 := cell_of_row w2 _ 0 _ _ _ HT
  have u1 := cell_of_row w2 _ 1 _ _ _ HT
  have u2 := cell_of_row w2 _ 2 _ _ _ HT
  have uf0 := frozen_of_row w2 _ 0 _ _ HT
  have uf1 := frozen_of_row w2 _ 1 _ _ HT
  have uf2 := frozen_of_row w2 _ 2 _ _ HT
  simp only [List.getElem?_toArray, List.getElem?_cons_zero, List.getElem?_cons_succ] at u0 u1 u2
  have HT' := Lib.hid HT
  clear HT
  clear HT'
  go_wp2_with fail
  have C2 := B2.setCell (p := ⟨w.heap.size + 1, 0, none⟩) (by simp) (.int .i64 k)
  have GB := Lib.hid (row_set_other (a := ⟨w.heap.size + 1, 0, none⟩) (v := .int .i64 k) GB.out (by simp))
  have GT := Lib.hid (show _ = some (Obj.cells #[.int .i64 k, .int .i64 tx, .int .i64 ty] 23 (0, 0)) from row_set (i := 0) (v := .int .i64 k) GT.out)
  clear u0 u1 u2 uz uf0 uf1 uf2
  refine (HX.out _).mono ?_; rintro e w3 ⟨rfl, hb3⟩
  have B3 := below_step C2 (Nat.le_refl _) hb3
  have S3 := hb3.size; simp at S3
  have GT := Lib.hid (row_later hb3 GT.out)
  have GB := Lib.hid (row_later hb3 GB.out)
  clear hb3 C2 B2
  have HB := GB.out
  have bz := lt_of_block HB
  have b0 := cell_of_row w3 _ 0 _ _ _ HB
  have b1 := cell_of_row w3 _ 1 _ _ _ HB
  have b2 := cell_of_row w3 _ 2 _ _ _ HB
  have b3 := cell_of_row w3 _ 3 _ _ _ HB
  simp only [List.getElem?_toArray, List.getElem?_cons_zero, List.getElem?_cons_succ] at b0 b1 b2 b3
  have HB' := Lib.hid HB
  clear HB
  clear HB'
  go_wp2_with fail
  refine (HO1.out _).mono ?_; rintro e w4 ⟨rfl, hb4⟩
  have B4 := below_step (B3.alloc B3.size _) (Nat.le_refl _) hb4
  have S4 := hb4.size; simp at S4
  have GB := Lib.hid (row_later hb4 (row_past GB.out))
  clear hb4 b0 b1 b2 b3 bz
  have HB := GB.out
  have bz := lt_of_block HB
  have b0 := cell_of_row w4 _ 0 _ _ _ HB
  have b1 := cell_of_row w4 _ 1 _ _ _ HB
  have b2 := cell_of_row w4 _ 2 _ _ _ HB
  have b3 := cell_of_row w4 _ 3 _ _ _ HB
  simp only [List.getElem?_toArray, List.getElem?_cons_zero, List.getElem?_cons_succ] at b0 b1 b2 b3
  have HB' := Lib.hid HB
  clear HB
  clear HB'
  go_wp2_with fail
  refine (HO2.out _).mono ?_; rintro e w5 ⟨rfl, hb5⟩
  have B5 := below_step (B4.alloc B4.size _) (Nat.le_refl _) hb5
  have S5 := hb5.size; simp at S5
  have HF := row_later hb5 (row_new w4 _)
  have HB := row_later hb5 (row_past GB.out)
  clear hb5 b0 b1 b2 b3 bz
  have bz := lt_of_block HB
  have b0 := cell_of_row w5 _ 0 _ _ _ HB
  have b1 := cell_of_row w5 _ 1 _ _ _ HB
  have b2 := cell_of_row w5 _ 2 _ _ _ HB
  have b3 := cell_of_row w5 _ 3 _ _ _ HB
  simp only [List.getElem?_toArray, List.getElem?_cons_zero, List.getElem?_cons_succ] at b0 b1 b2 b3
  have HB' := Lib.hid HB
  clear HB
  have fz := lt_of_block HF
  have f0 := cell_of_row w5 _ 0 _ _ _ HF
  have f1 := cell_of_row w5 _ 1 _ _ _ HF
  have f2 := cell_of_row w5 _ 2 _ _ _ HF
  simp only [List.getElem?_toArray, List.getElem?_cons_zero, List.getElem?_cons_succ] at f0 f1 f2
  have HF' := Lib.hid HF
  clear HF
  go_wp2
  go_ret
  refine ⟨rfl, ?_⟩
  repeat' (first | exact Below.refl _ _ | refine Below.drew ?_ | refine Below.drewN' ?_ | refine Below.setCell ?_ (by first | omega | (simp; done) | exact Below.size (by assumption) | (simp; omega)) _ | refine Below.alloc ?_ (by first | omega | (simp; done) | exact Below.size (by assumption) | (simp; omega)) _ | refine Below.trans ?_ (Below.mono (by assumption) ?_) | (first | omega | (simp; done) | exact Below.size (by assumption) | (simp; omega)))

end Go.Proofs.YtnilofeakdibhaaDoor
