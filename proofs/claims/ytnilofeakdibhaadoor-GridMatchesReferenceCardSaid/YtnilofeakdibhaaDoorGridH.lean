/- Parse on the text of a valid tile, and on a text of no valid tile. -/
import Derived.Test.YtnilofeakdibhaaDoorGridG
import Derived.Test.YtnilofeakdibhaaDoorGridP
namespace Go.Proofs.YtnilofeakdibhaaDoor
open Go.RowKit

theorem map_data_inj : ∀ {a b : List ByteArray}, a.map (·.data.toList) = b.map (·.data.toList) → a = b
  | [], [], _ => rfl
  | [], _ :: _, h => by simp at h
  | _ :: _, [], h => by simp at h
  | x :: a, y :: b, h => by
    simp only [List.map_cons, List.cons.injEq] at h
    rw [ByteArray.ext (Array.toList_inj.mp h.1), map_data_inj h.2]
theorem pieces_text (a b c : Nat) : piecesB (textB a b c) = [itoaB a, itoaB b, itoaB c] := by
  apply map_data_inj
  have ht : (textB a b c).data.toList = Lib.decDigits a ++ 47 :: (Lib.decDigits b ++ 47 :: Lib.decDigits c) := by
    simp [textB, itoaB, slashB, Lib.itoa_nonneg]
  have hs : slashB.data.toList = [47] := rfl
  rw [piecesB, Lib.splitB_data, Lib.countB, hs, ht, GridP.split3 47 _ _ _ (GridP.slash_not _) (GridP.slash_not _) (GridP.slash_not _)]
  simp [itoaB, Lib.itoa_nonneg]
theorem num_itoa (n : Nat) (h : n < 9223372036854775808) : numOf (itoaB n) = n := by
  have : (itoaB n).data.toList = Lib.decDigits n := by simp [itoaB, Lib.itoa_nonneg]
  rw [numOf, this, GridP.atoi_digits n h]
theorem valid_bd {z x y : Int} (hv : validB z x y = true) : 0 ≤ z ∧ z ≤ 17 ∧ 0 ≤ x ∧ x < 131072 ∧ 0 ≤ y ∧ y < 131072 := by
  simp only [validB, decide_eq_true_eq] at hv
  have := pow_bd z.toNat (by omega)
  omega
theorem nums_text (z x y : Int) (hv : validB z x y = true) : numAt (piecesB (textB z x y)) 0 = z ∧ numAt (piecesB (textB z x y)) 1 = x ∧ numAt (piecesB (textB z x y)) 2 = y := by
  have hb := valid_bd hv
  obtain ⟨a, rfl⟩ := Int.eq_ofNat_of_zero_le hb.1
  obtain ⟨b, rfl⟩ := Int.eq_ofNat_of_zero_le hb.2.2.1
  obtain ⟨c, rfl⟩ := Int.eq_ofNat_of_zero_le hb.2.2.2.2.1
  rw [pieces_text]
  refine ⟨?_, ?_, ?_⟩
  · simp only [numAt]; rw [dif_pos (by simp)]; exact num_itoa a (by omega)
  · simp only [numAt]; rw [dif_pos (by simp)]; exact num_itoa b (by omega)
  · simp only [numAt]; rw [dif_pos (by simp)]; exact num_itoa c (by omega)
theorem text_size (z x y : Int) (hv : validB z x y = true) : (textB z x y).size ≤ 65 := by
  have hb := valid_bd hv
  have h1 := itoaB_size z (by omega) (by omega)
  have h2 := itoaB_size x (by omega) (by omega)
  have h3 := itoaB_size y (by omega) (by omega)
  simp only [textB, ByteArray.size_append, slashB_size]
  omega

/-- Parse returns the tile of its text. -/
theorem parse_ok (z x y : Int) (hv : validB z x y = true) (w : World) (he : Env w) :
    Calls Tryd.prog 11 #[.string (textB z x y)] w fun e w' => e = .returned (.tuple #[.agg #[.int .i64 z, .int .i64 x, .int .i64 y], .int .i64 0]) ∧ Below w.heap.size w w' := by
  refine (parse_any _ (by have := text_size z x y hv; omega) w he).mono ?_
  rintro e w' ⟨rfl, hb⟩
  obtain ⟨h0, h1, h2⟩ := nums_text z x y hv
  rw [h0, h1, h2]
  rw [if_pos ⟨hv, rfl⟩, if_pos ⟨hv, rfl⟩]
  exact ⟨rfl, hb⟩
/-- A text of no valid tile is refused. -/
theorem parse_bad (s : ByteArray) (hs : s.size ≤ 1000000) (hn : ∀ z x y, validB z x y = true → textB z x y ≠ s) (w : World) (he : Env w) :
    Calls Tryd.prog 11 #[.string s] w fun e w' => e = .returned (.tuple #[.agg #[.int .i64 0, .int .i64 0, .int .i64 0], .int .i64 5]) ∧ Below w.heap.size w w' := by
  refine (parse_any _ hs w he).mono ?_
  rintro e w' ⟨rfl, hb⟩
  rw [if_neg (fun h => hn _ _ _ h.1 h.2), if_neg (fun h => hn _ _ _ h.1 h.2)]
  exact ⟨rfl, hb⟩
theorem text_inj {z x y z' x' y' : Int} (hv : validB z x y = true) (hv' : validB z' x' y' = true) (h : textB z x y = textB z' x' y') : z = z' ∧ x = x' ∧ y = y' := by
  have h1 := nums_text z x y hv
  have h2 := nums_text z' x' y' hv'
  rw [h] at h1
  exact ⟨h1.1.symm.trans h2.1, h1.2.1.symm.trans h2.2.1, h1.2.2.symm.trans h2.2.2⟩
end Go.Proofs.YtnilofeakdibhaaDoor
