/- Plain facts about the tiles of a cover, by number. -/
import Derived.Test.YtnilofeakdibhaaDoorGridCov
import Derived.Test.YtnilofeakdibhaaDoorGridKidsLaw
namespace Go.Proofs.YtnilofeakdibhaaDoor
open Go.RowKit

/-- Is one of the first j tiles of a cover the tile at x and y? -/
def covF (fx fy : Int) (nx : Nat) (tx ty : Int) : Nat → Bool
  | 0 => false
  | j + 1 => covF fx fy nx tx ty j || (decide (fx + (j % nx : Nat) = tx) && decide (fy + (j / nx : Nat) = ty))
theorem covF_iff (fx fy : Int) (nx : Nat) (tx ty : Int) (n : Nat) : covF fx fy nx tx ty n = true ↔ ∃ j, j < n ∧ fx + (j % nx : Nat) = tx ∧ fy + (j / nx : Nat) = ty := by
  induction n with
  | zero => simp [covF]
  | succ n ih =>
    simp only [covF, Bool.or_eq_true, ih, Bool.and_eq_true, decide_eq_true_eq]
    constructor
    · rintro (⟨j, h, h1⟩ | h)
      · exact ⟨j, by omega, h1⟩
      · exact ⟨n, by omega, h⟩
    · rintro ⟨j, h, h1⟩
      rcases Nat.lt_or_ge j n with h2 | h2
      · exact .inl ⟨j, h2, h1⟩
      · obtain rfl : j = n := by omega
        exact .inr h1
theorem covF_all (fx fy : Int) (nx ny : Nat) (hn : 0 < nx) (tx ty : Int) : covF fx fy nx tx ty (ny * nx) = decide (fx ≤ tx ∧ tx < fx + nx ∧ fy ≤ ty ∧ ty < fy + ny) := by
  rw [Bool.eq_iff_iff, covF_iff, decide_eq_true_eq]
  constructor
  · rintro ⟨j, hj, rfl, rfl⟩
    have h1 : j % nx < nx := Nat.mod_lt _ hn
    have h2 : j / nx < ny := Nat.div_lt_of_lt_mul (by rw [Nat.mul_comm]; exact hj)
    generalize j % nx = p at *
    generalize j / nx = q at *
    omega
  · rintro ⟨h1, h2, h3, h4⟩
    obtain ⟨p, rfl⟩ : ∃ p : Nat, tx = fx + p := ⟨(tx - fx).toNat, by omega⟩
    obtain ⟨q, rfl⟩ : ∃ q : Nat, ty = fy + q := ⟨(ty - fy).toNat, by omega⟩
    have hp : p < nx := by omega
    have hq : q + 1 ≤ ny := by omega
    refine ⟨q * nx + p, ?_, ?_, ?_⟩
    · have := Nat.mul_le_mul_right nx hq
      rw [Nat.succ_mul] at this
      omega
    · rw [Nat.mul_comm, Nat.mul_add_mod, Nat.mod_eq_of_lt hp]
    · rw [Nat.mul_comm, Nat.mul_add_div hn, Nat.div_eq_of_lt hp, Nat.add_zero]
theorem tile_step (nx j : Nat) (hn : 0 < nx) : j / nx < (j + 1) / nx ∨ (j / nx = (j + 1) / nx ∧ j % nx < (j + 1) % nx) := by
  have h1 := Nat.div_add_mod j nx
  have h2 := Nat.mod_lt j hn
  by_cases h : j % nx + 1 < nx
  · right
    have e : j + 1 = nx * (j / nx) + (j % nx + 1) := by omega
    have hd : (j + 1) / nx = j / nx := by
      rw [e, Nat.mul_add_div hn, Nat.div_eq_of_lt h, Nat.add_zero]
    have hm : (j + 1) % nx = j % nx + 1 := by
      rw [e, Nat.mul_add_mod, Nat.mod_eq_of_lt h]
    omega
  · left
    have e : j + 1 = nx * (j / nx) + nx := by omega
    have hd : (j + 1) / nx = j / nx + 1 := by
      rw [e, Nat.mul_add_div hn, Nat.div_self hn]
    omega

/-- The tiles of a cover, by number. -/
theorem sq_at (z fx fy : Int) (nx ny j : Nat) (hj : j < ny * nx) : (sqL z fx fy nx ny)[j]? = some (z, fx + (j % nx : Nat), fy + (j / nx : Nat)) := by
  induction ny with
  | zero => simp at hj
  | succ m ih =>
    rw [sqL_succ]
    have hl := sqL_len z fx fy nx m
    rcases Nat.lt_or_ge j (m * nx) with h | h
    · rw [List.getElem?_append_left (by rw [hl]; exact h)]
      exact ih h
    · rw [List.getElem?_append_right (by rw [hl]; exact h), hl]
      have e : (m + 1) * nx = m * nx + nx := Nat.succ_mul m nx
      have hn : 0 < nx := by omega
      have hd : j / nx = m := by
        rw [Nat.div_eq_iff hn]; omega
      have hm : j % nx = j - m * nx := by
        have := Nat.div_add_mod j nx
        rw [hd, Nat.mul_comm] at this
        omega
      rw [hd, hm]
      simp only [rowL, List.getElem?_map, List.getElem?_range (show j - m * nx < nx by omega), Option.map_some]
theorem cells_at (l : List (Int × Int × Int)) (j : Nat) (t : Int × Int × Int) (h : l[j]? = some t) :
    (tileCells l)[3 * j]? = some (.int .i64 t.1) ∧ (tileCells l)[3 * j + 1]? = some (.int .i64 t.2.1) ∧ (tileCells l)[3 * j + 2]? = some (.int .i64 t.2.2) := by
  induction l generalizing j with
  | nil => simp at h
  | cons a l ih =>
    cases j with
    | zero => simp at h; subst h; simp [tileCells]
    | succ j =>
      simp only [List.getElem?_cons_succ] at h
      have := ih j h
      simp only [tileCells, List.flatMap_cons] at this ⊢
      rw [show 3 * (j + 1) = 3 * j + 3 by omega, show 3 * j + 3 + 1 = (3 * j + 1) + 3 by omega, show 3 * j + 3 + 2 = (3 * j + 2) + 3 by omega]
      simpa using this
/-- The cells of tile j in a block whose first cells are those of a cover. -/
theorem cov_cells {z fx fy : Int} {nx ny : Nat} {cur : Array Value} (hc : ∀ (j : Nat) (u : Value), (tileCells (sqL z fx fy nx ny))[j]? = some u → cur[j]? = some u) (j : Nat) (hj : j < ny * nx) :
    ∃ X Y : Int, X = fx + (j % nx : Nat) ∧ Y = fy + (j / nx : Nat) ∧ cur[3 * j]? = some (.int .i64 z) ∧ cur[3 * j + 1]? = some (.int .i64 X) ∧ cur[3 * j + 2]? = some (.int .i64 Y) := by
  obtain ⟨h0, h1, h2⟩ := cells_at _ j _ (sq_at z fx fy nx ny j hj)
  exact ⟨_, _, rfl, rfl, hc _ _ h0, hc _ _ h1, hc _ _ h2⟩

/-- The tile is among those of the cover exactly if its box and the box meet. -/
theorem meet_iff (a b c d tx ty : Int) (k nx ny : Nat) (hk : k ≤ 17) (ha : 0 ≤ a) (hb : 0 ≤ b) (hc : c < 1048576) (hd : d < 1048576)
    (hnx : c / side k = a / side k + nx - 1) (hny : d / side k = b / side k + ny - 1) (hn : 0 < nx) :
    (validB k tx ty = true → covF (a / side k) (b / side k) nx tx ty (ny * nx) = decide (tx * side k ≤ c ∧ a ≤ tx * side k + side k - 1 ∧ ty * side k ≤ d ∧ b ≤ ty * side k + side k - 1)) ∧
    (validB k tx ty = false → covF (a / side k) (b / side k) nx tx ty (ny * nx) = false) := by
  have hs := side_bd k hk
  have hp := side_pow k hk
  have h0 : 0 < side k := by omega
  rw [covF_all _ _ _ _ hn]
  have e1 (t u : Int) : t * side k ≤ u ↔ t ≤ u / side k := (Int.le_ediv_iff_mul_le h0).symm
  have e2 (t u : Int) : u ≤ t * side k + side k - 1 ↔ u / side k ≤ t := by
    have : u / side k < t + 1 ↔ u < (t + 1) * side k := Int.ediv_lt_iff_lt_mul h0
    rw [Int.add_mul, Int.one_mul] at this
    omega
  constructor
  · intro _
    rw [decide_eq_decide]
    have a1 := e1 tx c
    have a2 := e2 tx a
    have a3 := e1 ty d
    have a4 := e2 ty b
    omega
  · intro hv
    rw [decide_eq_false_iff_not]
    intro h
    simp only [validB, Int.toNat_natCast, decide_eq_false_iff_not] at hv
    have q1 : 0 ≤ a / side k := Int.ediv_nonneg ha (by omega)
    have q2 : 0 ≤ b / side k := Int.ediv_nonneg hb (by omega)
    have q3 : c / side k < 2 ^ k := by rw [Int.ediv_lt_iff_lt_mul h0, hp]; exact hc
    have q4 : d / side k < 2 ^ k := by rw [Int.ediv_lt_iff_lt_mul h0, hp]; exact hd
    omega
end Go.Proofs.YtnilofeakdibhaaDoor
