/- Keys of maps: pairs of texts, pairs of numbers, points. -/
import Derived.Test.YtbkomdinchiffaaGreatBorP
import Derived.Test.YtbkomdinchiffaaGreatProg
import Derived.DeepKeys4
import Derived.WideKeyPair
namespace Go.Proofs.YtbkomdinchiffaaGreat
open Go.RowKit Go.Maps Go.ChangeMaps

theorem laidB : laidOutB Tryz.prog = true := by kernel_rfl
theorem typesS : ∃ m, Tryz.prog.types.size = m + 1 := ⟨Tryz.prog.types.size - 1, by kernel_rfl⟩
theorem typesS2 : ∃ m, Tryz.prog.types.size = m + 2 := ⟨Tryz.prog.types.size - 2, by kernel_rfl⟩
theorem types200 : decide (100 < Tryz.prog.types.size) = true := by kernel_rfl
theorem keyT50 : Tryz.prog.keyTypeAt 3 50 = true := by kernel_rfl
theorem keyT92 : Tryz.prog.keyTypeAt 3 92 = true := by kernel_rfl
theorem keyT37 : Tryz.prog.keyTypeAt 3 37 = true := by kernel_rfl
theorem keyK : Keyed Tryz.prog 50 := Keyed.of_law (deep_law_laid laidB (m := 3) (by omega) (Nat.lt_trans (by decide) (of_decide_eq_true types200)) keyT50 (by kernel_rfl))
theorem keyN2 : Keyed Tryz.prog 92 := Keyed.of_law (deep_law_laid laidB (m := 3) (by omega) (Nat.lt_trans (by decide) (of_decide_eq_true types200)) keyT92 (by kernel_rfl))
theorem keyPt : Keyed Tryz.prog 37 := Keyed.of_law (deep_law_laid laidB (m := 3) (by omega) (Nat.lt_trans (by decide) (of_decide_eq_true types200)) keyT37 (by kernel_rfl))
abbrev keyV (k : KeyD) : Value := .agg #[.string k.1, .string k.2]
abbrev intK (k : Int × Int) : Value := .agg #[.int .i64 k.1, .int .i64 k.2]
theorem keyV_inj : ∀ x y : KeyD, keyV x = keyV y → x = y := fun x y h => by
  simp only [keyV, Value.agg.injEq, Array.mk.injEq, List.cons.injEq, Value.string.injEq, and_true] at h
  exact Prod.ext h.1 h.2
theorem intK_inj : ∀ x y : Int × Int, intK x = intK y → x = y := fun x y h => by
  simp only [intK, Value.agg.injEq, Array.mk.injEq, List.cons.injEq, Value.int.injEq, and_true, true_and] at h
  exact Prod.ext h.1 h.2
theorem keyType50 : Tryz.prog.keyType 50 = true := by kernel_rfl
theorem keyType92 : Tryz.prog.keyType 92 = true := by kernel_rfl
theorem keyType37 : Tryz.prog.keyType 37 = true := by kernel_rfl
theorem cells50 : Tryz.prog.cellsOf 50 = 2 := by kernel_rfl
theorem cells92 : Tryz.prog.cellsOf 92 = 2 := by kernel_rfl
theorem cells37 : Tryz.prog.cellsOf 37 = 2 := by kernel_rfl
theorem cells9 : Tryz.prog.cellsOf 9 = 1 := by kernel_rfl
theorem cells3 : Tryz.prog.cellsOf 3 = 1 := by kernel_rfl
theorem keyV_ok {k : KeyD} (h1 : k.1.size ≤ 140737488355328) (h2 : k.2.size ≤ 140737488355328) : ∃ kl, keyOf Tryz.prog 50 (keyV k) = some kl := by
  obtain ⟨m, hm⟩ := typesS2
  have a1 : k.1.size ≤ maxLen := by unfold maxLen; omega
  have a2 : k.2.size ≤ maxLen := by unfold maxLen; omega
  refine ⟨.string (keyBytes [.string k.1.data.toList, .string k.2.data.toList]), ?_⟩
  unfold keyOf
  simp only [Tryz.underlying50]
  rw [if_pos (by simp [keyType50, Value.formed, Tryz.underlying50, cells50]), hm]
  unfold Program.keyLits
  simp only [Tryz.underlying50, Value.cells]
  rw [if_pos (by rw [cells50]; rfl), show List.range 2 = [0, 1] from rfl, List.mapM_cons, List.mapM_cons, List.mapM_nil]
  simp [cells9, Program.keyLits, Tryz.underlying9, a1, a2]
theorem intK_ok {k : Int × Int} (h1 : (Lit.int .i64 k.1).wf = true) (h2 : (Lit.int .i64 k.2).wf = true) : ∃ kl, keyOf Tryz.prog 92 (intK k) = some kl :=
  ⟨_, WideMaps.keyOf_pair ⟨Tryz.underlying92, by kernel_rfl, cells3, cells92⟩ Tryz.underlying3 typesS h1 h2⟩
theorem ptK_ok {k : Int × Int} (h1 : (Lit.int .i64 k.1).wf = true) (h2 : (Lit.int .i64 k.2).wf = true) : ∃ kl, keyOf Tryz.prog 37 (intK k) = some kl := by
  obtain ⟨m, hm⟩ := typesS2
  refine ⟨.string (keyBytes [.int .i64 k.1, .int .i64 k.2]), ?_⟩
  unfold keyOf
  simp only [Tryz.underlying37]
  rw [if_pos (by simp [keyType37, Value.formed, Tryz.underlying37, cells37]), hm]
  unfold Program.keyLits
  simp only [Tryz.underlying37, Value.cells]
  rw [if_pos ⟨by rw [cells37]; rfl, by kernel_rfl⟩]
  simp [cells3, Program.keyLits, Tryz.underlying3, h1, h2]
end Go.Proofs.YtbkomdinchiffaaGreat
