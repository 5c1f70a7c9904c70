/- The reference's functions on boxes and labels. -/
import Derived.Test.YtapllmniplgajaaGreatDoorLabL
namespace Go.Proofs.YtapllmniplgajaaGreatDoor
open Go.RowKit Go.Sort

theorem cell_upn {w : World} {a : Addr} {v : Value} {o : Obj} (h : w.cell? a = some v) : (w.alloc o).cell? a = some v := cell_later ((Below.refl _ w).alloc (Nat.le_refl _) o) h

set_option maxHeartbeats 1000000 in
theorem rvalid_any (l : LabD) (w : World) : Calls Tryz.prog 22 #[.agg #[.string l.id, .int .i64 l.x, .int .i64 l.y, .int .i64 l.w, .int .i64 l.h, .int .i64 l.rank]] w fun e w' => e = .returned (.bool (validL l)) ∧ Below w.heap.size w w' := by
  obtain ⟨r, hr⟩ : ∃ r, r = validL l := ⟨_, rfl⟩
  have HR := Lib.hid hr
  rw [← hr]
  clear hr
  go_enter Tryz.func22, Tryz.ntmps22
  go_wp2
  all_goals go_ret
  all_goals (refine ⟨ret_bool ?_, (by repeat' (first | exact Below.refl _ _ | refine Below.drew ?_ | refine Below.drewN' ?_ | refine Below.setCell ?_ (by first | omega | (simp; done) | exact Below.size (by assumption) | (simp; omega)) _ | refine Below.alloc ?_ (by first | omega | (simp; done) | exact Below.size (by assumption) | (simp; omega)) _ | refine Below.trans ?_ (Below.mono (by assumption) ?_) | (first | omega | (simp; done) | exact Below.size (by assumption) | (simp; omega))))⟩; rw [HR.out]; unfold validL; first | exact (decide_eq_false (by omega)).symm | (simp only [decide_eq_decide]; omega) | (rw [decide_eq_decide]; omega))

set_option maxHeartbeats 1000000 in
theorem rinside_any (f b : BoxD) (w : World) : Calls Tryz.prog 24 #[.agg #[.int .i64 f.a, .int .i64 f.b, .int .i64 f.c, .int .i64 f.d], .agg #[.int .i64 b.a, .int .i64 b.b, .int .i64 b.c, .int .i64 b.d]] w fun e w' => e = .returned (.bool (insideB f b)) ∧ Below w.heap.size w w' := by
  obtain ⟨r, hr⟩ : ∃ r, r = insideB f b := ⟨_, rfl⟩
  have HR := Lib.hid hr
  rw [← hr]
  clear hr
  go_enter Tryz.func24, Tryz.ntmps24
  go_wp2
  all_goals go_ret
  all_goals (refine ⟨ret_bool ?_, (by repeat' (first | exact Below.refl _ _ | refine Below.drew ?_ | refine Below.drewN' ?_ | refine Below.setCell ?_ (by first | omega | (simp; done) | exact Below.size (by assumption) | (simp; omega)) _ | refine Below.alloc ?_ (by first | omega | (simp; done) | exact Below.size (by assumption) | (simp; omega)) _ | refine Below.trans ?_ (Below.mono (by assumption) ?_) | (first | omega | (simp; done) | exact Below.size (by assumption) | (simp; omega))))⟩; rw [HR.out]; unfold insideB; first | exact (decide_eq_false (by omega)).symm | (simp only [decide_eq_decide]; omega) | (rw [decide_eq_decide]; omega))

set_option maxHeartbeats 1000000 in
theorem rover_any (f b : BoxD) (w : World) : Calls Tryz.prog 25 #[.agg #[.int .i64 f.a, .int .i64 f.b, .int .i64 f.c, .int .i64 f.d], .agg #[.int .i64 b.a, .int .i64 b.b, .int .i64 b.c, .int .i64 b.d]] w fun e w' => e = .returned (.bool (overB f b)) ∧ Below w.heap.size w w' := by
  obtain ⟨r, hr⟩ : ∃ r, r = overB f b := ⟨_, rfl⟩
  have HR := Lib.hid hr
  rw [← hr]
  clear hr
  go_enter Tryz.func25, Tryz.ntmps25
  go_wp2
  all_goals go_ret
  all_goals (refine ⟨ret_bool ?_, (by repeat' (first | exact Below.refl _ _ | refine Below.drew ?_ | refine Below.drewN' ?_ | refine Below.setCell ?_ (by first | omega | (simp; done) | exact Below.size (by assumption) | (simp; omega)) _ | refine Below.alloc ?_ (by first | omega | (simp; done) | exact Below.size (by assumption) | (simp; omega)) _ | refine Below.trans ?_ (Below.mono (by assumption) ?_) | (first | omega | (simp; done) | exact Below.size (by assumption) | (simp; omega))))⟩; rw [HR.out]; unfold overB; first | exact (decide_eq_false (by omega)).symm | (simp only [decide_eq_decide]; omega) | (rw [decide_eq_decide]; omega))

theorem rbox_any (x y a b : Int) (hx : -1000000000 ≤ x ∧ x ≤ 1000000000) (hy : -1000000000 ≤ y ∧ y ≤ 1000000000) (ha : 0 ≤ a ∧ a ≤ 2000) (hb : 0 ≤ b ∧ b ≤ 2000) (w : World) : Calls Tryz.prog 49 #[.int .i64 x, .int .i64 y, .int .i64 a, .int .i64 b] w fun e w' => e = .returned (.agg #[.int .i64 x, .int .i64 y, .int .i64 (x + a - 1), .int .i64 (y + b - 1)]) ∧ Below w.heap.size w w' := by
  have w1 : IntKind.i64.wrap (x + a) = x + a := by rw [IntKind.wrap_i64]; omega
  have w2 : IntKind.i64.wrap (y + b) = y + b := by rw [IntKind.wrap_i64]; omega
  have w3 : IntKind.i64.wrap (x + a - 1) = x + a - 1 := by rw [IntKind.wrap_i64]; omega
  have w4 : IntKind.i64.wrap (y + b - 1) = y + b - 1 := by rw [IntKind.wrap_i64]; omega
  go_enter Tryz.func49, Tryz.ntmps49
  go_wp2
  refine bodyPost_ret (v := .agg #[.int .i64 x, .int .i64 y, .int .i64 (x + a - 1), .int .i64 (y + b - 1)]) ?_ rfl ⟨rfl, ?_⟩
  · simp [results, Tryz.results49, go_sem]
  · repeat' (first | exact Below.refl _ _ | refine Below.drew ?_ | refine Below.drewN' ?_ | refine Below.setCell ?_ (by first | omega | (simp; done) | exact Below.size (by assumption) | (simp; omega)) _ | refine Below.alloc ?_ (by first | omega | (simp; done) | exact Below.size (by assumption) | (simp; omega)) _ | refine Below.trans ?_ (Below.mono (by assumption) ?_) | (first | omega | (simp; done) | exact Below.size (by assumption) | (simp; omega)))
end Go.Proofs.YtapllmniplgajaaGreatDoor
