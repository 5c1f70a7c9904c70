/- Placing labels: the valid ones, the four places, what lies inside, what overlaps. -/
import Derived.Test.YtapllmniplgajaaGreatDoorLabG
namespace Go.Proofs.YtapllmniplgajaaGreatDoor
open Go.Shelf Go.RowKit Go.Lib

/-- A box of pixels. -/
structure BoxD where
  a : Int
  b : Int
  c : Int
  d : Int
  deriving DecidableEq
def encB (f : BoxD) : List Value := [.int .i64 f.a, .int .i64 f.b, .int .i64 f.c, .int .i64 f.d]
/-- A placed label. -/
structure PlaD where
  id : ByteArray
  box : BoxD
  deriving DecidableEq
def encP (p : PlaD) : List Value := [.string p.id, .int .i64 p.box.a, .int .i64 p.box.b, .int .i64 p.box.c, .int .i64 p.box.d]
theorem encP_len (p : PlaD) : (encP p).length = 5 := rfl
theorem encP_one (p : PlaD) : ∀ v ∈ encP p, v.oneCell' = true := by
  intro v hv
  simp only [encP, List.mem_cons, List.not_mem_nil, or_false] at hv
  rcases hv with rfl | rfl | rfl | rfl | rfl <;> rfl

def validL (l : LabD) : Bool := decide (-67108864 ≤ l.x ∧ l.x ≤ 67108864 ∧ -67108864 ≤ l.y ∧ l.y ≤ 67108864 ∧ 1 ≤ l.w ∧ l.w ≤ 2000 ∧ 1 ≤ l.h ∧ l.h ≤ 2000)
/-- The least corner of a place of a label. -/
def corner (l : LabD) : Nat → Int × Int
  | 0 => (l.x + 1, l.y - l.h / 2)
  | 1 => (l.x - l.w, l.y - l.h / 2)
  | 2 => (l.x - l.w / 2, l.y + 1)
  | _ => (l.x - l.w / 2, l.y - l.h)
/-- A place of a label. -/
def placeB (l : LabD) (i : Nat) : BoxD := ⟨(corner l i).1, (corner l i).2, (corner l i).1 + l.w - 1, (corner l i).2 + l.h - 1⟩
def insideB (f b : BoxD) : Bool := decide (b.a ≤ f.a ∧ b.b ≤ f.b ∧ f.c ≤ b.c ∧ f.d ≤ b.d)
def overB (f g : BoxD) : Bool := decide (f.a ≤ g.c ∧ g.a ≤ f.c ∧ f.b ≤ g.d ∧ g.b ≤ f.d)


set_option maxHeartbeats 1000000 in
theorem valid_any (l : LabD) (w : World) : Calls Tryz.prog 37 #[.agg #[.string l.id, .int .i64 l.x, .int .i64 l.y, .int .i64 l.w, .int .i64 l.h, .int .i64 l.rank]] w fun e w' => e = .returned (.bool (validL l)) ∧ Below w.heap.size w w' := by
  obtain ⟨r, hr⟩ : ∃ r, r = validL l := ⟨_, rfl⟩
  have HR := Lib.hid hr
  rw [← hr]
  clear hr
  go_enter Tryz.func37, Tryz.ntmps37
  go_wp2
  all_goals go_ret
  all_goals (refine ⟨ret_bool ?_, (by repeat' (first | exact Below.refl _ _ | refine Below.drew ?_ | refine Below.drewN' ?_ | refine Below.setCell ?_ (by first | omega | (simp; done) | exact Below.size (by assumption) | (simp; omega)) _ | refine Below.alloc ?_ (by first | omega | (simp; done) | exact Below.size (by assumption) | (simp; omega)) _ | refine Below.trans ?_ (Below.mono (by assumption) ?_) | (first | omega | (simp; done) | exact Below.size (by assumption) | (simp; omega))))⟩; rw [HR.out]; unfold validL; first | exact (decide_eq_false (by omega)).symm | (rw [decide_eq_decide]; omega))

/-- The functions of the four places. -/
def cornerF (i : Nat) : Value := .func (.func (61 + i)) #[] #[]
theorem places_any (w : World) : Calls Tryz.prog 38 #[] w fun e w' => e = .returned (.agg #[cornerF 0, cornerF 1, cornerF 2, cornerF 3]) ∧ Below w.heap.size w w' := by
  go_enter Tryz.func38, Tryz.ntmps38
  have hsz : (Tryz.prog.info? 71).map (·.size) = some (#[cornerF 0, cornerF 1, cornerF 2, cornerF 3] : Array Value).size := by kernel_rfl
  go_wp2_with (refine wpList_store_row rfl 71 (.tmp 0) (.tmp 1) rfl w.heap.size #[cornerF 0, cornerF 1, cornerF 2, cornerF 3] rfl rfl 71 #[.nilFunc, .nilFunc, .nilFunc, .nilFunc] (row_new w _) hsz rfl (by simp [cornerF, Value.oneCell']) ?_)
  refine bodyPost_ret (v := .agg #[cornerF 0, cornerF 1, cornerF 2, cornerF 3]) ?_ rfl ⟨rfl, ?_⟩
  · exact results_cell_row (p := 0) rfl _ _ w.heap.size 71 #[cornerF 0, cornerF 1, cornerF 2, cornerF 3] (0, 0) _ rfl (setRow_heap _ _ #[.nilFunc, .nilFunc, .nilFunc, .nilFunc] _ _ _ (row_new w _)) Tryz.underlying71 rfl hsz
  · exact below_setRow' ((Below.refl _ _).alloc (Nat.le_refl _) _) (Nat.le_refl _) _

set_option maxHeartbeats 1000000 in
theorem corner0_any (l : LabD) (hv : validL l = true) (w : World) : Calls Tryz.prog 61 #[.agg #[.string l.id, .int .i64 l.x, .int .i64 l.y, .int .i64 l.w, .int .i64 l.h, .int .i64 l.rank]] w fun e w' => e = .returned (.agg #[.int .i64 (corner l 0).1, .int .i64 (corner l 0).2]) ∧ Below w.heap.size w w' := by
  have hv' := of_decide_eq_true hv
  obtain ⟨x0, x1, y0, y1, w0, w1, h0, h1⟩ := hv'
  have th : l.h.tdiv 2 = l.h / 2 := Int.tdiv_eq_ediv_of_nonneg (by omega)
  have tw : l.w.tdiv 2 = l.w / 2 := Int.tdiv_eq_ediv_of_nonneg (by omega)
  go_enter Tryz.func61, Tryz.ntmps61
  go_wp2
  refine bodyPost_ret (v := .agg #[.int .i64 (corner l 0).1, .int .i64 (corner l 0).2]) ?_ rfl ⟨rfl, ?_⟩
  · simp [results, Tryz.results61, go_sem, corner]
  · repeat' (first | exact Below.refl _ _ | refine Below.drew ?_ | refine Below.drewN' ?_ | refine Below.setCell ?_ (by first | omega | (simp; done) | exact Below.size (by assumption) | (simp; omega)) _ | refine Below.alloc ?_ (by first | omega | (simp; done) | exact Below.size (by assumption) | (simp; omega)) _ | refine Below.trans ?_ (Below.mono (by assumption) ?_) | (first | omega | (simp; done) | exact Below.size (by assumption) | (simp; omega)))

set_option maxHeartbeats 1000000 in
theorem corner1_any (l : LabD) (hv : validL l = true) (w : World) : Calls Tryz.prog 62 #[.agg #[.string l.id, .int .i64 l.x, .int .i64 l.y, .int .i64 l.w, .int .i64 l.h, .int .i64 l.rank]] w fun e w' => e = .returned (.agg #[.int .i64 (corner l 1).1, .int .i64 (corner l 1).2]) ∧ Below w.heap.size w w' := by
  have hv' := of_decide_eq_true hv
  obtain ⟨x0, x1, y0, y1, w0, w1, h0, h1⟩ := hv'
  have th : l.h.tdiv 2 = l.h / 2 := Int.tdiv_eq_ediv_of_nonneg (by omega)
  have tw : l.w.tdiv 2 = l.w / 2 := Int.tdiv_eq_ediv_of_nonneg (by omega)
  go_enter Tryz.func62, Tryz.ntmps62
  go_wp2
  refine bodyPost_ret (v := .agg #[.int .i64 (corner l 1).1, .int .i64 (corner l 1).2]) ?_ rfl ⟨rfl, ?_⟩
  · simp [results, Tryz.results62, go_sem, corner]
  · repeat' (first | exact Below.refl _ _ | refine Below.drew ?_ | refine Below.drewN' ?_ | refine Below.setCell ?_ (by first | omega | (simp; done) | exact Below.size (by assumption) | (simp; omega)) _ | refine Below.alloc ?_ (by first | omega | (simp; done) | exact Below.size (by assumption) | (simp; omega)) _ | refine Below.trans ?_ (Below.mono (by assumption) ?_) | (first | omega | (simp; done) | exact Below.size (by assumption) | (simp; omega)))

set_option maxHeartbeats 1000000 in
theorem corner2_any (l : LabD) (hv : validL l = true) (w : World) : Calls Tryz.prog 63 #[.agg #[.string l.id, .int .i64 l.x, .int .i64 l.y, .int .i64 l.w, .int .i64 l.h, .int .i64 l.rank]] w fun e w' => e = .returned (.agg #[.int .i64 (corner l 2).1, .int .i64 (corner l 2).2]) ∧ Below w.heap.size w w' := by
  have hv' := of_decide_eq_true hv
  obtain ⟨x0, x1, y0, y1, w0, w1, h0, h1⟩ := hv'
  have th : l.h.tdiv 2 = l.h / 2 := Int.tdiv_eq_ediv_of_nonneg (by omega)
  have tw : l.w.tdiv 2 = l.w / 2 := Int.tdiv_eq_ediv_of_nonneg (by omega)
  go_enter Tryz.func63, Tryz.ntmps63
  go_wp2
  refine bodyPost_ret (v := .agg #[.int .i64 (corner l 2).1, .int .i64 (corner l 2).2]) ?_ rfl ⟨rfl, ?_⟩
  · simp [results, Tryz.results63, go_sem, corner]
  · repeat' (first | exact Below.refl _ _ | refine Below.drew ?_ | refine Below.drewN' ?_ | refine Below.setCell ?_ (by first | omega | (simp; done) | exact Below.size (by assumption) | (simp; omega)) _ | refine Below.alloc ?_ (by first | omega | (simp; done) | exact Below.size (by assumption) | (simp; omega)) _ | refine Below.trans ?_ (Below.mono (by assumption) ?_) | (first | omega | (simp; done) | exact Below.size (by assumption) | (simp; omega)))

set_option maxHeartbeats 1000000 in
theorem corner3_any (l : LabD) (hv : validL l = true) (w : World) : Calls Tryz.prog 64 #[.agg #[.string l.id, .int .i64 l.x, .int .i64 l.y, .int .i64 l.w, .int .i64 l.h, .int .i64 l.rank]] w fun e w' => e = .returned (.agg #[.int .i64 (corner l 3).1, .int .i64 (corner l 3).2]) ∧ Below w.heap.size w w' := by
  have hv' := of_decide_eq_true hv
  obtain ⟨x0, x1, y0, y1, w0, w1, h0, h1⟩ := hv'
  have th : l.h.tdiv 2 = l.h / 2 := Int.tdiv_eq_ediv_of_nonneg (by omega)
  have tw : l.w.tdiv 2 = l.w / 2 := Int.tdiv_eq_ediv_of_nonneg (by omega)
  go_enter Tryz.func64, Tryz.ntmps64
  go_wp2
  refine bodyPost_ret (v := .agg #[.int .i64 (corner l 3).1, .int .i64 (corner l 3).2]) ?_ rfl ⟨rfl, ?_⟩
  · simp [results, Tryz.results64, go_sem, corner]
  · repeat' (first | exact Below.refl _ _ | refine Below.drew ?_ | refine Below.drewN' ?_ | refine Below.setCell ?_ (by first | omega | (simp; done) | exact Below.size (by assumption) | (simp; omega)) _ | refine Below.alloc ?_ (by first | omega | (simp; done) | exact Below.size (by assumption) | (simp; omega)) _ | refine Below.trans ?_ (Below.mono (by assumption) ?_) | (first | omega | (simp; done) | exact Below.size (by assumption) | (simp; omega)))

theorem corner_any (l : LabD) (hv : validL l = true) (i : Nat) (hi : i < 4) (w : World) : Calls Tryz.prog (61 + i) #[.agg #[.string l.id, .int .i64 l.x, .int .i64 l.y, .int .i64 l.w, .int .i64 l.h, .int .i64 l.rank]] w fun e w' => e = .returned (.agg #[.int .i64 (corner l i).1, .int .i64 (corner l i).2]) ∧ Below w.heap.size w w' := by
  match i, hi with
  | 0, _ => exact corner0_any l hv w
  | 1, _ => exact corner1_any l hv w
  | 2, _ => exact corner2_any l hv w
  | 3, _ => exact corner3_any l hv w

set_option maxHeartbeats 1000000 in
theorem meets_any (f : BoxD) (p : PlaD) (w : World) : Calls Tryz.prog 39 #[.agg #[.int .i64 f.a, .int .i64 f.b, .int .i64 f.c, .int .i64 f.d], .agg #[.string p.id, .int .i64 p.box.a, .int .i64 p.box.b, .int .i64 p.box.c, .int .i64 p.box.d]] w fun e w' => e = .returned (.bool (overB f p.box)) ∧ Below w.heap.size w w' := by
  obtain ⟨r, hr⟩ : ∃ r, r = overB f p.box := ⟨_, rfl⟩
  have HR := Lib.hid hr
  rw [← hr]
  clear hr
  go_enter Tryz.func39, Tryz.ntmps39
  go_wp2
  all_goals go_ret
  all_goals (refine ⟨ret_bool ?_, (by repeat' (first | exact Below.refl _ _ | refine Below.drew ?_ | refine Below.drewN' ?_ | refine Below.setCell ?_ (by first | omega | (simp; done) | exact Below.size (by assumption) | (simp; omega)) _ | refine Below.alloc ?_ (by first | omega | (simp; done) | exact Below.size (by assumption) | (simp; omega)) _ | refine Below.trans ?_ (Below.mono (by assumption) ?_) | (first | omega | (simp; done) | exact Below.size (by assumption) | (simp; omega))))⟩; rw [HR.out]; unfold overB; first | exact (decide_eq_false (by omega)).symm | (rw [decide_eq_decide]; omega))

set_option maxHeartbeats 1000000 in
theorem holds_any (f b : BoxD) (w : World) : Calls Tryz.prog 40 #[.agg #[.int .i64 b.a, .int .i64 b.b, .int .i64 b.c, .int .i64 b.d], .agg #[.int .i64 f.a, .int .i64 f.b, .int .i64 f.c, .int .i64 f.d]] w fun e w' => e = .returned (.bool (insideB f b)) ∧ Below w.heap.size w w' := by
  obtain ⟨r, hr⟩ : ∃ r, r = insideB f b := ⟨_, rfl⟩
  have HR := Lib.hid hr
  rw [← hr]
  clear hr
  go_enter Tryz.func40, Tryz.ntmps40
  go_wp2
  all_goals go_ret
  all_goals (refine ⟨ret_bool ?_, (by repeat' (first | exact Below.refl _ _ | refine Below.drew ?_ | refine Below.drewN' ?_ | refine Below.setCell ?_ (by first | omega | (simp; done) | exact Below.size (by assumption) | (simp; omega)) _ | refine Below.alloc ?_ (by first | omega | (simp; done) | exact Below.size (by assumption) | (simp; omega)) _ | refine Below.trans ?_ (Below.mono (by assumption) ?_) | (first | omega | (simp; done) | exact Below.size (by assumption) | (simp; omega))))⟩; rw [HR.out]; unfold insideB; first | exact (decide_eq_false (by omega)).symm | (rw [decide_eq_decide]; omega))
end Go.Proofs.YtapllmniplgajaaGreatDoor
