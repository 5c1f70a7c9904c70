/- The reference's four places of a label. -/
import Derived.Test.YtapllmniplgajaaGreatDoorRefA
namespace Go.Proofs.YtapllmniplgajaaGreatDoor
open Go.RowKit Go.Sort

theorem rowE_block {α : Type} {enc : α → List Value} {k : Nat} (hk : ∀ x, (enc x).length = k) {w : World} {g cap : Nat} {t : TypeId} {l : List α} {cs : Array Value} (hcs : cs = (l.flatMap enc).toArray) (h : w.heap[g]? = some (.cells cs t)) (n : Nat) (hn : n = l.length) : RowE enc k w (.slice (some ⟨g, 0, none⟩) n cap) l := by
  subst hn hcs
  refine ⟨some ⟨g, 0, none⟩, cap, rfl, fun _ => ⟨g, 0, rfl, fun j x hx i u hu => ?_⟩⟩
  have hi : i < k := by rw [← hk x]; exact (List.getElem?_eq_some_iff.1 hu).1
  have := cell_of_row w _ (j * k + i) _ _ _ h
  rw [Nat.zero_add, this, List.getElem?_toArray, flat_get enc k hk l j i x hx hi, hu]
theorem encB_len (f : BoxD) : (encB f).length = 4 := rfl
def places4 (l : LabD) : List BoxD := [placeB l 0, placeB l 1, placeB l 2, placeB l 3]
def PlacesPost (l : LabD) (w : World) (e : Ending) (w' : World) : Prop := ∃ g cap, e = .returned (.slice (some ⟨g, 0, none⟩) 4 cap) ∧ w.heap.size ≤ g ∧ RowE encB 4 w' (.slice (some ⟨g, 0, none⟩) 4 cap) (places4 l) ∧ Below w.heap.size w w'

set_option maxRecDepth 100000 in
set_option maxHeartbeats 4000000 in
theorem rplaces_any (l : LabD) (hv : validL l = true) (w : World) : Calls Tryz.prog 23 #[.agg #[.string l.id, .int .i64 l.x, .int .i64 l.y, .int .i64 l.w, .int .i64 l.h, .int .i64 l.rank]] w (PlacesPost l w) := by
  obtain ⟨x0, x1, y0, y1, w0, w1, h0, h1⟩ := of_decide_eq_true hv
  obtain ⟨ww, hw2⟩ : ∃ ww, ww = l.w / 2 := ⟨_, rfl⟩
  obtain ⟨hh, hh2⟩ : ∃ hh, hh = l.h / 2 := ⟨_, rfl⟩
  have th : l.h.tdiv 2 = hh := (Int.tdiv_eq_ediv_of_nonneg (by omega)).trans hh2.symm
  have tw : l.w.tdiv 2 = ww := (Int.tdiv_eq_ediv_of_nonneg (by omega)).trans hw2.symm
  have bw : 0 ≤ ww ∧ ww ≤ 1000 := by omega
  have bh : 0 ≤ hh ∧ hh ≤ 1000 := by omega
  have HW := Lib.hid hw2
  have HH := Lib.hid hh2
  have q1 : IntKind.i64.wrap (l.x + 1) = l.x + 1 := by rw [IntKind.wrap_i64]; omega
  have q2 : IntKind.i64.wrap (l.y - hh) = l.y - hh := by rw [IntKind.wrap_i64]; omega
  have q3 : IntKind.i64.wrap (l.x - l.w) = l.x - l.w := by rw [IntKind.wrap_i64]; omega
  have q4 : IntKind.i64.wrap (l.x - ww) = l.x - ww := by rw [IntKind.wrap_i64]; omega
  have q5 : IntKind.i64.wrap (l.y + 1) = l.y + 1 := by rw [IntKind.wrap_i64]; omega
  have q6 : IntKind.i64.wrap (l.y - l.h) = l.y - l.h := by rw [IntKind.wrap_i64]; omega
  have q7 : IntKind.i64.wrap hh = hh := by rw [IntKind.wrap_i64]; omega
  have q8 : IntKind.i64.wrap ww = ww := by rw [IntKind.wrap_i64]; omega
  clear hw2 hh2 hv
  go_enter Tryz.func23, Tryz.ntmps23
  go_wp2_with fail
  have B1 : Below w.heap.size w (w.alloc (.cells #[.string l.id, .int .i64 l.x, .int .i64 l.y, .int .i64 l.w, .int .i64 l.h, .int .i64 l.rank] 47)) := (Below.refl _ w).alloc (Nat.le_refl _) _
  have HO := row_new w (.cells #[.string l.id, .int .i64 l.x, .int .i64 l.y, .int .i64 l.w, .int .i64 l.h, .int .i64 l.rank] 47)
  generalize hw1 : w.alloc (.cells #[.string l.id, .int .i64 l.x, .int .i64 l.y, .int .i64 l.w, .int .i64 l.h, .int .i64 l.rank] 47) = w1
  rw [hw1] at B1 HO
  clear hw1
  obtain ⟨bx, hbx⟩ : ∃ bx, w.heap.size = bx := ⟨_, rfl⟩
  rw [hbx] at HO B1 ⊢
  have HZ := Lib.hid hbx
  clear hbx
  have pz := lt_of_block HO
  have p0 := cell_of_row w1 _ 0 _ _ _ HO
  have p1 := cell_of_row w1 _ 1 _ _ _ HO
  have p2 := cell_of_row w1 _ 2 _ _ _ HO
  have p3 := cell_of_row w1 _ 3 _ _ _ HO
  have p4 := cell_of_row w1 _ 4 _ _ _ HO
  have p5 := cell_of_row w1 _ 5 _ _ _ HO
  simp only [List.getElem?_toArray, List.getElem?_cons_zero, List.getElem?_cons_succ] at p0 p1 p2 p3 p4 p5
  have HO' := Lib.hid HO
  clear HO
  go_wp2_with fail
  go_quiet (fail)
  go_wp2_with fail
  have B3 : Below w1.heap.size w1 (w1.drewN nq) := (Below.refl _ _).drewN'
  generalize w1.drewN nq = w3 at B3 ⊢
  have BW := below_step B1 (by rw [HZ.out]; exact Nat.le_refl _) B3
  have r3 : w3.cell? ⟨bx, 3, none⟩ = some (.int .i64 l.w) := cell_later B3 p3
  have r4 : w3.cell? ⟨bx, 4, none⟩ = some (.int .i64 l.h) := cell_later B3 p4
  have rz : bx < w3.heap.size := Nat.lt_of_lt_of_le pz B3.size
  clear p0 p1 p2 p3 p4 p5 pz HO' B1 B3
  go_region_held3 (fun w' => w'.cell? ⟨bx, 3, none⟩ = some (.int .i64 l.w) ∧ w'.cell? ⟨bx, 4, none⟩ = some (.int .i64 l.h) ∧ Below w3.heap.size w3 w')
    (first
      | exact ⟨r3, r4, (Below.refl _ _).drew⟩
      | (have hq := ‹_ ∧ _ ∧ Below w3.heap.size w3 _›; exact ⟨cell_later hb hq.1, cell_later hb hq.2.1, below_step hq.2.2 (Nat.le_refl _) hb⟩)
      | (have hq := ‹_ ∧ _ ∧ Below w3.heap.size w3 _›; exact ⟨cell_upn hq.1, cell_upn hq.2.1, hq.2.2.alloc hq.2.2.size _⟩)
      | assumption)
    (first | (go_at_call 49; refine (rbox_any _ _ _ _ (by constructor <;> omega) (by constructor <;> omega) (by constructor <;> omega) (by constructor <;> omega) _).mono ?_; rintro e wk ⟨rfl, hb⟩))
  have hq := ‹_ ∧ _ ∧ Below w3.heap.size w3 _›
  have B9 := below_step BW (by rw [HZ.out]; exact Nat.le_refl _) hq.2.2
  clear hq
  rename_i wa hba wb hbb wc hbc hheld
  have HS : w.heap.size ≤ wk.heap.size := by
    have h1 := BW.size
    have h2 := hba.size
    have h3 := hbb.size
    have h4 := hbc.size
    have h5 := hb.size
    simp at h2
    omega
  go_wp2
  go_ret
  refine ⟨wk.heap.size, 4, rfl, HS, rowE_block (l := places4 l) encB_len ?_ (row_new wk _) 4 rfl, ?_⟩
  · rw [HW.out, HH.out]; simp [places4, placeB, corner, encB]
  · rw [HZ.out]; exact B9
end Go.Proofs.YtapllmniplgajaaGreatDoor
