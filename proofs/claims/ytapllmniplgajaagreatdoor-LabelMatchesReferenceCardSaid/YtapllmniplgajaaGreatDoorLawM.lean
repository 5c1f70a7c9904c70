/- LabelMatchesReference: the walk. -/
import Derived.Test.YtapllmniplgajaaGreatDoorRefD
import Derived.Test.YtapllmniplgajaaGreatDoorLawH
import Derived.Test.YtapllmniplgajaaGreatDoorLawP
namespace Go.Proofs.YtapllmniplgajaaGreatDoor
open Go.RowKit Go.Sort

set_option maxRecDepth 100000 in
set_option maxHeartbeats 4000000 in
theorem lmatch_any (v : Value) (l : List LabD) (b : BoxD) (w : World) (hv : LabRow w v l) (hl : l.length ≤ 9223372036854775807) (he : Env w) :
    Calls Tryz.prog 3 #[v, .agg #[.int .i64 b.a, .int .i64 b.b, .int .i64 b.c, .int .i64 b.d]] w fun e w' => e = .returned (.bool true) ∧ Below w.heap.size w w' := by
  have HE := Lib.hid (fun w' hb => he.later (w' := w') hb)
  have HV := Lib.hid hv
  obtain ⟨a, cap, rfl, -⟩ := hv
  clear he
  obtain ⟨N, hN⟩ : ∃ N, l.length = N := ⟨_, rfl⟩
  rw [hN] at HV hl ⊢
  have HN := Lib.hid hN
  clear hN
  go_enter Tryz.func3, Tryz.ntmps3
  go_wp2_with fail
  have HB1 := row_new w (.cells #[.int .i64 b.a, .int .i64 b.b, .int .i64 b.c, .int .i64 b.d] 26)
  have B1 : Below w.heap.size w (w.alloc (.cells #[.int .i64 b.a, .int .i64 b.b, .int .i64 b.c, .int .i64 b.d] 26)) := (Below.refl _ _).alloc (Nat.le_refl _) _
  refine (lhead_any _ (HE.out _ B1)).mono ?_
  rintro e w2 ⟨rfl, hb2⟩
  have HB2 := Lib.hid (row_later hb2 HB1)
  have B2 := below_step B1 (Nat.le_refl _) hb2
  clear HB1 B1 hb2
  obtain ⟨Bb, hBb⟩ : ∃ Bb, w.heap.size = Bb := ⟨_, rfl⟩
  rw [hBb] at HB2 ⊢
  have HBb := Lib.hid hBb
  clear hBb
  go_wp2_with fail
  refine (fewl_any _ l 40 (by decide) w2 (HV.out.later B2) (by rw [HN.out]; exact hl)).mono ?_
  rintro e w3 ⟨⟨r, rfl, hr, -⟩, hb3⟩
  have HB3 := row_later hb3 HB2.out
  have B3 := below_step B2 (Nat.le_refl _) hb3
  clear HB2 B2 hb3
  cases r
  · clear hr
    go_wp2
    go_ret
    exact ⟨rfl, B3⟩
  · have h40 : l.length ≤ 40 := by
      have := hr rfl
      unfold fewL at this
      rw [Bool.and_eq_true, decide_eq_true_eq] at this
      exact this.1
    have hlenp : (placeL b (isort (ltOf cfL) l)).length ≤ 4000 := by have := place_length b l; omega
    clear hr
    have bz := lt_of_block HB3
    have b0 := cell_of_row w3 _ 0 _ _ _ HB3
    have b1 := cell_of_row w3 _ 1 _ _ _ HB3
    have b2 := cell_of_row w3 _ 2 _ _ _ HB3
    have b3 := cell_of_row w3 _ 3 _ _ _ HB3
    simp only [List.getElem?_toArray, List.getElem?_cons_zero, List.getElem?_cons_succ] at b0 b1 b2 b3
    have HB3' := Lib.hid HB3
    clear HB3
    go_wp2_with fail
    go_region_held3 (fun w' => w'.cell? ⟨Bb, 0, none⟩ = some (.int .i64 b.a) ∧ w'.cell? ⟨Bb, 1, none⟩ = some (.int .i64 b.b) ∧ w'.cell? ⟨Bb, 2, none⟩ = some (.int .i64 b.c) ∧ w'.cell? ⟨Bb, 3, none⟩ = some (.int .i64 b.d) ∧ Below w3.heap.size w3 w')
      (first
        | exact ⟨b0, b1, b2, b3, (Below.refl _ _).drew⟩
        | (have hq := ‹_ ∧ _ ∧ _ ∧ _ ∧ Below w3.heap.size w3 _›; exact ⟨cell_later hb hq.1, cell_later hb hq.2.1, cell_later hb hq.2.2.1, cell_later hb hq.2.2.2.1, below_step hq.2.2.2.2 (Nat.le_refl _) hb⟩)
        | assumption)
      (first
        | (go_at_call 13; refine (place_any _ l b _ h40 (HV.out.later (below_step B3 (Nat.le_refl _) (‹_ ∧ _ ∧ _ ∧ _ ∧ Below w3.heap.size w3 _›).2.2.2.2))).mono ?_; rintro e w5 ⟨v5, rfl, hrow5, hb⟩)
        | (go_at_call 14; refine (rplace_any _ l b _ h40 (HV.out.later (below_step B3 (Nat.le_refl _) (‹_ ∧ _ ∧ _ ∧ _ ∧ Below w3.heap.size w3 _›).2.2.2.2))).mono ?_; rintro e w6 ⟨v6, rfl, hrow6, hb⟩; have hrow56 := hrow5.later hb)
        | (go_at_call 12; refine (same_any _ _ _ _ _ hrow56 hrow6 hlenp).mono ?_; rintro e w7 ⟨rfl, hb⟩; rw [decide_eq_true rfl]))
    have B7 := below_step B3 (Nat.le_refl _) (‹_ ∧ _ ∧ _ ∧ _ ∧ Below w3.heap.size w3 _›).2.2.2.2
    go_wp2
    go_ret
    exact ⟨rfl, B7⟩
end Go.Proofs.YtapllmniplgajaaGreatDoor
