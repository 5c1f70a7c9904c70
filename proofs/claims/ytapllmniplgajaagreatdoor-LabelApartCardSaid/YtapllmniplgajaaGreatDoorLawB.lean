/- LabelApart: the walk. -/
import Derived.Test.YtapllmniplgajaaGreatDoorLawH
import Derived.Test.YtapllmniplgajaaGreatDoorLawP
namespace Go.Proofs.YtapllmniplgajaaGreatDoor
open Go.RowKit Go.Sort


set_option maxRecDepth 100000 in
set_option maxHeartbeats 4000000 in
theorem lapart_any (v : Value) (l : List LabD) (b : BoxD) (w : World) (hv : LabRow w v l) (hl : l.length ≤ 9223372036854775807) (he : Env w) :
    Calls Tryz.prog 5 #[v, .agg #[.int .i64 b.a, .int .i64 b.b, .int .i64 b.c, .int .i64 b.d]] w fun e w' => e = .returned (.bool true) ∧ Below w.heap.size w w' := by
  have HE := Lib.hid (fun w' hb => he.later (w' := w') hb)
  have HV := Lib.hid hv
  obtain ⟨a, cap, rfl, -⟩ := hv
  clear he
  obtain ⟨N, hN⟩ : ∃ N, l.length = N := ⟨_, rfl⟩
  rw [hN] at HV hl ⊢
  have HN := Lib.hid hN
  clear hN
  go_enter Tryz.func5, Tryz.ntmps5
  go_wp2_with fail
  have HB1 := row_new w (.cells #[.int .i64 b.a, .int .i64 b.b, .int .i64 b.c, .int .i64 b.d] 26)
  have B1 : Below w.heap.size w (w.alloc (.cells #[.int .i64 b.a, .int .i64 b.b, .int .i64 b.c, .int .i64 b.d] 26)) := (Below.refl _ _).alloc (Nat.le_refl _) _
  refine (lhead_any _ (HE.out _ B1)).mono ?_
  rintro e w2 ⟨rfl, hb2⟩
  have HB2 := Lib.hid (row_later hb2 HB1)
  have B2 := below_step B1 (Nat.le_refl _) hb2
  clear HB1 B1 hb2
  go_wp2_with fail
  refine (fewl_any _ l 40 (by decide) w2 (HV.out.later B2) (by rw [HN.out]; exact hl)).mono ?_
  rintro e w3 ⟨⟨r, rfl, hr, -⟩, hb3⟩
  have HB3 := row_later hb3 HB2.out
  have B3 := below_step B2 (Nat.le_refl _) hb3
  clear HB2 B2 hb3
  cases r
  · clear hr
    go_wp2
    go_ret
    exact ⟨rfl, B3⟩
  · have h40 : N ≤ 40 := by
      have := hr rfl
      unfold fewL at this
      rw [Bool.and_eq_true, decide_eq_true_eq, HN.out] at this
      exact this.1
    clear hr
    have HBh := Lib.hid HB3
    have bz := lt_of_block HB3
    have b0 := cell_of_row w3 _ 0 _ _ _ HB3
    have b1 := cell_of_row w3 _ 1 _ _ _ HB3
    have b2 := cell_of_row w3 _ 2 _ _ _ HB3
    have b3 := cell_of_row w3 _ 3 _ _ _ HB3
    simp only [List.getElem?_toArray, List.getElem?_cons_zero, List.getElem?_cons_succ] at b0 b1 b2 b3
    have HB3' := Lib.hid HB3
    clear HB3
    go_wp2_with fail
    refine (place_any _ l b _ (by rw [HN.out]; exact h40) (HV.out.later B3)).mono ?_
    rintro e w4 ⟨v4, rfl, hrow, hb4⟩
    have HA := Lib.hid (apart_place b (isort (ltOf cfL) l))
    have HLE := Lib.hid (place_length b l)
    generalize placeL b (isort (ltOf cfL) l) = P at hrow HA HLE
    obtain ⟨M, hM⟩ : ∃ M, P.length = M := ⟨_, rfl⟩
    have hMN : M ≤ N := by rw [← hM, ← HN.out]; exact HLE.out
    obtain ⟨ap, capp, rfl, hc⟩ := hrow
    rw [hM] at hc ⊢
    have HM := Lib.hid hM
    have HC := Lib.hid hc
    have B4 := below_step B3 (Nat.le_refl _) hb4
    have HB4 := Lib.hid (row_later hb4 HBh.out)
    clear hM hc b0 b1 b2 b3 bz HB3' HBh B3 hb4
    go_wp2
    go_loopw [7] (fun i wr => ∃ k : Nat, k ≤ M ∧ i = .int .i64 k ∧ Below w4.heap.size w4 wr) (fun i _ => M - (intOf i).toNat)
    case atStart => exact ⟨0, by omega, rfl, Below.refl _ _⟩
    case round =>
      obtain ⟨k, hk, rfl, hbr⟩ := hrel
      by_cases hlt : k < M
      · obtain ⟨x, hx⟩ : ∃ x, P[k]? = some x := ⟨P[k]'(by rw [HM.out]; exact hlt), List.getElem?_eq_getElem _⟩
        obtain ⟨bp, off, ha, hcell⟩ := HC.out (by omega)
        subst ha
        have c1 : wr.cell? ⟨bp, off + k * 5 + 1, none⟩ = some (.int .i64 x.box.a) := cell_later hbr (hcell k x hx 1 _ rfl)
        have c2 : wr.cell? ⟨bp, off + k * 5 + 2, none⟩ = some (.int .i64 x.box.b) := cell_later hbr (hcell k x hx 2 _ rfl)
        have c3 : wr.cell? ⟨bp, off + k * 5 + 3, none⟩ = some (.int .i64 x.box.c) := cell_later hbr (hcell k x hx 3 _ rfl)
        have c4 : wr.cell? ⟨bp, off + k * 5 + 4, none⟩ = some (.int .i64 x.box.d) := cell_later hbr (hcell k x hx 4 _ rfl)
        obtain ⟨hin, hac, hbd⟩ := HA.out.inside x (List.mem_of_getElem? hx)
        obtain ⟨i1, i2, i3, i4⟩ := of_decide_eq_true hin
        have HCL := Lib.hid hcell
        have HX := Lib.hid hx
        clear hin hcell hx
        have HB := row_later hbr HB4.out
        have bz := lt_of_block HB
        have b0 := cell_of_row wr _ 0 _ _ _ HB
        have b1 := cell_of_row wr _ 1 _ _ _ HB
        have b2 := cell_of_row wr _ 2 _ _ _ HB
        have b3 := cell_of_row wr _ 3 _ _ _ HB
        simp only [List.getElem?_toArray, List.getElem?_cons_zero, List.getElem?_cons_succ] at b0 b1 b2 b3
        have HB' := Lib.hid HB
        clear HB
        go_wp2_with fail
        have HX5 := row_new wr (.cells #[.int .i64 x.box.a, .int .i64 x.box.b, .int .i64 x.box.c, .int .i64 x.box.d] 26)
        have B5 := hbr.alloc hbr.size (.cells #[.int .i64 x.box.a, .int .i64 x.box.b, .int .i64 x.box.c, .int .i64 x.box.d] 26)
        generalize hw5 : wr.alloc (.cells #[.int .i64 x.box.a, .int .i64 x.box.b, .int .i64 x.box.c, .int .i64 x.box.d] 26) = w5
        rw [hw5] at HX5 B5
        obtain ⟨Bx, hBx⟩ : ∃ Bx, wr.heap.size = Bx := ⟨_, rfl⟩
        rw [hBx] at HX5 ⊢
        have HX5h := Lib.hid HX5
        clear hw5 hBx b0 b1 b2 b3 bz HB' c1 c2 c3 c4 i1 i2 i3 i4 hac hbd HX5 hbr
        go_loopw [9] (fun i wr2 => ∃ q : Nat, q ≤ k ∧ i = .int .i64 q ∧ Below w5.heap.size w5 wr2) (fun i _ => k - (intOf i).toNat)
        case atStart => exact ⟨0, by omega, rfl, Below.refl _ _⟩
        case round =>
          obtain ⟨q, hq, rfl, hbr2⟩ := hrel
          by_cases hqk : q < k
          · obtain ⟨y, hy⟩ : ∃ y, P[q]? = some y := ⟨P[q]'(by rw [HM.out]; omega), List.getElem?_eq_getElem _⟩
            have hqM : q < M := by omega
            have B45 := below_step B5 (Nat.le_refl _) hbr2
            have d1 : wr.cell? ⟨bp, off + q * 5 + 1, none⟩ = some (.int .i64 y.box.a) := cell_later B45 (HCL.out q y hy 1 _ rfl)
            have d2 : wr.cell? ⟨bp, off + q * 5 + 2, none⟩ = some (.int .i64 y.box.b) := cell_later B45 (HCL.out q y hy 2 _ rfl)
            have d3 : wr.cell? ⟨bp, off + q * 5 + 3, none⟩ = some (.int .i64 y.box.c) := cell_later B45 (HCL.out q y hy 3 _ rfl)
            have d4 : wr.cell? ⟨bp, off + q * 5 + 4, none⟩ = some (.int .i64 y.box.d) := cell_later B45 (HCL.out q y hy 4 _ rfl)
            have hov := apart_get HA.out HX.out hy hqk
            unfold overB at hov
            rw [decide_eq_false_iff_not] at hov
            have HX := row_later hbr2 HX5h.out
            clear hy B45
            have xz := lt_of_block HX
            have x0 := cell_of_row wr _ 0 _ _ _ HX
            have x1 := cell_of_row wr _ 1 _ _ _ HX
            have x2 := cell_of_row wr _ 2 _ _ _ HX
            have x3 := cell_of_row wr _ 3 _ _ _ HX
            simp only [List.getElem?_toArray, List.getElem?_cons_zero, List.getElem?_cons_succ] at x0 x1 x2 x3
            have HX' := Lib.hid HX
            clear HX
            by_cases e1 : x.box.a ≤ y.box.c
            · by_cases e2 : y.box.a ≤ x.box.c
              · by_cases e3 : x.box.b ≤ y.box.d
                · have e4 : ¬ y.box.b ≤ x.box.d := fun e4 => hov ⟨e1, e2, e3, e4⟩
                  clear hov
                  have hbr3 := hbr2.alloc hbr2.size (.cells #[.int .i64 y.box.a, .int .i64 y.box.b, .int .i64 y.box.c, .int .i64 y.box.d] 26)
                  go_wp2
                  go_roundw
                  case rel => exact ⟨q + 1, by omega, by go_num, hbr3⟩
                  case measure => simp [intOf]; omega
                · clear hov
                  have hbr3 := hbr2.alloc hbr2.size (.cells #[.int .i64 y.box.a, .int .i64 y.box.b, .int .i64 y.box.c, .int .i64 y.box.d] 26)
                  go_wp2
                  go_roundw
                  case rel => exact ⟨q + 1, by omega, by go_num, hbr3⟩
                  case measure => simp [intOf]; omega
              · clear hov
                have hbr3 := hbr2.alloc hbr2.size (.cells #[.int .i64 y.box.a, .int .i64 y.box.b, .int .i64 y.box.c, .int .i64 y.box.d] 26)
                go_wp2
                go_roundw
                case rel => exact ⟨q + 1, by omega, by go_num, hbr3⟩
                case measure => simp [intOf]; omega
            · clear hov
              have hbr3 := hbr2.alloc hbr2.size (.cells #[.int .i64 y.box.a, .int .i64 y.box.b, .int .i64 y.box.c, .int .i64 y.box.d] 26)
              go_wp2
              go_roundw
              case rel => exact ⟨q + 1, by omega, by go_num, hbr3⟩
              case measure => simp [intOf]; omega
          · obtain rfl : q = k := by omega
            have BF := below_step B5 (Nat.le_refl _) hbr2
            go_wp2
            go_roundw
            case rel => exact ⟨q + 1, by omega, by go_num, BF⟩
            case measure => simp [intOf]; omega
      · obtain rfl : k = M := by omega
        have BF := below_step B4 (Nat.le_refl _) hbr
        go_wp2
        go_ret
        exact ⟨rfl, BF⟩
end Go.Proofs.YtapllmniplgajaaGreatDoor
