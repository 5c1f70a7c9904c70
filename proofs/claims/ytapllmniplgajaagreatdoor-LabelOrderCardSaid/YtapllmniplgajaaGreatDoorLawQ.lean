/- LabelOrder: the walk. -/
import Derived.Test.YtapllmniplgajaaGreatDoorRefC
import Derived.Test.YtapllmniplgajaaGreatDoorLawH
import Derived.Test.YtapllmniplgajaaGreatDoorLawD
namespace Go.Proofs.YtapllmniplgajaaGreatDoor
open Go.RowKit Go.Sort Go.Lib

/-- What the law compares. -/
theorem order_plain (b : BoxD) (l : List LabD) (hd : DistL l) (n : Nat) (hn : l.length = n + 1) (x : LabD) (hx : (isort (ltOf cfL) l)[n]? = some x) :
    placeL b (isort (ltOf cfL) l.reverse) = placeL b (isort (ltOf cfL) l) ∧ isort (ltOf cfL) ((isort (ltOf cfL) l).take n) = (isort (ltOf cfL) l).take n ∧
    ((placeL b (isort (ltOf cfL) l) = placeL b ((isort (ltOf cfL) l).take n) ∧ ∀ (m : Nat) (p : PlaD), (placeL b (isort (ltOf cfL) l)).length = m + 1 → (placeL b (isort (ltOf cfL) l))[m]? = some p → p.id ≠ x.id) ∨
     ∃ m p, (placeL b (isort (ltOf cfL) l)).length = m + 1 ∧ (placeL b (isort (ltOf cfL) l))[m]? = some p ∧ p.id = x.id ∧ (placeL b (isort (ltOf cfL) l)).take m = placeL b ((isort (ltOf cfL) l).take n)) := by
  have h1 : isort (ltOf cfL) l.reverse = isort (ltOf cfL) l := (sort_unique hd (List.reverse_perm l).symm).symm
  have hdS : DistL (isort (ltOf cfL) l) := dist_perm (isort_perm _ l).symm hd
  have hoS := isort_ord _ swoL l
  have hlS : (isort (ltOf cfL) l).length = n + 1 := by rw [isort_length, hn]
  rw [h1]
  generalize isort (ltOf cfL) l = S at *
  have eS : S = S.take n ++ [x] := by
    obtain ⟨hk, rfl⟩ := List.getElem?_eq_some_iff.1 hx
    rw [← List.take_succ_eq_append_getElem hk, List.take_of_length_le (by omega)]
  have hdT : DistL (S.take n) := hdS.sublist (List.take_sublist ..)
  refine ⟨rfl, sort_sorted hdT (List.Pairwise.sublist (List.take_sublist ..) hoS), ?_⟩
  have hd' := hdS
  rw [eS] at hd'
  rcases place_less b (S.take n) x hd' with ⟨h2, h3⟩ | ⟨p, h2, h3⟩
  · rw [← eS] at h2 h3
    refine Or.inl ⟨h2, fun m p hm hp => h3 p ?_⟩
    rw [List.getLast?_eq_getElem?, hm]; exact hp
  · rw [← eS] at h3
    refine Or.inr ⟨(placeL b (S.take n)).length, p, by rw [h3]; simp, by rw [h3]; simp, h2, by rw [h3]; simp⟩

theorem rowE_take {α : Type} {enc : α → List Value} {k : Nat} {w : World} {ao : Option Addr} {n cap : Nat} {l : List α} (h : RowE enc k w (.slice ao n cap) l) (hn : n = l.length) (q : Nat) (hq : q ≤ n) (c : Nat) : RowE enc k w (.slice ao q c) (l.take q) := by
  obtain ⟨ao', cap', hv, hc⟩ := h
  injection hv with h1 h2 h3
  subst h1
  refine ⟨ao, c, by rw [List.length_take]; congr 1; omega, fun h0 => ?_⟩
  obtain ⟨b, off, ha, hcell⟩ := hc (by rw [List.length_take] at h0; omega)
  refine ⟨b, off, ha, fun j x hx i u hu => hcell j x ?_ i u hu⟩
  rw [List.getElem?_take] at hx
  split at hx
  · exact hx
  · cases hx

set_option maxRecDepth 100000 in
set_option maxHeartbeats 4000000 in
theorem lorder_any (v : Value) (l : List LabD) (b : BoxD) (w : World) (hv : LabRow w v l) (hl : l.length ≤ 9223372036854775807) (he : Env w) :
    Calls Tryz.prog 7 #[v, .agg #[.int .i64 b.a, .int .i64 b.b, .int .i64 b.c, .int .i64 b.d]] w fun e w' => e = .returned (.bool true) ∧ Below w.heap.size w w' := by
  have HE := Lib.hid (fun w' hb => he.later (w' := w') hb)
  have HV := Lib.hid hv
  obtain ⟨i0, hi, hi0, hi1, hi2⟩ := info_parts infoLabel
  obtain ⟨a, cap, rfl, hc⟩ := hv
  clear he
  obtain ⟨N, hN⟩ : ∃ N, l.length = N := ⟨_, rfl⟩
  rw [hN] at HV hl hc ⊢
  have HN := Lib.hid hN
  have HC := Lib.hid hc
  clear hN hc
  go_enter Tryz.func7, Tryz.ntmps7
  go_wp2_with fail
  have HB1 := row_new w (.cells #[.int .i64 b.a, .int .i64 b.b, .int .i64 b.c, .int .i64 b.d] 26)
  have B1 : Below w.heap.size w (w.alloc (.cells #[.int .i64 b.a, .int .i64 b.b, .int .i64 b.c, .int .i64 b.d] 26)) := (Below.refl _ _).alloc (Nat.le_refl _) _
  refine (lhead_any _ (HE.out _ B1)).mono ?_
  rintro e w2 ⟨rfl, hb2⟩
  have HB2 := Lib.hid (row_later hb2 HB1)
  have B2 := below_step B1 (Nat.le_refl _) hb2
  clear HB1 B1 hb2
  go_wp2_with fail
  refine (fewl_any _ l 30 (by decide) w2 (HV.out.later B2) (by rw [HN.out]; exact hl)).mono ?_
  rintro e w3 ⟨⟨r, rfl, hr, -⟩, hb3⟩
  have HB3 := Lib.hid (row_later hb3 HB2.out)
  have B3 := below_step B2 (Nat.le_refl _) hb3
  clear HB2 B2 hb3
  cases r
  · clear hr
    go_wp2
    go_ret
    exact ⟨rfl, B3⟩
  have h30 : N ≤ 30 := by
    have := hr rfl
    unfold fewL at this
    rw [Bool.and_eq_true, decide_eq_true_eq, HN.out] at this
    exact this.1
  clear hr
  go_wp2_with fail
  refine (different_any _ l w3 (HV.out.later B3) (by rw [HN.out]; omega)).mono ?_
  rintro e w4 ⟨⟨r, rfl, hr⟩, hb4⟩
  have HB4 := Lib.hid (row_later hb4 HB3.out)
  have B4 := below_step B3 (Nat.le_refl _) hb4
  clear HB3 B3 hb4
  cases r
  · clear hr
    go_wp2
    go_ret
    exact ⟨rfl, B4⟩
  have HD := Lib.hid (hr rfl)
  clear hr
  rcases N with _ | n
  · go_wp2
    go_ret
    exact ⟨rfl, B4⟩
  obtain ⟨bl, off, ha, hcell⟩ := HC.out (by omega)
  subst ha
  have HCL := Lib.hid hcell
  clear hcell
  have wn : IntKind.i64.wrap (((n + 1 : Nat) : Int) - 1) = (n : Int) := by rw [IntKind.wrap_i64]; omega
  go_wp2_with fail
  go_loopw [6, 7] (fun v6 i wr => ∃ m : Nat, m ≤ n + 1 ∧ i = .int .i64 ((m : Int) - 1) ∧ wr.ownsRow w4.heap.size 47 6 v6 (l.drop m).reverse.length ((l.drop m).reverse.flatMap encL) ∧ Below w4.heap.size w4 wr) (fun _ i _ => (intOf i + 1).toNat)
  case atStart => exact ⟨n + 1, by omega, by go_num, by rw [List.drop_of_length_le (by rw [HN.out]; exact Nat.le_refl _)]; exact World.ownsRow_nil _ _ _ _, Below.refl _ _⟩
  case round =>
    obtain ⟨m, hm, rfl, hown, hbr⟩ := hrel
    have BR := below_step B4 (Nat.le_refl _) hbr
    rcases m with _ | j
    · rw [List.drop_zero] at hown
      have hrev := RowE.of_own encL_len rfl hown
      obtain ⟨ar, capr, rfl, -⟩ := id hrev
      have HRV := Lib.hid (fun w' hb => hrev.later (w' := w') hb)
      have HBr := row_later hbr HB4.out
      have HBrh := Lib.hid HBr
      obtain ⟨Bb, hBb⟩ : ∃ Bb, w.heap.size = Bb := ⟨_, rfl⟩
      rw [hBb] at HBr HBrh ⊢
      have HBB := Lib.hid hBb
      have hlS : (isort (ltOf cfL) l).length = n + 1 := by rw [isort_length, HN.out]
      obtain ⟨x, hx⟩ : ∃ x, (isort (ltOf cfL) l)[n]? = some x := ⟨(isort (ltOf cfL) l)[n]'(by omega), List.getElem?_eq_getElem _⟩
      obtain ⟨hp1, hp2, hp3⟩ := order_plain b l HD.out n HN.out x hx
      have hl30 : l.length ≤ 40 := by rw [HN.out]; omega
      have PL := Lib.hid (fun v' w' hv' => place_own v' l b w' hl30 hv')
      have PR := Lib.hid (fun v' w' hv' => place_own v' l.reverse b w' (by rw [List.length_reverse]; exact hl30) hv')
      have PT := Lib.hid (fun v' w' hv' => place_own v' ((isort (ltOf cfL) l).take n) b w' (by rw [List.length_take]; omega) hv')
      have SS := Lib.hid (fun v' w' hv' => rsorted_any v' l w' hv' hl30)
      unfold SortedPost at SS
      rw [HN.out] at SS
      rw [hp1] at PR
      rw [hp2] at PT
      have hPl : (placeL b (isort (ltOf cfL) l)).length ≤ 4000 := by have := place_length b l; omega
      generalize placeL b (isort (ltOf cfL) l) = P at PL PR hp3 hPl
      generalize isort (ltOf cfL) l = S at hlS hx PT SS hp3
      have HP3 := Lib.hid hp3
      have HX := Lib.hid hx
      have HLS := Lib.hid hlS
      clear hown hbr hBb hp1 hp2 hp3 hx hrev hlS
      have bbz := lt_of_block HBr
      have bb0 := cell_of_row wr _ 0 _ _ _ HBr
      have bb1 := cell_of_row wr _ 1 _ _ _ HBr
      have bb2 := cell_of_row wr _ 2 _ _ _ HBr
      have bb3 := cell_of_row wr _ 3 _ _ _ HBr
      simp only [List.getElem?_toArray, List.getElem?_cons_zero, List.getElem?_cons_succ] at bb0 bb1 bb2 bb3
      have HBr' := Lib.hid HBr
      clear HBr
      go_wp2_with fail
      refine (PL.out _ _ (HV.out.later BR)).mono ?_
      rintro e w5 ⟨vp, rfl, ⟨Bp, hownp⟩, hb5⟩
      have B5 := below_step BR (Nat.le_refl _) hb5
      have BV5 := hb5
      have HB5h := Lib.hid (row_later hb5 HBrh.out)
      have hcapp := own_form hownp
      obtain ⟨ap, capp, rfl⟩ := hcapp
      have hcp := (own_cap hownp).2
      have hrp := RowE.of_own encP_len rfl hownp
      have HRP := Lib.hid (fun w' hb => hrp.later (w' := w') hb)
      clear hownp hrp hb5 bb0 bb1 bb2 bb3 bbz HBr' HBrh
      go_wp2_with fail
      refine (SS.out _ _ (HV.out.later B5)).mono ?_
      rintro e w6 ⟨vs, rfl, howns, hb6⟩
      obtain ⟨sa, caps, rfl⟩ := own_form howns
      have hcs := (own_cap howns).2
      have hrs := RowE.of_own encL_len HLS.out.symm howns
      have HRS := Lib.hid (fun w' hb => hrs.later (w' := w') hb)
      have B6 := below_step B5 (Nat.le_refl _) hb6
      have B56 := hb6
      have BV6 := below_step BV5 (Nat.le_refl _) hb6
      have HB6 := row_later hb6 HB5h.out
      obtain ⟨sa1, caps1, hv1, hco⟩ := hrs
      obtain ⟨bs, offs, has, hcells⟩ := hco (by rw [HLS.out]; omega)
      have has2 : sa = some ⟨bs, offs, none⟩ := by injection hv1 with e1 _ _; rw [e1, has]
      subst has2
      have cx : w6.cell? ⟨bs, offs + n * 6, none⟩ = some (.string x.id) := hcells n x HX.out 0 _ rfl
      have wn1 : IntKind.i64.wrap (n : Int) = (n : Int) := IntWalk.i64_in _ (by omega)
      clear howns hb6 HB5h hv1 hco hcells has sa1 caps1
      have HB6h := Lib.hid HB6
      have le0 : (0 : Int) ≤ (n : Int) := by omega
      have le1 : (n : Int) ≤ (n : Int) + 1 := by omega
      have le2 : (n : Int) ≤ (caps : Int) := by omega
      have bbz := lt_of_block HB6
      have bb0 := cell_of_row w6 _ 0 _ _ _ HB6
      have bb1 := cell_of_row w6 _ 1 _ _ _ HB6
      have bb2 := cell_of_row w6 _ 2 _ _ _ HB6
      have bb3 := cell_of_row w6 _ 3 _ _ _ HB6
      simp only [List.getElem?_toArray, List.getElem?_cons_zero, List.getElem?_cons_succ] at bb0 bb1 bb2 bb3
      have HB6' := Lib.hid HB6
      clear HB6
      go_wp2_with fail
      go_region_held3 (fun w' => w'.cell? ⟨Bb, 0, none⟩ = some (.int .i64 b.a) ∧ w'.cell? ⟨Bb, 1, none⟩ = some (.int .i64 b.b) ∧ w'.cell? ⟨Bb, 2, none⟩ = some (.int .i64 b.c) ∧ w'.cell? ⟨Bb, 3, none⟩ = some (.int .i64 b.d) ∧ Below w6.heap.size w6 w')
        (first
          | exact ⟨bb0, bb1, bb2, bb3, (Below.refl _ _).drew⟩
          | (have hq := (‹_ ∧ _ ∧ _ ∧ _ ∧ Below w6.heap.size w6 _›); exact ⟨cell_later hb hq.1, cell_later hb hq.2.1, cell_later hb hq.2.2.1, cell_later hb hq.2.2.2.1, below_step hq.2.2.2.2 (Nat.le_refl _) hb⟩)
          | assumption)
        (first
          | (go_at_call 13; refine (PT.out _ _ (rowE_take (HRS.out _ (‹_ ∧ _ ∧ _ ∧ _ ∧ Below w6.heap.size w6 _›).2.2.2.2) HLS.out.symm n (by omega) _)).mono ?_; rintro e w7 ⟨v7, rfl, ⟨Bt, hownt⟩, hb⟩))
      have hq7 := (‹_ ∧ _ ∧ _ ∧ _ ∧ Below w6.heap.size w6 _›).2.2.2.2
      have hrt := RowE.of_own encP_len rfl hownt
      have B7 := below_step B6 (Nat.le_refl _) hq7
      have HRP7 := HRP.out _ (below_step B56 (Nat.le_refl _) hq7)
      have HRV7 := HRV.out _ (below_step BV6 (Nat.le_refl _) hq7)
      have HB7 := row_later hq7 HB6h.out
      rw [List.length_reverse] at HRV7
      obtain ⟨T, hT⟩ : ∃ T, placeL b (S.take n) = T := ⟨_, rfl⟩
      rw [hT] at hrt
      have HP3' := HP3.out
      rw [hT] at HP3'
      have hlt : v7 = v7 := rfl
      clear hownt hq7 bb0 bb1 bb2 bb3 bbz HB6' BV5 BV6 B56 HB6h PT SS PL HRV HRP HRS HP3 hT hlt
      have HRT := Lib.hid (fun w' hb => hrt.later (w' := w') hb)
      clear hrt
      have bbz := lt_of_block HB7
      have bb0 := cell_of_row w7 _ 0 _ _ _ HB7
      have bb1 := cell_of_row w7 _ 1 _ _ _ HB7
      have bb2 := cell_of_row w7 _ 2 _ _ _ HB7
      have bb3 := cell_of_row w7 _ 3 _ _ _ HB7
      simp only [List.getElem?_toArray, List.getElem?_cons_zero, List.getElem?_cons_succ] at bb0 bb1 bb2 bb3
      have HB7' := Lib.hid HB7
      clear HB7
      obtain ⟨m, hm0⟩ : ∃ m, P.length = m := ⟨_, rfl⟩
      rw [hm0] at HRP7 hcp ⊢
      have HM0 := Lib.hid hm0
      rcases m with _ | m
      · have hPT : T = P := by
          rcases HP3' with h | ⟨m, p, h, _⟩
          · exact h.1.symm
          · omega
        clear HP3' hm0
        have WROW := Lib.hid HRP7
        have hTl : T.length ≤ 4000 := by rw [hPT]; exact hPl
        have HTE := Lib.hid hPT
        clear hPT
        go_wp2_with fail
        refine (PR.out _ _ HRV7).mono ?_
        rintro e w8 ⟨v8, rfl, ⟨Bq, hown8⟩, hb8⟩
        have hr8 := RowE.of_own encP_len rfl hown8
        have B8 := below_step B7 (Nat.le_refl _) hb8
        clear hown8 B7
        go_wp2_with fail
        refine (same_any _ _ P P _ hr8 (HRP7.later hb8) hPl).mono ?_
        rintro e w9 ⟨rfl, hb9⟩
        rw [decide_eq_true rfl]
        have B9 := below_step B8 (Nat.le_refl _) hb9
        have b89 := below_step hb8 (Nat.le_refl _) hb9
        clear B8
        go_wp2_with fail
        refine (same_any _ _ T T _ (HRT.out _ b89) (by rw [HTE.out]; exact WROW.out.later b89) hTl).mono ?_
        rintro e w10 ⟨rfl, hb10⟩
        rw [decide_eq_true rfl]
        have B10 := below_step B9 (Nat.le_refl _) hb10
        go_wp2
        go_ret
        exact ⟨rfl, by first | exact B10 | (rw [← HBB.out]; exact B10)⟩
      · obtain ⟨p, hp⟩ : ∃ p, P[m]? = some p := ⟨P[m]'(by omega), List.getElem?_eq_getElem _⟩
        obtain ⟨ap1, capp1, hv1, hco⟩ := id HRP7
        obtain ⟨bp, offp, hap, hcells⟩ := hco (by omega)
        have hap2 : ap = some ⟨bp, offp, none⟩ := by injection hv1 with e1 _ _; rw [e1, hap]
        subst hap2
        have cp : w7.cell? ⟨bp, offp + m * 5, none⟩ = some (.string p.id) := hcells m p hp 0 _ rfl
        have WM1 : IntKind.i64.wrap (((m + 1 : Nat) : Int) - 1) = (m : Int) := (IntWalk.i64_in _ (by omega)).trans (by omega)
        have WM2 : IntKind.i64.wrap (m : Int) = (m : Int) := IntWalk.i64_in _ (by omega)
        have WG : decide ((0 : Int) < ((m + 1 : Nat) : Int)) = true := by rw [decide_eq_true_eq]; omega
        have mle0 : (0 : Int) ≤ (m : Int) := by omega
        have mle1 : (m : Int) ≤ (m : Int) + 1 := by omega
        have mle2 : (m : Int) ≤ (capp : Int) := by omega
        clear hv1 hco hcells hap ap1 capp1
        rcases HP3' with ⟨h1, h2⟩ | ⟨m', p', h1, h2, h3, h4⟩
        · have he : (p.id.toList == x.id.toList) = false := str_eq_false (h2 m p hm0 hp)
          have WROW := Lib.hid HRP7
          have hTl : T.length ≤ 4000 := by rw [← h1]; exact hPl
          have HTE := Lib.hid h1.symm
          clear h1 h2 hm0 hp
          go_wp2_with fail
          refine (PR.out _ _ HRV7).mono ?_
          rintro e w8 ⟨v8, rfl, ⟨Bq, hown8⟩, hb8⟩
          have hr8 := RowE.of_own encP_len rfl hown8
          have B8 := below_step B7 (Nat.le_refl _) hb8
          clear hown8 B7
          go_wp2_with fail
          refine (same_any _ _ P P _ hr8 (HRP7.later hb8) hPl).mono ?_
          rintro e w9 ⟨rfl, hb9⟩
          rw [decide_eq_true rfl]
          have B9 := below_step B8 (Nat.le_refl _) hb9
          have b89 := below_step hb8 (Nat.le_refl _) hb9
          clear B8
          go_wp2_with fail
          refine (same_any _ _ T T _ (HRT.out _ b89) (by rw [HTE.out]; exact WROW.out.later b89) hTl).mono ?_
          rintro e w10 ⟨rfl, hb10⟩
          rw [decide_eq_true rfl]
          have B10 := below_step B9 (Nat.le_refl _) hb10
          go_wp2
          go_ret
          exact ⟨rfl, by first | exact B10 | (rw [← HBB.out]; exact B10)⟩
        · obtain rfl : m' = m := by omega
          rw [hp] at h2
          obtain rfl := Option.some.inj h2
          have he : (p.id.toList == x.id.toList) = true := str_eq_true h3
          have WROW := Lib.hid (rowE_take HRP7 HM0.out.symm m' (by omega) capp)
          have hTl : T.length ≤ 4000 := by rw [← h4, List.length_take]; omega
          have HTE := Lib.hid h4.symm
          clear h1 h2 h3 h4 hm0 hp
          go_wp2_with fail
          refine (PR.out _ _ HRV7).mono ?_
          rintro e w8 ⟨v8, rfl, ⟨Bq, hown8⟩, hb8⟩
          have hr8 := RowE.of_own encP_len rfl hown8
          have B8 := below_step B7 (Nat.le_refl _) hb8
          clear hown8 B7
          go_wp2_with fail
          refine (same_any _ _ P P _ hr8 (HRP7.later hb8) hPl).mono ?_
          rintro e w9 ⟨rfl, hb9⟩
          rw [decide_eq_true rfl]
          have B9 := below_step B8 (Nat.le_refl _) hb9
          have b89 := below_step hb8 (Nat.le_refl _) hb9
          clear B8
          go_wp2_with fail
          refine (same_any _ _ T T _ (HRT.out _ b89) (by rw [HTE.out]; exact WROW.out.later b89) hTl).mono ?_
          rintro e w10 ⟨rfl, hb10⟩
          rw [decide_eq_true rfl]
          have B10 := below_step B9 (Nat.le_refl _) hb10
          go_wp2
          go_ret
          exact ⟨rfl, by first | exact B10 | (rw [← HBB.out]; exact B10)⟩
    · obtain ⟨x, hx⟩ : ∃ x, l[j]? = some x := ⟨l[j]'(by rw [HN.out]; omega), List.getElem?_eq_getElem _⟩
      have wj : ((j + 1 : Nat) : Int) - 1 = (j : Int) := by omega
      rw [wj]
      have c0 : wr.cell? ⟨bl, off + j * 6, none⟩ = some (.string x.id) := cell_later BR (HCL.out j x hx 0 _ rfl)
      have c1 : wr.cell? ⟨bl, off + j * 6 + 1, none⟩ = some (.int .i64 x.x) := cell_later BR (HCL.out j x hx 1 _ rfl)
      have c2 : wr.cell? ⟨bl, off + j * 6 + 2, none⟩ = some (.int .i64 x.y) := cell_later BR (HCL.out j x hx 2 _ rfl)
      have c3 : wr.cell? ⟨bl, off + j * 6 + 3, none⟩ = some (.int .i64 x.w) := cell_later BR (HCL.out j x hx 3 _ rfl)
      have c4 : wr.cell? ⟨bl, off + j * 6 + 4, none⟩ = some (.int .i64 x.h) := cell_later BR (HCL.out j x hx 4 _ rfl)
      have c5 : wr.cell? ⟨bl, off + j * 6 + 5, none⟩ = some (.int .i64 x.rank) := cell_later BR (HCL.out j x hx 5 _ rfl)
      have HG := Lib.hid (show (l.drop j).reverse = (l.drop (j + 1)).reverse ++ [x] by
        obtain ⟨hk, rfl⟩ := List.getElem?_eq_some_iff.1 hx
        rw [List.drop_eq_getElem_cons hk, List.reverse_cons])
      have hol : (l.drop (j + 1)).reverse.length ≤ 30 := by rw [List.length_reverse, List.length_drop, HN.out]; omega
      generalize (l.drop (j + 1)).reverse = out at hown HG hol
      have hsz : w4.heap.size ≤ wr.heap.size := hbr.size
      clear hx
      go_wp2_with (at_builtin; refine wpList_append_own _ rfl _ _ 22 rfl w4.heap.size 47 i0 (.agg #[.string ⟨#[]⟩, .int .i64 0, .int .i64 0, .int .i64 0, .int .i64 0, .int .i64 0]) 6 56 Tryz.underlying22 hi hi0 hi1 hi2 rfl (by decide) _ _ _ rfl (hown.alloc _) ⟨wr.heap.size, 0, none⟩ 1 1 (encL x) rfl rfl (cells_new _ _ _) (encL_one _) (by unfold maxLen; omega) (by omega) (by simp; omega) ?_; intro v' w10 hown2 hgrow _; have hb10 := appended hown hsz hgrow)
      have HOW := Lib.hid (show w10.ownsRow w4.heap.size 47 6 v' (l.drop j).reverse.length ((l.drop j).reverse.flatMap encL) by rw [HG.out, List.length_append, List.flatMap_append]; simpa using hown2)
      have B10 := hbr.trans hb10
      clear hown2 hgrow hown
      go_roundw
      case rel => exact ⟨_, _, _, _, _, _, _, _, _, _, _, _, _, ⟨j, by omega, by first | rfl | go_num, HOW.out, B10⟩, rfl⟩
      case measure => simp [intOf]; try omega
end Go.Proofs.YtapllmniplgajaaGreatDoor
