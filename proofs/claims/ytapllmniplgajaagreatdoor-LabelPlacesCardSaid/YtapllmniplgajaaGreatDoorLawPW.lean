/- LabelPlaces: the walk. -/
import Derived.Test.YtapllmniplgajaaGreatDoorRefD
import Derived.Test.YtapllmniplgajaaGreatDoorLawR
import Derived.Test.YtapllmniplgajaaGreatDoorLawH
import Derived.Test.YtapllmniplgajaaGreatDoorLawD
import Derived.Deep.CutBlock
import Derived.Deep.CutRange
namespace Go.Proofs.YtapllmniplgajaaGreatDoor
open Go.RowKit Go.Sort Go.Lib

theorem sf26 : Tryz.prog.stoodInHeld 26 = false := by kernel_rfl
theorem eg26 : Tryz.prog.eqGuardType Tryz.prog.depth 26 = false := by kernel_rfl
theorem fo26 : Tryz.prog.underlying 26 = some (.struct (Tryz.prog.fieldsOf 26)) := by kernel_rfl
theorem eq_box (x y : BoxD) (w : World) : (binOp .eql 26 (.agg #[.int .i64 x.a, .int .i64 x.b, .int .i64 x.c, .int .i64 x.d]) (.agg #[.int .i64 y.a, .int .i64 y.b, .int .i64 y.c, .int .i64 y.d])).run Tryz.prog w = .ok (.bool (decide (x = y))) w := by
  simp only [run_eql_struct]
  rw [show (10000 : Nat) = 9999 + 1 from rfl, run_equalIn_struct _ _ _ _ _ fo26 sf26]
  simp [Program.fieldsOf, Tryz.underlying26, Op.eqFields, go_sem]
  obtain ⟨a, b, c, d⟩ := x
  obtain ⟨a', b', c', d'⟩ := y
  simp only [BoxD.mk.injEq]
  (repeat' split) <;> simp_all
/-- What happens at each label, in the order of importance. -/
theorem place_case (b : BoxD) (S : List LabD) (hd : DistL S) (i : Nat) (x : LabD) (hx : S[i]? = some x) : ∃ (pl : Bool) (J : Nat), J ≤ 4 ∧ (validL x = false → pl = false) ∧ (∀ n, n < J → freeB b (placeB x n) (placedL b S i) = false) ∧
    (pl = true → J < 4 ∧ (placedL b S i).length < (placeL b S).length ∧ (placeL b S)[(placedL b S i).length]? = some ⟨x.id, placeB x J⟩ ∧ freeB b (placeB x J) (placedL b S i) = true ∧ (placedL b S (i + 1)).length = (placedL b S i).length + 1) ∧
    (pl = false → (placedL b S (i + 1)).length = (placedL b S i).length ∧ (validL x = true → J = 4) ∧ ∀ p, (placeL b S)[(placedL b S i).length]? = some p → p.id ≠ x.id) := by
  rcases place_step b S hd i x hx with ⟨h1, h2, h3⟩ | ⟨h1, h2, h3, h4⟩ | ⟨h1, j, h2, h3, h4, h5, h6, h7⟩
  · exact ⟨false, 0, by omega, fun _ => rfl, fun n hn => by omega, fun h => by (cases h), fun _ => ⟨by rw [h2], fun h => (by rw [h1] at h; cases h), h3⟩⟩
  · exact ⟨false, 4, by omega, fun _ => rfl, fun n hn => h4 n hn, fun h => by (cases h), fun _ => ⟨by rw [h2], fun _ => rfl, h3⟩⟩
  · exact ⟨true, j, by omega, fun h => (by rw [h1] at h; cases h), fun n hn => h7 n hn, fun _ => ⟨h2, h4, h5, h6, h3⟩, fun h => by (cases h)⟩
theorem placed_take (b : BoxD) (S : List LabD) (i : Nat) : placedL b S i = (placeL b S).take (placedL b S i).length := by
  obtain ⟨r, h, _⟩ := placed_split b S i
  rw [h]; simp

theorem rowE_at {α : Type} {enc : α → List Value} {k : Nat} {w : World} {ao : Option Addr} {n cap : Nat} {l : List α} (h : RowE enc k w (.slice ao n cap) l) (m : Nat) (x : α) (hx : l[m]? = some x) :
    ∃ b off, ao = some ⟨b, off, none⟩ ∧ ∀ (i : Nat) (u : Value), (enc x)[i]? = some u → w.cell? ⟨b, off + m * k + i, none⟩ = some u := by
  obtain ⟨ao', cap', hv, hc⟩ := h
  obtain ⟨b, off, ha, hcell⟩ := hc (by have := (List.getElem?_eq_some_iff.1 hx).1; omega)
  injection hv with h1 _ _
  exact ⟨b, off, by rw [h1, ha], hcell m x hx⟩
set_option maxRecDepth 100000 in
set_option maxHeartbeats 4000000 in
theorem lplaces_any (v : Value) (l : List LabD) (b : BoxD) (w : World) (hv : LabRow w v l) (hl : l.length ≤ 9223372036854775807) (he : Env w) :
    Calls Tryz.prog 6 #[v, .agg #[.int .i64 b.a, .int .i64 b.b, .int .i64 b.c, .int .i64 b.d]] w fun e w' => e = .returned (.bool true) ∧ Below w.heap.size w w' := by
  have HE := Lib.hid (fun w' hb => he.later (w' := w') hb)
  have HV := Lib.hid hv
  have mixed : Tryz.prog.follows .mixedOrders = true := by kernel_rfl
  obtain ⟨a, cap, rfl, hc⟩ := hv
  clear he
  obtain ⟨N, hN⟩ : ∃ N, l.length = N := ⟨_, rfl⟩
  rw [hN] at HV hl hc ⊢
  have HN := Lib.hid hN
  have HC := Lib.hid hc
  clear hN hc
  go_enter Tryz.func6, Tryz.ntmps6
  go_wp2_with fail
  have HB1 := row_new w (.cells #[.int .i64 b.a, .int .i64 b.b, .int .i64 b.c, .int .i64 b.d] 26)
  have B1 : Below w.heap.size w (w.alloc (.cells #[.int .i64 b.a, .int .i64 b.b, .int .i64 b.c, .int .i64 b.d] 26)) := (Below.refl _ _).alloc (Nat.le_refl _) _
  refine (lhead_any _ (HE.out _ B1)).mono ?_
  rintro e w2 ⟨rfl, hb2⟩
  have HB2 := Lib.hid (row_later hb2 HB1)
  have B2 := below_step B1 (Nat.le_refl _) hb2
  clear HB1 B1 hb2
  go_wp2_with fail
  refine (fewl_any _ l 30 (by decide) w2 (HV.out.later B2) (by rw [HN.out]; exact hl)).mono ?_
  rintro e w3 ⟨⟨r, rfl, hr, -⟩, hb3⟩
  have HB3 := Lib.hid (row_later hb3 HB2.out)
  have B3 := below_step B2 (Nat.le_refl _) hb3
  clear HB2 B2 hb3
  cases r
  · clear hr
    go_wp2
    go_ret
    exact ⟨rfl, B3⟩
  have h30 : N ≤ 30 := by
    have := hr rfl
    unfold fewL at this
    rw [Bool.and_eq_true, decide_eq_true_eq, HN.out] at this
    exact this.1
  clear hr
  go_wp2_with fail
  refine (different_any _ l w3 (HV.out.later B3) (by rw [HN.out]; omega)).mono ?_
  rintro e w4 ⟨⟨r, rfl, hr⟩, hb4⟩
  have HB4 := Lib.hid (row_later hb4 HB3.out)
  have B4 := below_step B3 (Nat.le_refl _) hb4
  clear HB3 B3 hb4
  cases r
  · clear hr
    go_wp2
    go_ret
    exact ⟨rfl, B4⟩
  have HD := Lib.hid (hr rfl)
  clear hr
  have hlS : (isort (ltOf cfL) l).length = N := by rw [isort_length, HN.out]
  have hl30 : l.length ≤ 40 := by rw [HN.out]; omega
  have hdS : DistL (isort (ltOf cfL) l) := dist_perm (isort_perm _ l).symm HD.out
  have PL := Lib.hid (fun v' w' hv' => place_own v' l b w' hl30 hv')
  have SS := Lib.hid (fun v' w' hv' => rsorted_any v' l w' hv' hl30)
  unfold SortedPost at SS
  rw [HN.out] at SS
  have hPl : (placeL b (isort (ltOf cfL) l)).length ≤ 40 := by have := place_length b l; omega
  have PCASE := Lib.hid (fun i x hx => place_case b (isort (ltOf cfL) l) hdS i x hx)
  have PTAKE := Lib.hid (fun i => placed_take b (isort (ltOf cfL) l) i)
  have PLE := Lib.hid (fun i => placed_le b (isort (ltOf cfL) l) i)
  have PEND := Lib.hid (show placedL b (isort (ltOf cfL) l) N = placeL b (isort (ltOf cfL) l) by unfold placedL placeL; rw [List.take_of_length_le (by omega)])
  have P0 := Lib.hid (show (placedL b (isort (ltOf cfL) l) 0).length = 0 from rfl)
  generalize placeL b (isort (ltOf cfL) l) = P at PL PCASE PTAKE PLE PEND hPl
  generalize isort (ltOf cfL) l = S at hlS hdS SS PCASE PTAKE PLE PEND P0
  have HLS := Lib.hid hlS
  obtain ⟨D, hD⟩ : ∃ D, placedL b S = D := ⟨_, rfl⟩
  rw [hD] at PCASE PTAKE PLE PEND P0
  have HB4b := HB4.out
  obtain ⟨Bb, hBb⟩ : ∃ Bb, w.heap.size = Bb := ⟨_, rfl⟩
  rw [hBb] at HB4b HB4 ⊢
  have HBB := Lib.hid hBb
  clear hlS hdS hD HC hBb
  have bbz := lt_of_block HB4b
  have bb0 := cell_of_row w4 _ 0 _ _ _ HB4b
  have bb1 := cell_of_row w4 _ 1 _ _ _ HB4b
  have bb2 := cell_of_row w4 _ 2 _ _ _ HB4b
  have bb3 := cell_of_row w4 _ 3 _ _ _ HB4b
  simp only [List.getElem?_toArray, List.getElem?_cons_zero, List.getElem?_cons_succ] at bb0 bb1 bb2 bb3
  have HB4b' := Lib.hid HB4b
  clear HB4b
  go_wp2_with fail
  refine (PL.out _ _ (HV.out.later B4)).mono ?_
  rintro e w5 ⟨vp, rfl, ⟨Bp, hownp⟩, hb5⟩
  have B5 := below_step B4 (Nat.le_refl _) hb5
  have HB5 := Lib.hid (row_later hb5 HB4.out)
  obtain ⟨ap, capp, rfl⟩ := own_form hownp
  have hrp := RowE.of_own encP_len rfl hownp
  clear hownp hb5 bb0 bb1 bb2 bb3 bbz HB4b' B4 HB4 PL
  go_wp2_with fail
  refine (SS.out _ _ (HV.out.later B5)).mono ?_
  rintro e w6 ⟨vs, rfl, howns, hb6⟩
  obtain ⟨sa, caps, rfl⟩ := own_form howns
  have hrs := RowE.of_own encL_len HLS.out.symm howns
  have HRS := Lib.hid hrs
  have HRP := Lib.hid (hrp.later hb6)
  have HB6 := Lib.hid (row_later hb6 HB5.out)
  have B6 := below_step B5 (Nat.le_refl _) hb6
  obtain ⟨Q, hQ⟩ : ∃ Q, P.length = Q := ⟨_, rfl⟩
  rw [hQ] at HRP hPl PLE PCASE ⊢
  have HQ := Lib.hid hQ
  clear howns hb6 B5 HB5 SS hrs hrp hQ
  go_wp2_with fail
  go_loopw [7, 9] (fun v7 i wr => ∃ k : Nat, k ≤ N ∧ i = .int .i64 k ∧ v7 = .int .i64 (D k).length ∧ Below w6.heap.size w6 wr) (fun _ i _ => N - (intOf i).toNat)
  case atStart => exact ⟨0, by omega, rfl, by rw [P0.out]; rfl, Below.refl _ _⟩
  case round =>
    obtain ⟨k, hk, rfl, rfl, hbr⟩ := hrel
    by_cases hlt : k < N
    · obtain ⟨x, hx⟩ : ∃ x, S[k]? = some x := ⟨S[k]'(by rw [HLS.out]; exact hlt), List.getElem?_eq_getElem _⟩
      obtain ⟨pl, J, hJ4, hinv, hfree, hyes, hno⟩ := PCASE.out k x hx
      have hkQ := PLE.out k
      have hDk := PTAKE.out k
      obtain ⟨kk, hkk⟩ : ∃ kk, (D k).length = kk := ⟨_, rfl⟩
      rw [hkk] at hyes hno hkQ hDk ⊢
      have HKK := Lib.hid hkk
      have HINV := Lib.hid hinv
      have HFREE := Lib.hid hfree
      have HYES := Lib.hid hyes
      have HNO := Lib.hid hno
      have HDK := Lib.hid hDk
      have HX := Lib.hid hx
      obtain ⟨sa1, caps1, hv1, hco⟩ := HRS.out
      obtain ⟨bs, offs, has, hcells⟩ := hco (by rw [HLS.out]; omega)
      have hsa : sa = some ⟨bs, offs, none⟩ := by injection hv1 with e1 _ _; rw [e1, has]
      subst hsa
      have HCX := Lib.hid (fun i u hu => hcells k x hx i u hu)
      clear hinv hfree hyes hno hDk hx hv1 hco hcells has sa1 caps1 hkk
      go_upto_region 10 with fail
      go_cut [10] from 30 to 129 (fun v10 wx => v10 = .bool pl ∧ Below w6.heap.size w6 wx)
      case first =>
        have c0 : wr.cell? ⟨bs, offs + k * 6, none⟩ = some (.string x.id) := cell_later hbr (HCX.out 0 _ rfl)
        by_cases hkl : kk < Q
        · obtain ⟨p, hp⟩ : ∃ p, P[kk]? = some p := ⟨P[kk]'(by rw [HQ.out]; exact hkl), List.getElem?_eq_getElem _⟩
          obtain ⟨ap1, capp1, hv1, hco⟩ := HRP.out
          obtain ⟨bp, offp, hap, hcells⟩ := hco (by rw [HQ.out]; omega)
          have hap2 : ap = some ⟨bp, offp, none⟩ := by injection hv1 with e1 _ _; rw [e1, hap]
          subst hap2
          have d0 : wr.cell? ⟨bp, offp + kk * 5, none⟩ = some (.string p.id) := cell_later hbr (hcells kk p hp 0 _ rfl)
          have hG : decide ((kk : Int) < Q) = true := by rw [decide_eq_true_eq]; omega
          have hpl : (p.id.toList == x.id.toList) = pl := by
            cases pl
            · exact str_eq_false ((HNO.out rfl).2.2 p hp)
            · have := (HYES.out rfl).2.2.1
              rw [hp] at this
              exact str_eq_true (by rw [Option.some.inj this])
          clear hv1 hco hcells hap ap1 capp1 hp
          go_wp2_with fail
          go_quiet (fail)
          go_wp2
          go_meet
          case rel => exact ⟨rfl, hbr.drewN'⟩
        · have hpl : pl = false := by
            cases pl
            · rfl
            · exact absurd (HYES.out rfl).2.1 hkl
          subst hpl
          have hG : decide ((kk : Int) < Q) = false := by rw [decide_eq_false_iff_not]; omega
          have hG2 : ¬ (kk : Int) < Q := by omega
          go_wp2_with fail
          go_quiet (fail)
          go_wp2
          go_meet
          case rel => exact ⟨rfl, hbr.drewN'⟩
      case rest =>
        obtain ⟨rfl, hbc⟩ := hcut
        have c0 : wc.cell? ⟨bs, offs + k * 6, none⟩ = some (.string x.id) := cell_later hbc (HCX.out 0 _ rfl)
        have c1 : wc.cell? ⟨bs, offs + k * 6 + 1, none⟩ = some (.int .i64 x.x) := cell_later hbc (HCX.out 1 _ rfl)
        have c2 : wc.cell? ⟨bs, offs + k * 6 + 2, none⟩ = some (.int .i64 x.y) := cell_later hbc (HCX.out 2 _ rfl)
        have c3 : wc.cell? ⟨bs, offs + k * 6 + 3, none⟩ = some (.int .i64 x.w) := cell_later hbc (HCX.out 3 _ rfl)
        have c4 : wc.cell? ⟨bs, offs + k * 6 + 4, none⟩ = some (.int .i64 x.h) := cell_later hbc (HCX.out 4 _ rfl)
        have c5 : wc.cell? ⟨bs, offs + k * 6 + 5, none⟩ = some (.int .i64 x.rank) := cell_later hbc (HCX.out 5 _ rfl)
        go_wp2_with fail
        refine (rvalid_any x _).mono ?_
        rintro e w8 ⟨rfl, hb8⟩
        have B8 := below_step hbc (Nat.le_refl _) hb8
        clear c0 c1 c2 c3 c4 c5 hb8 hbc
        cases hvl : validL x
        · obtain rfl := HINV.out hvl
          have HG := Lib.hid (show (D (k + 1)).length = kk from (HNO.out rfl).1)
          clear hvl
          go_wp2
          go_roundw
          case rel => exact ⟨k + 1, by omega, by go_num, by rw [HG.out], B8⟩
          case measure => simp [intOf]; omega
        have HVL := Lib.hid hvl
        have c0 : w8.cell? ⟨bs, offs + k * 6, none⟩ = some (.string x.id) := cell_later B8 (HCX.out 0 _ rfl)
        have c1 : w8.cell? ⟨bs, offs + k * 6 + 1, none⟩ = some (.int .i64 x.x) := cell_later B8 (HCX.out 1 _ rfl)
        have c2 : w8.cell? ⟨bs, offs + k * 6 + 2, none⟩ = some (.int .i64 x.y) := cell_later B8 (HCX.out 2 _ rfl)
        have c3 : w8.cell? ⟨bs, offs + k * 6 + 3, none⟩ = some (.int .i64 x.w) := cell_later B8 (HCX.out 3 _ rfl)
        have c4 : w8.cell? ⟨bs, offs + k * 6 + 4, none⟩ = some (.int .i64 x.h) := cell_later B8 (HCX.out 4 _ rfl)
        have c5 : w8.cell? ⟨bs, offs + k * 6 + 5, none⟩ = some (.int .i64 x.rank) := cell_later B8 (HCX.out 5 _ rfl)
        clear hvl
        go_wp2_with fail
        refine (rplaces_any x HVL.out _).mono ?_
        rintro e w9 ⟨g, cap9, rfl, hg, hrow9, hb9⟩
        have B9 := below_step B8 (Nat.le_refl _) hb9
        have HPL := Lib.hid (fun w' hb q hq => placed_cells (hrow9.later (w' := w') hb) q hq)
        have HB9 := Lib.hid (row_later B9 HB6.out)
        have hgs : g < w9.heap.size := lt_of_cell (placed_cells hrow9 0 (by decide)).1
        clear hrow9 hb9 c0 c1 c2 c3 c4 c5 B8 hg
        obtain ⟨wo, rfl⟩ : ∃ wo : World, wo = wr := ⟨_, rfl⟩
        obtain ⟨out, hout⟩ : ∃ out, D k = out := ⟨_, rfl⟩
        rw [hout] at HKK HFREE HDK HYES
        clear hout HINV
        go_wp2_with fail
        go_loopw [12] (fun i wr2 => ∃ n : Nat, n ≤ J ∧ i = .int .i64 n ∧ Below w9.heap.size w9 wr2) (fun i _ => J - (intOf i).toNat)
        case atStart => exact ⟨0, by omega, rfl, Below.refl _ _⟩
        case round =>
          obtain ⟨n, hn, rfl, hb2⟩ := hrel
          by_cases hnJ : n < J
          · obtain ⟨f, hf⟩ : ∃ f, f = placeB x n := ⟨_, rfl⟩
            have hfree := HFREE.out n hnJ
            rw [← hf] at hfree
            have HF := Lib.hid hf
            have HFRN := Lib.hid hfree
            have hn4 : (n : Int) < 4 := by omega
            clear hf hfree
            cases pl
            · have hn4d : decide ((n : Int) < 4) = true := decide_eq_true hn4
              go_wp2_with fail
              go_quiet (fail)
              have BQ : Below w9.heap.size w9 (wr.drewN nq) := hb2.drewN'
              generalize wr.drewN nq = wq at BQ ⊢
              have P7 := HPL.out _ BQ n (by omega)
              rw [← HF.out] at P7
              have k0 := cell_belowBy P7.1
              have k1 := cell_belowBy P7.2.1
              have k2 := cell_belowBy P7.2.2.1
              have k3 := cell_belowBy P7.2.2.2
              have HBq := row_later BQ HB9.out
              have bbz := lt_of_block HBq
              have bb0 := cell_of_row wq _ 0 _ _ _ HBq
              have bb1 := cell_of_row wq _ 1 _ _ _ HBq
              have bb2 := cell_of_row wq _ 2 _ _ _ HBq
              have bb3 := cell_of_row wq _ 3 _ _ _ HBq
              simp only [List.getElem?_toArray, List.getElem?_cons_zero, List.getElem?_cons_succ] at bb0 bb1 bb2 bb3
              have HBq' := Lib.hid HBq
              clear HBq
              have m0 := cell_belowBy bb0
              have m1 := cell_belowBy bb1
              have m2 := cell_belowBy bb2
              have m3 := cell_belowBy bb3
              clear P7 bb0 bb1 bb2 bb3 hb2
              go_wp2_with fail
              refine wp_region_quiet_below (by assumption) (by kernel_rfl) ?_
              repeat (quiet_step (first | (go_at_call 24; exact calls_belowBy (rinside_any f b _))))
              refine wpQuiet_nil ?_
              intro wz hw'
              obtain ⟨⟨wy, hby⟩, hw''⟩ := hw'
              subst hw''
              have BY := below_step BQ (Nat.le_refl _) hby
              clear k0 k1 k2 k3 m0 m1 m2 m3 bbz HBq' hby BQ
              obtain ⟨wo3, rfl⟩ : ∃ wo3 : World, wo3 = wr := ⟨_, rfl⟩
              go_wp2_with fail
              go_loopw [13, 14] (fun v13 i wr3 => ∃ m : Nat, m ≤ kk ∧ i = .int .i64 m ∧ v13 = .bool (!insideB f b || (out.take m).any (fun p => overB f p.box)) ∧ Below wz.heap.size wz wr3) (fun _ i _ => kk - (intOf i).toNat)
              case atStart => exact ⟨0, by omega, rfl, by simp, Below.refl _ _⟩
              case round =>
                obtain ⟨m, hm, rfl, rfl, hb8⟩ := hrel
                have B10 := below_step BY (Nat.le_refl _) hb8
                obtain ⟨fr, hfr⟩ : ∃ fr, fr = (!insideB f b || (out.take m).any (fun p => overB f p.box)) := ⟨_, rfl⟩
                rw [← hfr]
                have HFR := Lib.hid hfr
                clear hfr
                by_cases hmk : m < kk
                · have hG1 : decide ((m : Int) < kk) = true := by rw [decide_eq_true_eq]; omega
                  have hG2 : decide ((m : Int) < Q) = true := by rw [decide_eq_true_eq]; omega
                  obtain ⟨p, hp⟩ : ∃ p, P[m]? = some p := ⟨P[m]'(by rw [HQ.out]; omega), List.getElem?_eq_getElem _⟩
                  have HA := Lib.hid (any_take f out m p (by rw [HDK.out, List.getElem?_take, if_pos hmk]; exact hp))
                  obtain ⟨bp, offp, hap, hcells⟩ := rowE_at HRP.out m p hp
                  cases hap
                  have B11 := below_step B9 (Nat.le_refl _) B10
                  have k4 := cell_belowBy (cell_later B11 (hcells 1 _ rfl))
                  have k5 := cell_belowBy (cell_later B11 (hcells 2 _ rfl))
                  have k6 := cell_belowBy (cell_later B11 (hcells 3 _ rfl))
                  have k7 := cell_belowBy (cell_later B11 (hcells 4 _ rfl))
                  have P8 := HPL.out _ B10 n (by omega)
                  rw [← HF.out] at P8
                  have k0 := cell_belowBy P8.1
                  have k1 := cell_belowBy P8.2.1
                  have k2 := cell_belowBy P8.2.2.1
                  have k3 := cell_belowBy P8.2.2.2
                  clear hcells hp P8 B11
                  cases fr
                  · have HG := Lib.hid (show (!insideB f b || (out.take (m + 1)).any (fun p => overB f p.box)) = overB f p.box by
                      rw [HA.out]; have := HFR.out; revert this; cases insideB f b <;> cases (out.take m).any (fun p => overB f p.box) <;> simp)
                    go_wp2_with fail
                    refine wp_region_quiet_below (by assumption) (by kernel_rfl) ?_
                    repeat (quiet_step (first | (go_at_call 25; exact calls_belowBy (rover_any f p.box _))))
                    refine wpQuiet_nil ?_
                    intro wx hw'
                    obtain ⟨⟨wy2, hby2⟩, hw''⟩ := hw'
                    subst hw''
                    have B12 := below_step hb8 (Nat.le_refl _) hby2
                    go_wp2
                    go_roundw
                    case rel => exact ⟨m + 1, by omega, by go_num, by rw [HG.out], B12⟩
                    case measure => simp [intOf]; omega
                  · have HG := Lib.hid (show (!insideB f b || (out.take (m + 1)).any (fun p => overB f p.box)) = true by
                      rw [HA.out]; have := HFR.out; revert this; cases insideB f b <;> cases (out.take m).any (fun p => overB f p.box) <;> simp)
                    clear k0 k1 k2 k3 k4 k5 k6 k7
                    go_wp2_with fail
                    go_quiet (fail)
                    go_wp2
                    go_roundw
                    case rel => exact ⟨m + 1, by omega, by go_num, by rw [HG.out], hb8.drewN'⟩
                    case measure => simp [intOf]; omega
                · obtain rfl : m = kk := by omega
                  have hfr : fr = true := by
                    have h1 := HFRN.out
                    have h2 := HFR.out
                    rw [List.take_of_length_le (by rw [HKK.out]; exact Nat.le_refl _)] at h2
                    unfold freeB at h1
                    revert h1 h2
                    cases insideB f b <;> cases out.any (fun p => overB f p.box) <;> simp
                  subst hfr
                  have hG1 : decide ((m : Int) < m) = false := by rw [decide_eq_false_iff_not]; omega
                  go_wp2
                  go_roundw
                  case rel => exact ⟨n + 1, by omega, by go_num, B10⟩
                  case measure => simp [intOf]; omega
            · have hy := HYES.out rfl
              have HNE : f ≠ placeB x J := by
                intro e
                have h1 := HFRN.out
                rw [e, hy.2.2.2.1] at h1
                cases h1
              have hn3 : ((n : Int) == 3) = false := by rw [beq_eq_false_iff_ne]; omega
              have hn3' : ¬ (n : Int) = 3 := by omega
              have P7 := HPL.out _ hb2 n (by omega)
              rw [← HF.out] at P7
              obtain ⟨g0, g1, g2, g3⟩ := P7
              obtain ⟨fj, hfj⟩ : ∃ fj, fj = placeB x J := ⟨_, rfl⟩
              obtain ⟨ap1, capp1, hv1, hco⟩ := HRP.out
              obtain ⟨bp, offp, hap, hcells⟩ := hco (by rw [HQ.out]; omega)
              have hap2 : ap = some ⟨bp, offp, none⟩ := by injection hv1 with e1 _ _; rw [e1, hap]
              subst hap2
              have hcl := hcells kk _ hy.2.2.1
              rw [← hfj] at hcl HNE
              have B11 := below_step B9 (Nat.le_refl _) hb2
              have k4 : wr.cell? ⟨bp, offp + kk * 5 + 1, none⟩ = some (.int .i64 fj.a) := cell_later B11 (hcl 1 _ rfl)
              have k5 : wr.cell? ⟨bp, offp + kk * 5 + 2, none⟩ = some (.int .i64 fj.b) := cell_later B11 (hcl 2 _ rfl)
              have k6 : wr.cell? ⟨bp, offp + kk * 5 + 3, none⟩ = some (.int .i64 fj.c) := cell_later B11 (hcl 3 _ rfl)
              have k7 : wr.cell? ⟨bp, offp + kk * 5 + 4, none⟩ = some (.int .i64 fj.d) := cell_later B11 (hcl 4 _ rfl)
              have eqg := eg26
              have eqn := eq_box f fj
              have hd : decide (f = fj) = false := decide_eq_false HNE
              rw [hd] at eqn
              have hkq2 : kk < Q := hy.2.1
              clear hv1 hco hcells hap ap1 capp1 hy hfj hcl HNE hd B11
              go_wp2_with fail
              go_quiet (fail)
              clear g0 g1 g2 g3 k4 k5 k6 k7 eqg eqn
              have BQ : Below w9.heap.size w9 (wr.drewN nq) := hb2.drewN'
              generalize wr.drewN nq = wq at BQ ⊢
              have P7 := HPL.out _ BQ n (by omega)
              rw [← HF.out] at P7
              have k0 := cell_belowBy P7.1
              have k1 := cell_belowBy P7.2.1
              have k2 := cell_belowBy P7.2.2.1
              have k3 := cell_belowBy P7.2.2.2
              have HBq := row_later BQ HB9.out
              have bbz := lt_of_block HBq
              have bb0 := cell_of_row wq _ 0 _ _ _ HBq
              have bb1 := cell_of_row wq _ 1 _ _ _ HBq
              have bb2 := cell_of_row wq _ 2 _ _ _ HBq
              have bb3 := cell_of_row wq _ 3 _ _ _ HBq
              simp only [List.getElem?_toArray, List.getElem?_cons_zero, List.getElem?_cons_succ] at bb0 bb1 bb2 bb3
              have HBq' := Lib.hid HBq
              clear HBq
              have m0 := cell_belowBy bb0
              have m1 := cell_belowBy bb1
              have m2 := cell_belowBy bb2
              have m3 := cell_belowBy bb3
              clear P7 bb0 bb1 bb2 bb3 hb2
              go_wp2_with fail
              refine wp_region_quiet_below (by assumption) (by kernel_rfl) ?_
              repeat (quiet_step (first | (go_at_call 24; exact calls_belowBy (rinside_any f b _))))
              refine wpQuiet_nil ?_
              intro wz hw'
              obtain ⟨⟨wy, hby⟩, hw''⟩ := hw'
              subst hw''
              have BY := below_step BQ (Nat.le_refl _) hby
              clear k0 k1 k2 k3 m0 m1 m2 m3 bbz HBq' hby BQ
              obtain ⟨wo3, rfl⟩ : ∃ wo3 : World, wo3 = wr := ⟨_, rfl⟩
              go_wp2_with fail
              go_loopw [13, 14] (fun v13 i wr3 => ∃ m : Nat, m ≤ kk ∧ i = .int .i64 m ∧ v13 = .bool (!insideB f b || (out.take m).any (fun p => overB f p.box)) ∧ Below wz.heap.size wz wr3) (fun _ i _ => kk - (intOf i).toNat)
              case atStart => exact ⟨0, by omega, rfl, by simp, Below.refl _ _⟩
              case round =>
                obtain ⟨m, hm, rfl, rfl, hb8⟩ := hrel
                have B10 := below_step BY (Nat.le_refl _) hb8
                obtain ⟨fr, hfr⟩ : ∃ fr, fr = (!insideB f b || (out.take m).any (fun p => overB f p.box)) := ⟨_, rfl⟩
                rw [← hfr]
                have HFR := Lib.hid hfr
                clear hfr
                by_cases hmk : m < kk
                · have hG1 : decide ((m : Int) < kk) = true := by rw [decide_eq_true_eq]; omega
                  have hG2 : decide ((m : Int) < Q) = true := by rw [decide_eq_true_eq]; omega
                  obtain ⟨p, hp⟩ : ∃ p, P[m]? = some p := ⟨P[m]'(by rw [HQ.out]; omega), List.getElem?_eq_getElem _⟩
                  have HA := Lib.hid (any_take f out m p (by rw [HDK.out, List.getElem?_take, if_pos hmk]; exact hp))
                  obtain ⟨bp, offp, hap, hcells⟩ := rowE_at HRP.out m p hp
                  cases hap
                  have B11 := below_step B9 (Nat.le_refl _) B10
                  have k4 := cell_belowBy (cell_later B11 (hcells 1 _ rfl))
                  have k5 := cell_belowBy (cell_later B11 (hcells 2 _ rfl))
                  have k6 := cell_belowBy (cell_later B11 (hcells 3 _ rfl))
                  have k7 := cell_belowBy (cell_later B11 (hcells 4 _ rfl))
                  have P8 := HPL.out _ B10 n (by omega)
                  rw [← HF.out] at P8
                  have k0 := cell_belowBy P8.1
                  have k1 := cell_belowBy P8.2.1
                  have k2 := cell_belowBy P8.2.2.1
                  have k3 := cell_belowBy P8.2.2.2
                  clear hcells hp P8 B11
                  cases fr
                  · have HG := Lib.hid (show (!insideB f b || (out.take (m + 1)).any (fun p => overB f p.box)) = overB f p.box by
                      rw [HA.out]; have := HFR.out; revert this; cases insideB f b <;> cases (out.take m).any (fun p => overB f p.box) <;> simp)
                    go_wp2_with fail
                    refine wp_region_quiet_below (by assumption) (by kernel_rfl) ?_
                    repeat (quiet_step (first | (go_at_call 25; exact calls_belowBy (rover_any f p.box _))))
                    refine wpQuiet_nil ?_
                    intro wx hw'
                    obtain ⟨⟨wy2, hby2⟩, hw''⟩ := hw'
                    subst hw''
                    have B12 := below_step hb8 (Nat.le_refl _) hby2
                    go_wp2
                    go_roundw
                    case rel => exact ⟨m + 1, by omega, by go_num, by rw [HG.out], B12⟩
                    case measure => simp [intOf]; omega
                  · have HG := Lib.hid (show (!insideB f b || (out.take (m + 1)).any (fun p => overB f p.box)) = true by
                      rw [HA.out]; have := HFR.out; revert this; cases insideB f b <;> cases (out.take m).any (fun p => overB f p.box) <;> simp)
                    clear k0 k1 k2 k3 k4 k5 k6 k7
                    go_wp2_with fail
                    go_quiet (fail)
                    go_wp2
                    go_roundw
                    case rel => exact ⟨m + 1, by omega, by go_num, by rw [HG.out], hb8.drewN'⟩
                    case measure => simp [intOf]; omega
                · obtain rfl : m = kk := by omega
                  have hfr : fr = true := by
                    have h1 := HFRN.out
                    have h2 := HFR.out
                    rw [List.take_of_length_le (by rw [HKK.out]; exact Nat.le_refl _)] at h2
                    unfold freeB at h1
                    revert h1 h2
                    cases insideB f b <;> cases out.any (fun p => overB f p.box) <;> simp
                  subst hfr
                  have hG1 : decide ((m : Int) < m) = false := by rw [decide_eq_false_iff_not]; omega
                  go_wp2
                  go_roundw
                  case rel => exact ⟨n + 1, by omega, by go_num, B10⟩
                  case measure => simp [intOf]; omega
          · obtain rfl : n = J := by omega
            have B10 := below_step B9 (Nat.le_refl _) hb2
            cases pl
            · obtain rfl := (HNO.out rfl).2.1 HVL.out
              have HG := Lib.hid (show (D (k + 1)).length = kk from (HNO.out rfl).1)
              go_wp2
              go_roundw
              case rel => exact ⟨k + 1, by omega, by go_num, by rw [HG.out], B10⟩
              case measure => simp [intOf]; omega
            · have hy := HYES.out rfl
              have HG := Lib.hid hy.2.2.2.2
              have hn4 : (n : Int) < 4 := by omega
              have hn4d : decide ((n : Int) < 4) = true := decide_eq_true hn4
              obtain ⟨g0, g1, g2, g3⟩ := HPL.out _ hb2 n hy.1
              obtain ⟨fj, hfj⟩ : ∃ fj, fj = placeB x n := ⟨_, rfl⟩
              obtain ⟨ap1, capp1, hv1, hco⟩ := HRP.out
              obtain ⟨bp, offp, hap, hcells⟩ := hco (by rw [HQ.out]; omega)
              have hap2 : ap = some ⟨bp, offp, none⟩ := by injection hv1 with e1 _ _; rw [e1, hap]
              subst hap2
              have hcl := hcells kk _ hy.2.2.1
              rw [← hfj] at hcl g0 g1 g2 g3
              have k4 : wr.cell? ⟨bp, offp + kk * 5 + 1, none⟩ = some (.int .i64 fj.a) := cell_later B10 (hcl 1 _ rfl)
              have k5 : wr.cell? ⟨bp, offp + kk * 5 + 2, none⟩ = some (.int .i64 fj.b) := cell_later B10 (hcl 2 _ rfl)
              have k6 : wr.cell? ⟨bp, offp + kk * 5 + 3, none⟩ = some (.int .i64 fj.c) := cell_later B10 (hcl 3 _ rfl)
              have k7 : wr.cell? ⟨bp, offp + kk * 5 + 4, none⟩ = some (.int .i64 fj.d) := cell_later B10 (hcl 4 _ rfl)
              have eqg := eg26
              have eqn := eq_box fj fj
              have hd : decide (fj = fj) = true := decide_eq_true rfl
              rw [hd] at eqn
              have hkq2 : kk < Q := hy.2.1
              have WK : IntKind.i64.wrap ((kk : Int) + 1) = (kk : Int) + 1 := IntWalk.i64_in _ (by omega)
              clear hv1 hco hcells hap ap1 capp1 hy hfj hcl hd
              go_wp2_with fail
              go_quiet (fail)
              go_wp2
              go_roundw
              case rel => exact ⟨k + 1, by omega, by go_num, by rw [HG.out]; rfl, B10.drewN'⟩
              case measure => simp [intOf]; omega
    · obtain rfl : k = N := by omega
      have hkQ : (D k).length = Q := by rw [PEND.out, HQ.out]
      rw [hkQ]
      have BF := below_step B6 (Nat.le_refl _) hbr
      go_wp2
      go_ret
      exact ⟨rfl, BF⟩
end Go.Proofs.YtapllmniplgajaaGreatDoor
