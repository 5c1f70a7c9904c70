/- The reference's Place. -/
import Derived.Test.YtapllmniplgajaaGreatDoorRefB
import Derived.Test.YtapllmniplgajaaGreatDoorRefC
import Derived.Test.YtapllmniplgajaaGreatDoorObjN
namespace Go.Proofs.YtapllmniplgajaaGreatDoor
open Go.RowKit Go.Sort Go.Lib

theorem enc4 (x : LabD) (q : Nat) (hq : q < 4) : (places4 x)[q]? = some (placeB x q) := by
  match q, hq with
  | 0, _ => rfl
  | 1, _ => rfl
  | 2, _ => rfl
  | 3, _ => rfl
theorem any_take (f : BoxD) (out : List PlaD) (m : Nat) (p : PlaD) (hp : out[m]? = some p) : (out.take (m + 1)).any (fun p => overB f p.box) = ((out.take m).any (fun p => overB f p.box) || overB f p.box) := by
  obtain ⟨hk, rfl⟩ := List.getElem?_eq_some_iff.1 hp
  rw [List.take_succ_eq_append_getElem hk, List.any_append]; simp

theorem placed_cells {w : World} {g cap : Nat} {x : LabD} (h : RowE encB 4 w (.slice (some ⟨g, 0, none⟩) 4 cap) (places4 x)) (q : Nat) (hq : q < 4) :
    w.cell? ⟨g, q * 4, none⟩ = some (.int .i64 (placeB x q).a) ∧ w.cell? ⟨g, q * 4 + 1, none⟩ = some (.int .i64 (placeB x q).b) ∧ w.cell? ⟨g, q * 4 + 2, none⟩ = some (.int .i64 (placeB x q).c) ∧ w.cell? ⟨g, q * 4 + 3, none⟩ = some (.int .i64 (placeB x q).d) := by
  obtain ⟨a, cap', hv, hc⟩ := h
  obtain ⟨b, off, ha, hcell⟩ := hc (by show 0 < 4; decide)
  injection hv with h1 h2 h3
  rw [ha] at h1
  injection h1 with h1
  injection h1 with e1 e2
  subst e1 e2
  have h0 := hcell q _ (enc4 x q hq)
  simp only [Nat.zero_add] at h0
  exact ⟨h0 0 _ rfl, h0 1 _ rfl, h0 2 _ rfl, h0 3 _ rfl⟩
theorem own_block {w : World} {B size n : Nat} {e : TypeId} {v : Value} {xs : List Value} (h : w.ownsRow B e size v n xs) (g : Nat) (hg : g < B ∨ w.heap.size ≤ g) : some g ≠ v.ownBlock := by
  rcases h.2 with ⟨rfl, _⟩ | ⟨j, cap, cur, rfl, hb, hr, _⟩
  · simp [Value.ownBlock]
  · have := lt_of_block hr
    intro e
    obtain rfl : g = j := by simpa [Value.ownBlock] using e
    omega

def RPlacePost (b : BoxD) (l : List LabD) (w : World) (e : Ending) (w' : World) : Prop := ∃ v', e = .returned v' ∧ RowE encP 5 w' v' (placeL b (isort (ltOf cfL) l)) ∧ Below w.heap.size w w'

set_option maxRecDepth 100000 in
set_option maxHeartbeats 4000000 in
theorem rplace_any (v : Value) (l : List LabD) (b : BoxD) (w : World) (hl : l.length ≤ 40) (hv : LabRow w v l) :
    Calls Tryz.prog 14 #[v, .agg #[.int .i64 b.a, .int .i64 b.b, .int .i64 b.c, .int .i64 b.d]] w (RPlacePost b l w) := by
  have mixed : Tryz.prog.follows .mixedOrders = true := by kernel_rfl
  have SD := Lib.hid (fun w' hb => rsorted_any v l w' (hv.later (w' := w') hb) hl)
  have HFIN := Lib.hid (show placeL b (isort (ltOf cfL) l) = (isort (ltOf cfL) l).foldl (stepL b) [] from rfl)
  have hsl : (isort (ltOf cfL) l).length = l.length := isort_length _ l
  obtain ⟨i0, hi, hi0, hi1, hi2⟩ := info_parts infoPlaced
  obtain ⟨N, hN⟩ : ∃ N, l.length = N := ⟨_, rfl⟩
  unfold SortedPost at SD
  rw [hN] at SD hl hsl
  generalize hRR : placeL b (isort (ltOf cfL) l) = R at HFIN
  unfold RPlacePost
  rw [hRR]
  clear hRR hN hv
  generalize isort (ltOf cfL) l = S at SD hsl HFIN
  go_enter Tryz.func14, Tryz.ntmps14
  go_wp2_with fail
  have B1 : Below w.heap.size w (w.alloc (.cells #[.int .i64 b.a, .int .i64 b.b, .int .i64 b.c, .int .i64 b.d] 26)) := (Below.refl _ w).alloc (Nat.le_refl _) _
  have HO := row_new w (.cells #[.int .i64 b.a, .int .i64 b.b, .int .i64 b.c, .int .i64 b.d] 26)
  generalize hw1 : w.alloc (.cells #[.int .i64 b.a, .int .i64 b.b, .int .i64 b.c, .int .i64 b.d] 26) = w1
  rw [hw1] at B1 HO
  clear hw1
  refine (SD.out _ B1).mono ?_
  rintro e w2 ⟨v2, rfl, hown, hb2⟩
  have HO2 := row_later hb2 HO
  have B2 := below_step B1 (Nat.le_refl _) hb2
  have hR := RowE.of_own encL_len hsl.symm hown
  clear SD hb2 HO B1 hown
  have hz2 := lt_of_block HO2
  obtain ⟨a, cap, rfl, hc⟩ := hR
  rw [hsl] at hc ⊢
  have HN := Lib.hid hsl
  have HC := Lib.hid hc
  have HBX := Lib.hid HO2
  clear hsl hc HO2
  go_wp2
  go_loopw [5, 6] (fun v5 i wr => ∃ k : Nat, k ≤ N ∧ i = .int .i64 k ∧ wr.ownsRow w2.heap.size 43 5 v5 ((S.take k).foldl (stepL b) []).length (((S.take k).foldl (stepL b) []).flatMap encP) ∧ Below w2.heap.size w2 wr) (fun _ i _ => N - (intOf i).toNat)
  case atStart => exact ⟨0, by omega, rfl, ⟨rfl, Or.inl ⟨rfl, rfl⟩⟩, Below.refl _ _⟩
  case round =>
    obtain ⟨k, hk, rfl, hown, hbr⟩ := hrel
    by_cases hlt : k < N
    · obtain ⟨x, hx⟩ : ∃ x, S[k]? = some x := ⟨S[k]'(by rw [HN.out]; exact hlt), List.getElem?_eq_getElem _⟩
      obtain ⟨bs, off, ha, hcell⟩ := HC.out (by omega)
      subst ha
      have HCX := Lib.hid (fun i u hu => hcell k x hx i u hu)
      have hbs : bs < w2.heap.size := lt_of_cell (hcell k x hx 0 _ rfl)
      have c0 : wr.cell? ⟨bs, off + k * 6, none⟩ = some (.string x.id) := cell_later hbr (hcell k x hx 0 _ rfl)
      have c1 : wr.cell? ⟨bs, off + k * 6 + 1, none⟩ = some (.int .i64 x.x) := cell_later hbr (hcell k x hx 1 _ rfl)
      have c2 : wr.cell? ⟨bs, off + k * 6 + 2, none⟩ = some (.int .i64 x.y) := cell_later hbr (hcell k x hx 2 _ rfl)
      have c3 : wr.cell? ⟨bs, off + k * 6 + 3, none⟩ = some (.int .i64 x.w) := cell_later hbr (hcell k x hx 3 _ rfl)
      have c4 : wr.cell? ⟨bs, off + k * 6 + 4, none⟩ = some (.int .i64 x.h) := cell_later hbr (hcell k x hx 4 _ rfl)
      have c5 : wr.cell? ⟨bs, off + k * 6 + 5, none⟩ = some (.int .i64 x.rank) := cell_later hbr (hcell k x hx 5 _ rfl)
      have HT := Lib.hid (place_take b S k x hx)
      have hol : ((S.take k).foldl (stepL b) []).length ≤ 40 := by
        have := place_len b (S.take k) []
        rw [List.length_take] at this
        simp at this; omega
      generalize (S.take k).foldl (stepL b) [] = out at hown HT hol
      have HOWN := Lib.hid hown
      clear hcell hx hown
      go_wp2_with fail
      refine (rvalid_any x _).mono ?_
      rintro e w3 ⟨rfl, hb3⟩
      have B3 := below_step hbr (Nat.le_refl _) hb3
      have O3 := Lib.hid (own_later HOWN.out hb3)
      clear HOWN hb3 hbr c0 c1 c2 c3 c4 c5
      cases hvl : validL x
      · have HG := Lib.hid (show (S.take (k + 1)).foldl (stepL b) [] = out by rw [HT.out]; unfold stepL; rw [hvl]; rfl)
        clear hvl
        go_wp2
        go_roundw
        case rel => exact ⟨k + 1, by omega, by go_num, by rw [HG.out]; exact O3.out, B3⟩
        case measure => simp [intOf]; omega
      · have HG := Lib.hid (show (S.take (k + 1)).foldl (stepL b) [] = tryAt b x out 0 4 by rw [HT.out]; unfold stepL; rw [hvl]; rfl)
        have HVL := Lib.hid hvl
        have c0 : w3.cell? ⟨bs, off + k * 6, none⟩ = some (.string x.id) := cell_later B3 (HCX.out 0 _ rfl)
        have c1 : w3.cell? ⟨bs, off + k * 6 + 1, none⟩ = some (.int .i64 x.x) := cell_later B3 (HCX.out 1 _ rfl)
        have c2 : w3.cell? ⟨bs, off + k * 6 + 2, none⟩ = some (.int .i64 x.y) := cell_later B3 (HCX.out 2 _ rfl)
        have c3 : w3.cell? ⟨bs, off + k * 6 + 3, none⟩ = some (.int .i64 x.w) := cell_later B3 (HCX.out 3 _ rfl)
        have c4 : w3.cell? ⟨bs, off + k * 6 + 4, none⟩ = some (.int .i64 x.h) := cell_later B3 (HCX.out 4 _ rfl)
        have c5 : w3.cell? ⟨bs, off + k * 6 + 5, none⟩ = some (.int .i64 x.rank) := cell_later B3 (HCX.out 5 _ rfl)
        clear hvl HT
        go_wp2_with fail
        refine (rplaces_any x HVL.out _).mono ?_
        rintro e w4 ⟨g, cap4, rfl, hg, hrow4, hb4⟩
        have B4 := below_step B3 (Nat.le_refl _) hb4
        have O4h := own_later O3.out hb4
        obtain ⟨ao, cpo, rfl⟩ := own_form O4h
        have HNEg := Lib.hid (own_block O3.out g (Or.inr hg))
        have HNEb := Lib.hid (own_block O3.out bs (Or.inl hbs))
        have O4 := Lib.hid O4h
        have HP4 := Lib.hid hrow4
        have HBX4 := Lib.hid (row_later B4 HBX.out)
        have hgs : g < w4.heap.size := lt_of_cell (placed_cells hrow4 0 (by decide)).1
        clear O3 O4h hb4 hrow4 c0 c1 c2 c3 c4 c5
        obtain ⟨wo, rfl⟩ : ∃ wo : World, wo = wr := ⟨_, rfl⟩
        obtain ⟨L, hL⟩ : ∃ L, out.length = L := ⟨_, rfl⟩
        rw [hL] at O4 hol HNEg HNEb ⊢
        have HL := Lib.hid hL
        clear hL
        go_wp2
        have HOE := Lib.hid (RowE.of_own encP_len HL.out.symm O4.out)
        go_loopw [5, 8] (fun v5 i wr2 => ∃ q : Nat, q ≤ 4 ∧ i = .int .i64 q ∧ v5 = .slice ao L cpo ∧ tryAt b x out q (4 - q) = tryAt b x out 0 4 ∧ Below w4.heap.size w4 wr2) (fun _ i _ => 4 - (intOf i).toNat)
        case atStart => exact ⟨0, by omega, rfl, rfl, rfl, Below.refl _ _⟩
        case round =>
          obtain ⟨q, hq, rfl, rfl, hT4, hb5⟩ := hrel
          by_cases hq4 : q < 4
          · obtain ⟨f, hf⟩ : ∃ f, f = placeB x q := ⟨_, rfl⟩
            have HF := Lib.hid hf
            have HTQ := Lib.hid (show tryAt b x out 0 4 = if freeB b f out then out ++ [⟨x.id, f⟩] else tryAt b x out (q + 1) (4 - (q + 1)) by rw [← hT4, hf, show 4 - q = (4 - (q + 1)) + 1 by omega]; rfl)
            have P5 := placed_cells (HP4.out.later hb5) q hq4
            rw [← hf] at P5
            have k0 := cell_belowBy P5.1
            have k1 := cell_belowBy P5.2.1
            have k2 := cell_belowBy P5.2.2.1
            have k3 := cell_belowBy P5.2.2.2
            have HB5 := row_later hb5 HBX4.out
            have bbz := lt_of_block HB5
            have bb0 := cell_of_row wr _ 0 _ _ _ HB5
            have bb1 := cell_of_row wr _ 1 _ _ _ HB5
            have bb2 := cell_of_row wr _ 2 _ _ _ HB5
            have bb3 := cell_of_row wr _ 3 _ _ _ HB5
            simp only [List.getElem?_toArray, List.getElem?_cons_zero, List.getElem?_cons_succ] at bb0 bb1 bb2 bb3
            have HB5' := Lib.hid HB5
            clear HB5
            have m0 := cell_belowBy bb0
            have m1 := cell_belowBy bb1
            have m2 := cell_belowBy bb2
            have m3 := cell_belowBy bb3
            have PC := Lib.hid (fun w' hb => placed_cells (HP4.out.later (w' := w') hb) q hq4)
            rw [← hf] at PC
            clear hT4 hf bb0 bb1 bb2 bb3 P5
            go_wp2_with fail
            refine wp_region_quiet_below (by assumption) (by kernel_rfl) ?_
            repeat (quiet_step (first | (go_at_call 24; exact calls_belowBy (rinside_any f b _))))
            refine wpQuiet_nil ?_
            intro w6 hw'
            obtain ⟨⟨w7, hb7⟩, hw''⟩ := hw'
            subst hw''
            have B7 := below_step hb5 (Nat.le_refl _) hb7
            clear k0 k1 k2 k3 m0 m1 m2 m3 bbz HB5' hb5 hb7
            obtain ⟨wo2, rfl⟩ : ∃ wo2 : World, wo2 = wr := ⟨_, rfl⟩
            go_wp2_with fail
            go_loopw [9, 10] (fun v9 i wr3 => ∃ m : Nat, m ≤ L ∧ i = .int .i64 m ∧ v9 = .bool (insideB f b && !(out.take m).any (fun p => overB f p.box)) ∧ Below w6.heap.size w6 wr3) (fun _ i _ => L - (intOf i).toNat)
            case atStart => exact ⟨0, by omega, rfl, by simp, Below.refl _ _⟩
            case round =>
              obtain ⟨m, hm, rfl, rfl, hb8⟩ := hrel
              have B8 := below_step B7 (Nat.le_refl _) hb8
              obtain ⟨fr, hfr⟩ : ∃ fr, fr = (insideB f b && !(out.take m).any (fun p => overB f p.box)) := ⟨_, rfl⟩
              rw [← hfr]
              have HFR := Lib.hid hfr
              clear hfr
              by_cases hmL : m < L
              · obtain ⟨p, hp⟩ : ∃ p, out[m]? = some p := ⟨out[m]'(by rw [HL.out]; exact hmL), List.getElem?_eq_getElem _⟩
                have HA := Lib.hid (any_take f out m p hp)
                obtain ⟨ao2, cpo2, hv2, hco⟩ := HOE.out
                obtain ⟨bo, offo, hao, hcell⟩ := hco (by rw [HL.out]; omega)
                have hao2 : ao = some ⟨bo, offo, none⟩ := by injection hv2 with e1 _ _; rw [e1, hao]
                subst hao2
                clear hv2 hco hao ao2 cpo2
                have k4 := cell_belowBy (cell_later B8 (hcell m p hp 1 _ rfl))
                have k5 := cell_belowBy (cell_later B8 (hcell m p hp 2 _ rfl))
                have k6 := cell_belowBy (cell_later B8 (hcell m p hp 3 _ rfl))
                have k7 := cell_belowBy (cell_later B8 (hcell m p hp 4 _ rfl))
                have P8 := PC.out _ B8
                have k0 := cell_belowBy P8.1
                have k1 := cell_belowBy P8.2.1
                have k2 := cell_belowBy P8.2.2.1
                have k3 := cell_belowBy P8.2.2.2
                clear hcell hp P8
                cases fr
                · have HG := Lib.hid (show (insideB f b && !(out.take (m + 1)).any (fun p => overB f p.box)) = false by
                    rw [HA.out]; have := HFR.out; revert this; cases insideB f b <;> cases (out.take m).any (fun p => overB f p.box) <;> simp)
                  go_wp2_with fail
                  clear k0 k1 k2 k3 k4 k5 k6 k7
                  go_quiet (fail)
                  go_wp2
                  go_roundw
                  case rel => exact ⟨m + 1, by omega, by go_num, by rw [HG.out], hb8.drewN'⟩
                  case measure => simp [intOf]; omega
                · have HG := Lib.hid (show (insideB f b && !(out.take (m + 1)).any (fun p => overB f p.box)) = !overB f p.box by
                    rw [HA.out]; have := HFR.out; revert this; cases insideB f b <;> cases (out.take m).any (fun p => overB f p.box) <;> simp)
                  go_wp2_with fail
                  refine wp_region_quiet_below (by assumption) (by kernel_rfl) ?_
                  repeat (quiet_step (first | (go_at_call 25; exact calls_belowBy (rover_any f p.box _))))
                  refine wpQuiet_nil ?_
                  intro w9 hw'
                  obtain ⟨⟨w10, hb10⟩, hw''⟩ := hw'
                  subst hw''
                  have B10 := below_step hb8 (Nat.le_refl _) hb10
                  go_wp2
                  go_roundw
                  case rel => exact ⟨m + 1, by omega, by go_num, by rw [HG.out], B10⟩
                  case measure => simp [intOf]; omega
              · obtain rfl : m = L := by omega
                have HFB := Lib.hid (show fr = freeB b f out by rw [HFR.out, List.take_of_length_le (by rw [HL.out]; exact Nat.le_refl _)]; rfl)
                clear HFR
                cases fr
                · have HGo := Lib.hid (show tryAt b x out (q + 1) (4 - (q + 1)) = tryAt b x out 0 4 by rw [HTQ.out, ← HFB.out]; rfl)
                  go_wp2
                  go_roundw
                  case rel => exact ⟨q + 1, by omega, by go_num, rfl, HGo.out, B8⟩
                  case measure => simp [intOf]; omega
                · have HGo := Lib.hid (show out ++ [⟨x.id, f⟩] = (S.take (k + 1)).foldl (stepL b) [] by rw [HG.out, HTQ.out, ← HFB.out]; rfl)
                  have B28 := below_step B4 (Nat.le_refl _) B8
                  have O8 := own_later O4.out B8
                  have c0 : wr.cell? ⟨bs, off + k * 6, none⟩ = some (.string x.id) := cell_later B28 (HCX.out 0 _ rfl)
                  obtain ⟨g0, g1, g2, g3⟩ := PC.out _ B8
                  have NEb := HNEb.out
                  have NEg := HNEg.out
                  clear hb8 B8 B4 B7 HFB
                  go_wp2_with fail
                  go_region_held3 (fun w' => w'.cell? ⟨bs, off + k * 6, none⟩ = some (.string x.id) ∧ w'.cell? ⟨g, q * 4, none⟩ = some (.int .i64 f.a) ∧ w'.cell? ⟨g, q * 4 + 1, none⟩ = some (.int .i64 f.b) ∧ w'.cell? ⟨g, q * 4 + 2, none⟩ = some (.int .i64 f.c) ∧ w'.cell? ⟨g, q * 4 + 3, none⟩ = some (.int .i64 f.d) ∧ Below w2.heap.size w2 w')
                    (first
                      | exact ⟨c0, g0, g1, g2, g3, B28.drew⟩
                      | (have hq := (‹_ ∧ _ ∧ _ ∧ _ ∧ _ ∧ Below w2.heap.size w2 _›); exact ⟨cell_upn hq.1, cell_upn hq.2.1, cell_upn hq.2.2.1, cell_upn hq.2.2.2.1, cell_upn hq.2.2.2.2.1, hq.2.2.2.2.2.alloc hq.2.2.2.2.2.size _⟩)
                      | (have hq := (‹_ ∧ _ ∧ _ ∧ _ ∧ _ ∧ Below w2.heap.size w2 _›); exact ⟨hgrow1.cell hq.1 NEb, hgrow1.cell hq.2.1 NEg, hgrow1.cell hq.2.2.1 NEg, hgrow1.cell hq.2.2.2.1 NEg, hgrow1.cell hq.2.2.2.2.1 NEg, hq.2.2.2.2.2.trans hbA⟩)
                      | assumption)
                    (first
                      | (rw [if_pos (by rfl)]; refine wp_append_own_src _ (.tmp 63) (.tmp 74) 30 rfl w2.heap.size 43 i0 (.agg #[.string ⟨#[]⟩, .int .i64 0, .int .i64 0, .int .i64 0, .int .i64 0]) 5 48 Tryz.underlying30 hi hi0 hi1 hi2 rfl (by decide) _ _ (out.flatMap encP) rfl (by first | exact (own_later O8 (Below.refl _ _).drew).alloc _ | exact own_later O8 (((Below.refl _ _).drew).alloc (Nat.le_refl _) _)) 1 (encP ⟨x.id, f⟩) ⟨some _, _, rfl, Or.inr ⟨_, rfl, cells_new0 _ _ _⟩⟩ (encP_len _) (encP_one _) (by unfold maxLen; omega) (by omega) (by first | exact (‹_ ∧ _ ∧ _ ∧ _ ∧ _ ∧ Below w2.heap.size w2 _›).2.2.2.2.2.size | (simp; omega)) ?_; intro v1 w10 hown1 hgrow1 hbA))
                  have B10 := (‹_ ∧ _ ∧ _ ∧ _ ∧ _ ∧ Below w2.heap.size w2 _›).2.2.2.2.2
                  have HOW := Lib.hid (show w10.ownsRow w2.heap.size 43 5 v1 ((S.take (k + 1)).foldl (stepL b) []).length (((S.take (k + 1)).foldl (stepL b) []).flatMap encP) by rw [← HGo.out, List.length_append, List.flatMap_append, HL.out]; simpa using hown1)
                  clear hown1 hgrow1 hbA
                  go_wp2
                  go_roundw
                  case rel => exact ⟨k + 1, by omega, by go_num, HOW.out, B10⟩
                  case measure => simp [intOf]; omega
          · obtain rfl : q = 4 := by omega
            have HGo := Lib.hid (show (S.take (k + 1)).foldl (stepL b) [] = out by rw [HG.out, ← hT4]; rfl)
            have O5 := Lib.hid (own_later O4.out hb5)
            have B5 := below_step B4 (Nat.le_refl _) hb5
            clear hT4 O4
            go_wp2
            go_roundw
            case rel => exact ⟨k + 1, by omega, by go_num, by rw [HGo.out, HL.out]; exact O5.out, B5⟩
            case measure => simp [intOf]; omega
    · obtain rfl : k = N := by omega
      have HFin := Lib.hid (show R = (S.take k).foldl (stepL b) [] by rw [HFIN.out, List.take_of_length_le (by rw [HN.out]; exact Nat.le_refl _)])
      have HOW := Lib.hid hown
      have BF := below_step B2 (Nat.le_refl _) hbr
      clear hown
      go_wp2
      go_ret
      exact ⟨_, rfl, by rw [HFin.out]; exact RowE.of_own encP_len rfl HOW.out, BF⟩
end Go.Proofs.YtapllmniplgajaaGreatDoor
