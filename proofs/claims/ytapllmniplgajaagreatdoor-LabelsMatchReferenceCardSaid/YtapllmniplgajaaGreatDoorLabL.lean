/- Contract of label.Place. -/
import Derived.Test.YtapllmniplgajaaGreatDoorLabR
namespace Go.Proofs.YtapllmniplgajaaGreatDoor
open Go.Shelf Go.RowKit Go.Lib Go.Sort

theorem enter_corner (i : Nat) (hi : i < 4) (args : Array Value) (w : World) : (callFunc (61 + i) args).run Tryz.prog w = .ok (.enter (61 + i) args) w := by
  match i, hi with
  | 0, _ => exact enters_of Tryz.func61 (by kernel_rfl) rfl args w
  | 1, _ => exact enters_of Tryz.func62 (by kernel_rfl) rfl args w
  | 2, _ => exact enters_of Tryz.func63 (by kernel_rfl) rfl args w
  | 3, _ => exact enters_of Tryz.func64 (by kernel_rfl) rfl args w
theorem own_later {w w' : World} {B e size n : Nat} {v : Value} {xs : List Value} (h : w.ownsRow B e size v n xs) (hb : Below w.heap.size w w') : w'.ownsRow B e size v n xs := by
  refine ⟨h.1, ?_⟩
  rcases h.2 with h0 | ⟨g, cap, cur, h1, h2, h3, h4⟩
  · exact Or.inl h0
  · exact Or.inr ⟨g, cap, cur, h1, h2, row_later hb h3, h4⟩
theorem cells_new (w : World) (cs : List Value) (t : TypeId) : ∀ (j : Nat) (u : Value), cs[j]? = some u → (w.alloc (.cells cs.toArray t)).cell? ((⟨w.heap.size, 0, none⟩ : Addr).add j) = some u := by
  intro j u hj
  have hadd : (⟨w.heap.size, 0, none⟩ : Addr).add j = ⟨w.heap.size, j, none⟩ := by unfold Addr.add; split <;> simp_all
  rw [hadd, cell_of_row _ _ j _ _ _ (row_new w _)]
  simpa using hj
theorem appended {W w1 : World} {n₀ : Nat} {e : TypeId} {size : Nat} {v : Value} {k : Nat} {xs : List Value} {tmp : Obj}
    (hrow : W.ownsRow n₀ e size v k xs) (hn₀ : n₀ ≤ W.heap.size) (hgrow : (W.alloc tmp).grownBy w1 v.ownBlock) : Below n₀ W w1 := by
  refine ((Below.refl n₀ W).alloc hn₀ tmp).grown hgrow (by simp; omega) fun j ej => ?_
  rcases hrow.2 with ⟨rfl, _⟩ | ⟨g, cap, cur, rfl, hb, _, _⟩
  · simp [Value.ownBlock] at ej
  · obtain rfl : g = j := by simpa [Value.ownBlock] using ej
    exact hb
theorem infoPlaced : (Tryz.prog.info? 43).map (fun i => (i.zero, i.size, i.bytes)) = some (some (.agg #[.string ⟨#[]⟩, .int .i64 0, .int .i64 0, .int .i64 0, .int .i64 0]), 5, 48) := by kernel_rfl

set_option maxRecDepth 100000 in
set_option maxHeartbeats 4000000 in
theorem place_own (v : Value) (l : List LabD) (b : BoxD) (w : World) (hl : l.length ≤ 40) (hv : LabRow w v l) :
    Calls Tryz.prog 13 #[v, .agg #[.int .i64 b.a, .int .i64 b.b, .int .i64 b.c, .int .i64 b.d]] w fun e w' => ∃ v', e = .returned v' ∧ (∃ B, w'.ownsRow B 43 5 v' (placeL b (isort (ltOf cfL) l)).length ((placeL b (isort (ltOf cfL) l)).flatMap encP)) ∧ Below w.heap.size w w' := by
  have SD := Lib.hid (fun w' hb => sorted_any v l w' hl (hv.later (w' := w') hb))
  have hsl : (isort (ltOf cfL) l).length ≤ 40 := by rw [isort_length]; exact hl
  obtain ⟨i0, hi, hi0, hi1, hi2⟩ := info_parts infoPlaced
  generalize isort (ltOf cfL) l = S at SD hsl ⊢
  clear hv hl
  go_enter Tryz.func13, Tryz.ntmps13
  go_wp2_with fail
  have B1 : Below w.heap.size w (w.alloc (.cells #[.int .i64 b.a, .int .i64 b.b, .int .i64 b.c, .int .i64 b.d] 26)) := (Below.refl _ w).alloc (Nat.le_refl _) _
  have HO := row_new w (.cells #[.int .i64 b.a, .int .i64 b.b, .int .i64 b.c, .int .i64 b.d] 26)
  generalize hw1 : w.alloc (.cells #[.int .i64 b.a, .int .i64 b.b, .int .i64 b.c, .int .i64 b.d] 26) = w1
  rw [hw1] at B1 HO
  clear hw1
  refine (SD.out _ B1).mono ?_
  rintro e w2 ⟨v2, rfl, hL, hb2⟩
  have HO2 := row_later hb2 HO
  have B2 := below_step B1 (Nat.le_refl _) hb2
  clear SD hb2 HO B1
  have hz2 := lt_of_block HO2
  obtain ⟨a, cap, rfl, hc⟩ := hL
  generalize hN : S.length = N at *
  have HN := Lib.hid hN
  have HC := Lib.hid hc
  have HBX := Lib.hid HO2
  clear hN hc HO2
  go_wp2
  go_loopw [5, 16] (fun v5 i wr => ∃ k : Nat, k ≤ N ∧ i = .int .i64 k ∧ wr.ownsRow w2.heap.size 43 5 v5 ((S.take k).foldl (stepL b) []).length (((S.take k).foldl (stepL b) []).flatMap encP) ∧ Below w2.heap.size w2 wr) (fun _ i _ => N - (intOf i).toNat)
  case atStart => exact ⟨0, by omega, rfl, ⟨rfl, Or.inl ⟨rfl, rfl⟩⟩, Below.refl _ _⟩
  case round =>
    obtain ⟨k, hk, rfl, hown, hbr⟩ := hrel
    by_cases hlt : k < N
    · obtain ⟨x, hx⟩ : ∃ x, S[k]? = some x := ⟨S[k]'(by rw [HN.out]; exact hlt), List.getElem?_eq_getElem _⟩
      obtain ⟨bs, off, ha, hcell⟩ := HC.out (by omega)
      subst ha
      have c0 : wr.cell? ⟨bs, off + k * 6, none⟩ = some (.string x.id) := cell_later hbr (hcell k x hx 0 _ rfl)
      have c1 : wr.cell? ⟨bs, off + k * 6 + 1, none⟩ = some (.int .i64 x.x) := cell_later hbr (hcell k x hx 1 _ rfl)
      have c2 : wr.cell? ⟨bs, off + k * 6 + 2, none⟩ = some (.int .i64 x.y) := cell_later hbr (hcell k x hx 2 _ rfl)
      have c3 : wr.cell? ⟨bs, off + k * 6 + 3, none⟩ = some (.int .i64 x.w) := cell_later hbr (hcell k x hx 3 _ rfl)
      have c4 : wr.cell? ⟨bs, off + k * 6 + 4, none⟩ = some (.int .i64 x.h) := cell_later hbr (hcell k x hx 4 _ rfl)
      have c5 : wr.cell? ⟨bs, off + k * 6 + 5, none⟩ = some (.int .i64 x.rank) := cell_later hbr (hcell k x hx 5 _ rfl)
      have HT := Lib.hid (place_take b S k x hx)
      have hol : ((S.take k).foldl (stepL b) []).length ≤ 40 := by
        have := place_len b (S.take k) []
        rw [List.length_take] at this
        simp at this; omega
      generalize (S.take k).foldl (stepL b) [] = out at hown HT hol
      have HOWN := Lib.hid hown
      clear hcell hx hown
      go_wp2_with fail
      have BA : Below w2.heap.size w2 (wr.alloc (.cells #[.string x.id, .int .i64 x.x, .int .i64 x.y, .int .i64 x.w, .int .i64 x.h, .int .i64 x.rank] 47)) := hbr.alloc hbr.size _
      have HX := row_new wr (.cells #[.string x.id, .int .i64 x.x, .int .i64 x.y, .int .i64 x.w, .int .i64 x.h, .int .i64 x.rank] 47)
      have OA := Lib.hid (HOWN.out.alloc (.cells #[.string x.id, .int .i64 x.x, .int .i64 x.y, .int .i64 x.w, .int .i64 x.h, .int .i64 x.rank] 47))
      generalize hwa : wr.alloc (.cells #[.string x.id, .int .i64 x.x, .int .i64 x.y, .int .i64 x.w, .int .i64 x.h, .int .i64 x.rank] 47) = wa
      rw [hwa] at BA HX OA
      clear hwa c0 c1 c2 c3 c4 c5
      obtain ⟨Bx, hBx⟩ : ∃ Bx, wr.heap.size = Bx := ⟨_, rfl⟩
      rw [hBx] at HX ⊢
      have HBz : w2.heap.size ≤ Bx := by rw [← hBx]; exact hbr.size
      clear hBx HOWN hbr
      refine (valid_any x _).mono ?_
      rintro e w3 ⟨rfl, hb3⟩
      have HX3 := row_later hb3 HX
      have B3 := below_step BA (Nat.le_refl _) hb3
      have O3 := Lib.hid (own_later OA.out hb3)
      clear HX BA OA hb3
      cases hvl : validL x
      · have HG := Lib.hid (show (S.take (k + 1)).foldl (stepL b) [] = out by rw [HT.out]; unfold stepL; rw [hvl]; rfl)
        clear hvl
        go_wp2
        go_roundw
        case rel => exact ⟨k + 1, by omega, by go_num, by rw [HG.out]; exact O3.out, B3⟩
        case measure => simp [intOf]; omega
      · have HG := Lib.hid (show (S.take (k + 1)).foldl (stepL b) [] = tryAt b x out 0 4 by rw [HT.out]; unfold stepL; rw [hvl]; rfl)
        have HCR := Lib.hid (fun i hi w => corner_any x hvl i hi w)
        have HBD := Lib.hid (fun i => corner_bd x hvl i)
        have hwh : 1 ≤ x.w ∧ x.w ≤ 2000 ∧ 1 ≤ x.h ∧ x.h ≤ 2000 := by have := of_decide_eq_true hvl; omega
        clear hvl HT
        go_wp2_with fail
        refine (places_any _).mono ?_
        rintro e w4 ⟨rfl, hb4⟩
        have HX4 := Lib.hid (row_later hb4 HX3)
        have B4 := below_step B3 (Nat.le_refl _) hb4
        have O4 := Lib.hid (own_later O3.out hb4)
        have HBX4 := Lib.hid (row_later B4 HBX.out)
        have hzB : Bx < w4.heap.size := lt_of_block HX4.out
        clear HX3 B3 O3 hb4
        obtain ⟨vo, rfl⟩ : ∃ vo : Value, vo = u5 := ⟨_, rfl⟩
        obtain ⟨wo, rfl⟩ : ∃ wo : World, wo = wr := ⟨_, rfl⟩
        go_wp2
        go_loopw [5, 24] (fun v5 i wr2 => ∃ q : Nat, q ≤ 4 ∧ i = .int .i64 q ∧ v5 = vo ∧ tryAt b x out q (4 - q) = tryAt b x out 0 4 ∧ Below w4.heap.size w4 wr2) (fun _ i _ => 4 - (intOf i).toNat)
        case atStart => exact ⟨0, by omega, rfl, rfl, rfl, Below.refl _ _⟩
        case round =>
          obtain ⟨q, hq, rfl, rfl, hT4, hb5⟩ := hrel
          by_cases hq4 : q < 4
          · obtain ⟨g, hg⟩ : ∃ g, g = 61 + q := ⟨_, rfl⟩
            have hix : ∀ w, (Instr.index 71 (.agg #[cornerF 0, cornerF 1, cornerF 2, cornerF 3]) (.int .i64 q)).run Tryz.prog w = .ok (.func (.func g) #[] #[]) w := fun w => by rw [hg]; exact index_places q hq4 w
            have eg : ∀ args w, (callFunc g args).run Tryz.prog w = .ok (.enter g args) w := fun args w => by rw [hg]; exact enter_corner q hq4 args w
            obtain ⟨cx, hcx⟩ : ∃ c, c = (corner x q).1 := ⟨_, rfl⟩
            obtain ⟨cy, hcy⟩ : ∃ c, c = (corner x q).2 := ⟨_, rfl⟩
            have hcg := Lib.hid (show ∀ w, Calls Tryz.prog g #[.agg #[.string x.id, .int .i64 x.x, .int .i64 x.y, .int .i64 x.w, .int .i64 x.h, .int .i64 x.rank]] w fun e w' => e = .returned (.agg #[.int .i64 cx, .int .i64 cy]) ∧ Below w.heap.size w w' by rw [hg, hcx, hcy]; exact HCR.out q hq4)
            have hbd := HBD.out q
            have HP := Lib.hid (show placeB x q = ⟨cx, cy, cx + x.w - 1, cy + x.h - 1⟩ by rw [hcx, hcy]; rfl)
            rw [← hcx, ← hcy] at hbd
            have HTQ := Lib.hid (show tryAt b x out 0 4 = if freeB b (placeB x q) out then out ++ [⟨x.id, placeB x q⟩] else tryAt b x out (q + 1) (4 - (q + 1)) by rw [← hT4, show 4 - q = (4 - (q + 1)) + 1 by omega]; rfl)
            clear hg hcx hcy hT4
            have HX5 := row_later hb5 HX4.out
            have xaz := lt_of_block HX5
            have xa0 := cell_of_row wr _ 0 _ _ _ HX5
            have xa1 := cell_of_row wr _ 1 _ _ _ HX5
            have xa2 := cell_of_row wr _ 2 _ _ _ HX5
            have xa3 := cell_of_row wr _ 3 _ _ _ HX5
            have xa4 := cell_of_row wr _ 4 _ _ _ HX5
            have xa5 := cell_of_row wr _ 5 _ _ _ HX5
            simp only [List.getElem?_toArray, List.getElem?_cons_zero, List.getElem?_cons_succ] at xa0 xa1 xa2 xa3 xa4 xa5
            have HX5' := Lib.hid HX5
            clear HX5
            go_wp2_with fail
            refine (hcg.out _).mono ?_
            rintro e w6 ⟨rfl, hb6⟩
            have B6 := below_step hb5 (Nat.le_refl _) hb6
            have HX6 := row_later B6 HX4.out
            have HB6 := row_later B6 HBX4.out
            clear xa0 xa1 xa2 xa3 xa4 xa5 xaz HX5' hcg hix eg hb5 hb6
            have xbz := lt_of_block HX6
            have xb0 := cell_of_row w6 _ 0 _ _ _ HX6
            have xb1 := cell_of_row w6 _ 1 _ _ _ HX6
            have xb2 := cell_of_row w6 _ 2 _ _ _ HX6
            have xb3 := cell_of_row w6 _ 3 _ _ _ HX6
            have xb4 := cell_of_row w6 _ 4 _ _ _ HX6
            have xb5 := cell_of_row w6 _ 5 _ _ _ HX6
            simp only [List.getElem?_toArray, List.getElem?_cons_zero, List.getElem?_cons_succ] at xb0 xb1 xb2 xb3 xb4 xb5
            have HX6' := Lib.hid HX6
            clear HX6
            have bbz := lt_of_block HB6
            have bb0 := cell_of_row w6 _ 0 _ _ _ HB6
            have bb1 := cell_of_row w6 _ 1 _ _ _ HB6
            have bb2 := cell_of_row w6 _ 2 _ _ _ HB6
            have bb3 := cell_of_row w6 _ 3 _ _ _ HB6
            simp only [List.getElem?_toArray, List.getElem?_cons_zero, List.getElem?_cons_succ] at bb0 bb1 bb2 bb3
            have HB6' := Lib.hid HB6
            clear HB6
            have w1r : IntKind.i64.wrap (cx + x.w - 1) = cx + x.w - 1 := by rw [IntKind.wrap_i64]; omega
            have w2r : IntKind.i64.wrap (cy + x.h - 1) = cy + x.h - 1 := by rw [IntKind.wrap_i64]; omega
            have w3r : IntKind.i64.wrap (cx + x.w) = cx + x.w := by rw [IntKind.wrap_i64]; omega
            have w4r : IntKind.i64.wrap (cy + x.h) = cy + x.h := by rw [IntKind.wrap_i64]; omega
            go_wp2_with fail
            have HF := row_new1 w6 (.cells #[.int .i64 cx, .int .i64 cy] 24) (.cells #[.int .i64 cx, .int .i64 cy, .int .i64 (cx + x.w - 1), .int .i64 (cy + x.h - 1)] 73)
            have B7 : Below w4.heap.size w4 ((w6.alloc (.cells #[.int .i64 cx, .int .i64 cy] 24)).alloc (.cells #[.int .i64 cx, .int .i64 cy, .int .i64 (cx + x.w - 1), .int .i64 (cy + x.h - 1)] 73)) := (B6.alloc B6.size _).alloc (by have := B6.size; simp; omega) _
            obtain ⟨Bf, hBf⟩ : ∃ Bf, w6.heap.size + 1 = Bf := ⟨_, rfl⟩
            generalize hw7 : (w6.alloc (.cells #[.int .i64 cx, .int .i64 cy] 24)).alloc (.cells #[.int .i64 cx, .int .i64 cy, .int .i64 (cx + x.w - 1), .int .i64 (cy + x.h - 1)] 73) = w7
            rw [hw7] at HF B7
            rw [hBf] at HF ⊢
            clear hw7 hBf B6 xb0 xb1 xb2 xb3 xb4 xb5 xbz HX6' bb0 bb1 bb2 bb3 bbz HB6'
            refine (holds_any ⟨cx, cy, cx + x.w - 1, cy + x.h - 1⟩ b _).mono ?_
            rintro e w8 ⟨rfl, hb8⟩
            have B8 := below_step B7 (Nat.le_refl _) hb8
            have HF8 := Lib.hid (row_later hb8 HF)
            clear HF B7 hb8
            cases hin : insideB ⟨cx, cy, cx + x.w - 1, cy + x.h - 1⟩ b
            · have HGo := Lib.hid (show tryAt b x out (q + 1) (4 - (q + 1)) = tryAt b x out 0 4 by rw [HTQ.out, HP.out]; unfold freeB; rw [hin]; rfl)
              clear hin
              go_wp2
              go_roundw
              case rel => exact ⟨q + 1, by omega, by go_num, rfl, HGo.out, B8⟩
              case measure => simp [intOf]; omega
            · go_wp2_with fail
              refine (hasP_any ⟨cx, cy, cx + x.w - 1, cy + x.h - 1⟩ _ out _ (RowE.of_own encP_len rfl (own_later O4.out B8)) (by omega)).mono ?_
              rintro e w9 ⟨rfl, hb9⟩
              have B9 := below_step B8 (Nat.le_refl _) hb9
              have HF9 := row_later hb9 HF8.out
              clear B8 HF8 hb9
              cases hany : out.any (fun p => overB ⟨cx, cy, cx + x.w - 1, cy + x.h - 1⟩ p.box)
              case true =>
                have HGo := Lib.hid (show tryAt b x out (q + 1) (4 - (q + 1)) = tryAt b x out 0 4 by rw [HTQ.out, HP.out]; unfold freeB; rw [hin, hany]; rfl)
                clear hin hany
                go_wp2
                go_roundw
                case rel => exact ⟨q + 1, by omega, by go_num, rfl, HGo.out, B9⟩
                case measure => simp [intOf]; omega
              case false =>
                have HGo := Lib.hid (show out ++ [⟨x.id, ⟨cx, cy, cx + x.w - 1, cy + x.h - 1⟩⟩] = (S.take (k + 1)).foldl (stepL b) [] by rw [HG.out, HTQ.out, HP.out]; unfold freeB; rw [hin, hany]; rfl)
                clear hin hany
                have HX9 := row_later B9 HX4.out
                have O9 := own_later O4.out B9
                have hsz9 : w2.heap.size ≤ w9.heap.size := Nat.le_trans B4.size B9.size
                have B29 := below_step B4 (Nat.le_refl _) B9
                clear O4
                have xcz := lt_of_block HX9
                have xc0 := cell_of_row w9 _ 0 _ _ _ HX9
                have xc1 := cell_of_row w9 _ 1 _ _ _ HX9
                have xc2 := cell_of_row w9 _ 2 _ _ _ HX9
                have xc3 := cell_of_row w9 _ 3 _ _ _ HX9
                have xc4 := cell_of_row w9 _ 4 _ _ _ HX9
                have xc5 := cell_of_row w9 _ 5 _ _ _ HX9
                simp only [List.getElem?_toArray, List.getElem?_cons_zero, List.getElem?_cons_succ] at xc0 xc1 xc2 xc3 xc4 xc5
                have HX9' := Lib.hid HX9
                clear HX9
                have fcz := lt_of_block HF9
                have fc0 := cell_of_row w9 _ 0 _ _ _ HF9
                have fc1 := cell_of_row w9 _ 1 _ _ _ HF9
                have fc2 := cell_of_row w9 _ 2 _ _ _ HF9
                have fc3 := cell_of_row w9 _ 3 _ _ _ HF9
                simp only [List.getElem?_toArray, List.getElem?_cons_zero, List.getElem?_cons_succ] at fc0 fc1 fc2 fc3
                have HF9' := Lib.hid HF9
                clear HF9
                go_wp2_with (at_builtin; refine wpList_append_own _ rfl _ _ 30 rfl w2.heap.size 43 i0 (.agg #[.string ⟨#[]⟩, .int .i64 0, .int .i64 0, .int .i64 0, .int .i64 0]) 5 48 Tryz.underlying30 hi hi0 hi1 hi2 rfl (by decide) _ _ _ rfl (O9.alloc _) ⟨w9.heap.size, 0, none⟩ 1 1 (encP ⟨x.id, ⟨cx, cy, cx + x.w - 1, cy + x.h - 1⟩⟩) rfl rfl (cells_new _ _ _) (encP_one _) (by unfold maxLen; omega) (by omega) (by simp; omega) ?_; intro v' w10 hown hgrow _; have hb10 := appended O9 hsz9 hgrow)
                have HOW := Lib.hid (show w10.ownsRow w2.heap.size 43 5 v' ((S.take (k + 1)).foldl (stepL b) []).length (((S.take (k + 1)).foldl (stepL b) []).flatMap encP) by rw [← HGo.out, List.length_append, List.flatMap_append]; simpa using hown)
                have B10 := B29.trans hb10
                clear hown hgrow O9
                go_roundw
                case rel => exact ⟨k + 1, by omega, by go_num, HOW.out, B10⟩
                case measure => simp [intOf]; omega
          · obtain rfl : q = 4 := by omega
            have HGo := Lib.hid (show (S.take (k + 1)).foldl (stepL b) [] = out by rw [HG.out, ← hT4]; rfl)
            have O5 := Lib.hid (own_later O4.out hb5)
            have B5 := below_step B4 (Nat.le_refl _) hb5
            clear hT4 O4
            go_wp2
            go_roundw
            case rel => exact ⟨k + 1, by omega, by go_num, by rw [HGo.out]; exact O5.out, B5⟩
            case measure => simp [intOf]; omega
    · obtain rfl : k = N := by omega
      have HFin := Lib.hid (show placeL b S = (S.take k).foldl (stepL b) [] by unfold placeL; rw [List.take_of_length_le (by rw [HN.out]; exact Nat.le_refl _)])
      have HOW := Lib.hid hown
      have BF := below_step B2 (Nat.le_refl _) hbr
      clear hown
      go_wp2
      go_ret
      exact ⟨_, rfl, by rw [HFin.out]; exact ⟨_, HOW.out⟩, BF⟩
theorem place_any (v : Value) (l : List LabD) (b : BoxD) (w : World) (hl : l.length ≤ 40) (hv : LabRow w v l) :
    Calls Tryz.prog 13 #[v, .agg #[.int .i64 b.a, .int .i64 b.b, .int .i64 b.c, .int .i64 b.d]] w fun e w' => ∃ v', e = .returned v' ∧ RowE encP 5 w' v' (placeL b (isort (ltOf cfL) l)) ∧ Below w.heap.size w w' :=
  (place_own v l b w hl hv).mono fun _ _ ⟨v', h1, ⟨_, h2⟩, h3⟩ => ⟨v', h1, RowE.of_own encP_len rfl h2, h3⟩
end Go.Proofs.YtapllmniplgajaaGreatDoor
