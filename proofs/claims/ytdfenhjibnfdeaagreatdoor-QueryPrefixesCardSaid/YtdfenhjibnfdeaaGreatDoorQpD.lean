/- The walk of QueryPrefixes. -/
import Derived.Test.YtdfenhjibnfdeaaGreatDoorQpC
import Derived.Test.YtdfenhjibnfdeaaGreatDoorQyBf
namespace Go.Proofs.YtdfenhjibnfdeaaGreatDoor
open Go.RowKit Go.Shelf


theorem ext_list (s : ByteArray) (n : Nat) : (s.extract 0 n).data.toList = s.data.toList.take n := by
  rw [extract_eq, List.drop_zero, Nat.sub_zero]; rfl
theorem cat_list (s more : ByteArray) (n : Nat) : (s.extract 0 n ++ ⟨#[10]⟩ ++ more).data.toList = s.data.toList.take n ++ 10 :: more.data.toList := by
  rw [ByteArray.data_append, ByteArray.data_append, Array.toList_append, Array.toList_append, ext_list, List.append_assoc]; rfl
set_option maxRecDepth 100000 in
set_option maxHeartbeats 8000000 in
theorem qprefixes_any (s more : ByteArray) (w : World) (he : Env w) :
    Calls Tryz.prog 8 #[.string s, .string more] w fun e w' => e = .returned (.bool true) ∧ Below w.heap.size w w' := by
  have HD := Lib.hid (head_any w he)
  have RG := Lib.hid (parse_range s)
  have PL := Lib.hid (fun L hL hf => prefixes_law (s := s) (L := L) hL hf)
  by_cases hs : 1500 < s.size
  · have d1 : decide ((1500 : Int) < (s.size : Int)) = true := decide_eq_true (by omega)
    clear hs
    go_enter Tryz.func8, Tryz.ntmps8
    go_wp2_with fail
    refine HD.out.mono ?_
    rintro e w1 ⟨rfl, hb⟩
    go_wp2
    go_ret
    exact ⟨rfl, hb⟩
  have d1 : decide ((1500 : Int) < (s.size : Int)) = false := decide_eq_false (by omega)
  by_cases hm : 1500 < more.size
  · have d2 : decide ((1500 : Int) < (more.size : Int)) = true := decide_eq_true (by omega)
    clear hs hm
    go_enter Tryz.func8, Tryz.ntmps8
    go_wp2_with fail
    refine HD.out.mono ?_
    rintro e w1 ⟨rfl, hb⟩
    go_wp2
    go_ret
    exact ⟨rfl, hb⟩
  have d2 : decide ((1500 : Int) < (more.size : Int)) = false := decide_eq_false (by omega)
  have LX := Lib.hid (fun W => lex_any s (by omega) W)
  have PA := Lib.hid (fun W => parse_any s (by omega) W)
  obtain ⟨L, hL⟩ : ∃ L, (lexP s).1 = L := ⟨_, rfl⟩
  obtain ⟨er, hE⟩ : ∃ x, (lexP s).2.1 = x := ⟨_, rfl⟩
  obtain ⟨eo, hO⟩ : ∃ x, (lexP s).2.2 = x := ⟨_, rfl⟩
  obtain ⟨Q, hQ⟩ : ∃ x, (parseQ s).1 = x := ⟨_, rfl⟩
  obtain ⟨f, hF⟩ : ∃ x, (parseQ s).2.1 = x := ⟨_, rfl⟩
  obtain ⟨at', hA⟩ : ∃ x, (parseQ s).2.2 = x := ⟨_, rfl⟩
  unfold LexPost at LX
  unfold ParseR at PA
  rw [hL, hE, hO] at LX
  rw [hQ, hF, hA] at PA
  rw [hF, hA] at RG PL
  have HLX := Lib.hid (show er = 0 → lexP s = (L, 0, 0) from fun h => Prod.ext hL (Prod.ext (hE.trans h) (lexF_zero s (hE.trans h) rfl)))
  clear hL hE hO hQ hF hA
  go_enter Tryz.func8, Tryz.ntmps8
  go_wp2_with fail
  refine HD.out.mono ?_
  rintro e w1 ⟨rfl, hb⟩
  have B1 := Lib.hid hb
  clear hb HD
  go_wp2_with fail
  refine (LX.out _).mono ?_
  rintro e w2 ⟨v, rfl, hown, hb⟩
  have B2 := Lib.hid (below_step B1.out (Nat.le_refl _) hb)
  have HOW := Lib.hid hown
  clear hb hown LX
  go_wp2_with fail
  refine (PA.out _).mono ?_
  rintro e w3 ⟨qa, qc, rfl, -, hb⟩
  have B3 := Lib.hid (below_step B2.out (Nat.le_refl _) hb)
  have HO3 := Lib.hid (own_laterL HOW.out hb)
  clear hb HOW PA
  have BA := Lib.hid (B3.out.alloc B3.out.size (.cells (qryC Q qa qc) 28))
  by_cases hgo : er = 0 ∧ (f = 5 ∨ f = 10)
  case neg =>
    by_cases h0 : er = 0
    · subst h0
      have n5 : (f != 5) = true := by rw [bne_iff_ne]; intro e; exact hgo ⟨rfl, Or.inl e⟩
      have n10 : (f != 10) = true := by rw [bne_iff_ne]; intro e; exact hgo ⟨rfl, Or.inr e⟩
      clear hgo
      by_cases hf0 : f = 0
      · subst hf0
        clear n5 n10
        go_wp2
        go_ret
        exact ⟨rfl, BA.out⟩
      · have f0 : (f == 0) = false := by rw [beq_eq_false_iff_ne]; exact hf0
        have hr := RG.out.resolve_left hf0
        have r1 : decide ((-1 : Int) ≤ at') = true := decide_eq_true hr.1
        have r2 : decide (at' ≤ (s.size : Int)) = true := decide_eq_true hr.2
        clear hr hf0
        go_wp2
        go_ret
        exact ⟨rfl, BA.out⟩
    · have n0 : (er != 0) = true := by rw [bne_iff_ne]; exact h0
      clear hgo h0
      by_cases hf0 : f = 0
      · subst hf0
        go_wp2
        go_ret
        exact ⟨rfl, BA.out⟩
      · have f0 : (f == 0) = false := by rw [beq_eq_false_iff_ne]; exact hf0
        have hr := RG.out.resolve_left hf0
        have r1 : decide ((-1 : Int) ≤ at') = true := decide_eq_true hr.1
        have r2 : decide (at' ≤ (s.size : Int)) = true := decide_eq_true hr.2
        clear hr hf0
        go_wp2
        go_ret
        exact ⟨rfl, BA.out⟩
  obtain ⟨h0, hf⟩ := hgo
  subst h0
  have hL := HLX.out rfl
  obtain ⟨A, t, B, hLA, hat, hts, hbef, haft⟩ := PL.out L hL hf
  subst hat
  have HAFT := Lib.hid haft
  have HBEF := Lib.hid hbef
  have hso := (lex_list hL).2.2.2.2
  have HSO := Lib.hid hso
  have HLA := Lib.hid hLA
  obtain ⟨N, hN⟩ : ∃ N, L.length = N := ⟨_, rfl⟩
  have HN := Lib.hid hN
  have hAN : A.length < N := by rw [← hN, hLA]; simp
  have TK := TkR.of_own HO3.out
  obtain ⟨ta, tc, hv, hn1, hn2, hcell⟩ := TK
  rw [hN] at hv hn1 hcell
  have hl5 : N ≤ 5000 := by have := (lex_good hL).1; omega
  subst hv
  have HC := Lib.hid hcell
  have z1 : decide ((t.off : Int) < 0) = false := decide_eq_false (by omega)
  have z2 : decide ((s.size : Int) < (t.off : Int)) = false := decide_eq_false (by omega)
  have HEE := Lib.hid (show 0 ≤ endP s B ∧ endP s B ≤ s.size by
    refine ⟨Nat.zero_le _, ?_⟩
    cases B with
    | nil => exact Nat.le_refl _
    | cons u B => exact Nat.le_of_lt ((lex_good hL).2.2 u (by rw [hLA]; simp)))
  obtain ⟨E, hE⟩ : ∃ E, endP s B = E := ⟨_, rfl⟩
  have HE := Lib.hid hE
  rw [hE] at HEE HAFT
  clear haft hbef hso hLA hN hcell hE hL HLX PL RG hn1 hn2
  rcases hf with rfl | rfl
  all_goals
    go_wp2_with fail
    have b34 := (Below.refl w3.heap.size w3).alloc (Nat.le_refl _) (.cells #[.int .i64 Q.ask, .int .i64 Q.kind, .int .i64 Q.wher.op, .string Q.wher.key, .string Q.wher.val, .int .i64 Q.wher.n, .slice qa Q.wher.kids.length qc, .string Q.id, .int .i64 Q.n, .int .i64 Q.x, .int .i64 Q.y, .string Q.key, .string Q.prof, .int .i64 Q.minute] 28)
    generalize hw4 : w3.alloc (.cells #[.int .i64 Q.ask, .int .i64 Q.kind, .int .i64 Q.wher.op, .string Q.wher.key, .string Q.wher.val, .int .i64 Q.wher.n, .slice qa Q.wher.kids.length qc, .string Q.id, .int .i64 Q.n, .int .i64 Q.x, .int .i64 Q.y, .string Q.key, .string Q.prof, .int .i64 Q.minute] 28) = w4
    rw [hw4] at b34
    have B34 := Lib.hid b34
    have B4 := Lib.hid (below_step B3.out (Nat.le_refl _) b34)
    clear hw4 b34 BA
    go_loopw [12, 13] (fun v12 i wr => ∃ k : Nat, k ≤ N ∧ i = .int .i64 k ∧ v12 = .int .i64 (if A.length < k then (E : Int) else -1) ∧ wr = w4) (fun _ i _ => N - (intOf i).toNat)
    case atStart => exact ⟨0, by omega, rfl, by rw [if_neg (by omega)], rfl⟩
    case round =>
      obtain ⟨k, hk, rfl, rfl, hwr⟩ := hrel
      subst hwr
      obtain ⟨ev, hev⟩ : ∃ ev, (if A.length < k then (E : Int) else -1) = ev := ⟨_, rfl⟩
      rw [hev]
      have HEV := Lib.hid hev
      clear hev
      by_cases hlt : k < N
      · obtain ⟨x, hx⟩ : ∃ x, L[k]? = some x := ⟨L[k]'(by rw [HN.out]; exact hlt), List.getElem?_eq_getElem _⟩
        obtain ⟨b, off, ha, hcell⟩ := HC.out (by omega)
        subst ha
        obtain ⟨-, -, q2⟩ := hcell k x hx
        have c2 := cell_later B34.out q2
        have bz := lt_of_cell c2
        have dN : decide ((k : Int) < N) = true := decide_eq_true (by omega)
        have HX := Lib.hid hx
        have HCL := Lib.hid hcell
        clear q2 hx hcell
        by_cases hkA : k = A.length
        · have hxt : x = t := by
            have h1 := HX.out
            rw [HLA.out, hkA, List.getElem?_append_right (Nat.le_refl _), Nat.sub_self] at h1
            injection h1 with h1; exact h1.symm
          subst hxt
          have HRL := Lib.hid (show (E : Int) = if A.length < k + 1 then (E : Int) else -1 by rw [if_pos (by omega)])
          by_cases hk1 : k + 1 < N
          · obtain ⟨u, hu⟩ : ∃ u, L[k + 1]? = some u := ⟨L[k + 1]'(by rw [HN.out]; exact hk1), List.getElem?_eq_getElem _⟩
            have hEu : E = u.off := by
              have h1 := hu
              rw [HLA.out, hkA, List.getElem?_append_right (by omega), show A.length + 1 - A.length = 1 by omega] at h1
              rw [← HE.out]
              cases B with
              | nil => cases h1
              | cons y B => injection h1 with h1; subst h1; rfl
            obtain ⟨-, -, p2⟩ := HCL.out (k + 1) u hu
            have c3 := cell_later B34.out p2
            have dN1 : decide (((k : Int) + 1) < N) = true := decide_eq_true (by omega)
            have dN2 : decide (((k + 1 : Nat) : Int) < N) = true := decide_eq_true (by omega)
            have HEu := Lib.hid hEu
            clear hkA hu p2 hEu
            go_wp2
            exact ⟨⟨k + 1, by omega, by go_num, by rw [← HRL.out, HEu.out], trivial⟩, by simp [intOf]; omega⟩
          · have hEs : E = s.size := by
              rw [← HE.out]
              cases B with
              | nil => rfl
              | cons y B =>
                have h1 := HN.out
                rw [HLA.out, List.length_append, List.length_cons, List.length_cons] at h1
                omega
            have dN1 : decide (((k : Int) + 1) < N) = false := decide_eq_false (by omega)
            have dN2 : decide (((k + 1 : Nat) : Int) < N) = false := decide_eq_false (by omega)
            have HEs := Lib.hid hEs
            clear hkA hEs
            go_wp2
            exact ⟨⟨k + 1, by omega, by go_num, by rw [← HRL.out, HEs.out], trivial⟩, by simp [intOf]; omega⟩
        · have hne : x.off ≠ t.off := by
            have hp := List.pairwise_iff_getElem.1 HSO.out
            have hlA : L[A.length]? = some t := by rw [HLA.out, List.getElem?_append_right (Nat.le_refl _), Nat.sub_self]; rfl
            obtain ⟨h1, h2⟩ := List.getElem?_eq_some_iff.1 HX.out
            obtain ⟨h3, h4⟩ := List.getElem?_eq_some_iff.1 hlA
            rcases Nat.lt_or_gt_of_ne hkA with h | h
            · have := hp k A.length h1 h3 h; rw [h2, h4] at this; omega
            · have := hp A.length k h3 h1 h; rw [h2, h4] at this; omega
          have e1 : ((x.off : Int) == (t.off : Int)) = false := by rw [beq_eq_false_iff_ne]; omega
          have e2 : (x.off == t.off) = false := by rw [beq_eq_false_iff_ne]; exact hne
          have HRL := Lib.hid (show ev = if A.length < k + 1 then (E : Int) else -1 by
            rw [← HEV.out]
            by_cases h : A.length < k
            · rw [if_pos h, if_pos (by omega)]
            · rw [if_neg h, if_neg (by omega)])
          clear hkA hne
          go_wp2
          exact ⟨⟨k + 1, by omega, by go_num, by rw [← HRL.out], trivial⟩, by simp [intOf]; omega⟩
      · have hev : ev = E := by rw [← HEV.out, if_pos (by omega)]
        subst hev
        have dN : decide ((k : Int) < N) = false := decide_eq_false (by omega)
        have z3 : decide ((E : Int) < 0) = false := decide_eq_false (by omega)
        have hEs := HEE.out.2
        have y1 : (t.off : Int) ≤ (s.size : Int) := by omega
        have y2 : (E : Int) ≤ (s.size : Int) := by omega
        clear HEV
        go_wp2_with fail
        obtain ⟨s1, hs1⟩ : ∃ z, s.extract 0 t.off = z := ⟨_, rfl⟩
        rw [hs1]
        have hl1 : s1.data.toList = s.data.toList.take t.off := by rw [← hs1]; exact ext_list s t.off
        have hz1 : s1.size ≤ 1000000 := by have := len_list s1; rw [hl1, List.length_take, len_list] at this; omega
        have HG := Lib.hid (HBEF.out s1 hl1)
        have P1 := Lib.hid (fun W => parse_any s1 hz1 W)
        unfold ParseR at P1
        obtain ⟨Q1, hQ1⟩ : ∃ x, (parseQ s1).1 = x := ⟨_, rfl⟩
        obtain ⟨g1, hG1⟩ : ∃ x, (parseQ s1).2.1 = x := ⟨_, rfl⟩
        obtain ⟨o1, hO1⟩ : ∃ x, (parseQ s1).2.2 = x := ⟨_, rfl⟩
        rw [hQ1, hG1, hO1] at P1
        rw [hG1] at HG
        clear hQ1 hG1 hO1 hl1 hz1 hs1
        refine (P1.out _).mono ?_
        rintro e w5 ⟨qa1, qc1, rfl, -, hb⟩
        have B5 := Lib.hid (below_step B4.out (Nat.le_refl _) hb)
        clear hb P1
        go_wp2_with fail
        have B6 := Lib.hid (B5.out.alloc B5.out.size (.cells #[.int .i64 Q1.ask, .int .i64 Q1.kind, .int .i64 Q1.wher.op, .string Q1.wher.key, .string Q1.wher.val, .int .i64 Q1.wher.n, .slice qa1 Q1.wher.kids.length qc1, .string Q1.id, .int .i64 Q1.n, .int .i64 Q1.x, .int .i64 Q1.y, .string Q1.key, .string Q1.prof, .int .i64 Q1.minute] 28))
        generalize hw6 : w5.alloc (.cells #[.int .i64 Q1.ask, .int .i64 Q1.kind, .int .i64 Q1.wher.op, .string Q1.wher.key, .string Q1.wher.val, .int .i64 Q1.wher.n, .slice qa1 Q1.wher.kids.length qc1, .string Q1.id, .int .i64 Q1.n, .int .i64 Q1.x, .int .i64 Q1.y, .string Q1.key, .string Q1.prof, .int .i64 Q1.minute] 28) = w6
        rw [hw6] at B6
        clear hw6
        obtain ⟨s2, hs2⟩ : ∃ z, s.extract 0 E ++ ⟨#[10]⟩ ++ more = z := ⟨_, rfl⟩
        rw [hs2]
        have hl2 : s2.data.toList = s.data.toList.take E ++ 10 :: more.data.toList := by rw [← hs2]; exact cat_list s more E
        have hz2 : s2.size ≤ 1000000 := by
          have := len_list s2
          rw [hl2, List.length_append, List.length_take, List.length_cons, len_list, len_list] at this; omega
        have HA2 := Lib.hid (HAFT.out s2 _ hl2)
        have L2 := Lib.hid (fun W => lex_any s2 hz2 W)
        have P2 := Lib.hid (fun W => parse_any s2 hz2 W)
        unfold LexPost at L2
        unfold ParseR at P2
        obtain ⟨Q2, hQ2⟩ : ∃ x, (parseQ s2).1 = x := ⟨_, rfl⟩
        obtain ⟨g2, hG2⟩ : ∃ x, (parseQ s2).2.1 = x := ⟨_, rfl⟩
        obtain ⟨o2, hO2⟩ : ∃ x, (parseQ s2).2.2 = x := ⟨_, rfl⟩
        obtain ⟨e2, hE2⟩ : ∃ x, (lexP s2).2.1 = x := ⟨_, rfl⟩
        obtain ⟨eo2, hEO2⟩ : ∃ x, (lexP s2).2.2 = x := ⟨_, rfl⟩
        rw [hQ2, hG2, hO2] at P2
        rw [hE2, hEO2] at L2
        rw [hG2, hO2, hE2] at HA2
        have HS2 := Lib.hid hs2
        clear hQ2 hG2 hO2 hE2 hEO2 hl2 hz2 hs2
        refine (L2.out _).mono ?_
        rintro e w7 ⟨v2, rfl, -, hb⟩
        have B7 := Lib.hid (below_step B6.out (Nat.le_refl _) hb)
        clear hb L2
        go_wp2_with fail
        rw [HS2.out]
        refine (P2.out _).mono ?_
        rintro e w8 ⟨qa2, qc2, rfl, -, hb⟩
        have B8 := Lib.hid (below_step B7.out (Nat.le_refl _) hb)
        have B9 := Lib.hid (B8.out.alloc B8.out.size (.cells #[.int .i64 Q2.ask, .int .i64 Q2.kind, .int .i64 Q2.wher.op, .string Q2.wher.key, .string Q2.wher.val, .int .i64 Q2.wher.n, .slice qa2 Q2.wher.kids.length qc2, .string Q2.id, .int .i64 Q2.n, .int .i64 Q2.x, .int .i64 Q2.y, .string Q2.key, .string Q2.prof, .int .i64 Q2.minute] 28))
        clear hb P2
        by_cases h2 : e2 = 0
        · obtain ⟨k1, k2⟩ := HA2.out h2
          subst h2 k1 k2
          rcases HG.out with e | e | e
          all_goals
            subst e
            go_wp2
            go_ret
            exact ⟨rfl, B9.out⟩
        · have n2 : (e2 != 0) = true := by rw [bne_iff_ne]; exact h2
          clear h2
          rcases HG.out with e | e | e
          all_goals
            subst e
            go_wp2
            go_ret
            exact ⟨rfl, B9.out⟩
end Go.Proofs.YtdfenhjibnfdeaaGreatDoor
