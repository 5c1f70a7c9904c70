/- The walk of QueryGaps. -/
import Derived.Test.YtdfenhjibnfdeaaGreatDoorQgC
import Derived.Test.YtdfenhjibnfdeaaGreatDoorQgB
import Derived.Test.YtdfenhjibnfdeaaGreatDoorQyBf
namespace Go.Proofs.YtdfenhjibnfdeaaGreatDoor
open Go.RowKit Go.Shelf

theorem geqs_true {x s : ByteArray} {l : List UInt8} (hl : s.toList = l) (h : x = s) : (x.toList == l) = true := by rw [← hl]; exact str_eq_true h
theorem geqs_false {x s : ByteArray} {l : List UInt8} (hl : s.toList = l) (h : ¬ x = s) : (x.toList == l) = false := by rw [← hl]; exact str_eq_false h

set_option maxRecDepth 100000 in
set_option maxHeartbeats 16000000 in
theorem qgaps_any (s : ByteArray) (w : World) (he : Env w) :
    Calls Tryz.prog 4 #[.string s] w fun e w' => e = .returned (.bool true) ∧ Below w.heap.size w w' := by
  have HD := Lib.hid (head_any w he)
  by_cases hs : 2000 < s.size
  · have d1 : decide ((2000 : Int) < (s.size : Int)) = true := decide_eq_true (by omega)
    clear hs
    go_enter Tryz.func4, Tryz.ntmps4
    go_wp2_with fail
    refine HD.out.mono ?_
    rintro e w1 ⟨rfl, hb⟩
    go_wp2
    go_ret
    exact ⟨rfl, hb⟩
  have d1 : decide ((2000 : Int) < (s.size : Int)) = false := decide_eq_false (by omega)
  have LX := Lib.hid (fun W => lex_any s (by omega) W)
  have PA := Lib.hid (fun W => parse_any s (by omega) W)
  have HLE := Lib.hid (fun h => parse_lexerr (s := s) h)
  have HGN := Lib.hid (fun L (hL : lexP s = (L, 0, 0)) => gaps_nn hL (by omega))
  have HGS := Lib.hid (fun L (hL : lexP s = (L, 0, 0)) s1 h1 => gaps_same (s1 := s1) hL (by omega) h1)
  have HTV := Lib.hid (fun L (hL : lexP s = (L, 0, 0)) => gtokens_any s L hL (by omega))
  obtain ⟨L, hL⟩ : ∃ L, (lexP s).1 = L := ⟨_, rfl⟩
  obtain ⟨er, hE⟩ : ∃ x, (lexP s).2.1 = x := ⟨_, rfl⟩
  obtain ⟨eo, hO⟩ : ∃ x, (lexP s).2.2 = x := ⟨_, rfl⟩
  obtain ⟨Q, hQ⟩ : ∃ x, (parseQ s).1 = x := ⟨_, rfl⟩
  obtain ⟨f, hF⟩ : ∃ x, (parseQ s).2.1 = x := ⟨_, rfl⟩
  obtain ⟨at', hA⟩ : ∃ x, (parseQ s).2.2 = x := ⟨_, rfl⟩
  unfold LexPost at LX
  unfold ParseR at PA
  rw [hL, hE, hO] at LX
  rw [hQ, hF, hA] at PA
  rw [hF, hE] at HLE
  simp only [hF, hQ] at HGN HGS
  have HLX := Lib.hid (show er = 0 → lexP s = (L, 0, 0) from fun h => Prod.ext hL (Prod.ext (hE.trans h) (lexF_zero s (hE.trans h) rfl)))
  clear hL hE hO hQ hF hA
  go_enter Tryz.func4, Tryz.ntmps4
  go_wp2_with fail
  refine HD.out.mono ?_
  rintro e w1 ⟨rfl, hb⟩
  have B1 := Lib.hid hb
  clear hb HD
  go_wp2_with fail
  refine (LX.out _).mono ?_
  rintro e w2 ⟨v, rfl, hown, hb⟩
  have B2 := Lib.hid (below_step B1.out (Nat.le_refl _) hb)
  have HOW := Lib.hid hown
  clear hb hown LX
  go_wp2_with fail
  refine (PA.out _).mono ?_
  rintro e w3 ⟨qa, qc, rfl, hcp, hb⟩
  have B3 := Lib.hid (below_step B2.out (Nat.le_refl _) hb)
  have HO3 := Lib.hid (own_laterL HOW.out hb)
  have HQ3 := Lib.hid (CondP.is _ _ hcp)
  clear hb HOW PA hcp
  have b34 := (Below.refl w3.heap.size w3).alloc (Nat.le_refl _) (.cells #[.int .i64 Q.ask, .int .i64 Q.kind, .int .i64 Q.wher.op, .string Q.wher.key, .string Q.wher.val, .int .i64 Q.wher.n, .slice qa Q.wher.kids.length qc, .string Q.id, .int .i64 Q.n, .int .i64 Q.x, .int .i64 Q.y, .string Q.key, .string Q.prof, .int .i64 Q.minute] 28)
  have r34 := row_new w3 (.cells #[.int .i64 Q.ask, .int .i64 Q.kind, .int .i64 Q.wher.op, .string Q.wher.key, .string Q.wher.val, .int .i64 Q.wher.n, .slice qa Q.wher.kids.length qc, .string Q.id, .int .i64 Q.n, .int .i64 Q.x, .int .i64 Q.y, .string Q.key, .string Q.prof, .int .i64 Q.minute] 28)
  have BA := Lib.hid (below_step B3.out (Nat.le_refl _) b34)
  by_cases h0 : er = 0
  case neg =>
    have hfe := HLE.out h0
    subst hfe
    have n0 : (f != 0) = true := by rw [bne_iff_ne]; exact h0
    clear h0 b34 r34
    go_wp2
    go_ret
    exact ⟨rfl, BA.out⟩
  subst h0
  have hL := HLX.out rfl
  obtain ⟨nn, g1, g2, g3⟩ := HGN.out L hL
  have GN := Lib.hid g3
  have GI := Lib.hid g2
  have GS := Lib.hid (fun s1 h1 => HGS.out L hL s1 h1)
  have TV := Lib.hid (fun c a cap v i hi W hc hv => HTV.out L hL c a cap v i hi W hc hv)
  obtain ⟨hwo, w2', w3'⟩ := lex_words hL
  have WO := Lib.hid hwo
  have hsS : ∀ k, (sT L k).size ≤ 6000 := fun k => by have := sT_size L k; omega
  have hsT : ∀ k, (tT L nn k).size ≤ 12001 := fun k => by have := tT_size L nn k; omega
  have HSS := Lib.hid hsS
  have HST := Lib.hid hsT
  have TK := TkR.of_own HO3.out
  have TK0 := TK
  obtain ⟨ta, tc, hv, hn1, hn2, hcell⟩ := TK
  subst hv
  obtain ⟨N, hN⟩ : ∃ N, L.length = N := ⟨_, rfl⟩
  have HTX := Lib.hid (show ∀ x ∈ L, x.text.size ≤ 1000000 from fun x hx => Nat.le_trans ((lex_good hL).2.1 x hx).1 (by omega))
  rw [hN] at g1 hn1 GN GI hcell w3' TK0
  have HC := Lib.hid hcell
  have HN := Lib.hid hN
  have hN2 : N ≤ 2000 := by omega
  go_wp2_with fail
  generalize hw4 : w3.alloc (.cells #[.int .i64 Q.ask, .int .i64 Q.kind, .int .i64 Q.wher.op, .string Q.wher.key, .string Q.wher.val, .int .i64 Q.wher.n, .slice qa Q.wher.kids.length qc, .string Q.id, .int .i64 Q.n, .int .i64 Q.x, .int .i64 Q.y, .string Q.key, .string Q.prof, .int .i64 Q.minute] 28) = w4
  rw [hw4] at b34 r34
  have B34 := Lib.hid b34
  have R4 := Lib.hid r34
  have B4 := Lib.hid (below_step B3.out (Nat.le_refl _) b34)
  have HC4 := Lib.hid (HQ3.out.later b34)
  have HT4 := Lib.hid (TK0.later b34)
  clear hw4 b34 r34 BA B1 B2 B3 HQ3 TK0 HLX HGN HGS HTV HLE g2 g3 hwo hsS hsT hN hcell hL HO3 w2'
  go_loopw [10, 11, 12, 13] (fun sv tv bv iv wr => ∃ k : Nat, k ≤ N ∧ iv = .int .i64 k ∧ sv = .string (sT L k) ∧ tv = .string (tT L nn k) ∧ bv = .bool (decide (nn < k)) ∧ Below w4.heap.size w4 wr) (fun _ _ _ iv _ => N - (intOf iv).toNat)
  case atStart => exact ⟨0, by omega, rfl, rfl, rfl, rfl, Below.refl _ _⟩
  case round =>
    obtain ⟨k, hk, rfl, rfl, rfl, rfl, hbr⟩ := hrel
    have BR := Lib.hid hbr
    have HBX := Lib.hid (row_later hbr R4.out)
    clear hbr
    obtain ⟨S, hS⟩ : ∃ S, sT L k = S := ⟨_, rfl⟩
    obtain ⟨T, hT⟩ : ∃ S, tT L nn k = S := ⟨_, rfl⟩
    have hz : S.size ≤ 6000 := by rw [← hS]; exact HSS.out k
    have hzT : T.size ≤ 12001 := by rw [← hT]; exact HST.out k
    obtain ⟨bb, hbb⟩ : ∃ b, decide (nn < k) = b := ⟨_, rfl⟩
    rw [hS, hT, hbb]
    by_cases hlt : k < N
    · obtain ⟨x, hx⟩ : ∃ x, L[k]? = some x := ⟨L[k]'(by rw [HN.out]; exact hlt), List.getElem?_eq_getElem _⟩
      obtain ⟨b, off, ha, hrow⟩ := HC.out (by omega)
      subst ha
      have BR4 := Lib.hid (below_step B34.out (Nat.le_refl _) BR.out)
      obtain ⟨q0, q1, -⟩ := hrow k x hx
      have c0 := cell_later BR4.out q0
      have c1 := cell_later BR4.out q1
      have dl : decide ((k : Int) < N) = true := decide_eq_true (by omega)
      have hmem := List.mem_of_getElem? hx
      obtain ⟨word, hw⟩ : ∃ u, twB x = u := ⟨_, rfl⟩
      obtain ⟨S', hS'⟩ : ∃ S', sT L (k + 1) = S' := ⟨_, rfl⟩
      have HS2 := Lib.hid (show (S ++ word) ++ ⟨#[10]⟩ = S' by rw [← hS, ← hw, ← hS', sT_step hx])
      have hz' : S'.size ≤ 6000 := by rw [← hS']; exact HSS.out (k + 1)
      have hww : word.size ≤ 6000 := by
        have := congrArg ByteArray.size HS2.out
        simp only [ByteArray.size_append] at this; omega
      have HS' := Lib.hid hS'
      have HTS := Lib.hid (show k ≠ nn → (T ++ word) ++ ⟨#[10]⟩ = tT L nn (k + 1) from fun h => by rw [← hT, ← hw]; exact tT_step hx h)
      have HTA := Lib.hid (show k = nn → ((T ++ word) ++ ⟨#[10]⟩) ++ ⟨#[40]⟩ = tT L nn (k + 1) from fun h => by rw [← hT, ← hw, ← h]; exact tT_at hx)
      have HBB := Lib.hid (show k ≠ nn → decide (nn < k + 1) = bb from fun h => by rw [← hbb, decide_eq_decide]; omega)
      have HW1 := Lib.hid (show word = wWhere → x.kind = 1 from fun h => tw_where (WO.out x hmem) (hw.trans h))
      have HNW := Lib.hid (show k = nn → word = wWhere from fun h => by
        obtain ⟨-, ⟨W, hW1, hW2⟩, -⟩ := GN.out (by omega)
        rw [← h, hx] at hW1
        injection hW1 with hW1
        rw [← hw, hW1, hW2])
      have htx := HTX.out x hmem
      have hne : word ≠ wWhere → k ≠ nn := fun h e => h (HNW.out e)
      have HNE := Lib.hid hne
      clear hne q0 q1 hS' hS hT hmem hrow HC
      by_cases h3 : x.kind = 3
      · have d3 : (x.kind == 3) = true := by rw [beq_iff_eq]; exact h3
        have hqw : quoteB x.text = word := by rw [← hw, twB, if_pos h3]
        have QT := Lib.hid (quote_any x.text htx wr)
        rw [hqw] at QT
        have hnw : word ≠ wWhere := fun e => by have := HW1.out e; omega
        have nw := geqs_false (s := wWhere) (l := [119, 104, 101, 114, 101]) (by decide +kernel) hnw
        have hT2 := HTS.out (HNE.out hnw)
        have hB2 := HBB.out (HNE.out hnw)
        obtain ⟨T', hT'⟩ : ∃ S', tT L nn (k + 1) = S' := ⟨_, rfl⟩
        have HT' := Lib.hid hT'
        have HT2 := hT2.trans hT'
        have HBB := Lib.hid hB2
        clear hw hqw h3 htx hnw HTS HTA HW1 HNW HNE hT2 hB2 hT' hbb hx
        have S1 : ∀ W, (Op.stringOp .add S word).run Tryz.prog W = .ok (.string (S ++ word)) W := fun W => run_string_add_sum W _ _ (by omega)
        have S2 : ∀ W, (Op.stringOp .add (S ++ word) ⟨#[10]⟩).run Tryz.prog W = .ok (.string S') W := fun W => by
          rw [← HS2.out]
          exact run_string_add_sum W _ _ (by have : (⟨#[10]⟩ : ByteArray).size = 1 := rfl; simp only [ByteArray.size_append]; omega)
        have T1 : ∀ W, (Op.stringOp .add T word).run Tryz.prog W = .ok (.string (T ++ word)) W := fun W => run_string_add_sum W _ _ (by omega)
        have T2 : ∀ W, (Op.stringOp .add (T ++ word) ⟨#[10]⟩).run Tryz.prog W = .ok (.string T') W := fun W => by
          rw [← HT2]
          exact run_string_add_sum W _ _ (by have : (⟨#[10]⟩ : ByteArray).size = 1 := rfl; simp only [ByteArray.size_append]; omega)
        clear HT2
        go_wp2_with fail
        refine QT.out.mono ?_
        rintro e w5 ⟨rfl, hb5⟩
        have B5 := Lib.hid (below_step BR.out (Nat.le_refl _) hb5)
        clear hb5 QT
        go_wp2
        go_roundw
        case rel => exact ⟨k + 1, by omega, by go_num, by rw [HS'.out], by rw [HT'.out], by rw [HBB.out], B5.out⟩
        case measure => simp [intOf]; omega
      · have d3 : (x.kind == 3) = false := by rw [beq_eq_false_iff_ne]; exact h3
        have hqw : x.text = word := by rw [← hw, twB, if_neg h3]
        rw [hqw] at c1
        clear hw h3 htx hqw
        by_cases hnw : word = wWhere
        case neg =>
          have nw := geqs_false (s := wWhere) (l := [119, 104, 101, 114, 101]) (by decide +kernel) hnw
          have hT2 := HTS.out (HNE.out hnw)
          have hB2 := HBB.out (HNE.out hnw)
          obtain ⟨T', hT'⟩ : ∃ S', tT L nn (k + 1) = S' := ⟨_, rfl⟩
          have HT' := Lib.hid hT'
          have HT2 := hT2.trans hT'
          have HBB := Lib.hid hB2
          clear hnw HTS HTA HW1 HNW HNE hT2 hB2 hT' hbb hx
          have S1 : ∀ W, (Op.stringOp .add S word).run Tryz.prog W = .ok (.string (S ++ word)) W := fun W => run_string_add_sum W _ _ (by omega)
          have S2 : ∀ W, (Op.stringOp .add (S ++ word) ⟨#[10]⟩).run Tryz.prog W = .ok (.string S') W := fun W => by
            rw [← HS2.out]
            exact run_string_add_sum W _ _ (by have : (⟨#[10]⟩ : ByteArray).size = 1 := rfl; simp only [ByteArray.size_append]; omega)
          have T1 : ∀ W, (Op.stringOp .add T word).run Tryz.prog W = .ok (.string (T ++ word)) W := fun W => run_string_add_sum W _ _ (by omega)
          have T2 : ∀ W, (Op.stringOp .add (T ++ word) ⟨#[10]⟩).run Tryz.prog W = .ok (.string T') W := fun W => by
            rw [← HT2]
            exact run_string_add_sum W _ _ (by have : (⟨#[10]⟩ : ByteArray).size = 1 := rfl; simp only [ByteArray.size_append]; omega)
          clear HT2
          go_wp2
          go_roundw
          case rel => exact ⟨k + 1, by omega, by go_num, by rw [HS'.out], by rw [HT'.out], by rw [HBB.out], BR.out⟩
          case measure => simp [intOf]; omega
        by_cases hkn : k = nn
        case neg =>
          have hT2 := HTS.out hkn
          have hB2 := HBB.out hkn
          obtain ⟨T', hT'⟩ : ∃ S', tT L nn (k + 1) = S' := ⟨_, rfl⟩
          have HT' := Lib.hid hT'
          have HT2 := hT2.trans hT'
          have HBB := Lib.hid hB2
          clear HTS HTA HW1 HNW HNE hT2 hB2 hT' hx
          have S1 : ∀ W, (Op.stringOp .add S word).run Tryz.prog W = .ok (.string (S ++ word)) W := fun W => run_string_add_sum W _ _ (by omega)
          have S2 : ∀ W, (Op.stringOp .add (S ++ word) ⟨#[10]⟩).run Tryz.prog W = .ok (.string S') W := fun W => by
            rw [← HS2.out]
            exact run_string_add_sum W _ _ (by have : (⟨#[10]⟩ : ByteArray).size = 1 := rfl; simp only [ByteArray.size_append]; omega)
          have T1 : ∀ W, (Op.stringOp .add T word).run Tryz.prog W = .ok (.string (T ++ word)) W := fun W => run_string_add_sum W _ _ (by omega)
          have T2 : ∀ W, (Op.stringOp .add (T ++ word) ⟨#[10]⟩).run Tryz.prog W = .ok (.string T') W := fun W => by
            rw [← HT2]
            exact run_string_add_sum W _ _ (by have : (⟨#[10]⟩ : ByteArray).size = 1 := rfl; simp only [ByteArray.size_append]; omega)
          have nw := geqs_true (s := wWhere) (l := [119, 104, 101, 114, 101]) (by decide +kernel) hnw
          clear HT2 hnw
          cases bb
          case true =>
            clear hbb
            go_wp2
            go_roundw
            case rel => exact ⟨k + 1, by omega, by go_num, by rw [HS'.out], by rw [HT'.out], by rw [HBB.out], BR.out⟩
            case measure => simp [intOf]; omega
          case false =>
            have hkl : k < nn := by have := of_decide_eq_false hbb; omega
            clear hbb
            by_cases hf : f = 0
            case neg =>
              have xf : (f == 0) = false := by rw [beq_eq_false_iff_ne]; exact hf
              clear hf
              go_wp2
              go_roundw
              case rel => exact ⟨k + 1, by omega, by go_num, by rw [HS'.out], by rw [HT'.out], by rw [HBB.out], BR.out⟩
              case measure => simp [intOf]; omega
            have xf : (f == 0) = true := by rw [beq_iff_eq]; exact hf
            by_cases hk0 : k = 0
            · have xk : decide ((0 : Int) < (k : Int)) = false := decide_eq_false (by omega)
              have xk2 : decide (0 < k) = false := decide_eq_false (by omega)
              clear hk0 hf
              go_wp2
              go_roundw
              case rel => exact ⟨k + 1, by omega, by go_num, by rw [HS'.out], by rw [HT'.out], by rw [HBB.out], BR.out⟩
              case measure => simp [intOf]; omega
            have xk : decide ((0 : Int) < (k : Int)) = true := decide_eq_true (by omega)
            have xk2 : decide (0 < k) = true := decide_eq_true (by omega)
            have yz := lt_of_block HBX.out
            have y0 := cell_of_row wr _ 0 _ _ _ HBX.out
            have y1 := cell_of_row wr _ 1 _ _ _ HBX.out
            have y2 := cell_of_row wr _ 2 _ _ _ HBX.out
            have y3 := cell_of_row wr _ 3 _ _ _ HBX.out
            have y4 := cell_of_row wr _ 4 _ _ _ HBX.out
            have y5 := cell_of_row wr _ 5 _ _ _ HBX.out
            have y6 := cell_of_row wr _ 6 _ _ _ HBX.out
            have y7 := cell_of_row wr _ 7 _ _ _ HBX.out
            have y8 := cell_of_row wr _ 8 _ _ _ HBX.out
            have y9 := cell_of_row wr _ 9 _ _ _ HBX.out
            have y10 := cell_of_row wr _ 10 _ _ _ HBX.out
            have y11 := cell_of_row wr _ 11 _ _ _ HBX.out
            have y12 := cell_of_row wr _ 12 _ _ _ HBX.out
            have y13 := cell_of_row wr _ 13 _ _ _ HBX.out
            simp only [List.getElem?_toArray, List.getElem?_cons_zero, List.getElem?_cons_succ] at y0 y1 y2 y3 y4 y5 y6 y7 y8 y9 y10 y11 y12 y13
            by_cases hop : Q.wher.op = 1
            · have xo : (Q.wher.op != 1) = false := by rw [bne_eq_false_iff_eq]; exact hop
              clear hf hk0 hop
              go_wp2
              go_roundw
              case rel => exact ⟨k + 1, by omega, by go_num, by rw [HS'.out], by rw [HT'.out], by rw [HBB.out], BR.out⟩
              case measure => simp [intOf]; omega
            have xo : (Q.wher.op != 1) = true := by rw [bne_iff_ne]; exact hop
            have hnN := GI.out hf hop
            obtain ⟨-, -, hv0, -⟩ := GN.out hnN
            have hv := hv0 k hkl
            have CT := TV.out Q.wher qa qc _ k (by rw [HN.out]; exact hlt) wr (HC4.out.later BR.out) (HT4.out.later BR.out)
            rw [hv, cond_cells] at CT
            have HCT := Lib.hid CT
            have xe : ((k : Int) + 1 == (N : Int)) = false := by rw [beq_eq_false_iff_ne]; omega
            have xe2 : ((k : Int) + 1 == (N : Int) - 0) = false := by rw [beq_eq_false_iff_ne]; omega
            clear hv hv0 CT hf hk0 hop
            go_wp2_with fail
            refine HCT.out.mono ?_
            rintro e w5 ⟨rfl, hb5⟩
            have B5 := Lib.hid (below_step BR.out (Nat.le_refl _) hb5)
            clear hb5 HCT
            go_wp2
            go_roundw
            case rel => exact ⟨k + 1, by omega, by go_num, by rw [HS'.out], by rw [HT'.out], by rw [HBB.out], B5.out⟩
            case measure => simp [intOf]; omega
        have hkn' := hkn
        subst hkn
        have hT3 := HTA.out rfl
        obtain ⟨⟨hk0, hf, hop⟩, -, -, hv, -⟩ := GN.out (by omega)
        obtain ⟨T3, hT3'⟩ : ∃ S', tT L k (k + 1) = S' := ⟨_, rfl⟩
        have HT3 := Lib.hid hT3'
        have hz3 : T3.size ≤ 12001 := by rw [← hT3']; exact HST.out (k + 1)
        obtain ⟨T', hT'⟩ : ∃ u, (T ++ word) ++ ⟨#[10]⟩ = u := ⟨_, rfl⟩
        have HT2 := hT'
        rw [hT', hT3'] at hT3
        have HB3 := Lib.hid hT3
        have S1 : ∀ W, (Op.stringOp .add S word).run Tryz.prog W = .ok (.string (S ++ word)) W := fun W => run_string_add_sum W _ _ (by omega)
        have S2 : ∀ W, (Op.stringOp .add (S ++ word) ⟨#[10]⟩).run Tryz.prog W = .ok (.string S') W := fun W => by
          rw [← HS2.out]
          exact run_string_add_sum W _ _ (by have : (⟨#[10]⟩ : ByteArray).size = 1 := rfl; simp only [ByteArray.size_append]; omega)
        have T1 : ∀ W, (Op.stringOp .add T word).run Tryz.prog W = .ok (.string (T ++ word)) W := fun W => run_string_add_sum W _ _ (by omega)
        have T2 : ∀ W, (Op.stringOp .add (T ++ word) ⟨#[10]⟩).run Tryz.prog W = .ok (.string T') W := fun W => by
          rw [← HT2]
          exact run_string_add_sum W _ _ (by have : (⟨#[10]⟩ : ByteArray).size = 1 := rfl; simp only [ByteArray.size_append]; omega)
        have T3' : ∀ W, (Op.stringOp .add T' ⟨#[40]⟩).run Tryz.prog W = .ok (.string T3) W := fun W => by
          rw [← HB3.out]
          exact run_string_add_sum W _ _ (by
            have h1 : (⟨#[40]⟩ : ByteArray).size = 1 := rfl
            have h2 := congrArg ByteArray.size HB3.out
            rw [ByteArray.size_append] at h2; omega)
        have nw := geqs_true (s := wWhere) (l := [119, 104, 101, 114, 101]) (by decide +kernel) hnw
        clear hnw
        have hbf : bb = false := by rw [← hbb]; exact decide_eq_false (Nat.lt_irrefl _)
        subst hbf
        have xf : (f == 0) = true := by rw [beq_iff_eq]; exact hf
        have xk : decide ((0 : Int) < (k : Int)) = true := decide_eq_true (by omega)
        have xk2 : decide (0 < k) = true := decide_eq_true (by omega)
        have xo : (Q.wher.op != 1) = true := by rw [bne_iff_ne]; exact hop
        have CT := TV.out Q.wher qa qc _ k (by rw [HN.out]; exact hlt) wr (HC4.out.later BR.out) (HT4.out.later BR.out)
        obtain ⟨RV, hRV⟩ : ∃ z, tokV L Q.wher k = z := ⟨_, rfl⟩
        rw [hRV, cond_cells] at CT
        rw [hRV] at hv
        have HCT := Lib.hid CT
        have xe : ((k : Int) + 1 == (N : Int) - RV) = true := by rw [beq_iff_eq]; omega
        have rv1 : 0 ≤ RV := by omega
        have rv2 : RV ≤ (N : Int) := by omega
        have HB4 := Lib.hid (show decide (k < k + 1) = true from decide_eq_true (by omega))
        clear hRV hv CT hf hop HT2 hT' hT3 hT3' hbb hx HTS HTA HBB HW1 HNW HNE
        have yz := lt_of_block HBX.out
        have y0 := cell_of_row wr _ 0 _ _ _ HBX.out
        have y1 := cell_of_row wr _ 1 _ _ _ HBX.out
        have y2 := cell_of_row wr _ 2 _ _ _ HBX.out
        have y3 := cell_of_row wr _ 3 _ _ _ HBX.out
        have y4 := cell_of_row wr _ 4 _ _ _ HBX.out
        have y5 := cell_of_row wr _ 5 _ _ _ HBX.out
        have y6 := cell_of_row wr _ 6 _ _ _ HBX.out
        have y7 := cell_of_row wr _ 7 _ _ _ HBX.out
        have y8 := cell_of_row wr _ 8 _ _ _ HBX.out
        have y9 := cell_of_row wr _ 9 _ _ _ HBX.out
        have y10 := cell_of_row wr _ 10 _ _ _ HBX.out
        have y11 := cell_of_row wr _ 11 _ _ _ HBX.out
        have y12 := cell_of_row wr _ 12 _ _ _ HBX.out
        have y13 := cell_of_row wr _ 13 _ _ _ HBX.out
        simp only [List.getElem?_toArray, List.getElem?_cons_zero, List.getElem?_cons_succ] at y0 y1 y2 y3 y4 y5 y6 y7 y8 y9 y10 y11 y12 y13
        go_wp2_with fail
        refine HCT.out.mono ?_
        rintro e w5 ⟨rfl, hb5⟩
        have B5 := Lib.hid (below_step BR.out (Nat.le_refl _) hb5)
        clear hb5 HCT
        go_wp2
        go_roundw
        case rel => exact ⟨k + 1, by omega, by go_num, by rw [HS'.out], by rw [HT3.out], by rw [HB4.out], B5.out⟩
        case measure => simp [intOf]; omega
    · obtain rfl : k = N := by omega
      have dl : decide ((k : Int) < (k : Int)) = false := decide_eq_false (by omega)
      obtain ⟨q1, q2⟩ := GS.out S (by rw [← hS, ← HN.out]; unfold sT; rw [List.take_length]; rfl)
      have PA := Lib.hid (fun W => parse_any S (by omega) W)
      unfold ParseR at PA
      obtain ⟨a1, ha1⟩ : ∃ x, (parseQ S).2.2 = x := ⟨_, rfl⟩
      rw [q1, q2, ha1] at PA
      have HTT := Lib.hid (show tT L nn k = T from hT)
      have HBB := Lib.hid hbb
      have BR4 := Lib.hid (below_step B34.out (Nat.le_refl _) BR.out)
      clear q1 q2 ha1 hS hT hbb HTX HC HSS HST
      go_wp2_with fail
      refine (PA.out _).mono ?_
      rintro e w5 ⟨qa1, qc1, rfl, hcp, hb⟩
      have B5 := Lib.hid (below_step BR.out (Nat.le_refl _) hb)
      have HC5 := Lib.hid (CondP.is _ _ hcp)
      clear hb PA hcp
      have b56 := (Below.refl w5.heap.size w5).alloc (Nat.le_refl _) (.cells #[.int .i64 Q.ask, .int .i64 Q.kind, .int .i64 Q.wher.op, .string Q.wher.key, .string Q.wher.val, .int .i64 Q.wher.n, .slice qa1 Q.wher.kids.length qc1, .string Q.id, .int .i64 Q.n, .int .i64 Q.x, .int .i64 Q.y, .string Q.key, .string Q.prof, .int .i64 Q.minute] 28)
      have B6 := Lib.hid (below_step B5.out (Nat.le_refl _) b56)
      have HX6 := Lib.hid (row_later B6.out R4.out)
      have SM := Lib.hid (same_any Q Q qa qc qa1 qc1 _ (HC4.out.later B6.out) (HC5.out.later b56))
      rw [sameQ_refl] at SM
      have BW := Lib.hid (below_step B4.out (Nat.le_refl _) B6.out)
      have HY5 := Lib.hid (row_later B5.out R4.out)
      have yz := lt_of_block HY5.out
      have y0 := cell_of_row w5 _ 0 _ _ _ HY5.out
      have y1 := cell_of_row w5 _ 1 _ _ _ HY5.out
      have y2 := cell_of_row w5 _ 2 _ _ _ HY5.out
      have y3 := cell_of_row w5 _ 3 _ _ _ HY5.out
      have y4 := cell_of_row w5 _ 4 _ _ _ HY5.out
      have y5 := cell_of_row w5 _ 5 _ _ _ HY5.out
      have y6 := cell_of_row w5 _ 6 _ _ _ HY5.out
      have y7 := cell_of_row w5 _ 7 _ _ _ HY5.out
      have y8 := cell_of_row w5 _ 8 _ _ _ HY5.out
      have y9 := cell_of_row w5 _ 9 _ _ _ HY5.out
      have y10 := cell_of_row w5 _ 10 _ _ _ HY5.out
      have y11 := cell_of_row w5 _ 11 _ _ _ HY5.out
      have y12 := cell_of_row w5 _ 12 _ _ _ HY5.out
      have y13 := cell_of_row w5 _ 13 _ _ _ HY5.out
      simp only [List.getElem?_toArray, List.getElem?_cons_zero, List.getElem?_cons_succ] at y0 y1 y2 y3 y4 y5 y6 y7 y8 y9 y10 y11 y12 y13
      have z0 := cell_later b56 y0
      have z1 := cell_later b56 y1
      have z2 := cell_later b56 y2
      have z3 := cell_later b56 y3
      have z4 := cell_later b56 y4
      have z5 := cell_later b56 y5
      have z6 := cell_later b56 y6
      have z7 := cell_later b56 y7
      have z8 := cell_later b56 y8
      have z9 := cell_later b56 y9
      have z10 := cell_later b56 y10
      have z11 := cell_later b56 y11
      have z12 := cell_later b56 y12
      have z13 := cell_later b56 y13
      clear y0 y1 y2 y3 y4 y5 y6 y7 y8 y9 y10 y11 y12 y13
      clear b56
      go_wp2_with fail
      refine SM.out.mono ?_
      rintro e w7 ⟨rfl, hb7⟩
      have B7 := Lib.hid (below_step BW.out (Nat.le_refl _) hb7)
      clear SM
      cases bb
      case false =>
        go_wp2
        go_ret
        exact ⟨rfl, B7.out⟩
      case true =>
        have hnk : nn < k := of_decide_eq_true HBB.out
        obtain ⟨-, -, -, -, p1, p2⟩ := GN.out hnk
        rw [HTT.out] at p1 p2
        obtain ⟨T9, hT9⟩ : ∃ z, T ++ ⟨#[41]⟩ = z := ⟨_, rfl⟩
        rw [hT9] at p1 p2
        have T9' : ∀ W, (Op.stringOp .add T ⟨#[41]⟩).run Tryz.prog W = .ok (.string T9) W := fun W => by
          rw [← hT9]
          exact run_string_add_sum W _ _ (by have h1 : (⟨#[41]⟩ : ByteArray).size = 1 := rfl; omega)
        have hz9 : T9.size ≤ 1000000 := by rw [← hT9, ByteArray.size_append]; have h1 : (⟨#[41]⟩ : ByteArray).size = 1 := rfl; omega
        have PB := Lib.hid (fun W => parse_any T9 hz9 W)
        unfold ParseR at PB
        obtain ⟨a2, ha2⟩ : ∃ x, (parseQ T9).2.2 = x := ⟨_, rfl⟩
        rw [p1, p2, ha2] at PB
        have B67 := Lib.hid (below_step B6.out (Nat.le_refl _) hb7)
        clear p1 p2 ha2 hT9 hb7
        go_wp2_with fail
        refine (PB.out _).mono ?_
        rintro e w8 ⟨qa2, qc2, rfl, hcp, hb⟩
        have B8 := Lib.hid (below_step B67.out (Nat.le_refl _) hb)
        have HC8 := Lib.hid (CondP.is _ _ hcp)
        clear hb PB hcp z0 z1 z2 z3 z4 z5 z6 z7 z8 z9 z10 z11 z12 z13
        have b89 := (Below.refl w8.heap.size w8).alloc (Nat.le_refl _) (.cells #[.int .i64 Q.ask, .int .i64 Q.kind, .int .i64 Q.wher.op, .string Q.wher.key, .string Q.wher.val, .int .i64 Q.wher.n, .slice qa2 Q.wher.kids.length qc2, .string Q.id, .int .i64 Q.n, .int .i64 Q.x, .int .i64 Q.y, .string Q.key, .string Q.prof, .int .i64 Q.minute] 28)
        have B9 := Lib.hid (below_step B8.out (Nat.le_refl _) b89)
        have SM := Lib.hid (same_any Q Q qa qc qa2 qc2 _ (HC4.out.later B9.out) (HC8.out.later b89))
        rw [sameQ_refl] at SM
        have BV := Lib.hid (below_step B4.out (Nat.le_refl _) B9.out)
        have HX8 := Lib.hid (row_later B8.out R4.out)
        have xz := lt_of_block HX8.out
        have x0 := cell_of_row w8 _ 0 _ _ _ HX8.out
        have x1 := cell_of_row w8 _ 1 _ _ _ HX8.out
        have x2 := cell_of_row w8 _ 2 _ _ _ HX8.out
        have x3 := cell_of_row w8 _ 3 _ _ _ HX8.out
        have x4 := cell_of_row w8 _ 4 _ _ _ HX8.out
        have x5 := cell_of_row w8 _ 5 _ _ _ HX8.out
        have x6 := cell_of_row w8 _ 6 _ _ _ HX8.out
        have x7 := cell_of_row w8 _ 7 _ _ _ HX8.out
        have x8 := cell_of_row w8 _ 8 _ _ _ HX8.out
        have x9 := cell_of_row w8 _ 9 _ _ _ HX8.out
        have x10 := cell_of_row w8 _ 10 _ _ _ HX8.out
        have x11 := cell_of_row w8 _ 11 _ _ _ HX8.out
        have x12 := cell_of_row w8 _ 12 _ _ _ HX8.out
        have x13 := cell_of_row w8 _ 13 _ _ _ HX8.out
        simp only [List.getElem?_toArray, List.getElem?_cons_zero, List.getElem?_cons_succ] at x0 x1 x2 x3 x4 x5 x6 x7 x8 x9 x10 x11 x12 x13
        have u0 := cell_later b89 x0
        have u1 := cell_later b89 x1
        have u2 := cell_later b89 x2
        have u3 := cell_later b89 x3
        have u4 := cell_later b89 x4
        have u5 := cell_later b89 x5
        have u6 := cell_later b89 x6
        have u7 := cell_later b89 x7
        have u8 := cell_later b89 x8
        have u9 := cell_later b89 x9
        have u10 := cell_later b89 x10
        have u11 := cell_later b89 x11
        have u12 := cell_later b89 x12
        have u13 := cell_later b89 x13
        clear x0 x1 x2 x3 x4 x5 x6 x7 x8 x9 x10 x11 x12 x13
        clear b89
        go_wp2_with fail
        refine SM.out.mono ?_
        rintro e w10 ⟨rfl, hb10⟩
        have B10 := Lib.hid (below_step BV.out (Nat.le_refl _) hb10)
        clear SM
        go_wp2
        go_ret
        exact ⟨rfl, B10.out⟩
end Go.Proofs.YtdfenhjibnfdeaaGreatDoor
