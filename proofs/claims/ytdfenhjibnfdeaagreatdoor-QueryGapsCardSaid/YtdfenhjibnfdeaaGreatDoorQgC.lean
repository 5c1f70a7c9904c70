/- The plain law of QueryGaps, and the law's tokens. -/
import Derived.Test.YtdfenhjibnfdeaaGreatDoorQgA
import Derived.Test.YtdfenhjibnfdeaaGreatDoorQgB
namespace Go.Proofs.YtdfenhjibnfdeaaGreatDoor
open Go.RowKit Go.Shelf

theorem parse_ok_sim {s : ByteArray} {T L : List TokD} {G : Nat} {q : QryD} {r : List TokD} (h : lexP s = (T, 0, 0)) (hs : SimT L T) (hq : queryP G L = .ok q r) : parseQ s = if 60 < sizeC q.wher then (zeroQ, 2, 0) else (q, 0, 0) := by
  have hsim := sim_query G s.size _ _ hs
  rw [hq] at hsim
  unfold parseQ
  rw [h]
  show (match queryP s.size T with | .bad er off => _ | .ok q _ => _) = _
  cases hq2 : queryP s.size T with
  | ok q' r' => rw [hq2] at hsim; obtain ⟨rfl, -⟩ := hsim; rfl
  | bad e o => rw [hq2] at hsim; exact hsim.elim
theorem parse_bad_sim {s : ByteArray} {T L : List TokD} {G : Nat} {e : Int} {o : Nat} (h : lexP s = (T, 0, 0)) (hs : SimT L T) (hq : queryP G L = .bad e o) : (parseQ s).1 = zeroQ ∧ (parseQ s).2.1 = e := by
  have hsim := sim_query G s.size _ _ hs
  rw [hq] at hsim
  have : parseQ s = (match queryP s.size T with
    | .bad er off => (zeroQ, er, (off : Int))
    | .ok q _ => if 60 < sizeC q.wher then (zeroQ, 2, 0) else (q, 0, 0)) := by unfold parseQ; rw [h]; rfl
  rw [this]
  cases hq2 : queryP s.size T with
  | ok q' r' => rw [hq2] at hsim; exact hsim.elim
  | bad e' o' => rw [hq2] at hsim; exact ⟨rfl, hsim.symm⟩
/-- The tokens, a line feed behind each, have the same query, or the same error. -/
theorem gaps_same {s s1 : ByteArray} {L : List TokD} (hL : lexP s = (L, 0, 0)) (hs : s.size ≤ 2000) (h1 : lstB s1 = lineL L) : (parseQ s1).1 = (parseQ s).1 ∧ (parseQ s1).2.1 = (parseQ s).2.1 := by
  obtain ⟨w1, w2, w3⟩ := lex_words hL
  have hz : s1.size ≤ 20000 := by
    rw [← lstB_len, h1, line_len]; omega
  have hsp : Spells (lstB s1) (L.map ktT) := by
    have := spells_lines .nil L w1
    rw [List.append_nil, List.append_nil] at this
    rw [h1]; exact this
  obtain ⟨T, hT, hk⟩ := hsp.lex hz (by rw [List.length_map]; omega)
  have hsim : SimT L T := hk.symm
  cases hq : queryP s.size L with
  | ok q r => rw [parse_ok_sim hT hsim hq, parse_ok_sim hL (show SimT L L from rfl) hq]; exact ⟨rfl, rfl⟩
  | bad e o =>
    obtain ⟨a1, a2⟩ := parse_bad_sim hT hsim hq
    obtain ⟨b1, b2⟩ := parse_bad_sim hL (show SimT L L from rfl) hq
    exact ⟨a1.trans b1.symm, a2.trans b2.symm⟩
def headW : List UInt8 := [97, 108, 108, 32, 97, 110, 121, 32, 119, 104, 101, 114, 101]
def tAll : TokD := ⟨1, wAll, 0⟩
def tAny : TokD := ⟨1, wAny, 0⟩
def tWhere : TokD := ⟨1, wWhere, 0⟩
theorem wok_all : WordOK tAll := (scan_word (c := 97) (r := [108, 108]) (n := 3) 0 (by decide +kernel)).1
theorem wok_any : WordOK tAny := (scan_word (c := 97) (r := [110, 121]) (n := 3) 0 (by decide +kernel)).1
theorem wok_where : WordOK tWhere := (scan_word (c := 119) (r := [104, 101, 114, 101]) (n := 5) 0 (by decide +kernel)).1
theorem head_gaps (C : List TokD) : headW ++ gapL C = twL tAll ++ gapL (tAny :: tWhere :: C) := by
  unfold gapL; rw [List.flatMap_cons, List.flatMap_cons]; rfl
/-- The tokens of a condition behind 'all any where'. -/
theorem lex_head {s2 : ByteArray} {C : List TokD} (hC : ∀ t ∈ C, WordOK t) (hz : (C.flatMap twL).length + C.length ≤ 6000) (hl : C.length ≤ 2000) (h2 : lstB s2 = headW ++ gapL C) : ∃ T, lexP s2 = (T, 0, 0) ∧ SimT (tAll :: tAny :: tWhere :: C) T := by
  have hall : ∀ t ∈ tAny :: tWhere :: C, WordOK t := fun t ht => by
    rcases List.mem_cons.1 ht with rfl | ht
    · exact wok_any
    rcases List.mem_cons.1 ht with rfl | ht
    · exact wok_where
    · exact hC t ht
  have hsp : Spells (lstB s2) (ktT tAll :: (tAny :: tWhere :: C).map ktT) := by
    rw [h2, head_gaps]
    refine .tok wok_all.1 (wok_all.2 _ fun c hc => ?_) (spells_gaps _ hall)
    unfold gapL at hc; rw [List.flatMap_cons] at hc; injection hc with hc; subst hc; rfl
  obtain ⟨T, hT, hk⟩ := hsp.lex (by rw [← lstB_len, h2, List.length_append, gap_len]; have : headW.length = 13 := rfl; omega) (by simp only [List.length_cons, List.length_map]; omega)
  exact ⟨T, hT, hk.symm⟩
/-- Where the condition begins, and what the law makes of its tokens. -/
theorem gaps_where {s : ByteArray} {L : List TokD} (hL : lexP s = (L, 0, 0)) (hs : s.size ≤ 2000) (h0 : (parseQ s).2.1 = 0) (hop : (parseQ s).1.wher.op ≠ 1) :
    ∃ n W, 0 < n ∧ L[n]? = some W ∧ twL W = lstB wWhere ∧
      (∀ i, i < n → ∀ s2 : ByteArray, lstB s2 = headW ++ gapL (L.drop (i + 1)) → (parseQ s2).2.1 ≠ 0) ∧
      (∀ s2 : ByteArray, lstB s2 = headW ++ gapL (L.drop (n + 1)) → (parseQ s2).2.1 = 0 ∧ (parseQ s2).1.wher = (parseQ s).1.wher) ∧
      ∀ s3 : ByteArray, lstB s3 = lineL (L.take (n + 1)) ++ 40 :: (lineL (L.drop (n + 1)) ++ [41]) → (parseQ s3).2.1 = 0 ∧ (parseQ s3).1 = (parseQ s).1 := by
  obtain ⟨w1, w2, w3⟩ := lex_words hL
  have hll : SimT L L := rfl
  cases hq : queryP s.size L with
  | bad e o =>
    have := (parse_bad_sim hL hll hq).2
    rw [h0] at this
    exact absurd this.symm (nz_query _ _ e o hq)
  | ok q r =>
    have hp := parse_ok_sim hL hll hq
    have hz : ¬ 60 < sizeC q.wher := fun e => by rw [hp, if_pos e] at h0; cases h0
    rw [if_neg hz] at hp
    rw [hp] at hop ⊢
    simp only at hop ⊢
    obtain ⟨A, K, W, C, hA, hne, hW, hcond, hagain⟩ := query_where hq hop
    obtain ⟨W', r', hW', hWt⟩ := is_cons hW
    injection hW' with hW' _
    subst hW'
    have hAl : 0 < A.length := List.length_pos_iff.2 hne
    have hget : L[A.length + 1]? = some W := by rw [hA, List.getElem?_append_right (by omega), show A.length + 1 - A.length = 1 by omega]; rfl
    have hdrop : L.drop (A.length + 1 + 1) = C := by
      rw [hA, show A ++ K :: W :: C = (A ++ [K, W]) ++ C by simp, show A.length + 1 + 1 = (A ++ [K, W]).length by simp, List.drop_left]
    have htake : L.take (A.length + 1 + 1) = A ++ [K, W] := by
      rw [hA, show A ++ K :: W :: C = (A ++ [K, W]) ++ C by simp, show A.length + 1 + 1 = (A ++ [K, W]).length by simp, List.take_left]
    have hWw : WordOK W := w1 W (by rw [hA]; simp)
    have hk1 : W.kind = 1 ∨ W.kind = 4 := by
      rw [isP, Bool.and_eq_true] at hW; simpa using hW.2
    have hword : twL W = lstB wWhere := by
      unfold twL; rw [if_neg (by rcases hk1 with e | e <;> rw [e] <;> decide), hWt]
    have hW1 := word_where hWw hword
    have sub : ∀ i, (∀ t ∈ L.drop i, WordOK t) ∧ ((L.drop i).flatMap twL).length + (L.drop i).length ≤ 6000 ∧ (L.drop i).length ≤ 2000 := fun i => by
      have h1 := words_drop L i
      have h2 : (L.drop i).length ≤ L.length := by rw [List.length_drop]; omega
      exact ⟨fun t ht => w1 t (List.mem_of_mem_drop ht), by omega, by omega⟩
    refine ⟨A.length + 1, W, by omega, hget, hword, fun i hi s2 h2 h20 => ?_, fun s2 h2 => ?_, fun s3 h3 => ?_⟩
    · obtain ⟨b1, b2, b3⟩ := sub (i + 1)
      obtain ⟨T, hT, hsim⟩ := lex_head b1 b2 b3 h2
      cases hq2 : queryP 0 (tAll :: tAny :: tWhere :: L.drop (i + 1)) with
      | bad e o =>
        have := (parse_bad_sim hT hsim hq2).2
        rw [h20] at this
        exact absurd this.symm (nz_query _ _ e o hq2)
      | ok q2 r2 =>
        have hc := (query_all 0 (a := tAll) (b := tAny) (w := tWhere) ⟨rfl, rfl⟩ ⟨rfl, rfl⟩ ⟨rfl, rfl⟩ (L.drop (i + 1))).2 _ _ hq2
        refine cond_now hc W ?_ hW1
        have : (L.drop (i + 1))[A.length - i]? = some W := by rw [List.getElem?_drop, show i + 1 + (A.length - i) = A.length + 1 by omega]; exact hget
        exact List.mem_of_getElem? this
    · obtain ⟨b1, b2, b3⟩ := sub (A.length + 1 + 1)
      obtain ⟨T, hT, hsim⟩ := lex_head b1 b2 b3 h2
      rw [hdrop] at hsim
      obtain ⟨q2, hq2, hq3⟩ := (query_all s.size (a := tAll) (b := tAny) (w := tWhere) ⟨rfl, rfl⟩ ⟨rfl, rfl⟩ ⟨rfl, rfl⟩ C).1 _ hcond
      rw [parse_ok_sim hT hsim hq2, hq3, if_neg hz]
      exact ⟨rfl, hq3⟩
    · rw [hdrop, htake] at h3
      have hsp : Spells (lstB s3) ((A ++ [K, W]).map ktT ++ ((4, wOpen) :: (C.map ktT ++ [(4, wClose)]))) := by
        rw [h3]
        refine spells_lines ?_ _ fun t ht => w1 t (by rw [hA, show A ++ K :: W :: C = (A ++ [K, W]) ++ C by simp]; exact List.mem_append_left _ ht)
        have hc : Spells [41] [(4, wClose)] := .tok (w := [41]) (l := []) (List.cons_ne_nil _ _) (scan_sym (c := 41) [] (by decide)) .nil
        have hcs := spells_lines hc C fun t ht => w1 t (by rw [hA]; simp [ht])
        exact .tok (w := [40]) (List.cons_ne_nil _ _) (scan_sym (c := 40) _ (by decide)) hcs
      have hlen : L.length = A.length + 2 + C.length := by rw [hA]; simp; omega
      have hws := words_take L (A.length + 1 + 1)
      rw [hdrop, htake] at hws
      obtain ⟨T, hT, hk⟩ := hsp.lex (by
        rw [← lstB_len, h3, List.length_append, List.length_cons, List.length_append, line_len, line_len]
        simp only [List.length_append, List.length_cons, List.length_nil]; omega) (by simp only [List.length_append, List.length_cons, List.length_nil, List.length_map]; omega)
      have hsim : SimT (A ++ K :: W :: ((⟨4, wOpen, 0⟩ : TokD) :: (C ++ [⟨4, wClose, 0⟩]))) T := by
        show List.map ktT _ = List.map ktT T
        rw [hk]; simp [ktT]
      have hq3 := hagain s.size ((⟨4, wOpen, 0⟩ : TokD) :: (C ++ [⟨4, wClose, 0⟩])) (cond_paren hcond (by simp) ⟨rfl, rfl⟩ ⟨rfl, rfl⟩)
      rw [parse_ok_sim hT hsim hq3, if_neg hz]
      exact ⟨rfl, rfl⟩
end Go.Proofs.YtdfenhjibnfdeaaGreatDoor
namespace Go.Proofs.YtdfenhjibnfdeaaGreatDoor
open Go.RowKit Go.Shelf

/-- A token's word, as the law writes it. -/
def twB (t : TokD) : ByteArray := if t.kind = 3 then quoteB t.text else t.text
theorem lst_tw (t : TokD) : lstB (twB t) = twL t := by
  unfold twB twL
  split
  · rfl
  · rfl
def gapB (L : List TokD) : ByteArray := bytesOf (headW ++ gapL L)
theorem byt_lst (s : ByteArray) : bytesOf (lstB s) = s := ByteArray.ext (Array.toArray_toList ..)
theorem lst_apB (a b : ByteArray) : lstB (a ++ b) = lstB a ++ lstB b := by unfold lstB; rw [ByteArray.data_append, Array.toList_append]
theorem gapB_snoc {D : List TokD} {j : Nat} {x : TokD} (h : D[j]? = some x) : (gapB (D.take j) ++ ⟨#[32]⟩) ++ twB x = gapB (D.take (j + 1)) := by
  obtain ⟨hj, rfl⟩ := List.getElem?_eq_some_iff.1 h
  rw [← byt_lst ((gapB (D.take j) ++ ⟨#[32]⟩) ++ twB D[j]), lst_apB, lst_apB, lst_tw, List.take_succ_eq_append_getElem hj]
  unfold gapB
  congr 1
  show (headW ++ gapL (D.take j)) ++ [32] ++ twL D[j] = headW ++ gapL (D.take j ++ [D[j]])
  unfold gapL
  rw [List.flatMap_append]
  simp
theorem gapB_size (L : List TokD) : (gapB L).size = 13 + ((L.flatMap twL).length + L.length) := by
  rw [← lstB_len]
  show (headW ++ gapL L).length = _
  rw [List.length_append, gap_len]; rfl
theorem words_takeD (L : List TokD) (i j : Nat) : (((L.drop i).take j).flatMap twL).length + ((L.drop i).take j).length ≤ (L.flatMap twL).length + L.length := by
  have h1 := words_drop L i
  have h2 := words_take (L.drop i) j
  have h3 : ((L.drop i).take j).length ≤ L.length := by rw [List.length_take, List.length_drop]; omega
  omega
/-- What the law's tokens returns. -/
def tokV (L : List TokD) (c : CondD) (i : Nat) : Int :=
  if (parseQ (gapB (L.drop (i + 1)))).2.1 = 0 ∧ sameC (parseQ (gapB (L.drop (i + 1)))).1.wher c = true then (L.length : Int) - i - 1 else 0
set_option maxRecDepth 100000 in
set_option maxHeartbeats 8000000 in
theorem gtokens_any (s : ByteArray) (L : List TokD) (hL : lexP s = (L, 0, 0)) (hs : s.size ≤ 2000) (c : CondD) (a : Option Addr) (cap : Nat) (v : Value) (i : Nat) (hi : i < L.length) (w : World) (hc : CondIs w c a) (hv : TkR w v L) :
    Calls Tryz.prog 17 #[condV c a cap, v, .int .i64 i] w fun e w' => e = .returned (.int .i64 (tokV L c i)) ∧ Below w.heap.size w w' := by
  obtain ⟨ta, tc, rfl, hn1, hn2, hcell⟩ := hv
  obtain ⟨w1, w2, w3⟩ := lex_words hL
  have hTK := (lex_good hL).2.1
  have hsz : ∀ j, (gapB ((L.drop (i + 1)).take j)).size ≤ 6013 := fun j => by rw [gapB_size]; have := words_takeD L (i + 1) j; omega
  obtain ⟨N, hN⟩ : ∃ N, L.length = N := ⟨_, rfl⟩
  have HSZ := Lib.hid hsz
  have HTK := Lib.hid hTK
  have HCL := Lib.hid (hcell (by omega))
  have HN := Lib.hid hN
  have B1 := (Below.refl w.heap.size w).alloc (Nat.le_refl _) (.cells #[.int .i64 c.op, .string c.key, .string c.val, .int .i64 c.n, .slice a c.kids.length cap] 24)
  have HC0 := Lib.hid (row_new w (.cells #[.int .i64 c.op, .string c.key, .string c.val, .int .i64 c.n, .slice a c.kids.length cap] 24))
  have HCI := Lib.hid hc
  obtain ⟨F, hF⟩ : ∃ F, gapB (L.drop (i + 1)) = F := ⟨_, rfl⟩
  have HF := Lib.hid hF
  obtain ⟨RES, hRES⟩ : ∃ z, tokV L c i = z := ⟨_, rfl⟩
  have HRES := Lib.hid (show (if (parseQ F).2.1 = 0 ∧ sameC (parseQ F).1.wher c = true then (N : Int) - i - 1 else 0) = RES by rw [← hRES, ← hF, ← hN]; rfl)
  rw [hRES, hN]
  rw [hN] at hn1 hi w3
  show Calls Tryz.prog 17 #[.agg #[.int .i64 c.op, .string c.key, .string c.val, .int .i64 c.n, .slice a c.kids.length cap], .slice ta N tc, .int .i64 i] w _
  have hN2 : N ≤ 2000 := by omega
  clear hsz hTK hcell hN hc hF hRES hL w1 w2 w3
  go_enter Tryz.func17, Tryz.ntmps17
  go_wp2
  go_loopw [7, 8] (fun sv kv wr => ∃ (j : Nat), i + 1 + j ≤ N ∧ kv = .int .i64 ((i + 1 + j : Nat) : Int) ∧ sv = .string (gapB ((L.drop (i + 1)).take j)) ∧ Below w.heap.size w wr ∧ wr.heap[w.heap.size]? = some (.cells #[.int .i64 c.op, .string c.key, .string c.val, .int .i64 c.n, .slice a c.kids.length cap] 24 (0, 0))) (fun _ kv _ => N - (intOf kv).toNat)
  case atStart => exact ⟨0, by omega, by go_num, rfl, B1, HC0.out⟩
  case round =>
    obtain ⟨j, hj, rfl, rfl, hbr, hbx⟩ := hrel
    have HBX := Lib.hid hbx
    have BR := Lib.hid hbr
    clear hbx B1 HC0
    obtain ⟨S, hS⟩ : ∃ S, gapB ((L.drop (i + 1)).take j) = S := ⟨_, rfl⟩
    have HS := Lib.hid hS
    have hz : S.size ≤ 6013 := by rw [← hS]; exact HSZ.out j
    rw [hS]
    obtain ⟨k, hk⟩ : ∃ k, i + 1 + j = k := ⟨_, rfl⟩
    have HK := Lib.hid hk
    rw [hk] at hj ⊢
    by_cases hlt : k < N
    · obtain ⟨x, hx⟩ : ∃ x, L[k]? = some x := ⟨L[k]'(by rw [HN.out]; exact hlt), List.getElem?_eq_getElem _⟩
      obtain ⟨b, off, ha, hrow⟩ := HCL.out
      subst ha
      obtain ⟨q0, q1, -⟩ := hrow k x hx
      have c0 := cell_later hbr q0
      have c1 := cell_later hbr q1
      have dl : decide ((k : Int) < N) = true := decide_eq_true (by omega)
      obtain ⟨S', hS'⟩ : ∃ S', gapB ((L.drop (i + 1)).take (j + 1)) = S' := ⟨_, rfl⟩
      have hz' : S'.size ≤ 6013 := by rw [← hS']; exact HSZ.out (j + 1)
      have hD : (L.drop (i + 1))[j]? = some x := by rw [List.getElem?_drop, hk]; exact hx
      obtain ⟨word, hw⟩ : ∃ u, twB x = u := ⟨_, rfl⟩
      have HS2 := Lib.hid (show (S ++ ⟨#[32]⟩) ++ word = S' by rw [← hS, ← hw, ← hS', gapB_snoc hD])
      have hww : word.size ≤ 6013 := by
        have := congrArg ByteArray.size HS2.out
        simp only [ByteArray.size_append] at this; omega
      have HS' := Lib.hid hS'
      have htx : x.text.size ≤ 1000000 := Nat.le_trans (HTK.out x (List.mem_of_getElem? hx)).1 (by omega)
      clear hrow q0 q1 hx hS' hD hS hk hbr
      by_cases h3 : x.kind = 3
      · have d3 : (x.kind == 3) = true := by rw [beq_iff_eq]; exact h3
        have hqw : quoteB x.text = word := by rw [← hw, twB, if_pos h3]
        have QT := Lib.hid (quote_any x.text htx wr)
        rw [hqw] at QT
        clear hw hqw h3 htx
        have S1 : ∀ W, (Op.stringOp .add S ⟨#[32]⟩).run Tryz.prog W = .ok (.string (S ++ ⟨#[32]⟩)) W := fun W => run_string_add_sum W _ _ (by have : (⟨#[32]⟩ : ByteArray).size = 1 := rfl; omega)
        have S2 : ∀ W, (Op.stringOp .add (S ++ ⟨#[32]⟩) word).run Tryz.prog W = .ok (.string S') W := fun W => by
          rw [← HS2.out]
          exact run_string_add_sum W _ _ (by have : (⟨#[32]⟩ : ByteArray).size = 1 := rfl; simp only [ByteArray.size_append]; omega)
        go_wp2_with fail
        refine QT.out.mono ?_
        rintro e w3 ⟨rfl, hb3⟩
        have HB3 := Lib.hid (row_later hb3 HBX.out)
        have B3 := Lib.hid (below_step BR.out (Nat.le_refl _) hb3)
        clear hb3 QT
        go_wp2
        go_roundw
        case rel => exact ⟨j + 1, by have := HK.out; omega, by have := HK.out; rw [show i + 1 + (j + 1) = k + 1 by omega]; go_num, by rw [HS'.out], B3.out, HB3.out⟩
        case measure => simp [intOf]; omega
      · have d3 : (x.kind == 3) = false := by rw [beq_eq_false_iff_ne]; exact h3
        have hqw : x.text = word := by rw [← hw, twB, if_neg h3]
        clear hw h3 htx
        have S1 : ∀ W, (Op.stringOp .add S ⟨#[32]⟩).run Tryz.prog W = .ok (.string (S ++ ⟨#[32]⟩)) W := fun W => run_string_add_sum W _ _ (by have : (⟨#[32]⟩ : ByteArray).size = 1 := rfl; omega)
        have S2 : ∀ W, (Op.stringOp .add (S ++ ⟨#[32]⟩) word).run Tryz.prog W = .ok (.string S') W := fun W => by
          rw [← HS2.out]
          exact run_string_add_sum W _ _ (by have : (⟨#[32]⟩ : ByteArray).size = 1 := rfl; simp only [ByteArray.size_append]; omega)
        rw [hqw] at c1
        go_wp2
        go_roundw
        case rel => exact ⟨j + 1, by have := HK.out; omega, by have := HK.out; rw [show i + 1 + (j + 1) = k + 1 by omega]; go_num, by rw [HS'.out], BR.out, HBX.out⟩
        case measure => simp [intOf]; omega
    · have dl : decide ((k : Int) < N) = false := decide_eq_false (by omega)
      have hSF : S = F := by
        rw [← HS.out, ← HF.out, List.take_of_length_le]
        rw [List.length_drop, HN.out]; omega
      subst hSF
      have PA := Lib.hid (fun W => parse_any S (by omega) W)
      unfold ParseR at PA
      obtain ⟨Q, hQ⟩ : ∃ x, (parseQ S).1 = x := ⟨_, rfl⟩
      obtain ⟨f, hf⟩ : ∃ x, (parseQ S).2.1 = x := ⟨_, rfl⟩
      obtain ⟨at', ha⟩ : ∃ x, (parseQ S).2.2 = x := ⟨_, rfl⟩
      rw [hQ, hf, ha] at PA
      rw [hQ, hf] at HRES
      clear hQ hf ha
      go_wp2_with fail
      refine (PA.out _).mono ?_
      rintro e w3 ⟨qa, qc, rfl, hcp, hb⟩
      have B3 := Lib.hid (below_step BR.out (Nat.le_refl _) hb)
      have HX3 := Lib.hid (row_later hb HBX.out)
      have HQ3 := Lib.hid (CondP.is _ _ hcp)
      clear hb PA hcp
      have b4 := (Below.refl w3.heap.size w3).alloc (Nat.le_refl _) (.cells #[.int .i64 Q.ask, .int .i64 Q.kind, .int .i64 Q.wher.op, .string Q.wher.key, .string Q.wher.val, .int .i64 Q.wher.n, .slice qa Q.wher.kids.length qc, .string Q.id, .int .i64 Q.n, .int .i64 Q.x, .int .i64 Q.y, .string Q.key, .string Q.prof, .int .i64 Q.minute] 28)
      have B4 := Lib.hid (below_step B3.out (Nat.le_refl _) b4)
      have yz := lt_of_block HX3.out
      have y0 := cell_of_row w3 _ 0 _ _ _ HX3.out
      have y1 := cell_of_row w3 _ 1 _ _ _ HX3.out
      have y2 := cell_of_row w3 _ 2 _ _ _ HX3.out
      have y3 := cell_of_row w3 _ 3 _ _ _ HX3.out
      have y4 := cell_of_row w3 _ 4 _ _ _ HX3.out
      simp only [List.getElem?_toArray, List.getElem?_cons_zero, List.getElem?_cons_succ] at y0 y1 y2 y3 y4
      have SC := Lib.hid (samec_any Q.wher c qa qc a cap _ (HQ3.out.later b4) (HCI.out.later B4.out))
      rw [cond_cells, cond_cells] at SC
      clear HQ3 B3 HBX HN HCL HTK HSZ HK HS HF HX3
      have z0 := cell_later b4 y0
      have z1 := cell_later b4 y1
      have z2 := cell_later b4 y2
      have z3 := cell_later b4 y3
      have z4 := cell_later b4 y4
      clear b4 y0 y1 y2 y3 y4
      by_cases hf : f = 0
      · subst hf
        obtain ⟨m, hm⟩ : ∃ m, sameC Q.wher c = m := ⟨_, rfl⟩
        rw [hm] at SC HRES
        clear hm
        go_wp2_with fail
        refine SC.out.mono ?_
        rintro e w5 ⟨rfl, hb5⟩
        have B5 := below_step B4.out (Nat.le_refl _) hb5
        clear SC hb5
        cases m
        · have HR := Lib.hid (show (0 : Int) = RES by rw [← HRES.out, if_neg (by simp)])
          go_wp2
          go_ret
          exact ⟨congrArg (fun z => Ending.returned (.int .i64 z)) HR.out, B5⟩
        · have HR := Lib.hid (show (N : Int) - i - 1 = RES by rw [← HRES.out, if_pos (by simp)])
          go_wp2
          go_ret
          exact ⟨congrArg (fun z => Ending.returned (.int .i64 z)) HR.out, B5⟩
      · have xf : (f != 0) = true := by rw [bne_iff_ne]; exact hf
        have HR := Lib.hid (show (0 : Int) = RES by rw [← HRES.out, if_neg (fun h => hf h.1)])
        clear SC
        go_wp2_with fail
        go_ret
        exact ⟨congrArg (fun z => Ending.returned (.int .i64 z)) HR.out, B4.out⟩
end Go.Proofs.YtdfenhjibnfdeaaGreatDoor
namespace Go.Proofs.YtdfenhjibnfdeaaGreatDoor
open Go.RowKit Go.Shelf

/-- The tokens so far, a line feed behind each. -/
def sT (L : List TokD) (k : Nat) : ByteArray := bytesOf (lineL (L.take k))
/-- The same, with a parenthesis behind the token nn. -/
def tT (L : List TokD) (nn k : Nat) : ByteArray := bytesOf (if nn < k then lineL (L.take (nn + 1)) ++ 40 :: lineL ((L.take k).drop (nn + 1)) else lineL (L.take k))
theorem line_snoc (A : List TokD) (x : TokD) : lineL (A ++ [x]) = lineL A ++ (twL x ++ [10]) := by
  unfold lineL; rw [List.flatMap_append]; simp
theorem sT_step {L : List TokD} {k : Nat} {x : TokD} (h : L[k]? = some x) : (sT L k ++ twB x) ++ ⟨#[10]⟩ = sT L (k + 1) := by
  obtain ⟨hj, rfl⟩ := List.getElem?_eq_some_iff.1 h
  rw [← byt_lst ((sT L k ++ twB L[k]) ++ ⟨#[10]⟩), lst_apB, lst_apB, lst_tw]
  unfold sT
  rw [List.take_succ_eq_append_getElem hj, line_snoc]
  congr 1
  show lineL (L.take k) ++ twL L[k] ++ [10] = _
  rw [List.append_assoc]
theorem tT_step {L : List TokD} {nn k : Nat} {x : TokD} (h : L[k]? = some x) (hne : k ≠ nn) : (tT L nn k ++ twB x) ++ ⟨#[10]⟩ = tT L nn (k + 1) := by
  obtain ⟨hj, rfl⟩ := List.getElem?_eq_some_iff.1 h
  rw [← byt_lst ((tT L nn k ++ twB L[k]) ++ ⟨#[10]⟩), lst_apB, lst_apB, lst_tw]
  unfold tT
  by_cases hk : nn < k
  · rw [if_pos hk, if_pos (by omega), List.take_succ_eq_append_getElem hj, List.drop_append_of_le_length (by rw [List.length_take]; omega), line_snoc]
    congr 1
    show lineL (L.take (nn + 1)) ++ 40 :: lineL ((L.take k).drop (nn + 1)) ++ twL L[k] ++ [10] = _
    simp
  · rw [if_neg hk, if_neg (by omega), List.take_succ_eq_append_getElem hj, line_snoc]
    congr 1
    show lineL (L.take k) ++ twL L[k] ++ [10] = _
    rw [List.append_assoc]
theorem tT_at {L : List TokD} {k : Nat} {x : TokD} (h : L[k]? = some x) : ((tT L k k ++ twB x) ++ ⟨#[10]⟩) ++ ⟨#[40]⟩ = tT L k (k + 1) := by
  obtain ⟨hj, rfl⟩ := List.getElem?_eq_some_iff.1 h
  rw [← byt_lst (((tT L k k ++ twB L[k]) ++ ⟨#[10]⟩) ++ ⟨#[40]⟩), lst_apB, lst_apB, lst_apB, lst_tw]
  unfold tT
  rw [if_neg (Nat.lt_irrefl k), if_pos (by omega), List.drop_eq_nil_of_le (by rw [List.length_take]; omega), List.take_succ_eq_append_getElem hj, line_snoc]
  congr 1
  show lineL (L.take k) ++ twL L[k] ++ [10] ++ [40] = _
  simp [lineL]
theorem tT_end {L : List TokD} {nn : Nat} (h : nn < L.length) : lstB (tT L nn L.length ++ ⟨#[41]⟩) = lineL (L.take (nn + 1)) ++ 40 :: (lineL (L.drop (nn + 1)) ++ [41]) := by
  rw [lst_apB]
  unfold tT
  rw [if_pos h, List.take_length]
  show lineL (L.take (nn + 1)) ++ 40 :: lineL (L.drop (nn + 1)) ++ [41] = _
  simp
theorem line_le (L : List TokD) (i j : Nat) : (lineL ((L.take i).drop j)).length ≤ (L.flatMap twL).length + L.length := by
  rw [line_len]
  have h1 := words_drop (L.take i) j
  have h2 := words_take L i
  have h3 : ((L.take i).drop j).length ≤ L.length := by rw [List.length_drop, List.length_take]; omega
  omega
theorem sT_size (L : List TokD) (k : Nat) : (sT L k).size ≤ (L.flatMap twL).length + L.length := by
  rw [← lstB_len]
  exact line_le L k 0
theorem tT_size (L : List TokD) (nn k : Nat) : (tT L nn k).size ≤ 2 * ((L.flatMap twL).length + L.length) + 1 := by
  rw [← lstB_len]
  unfold tT
  split
  · show (lineL (L.take (nn + 1)) ++ 40 :: lineL ((L.take k).drop (nn + 1))).length ≤ _
    rw [List.length_append, List.length_cons]
    have h1 := line_le L (nn + 1) 0
    have h2 := line_le L k (nn + 1)
    rw [List.drop_zero] at h1; omega
  · have h1 := line_le L k 0
    rw [List.drop_zero] at h1
    show (lineL (L.take k)).length ≤ _
    omega
theorem tw_where {t : TokD} (h : WordOK t) (hw : twB t = wWhere) : t.kind = 1 := (word_where h (by rw [← lst_tw, hw])).1
/-- Where the parenthesis goes, if anywhere. -/
theorem gaps_nn {s : ByteArray} {L : List TokD} (hL : lexP s = (L, 0, 0)) (hs : s.size ≤ 2000) : ∃ nn, nn ≤ L.length ∧ ((parseQ s).2.1 = 0 → (parseQ s).1.wher.op ≠ 1 → nn < L.length) ∧
    (nn < L.length → (0 < nn ∧ (parseQ s).2.1 = 0 ∧ (parseQ s).1.wher.op ≠ 1) ∧ (∃ W, L[nn]? = some W ∧ twB W = wWhere) ∧ (∀ k, k < nn → tokV L (parseQ s).1.wher k = 0) ∧ tokV L (parseQ s).1.wher nn = (L.length : Int) - nn - 1 ∧
      (parseQ (tT L nn L.length ++ ⟨#[41]⟩)).2.1 = 0 ∧ (parseQ (tT L nn L.length ++ ⟨#[41]⟩)).1 = (parseQ s).1) := by
  by_cases h0 : (parseQ s).2.1 = 0 ∧ (parseQ s).1.wher.op ≠ 1
  · obtain ⟨n, W, n0, hW, hw, h1, h2, h3⟩ := gaps_where hL hs h0.1 h0.2
    have hn : n < L.length := (List.getElem?_eq_some_iff.1 hW).1
    refine ⟨n, by omega, fun _ _ => hn, fun _ => ⟨⟨n0, h0⟩, ⟨W, hW, ?_⟩, fun k hk => ?_, ?_, ?_⟩⟩
    · rw [← byt_lst (twB W), lst_tw, hw, byt_lst]
    · unfold tokV; rw [if_neg (fun h => h1 k hk _ rfl h.1)]
    · obtain ⟨a1, a2⟩ := h2 (gapB (L.drop (n + 1))) rfl
      unfold tokV; rw [if_pos ⟨a1, by rw [a2]; exact sameC_refl _⟩]
    · exact h3 _ (tT_end hn)
  · exact ⟨L.length, Nat.le_refl _, fun a b => absurd ⟨a, b⟩ h0, fun h => absurd h (Nat.lt_irrefl _)⟩
theorem parse_lexerr {s : ByteArray} (h : (lexP s).2.1 ≠ 0) : (parseQ s).2.1 = (lexP s).2.1 := by
  unfold parseQ; rw [if_pos h]
end Go.Proofs.YtdfenhjibnfdeaaGreatDoor
