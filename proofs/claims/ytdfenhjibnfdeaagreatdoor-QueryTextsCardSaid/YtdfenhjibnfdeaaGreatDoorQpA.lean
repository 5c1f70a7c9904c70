/- query.Parse at every text. -/
import Derived.Test.YtdfenhjibnfdeaaGreatDoorQyBa
import Derived.Test.YtdfenhjibnfdeaaGreatDoorQyAp
namespace Go.Proofs.YtdfenhjibnfdeaaGreatDoor
open Go.RowKit Go.Shelf

/-- What Parse answers: a query, an error and its offset. -/
def parseQ (s : ByteArray) : QryD × Int × Int :=
  if (lexP s).2.1 ≠ 0 then (zeroQ, (lexP s).2.1, (lexP s).2.2)
  else match queryP s.size (lexP s).1 with
    | .bad er off => (zeroQ, er, (off : Int))
    | .ok q _ => if 60 < sizeC q.wher then (zeroQ, 2, 0) else (q, 0, 0)

set_option maxRecDepth 100000 in
set_option maxHeartbeats 4000000 in
theorem parse_lexbad (s : ByteArray) (hs : s.size ≤ 1000000) (er off : Int) (hT : (lexP s).2 = (er, off)) (hne : er ≠ 0) (w : World) :
    Calls Tryz.prog 13 #[.string s] w (ParseR w.heap.size (zeroQ, er, off) w) := by
  have HEE := Lib.hid (show (lexP s).2.1 = er by rw [hT])
  have HAA := Lib.hid (show (lexP s).2.2 = off by rw [hT])
  have dn : (er != 0) = true := by rw [bne_iff_ne]; exact hne
  have dn2 : (er == 0) = false := by rw [beq_eq_false_iff_ne]; exact hne
  have LX := Lib.hid (fun W => lex_any s (by omega) W)
  have b3 := (((Below.refl w.heap.size w).alloc (Nat.le_refl _) (.cells nilQ 28)).alloc (by simp) (.cells #[.int .i64 0] 31)).alloc (by simp; omega) (.cells #[.int .i64 0] 3)
  have rq := row_past (o' := .cells #[.int .i64 0] 3) (row_past (o' := .cells #[.int .i64 0] 31) (row_new w (.cells nilQ 28)))
  have re := row_past (o' := .cells #[.int .i64 0] 3) (row_new (w.alloc (.cells nilQ 28)) (.cells #[.int .i64 0] 31))
  have ra := row_new ((w.alloc (.cells nilQ 28)).alloc (.cells #[.int .i64 0] 31)) (.cells #[.int .i64 0] 3)
  simp only [World.size_alloc] at re ra
  have RQ := Lib.hid rq
  have RE := Lib.hid re
  have RA := Lib.hid ra
  have B3 := Lib.hid b3
  clear rq re ra b3
  have hmf : ∀ (fn : Fn) (first cap : Array Value) (w : World), (Instr.makeFunc fn first cap).run Tryz.prog w = .ok (.func fn first cap) w := fun _ _ _ _ => rfl
  have hmx : Tryz.prog.follows .mixedOrders = true := by kernel_rfl
  go_enter_defers Tryz.func13, Tryz.ntmps13
  go_wp2_with fail
  refine (LX.out _).mono ?_
  rintro e w1 ⟨v, rfl, hown, hb1⟩
  obtain ⟨va, vn, vc, rfl⟩ : ∃ a n c, v = .slice a n c := by
    rcases hown.2 with ⟨h, _⟩ | ⟨g, cap, cur, h, _⟩
    · exact ⟨_, _, _, h⟩
    · exact ⟨_, _, _, h⟩
  rw [HEE.out, HAA.out]
  have RQ1 := Lib.hid (row_later hb1 RQ.out)
  have RE1 := Lib.hid (row_later hb1 RE.out)
  have RA1 := Lib.hid (row_later hb1 RA.out)
  have B1 := Lib.hid (below_step B3.out (Nat.le_refl _) hb1)
  have OW := Lib.hid (own_zero hown)
  have hs1 : w.heap.size + 3 ≤ w1.heap.size := by have := hb1.size; simp at this; omega
  clear hown hb1
  have qz := lt_of_block RQ1.out
  have q0 := cell_of_row w1 _ 0 _ _ _ RQ1.out
  have q1 := cell_of_row w1 _ 1 _ _ _ RQ1.out
  have q2 := cell_of_row w1 _ 2 _ _ _ RQ1.out
  have q3 := cell_of_row w1 _ 3 _ _ _ RQ1.out
  have q4 := cell_of_row w1 _ 4 _ _ _ RQ1.out
  have q5 := cell_of_row w1 _ 5 _ _ _ RQ1.out
  have q6 := cell_of_row w1 _ 6 _ _ _ RQ1.out
  have q7 := cell_of_row w1 _ 7 _ _ _ RQ1.out
  have q8 := cell_of_row w1 _ 8 _ _ _ RQ1.out
  have q9 := cell_of_row w1 _ 9 _ _ _ RQ1.out
  have q10 := cell_of_row w1 _ 10 _ _ _ RQ1.out
  have q11 := cell_of_row w1 _ 11 _ _ _ RQ1.out
  have q12 := cell_of_row w1 _ 12 _ _ _ RQ1.out
  have q13 := cell_of_row w1 _ 13 _ _ _ RQ1.out
  have qf0 := frozen_of_row w1 _ 0 _ _ RQ1.out
  have qf1 := frozen_of_row w1 _ 1 _ _ RQ1.out
  have qf2 := frozen_of_row w1 _ 2 _ _ RQ1.out
  have qf3 := frozen_of_row w1 _ 3 _ _ RQ1.out
  have qf4 := frozen_of_row w1 _ 4 _ _ RQ1.out
  have qf5 := frozen_of_row w1 _ 5 _ _ RQ1.out
  have qf6 := frozen_of_row w1 _ 6 _ _ RQ1.out
  have qf7 := frozen_of_row w1 _ 7 _ _ RQ1.out
  have qf8 := frozen_of_row w1 _ 8 _ _ RQ1.out
  have qf9 := frozen_of_row w1 _ 9 _ _ RQ1.out
  have qf10 := frozen_of_row w1 _ 10 _ _ RQ1.out
  have qf11 := frozen_of_row w1 _ 11 _ _ RQ1.out
  have qf12 := frozen_of_row w1 _ 12 _ _ RQ1.out
  have qf13 := frozen_of_row w1 _ 13 _ _ RQ1.out
  simp only [List.getElem?_toArray, List.getElem?_cons_zero, List.getElem?_cons_succ] at q0 q1 q2 q3 q4 q5 q6 q7 q8 q9 q10 q11 q12 q13
  have ez := lt_of_block RE1.out
  have e0 := cell_of_row w1 _ 0 _ _ _ RE1.out
  have ef0 := frozen_of_row w1 _ 0 _ _ RE1.out
  simp only [List.getElem?_toArray, List.getElem?_cons_zero] at e0
  have az := lt_of_block RA1.out
  have a0 := cell_of_row w1 _ 0 _ _ _ RA1.out
  have af0 := frozen_of_row w1 _ 0 _ _ RA1.out
  simp only [List.getElem?_toArray, List.getElem?_cons_zero] at a0
  obtain ⟨w2, hw2⟩ : ∃ z, (w1.setCell ⟨w.heap.size + 1, 0, none⟩ (.int .i64 er)).setCell ⟨w.heap.size + 1 + 1, 0, none⟩ (.int .i64 off) = z := ⟨_, rfl⟩
  have rq2 : w2.heap[w.heap.size]? = some (.cells nilQ 28 (0, 0)) := by rw [← hw2]; exact row_set_other (row_set_other RQ1.out (by simp only; omega)) (by simp only; omega)
  have re2 : w2.heap[w.heap.size + 1]? = some (.cells #[.int .i64 er] 31 (0, 0)) := by rw [← hw2]; exact row_set_other (row_set (i := 0) RE1.out) (by simp only; omega)
  have ra2 : w2.heap[w.heap.size + 1 + 1]? = some (.cells #[.int .i64 off] 3 (0, 0)) := by rw [← hw2]; exact row_set (i := 0) (row_set_other RA1.out (by simp only; omega))
  have b2 : Below w.heap.size w w2 := by rw [← hw2]; exact (B1.out.setCell (by simp only; omega) _).setCell (by simp only; omega) _
  have HQ := Lib.hid rq2
  have HE := Lib.hid re2
  have HA := Lib.hid ra2
  have B2 := Lib.hid b2
  have HW2 := Lib.hid hw2
  clear rq2 re2 ra2 b2 hw2
  go_wp2
  rw [HW2.out]
  clear q0 q1 q2 q3 q4 q5 q6 q7 q8 q9 q10 q11 q12 q13 qz qf0 qf1 qf2 qf3 qf4 qf5 qf6 qf7 qf8 qf9 qf10 qf11 qf12 qf13
  clear e0 ez ef0
  clear a0 az af0
  refine wp_region_mix 3 (fun W => W.heap[w.heap.size + 1]? = some (.cells #[.int .i64 er] 31 (0, 0)) ∧ W.heap[w.heap.size + 1 + 1]? = some (.cells #[.int .i64 off] 3 (0, 0))) (fun W => W.heap[w.heap.size]? = some (.cells nilQ 28 (0, 0)) ∧ (W.heap[w.heap.size + 1]? = some (.cells #[.int .i64 er] 31 (0, 0)) ∧ W.heap[w.heap.size + 1 + 1]? = some (.cells #[.int .i64 off] 3 (0, 0))) ∧ Below w.heap.size w W) hmx (by kernel_rfl) (by kernel_rfl) (by kernel_rfl) ((StableW.row _ _).and (((StableW.row _ _).and (StableW.row _ _)).and (StableW.below _ _ (Nat.le_refl _)))) (fun _ h => h.2.1) ⟨HQ.out, ⟨HE.out, HA.out⟩, B2.out.drew⟩ ?_
  apply Exists.intro
  refine ⟨fun W hW => ?_, ?_⟩
  · have z0 := cell_of_row W _ 0 _ _ _ hW.1
    have z1 := cell_of_row W _ 0 _ _ _ hW.2
    simp only [List.getElem?_toArray, List.getElem?_cons_zero] at z0 z1
    have d0 := cell_belowBy z0
    have d1 := cell_belowBy z1
    clear z0 z1
    simp only [List.take_succ_cons, List.take_zero]
    repeat (go_big_quiet_step (fail))
    exact wpQuiet_nil rfl
  · simp only [List.drop_succ_cons, List.drop_zero]
    refine tailM_step (ι := Unit) (fun _ => undef) (fun _ => fun W => W.heap[w.heap.size]? = some (.cells nilQ 28 (0, 0)) ∧ (W.heap[w.heap.size + 1]? = some (.cells #[.int .i64 er] 31 (0, 0)) ∧ W.heap[w.heap.size + 1 + 1]? = some (.cells #[.int .i64 off] 3 (0, 0))) ∧ Below w.heap.size w W) rfl (fun _ => ((StableW.row _ _).and (((StableW.row _ _).and (StableW.row _ _)).and (StableW.below _ _ (Nat.le_refl _))))) (fun _ W hW => hW.2.1) (fun W hS K hK => ?_) (fun _ => ?_)
    · obtain ⟨hS1, ⟨hS2, hS3⟩, hS4⟩ := hS
      have c0 := cell_of_row W _ 0 _ _ _ hS1
      have f0 := frozen_of_row W _ 0 _ _ hS1
      have c1 := cell_of_row W _ 1 _ _ _ hS1
      have f1 := frozen_of_row W _ 1 _ _ hS1
      have c2 := cell_of_row W _ 2 _ _ _ hS1
      have f2 := frozen_of_row W _ 2 _ _ hS1
      have c3 := cell_of_row W _ 3 _ _ _ hS1
      have f3 := frozen_of_row W _ 3 _ _ hS1
      have c4 := cell_of_row W _ 4 _ _ _ hS1
      have f4 := frozen_of_row W _ 4 _ _ hS1
      have c5 := cell_of_row W _ 5 _ _ _ hS1
      have f5 := frozen_of_row W _ 5 _ _ hS1
      have c6 := cell_of_row W _ 6 _ _ _ hS1
      have f6 := frozen_of_row W _ 6 _ _ hS1
      have c7 := cell_of_row W _ 7 _ _ _ hS1
      have f7 := frozen_of_row W _ 7 _ _ hS1
      have c8 := cell_of_row W _ 8 _ _ _ hS1
      have f8 := frozen_of_row W _ 8 _ _ hS1
      have c9 := cell_of_row W _ 9 _ _ _ hS1
      have f9 := frozen_of_row W _ 9 _ _ hS1
      have c10 := cell_of_row W _ 10 _ _ _ hS1
      have f10 := frozen_of_row W _ 10 _ _ hS1
      have c11 := cell_of_row W _ 11 _ _ _ hS1
      have f11 := frozen_of_row W _ 11 _ _ hS1
      have c12 := cell_of_row W _ 12 _ _ _ hS1
      have f12 := frozen_of_row W _ 12 _ _ hS1
      have c13 := cell_of_row W _ 13 _ _ _ hS1
      have f13 := frozen_of_row W _ 13 _ _ hS1
      simp only [List.getElem?_toArray, List.getElem?_cons_zero, List.getElem?_cons_succ] at c0 c1 c2 c3 c4 c5 c6 c7 c8 c9 c10 c11 c12 c13
      have hz := lt_of_block hS1
      go_simp
      have e : ∀ b, b ≠ w.heap.size → (set14 W w.heap.size (.int .i64 0) (.int .i64 0) (.int .i64 0) (.string ⟨#[]⟩) (.string ⟨#[]⟩) (.int .i64 0) (.slice none 0 0) (.string ⟨#[]⟩) (.int .i64 0) (.int .i64 0) (.int .i64 0) (.string ⟨#[]⟩) (.string ⟨#[]⟩) (.int .i64 0)).heap[b]? = W.heap[b]? := fun b hb => set14_heap _ _ _ _ _ _ _ _ _ _ _ _ _ _ hb
      exact hK () _ ⟨set14_row hS1 _ _ _ _ _ _ _ _ _ _ _ _ _ _, ⟨(e _ (by omega)).trans hS2, (e _ (by omega)).trans hS3⟩, set14_low hS4 (Nat.le_refl _) _ _ _ _ _ _ _ _ _ _ _ _ _ _⟩
    simp only [Act.put]
    refine tailM_step (ι := Unit) (fun _ => undef) (fun _ => fun W => W.heap[w.heap.size]? = some (.cells nilQ 28 (0, 0)) ∧ (W.heap[w.heap.size + 1]? = some (.cells #[.int .i64 er] 31 (0, 0)) ∧ W.heap[w.heap.size + 1 + 1]? = some (.cells #[.int .i64 off] 3 (0, 0))) ∧ Below w.heap.size w W) rfl (fun _ => ((StableW.row _ _).and (((StableW.row _ _).and (StableW.row _ _)).and (StableW.below _ _ (Nat.le_refl _))))) (fun _ W hW => hW.2.1) (fun W hS K hK => ?_) (fun _ => ?_)
    · obtain ⟨hS1, ⟨hS2, hS3⟩, hS4⟩ := hS
      have c0 := cell_of_row W _ 0 _ _ _ hS2
      have f0 := frozen_of_row W _ 0 _ _ hS2
      simp only [List.getElem?_toArray, List.getElem?_cons_zero] at c0
      have hz := lt_of_block hS2
      go_simp
      exact hK () _ ⟨row_set_other hS1 (by simp only; omega), ⟨row_set (i := 0) hS2, row_set_other hS3 (by simp only; omega)⟩, hS4.setCell (by simp only; omega) _⟩
    simp only [Act.put]
    refine tailM_step (ι := Unit) (fun _ => undef) (fun _ => fun W => W.heap[w.heap.size]? = some (.cells nilQ 28 (0, 0)) ∧ (W.heap[w.heap.size + 1]? = some (.cells #[.int .i64 er] 31 (0, 0)) ∧ W.heap[w.heap.size + 1 + 1]? = some (.cells #[.int .i64 off] 3 (0, 0))) ∧ Below w.heap.size w W) rfl (fun _ => ((StableW.row _ _).and (((StableW.row _ _).and (StableW.row _ _)).and (StableW.below _ _ (Nat.le_refl _))))) (fun _ W hW => hW.2.1) (fun W hS K hK => ?_) (fun _ => ?_)
    · obtain ⟨hS1, ⟨hS2, hS3⟩, hS4⟩ := hS
      have c0 := cell_of_row W _ 0 _ _ _ hS3
      have f0 := frozen_of_row W _ 0 _ _ hS3
      simp only [List.getElem?_toArray, List.getElem?_cons_zero] at c0
      have hz := lt_of_block hS3
      go_simp
      exact hK () _ ⟨row_set_other hS1 (by simp only; omega), ⟨row_set_other hS2 (by simp only; omega), row_set (i := 0) hS3⟩, hS4.setCell (by simp only; omega) _⟩
    simp only [Act.put]
    refine tailM_nil fun w6 h6 => ?_
    obtain ⟨rq6, ⟨re6, ra6⟩, b6⟩ := h6
    have RQ6 := Lib.hid rq6
    have RE6 := Lib.hid re6
    have RA6 := Lib.hid ra6
    have B6 := Lib.hid b6
    clear rq6 re6 ra6 b6
    go_wp2
    have qz := lt_of_block RQ6.out
    have q0 := cell_of_row w6 _ 0 _ _ _ RQ6.out
    have q1 := cell_of_row w6 _ 1 _ _ _ RQ6.out
    have q2 := cell_of_row w6 _ 2 _ _ _ RQ6.out
    have q3 := cell_of_row w6 _ 3 _ _ _ RQ6.out
    have q4 := cell_of_row w6 _ 4 _ _ _ RQ6.out
    have q5 := cell_of_row w6 _ 5 _ _ _ RQ6.out
    have q6 := cell_of_row w6 _ 6 _ _ _ RQ6.out
    have q7 := cell_of_row w6 _ 7 _ _ _ RQ6.out
    have q8 := cell_of_row w6 _ 8 _ _ _ RQ6.out
    have q9 := cell_of_row w6 _ 9 _ _ _ RQ6.out
    have q10 := cell_of_row w6 _ 10 _ _ _ RQ6.out
    have q11 := cell_of_row w6 _ 11 _ _ _ RQ6.out
    have q12 := cell_of_row w6 _ 12 _ _ _ RQ6.out
    have q13 := cell_of_row w6 _ 13 _ _ _ RQ6.out
    simp only [List.getElem?_toArray, List.getElem?_cons_zero, List.getElem?_cons_succ] at q0 q1 q2 q3 q4 q5 q6 q7 q8 q9 q10 q11 q12 q13
    have ez := lt_of_block RE6.out
    have e0 := cell_of_row w6 _ 0 _ _ _ RE6.out
    simp only [List.getElem?_toArray, List.getElem?_cons_zero] at e0
    have az := lt_of_block RA6.out
    have a0 := cell_of_row w6 _ 0 _ _ _ RA6.out
    simp only [List.getElem?_toArray, List.getElem?_cons_zero] at a0
    simp [bodyPostD, Leaves, results, Tryz.results13, go_sem, q0, q1, q2, q3, q4, q5, q6, q7, q8, q9, q10, q11, q12, q13, e0, a0]
    exact ⟨none, 0, rfl, leafP _ _ _ _ _ _ (by decide) (by decide), B6.out⟩
set_option maxRecDepth 100000 in
set_option maxHeartbeats 8000000 in
theorem parse_big (s : ByteArray) (hs : s.size ≤ 1000000) (T : List TokD) (q : QryD) (r : List TokD) (hT : lexP s = (T, 0, 0)) (hTl : T.length ≤ 5000) (hTK : ∀ t ∈ T, TokOK t) (hr : queryP s.size T = .ok q r) (hz : 60 < sizeC q.wher) (w : World) :
    Calls Tryz.prog 13 #[.string s] w (ParseR w.heap.size (zeroQ, 2, 0) w) := by
  have HEE := Lib.hid (show (lexP s).2.1 = 0 by rw [hT])
  have HAA := Lib.hid (show (lexP s).2.2 = 0 by rw [hT])
  have HTT := Lib.hid (show (lexP s).1 = T by rw [hT])
  have dz : decide ((60 : Int) < (sizeC q.wher : Int)) = true := by rw [decide_eq_true_eq]; omega
  have LX := Lib.hid (fun W => lex_any s (by omega) W)
  have b3 := (((Below.refl w.heap.size w).alloc (Nat.le_refl _) (.cells nilQ 28)).alloc (by simp) (.cells #[.int .i64 0] 31)).alloc (by simp; omega) (.cells #[.int .i64 0] 3)
  have rq := row_past (o' := .cells #[.int .i64 0] 3) (row_past (o' := .cells #[.int .i64 0] 31) (row_new w (.cells nilQ 28)))
  have re := row_past (o' := .cells #[.int .i64 0] 3) (row_new (w.alloc (.cells nilQ 28)) (.cells #[.int .i64 0] 31))
  have ra := row_new ((w.alloc (.cells nilQ 28)).alloc (.cells #[.int .i64 0] 31)) (.cells #[.int .i64 0] 3)
  simp only [World.size_alloc] at re ra
  have RQ := Lib.hid rq
  have RE := Lib.hid re
  have RA := Lib.hid ra
  have B3 := Lib.hid b3
  clear rq re ra b3
  have hmf : ∀ (fn : Fn) (first cap : Array Value) (w : World), (Instr.makeFunc fn first cap).run Tryz.prog w = .ok (.func fn first cap) w := fun _ _ _ _ => rfl
  have hmx : Tryz.prog.follows .mixedOrders = true := by kernel_rfl
  go_enter_defers Tryz.func13, Tryz.ntmps13
  go_wp2_with fail
  refine (LX.out _).mono ?_
  rintro e w1 ⟨v, rfl, hown, hb1⟩
  obtain ⟨va, vn, vc, rfl⟩ : ∃ a n c, v = .slice a n c := by
    rcases hown.2 with ⟨h, _⟩ | ⟨g, cap, cur, h, _⟩
    · exact ⟨_, _, _, h⟩
    · exact ⟨_, _, _, h⟩
  rw [HEE.out, HAA.out]
  have RQ1 := Lib.hid (row_later hb1 RQ.out)
  have RE1 := Lib.hid (row_later hb1 RE.out)
  have RA1 := Lib.hid (row_later hb1 RA.out)
  have B1 := Lib.hid (below_step B3.out (Nat.le_refl _) hb1)
  have OW := Lib.hid (own_zero hown)
  have hs1 : w.heap.size + 3 ≤ w1.heap.size := by have := hb1.size; simp at this; omega
  clear hown hb1
  have qz := lt_of_block RQ1.out
  have q0 := cell_of_row w1 _ 0 _ _ _ RQ1.out
  have q1 := cell_of_row w1 _ 1 _ _ _ RQ1.out
  have q2 := cell_of_row w1 _ 2 _ _ _ RQ1.out
  have q3 := cell_of_row w1 _ 3 _ _ _ RQ1.out
  have q4 := cell_of_row w1 _ 4 _ _ _ RQ1.out
  have q5 := cell_of_row w1 _ 5 _ _ _ RQ1.out
  have q6 := cell_of_row w1 _ 6 _ _ _ RQ1.out
  have q7 := cell_of_row w1 _ 7 _ _ _ RQ1.out
  have q8 := cell_of_row w1 _ 8 _ _ _ RQ1.out
  have q9 := cell_of_row w1 _ 9 _ _ _ RQ1.out
  have q10 := cell_of_row w1 _ 10 _ _ _ RQ1.out
  have q11 := cell_of_row w1 _ 11 _ _ _ RQ1.out
  have q12 := cell_of_row w1 _ 12 _ _ _ RQ1.out
  have q13 := cell_of_row w1 _ 13 _ _ _ RQ1.out
  have qf0 := frozen_of_row w1 _ 0 _ _ RQ1.out
  have qf1 := frozen_of_row w1 _ 1 _ _ RQ1.out
  have qf2 := frozen_of_row w1 _ 2 _ _ RQ1.out
  have qf3 := frozen_of_row w1 _ 3 _ _ RQ1.out
  have qf4 := frozen_of_row w1 _ 4 _ _ RQ1.out
  have qf5 := frozen_of_row w1 _ 5 _ _ RQ1.out
  have qf6 := frozen_of_row w1 _ 6 _ _ RQ1.out
  have qf7 := frozen_of_row w1 _ 7 _ _ RQ1.out
  have qf8 := frozen_of_row w1 _ 8 _ _ RQ1.out
  have qf9 := frozen_of_row w1 _ 9 _ _ RQ1.out
  have qf10 := frozen_of_row w1 _ 10 _ _ RQ1.out
  have qf11 := frozen_of_row w1 _ 11 _ _ RQ1.out
  have qf12 := frozen_of_row w1 _ 12 _ _ RQ1.out
  have qf13 := frozen_of_row w1 _ 13 _ _ RQ1.out
  simp only [List.getElem?_toArray, List.getElem?_cons_zero, List.getElem?_cons_succ] at q0 q1 q2 q3 q4 q5 q6 q7 q8 q9 q10 q11 q12 q13
  have ez := lt_of_block RE1.out
  have e0 := cell_of_row w1 _ 0 _ _ _ RE1.out
  have ef0 := frozen_of_row w1 _ 0 _ _ RE1.out
  simp only [List.getElem?_toArray, List.getElem?_cons_zero] at e0
  have az := lt_of_block RA1.out
  have a0 := cell_of_row w1 _ 0 _ _ _ RA1.out
  have af0 := frozen_of_row w1 _ 0 _ _ RA1.out
  simp only [List.getElem?_toArray, List.getElem?_cons_zero] at a0
  obtain ⟨w2, hw2⟩ : ∃ z, (w1.setCell ⟨w.heap.size + 1, 0, none⟩ (.int .i64 0)).setCell ⟨w.heap.size + 1 + 1, 0, none⟩ (.int .i64 0) = z := ⟨_, rfl⟩
  have rq2 : w2.heap[w.heap.size]? = some (.cells nilQ 28 (0, 0)) := by rw [← hw2]; exact row_set_other (row_set_other RQ1.out (by simp only; omega)) (by simp only; omega)
  have re2 : w2.heap[w.heap.size + 1]? = some (.cells #[.int .i64 0] 31 (0, 0)) := by rw [← hw2]; exact row_set_other (row_set (i := 0) RE1.out) (by simp only; omega)
  have ra2 : w2.heap[w.heap.size + 1 + 1]? = some (.cells #[.int .i64 0] 3 (0, 0)) := by rw [← hw2]; exact row_set (i := 0) (row_set_other RA1.out (by simp only; omega))
  have ow2 : w2.ownsRow 0 43 3 (.slice va vn vc) T.length (T.flatMap encTk) := by
    rw [← hw2]
    have hT3 := OW.out
    rw [HTT.out] at hT3
    rcases hT3 with ⟨h0, h1 | ⟨g, cap, cur, h1, h2, h3, h4⟩⟩
    · exact ⟨h0, .inl h1⟩
    · refine ⟨h0, .inr ⟨g, cap, cur, h1, h2, row_set_other (row_set_other h3 ?_) ?_, h4⟩⟩
      · rintro rfl
        have := RE1.out.symm.trans h3
        injection this with this; injection this with _ this; exact absurd this (by decide)
      · rintro rfl
        have := RA1.out.symm.trans h3
        injection this with this; injection this with _ this; exact absurd this (by decide)
  have b2 : Below w.heap.size w w2 := by rw [← hw2]; exact (B1.out.setCell (by simp only; omega) _).setCell (by simp only; omega) _
  have hs2 : w1.heap.size = w2.heap.size := by rw [← hw2]; simp
  have QY := Lib.hid (query_any w2.heap.size w2.heap.size (Nat.le_refl _) T s.size _ (by simp) (PAt.first s.size ow2 hTl hTK))
  have bp := (Below.refl w2.heap.size w2).alloc (Nat.le_refl _) (.cells #[.slice va vn vc, .int .i64 s.size] 80)
  have RQ2 := Lib.hid (row_later bp rq2)
  have RE2 := Lib.hid (row_later bp re2)
  have RA2 := Lib.hid (row_later bp ra2)
  have BP := Lib.hid bp
  have B2 := Lib.hid (below_step b2 (Nat.le_refl _) bp)
  have HW2 := Lib.hid hw2
  clear rq2 re2 ra2 ow2 b2 bp hw2
  rw [hr] at QY
  clear hr
  go_wp2_with fail
  rw [HW2.out]
  refine QY.out.mono ?_
  rintro e w3 ⟨hm3, v, rfl, ⟨aq, capq, rfl, hc3⟩, hp3⟩
  have hl3 := hm3.low
  have e3 : ∀ b, b < w2.heap.size → w3.heap[b]? = (w2.alloc (.cells #[.slice va vn vc, .int .i64 s.size] 80)).heap[b]? := fun b hb => hl3.block b hb
  have rq3 := (e3 _ (by omega)).trans RQ2.out
  have re3 := (e3 _ (by omega)).trans RE2.out
  have ra3 := (e3 _ (by omega)).trans RA2.out
  have B3 := Lib.hid (B2.out.trans (hl3.mono (by omega)))
  have hs3 : w2.heap.size ≤ w3.heap.size := by have := hm3.keep.1; simp at this; omega
  simp only [World.size_alloc] at hc3
  have HC3 := Lib.hid hc3
  have RQ3 := Lib.hid rq3
  have RE3 := Lib.hid re3
  have RA3 := Lib.hid ra3
  clear hm3 hl3 e3 rq3 re3 ra3 hp3 hc3
  clear q0 q1 q2 q3 q4 q5 q6 q7 q8 q9 q10 q11 q12 q13 qz qf0 qf1 qf2 qf3 qf4 qf5 qf6 qf7 qf8 qf9 qf10 qf11 qf12 qf13
  clear e0 ez ef0
  clear a0 az af0
  have qz := lt_of_block RQ3.out
  have q0 := cell_of_row w3 _ 0 _ _ _ RQ3.out
  have q1 := cell_of_row w3 _ 1 _ _ _ RQ3.out
  have q2 := cell_of_row w3 _ 2 _ _ _ RQ3.out
  have q3 := cell_of_row w3 _ 3 _ _ _ RQ3.out
  have q4 := cell_of_row w3 _ 4 _ _ _ RQ3.out
  have q5 := cell_of_row w3 _ 5 _ _ _ RQ3.out
  have q6 := cell_of_row w3 _ 6 _ _ _ RQ3.out
  have q7 := cell_of_row w3 _ 7 _ _ _ RQ3.out
  have q8 := cell_of_row w3 _ 8 _ _ _ RQ3.out
  have q9 := cell_of_row w3 _ 9 _ _ _ RQ3.out
  have q10 := cell_of_row w3 _ 10 _ _ _ RQ3.out
  have q11 := cell_of_row w3 _ 11 _ _ _ RQ3.out
  have q12 := cell_of_row w3 _ 12 _ _ _ RQ3.out
  have q13 := cell_of_row w3 _ 13 _ _ _ RQ3.out
  have qf0 := frozen_of_row w3 _ 0 _ _ RQ3.out
  have qf1 := frozen_of_row w3 _ 1 _ _ RQ3.out
  have qf2 := frozen_of_row w3 _ 2 _ _ RQ3.out
  have qf3 := frozen_of_row w3 _ 3 _ _ RQ3.out
  have qf4 := frozen_of_row w3 _ 4 _ _ RQ3.out
  have qf5 := frozen_of_row w3 _ 5 _ _ RQ3.out
  have qf6 := frozen_of_row w3 _ 6 _ _ RQ3.out
  have qf7 := frozen_of_row w3 _ 7 _ _ RQ3.out
  have qf8 := frozen_of_row w3 _ 8 _ _ RQ3.out
  have qf9 := frozen_of_row w3 _ 9 _ _ RQ3.out
  have qf10 := frozen_of_row w3 _ 10 _ _ RQ3.out
  have qf11 := frozen_of_row w3 _ 11 _ _ RQ3.out
  have qf12 := frozen_of_row w3 _ 12 _ _ RQ3.out
  have qf13 := frozen_of_row w3 _ 13 _ _ RQ3.out
  simp only [List.getElem?_toArray, List.getElem?_cons_zero, List.getElem?_cons_succ] at q0 q1 q2 q3 q4 q5 q6 q7 q8 q9 q10 q11 q12 q13
  have SZ := Lib.hid (fun W h => size_any q.wher aq capq W h)
  go_wp2_with fail
  generalize hw4 : ((((((((((((((w3).setCell ⟨w.heap.size, 0, none⟩ (.int .i64 q.ask)).setCell ⟨w.heap.size, 1, none⟩ (.int .i64 q.kind)).setCell ⟨w.heap.size, 2, none⟩ (.int .i64 q.wher.op)).setCell ⟨w.heap.size, 3, none⟩ (.string q.wher.key)).setCell ⟨w.heap.size, 4, none⟩ (.string q.wher.val)).setCell ⟨w.heap.size, 5, none⟩ (.int .i64 q.wher.n)).setCell ⟨w.heap.size, 6, none⟩ (.slice aq q.wher.kids.length capq)).setCell ⟨w.heap.size, 7, none⟩ (.string q.id)).setCell ⟨w.heap.size, 8, none⟩ (.int .i64 q.n)).setCell ⟨w.heap.size, 9, none⟩ (.int .i64 q.x)).setCell ⟨w.heap.size, 10, none⟩ (.int .i64 q.y)).setCell ⟨w.heap.size, 11, none⟩ (.string q.key)).setCell ⟨w.heap.size, 12, none⟩ (.string q.prof)).setCell ⟨w.heap.size, 13, none⟩ (.int .i64 q.minute) = w4
  have rq4 : w4.heap[w.heap.size]? = some (.cells #[.int .i64 q.ask, .int .i64 q.kind, .int .i64 q.wher.op, .string q.wher.key, .string q.wher.val, .int .i64 q.wher.n, .slice aq q.wher.kids.length capq, .string q.id, .int .i64 q.n, .int .i64 q.x, .int .i64 q.y, .string q.key, .string q.prof, .int .i64 q.minute] 28 (0, 0)) := by rw [← hw4]; exact set14_row RQ3.out _ _ _ _ _ _ _ _ _ _ _ _ _ _
  have e4 : ∀ b, b ≠ w.heap.size → w4.heap[b]? = w3.heap[b]? := fun b hb => by rw [← hw4]; exact set14_heap _ _ _ _ _ _ _ _ _ _ _ _ _ _ hb
  have B4 := Lib.hid (show Below w.heap.size w w4 by rw [← hw4]; exact set14_low B3.out (Nat.le_refl _) _ _ _ _ _ _ _ _ _ _ _ _ _ _)
  have hs4 : w3.heap.size = w4.heap.size := by rw [← hw4]; exact (set14_size _ _ _ _ _ _ _ _ _ _ _ _ _ _).symm
  have HC4 := Lib.hid (HC3.out.to (w' := w4) (Q := fun b => w2.heap.size + 1 ≤ b) (fun b h _ => h) fun b h1 _ => e4 b (by omega))
  have RE4 := Lib.hid ((e4 _ (by omega)).trans RE3.out)
  have RA4 := Lib.hid ((e4 _ (by omega)).trans RA3.out)
  have RQ4 := Lib.hid rq4
  clear rq4 e4 hw4
  clear q0 q1 q2 q3 q4 q5 q6 q7 q8 q9 q10 q11 q12 q13 qz qf0 qf1 qf2 qf3 qf4 qf5 qf6 qf7 qf8 qf9 qf10 qf11 qf12 qf13
  refine (SZ.out w4 (CondP.is _ _ HC4.out)).mono ?_
  rintro e w5 ⟨rfl, hb5⟩
  have RQ5 := Lib.hid (row_later hb5 RQ4.out)
  have RE5 := Lib.hid (row_later hb5 RE4.out)
  have RA5 := Lib.hid (row_later hb5 RA4.out)
  have B5 := Lib.hid (below_step B4.out (Nat.le_refl _) hb5)
  have HC5 := Lib.hid (HC4.out.to (w' := w5) (Q := fun b => w2.heap.size + 1 ≤ b) (fun b h _ => h) fun b _ h2 => hb5.block b h2)
  clear hb5
  have qz := lt_of_block RQ5.out
  have q0 := cell_of_row w5 _ 0 _ _ _ RQ5.out
  have q1 := cell_of_row w5 _ 1 _ _ _ RQ5.out
  have q2 := cell_of_row w5 _ 2 _ _ _ RQ5.out
  have q3 := cell_of_row w5 _ 3 _ _ _ RQ5.out
  have q4 := cell_of_row w5 _ 4 _ _ _ RQ5.out
  have q5 := cell_of_row w5 _ 5 _ _ _ RQ5.out
  have q6 := cell_of_row w5 _ 6 _ _ _ RQ5.out
  have q7 := cell_of_row w5 _ 7 _ _ _ RQ5.out
  have q8 := cell_of_row w5 _ 8 _ _ _ RQ5.out
  have q9 := cell_of_row w5 _ 9 _ _ _ RQ5.out
  have q10 := cell_of_row w5 _ 10 _ _ _ RQ5.out
  have q11 := cell_of_row w5 _ 11 _ _ _ RQ5.out
  have q12 := cell_of_row w5 _ 12 _ _ _ RQ5.out
  have q13 := cell_of_row w5 _ 13 _ _ _ RQ5.out
  have qf0 := frozen_of_row w5 _ 0 _ _ RQ5.out
  have qf1 := frozen_of_row w5 _ 1 _ _ RQ5.out
  have qf2 := frozen_of_row w5 _ 2 _ _ RQ5.out
  have qf3 := frozen_of_row w5 _ 3 _ _ RQ5.out
  have qf4 := frozen_of_row w5 _ 4 _ _ RQ5.out
  have qf5 := frozen_of_row w5 _ 5 _ _ RQ5.out
  have qf6 := frozen_of_row w5 _ 6 _ _ RQ5.out
  have qf7 := frozen_of_row w5 _ 7 _ _ RQ5.out
  have qf8 := frozen_of_row w5 _ 8 _ _ RQ5.out
  have qf9 := frozen_of_row w5 _ 9 _ _ RQ5.out
  have qf10 := frozen_of_row w5 _ 10 _ _ RQ5.out
  have qf11 := frozen_of_row w5 _ 11 _ _ RQ5.out
  have qf12 := frozen_of_row w5 _ 12 _ _ RQ5.out
  have qf13 := frozen_of_row w5 _ 13 _ _ RQ5.out
  simp only [List.getElem?_toArray, List.getElem?_cons_zero, List.getElem?_cons_succ] at q0 q1 q2 q3 q4 q5 q6 q7 q8 q9 q10 q11 q12 q13
  have ez := lt_of_block RE5.out
  have e0 := cell_of_row w5 _ 0 _ _ _ RE5.out
  have ef0 := frozen_of_row w5 _ 0 _ _ RE5.out
  simp only [List.getElem?_toArray, List.getElem?_cons_zero] at e0
  have az := lt_of_block RA5.out
  have a0 := cell_of_row w5 _ 0 _ _ _ RA5.out
  have af0 := frozen_of_row w5 _ 0 _ _ RA5.out
  simp only [List.getElem?_toArray, List.getElem?_cons_zero] at a0
  go_wp2
  generalize hw6 : (((((((((((((((((w5).setCell ⟨w.heap.size, 0, none⟩ (.int .i64 0)).setCell ⟨w.heap.size, 1, none⟩ (.int .i64 0)).setCell ⟨w.heap.size, 2, none⟩ (.int .i64 0)).setCell ⟨w.heap.size, 3, none⟩ (.string ⟨#[]⟩)).setCell ⟨w.heap.size, 4, none⟩ (.string ⟨#[]⟩)).setCell ⟨w.heap.size, 5, none⟩ (.int .i64 0)).setCell ⟨w.heap.size, 6, none⟩ (.slice none 0 0)).setCell ⟨w.heap.size, 7, none⟩ (.string ⟨#[]⟩)).setCell ⟨w.heap.size, 8, none⟩ (.int .i64 0)).setCell ⟨w.heap.size, 9, none⟩ (.int .i64 0)).setCell ⟨w.heap.size, 10, none⟩ (.int .i64 0)).setCell ⟨w.heap.size, 11, none⟩ (.string ⟨#[]⟩)).setCell ⟨w.heap.size, 12, none⟩ (.string ⟨#[]⟩)).setCell ⟨w.heap.size, 13, none⟩ (.int .i64 0)).setCell ⟨w.heap.size + 1, 0, none⟩ (.int .i64 2)).setCell ⟨w.heap.size + 1 + 1, 0, none⟩ (.int .i64 0)) = w6
  have rq6 : w6.heap[w.heap.size]? = some (.cells nilQ 28 (0, 0)) := by rw [← hw6]; exact row_set_other (row_set_other (set14_row RQ5.out _ _ _ _ _ _ _ _ _ _ _ _ _ _) (by simp only; omega)) (by simp only; omega)
  have re6 : w6.heap[w.heap.size + 1]? = some (.cells #[.int .i64 2] 31 (0, 0)) := by rw [← hw6]; exact row_set_other (row_set (i := 0) ((set14_heap _ _ _ _ _ _ _ _ _ _ _ _ _ _ (by omega)).trans RE5.out)) (by simp only; omega)
  have ra6 : w6.heap[w.heap.size + 1 + 1]? = some (.cells #[.int .i64 0] 3 (0, 0)) := by rw [← hw6]; exact row_set (i := 0) (row_set_other ((set14_heap _ _ _ _ _ _ _ _ _ _ _ _ _ _ (by omega)).trans RA5.out) (by simp only; omega))
  have B6 := Lib.hid (show Below w.heap.size w w6 by rw [← hw6]; exact ((set14_low B5.out (Nat.le_refl _) _ _ _ _ _ _ _ _ _ _ _ _ _ _).setCell (by simp only; omega) _).setCell (by simp only; omega) _)
  have RQ6 := Lib.hid rq6
  have RE6 := Lib.hid re6
  have RA6 := Lib.hid ra6
  clear rq6 re6 ra6 hw6
  clear q0 q1 q2 q3 q4 q5 q6 q7 q8 q9 q10 q11 q12 q13 qz qf0 qf1 qf2 qf3 qf4 qf5 qf6 qf7 qf8 qf9 qf10 qf11 qf12 qf13
  clear e0 ez ef0
  clear a0 az af0
  refine leaves_cons (f := 37) (args := #[.pointer (some ⟨w.heap.size, 0, none⟩), .pointer (some ⟨w.heap.size + 1, 0, none⟩), .pointer (some ⟨w.heap.size + 1 + 1, 0, none⟩)]) (by simp) (by simp [go_sem]) ?_
  refine (catch_idle _ _ _ w6).mono ?_
  rintro e u' w'' ⟨rfl, rfl, hw⟩
  subst w''
  have qz := lt_of_block RQ6.out
  have q0 := cell_of_row w6 _ 0 _ _ _ RQ6.out
  have q1 := cell_of_row w6 _ 1 _ _ _ RQ6.out
  have q2 := cell_of_row w6 _ 2 _ _ _ RQ6.out
  have q3 := cell_of_row w6 _ 3 _ _ _ RQ6.out
  have q4 := cell_of_row w6 _ 4 _ _ _ RQ6.out
  have q5 := cell_of_row w6 _ 5 _ _ _ RQ6.out
  have q6 := cell_of_row w6 _ 6 _ _ _ RQ6.out
  have q7 := cell_of_row w6 _ 7 _ _ _ RQ6.out
  have q8 := cell_of_row w6 _ 8 _ _ _ RQ6.out
  have q9 := cell_of_row w6 _ 9 _ _ _ RQ6.out
  have q10 := cell_of_row w6 _ 10 _ _ _ RQ6.out
  have q11 := cell_of_row w6 _ 11 _ _ _ RQ6.out
  have q12 := cell_of_row w6 _ 12 _ _ _ RQ6.out
  have q13 := cell_of_row w6 _ 13 _ _ _ RQ6.out
  simp only [List.getElem?_toArray, List.getElem?_cons_zero, List.getElem?_cons_succ] at q0 q1 q2 q3 q4 q5 q6 q7 q8 q9 q10 q11 q12 q13
  have ez := lt_of_block RE6.out
  have e0 := cell_of_row w6 _ 0 _ _ _ RE6.out
  simp only [List.getElem?_toArray, List.getElem?_cons_zero] at e0
  have az := lt_of_block RA6.out
  have a0 := cell_of_row w6 _ 0 _ _ _ RA6.out
  simp only [List.getElem?_toArray, List.getElem?_cons_zero] at a0
  simp [Leaves, settle, results, Tryz.results13, go_sem, q0, q1, q2, q3, q4, q5, q6, q7, q8, q9, q10, q11, q12, q13, e0, a0]
  exact ⟨none, 0, rfl, leafP _ _ _ _ _ _ (by decide) (by decide), B6.out⟩

theorem dig_val {c : UInt8} (h : digitC c = true) : Lib.digitVal c = some (c.toNat - 48) ∧ 48 ≤ c.toNat ∧ c.toNat ≤ 57 := by
  unfold digitC at h
  rw [decide_eq_true_eq] at h
  exact ⟨by unfold Lib.digitVal; rw [if_pos h], h⟩
/-- Digits spell a number. -/
theorem dig_num : ∀ (l : List UInt8) (acc m : Nat), l.all digitC = true → acc < 10 ^ m → m + l.length ≤ 18 → ∃ n, Lib.decFrom acc l = some n ∧ Lib.parseUint10 acc l = .ok n ∧ n < 10 ^ (m + l.length)
  | [], acc, m, _, ha, _ => ⟨acc, rfl, rfl, by simpa using ha⟩
  | c :: r, acc, m, hl, ha, hm => by
    rw [List.all_cons, Bool.and_eq_true] at hl
    obtain ⟨hv, h1, h2⟩ := dig_val hl.1
    rw [List.length_cons] at hm
    have hp : acc * 10 + (c.toNat - 48) < 10 ^ (m + 1) := by rw [Nat.pow_succ]; omega
    have hb : 10 ^ (m + 1) ≤ 10 ^ 18 := Nat.pow_le_pow_right (by omega) (by omega)
    have hb2 : (10 : Nat) ^ 18 = 1000000000000000000 := by decide
    obtain ⟨n, e1, e2, e3⟩ := dig_num r _ (m + 1) hl.2 hp (by omega)
    refine ⟨n, ?_, ?_, by rw [List.length_cons, show m + (r.length + 1) = m + 1 + r.length by omega]; exact e3⟩
    · rw [Lib.decFrom, hv]; exact e1
    · rw [Lib.parseUint10, if_pos ⟨h1, h2⟩, if_neg (by omega), if_neg (by omega)]; exact e2
theorem dig_atoi {l : List UInt8} (hl : l.all digitC = true) (h0 : 0 < l.length) (h18 : l.length ≤ 18) : ∃ n, Lib.atoi l = some n ∧ numS (bytesOf l) = some n := by
  match l, h0 with
  | c :: r, _ =>
    have hc := hl
    rw [List.all_cons, Bool.and_eq_true] at hc
    obtain ⟨_, h1, h2⟩ := dig_val hc.1
    obtain ⟨n, e1, e2, e3⟩ := dig_num (c :: r) 0 0 hl (by decide) (by omega)
    have hb : 10 ^ (0 + (c :: r).length) ≤ 10 ^ 18 := Nat.pow_le_pow_right (by omega) (by omega)
    have hb2 : (10 : Nat) ^ 18 = 1000000000000000000 := by decide
    refine ⟨(n : Int), ?_, ?_⟩
    · have n45 : (c == 45) = false := by rw [beq_eq_false_iff_ne]; intro e; rw [e] at h1; exact absurd h1 (by decide)
      have n43 : (c == 43) = false := by rw [beq_eq_false_iff_ne]; intro e; rw [e] at h1; exact absurd h1 (by decide)
      rw [Lib.atoi, n45, n43]
      simp [Lib.decNat, e1]
    · have hm : Lib.parseMag (c :: r) = .ok n := by unfold Lib.parseMag; rw [if_neg (by simp)]; exact e2
      have ha : Lib.atoiAll (c :: r) = .ok (n : Int) := by
        have n1 : ¬ (c.toNat = 43 ∨ c.toNat = 45) := by omega
        have n2 : ¬ c.toNat = 45 := by omega
        simp only [Lib.atoiAll, if_neg n1, hm, if_neg n2]
        rw [if_neg (by omega), if_neg (by omega)]
      unfold numS
      rw [show (bytesOf (c :: r)).data.toList = c :: r from rfl, ha]
theorem span_le (p : UInt8 → Bool) : ∀ l : List UInt8, spanN p l ≤ l.length
  | [] => Nat.le_refl _
  | c :: r => by rw [spanN, List.length_cons]; have := span_le p r; split <;> omega
theorem span_all (p : UInt8 → Bool) : ∀ l : List UInt8, (l.take (spanN p l)).all p = true
  | [] => rfl
  | c :: r => by
    rw [spanN]
    split
    · rename_i h; rw [List.take_succ_cons, List.all_cons, h, span_all p r]; rfl
    · simp
theorem unq_less : ∀ (m : Nat) (l t : List UInt8) (n : Nat), l.length ≤ m → unqL l = some (t, n) → t.length < n
  | 0, [], t, n, _, h => by rw [unqL] at h; cases h
  | m + 1, [], t, n, _, h => by rw [unqL] at h; cases h
  | m + 1, c :: r, t, n, hm, h => by
    by_cases h34 : c.toNat = 34
    · rw [unq_end r h34] at h
      injection h with h; injection h with h1 h2; subst h1 h2; simp
    by_cases h10 : c.toNat = 10
    · rw [unq_line r h10] at h; cases h
    by_cases h92 : c.toNat = 92
    · match r with
      | [] => rw [unq_bs h92] at h; cases h
      | d :: q =>
        rw [unq_esc q h92] at h
        have key : ∀ z : UInt8, (unqL q).map (fun x => (z :: x.1, x.2 + 2)) = some (t, n) → t.length < n := fun z hz => by
          cases hq : unqL q with
          | none => rw [hq] at hz; cases hz
          | some x =>
            rw [hq] at hz
            have := unq_less m q x.1 x.2 (by simp only [List.length_cons] at hm; omega) hq
            simp only [Option.map_some] at hz
            injection hz with hz; injection hz with h1 h2; subst h1 h2
            simp only [List.length_cons]; omega
        split at h
        · exact key _ h
        split at h
        · exact key _ h
        split at h
        · exact key _ h
        · cases h
    · rw [unq_one r h34 h10 h92] at h
      cases hq : unqL r with
      | none => rw [hq] at h; cases h
      | some x =>
        rw [hq] at h
        have := unq_less m r x.1 x.2 (by simp only [List.length_cons] at hm; omega) hq
        simp only [Option.map_some] at h
        injection h with h; injection h with h1 h2; subst h1 h2
        simp only [List.length_cons]; omega
/-- What a token of a text is. -/
def TokG (n : Nat) (k : Int) (t : ByteArray) : Prop := t.size ≤ n ∧ (k = 2 → ∃ d : List UInt8, t = bytesOf d ∧ d.all digitC = true ∧ 0 < d.length ∧ d.length ≤ 7)
theorem scan_good (c : UInt8) (r : List UInt8) (n : Nat) (k : Int) (t : ByteArray) (h : scan1 (c :: r) = (n, some (k, t, 0))) : TokG (c :: r).length k t := by
  rw [scan1] at h
  split at h
  · injection h with _ h; cases h
  split at h
  · injection h with _ h; cases h
  split at h
  · simp only [Prod.mk.injEq, Option.some.injEq] at h
    obtain ⟨h1, h2, h3, h4⟩ := h
    subst h2 h3
    exact ⟨by show (List.take _ (c :: r)).length ≤ _; rw [List.length_take]; omega, fun e => absurd e (by decide)⟩
  split at h
  · rename_i hd
    simp only [Prod.mk.injEq, Option.some.injEq] at h
    obtain ⟨h1, h2, h3, h4⟩ := h
    subst h2 h3
    have h7 : ¬ (7 < spanN digitC (c :: r)) := fun e => by rw [if_pos (Or.inl e)] at h4; cases h4
    have hs := span_le digitC (c :: r)
    have h1' : 0 < spanN digitC (c :: r) := by rw [spanN, if_pos hd]; omega
    have hlen : ((c :: r).take (spanN digitC (c :: r))).length = spanN digitC (c :: r) := by rw [List.length_take]; omega
    exact ⟨by show (List.take _ (c :: r)).length ≤ _; omega, fun _ => ⟨_, rfl, span_all _ _, by omega, by omega⟩⟩
  split at h
  · cases hu : unqL r with
    | none => rw [hu] at h; simp at h
    | some x =>
      rw [hu] at h
      simp only [Prod.mk.injEq, Option.some.injEq] at h
      obtain ⟨h1, h2, h3, -⟩ := h
      subst h2 h3
      have a1 := unq_less _ r x.1 x.2 (Nat.le_refl _) hu
      have a2 := unq_len _ r x.1 x.2 (Nat.le_refl _) hu
      exact ⟨by show x.1.length ≤ _; rw [List.length_cons]; omega, fun e => absurd e (by decide)⟩
  split at h
  · simp only [Prod.mk.injEq, Option.some.injEq] at h
    obtain ⟨h1, h2, h3, -⟩ := h
    subst h2 h3
    exact ⟨by show 1 ≤ _; rw [List.length_cons]; omega, fun e => absurd e (by decide)⟩
  · simp at h
/-- Every token of a text is good, and lies in it. -/
theorem toks_good : ∀ (f i : Nat) (l : List UInt8), ∀ x ∈ toks f i l, i ≤ x.tok.off ∧ x.tok.off < i + l.length ∧ (x.err = 0 → TokG l.length x.tok.kind x.tok.text)
  | 0, _, _, x, hx => by rw [toks] at hx; cases hx
  | f + 1, i, [], x, hx => by rw [toks] at hx; cases hx; omega
  | f + 1, i, c :: r, x, hx => by
    rw [toks] at hx
    have recu : ∀ n, x ∈ toks f (i + n) ((c :: r).drop n) → i ≤ x.tok.off ∧ x.tok.off < i + (c :: r).length ∧ (x.err = 0 → TokG (c :: r).length x.tok.kind x.tok.text) := fun n hn => by
      obtain ⟨h1, h2, h3⟩ := toks_good f (i + n) _ x hn
      rw [List.length_drop] at h2 h3
      exact ⟨by omega, by omega, fun e => ⟨Nat.le_trans (h3 e).1 (by omega), (h3 e).2⟩⟩
    split at hx
    · exact recu _ hx
    · rename_i n k t e hs
      rcases List.mem_cons.1 hx with rfl | hx
      · refine ⟨Nat.le_refl _, by simp only [List.length_cons]; omega, fun e0 => ?_⟩
        have e0 : e = 0 := e0
        subst e0
        exact scan_good c r n k t hs
      · split at hx
        · exact recu _ hx
        · cases hx
theorem lexF_good : ∀ (fs : List FndD) (acc T : List TokD), lexF acc fs = (T, 0, 0) → acc.length ≤ 5000 → T.length ≤ 5000 ∧ ∀ t ∈ T, t ∈ acc ∨ ∃ x ∈ fs, x.err = 0 ∧ x.tok = t
  | [], acc, T, h, ha => by
    rw [lexF] at h
    injection h with h _
    subst h
    exact ⟨ha, fun t ht => Or.inl ht⟩
  | f :: r, acc, T, h, ha => by
    rw [lexF] at h
    split at h
    · rename_i he
      injection h with _ h; injection h with h _; exact absurd h he
    · rename_i he
      split at h
      · injection h with _ h; injection h with h _; cases h
      · rename_i hl
        obtain ⟨h1, h2⟩ := lexF_good r _ T h (by rw [List.length_append, List.length_singleton]; omega)
        refine ⟨h1, fun t ht => ?_⟩
        rcases h2 t ht with h3 | ⟨x, hx, h3⟩
        · rcases List.mem_append.1 h3 with h4 | h4
          · exact Or.inl h4
          · rw [List.mem_singleton.1 h4]; exact Or.inr ⟨f, List.mem_cons_self .., by simpa using he, rfl⟩
        · exact Or.inr ⟨x, List.mem_cons_of_mem _ hx, h3⟩
/-- What the lexer accepts are good tokens. -/
theorem lex_good {s : ByteArray} {T : List TokD} (h : lexP s = (T, 0, 0)) : T.length ≤ 5000 ∧ (∀ t ∈ T, TokOK t) ∧ ∀ t ∈ T, t.off < s.size := by
  unfold lexP at h
  split at h
  · injection h with _ h; injection h with h _; cases h
  · rename_i hs
    obtain ⟨h1, h2⟩ := lexF_good _ _ T h (by simp)
    have key : ∀ t ∈ T, t.off < s.size ∧ TokG s.size t.kind t.text := fun t ht => by
      rcases h2 t ht with h3 | ⟨x, hx, he, rfl⟩
      · cases h3
      · have hl : s.data.toList.length = s.size := by rw [Array.length_toList]; rfl
        obtain ⟨_, a2, a3⟩ := toks_good _ _ _ x hx
        rw [hl] at a2 a3
        exact ⟨by omega, a3 he⟩
    refine ⟨h1, fun t ht => ?_, fun t ht => (key t ht).1⟩
    obtain ⟨_, k1, k2⟩ := key t ht
    refine ⟨by omega, fun hk => ?_⟩
    obtain ⟨d, hd, d1, d2, d3⟩ := k2 hk
    rw [hd]
    exact ⟨by show d.length ≤ 18; omega, dig_atoi (l := d) d1 d2 (by omega)⟩
theorem lexF_off : ∀ (fs : List FndD) (acc : List TokD), (lexF acc fs).2.1 = 0 → (lexF acc fs).2.2 = 0
  | [], acc, _ => rfl
  | f :: r, acc, h => by
    rw [lexF] at h ⊢
    split at h
    · rename_i he; exact absurd h he
    · rename_i he
      rw [if_neg he]
      split at h
      · cases h
      · rename_i hl; rw [if_neg hl]; exact lexF_off r _ h
theorem lexF_zero (s : ByteArray) {of : Int} (he : (lexP s).2.1 = 0) (ho : (lexP s).2.2 = of) : of = 0 := by
  unfold lexP at he ho
  split at he
  · cases he
  · rename_i hs
    rw [if_neg hs] at ho
    rw [← ho]; exact lexF_off _ _ he
/-- query.Parse at every text of moderate size. -/
theorem parse_any (s : ByteArray) (hs : s.size ≤ 1000000) (w : World) : Calls Tryz.prog 13 #[.string s] w (ParseR w.heap.size (parseQ s) w) := by
  unfold parseQ
  obtain ⟨T, hT⟩ : ∃ T, (lexP s).1 = T := ⟨_, rfl⟩
  obtain ⟨er, he⟩ : ∃ e, (lexP s).2.1 = e := ⟨_, rfl⟩
  obtain ⟨of, ho⟩ : ∃ e, (lexP s).2.2 = e := ⟨_, rfl⟩
  rw [hT, he, ho]
  by_cases h0 : er = 0
  · subst h0
    rw [if_neg (by decide)]
    have ho0 : of = 0 := lexF_zero s he ho
    subst ho0
    have hL : lexP s = (T, 0, 0) := Prod.ext hT (Prod.ext he ho)
    obtain ⟨l1, l2, -⟩ := lex_good hL
    cases hq : queryP s.size T with
    | bad er off => exact parse_bad s hs T er off hL l1 l2 hq w
    | ok q r =>
      simp only
      by_cases hz : 60 < sizeC q.wher
      · rw [if_pos hz]; exact parse_big s hs T q r hL l1 l2 hq hz w
      · rw [if_neg hz]; exact parse_ok s hs T q r hL l1 l2 hq (by omega) w
  · rw [if_pos h0]
    exact parse_lexbad s hs er of (Prod.ext he ho) h0 w
end Go.Proofs.YtdfenhjibnfdeaaGreatDoor
