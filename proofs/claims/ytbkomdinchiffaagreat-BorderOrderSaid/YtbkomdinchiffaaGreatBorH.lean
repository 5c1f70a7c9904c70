/- The reference's way of two segments. -/
import Derived.Test.YtbkomdinchiffaaGreatBorG
import Derived.Test.YtbkomdinchiffaaGreatMixTF
import Derived.Deep.CutBlock
import Derived.Deep.CutRange
namespace Go.Proofs.YtbkomdinchiffaaGreat
open Go.RowKit

theorem near_pt {s : Sg} (h : nearS s = true) : nearQ s.1 = true ∧ nearQ s.2 = true := by
  unfold nearS at h
  rw [Bool.and_eq_true] at h
  exact h
def endsR (s t : Sg) : List Pt := [s.1, s.2, t.1, t.2]
def comR (s t : Sg) (i : Nat) : List Pt := ((endsR s t).take i).foldl (addC s t) []
theorem comR_succ (s t : Sg) (i : Nat) (e : Pt) (h : (endsR s t)[i]? = some e) : comR s t (i + 1) = addC s t (comR s t i) e := by
  obtain ⟨hk, rfl⟩ := List.getElem?_eq_some_iff.1 h
  unfold comR
  rw [List.take_succ_eq_append_getElem hk, List.foldl_append]; rfl
theorem comR_len (s t : Sg) : ∀ i : Nat, (comR s t i).length ≤ i
  | 0 => by simp [comR]
  | i + 1 => by
    have ih := comR_len s t i
    cases h : (endsR s t)[i]? with
    | none =>
      have hl : (endsR s t).length ≤ i := List.getElem?_eq_none_iff.1 h
      have : comR s t (i + 1) = comR s t i := by
        unfold comR
        rw [List.take_of_length_le hl, List.take_of_length_le (by omega)]
      rw [this]; omega
    | some e =>
      rw [comR_succ s t i e h]
      unfold addC
      split
      · omega
      · split
        · rw [List.length_append]; simp; omega
        · omega
theorem ends_near {s t : Sg} (hs : nearS s = true) (ht : nearS t = true) {i : Nat} {e : Pt} (h : (endsR s t)[i]? = some e) : nearQ e = true := by
  have := List.mem_of_getElem? h
  unfold endsR at this
  simp only [List.mem_cons, List.not_mem_nil, or_false] at this
  rcases this with rfl | rfl | rfl | rfl
  · exact (near_pt hs).1
  · exact (near_pt hs).2
  · exact (near_pt ht).1
  · exact (near_pt ht).2
theorem take_mem {l : List Pt} {j : Nat} {x : Pt} (e : Pt) (h : l[j]? = some x) : decide (e ∈ l.take (j + 1)) = (decide (e ∈ l.take j) || decide (x = e)) := by
  obtain ⟨hk, rfl⟩ := List.getElem?_eq_some_iff.1 h
  rw [List.take_succ_eq_append_getElem hk, Bool.eq_iff_iff]
  simp only [List.mem_append, List.mem_singleton, Bool.or_eq_true, decide_eq_true_eq]
  exact or_congr Iff.rfl eq_comm
theorem infoPt2 : (Tryz.prog.info? 37).map (fun i => (i.zero, i.size, i.bytes)) = some (some (.agg #[.int .i64 0, .int .i64 0]), 2, 16) := by kernel_rfl

set_option maxRecDepth 100000 in
set_option maxHeartbeats 4000000 in
theorem rmeets_off (s t : Sg) (w : World) (h : (nearS s && nearS t) = false) :
    Calls Tryz.prog 49 #[sgV s, sgV t] w fun e w' => e = .returned (.int .i64 0) ∧ Below w.heap.size w w' := by
  have IS := Lib.hid (fun w => rseg_any s w)
  have IT := Lib.hid (fun w => rseg_any t w)
  obtain ⟨ns, hs⟩ : ∃ z, nearS s = z := ⟨_, rfl⟩
  obtain ⟨nt, ht⟩ : ∃ z, nearS t = z := ⟨_, rfl⟩
  rw [hs] at IS h
  rw [ht] at IT h
  clear hs ht
  obtain ⟨⟨ax, ay⟩, ⟨bx, by1⟩⟩ := s
  obtain ⟨⟨cx, cy⟩, ⟨dx, dy⟩⟩ := t
  cases ns with
  | false =>
    clear h IT
    go_enter Tryz.func49, Tryz.ntmps49
    go_wp2_with fail
    have B1 : Below w.heap.size w ((w.alloc (.cells #[.int .i64 ax, .int .i64 ay, .int .i64 bx, .int .i64 by1] 39)).alloc (.cells #[.int .i64 cx, .int .i64 cy, .int .i64 dx, .int .i64 dy] 39)) := (by repeat' (first | exact Below.refl _ _ | refine Below.drew ?_ | refine Below.drewN' ?_ | refine Below.setCell ?_ (by first | omega | (simp; done) | exact Below.size (by assumption) | (simp; omega)) _ | refine Below.alloc ?_ (by first | omega | (simp; done) | exact Below.size (by assumption) | (simp; omega)) _ | refine Below.trans ?_ (Below.mono (by assumption) ?_) | (first | omega | (simp; done) | exact Below.size (by assumption) | (simp; omega))))
    have H1 := row_past (o' := .cells #[.int .i64 cx, .int .i64 cy, .int .i64 dx, .int .i64 dy] 39) (row_new w (.cells #[.int .i64 ax, .int .i64 ay, .int .i64 bx, .int .i64 by1] 39))
    have H2 := row_new1 w (.cells #[.int .i64 ax, .int .i64 ay, .int .i64 bx, .int .i64 by1] 39) (.cells #[.int .i64 cx, .int .i64 cy, .int .i64 dx, .int .i64 dy] 39)
    generalize hw1 : (w.alloc (.cells #[.int .i64 ax, .int .i64 ay, .int .i64 bx, .int .i64 by1] 39)).alloc (.cells #[.int .i64 cx, .int .i64 cy, .int .i64 dx, .int .i64 dy] 39) = w1
    rw [hw1] at B1 H1 H2
    have H1 := Lib.hid H1
    have H2 := Lib.hid H2
    clear hw1
    refine (IS.out _).mono ?_
    rintro e w2 ⟨rfl, hb⟩
    have B2 := below_step B1 (Nat.le_refl _) hb
    replace H1 := Lib.hid (row_later hb H1.out)
    replace H2 := Lib.hid (row_later hb H2.out)
    clear hb B1
    have bz := lt_of_block H2.out
    have b0 := cell_of_row w2 _ 0 _ _ _ H2.out
    have b1 := cell_of_row w2 _ 1 _ _ _ H2.out
    have b2 := cell_of_row w2 _ 2 _ _ _ H2.out
    have b3 := cell_of_row w2 _ 3 _ _ _ H2.out
    simp only [List.getElem?_toArray, List.getElem?_cons_zero, List.getElem?_cons_succ] at b0 b1 b2 b3
    go_wp2
    go_ret
    exact ⟨rfl, B2⟩
  | true =>
    cases nt with
    | true => cases h
    | false =>
      clear h
      go_enter Tryz.func49, Tryz.ntmps49
      go_wp2_with fail
      have B1 : Below w.heap.size w ((w.alloc (.cells #[.int .i64 ax, .int .i64 ay, .int .i64 bx, .int .i64 by1] 39)).alloc (.cells #[.int .i64 cx, .int .i64 cy, .int .i64 dx, .int .i64 dy] 39)) := (by repeat' (first | exact Below.refl _ _ | refine Below.drew ?_ | refine Below.drewN' ?_ | refine Below.setCell ?_ (by first | omega | (simp; done) | exact Below.size (by assumption) | (simp; omega)) _ | refine Below.alloc ?_ (by first | omega | (simp; done) | exact Below.size (by assumption) | (simp; omega)) _ | refine Below.trans ?_ (Below.mono (by assumption) ?_) | (first | omega | (simp; done) | exact Below.size (by assumption) | (simp; omega))))
      have H1 := row_past (o' := .cells #[.int .i64 cx, .int .i64 cy, .int .i64 dx, .int .i64 dy] 39) (row_new w (.cells #[.int .i64 ax, .int .i64 ay, .int .i64 bx, .int .i64 by1] 39))
      have H2 := row_new1 w (.cells #[.int .i64 ax, .int .i64 ay, .int .i64 bx, .int .i64 by1] 39) (.cells #[.int .i64 cx, .int .i64 cy, .int .i64 dx, .int .i64 dy] 39)
      generalize hw1 : (w.alloc (.cells #[.int .i64 ax, .int .i64 ay, .int .i64 bx, .int .i64 by1] 39)).alloc (.cells #[.int .i64 cx, .int .i64 cy, .int .i64 dx, .int .i64 dy] 39) = w1
      rw [hw1] at B1 H1 H2
      have H1 := Lib.hid H1
      have H2 := Lib.hid H2
      clear hw1
      refine (IS.out _).mono ?_
      rintro e w2 ⟨rfl, hb⟩
      have B2 := below_step B1 (Nat.le_refl _) hb
      replace H1 := Lib.hid (row_later hb H1.out)
      replace H2 := Lib.hid (row_later hb H2.out)
      clear hb B1
      have bz := lt_of_block H2.out
      have b0 := cell_of_row w2 _ 0 _ _ _ H2.out
      have b1 := cell_of_row w2 _ 1 _ _ _ H2.out
      have b2 := cell_of_row w2 _ 2 _ _ _ H2.out
      have b3 := cell_of_row w2 _ 3 _ _ _ H2.out
      simp only [List.getElem?_toArray, List.getElem?_cons_zero, List.getElem?_cons_succ] at b0 b1 b2 b3
      go_wp2_with fail
      refine (IT.out _).mono ?_
      rintro e w3 ⟨rfl, hb⟩
      have B3 := below_step B2 (Nat.le_refl _) hb
      clear b0 b1 b2 b3 bz
      replace H1 := Lib.hid (row_later hb H1.out)
      replace H2 := Lib.hid (row_later hb H2.out)
      clear hb B2
      go_wp2
      go_ret
      exact ⟨rfl, B3⟩
set_option maxRecDepth 100000 in
set_option maxHeartbeats 4000000 in
theorem rmeets_same (s t : Sg) (w : World) (h : nearS s = true) (h' : nearS t = true) (hm : s = t ∨ (s.1 = t.2 ∧ s.2 = t.1)) :
    Calls Tryz.prog 49 #[sgV s, sgV t] w fun e w' => e = .returned (.int .i64 4) ∧ Below w.heap.size w w' := by
  have IS := Lib.hid (fun w => rseg_any s w)
  have IT := Lib.hid (fun w => rseg_any t w)
  rw [h] at IS
  rw [h'] at IT
  have eq1 := eql_seg s t
  have eq2 := eql_point s.1 t.2
  have eq3 := eql_point s.2 t.1
  have eqg := eg37
  have eqg2 := eg39
  obtain ⟨d1, h1⟩ : ∃ z, decide (s = t) = z := ⟨_, rfl⟩
  rw [h1] at eq1
  cases d1 with
  | true =>
    clear h1 hm eq2 eq3 h h'
    obtain ⟨⟨ax, ay⟩, ⟨bx, by1⟩⟩ := s
    obtain ⟨⟨cx, cy⟩, ⟨dx, dy⟩⟩ := t
    simp only [] at eq1 IS IT ⊢
    -- the way to region 3, all facts laid
    go_enter Tryz.func49, Tryz.ntmps49
    go_wp2_with fail
    have B1 : Below w.heap.size w ((w.alloc (.cells #[.int .i64 ax, .int .i64 ay, .int .i64 bx, .int .i64 by1] 39)).alloc (.cells #[.int .i64 cx, .int .i64 cy, .int .i64 dx, .int .i64 dy] 39)) := (by repeat' (first | exact Below.refl _ _ | refine Below.drew ?_ | refine Below.drewN' ?_ | refine Below.setCell ?_ (by first | omega | (simp; done) | exact Below.size (by assumption) | (simp; omega)) _ | refine Below.alloc ?_ (by first | omega | (simp; done) | exact Below.size (by assumption) | (simp; omega)) _ | refine Below.trans ?_ (Below.mono (by assumption) ?_) | (first | omega | (simp; done) | exact Below.size (by assumption) | (simp; omega))))
    have H1 := row_past (o' := .cells #[.int .i64 cx, .int .i64 cy, .int .i64 dx, .int .i64 dy] 39) (row_new w (.cells #[.int .i64 ax, .int .i64 ay, .int .i64 bx, .int .i64 by1] 39))
    have H2 := row_new1 w (.cells #[.int .i64 ax, .int .i64 ay, .int .i64 bx, .int .i64 by1] 39) (.cells #[.int .i64 cx, .int .i64 cy, .int .i64 dx, .int .i64 dy] 39)
    generalize hw1 : (w.alloc (.cells #[.int .i64 ax, .int .i64 ay, .int .i64 bx, .int .i64 by1] 39)).alloc (.cells #[.int .i64 cx, .int .i64 cy, .int .i64 dx, .int .i64 dy] 39) = w1
    rw [hw1] at B1 H1 H2
    have H1 := Lib.hid H1
    have H2 := Lib.hid H2
    clear hw1
    refine (IS.out _).mono ?_
    rintro e w2 ⟨rfl, hb⟩
    have B2 := below_step B1 (Nat.le_refl _) hb
    replace H1 := Lib.hid (row_later hb H1.out)
    replace H2 := Lib.hid (row_later hb H2.out)
    clear hb B1
    have bz := lt_of_block H2.out
    have b0 := cell_of_row w2 _ 0 _ _ _ H2.out
    have b1 := cell_of_row w2 _ 1 _ _ _ H2.out
    have b2 := cell_of_row w2 _ 2 _ _ _ H2.out
    have b3 := cell_of_row w2 _ 3 _ _ _ H2.out
    simp only [List.getElem?_toArray, List.getElem?_cons_zero, List.getElem?_cons_succ] at b0 b1 b2 b3
    go_wp2_with fail
    refine (IT.out _).mono ?_
    rintro e w3 ⟨rfl, hb⟩
    have B3 := below_step B2 (Nat.le_refl _) hb
    clear b0 b1 b2 b3 bz
    replace H1 := Lib.hid (row_later hb H1.out)
    replace H2 := Lib.hid (row_later hb H2.out)
    clear hb B2
    have az := lt_of_block H1.out
    have a0 := cell_of_row w3 _ 0 _ _ _ H1.out
    have a1 := cell_of_row w3 _ 1 _ _ _ H1.out
    have a2 := cell_of_row w3 _ 2 _ _ _ H1.out
    have a3 := cell_of_row w3 _ 3 _ _ _ H1.out
    simp only [List.getElem?_toArray, List.getElem?_cons_zero, List.getElem?_cons_succ] at a0 a1 a2 a3
    have bz := lt_of_block H2.out
    have b0 := cell_of_row w3 _ 0 _ _ _ H2.out
    have b1 := cell_of_row w3 _ 1 _ _ _ H2.out
    have b2 := cell_of_row w3 _ 2 _ _ _ H2.out
    have b3 := cell_of_row w3 _ 3 _ _ _ H2.out
    simp only [List.getElem?_toArray, List.getElem?_cons_zero, List.getElem?_cons_succ] at b0 b1 b2 b3
    go_wp2_with fail
    go_wp2
    go_ret
    exact ⟨rfl, B3⟩
  | false =>
    have hm := hm.resolve_left (of_decide_eq_false h1)
    rw [decide_eq_true hm.1] at eq2
    rw [decide_eq_true hm.2] at eq3
    clear h1 hm h h'
    obtain ⟨⟨ax, ay⟩, ⟨bx, by1⟩⟩ := s
    obtain ⟨⟨cx, cy⟩, ⟨dx, dy⟩⟩ := t
    simp only [] at eq1 eq2 eq3 IS IT ⊢
    -- the way to region 3, all facts laid
    go_enter Tryz.func49, Tryz.ntmps49
    go_wp2_with fail
    have B1 : Below w.heap.size w ((w.alloc (.cells #[.int .i64 ax, .int .i64 ay, .int .i64 bx, .int .i64 by1] 39)).alloc (.cells #[.int .i64 cx, .int .i64 cy, .int .i64 dx, .int .i64 dy] 39)) := (by repeat' (first | exact Below.refl _ _ | refine Below.drew ?_ | refine Below.drewN' ?_ | refine Below.setCell ?_ (by first | omega | (simp; done) | exact Below.size (by assumption) | (simp; omega)) _ | refine Below.alloc ?_ (by first | omega | (simp; done) | exact Below.size (by assumption) | (simp; omega)) _ | refine Below.trans ?_ (Below.mono (by assumption) ?_) | (first | omega | (simp; done) | exact Below.size (by assumption) | (simp; omega))))
    have H1 := row_past (o' := .cells #[.int .i64 cx, .int .i64 cy, .int .i64 dx, .int .i64 dy] 39) (row_new w (.cells #[.int .i64 ax, .int .i64 ay, .int .i64 bx, .int .i64 by1] 39))
    have H2 := row_new1 w (.cells #[.int .i64 ax, .int .i64 ay, .int .i64 bx, .int .i64 by1] 39) (.cells #[.int .i64 cx, .int .i64 cy, .int .i64 dx, .int .i64 dy] 39)
    generalize hw1 : (w.alloc (.cells #[.int .i64 ax, .int .i64 ay, .int .i64 bx, .int .i64 by1] 39)).alloc (.cells #[.int .i64 cx, .int .i64 cy, .int .i64 dx, .int .i64 dy] 39) = w1
    rw [hw1] at B1 H1 H2
    have H1 := Lib.hid H1
    have H2 := Lib.hid H2
    clear hw1
    refine (IS.out _).mono ?_
    rintro e w2 ⟨rfl, hb⟩
    have B2 := below_step B1 (Nat.le_refl _) hb
    replace H1 := Lib.hid (row_later hb H1.out)
    replace H2 := Lib.hid (row_later hb H2.out)
    clear hb B1
    have bz := lt_of_block H2.out
    have b0 := cell_of_row w2 _ 0 _ _ _ H2.out
    have b1 := cell_of_row w2 _ 1 _ _ _ H2.out
    have b2 := cell_of_row w2 _ 2 _ _ _ H2.out
    have b3 := cell_of_row w2 _ 3 _ _ _ H2.out
    simp only [List.getElem?_toArray, List.getElem?_cons_zero, List.getElem?_cons_succ] at b0 b1 b2 b3
    go_wp2_with fail
    refine (IT.out _).mono ?_
    rintro e w3 ⟨rfl, hb⟩
    have B3 := below_step B2 (Nat.le_refl _) hb
    clear b0 b1 b2 b3 bz
    replace H1 := Lib.hid (row_later hb H1.out)
    replace H2 := Lib.hid (row_later hb H2.out)
    clear hb B2
    have az := lt_of_block H1.out
    have a0 := cell_of_row w3 _ 0 _ _ _ H1.out
    have a1 := cell_of_row w3 _ 1 _ _ _ H1.out
    have a2 := cell_of_row w3 _ 2 _ _ _ H1.out
    have a3 := cell_of_row w3 _ 3 _ _ _ H1.out
    simp only [List.getElem?_toArray, List.getElem?_cons_zero, List.getElem?_cons_succ] at a0 a1 a2 a3
    have bz := lt_of_block H2.out
    have b0 := cell_of_row w3 _ 0 _ _ _ H2.out
    have b1 := cell_of_row w3 _ 1 _ _ _ H2.out
    have b2 := cell_of_row w3 _ 2 _ _ _ H2.out
    have b3 := cell_of_row w3 _ 3 _ _ _ H2.out
    simp only [List.getElem?_toArray, List.getElem?_cons_zero, List.getElem?_cons_succ] at b0 b1 b2 b3
    go_wp2_with fail
    go_wp2
    go_ret
    exact ⟨rfl, B3⟩

theorem sgn_bd (n : Int) : -1 ≤ sgn n ∧ sgn n ≤ 1 := by unfold sgn; split <;> (try split) <;> omega
theorem sgn_wrap (a b : Int) : IntKind.i64.wrap (sgn a * sgn b) = sgn a * sgn b := by
  have h1 := sgn_bd a
  have h2 := sgn_bd b
  have h : -1 ≤ sgn a * sgn b ∧ sgn a * sgn b ≤ 1 := by
    obtain h | h | h : sgn a = -1 ∨ sgn a = 0 ∨ sgn a = 1 := by omega
    · rw [h]; omega
    · rw [h]; omega
    · rw [h]; omega
  exact IntWalk.i64_in _ (by omega)
set_option maxRecDepth 100000 in
set_option maxHeartbeats 8000000 in
theorem rmeets_main (s t : Sg) (w : World) (h : nearS s = true) (h' : nearS t = true) (hm : ¬ (s = t ∨ (s.1 = t.2 ∧ s.2 = t.1))) :
    Calls Tryz.prog 49 #[sgV s, sgV t] w fun e w' => e = .returned (.int .i64 (meetsR s t)) ∧ Below w.heap.size w w' := by
  have mixed : Tryz.prog.follows .mixedOrders = true := by kernel_rfl
  have IS := Lib.hid (fun w => rseg_any s w)
  have IT := Lib.hid (fun w => rseg_any t w)
  rw [h] at IS
  rw [h'] at IT
  obtain ⟨C, hC⟩ : ∃ C, C = comR s t := ⟨_, rfl⟩
  obtain ⟨E, hE⟩ : ∃ E, E = endsR s t := ⟨_, rfl⟩
  have HCS := Lib.hid (fun i e (he : E[i]? = some e) => (show C (i + 1) = addC s t (C i) e by rw [hC]; exact comR_succ s t i e (by rw [← hE]; exact he)))
  have HCL := Lib.hid (fun i => (show (C i).length ≤ i by rw [hC]; exact comR_len s t i))
  have HC4 := Lib.hid (show C 4 = commonR s t by rw [hC]; rfl)
  have HC0 := Lib.hid (show C 0 = [] by rw [hC]; rfl)
  have OS := Lib.hid (fun i e (he : E[i]? = some e) w => rgon_any s e h (ends_near h h' (by rw [← hE]; exact he)) w)
  have OT := Lib.hid (fun i e (he : E[i]? = some e) w => rgon_any t e h' (ends_near h h' (by rw [← hE]; exact he)) w)
  have ES := Lib.hid (fun e w => rend_any s e w)
  have ET := Lib.hid (fun e w => rend_any t e w)
  have R1 := Lib.hid (fun w => rorient_any s.1 s.2 t.1 (near_pt h).1 (near_pt h).2 (near_pt h').1 w)
  have R2 := Lib.hid (fun w => rorient_any s.1 s.2 t.2 (near_pt h).1 (near_pt h).2 (near_pt h').2 w)
  have R3 := Lib.hid (fun w => rorient_any t.1 t.2 s.1 (near_pt h').1 (near_pt h').2 (near_pt h).1 w)
  have R4 := Lib.hid (fun w => rorient_any t.1 t.2 s.2 (near_pt h').1 (near_pt h').2 (near_pt h).2 w)
  have HM := Lib.hid (show meetsR s t = pickR (C 4) (if sgn (crs s.1 s.2 t.1) * sgn (crs s.1 s.2 t.2) < 0 ∧ sgn (crs t.1 t.2 s.1) * sgn (crs t.1 t.2 s.2) < 0 then 3 else 0) (fun e => if endR s e && endR t e then 1 else 2) by
    rw [HC4.out]; unfold meetsR; rw [h, h', if_neg (by simp), if_neg hm])
  have HEl := Lib.hid (show E.length = 4 by rw [hE]; rfl)
  have HEf := Lib.hid (show E = [s.1, s.2, t.1, t.2] from hE)
  obtain ⟨fs, hfs⟩ : ∃ f, f = onR s := ⟨_, rfl⟩
  obtain ⟨ft, hft⟩ : ∃ f, f = onR t := ⟨_, rfl⟩
  have HAC := Lib.hid (show ∀ l e, addC s t l e = if decide (e ∈ l) then l else if fs e && ft e then l ++ [e] else l by rw [hfs, hft]; exact fun _ _ => rfl)
  rw [← hfs] at OS
  rw [← hft] at OT
  have eqg := eg37
  have eqg2 := eg39
  have eq1 := eql_seg s t
  have eq2 := eql_point s.1 t.2
  have eq3 := eql_point s.2 t.1
  rw [decide_eq_false (fun c => hm (Or.inl c))] at eq1
  obtain ⟨d1, h1⟩ : ∃ z, decide (s.1 = t.2) = z := ⟨_, rfl⟩
  rw [h1] at eq2
  have HD := Lib.hid (show d1 = true → decide (s.2 = t.1) = false from fun c => decide_eq_false (fun c2 => hm (Or.inr ⟨of_decide_eq_true (h1.trans c), c2⟩)))
  obtain ⟨d2, h2⟩ : ∃ z, decide (s.2 = t.1) = z := ⟨_, rfl⟩
  rw [h2] at eq3 HD
  have HEV := Lib.hid (show (E.flatMap encPt) = [.int .i64 s.1.1, .int .i64 s.1.2, .int .i64 s.2.1, .int .i64 s.2.2, .int .i64 t.1.1, .int .i64 t.1.2, .int .i64 t.2.1, .int .i64 t.2.2] by rw [hE]; rfl)
  obtain ⟨r, hr⟩ : ∃ z, z = meetsR s t := ⟨_, rfl⟩
  rw [← hr] at HM ⊢
  clear h1 h2 hm h h' hC hE hfs hft hr
  obtain ⟨⟨ax, ay⟩, ⟨bx, by1⟩⟩ := s
  obtain ⟨⟨cx, cy⟩, ⟨dx, dy⟩⟩ := t
  simp only [] at eq1 eq2 eq3 HEV R1 R2 R3 R4 HM HEf
  obtain ⟨i0, hi, hi0, hi1, hi2⟩ := info_parts infoPt2
  go_enter Tryz.func49, Tryz.ntmps49
  go_wp2_with fail
  have B1 : Below w.heap.size w ((w.alloc (.cells #[.int .i64 ax, .int .i64 ay, .int .i64 bx, .int .i64 by1] 39)).alloc (.cells #[.int .i64 cx, .int .i64 cy, .int .i64 dx, .int .i64 dy] 39)) := (by repeat' (first | exact Below.refl _ _ | refine Below.drew ?_ | refine Below.drewN' ?_ | refine Below.setCell ?_ (by first | omega | (simp; done) | exact Below.size (by assumption) | (simp; omega)) _ | refine Below.alloc ?_ (by first | omega | (simp; done) | exact Below.size (by assumption) | (simp; omega)) _ | refine Below.trans ?_ (Below.mono (by assumption) ?_) | (first | omega | (simp; done) | exact Below.size (by assumption) | (simp; omega))))
  have H1 := row_past (o' := .cells #[.int .i64 cx, .int .i64 cy, .int .i64 dx, .int .i64 dy] 39) (row_new w (.cells #[.int .i64 ax, .int .i64 ay, .int .i64 bx, .int .i64 by1] 39))
  have H2 := row_new1 w (.cells #[.int .i64 ax, .int .i64 ay, .int .i64 bx, .int .i64 by1] 39) (.cells #[.int .i64 cx, .int .i64 cy, .int .i64 dx, .int .i64 dy] 39)
  generalize hw1 : (w.alloc (.cells #[.int .i64 ax, .int .i64 ay, .int .i64 bx, .int .i64 by1] 39)).alloc (.cells #[.int .i64 cx, .int .i64 cy, .int .i64 dx, .int .i64 dy] 39) = w1
  rw [hw1] at B1 H1 H2
  have H1 := Lib.hid H1
  have H2 := Lib.hid H2
  clear hw1
  refine (IS.out _).mono ?_
  rintro e w2 ⟨rfl, hb⟩
  have B2 := below_step B1 (Nat.le_refl _) hb
  replace H1 := Lib.hid (row_later hb H1.out)
  replace H2 := Lib.hid (row_later hb H2.out)
  clear hb B1
  have bz := lt_of_block H2.out
  have b0 := cell_of_row w2 _ 0 _ _ _ H2.out
  have b1 := cell_of_row w2 _ 1 _ _ _ H2.out
  have b2 := cell_of_row w2 _ 2 _ _ _ H2.out
  have b3 := cell_of_row w2 _ 3 _ _ _ H2.out
  simp only [List.getElem?_toArray, List.getElem?_cons_zero, List.getElem?_cons_succ] at b0 b1 b2 b3
  go_wp2_with fail
  refine (IT.out _).mono ?_
  rintro e w3 ⟨rfl, hb⟩
  have B3 := below_step B2 (Nat.le_refl _) hb
  clear b0 b1 b2 b3 bz
  replace H1 := Lib.hid (row_later hb H1.out)
  replace H2 := Lib.hid (row_later hb H2.out)
  clear hb B2
  have az := lt_of_block H1.out
  have a0 := cell_of_row w3 _ 0 _ _ _ H1.out
  have a1 := cell_of_row w3 _ 1 _ _ _ H1.out
  have a2 := cell_of_row w3 _ 2 _ _ _ H1.out
  have a3 := cell_of_row w3 _ 3 _ _ _ H1.out
  simp only [List.getElem?_toArray, List.getElem?_cons_zero, List.getElem?_cons_succ] at a0 a1 a2 a3
  have bz := lt_of_block H2.out
  have b0 := cell_of_row w3 _ 0 _ _ _ H2.out
  have b1 := cell_of_row w3 _ 1 _ _ _ H2.out
  have b2 := cell_of_row w3 _ 2 _ _ _ H2.out
  have b3 := cell_of_row w3 _ 3 _ _ _ H2.out
  simp only [List.getElem?_toArray, List.getElem?_cons_zero, List.getElem?_cons_succ] at b0 b1 b2 b3
  go_upto_region 3 with fail
  have key : d1 = false ∨ (d1 = true ∧ d2 = false) := by
    cases d1 with
    | false => exact Or.inl rfl
    | true => exact Or.inr ⟨rfl, HD.out rfl⟩
  go_cut [34] from 18 to 35 (fun v34 wx => v34 = .bool false ∧ Below w3.heap.size w3 wx)
  case first =>
    rcases key with rfl | ⟨rfl, rfl⟩
    · go_wp2
      go_meet
      case rel => exact ⟨rfl, Below.refl _ _⟩
    · go_wp2
      go_meet
      case rel => exact ⟨rfl, Below.refl _ _⟩
  case rest =>
    obtain ⟨rfl, hb⟩ := hcut
    obtain ⟨w4, rfl⟩ : ∃ z : World, z = wc := ⟨_, rfl⟩
    clear a0 a1 a2 a3 az
    clear b0 b1 b2 b3 bz
    have B4 := below_step B3 (Nat.le_refl _) hb
    replace H1 := Lib.hid (row_later hb H1.out)
    replace H2 := Lib.hid (row_later hb H2.out)
    clear hb B3 key eq1 eq2 eq3
    have az := lt_of_block H1.out
    have a0 := cell_of_row w4 _ 0 _ _ _ H1.out
    have a1 := cell_of_row w4 _ 1 _ _ _ H1.out
    have a2 := cell_of_row w4 _ 2 _ _ _ H1.out
    have a3 := cell_of_row w4 _ 3 _ _ _ H1.out
    simp only [List.getElem?_toArray, List.getElem?_cons_zero, List.getElem?_cons_succ] at a0 a1 a2 a3
    have bz := lt_of_block H2.out
    have b0 := cell_of_row w4 _ 0 _ _ _ H2.out
    have b1 := cell_of_row w4 _ 1 _ _ _ H2.out
    have b2 := cell_of_row w4 _ 2 _ _ _ H2.out
    have b3 := cell_of_row w4 _ 3 _ _ _ H2.out
    simp only [List.getElem?_toArray, List.getElem?_cons_zero, List.getElem?_cons_succ] at b0 b1 b2 b3
    go_wp2_with fail
    clear a0 a1 a2 a3 az
    clear b0 b1 b2 b3 bz
    have BX : Below w4.heap.size w4 (w4.alloc (.cells #[.int .i64 ax, .int .i64 ay, .int .i64 bx, .int .i64 by1, .int .i64 cx, .int .i64 cy, .int .i64 dx, .int .i64 dy] 37)) := (by repeat' (first | exact Below.refl _ _ | refine Below.drew ?_ | refine Below.drewN' ?_ | refine Below.setCell ?_ (by first | omega | (simp; done) | exact Below.size (by assumption) | (simp; omega)) _ | refine Below.alloc ?_ (by first | omega | (simp; done) | exact Below.size (by assumption) | (simp; omega)) _ | refine Below.trans ?_ (Below.mono (by assumption) ?_) | (first | omega | (simp; done) | exact Below.size (by assumption) | (simp; omega))))
    have HX := row_new w4 (.cells #[.int .i64 ax, .int .i64 ay, .int .i64 bx, .int .i64 by1, .int .i64 cx, .int .i64 cy, .int .i64 dx, .int .i64 dy] 37)
    generalize hw5 : w4.alloc (.cells #[.int .i64 ax, .int .i64 ay, .int .i64 bx, .int .i64 by1, .int .i64 cx, .int .i64 cy, .int .i64 dx, .int .i64 dy] 37) = w5
    rw [hw5] at BX HX
    have B5 := below_step B4 (Nat.le_refl _) BX
    have hz5 : w.heap.size + 2 ≤ w5.heap.size := by
      have h2 := lt_of_block H2.out
      have := BX.size
      omega
    replace H1 := Lib.hid (row_later BX H1.out)
    replace H2 := Lib.hid (row_later BX H2.out)
    obtain ⟨aE, haE⟩ : ∃ a, a = (⟨w4.heap.size, 0, none⟩ : Addr) := ⟨_, rfl⟩
    have HR := RowE.of_block (l := E) (cap := 4) encPt_len (by rw [HEV.out]) HX 4 HEl.out.symm
    rw [← haE] at HR ⊢
    obtain ⟨a', cap', hsl, hc⟩ := HR
    injection hsl with e1 e2 e3
    subst e1 e3
    obtain ⟨bE, oE, hae2, hcE⟩ := hc (by rw [HEl.out]; omega)
    injection hae2 with hae2
    subst hae2
    have HCE := Lib.hid hcE
    clear hw5 BX HX haE hcE B4 e2 hc
    go_loopw [6, 7] (fun v6 i wr => ∃ k : Nat, i = .int .i64 k ∧ k ≤ 4 ∧ wr.ownsRow w5.heap.size 37 2 v6 (C k).length ((C k).flatMap encPt) ∧ Below w5.heap.size w5 wr) (fun _ i _ => 4 - (intOf i).toNat)
    case atStart => exact ⟨0, rfl, by omega, by rw [HC0.out]; exact World.ownsRow_nil _ _ _ _, Below.refl _ _⟩
    case round =>
      obtain ⟨k, rfl, hk, hown, hbr⟩ := hrel
      have HOWN := Lib.hid hown
      have hzr := hbr.size
      have BR := below_step B5 (by omega) hbr
      have HL := Lib.hid (HCL.out k)
      obtain ⟨G, hG⟩ : ∃ G, G = C k := ⟨_, rfl⟩
      rw [← hG] at HOWN HL
      have HG := Lib.hid hG
      clear hown hG
      by_cases hlt : k < 4
      · obtain ⟨e, he⟩ : ∃ e, E[k]? = some e := ⟨E[k]'(by rw [HEl.out]; exact hlt), List.getElem?_eq_getElem _⟩
        have HA := Lib.hid ((HCS.out k e he).trans (HAC.out _ _))
        have OSe := Lib.hid (OS.out k e he)
        have OTe := Lib.hid (OT.out k e he)
        have d0' := cell_later hbr (HCE.out k e he 0 _ rfl)
        have d0 : wr.cell? ⟨bE, oE + k * 2, none⟩ = some (.int .i64 e.1) := d0'
        have d1 := cell_later hbr (HCE.out k e he 1 _ rfl)
        obtain ⟨ao, cap, hV, hcV⟩ := RowE.of_own encPt_len rfl HOWN.out
        subst hV
        clear he d0'
        go_wp2_with fail
        obtain ⟨w6, rfl⟩ : ∃ z : World, z = wr := ⟨_, rfl⟩
        go_loopw [8, 9] (fun v8 i wx => ∃ j : Nat, i = .int .i64 j ∧ j ≤ G.length ∧ v8 = .bool (decide (e ∈ G.take j)) ∧ Below w6.heap.size w6 wx) (fun _ i _ => G.length - (intOf i).toNat)
        case atStart => exact ⟨0, rfl, by omega, by simp, Below.refl _ _⟩
        case round =>
          obtain ⟨j, rfl, hj, rfl, hbx⟩ := hrel
          have hL := HL.out
          by_cases hlj : j < G.length
          · obtain ⟨g, hg⟩ : ∃ g, G[j]? = some g := ⟨G[j]'hlj, List.getElem?_eq_getElem _⟩
            have HT := Lib.hid (take_mem e hg)
            obtain ⟨bV, oV, rfl, hcell⟩ := hcV (by omega)
            have v0' := cell_later hbx (hcell j g hg 0 _ rfl)
            have v0 : wr.cell? ⟨bV, oV + j * 2, none⟩ = some (.int .i64 g.1) := v0'
            have v1 := cell_later hbx (hcell j g hg 1 _ rfl)
            have eqp := eql_point g e
            obtain ⟨t, ht⟩ : ∃ t, t = decide (e ∈ G.take j) := ⟨_, rfl⟩
            obtain ⟨d, hd⟩ : ∃ d, d = decide (g = e) := ⟨_, rfl⟩
            rw [← ht, ← hd] at HT
            rw [← ht]
            rw [← hd] at eqp
            clear v0' hcell hcV hg ht hd
            cases t with
            | true =>
              have HE := Lib.hid (show Value.bool true = .bool (decide (e ∈ G.take (j + 1))) by rw [HT.out]; rfl)
              clear v0 v1 d0 d1
              go_wp2_with fail
              go_quiet (fail)
              go_wp2
              go_roundw
              case rel => exact ⟨j + 1, by go_num, by omega, HE.out, hbx.drewN'⟩
              case measure => simp [intOf]; omega
            | false =>
              have HE := Lib.hid (show Value.bool d = .bool (decide (e ∈ G.take (j + 1))) by rw [HT.out]; rfl)
              have d0 := cell_later hbx d0
              have d1 := cell_later hbx d1
              go_wp2_with fail
              go_quiet (fail)
              go_wp2
              go_roundw
              case rel => exact ⟨j + 1, by go_num, by omega, HE.out, hbx.drewN'⟩
              case measure => simp [intOf]; omega
          · obtain rfl : j = G.length := by omega
            rw [List.take_length]
            have HAG := Lib.hid (show C (k + 1) = if decide (e ∈ G) then G else if fs e && ft e then G ++ [e] else G by rw [HA.out, HG.out])
            obtain ⟨tw, htw⟩ : ∃ z, z = decide (e ∈ G) := ⟨_, rfl⟩
            rw [← htw] at HAG ⊢
            have HX1 := Lib.hid (row_later (hbr.trans (hbx.mono hzr)) H1.out)
            have HX2 := Lib.hid (row_later (hbr.trans (hbx.mono hzr)) H2.out)
            have BX := below_step hbr (Nat.le_refl _) (hbx.mono (Nat.le_refl _))
            have hzx := hbx.size
            have OX := Lib.hid (own_later HOWN.out hbx)
            have e0 := cell_later hbx d0
            have e1 := cell_later hbx d1
            clear d0 d1 htw hcV
            cases tw with
            | true =>
              have HN := Lib.hid (show C (k + 1) = G by rw [HAG.out]; rfl)
              clear e0 e1
              go_wp2_with fail
              go_quiet (fail)
              go_wp2
              go_roundw
              case rel => exact ⟨k + 1, by go_num, by omega, by rw [HN.out]; exact (own_later OX.out ((Below.refl _ _).drewN')), BX.drewN'⟩
              case measure => simp [intOf]; omega
            | false =>
              obtain ⟨f1, hf1⟩ : ∃ z, z = fs e := ⟨_, rfl⟩
              obtain ⟨f2, hf2⟩ : ∃ z, z = ft e := ⟨_, rfl⟩
              rw [← hf1] at OSe HAG
              rw [← hf2] at OTe HAG
              clear hf1 hf2
              cases f1 with
              | false =>
                have HN := Lib.hid (show C (k + 1) = G by rw [HAG.out]; rfl)
                -- region 15 behind world wr
                have e0' := e0
                have e1' := e1
                have az := lt_of_block HX1.out
                have a0 := cell_of_row wr _ 0 _ _ _ HX1.out
                have a1 := cell_of_row wr _ 1 _ _ _ HX1.out
                have a2 := cell_of_row wr _ 2 _ _ _ HX1.out
                have a3 := cell_of_row wr _ 3 _ _ _ HX1.out
                simp only [List.getElem?_toArray, List.getElem?_cons_zero, List.getElem?_cons_succ] at a0 a1 a2 a3
                have bz := lt_of_block HX2.out
                have b0 := cell_of_row wr _ 0 _ _ _ HX2.out
                have b1 := cell_of_row wr _ 1 _ _ _ HX2.out
                have b2 := cell_of_row wr _ 2 _ _ _ HX2.out
                have b3 := cell_of_row wr _ 3 _ _ _ HX2.out
                simp only [List.getElem?_toArray, List.getElem?_cons_zero, List.getElem?_cons_succ] at b0 b1 b2 b3
                have qa0 := cell_belowBy a0
                have qa1 := cell_belowBy a1
                have qa2 := cell_belowBy a2
                have qa3 := cell_belowBy a3
                have qb0 := cell_belowBy b0
                have qb1 := cell_belowBy b1
                have qb2 := cell_belowBy b2
                have qb3 := cell_belowBy b3
                have qe0 := cell_belowBy e0
                have qe1 := cell_belowBy e1
                clear a0 a1 a2 a3 az
                clear b0 b1 b2 b3 bz
                clear e0 e1
                have e0 := lt_of_cell e0'
                go_wp2_with fail
                refine wp_region_quiet_below mixed (by kernel_rfl) ?_
                iterate 9 (go_big_quiet_step ((go_at_call 77; exact calls_belowBy (OSe.out _))))
                repeat (go_big_quiet_step ((go_at_call 77; exact calls_belowBy (OTe.out _))))
                refine wpQuiet_nil ?_
                intro w8 hw'
                obtain ⟨⟨wq, hbq⟩, hw''⟩ := hw'
                subst hw''
                clear qa0 qa1 qa2 qa3 qb0 qb1 qb2 qb3 qe0 qe1
                go_wp2
                go_roundw
                case rel => exact ⟨k + 1, by go_num, by omega, by rw [HN.out]; exact own_later OX.out hbq, below_step BX (Nat.le_refl _) hbq⟩
                case measure => simp [intOf]; omega
              | true =>
                cases f2 with
                | false =>
                  have HN := Lib.hid (show C (k + 1) = G by rw [HAG.out]; rfl)
                  -- region 15 behind world wr
                  have e0' := e0
                  have e1' := e1
                  have az := lt_of_block HX1.out
                  have a0 := cell_of_row wr _ 0 _ _ _ HX1.out
                  have a1 := cell_of_row wr _ 1 _ _ _ HX1.out
                  have a2 := cell_of_row wr _ 2 _ _ _ HX1.out
                  have a3 := cell_of_row wr _ 3 _ _ _ HX1.out
                  simp only [List.getElem?_toArray, List.getElem?_cons_zero, List.getElem?_cons_succ] at a0 a1 a2 a3
                  have bz := lt_of_block HX2.out
                  have b0 := cell_of_row wr _ 0 _ _ _ HX2.out
                  have b1 := cell_of_row wr _ 1 _ _ _ HX2.out
                  have b2 := cell_of_row wr _ 2 _ _ _ HX2.out
                  have b3 := cell_of_row wr _ 3 _ _ _ HX2.out
                  simp only [List.getElem?_toArray, List.getElem?_cons_zero, List.getElem?_cons_succ] at b0 b1 b2 b3
                  have qa0 := cell_belowBy a0
                  have qa1 := cell_belowBy a1
                  have qa2 := cell_belowBy a2
                  have qa3 := cell_belowBy a3
                  have qb0 := cell_belowBy b0
                  have qb1 := cell_belowBy b1
                  have qb2 := cell_belowBy b2
                  have qb3 := cell_belowBy b3
                  have qe0 := cell_belowBy e0
                  have qe1 := cell_belowBy e1
                  clear a0 a1 a2 a3 az
                  clear b0 b1 b2 b3 bz
                  clear e0 e1
                  have e0 := lt_of_cell e0'
                  go_wp2_with fail
                  refine wp_region_quiet_below mixed (by kernel_rfl) ?_
                  iterate 9 (go_big_quiet_step ((go_at_call 77; exact calls_belowBy (OSe.out _))))
                  repeat (go_big_quiet_step ((go_at_call 77; exact calls_belowBy (OTe.out _))))
                  refine wpQuiet_nil ?_
                  intro w8 hw'
                  obtain ⟨⟨wq, hbq⟩, hw''⟩ := hw'
                  subst hw''
                  clear qa0 qa1 qa2 qa3 qb0 qb1 qb2 qb3 qe0 qe1
                  go_wp2
                  go_roundw
                  case rel => exact ⟨k + 1, by go_num, by omega, by rw [HN.out]; exact own_later OX.out hbq, below_step BX (Nat.le_refl _) hbq⟩
                  case measure => simp [intOf]; omega
                | true =>
                  have HN := Lib.hid (show C (k + 1) = G ++ [e] by rw [HAG.out]; rfl)
                  -- region 15 behind world wr
                  have e0' := e0
                  have e1' := e1
                  have az := lt_of_block HX1.out
                  have a0 := cell_of_row wr _ 0 _ _ _ HX1.out
                  have a1 := cell_of_row wr _ 1 _ _ _ HX1.out
                  have a2 := cell_of_row wr _ 2 _ _ _ HX1.out
                  have a3 := cell_of_row wr _ 3 _ _ _ HX1.out
                  simp only [List.getElem?_toArray, List.getElem?_cons_zero, List.getElem?_cons_succ] at a0 a1 a2 a3
                  have bz := lt_of_block HX2.out
                  have b0 := cell_of_row wr _ 0 _ _ _ HX2.out
                  have b1 := cell_of_row wr _ 1 _ _ _ HX2.out
                  have b2 := cell_of_row wr _ 2 _ _ _ HX2.out
                  have b3 := cell_of_row wr _ 3 _ _ _ HX2.out
                  simp only [List.getElem?_toArray, List.getElem?_cons_zero, List.getElem?_cons_succ] at b0 b1 b2 b3
                  have qa0 := cell_belowBy a0
                  have qa1 := cell_belowBy a1
                  have qa2 := cell_belowBy a2
                  have qa3 := cell_belowBy a3
                  have qb0 := cell_belowBy b0
                  have qb1 := cell_belowBy b1
                  have qb2 := cell_belowBy b2
                  have qb3 := cell_belowBy b3
                  have qe0 := cell_belowBy e0
                  have qe1 := cell_belowBy e1
                  clear a0 a1 a2 a3 az
                  clear b0 b1 b2 b3 bz
                  clear e0 e1
                  have e0 := lt_of_cell e0'
                  go_wp2_with fail
                  refine wp_region_quiet_below mixed (by kernel_rfl) ?_
                  iterate 9 (go_big_quiet_step ((go_at_call 77; exact calls_belowBy (OSe.out _))))
                  repeat (go_big_quiet_step ((go_at_call 77; exact calls_belowBy (OTe.out _))))
                  refine wpQuiet_nil ?_
                  intro w8 hw'
                  obtain ⟨⟨wq, hbq⟩, hw''⟩ := hw'
                  subst hw''
                  clear qa0 qa1 qa2 qa3 qb0 qb1 qb2 qb3 qe0 qe1
                  have BQ := below_step BX (Nat.le_refl _) hbq
                  have OQ := Lib.hid (own_later OX.out hbq)
                  have e0 := cell_later hbq e0'
                  have e1 := cell_later hbq e1'
                  have hzq := hbq.size
                  clear hbq
                  go_wp2_with (at_builtin; refine wpList_append_own _ rfl _ _ 68 rfl w5.heap.size 37 i0 (.agg #[.int .i64 0, .int .i64 0]) 2 16 Tryz.underlying68 hi hi0 hi1 hi2 rfl (by decide) _ _ _ rfl (OQ.out.alloc _) ⟨w8.heap.size, 0, none⟩ 1 1 (encPt e) rfl rfl (cells_row (row_new _ _)) (encPt_one _) (by unfold maxLen; omega) (by omega) (by simp; omega) ?_; intro v' w9 hown9 hgrow9 _)
                  have B9 := (BQ.alloc (by omega) _).grown hgrow9 (by simp; omega) (fun j hj => (OQ.out.lt j hj).1)
                  have O9 := Lib.hid (show w9.ownsRow w5.heap.size 37 2 v' (C (k + 1)).length ((C (k + 1)).flatMap encPt) by
                    rw [HN.out, List.flatMap_append, List.length_append]; simpa using hown9)
                  clear hown9 hgrow9
                  go_roundw
                  case rel => exact ⟨k + 1, by go_num, by omega, O9.out, B9⟩
                  case measure => simp [intOf]; omega
      · obtain rfl : k = 4 := by omega
        clear hlt
        have HMG := HM.out
        rw [← HG.out] at HMG
        obtain ⟨ao, cap, hV, hcV⟩ := RowE.of_own encPt_len rfl HOWN.out
        subst hV
        have BW := Lib.hid BR
        have HX1 := Lib.hid (row_later hbr H1.out)
        have HX2 := Lib.hid (row_later hbr H2.out)
        clear BR hbr hzr
        rcases G with _ | ⟨c, _ | ⟨c2, l⟩⟩
        · have HE := Lib.hid (show r = if sgn (crs (ax, ay) (bx, by1) (cx, cy)) * sgn (crs (ax, ay) (bx, by1) (dx, dy)) < 0 ∧ sgn (crs (cx, cy) (dx, dy) (ax, ay)) * sgn (crs (cx, cy) (dx, dy) (bx, by1)) < 0 then 3 else 0 from HMG)
          clear HMG hcV
          obtain ⟨n1, hn1⟩ : ∃ z, z = crs (ax, ay) (bx, by1) (cx, cy) := ⟨_, rfl⟩
          obtain ⟨n2, hn2⟩ : ∃ z, z = crs (ax, ay) (bx, by1) (dx, dy) := ⟨_, rfl⟩
          obtain ⟨n3, hn3⟩ : ∃ z, z = crs (cx, cy) (dx, dy) (ax, ay) := ⟨_, rfl⟩
          obtain ⟨n4, hn4⟩ : ∃ z, z = crs (cx, cy) (dx, dy) (bx, by1) := ⟨_, rfl⟩
          rw [← hn1] at R1 HE
          rw [← hn2] at R2 HE
          rw [← hn3] at R3 HE
          rw [← hn4] at R4 HE
          have W1 := Lib.hid (sgn_wrap n1 n2)
          have W2 := Lib.hid (sgn_wrap n3 n4)
          have w1' := W1.out
          have w2' := W2.out
          clear hn1 hn2 hn3 hn4
          by_cases hx : sgn n1 * sgn n2 < 0
          case neg =>
            have hx1 : decide (sgn n1 * sgn n2 < 0) = false := decide_eq_false hx
            have HR := Lib.hid (show r = 0 by rw [HE.out, if_neg (fun c => hx c.1)])
            have az := lt_of_block HX1.out
            have a0 := cell_of_row wr _ 0 _ _ _ HX1.out
            have a1 := cell_of_row wr _ 1 _ _ _ HX1.out
            have a2 := cell_of_row wr _ 2 _ _ _ HX1.out
            have a3 := cell_of_row wr _ 3 _ _ _ HX1.out
            simp only [List.getElem?_toArray, List.getElem?_cons_zero, List.getElem?_cons_succ] at a0 a1 a2 a3
            have bz := lt_of_block HX2.out
            have b0 := cell_of_row wr _ 0 _ _ _ HX2.out
            have b1 := cell_of_row wr _ 1 _ _ _ HX2.out
            have b2 := cell_of_row wr _ 2 _ _ _ HX2.out
            have b3 := cell_of_row wr _ 3 _ _ _ HX2.out
            simp only [List.getElem?_toArray, List.getElem?_cons_zero, List.getElem?_cons_succ] at b0 b1 b2 b3
            have qa0 := cell_belowBy a0
            have qa1 := cell_belowBy a1
            have qa2 := cell_belowBy a2
            have qa3 := cell_belowBy a3
            have qb0 := cell_belowBy b0
            have qb1 := cell_belowBy b1
            have qb2 := cell_belowBy b2
            have qb3 := cell_belowBy b3
            clear a0 a1 a2 a3 az
            clear b0 b1 b2 b3 bz
            go_wp2_with fail
            refine wp_region_quiet_below mixed (by kernel_rfl) ?_
            iterate 7 (go_big_quiet_step ((go_at_call 79; exact calls_belowBy (R1.out _))))
            iterate 7 (go_big_quiet_step ((go_at_call 79; exact calls_belowBy (R2.out _))))
            iterate 10 (go_big_quiet_step ((go_at_call 79; exact calls_belowBy (R3.out _))))
            repeat (go_big_quiet_step ((go_at_call 79; exact calls_belowBy (R4.out _))))
            refine wpQuiet_nil ?_
            intro w8 hw'
            obtain ⟨⟨wq, hbq⟩, hw''⟩ := hw'
            subst hw''
            clear qa0 qa1 qa2 qa3 qb0 qb1 qb2 qb3
            go_wp2
            go_ret
            exact ⟨by rw [HR.out] <;> rfl, below_step BW.out (Nat.le_refl _) hbq⟩
          have hx1 : decide (sgn n1 * sgn n2 < 0) = true := decide_eq_true hx
          by_cases hy : sgn n3 * sgn n4 < 0
          case neg =>
            have hy1 : decide (sgn n3 * sgn n4 < 0) = false := decide_eq_false hy
            have HR := Lib.hid (show r = 0 by rw [HE.out, if_neg (fun c => hy c.2)])
            have az := lt_of_block HX1.out
            have a0 := cell_of_row wr _ 0 _ _ _ HX1.out
            have a1 := cell_of_row wr _ 1 _ _ _ HX1.out
            have a2 := cell_of_row wr _ 2 _ _ _ HX1.out
            have a3 := cell_of_row wr _ 3 _ _ _ HX1.out
            simp only [List.getElem?_toArray, List.getElem?_cons_zero, List.getElem?_cons_succ] at a0 a1 a2 a3
            have bz := lt_of_block HX2.out
            have b0 := cell_of_row wr _ 0 _ _ _ HX2.out
            have b1 := cell_of_row wr _ 1 _ _ _ HX2.out
            have b2 := cell_of_row wr _ 2 _ _ _ HX2.out
            have b3 := cell_of_row wr _ 3 _ _ _ HX2.out
            simp only [List.getElem?_toArray, List.getElem?_cons_zero, List.getElem?_cons_succ] at b0 b1 b2 b3
            have qa0 := cell_belowBy a0
            have qa1 := cell_belowBy a1
            have qa2 := cell_belowBy a2
            have qa3 := cell_belowBy a3
            have qb0 := cell_belowBy b0
            have qb1 := cell_belowBy b1
            have qb2 := cell_belowBy b2
            have qb3 := cell_belowBy b3
            clear a0 a1 a2 a3 az
            clear b0 b1 b2 b3 bz
            go_wp2_with fail
            refine wp_region_quiet_below mixed (by kernel_rfl) ?_
            iterate 7 (go_big_quiet_step ((go_at_call 79; exact calls_belowBy (R1.out _))))
            iterate 7 (go_big_quiet_step ((go_at_call 79; exact calls_belowBy (R2.out _))))
            iterate 10 (go_big_quiet_step ((go_at_call 79; exact calls_belowBy (R3.out _))))
            repeat (go_big_quiet_step ((go_at_call 79; exact calls_belowBy (R4.out _))))
            refine wpQuiet_nil ?_
            intro w8 hw'
            obtain ⟨⟨wq, hbq⟩, hw''⟩ := hw'
            subst hw''
            clear qa0 qa1 qa2 qa3 qb0 qb1 qb2 qb3
            go_wp2
            go_ret
            exact ⟨by rw [HR.out] <;> rfl, below_step BW.out (Nat.le_refl _) hbq⟩
          have hy1 : decide (sgn n3 * sgn n4 < 0) = true := decide_eq_true hy
          have HR := Lib.hid (show r = 3 by rw [HE.out, if_pos ⟨hx, hy⟩])
          have az := lt_of_block HX1.out
          have a0 := cell_of_row wr _ 0 _ _ _ HX1.out
          have a1 := cell_of_row wr _ 1 _ _ _ HX1.out
          have a2 := cell_of_row wr _ 2 _ _ _ HX1.out
          have a3 := cell_of_row wr _ 3 _ _ _ HX1.out
          simp only [List.getElem?_toArray, List.getElem?_cons_zero, List.getElem?_cons_succ] at a0 a1 a2 a3
          have bz := lt_of_block HX2.out
          have b0 := cell_of_row wr _ 0 _ _ _ HX2.out
          have b1 := cell_of_row wr _ 1 _ _ _ HX2.out
          have b2 := cell_of_row wr _ 2 _ _ _ HX2.out
          have b3 := cell_of_row wr _ 3 _ _ _ HX2.out
          simp only [List.getElem?_toArray, List.getElem?_cons_zero, List.getElem?_cons_succ] at b0 b1 b2 b3
          have qa0 := cell_belowBy a0
          have qa1 := cell_belowBy a1
          have qa2 := cell_belowBy a2
          have qa3 := cell_belowBy a3
          have qb0 := cell_belowBy b0
          have qb1 := cell_belowBy b1
          have qb2 := cell_belowBy b2
          have qb3 := cell_belowBy b3
          clear a0 a1 a2 a3 az
          clear b0 b1 b2 b3 bz
          go_wp2_with fail
          refine wp_region_quiet_below mixed (by kernel_rfl) ?_
          iterate 7 (go_big_quiet_step ((go_at_call 79; exact calls_belowBy (R1.out _))))
          iterate 7 (go_big_quiet_step ((go_at_call 79; exact calls_belowBy (R2.out _))))
          iterate 10 (go_big_quiet_step ((go_at_call 79; exact calls_belowBy (R3.out _))))
          repeat (go_big_quiet_step ((go_at_call 79; exact calls_belowBy (R4.out _))))
          refine wpQuiet_nil ?_
          intro w8 hw'
          obtain ⟨⟨wq, hbq⟩, hw''⟩ := hw'
          subst hw''
          clear qa0 qa1 qa2 qa3 qb0 qb1 qb2 qb3
          go_wp2
          go_ret
          exact ⟨by rw [HR.out] <;> rfl, below_step BW.out (Nat.le_refl _) hbq⟩
        · have HE := Lib.hid (show r = if endR ((ax, ay), bx, by1) c && endR ((cx, cy), dx, dy) c then 1 else 2 from HMG)
          clear HMG
          have ES1 := Lib.hid (ES.out c)
          have ET1 := Lib.hid (ET.out c)
          obtain ⟨g1, hg1⟩ : ∃ z, z = endR ((ax, ay), bx, by1) c := ⟨_, rfl⟩
          obtain ⟨g2, hg2⟩ : ∃ z, z = endR ((cx, cy), dx, dy) c := ⟨_, rfl⟩
          rw [← hg1] at ES1 HE
          rw [← hg2] at ET1 HE
          clear hg1 hg2
          obtain ⟨bV, oV, rfl, hcell⟩ := hcV (by simp)
          have v0' := hcell 0 c rfl 0 _ rfl
          have v0 : wr.cell? ⟨bV, oV, none⟩ = some (.int .i64 c.1) := by simpa using v0'
          have v1' := hcell 0 c rfl 1 _ rfl
          have v1 : wr.cell? ⟨bV, oV + 1, none⟩ = some (.int .i64 c.2) := by simpa using v1'
          clear hcell hcV v0' v1'
          cases g1 with
          | false =>
            have HR := Lib.hid (show r = 2 from HE.out)
            have az := lt_of_block HX1.out
            have a0 := cell_of_row wr _ 0 _ _ _ HX1.out
            have a1 := cell_of_row wr _ 1 _ _ _ HX1.out
            have a2 := cell_of_row wr _ 2 _ _ _ HX1.out
            have a3 := cell_of_row wr _ 3 _ _ _ HX1.out
            simp only [List.getElem?_toArray, List.getElem?_cons_zero, List.getElem?_cons_succ] at a0 a1 a2 a3
            have bz := lt_of_block HX2.out
            have b0 := cell_of_row wr _ 0 _ _ _ HX2.out
            have b1 := cell_of_row wr _ 1 _ _ _ HX2.out
            have b2 := cell_of_row wr _ 2 _ _ _ HX2.out
            have b3 := cell_of_row wr _ 3 _ _ _ HX2.out
            simp only [List.getElem?_toArray, List.getElem?_cons_zero, List.getElem?_cons_succ] at b0 b1 b2 b3
            have qa0 := cell_belowBy a0
            have qa1 := cell_belowBy a1
            have qa2 := cell_belowBy a2
            have qa3 := cell_belowBy a3
            have qb0 := cell_belowBy b0
            have qb1 := cell_belowBy b1
            have qb2 := cell_belowBy b2
            have qb3 := cell_belowBy b3
            have qv0 := cell_belowBy v0
            have qv1 := cell_belowBy v1
            have vz := lt_of_cell v0
            clear a0 a1 a2 a3 az
            clear b0 b1 b2 b3 bz
            clear v0 v1
            go_wp2_with fail
            refine wp_region_quiet_below mixed (by kernel_rfl) ?_
            iterate 5 (go_big_quiet_step ((go_at_call 78; exact calls_belowBy (ES1.out _))))
            repeat (go_big_quiet_step ((go_at_call 78; exact calls_belowBy (ET1.out _))))
            refine wpQuiet_nil ?_
            intro w8 hw'
            obtain ⟨⟨wq, hbq⟩, hw''⟩ := hw'
            subst hw''
            clear qa0 qa1 qa2 qa3 qb0 qb1 qb2 qb3 qv0 qv1
            go_wp2
            go_ret
            exact ⟨by rw [HR.out] <;> rfl, below_step BW.out (Nat.le_refl _) hbq⟩
          | true =>
            cases g2 with
            | false =>
              have HR := Lib.hid (show r = 2 from HE.out)
              have az := lt_of_block HX1.out
              have a0 := cell_of_row wr _ 0 _ _ _ HX1.out
              have a1 := cell_of_row wr _ 1 _ _ _ HX1.out
              have a2 := cell_of_row wr _ 2 _ _ _ HX1.out
              have a3 := cell_of_row wr _ 3 _ _ _ HX1.out
              simp only [List.getElem?_toArray, List.getElem?_cons_zero, List.getElem?_cons_succ] at a0 a1 a2 a3
              have bz := lt_of_block HX2.out
              have b0 := cell_of_row wr _ 0 _ _ _ HX2.out
              have b1 := cell_of_row wr _ 1 _ _ _ HX2.out
              have b2 := cell_of_row wr _ 2 _ _ _ HX2.out
              have b3 := cell_of_row wr _ 3 _ _ _ HX2.out
              simp only [List.getElem?_toArray, List.getElem?_cons_zero, List.getElem?_cons_succ] at b0 b1 b2 b3
              have qa0 := cell_belowBy a0
              have qa1 := cell_belowBy a1
              have qa2 := cell_belowBy a2
              have qa3 := cell_belowBy a3
              have qb0 := cell_belowBy b0
              have qb1 := cell_belowBy b1
              have qb2 := cell_belowBy b2
              have qb3 := cell_belowBy b3
              have qv0 := cell_belowBy v0
              have qv1 := cell_belowBy v1
              have vz := lt_of_cell v0
              clear a0 a1 a2 a3 az
              clear b0 b1 b2 b3 bz
              clear v0 v1
              go_wp2_with fail
              refine wp_region_quiet_below mixed (by kernel_rfl) ?_
              iterate 5 (go_big_quiet_step ((go_at_call 78; exact calls_belowBy (ES1.out _))))
              repeat (go_big_quiet_step ((go_at_call 78; exact calls_belowBy (ET1.out _))))
              refine wpQuiet_nil ?_
              intro w8 hw'
              obtain ⟨⟨wq, hbq⟩, hw''⟩ := hw'
              subst hw''
              clear qa0 qa1 qa2 qa3 qb0 qb1 qb2 qb3 qv0 qv1
              go_wp2
              go_ret
              exact ⟨by rw [HR.out] <;> rfl, below_step BW.out (Nat.le_refl _) hbq⟩
            | true =>
              have HR := Lib.hid (show r = 1 from HE.out)
              have az := lt_of_block HX1.out
              have a0 := cell_of_row wr _ 0 _ _ _ HX1.out
              have a1 := cell_of_row wr _ 1 _ _ _ HX1.out
              have a2 := cell_of_row wr _ 2 _ _ _ HX1.out
              have a3 := cell_of_row wr _ 3 _ _ _ HX1.out
              simp only [List.getElem?_toArray, List.getElem?_cons_zero, List.getElem?_cons_succ] at a0 a1 a2 a3
              have bz := lt_of_block HX2.out
              have b0 := cell_of_row wr _ 0 _ _ _ HX2.out
              have b1 := cell_of_row wr _ 1 _ _ _ HX2.out
              have b2 := cell_of_row wr _ 2 _ _ _ HX2.out
              have b3 := cell_of_row wr _ 3 _ _ _ HX2.out
              simp only [List.getElem?_toArray, List.getElem?_cons_zero, List.getElem?_cons_succ] at b0 b1 b2 b3
              have qa0 := cell_belowBy a0
              have qa1 := cell_belowBy a1
              have qa2 := cell_belowBy a2
              have qa3 := cell_belowBy a3
              have qb0 := cell_belowBy b0
              have qb1 := cell_belowBy b1
              have qb2 := cell_belowBy b2
              have qb3 := cell_belowBy b3
              have qv0 := cell_belowBy v0
              have qv1 := cell_belowBy v1
              have vz := lt_of_cell v0
              clear a0 a1 a2 a3 az
              clear b0 b1 b2 b3 bz
              clear v0 v1
              go_wp2_with fail
              refine wp_region_quiet_below mixed (by kernel_rfl) ?_
              iterate 5 (go_big_quiet_step ((go_at_call 78; exact calls_belowBy (ES1.out _))))
              repeat (go_big_quiet_step ((go_at_call 78; exact calls_belowBy (ET1.out _))))
              refine wpQuiet_nil ?_
              intro w8 hw'
              obtain ⟨⟨wq, hbq⟩, hw''⟩ := hw'
              subst hw''
              clear qa0 qa1 qa2 qa3 qb0 qb1 qb2 qb3 qv0 qv1
              go_wp2
              go_ret
              exact ⟨by rw [HR.out] <;> rfl, below_step BW.out (Nat.le_refl _) hbq⟩
        · have HE := Lib.hid (show r = 5 from HMG)
          clear HMG hcV
          have hg1 : decide ((1 : Int) < ((c :: c2 :: l).length : Int)) = true := decide_eq_true (by simp; omega)
          have hg2 : (1 : Int) < ((c :: c2 :: l).length : Int) := by simp; omega
          obtain ⟨n, hn⟩ : ∃ n, n = (c :: c2 :: l).length := ⟨_, rfl⟩
          rw [← hn] at hg1 hg2 ⊢
          clear hn HOWN HL HG
          go_wp2
          go_ret
          exact ⟨by rw [HE.out] <;> rfl, BW.out⟩
/-- The reference's way of two segments is the plain one. -/
theorem rmeets_any (s t : Sg) (w : World) :
    Calls Tryz.prog 49 #[sgV s, sgV t] w fun e w' => e = .returned (.int .i64 (meetsR s t)) ∧ Below w.heap.size w w' := by
  cases h : (nearS s && nearS t) with
  | false =>
    have : meetsR s t = 0 := by unfold meetsR; rw [h]; rfl
    rw [this]
    exact rmeets_off s t w h
  | true =>
    have h2 := h
    rw [Bool.and_eq_true] at h2
    by_cases hm : s = t ∨ (s.1 = t.2 ∧ s.2 = t.1)
    · have : meetsR s t = 4 := by unfold meetsR; rw [h, if_neg (by simp), if_pos hm]
      rw [this]
      exact rmeets_same s t w h2.1 h2.2 hm
    · exact rmeets_main s t w h2.1 h2.2 hm
end Go.Proofs.YtbkomdinchiffaaGreat
