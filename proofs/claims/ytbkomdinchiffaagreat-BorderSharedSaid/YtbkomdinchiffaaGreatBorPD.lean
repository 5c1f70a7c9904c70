/- atlas.Put of an object that is not there. -/
import Derived.Test.YtbkomdinchiffaaGreatBorPA
import Derived.Test.YtbkomdinchiffaaGreatBorPB
import Derived.Test.YtbkomdinchiffaaGreatBorLaw
import Derived.Test.YtbkomdinchiffaaGreatBorT
namespace Go.Proofs.YtbkomdinchiffaaGreat
open Go.RowKit Go.Sort

def insO (o : ObjD) (i : Nat) (l : List ObjD) : List ObjD := l.take i ++ o :: l.drop i
theorem ins_from (o : ObjD) (ho : objOK o = true) : ∀ (l : List ObjD) (i : Nat) (last : ByteArray), objsFrom last l = true → PlaceO o.id l i → (∀ x ∈ l, x.id ≠ o.id) → ltB last o.id = true → objsFrom last (insO o i l) = true
  | l, 0, last, h, hp, hno, hlt => by
    unfold insO
    rw [List.take_zero, List.drop_zero, List.nil_append, objsFrom]
    simp only [Bool.and_eq_true]
    refine ⟨⟨ho, hlt⟩, ?_⟩
    cases l with
    | nil => rfl
    | cons x r =>
      simp only [objsFrom, Bool.and_eq_true] at h ⊢
      refine ⟨⟨h.1.1, ?_⟩, h.2⟩
      have h1 := hp.2.2 0 x (Nat.le_refl _) rfl
      cases h2 : ltB o.id x.id with
      | true => rfl
      | false => exact absurd (ltB_total h1 h2) (hno x (List.mem_cons_self ..))
  | [], i + 1, last, h, hp, hno, hlt => absurd hp.1 (by simp)
  | x :: r, i + 1, last, h, hp, hno, hlt => by
    unfold insO
    rw [List.take_succ_cons, List.drop_succ_cons, List.cons_append, objsFrom]
    simp only [objsFrom, Bool.and_eq_true] at h ⊢
    refine ⟨⟨h.1.1, h.1.2⟩, ?_⟩
    exact ins_from o ho r i x.id h.2 ⟨by have := hp.1; simp at this; omega, fun t y ht hy => hp.2.1 (t + 1) y (by omega) (by simpa using hy), fun t y ht hy => hp.2.2 (t + 1) y (by omega) (by simpa using hy)⟩ (fun y hy => hno y (List.mem_cons_of_mem _ hy)) (hp.2.1 0 x (by omega) rfl)
theorem id_pos {o : ObjD} (h : objOK o = true) : ltB ⟨#[]⟩ o.id = true := by
  simp only [objOK, Bool.and_eq_true] at h
  have hn := h.1.1.1.1.1.2
  unfold nameB nameL at hn
  simp only [Bool.and_eq_true, decide_eq_true_eq] at hn
  have h1 := hn.1.1
  rw [ltB_eq, ltStr, decide_eq_true_eq, ByteArray.toList_eq, ByteArray.toList_eq]
  cases he : o.id.data.toList with
  | nil => rw [he] at h1; simp at h1
  | cons a r => simp
theorem ins_ok {o : ObjD} {l : List ObjD} {i : Nat} (ho : objOK o = true) (hok : mapOK l = true) (hp : PlaceO o.id l i) (hno : ∀ x ∈ l, x.id ≠ o.id) (hl : l.length ≤ 1000) : mapOK (insO o i l) = true := by
  simp only [mapOK, Bool.and_eq_true, decide_eq_true_eq] at hok ⊢
  refine ⟨?_, ins_from o ho l i _ hok.2 hp hno (id_pos ho)⟩
  unfold insO
  rw [List.length_append, List.length_cons, List.length_take, List.length_drop]; omega
theorem ins_mem {o : ObjD} {l : List ObjD} {i : Nat} (x : ObjD) : x ∈ insO o i l ↔ x = o ∨ x ∈ l := by
  unfold insO
  rw [List.mem_append, List.mem_cons]
  constructor
  · rintro (h | h | h)
    · exact Or.inr (List.mem_of_mem_take h)
    · exact Or.inl h
    · exact Or.inr (List.mem_of_mem_drop h)
  · rintro (h | h)
    · exact Or.inr (Or.inl h)
    · rw [← List.take_append_drop i l] at h
      rcases List.mem_append.1 h with h | h
      · exact Or.inl h
      · exact Or.inr (Or.inr h)
theorem insV_flat (L : List ObM) (x : ObM) (i : Nat) : insV (L.flatMap encOb) (encOb x) i = (L.take i ++ x :: L.drop i).flatMap encOb := by
  unfold insV
  rw [List.flatMap_append, List.flatMap_cons, ← flat_take' encOb_len]
  have : (L.flatMap encOb).drop (i * 6) = (L.drop i).flatMap encOb := by
    have h := List.take_append_drop i L
    have h2 : L.flatMap encOb = (L.take i).flatMap encOb ++ (L.drop i).flatMap encOb := by rw [← List.flatMap_append, h]
    by_cases hi : i ≤ L.length
    · have e : ((L.take i).flatMap encOb).length = i * 6 := by rw [flat_length encOb 6 encOb_len, List.length_take, Nat.min_eq_left hi]
      rw [h2, ← e]; exact List.drop_left
    · rw [List.drop_eq_nil_of_le (by rw [flat_length encOb 6 encOb_len]; omega), List.drop_eq_nil_of_le (by omega)]; rfl
  rw [this, List.append_assoc]

/-- What Put returns. -/
def PutPost (o : ObjD) (l : List ObjD) (w : World) (e : Ending) (w' : World) : Prop :=
  ((objOK o = false ∧ e = .returned (.tuple #[.agg #[.slice none 0 0], .int .i64 1])) ∨
    (objOK o = true ∧ ∃ v' i, e = .returned (.tuple #[.agg #[v'], .int .i64 0]) ∧ PlaceO o.id l i ∧ ObjsIs w' v' (insO o i l))) ∧ Below w.heap.size w w'
set_option maxRecDepth 100000 in
set_option maxHeartbeats 4000000 in
theorem put_any (v : Value) (l : List ObjD) (o : ObjD) (vr vt : Value) (w : World) (hv : ObjsIs w v l) (hok : mapOK l = true) (hl : l.length ≤ 1000) (hno : posO o.id l = none) (ho : ObOK w (o, vr, vt)) :
    Calls Tryz.prog 26 #[.agg #[v], .agg #[.string o.id, .int .i64 o.kind, .int .i64 o.x, .int .i64 o.y, vr, vt]] w (PutPost o l w) := by
  have VS := Lib.hid (fun B w' hb hB => validS_any v l B w' (hv.later (w' := w') hb) hB)
  have VO := Lib.hid (fun w' (hb : Below w.heap.size w w') => validO_any o.id o.kind o.x o.y vr vt o.refs o.tags w' ho.2.2 (ho.1.later hb) (ho.2.1.later hb))
  have AT := Lib.hid (fun w' hb => at_map v l o.id w' (hv.later (w' := w') hb) hok)
  obtain ⟨L, hL, hLm, hLo⟩ := objs_row hv
  have HLM := Lib.hid hLm
  have HNO := Lib.hid hno
  have HLO := Lib.hid hLo
  have HOO := Lib.hid ho
  have hLl : L.length = l.length := by rw [← hLm, List.length_map]
  have CL := Lib.hid (fun w' hb => cloneO_any v L w' (by omega) (hL.later (w' := w') hb) (fun x hx => (hLo x hx).later hb))
  have HX1 := Lib.hid (obs_one hLo)
  have HX2 := Lib.hid ho.one
  obtain ⟨a, cap, rfl, _⟩ := hL
  obtain ⟨⟨ar, capr, evr, _⟩, ⟨at1, capt, evt, _⟩, _⟩ := ho
  simp only [] at evr evt
  subst evr evt
  rw [hok] at VS
  obtain ⟨N, hN⟩ : ∃ N, L.length = N := ⟨_, rfl⟩
  have hN10 : N ≤ 1000 := by omega
  have HNN := Lib.hid hN
  have HNL := Lib.hid (show N = l.length by rw [← hLl, hN])
  rw [hN] at VS AT CL ⊢
  clear hok hno hv hLm hLo hLl hN hl
  go_enter Tryz.func26, Tryz.ntmps26
  go_wp2_with fail
  obtain ⟨B, hB⟩ : ∃ B, B = w.heap.size := ⟨_, rfl⟩
  have BX : Below w.heap.size w ((((w.alloc (.cells #[.slice a N cap] 24)).alloc (.cells #[.string o.id, .int .i64 o.kind, .int .i64 o.x, .int .i64 o.y, .slice ar o.refs.length capr, .slice at1 o.tags.length capt] 59)).alloc (.cells #[.slice none 0 0] 24)).alloc (.cells #[.slice a N cap] 24)) := (by repeat' (first | exact Below.refl _ _ | refine Below.drew ?_ | refine Below.drewN' ?_ | refine Below.setCell ?_ (by first | omega | (simp; done) | exact Below.size (by assumption) | (simp; omega)) _ | refine Below.alloc ?_ (by first | omega | (simp; done) | exact Below.size (by assumption) | (simp; omega)) _ | refine Below.trans ?_ (Below.mono (by assumption) ?_) | (first | omega | (simp; done) | exact Below.size (by assumption) | (simp; omega))))
  have H4 := row_new (((w.alloc (.cells #[.slice a N cap] 24)).alloc (.cells #[.string o.id, .int .i64 o.kind, .int .i64 o.x, .int .i64 o.y, .slice ar o.refs.length capr, .slice at1 o.tags.length capt] 59)).alloc (.cells #[.slice none 0 0] 24)) (.cells #[.slice a N cap] 24)
  have H3 := row_past (o' := .cells #[.slice a N cap] 24) (row_new ((w.alloc (.cells #[.slice a N cap] 24)).alloc (.cells #[.string o.id, .int .i64 o.kind, .int .i64 o.x, .int .i64 o.y, .slice ar o.refs.length capr, .slice at1 o.tags.length capt] 59)) (.cells #[.slice none 0 0] 24))
  have H2 := row_past (o' := .cells #[.slice a N cap] 24) (row_past (o' := .cells #[.slice none 0 0] 24) (row_new (w.alloc (.cells #[.slice a N cap] 24)) (.cells #[.string o.id, .int .i64 o.kind, .int .i64 o.x, .int .i64 o.y, .slice ar o.refs.length capr, .slice at1 o.tags.length capt] 59)))
  have H1 := row_past (o' := .cells #[.slice a N cap] 24) (row_past (o' := .cells #[.slice none 0 0] 24) (row_past (o' := .cells #[.string o.id, .int .i64 o.kind, .int .i64 o.x, .int .i64 o.y, .slice ar o.refs.length capr, .slice at1 o.tags.length capt] 59) (row_new w (.cells #[.slice a N cap] 24))))
  generalize hw1 : ((((w.alloc (.cells #[.slice a N cap] 24)).alloc (.cells #[.string o.id, .int .i64 o.kind, .int .i64 o.x, .int .i64 o.y, .slice ar o.refs.length capr, .slice at1 o.tags.length capt] 59)).alloc (.cells #[.slice none 0 0] 24)).alloc (.cells #[.slice a N cap] 24)) = w1
  rw [hw1] at BX H1 H2 H3 H4
  simp only [World.size_alloc] at H2 H3 H4
  rw [← hB] at H1 H2 H3 H4 ⊢
  have hz1 := BX.size
  have hz4 : B + 3 < w1.heap.size := lt_of_block H4
  have hBw : w.heap.size ≤ B := by omega
  have HB := Lib.hid hB
  have K1 := Lib.hid H1
  have K2 := Lib.hid H2
  have K3 := Lib.hid H3
  refine (VS.out _ _ BX (cell_of_row w1 _ 0 _ _ _ H4)).mono ?_
  rintro e w2 ⟨rfl, hb⟩
  have B2 := BX.trans (hb.mono hz1)
  replace K1 := Lib.hid (row_later hb K1.out)
  replace K2 := Lib.hid (row_later hb K2.out)
  replace K3 := Lib.hid (row_later hb K3.out)
  have hz2 := Nat.lt_of_lt_of_le hz4 hb.size
  clear hw1 H1 H2 H3 H4 BX hb VS hB hz1 hz4
  have qz := lt_of_block K2.out
  have q0 := cell_of_row w2 _ 0 _ _ _ K2.out
  have q1 := cell_of_row w2 _ 1 _ _ _ K2.out
  have q2 := cell_of_row w2 _ 2 _ _ _ K2.out
  have q3 := cell_of_row w2 _ 3 _ _ _ K2.out
  have q4 := cell_of_row w2 _ 4 _ _ _ K2.out
  have q5 := cell_of_row w2 _ 5 _ _ _ K2.out
  simp only [List.getElem?_toArray, List.getElem?_cons_zero, List.getElem?_cons_succ] at q0 q1 q2 q3 q4 q5
  go_wp2_with fail
  refine (VO.out _ B2).mono ?_
  rintro e w3 ⟨rfl, hb⟩
  have B3 := B2.trans (hb.mono B2.size)
  replace K1 := Lib.hid (row_later hb K1.out)
  replace K2 := Lib.hid (row_later hb K2.out)
  replace K3 := Lib.hid (row_later hb K3.out)
  replace hz2 := Nat.lt_of_lt_of_le hz2 hb.size
  clear q0 q1 q2 q3 q4 q5 qz
  clear hb B2 VO
  have rz := lt_of_block K3.out
  have r0 := cell_of_row w3 _ 0 _ _ _ K3.out
  have rf0 := frozen_of_row w3 _ 0 _ _ K3.out
  simp only [List.getElem?_toArray, List.getElem?_cons_zero] at r0
  cases hob : objOK o with
  | false =>
    go_wp2
    refine bodyPost_ret (v := .tuple #[.agg #[.slice none 0 0], .int .i64 1]) ?_ rfl ⟨Or.inl ⟨hob, rfl⟩, B3.setCell (p := ⟨B + 1 + 1, 0, none⟩) (by simp; omega) _⟩
    simp [results, Tryz.results26, go_sem, r0]
  | true =>
    have pz := lt_of_block K1.out
    have p0 := cell_of_row w3 _ 0 _ _ _ K1.out
    simp only [List.getElem?_toArray, List.getElem?_cons_zero] at p0
    have qz := lt_of_block K2.out
    have q0 := cell_of_row w3 _ 0 _ _ _ K2.out
    have q1 := cell_of_row w3 _ 1 _ _ _ K2.out
    have q2 := cell_of_row w3 _ 2 _ _ _ K2.out
    have q3 := cell_of_row w3 _ 3 _ _ _ K2.out
    have q4 := cell_of_row w3 _ 4 _ _ _ K2.out
    have q5 := cell_of_row w3 _ 5 _ _ _ K2.out
    simp only [List.getElem?_toArray, List.getElem?_cons_zero, List.getElem?_cons_succ] at q0 q1 q2 q3 q4 q5
    go_wp2_with fail
    refine (AT.out _ B3).mono ?_
    rintro e w4 ⟨⟨i, b, rfl, hbs, _, hpl⟩, hb⟩
    rw [HNO.out] at hbs
    obtain rfl : b = false := hbs
    have HPL := Lib.hid hpl
    have hiN : i ≤ N := by rw [HNL.out]; exact hpl.1
    have B4 := B3.trans (hb.mono B3.size)
    replace K1 := Lib.hid (row_later hb K1.out)
    replace K2 := Lib.hid (row_later hb K2.out)
    replace K3 := Lib.hid (row_later hb K3.out)
    replace hz2 := Nat.lt_of_lt_of_le hz2 hb.size
    clear p0 pz
    clear q0 q1 q2 q3 q4 q5 qz
    clear r0 rz
    clear hb B3 AT hpl
    have pz := lt_of_block K1.out
    have p0 := cell_of_row w4 _ 0 _ _ _ K1.out
    simp only [List.getElem?_toArray, List.getElem?_cons_zero] at p0
    go_wp2_with fail
    refine (CL.out _ B4).mono ?_
    rintro e w5 ⟨v', rfl, hown, hb⟩
    have B5 := B4.trans (hb.mono B4.size)
    replace K1 := Lib.hid (row_later hb K1.out)
    replace K2 := Lib.hid (row_later hb K2.out)
    replace K3 := Lib.hid (row_later hb K3.out)
    have hzB4 := hz2
    replace hz2 := Nat.lt_of_lt_of_le hz2 hb.size
    clear p0 pz
    have hz45 := hb.size
    have hz34 := B4.size
    clear hb CL
    obtain ⟨ao, c, rfl⟩ := own_form hown
    have HO := Lib.hid hown
    clear hown
    have pz := lt_of_block K1.out
    have p0 := cell_of_row w5 _ 0 _ _ _ K1.out
    simp only [List.getElem?_toArray, List.getElem?_cons_zero] at p0
    have qz := lt_of_block K2.out
    have q0 := cell_of_row w5 _ 0 _ _ _ K2.out
    have q1 := cell_of_row w5 _ 1 _ _ _ K2.out
    have q2 := cell_of_row w5 _ 2 _ _ _ K2.out
    have q3 := cell_of_row w5 _ 3 _ _ _ K2.out
    have q4 := cell_of_row w5 _ 4 _ _ _ K2.out
    have q5 := cell_of_row w5 _ 5 _ _ _ K2.out
    simp only [List.getElem?_toArray, List.getElem?_cons_zero, List.getElem?_cons_succ] at q0 q1 q2 q3 q4 q5
    have hN2 : ¬ (N : Int) = 1000000 := by omega
    go_wp2_with fail
    have BA : Below w5.heap.size w5 (w5.alloc (.cells #[.slice ao N c] 24)) := (by repeat' (first | exact Below.refl _ _ | refine Below.drew ?_ | refine Below.drewN' ?_ | refine Below.setCell ?_ (by first | omega | (simp; done) | exact Below.size (by assumption) | (simp; omega)) _ | refine Below.alloc ?_ (by first | omega | (simp; done) | exact Below.size (by assumption) | (simp; omega)) _ | refine Below.trans ?_ (Below.mono (by assumption) ?_) | (first | omega | (simp; done) | exact Below.size (by assumption) | (simp; omega))))
    have HA := row_new w5 (.cells #[.slice ao N c] 24)
    have hzA : (w5.alloc (.cells #[.slice ao N c] 24)).heap.size = w5.heap.size + 1 := by simp
    generalize hw6 : (w5.alloc (.cells #[.slice ao N c] 24)) = w6
    rw [hw6] at BA HA hzA
    obtain ⟨O, hO⟩ : ∃ O, O = w5.heap.size := ⟨_, rfl⟩
    rw [← hO] at HA hzA ⊢
    have BO : Below w6.heap.size w6 (w6.alloc (.cells #[.string o.id, .int .i64 o.kind, .int .i64 o.x, .int .i64 o.y, .slice ar o.refs.length capr, .slice at1 o.tags.length capt] 59)) := (Below.refl _ _).alloc (Nat.le_refl _) _
    have HX := row_new w6 (.cells #[.string o.id, .int .i64 o.kind, .int .i64 o.x, .int .i64 o.y, .slice ar o.refs.length capr, .slice at1 o.tags.length capt] 59)
    rw [hzA] at HX
    have B7 := B5.trans (((BA.mono (Nat.le_refl _)).trans (BO.mono (by omega))).mono B5.size)
    have B57 := BA.trans (BO.mono (by omega))
    generalize hw7 : w6.alloc (.cells #[.string o.id, .int .i64 o.kind, .int .i64 o.x, .int .i64 o.y, .slice ar o.refs.length capr, .slice at1 o.tags.length capt] 59) = w7
    rw [hw7] at BO HX B7 B57
    have HO7 := Lib.hid (own_later HO.out B57)
    have hne : (Value.slice ao N c).ownBlock ≠ some (O + 1) := fun e => by
      have := (HO.out.lt _ e).2
      omega
    have h57 := B57.size
    have H7 := row_later BO HA
    replace K3 := Lib.hid (row_later B57 K3.out)
    refine (insertO_any _ N i (O + 1) w4.heap.size _ (encOb (o, .slice ar o.refs.length capr, .slice at1 o.tags.length capt)) w7 HO7.out hiN (by omega) HX1.out HX (encOb_len _) HX2.out hne (by omega)).mono ?_
    rintro e w8 ⟨v8, rfl, hown8, hg8⟩
    have hz78 := hg8.size
    have Q8 := row_grown hg8 K3.out (fun e => by
      have := (HO.out.lt _ e.symm).1
      omega)
    have H8 := row_grown hg8 H7 (fun e => by
      have := (HO.out.lt _ e.symm).2
      omega)
    have B8 := B7.grown hg8 B7.size (fun k hk => Nat.le_trans B4.size ((HO.out.lt k hk).1))
    obtain ⟨ao8, c8, rfl⟩ := own_form hown8
    have HO8 := Lib.hid hown8
    have h5O : w8.heap.size > O + 1 := by have := lt_of_block HX; omega
    have hwB : w.heap.size ≤ B + 1 + 1 := by omega
    have hwO : w.heap.size ≤ O := by omega
    have hOB : O ≠ B + 1 + 1 := by omega
    clear hown8 hg8 BA HA BO HX B7 B57 HO7 H7 hw6 hw7
    have HQ8 := Lib.hid Q8
    have HH8 := Lib.hid H8
    clear Q8 H8 hO
    have sz := lt_of_block HH8.out
    have s0 := cell_of_row w8 _ 0 _ _ _ HH8.out
    have sf0 := frozen_of_row w8 _ 0 _ _ HH8.out
    simp only [List.getElem?_toArray, List.getElem?_cons_zero] at s0
    have rz := lt_of_block HQ8.out
    have r0 := cell_of_row w8 _ 0 _ _ _ HQ8.out
    have rf0 := frozen_of_row w8 _ 0 _ _ HQ8.out
    simp only [List.getElem?_toArray, List.getElem?_cons_zero] at r0
    go_wp2_with fail
    have hneO : (Value.slice ao8 (N + 1) c8).ownBlock ≠ some O := fun e => by
      rcases HO8.out.2 with ⟨_, h0⟩ | ⟨g, cap', cur, ev, _, hg, _⟩
      · omega
      · rw [ev] at e
        injection e with e
        have e : g = O := e
        subst e
        rw [HH8.out] at hg
        simp at hg
    have hneB : (Value.slice ao8 (N + 1) c8).ownBlock ≠ some (B + 1 + 1) := fun e => by
      have := (HO8.out.lt _ e).1
      omega
    have g1 : w8.grownBy (w8.setCell ⟨O, 0, none⟩ (.slice ao8 (N + 1) c8)) (some O) := setCells_grown (g := O) [.slice ao8 (N + 1) c8] 0 w8
    have O9 := HO8.out.kept g1 (Or.inr hneO)
    obtain ⟨w9, hw9⟩ : ∃ w9, w9 = w8.setCell ⟨O, 0, none⟩ (.slice ao8 (N + 1) c8) := ⟨_, rfl⟩
    rw [← hw9] at O9
    have g2 : w9.grownBy (w9.setCell ⟨B + 1 + 1, 0, none⟩ (.slice ao8 (N + 1) c8)) (some (B + 1 + 1)) := setCells_grown (g := B + 1 + 1) [.slice ao8 (N + 1) c8] 0 w9
    have O10 := O9.kept g2 (Or.inr hneB)
    have B9 : Below w.heap.size w (w9.setCell ⟨B + 1 + 1, 0, none⟩ (.slice ao8 (N + 1) c8)) := by
      rw [hw9]
      exact (B8.setCell (p := ⟨O, 0, none⟩) hwO _).setCell (p := ⟨B + 1 + 1, 0, none⟩) hwB _
    rw [insV_flat] at O10
    have OB := objs_of (RowE.of_own (n := N + 1) encOb_len (by rw [List.length_append, List.length_cons, List.length_take, List.length_drop, HNN.out]; omega) O10) (fun x hx => by
      rcases List.mem_append.1 hx with hx | hx
      · exact (HLO.out x (List.mem_of_mem_take hx)).later B9
      · rcases List.mem_cons.1 hx with rfl | hx
        · exact HOO.out.later B9
        · exact (HLO.out x (List.mem_of_mem_drop hx)).later B9) (by rw [List.length_append, List.length_cons, List.length_take, List.length_drop, HNN.out]; omega)
    rw [List.map_append, List.map_cons, List.map_take, List.map_drop, HLM.out] at OB
    rw [hw9] at OB B9
    refine bodyPost_ret (v := .tuple #[.agg #[.slice ao8 (N + 1) c8], .int .i64 0]) ?_ rfl ⟨Or.inr ⟨hob, _, i, rfl, HPL.out, OB⟩, B9⟩
    simp [results, Tryz.results26, go_sem, r0]
end Go.Proofs.YtbkomdinchiffaaGreat
