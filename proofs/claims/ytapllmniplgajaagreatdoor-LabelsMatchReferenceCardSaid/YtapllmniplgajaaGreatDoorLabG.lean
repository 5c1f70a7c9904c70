/- Labels in memory; the program's copy of them, and its sorted copy. -/
import Derived.Test.YtapllmniplgajaaGreatDoorLabZ
import Derived.Lib.OwnBridge
import Derived.Lib.SmallJoins
import Derived.Lib.SliceRun
import Derived.Lib.Walk
namespace Go.Proofs.YtapllmniplgajaaGreatDoor
open Go.Shelf Go.RowKit Go.Lib Go.Sort

/-- How a slice of elements of k cells lies in memory. -/
def RowE {α : Type} (enc : α → List Value) (k : Nat) (w : World) (v : Value) (l : List α) : Prop :=
  ∃ (a : Option Addr) (cap : Nat), v = .slice a l.length cap ∧ (0 < l.length → ∃ b off, a = some ⟨b, off, none⟩ ∧ ∀ (j : Nat) (x : α), l[j]? = some x → ∀ (i : Nat) (u : Value), (enc x)[i]? = some u → w.cell? ⟨b, off + j * k + i, none⟩ = some u)
theorem RowE.later {α : Type} {enc : α → List Value} {k : Nat} {w w' : World} {v : Value} {l : List α} (h : RowE enc k w v l) (hb : Below w.heap.size w w') : RowE enc k w' v l := by
  obtain ⟨a, cap, h1, h2⟩ := h
  refine ⟨a, cap, h1, fun hl => ?_⟩
  obtain ⟨b, off, h3, h4⟩ := h2 hl
  exact ⟨b, off, h3, fun k x hk i u hu => cell_later hb (h4 k x hk i u hu)⟩
theorem flat_length {α : Type} (enc : α → List Value) (k : Nat) (hk : ∀ x, (enc x).length = k) : ∀ l : List α, (l.flatMap enc).length = l.length * k
  | [] => by simp
  | x :: l => by rw [List.flatMap_cons, List.length_append, flat_length enc k hk l, hk, List.length_cons, Nat.add_mul, Nat.one_mul, Nat.add_comm]
theorem flat_get {α : Type} (enc : α → List Value) (k : Nat) (hk : ∀ x, (enc x).length = k) : ∀ (l : List α) (j i : Nat) (x : α), l[j]? = some x → i < k → (l.flatMap enc)[j * k + i]? = (enc x)[i]?
  | [], j, i, x, h, _ => by simp at h
  | y :: l, 0, i, x, h, hi => by
    have hx : y = x := by simpa using h
    subst hx
    rw [List.flatMap_cons, List.getElem?_append_left (by rw [hk]; omega), Nat.zero_mul, Nat.zero_add]
  | y :: l, j + 1, i, x, h, hi => by
    have hx : l[j]? = some x := by simpa using h
    have ih := flat_get enc k hk l j i x hx hi
    rw [List.flatMap_cons, List.getElem?_append_right (by rw [hk, Nat.add_mul]; omega), hk, ← ih]
    congr 1
    rw [Nat.add_mul]; omega
/-- A row that is the call's own is such a slice. -/
theorem RowE.of_own {α : Type} {enc : α → List Value} {k : Nat} (hk : ∀ x, (enc x).length = k) {w : World} {base n : Nat} {e : TypeId} {v : Value} {l : List α} (hn : n = l.length) (h : w.ownsRow base e k v n (l.flatMap enc)) : RowE enc k w v l := by
  subst hn
  rcases h.2 with ⟨rfl, h0⟩ | ⟨g, cap, cur, rfl, hb, hc, h1, h2, h3, h4⟩
  · exact ⟨none, 0, by rw [h0], fun hp => by omega⟩
  · refine ⟨some ⟨g, 0, none⟩, cap, rfl, fun _ => ⟨g, 0, rfl, fun j x hx i u hu => ?_⟩⟩
    have hi : i < k := by rw [← hk x]; exact (List.getElem?_eq_some_iff.1 hu).1
    have hj : j < l.length := (List.getElem?_eq_some_iff.1 hx).1
    have hlt : j * k + i < l.length * k := by
      have := Nat.mul_le_mul_right k (show j + 1 ≤ l.length from hj); rw [Nat.add_mul, Nat.one_mul] at this; omega
    have a := flat_get enc k hk l j i x hx hi
    rw [← h4, List.getElem?_take, if_pos hlt, Array.getElem?_toList, hu] at a
    simp only [World.cell?, hc, Nat.zero_add, Option.isSome_none, Bool.false_eq_true, if_false]
    exact a
/-- How a slice of labels lies in memory. -/
abbrev LabRow (w : World) (v : Value) (l : List LabD) : Prop := RowE encL 6 w v l

/-- The labels' cells, one after another. -/
def labCells (l : List LabD) : List Value := l.flatMap encL
theorem labCells_length : ∀ l : List LabD, (labCells l).length = l.length * 6
  | [] => rfl
  | x :: l => by
    have := labCells_length l
    unfold labCells at *
    rw [List.flatMap_cons, List.length_append, this, encL_len, List.length_cons]; omega
theorem labCells_get : ∀ (l : List LabD) (k i : Nat) (x : LabD), l[k]? = some x → i < 6 → (labCells l)[k * 6 + i]? = (encL x)[i]?
  | [], k, i, x, h, _ => by simp at h
  | y :: l, 0, i, x, h, hi => by
    have hx : y = x := by simpa using h
    subst hx
    unfold labCells
    rw [List.flatMap_cons, List.getElem?_append_left (by rw [encL_len]; omega), Nat.zero_mul, Nat.zero_add]
  | y :: l, k + 1, i, x, h, hi => by
    have hx : l[k]? = some x := by simpa using h
    have ih := labCells_get l k i x hx hi
    unfold labCells at *
    rw [List.flatMap_cons, List.getElem?_append_right (by rw [encL_len]; omega), encL_len, ← ih]
    congr 1
    omega
theorem labCells_at (l : List LabD) (j : Nat) (u : Value) (h : (labCells l)[j]? = some u) : ∃ x, l[j / 6]? = some x ∧ (encL x)[j % 6]? = some u := by
  have hj : j < l.length * 6 := by rw [← labCells_length]; exact (List.getElem?_eq_some_iff.1 h).1
  have hk : j / 6 < l.length := by omega
  refine ⟨l[j / 6], List.getElem?_eq_getElem hk, ?_⟩
  have := labCells_get l (j / 6) (j % 6) _ (List.getElem?_eq_getElem hk) (by omega)
  rw [show j / 6 * 6 + j % 6 = j by omega, h] at this
  exact this.symm
theorem labCells_one (l : List LabD) : ∀ u ∈ labCells l, u.oneCell' = true := by
  intro u hu
  obtain ⟨x, _, hx⟩ := List.mem_flatMap.1 hu
  exact encL_one x u hx

/-- An own row of labels, in the words of the sort. -/
theorem holds_of_own {w : World} {base g cap : Nat} {l : List LabD} (h : w.ownsRow base 47 6 (.slice (some ⟨g, 0, none⟩) l.length cap) l.length (labCells l)) : HoldsK encL 6 w g 0 l.toArray := by
  obtain ⟨_, ⟨h0, _⟩ | ⟨g', cap', cur, hv, hb, hc, h1, h2, h3, h4⟩⟩ := h
  · cases h0
  · obtain ⟨rfl, rfl⟩ : g = g' ∧ cap = cap' := by injection hv with a b c; injection a with a; injection a with a; exact ⟨a, c⟩
    intro j hj
    rw [size_flatK, List.size_toArray] at hj
    have e1 : (flatK encL 6 l.toArray)[j]! = (encL l.toArray[j / 6]!)[j % 6]! := get_flatK _ _ _ _ (by simpa using hj)
    have hk : j / 6 < l.length := by omega
    have hj2 : cur[j]? = some (encL l[j / 6])[j % 6]! := by
      have a := labCells_get l (j / 6) (j % 6) l[j / 6] (List.getElem?_eq_getElem hk) (by omega)
      rw [show j / 6 * 6 + j % 6 = j by omega, ← h4, List.getElem?_take, if_pos (by omega), Array.getElem?_toList] at a
      rw [a, List.getElem?_eq_getElem (by rw [encL_len]; omega), getElem!_pos _ _ (by rw [encL_len]; omega)]
    have e2 : l.toArray[j / 6]! = l[j / 6] := by rw [getElem!_pos _ _ (by simpa using hk)]; simp
    refine ⟨?_, by simp [World.frozen?, hc]⟩
    rw [e1, e2]
    simp only [World.cell?, hc, Nat.zero_add, Option.isSome_none, Bool.false_eq_true, if_false, id]
    exact hj2

theorem row_of_holds {w : World} {g n cap : Nat} {d : Array LabD} (hn : n = d.size) (h : HoldsK encL 6 w g 0 d) : LabRow w (.slice (some ⟨g, 0, none⟩) n cap) d.toList := by
  refine ⟨some ⟨g, 0, none⟩, cap, by rw [hn]; simp, fun _ => ⟨g, 0, rfl, fun k x hx i u hu => ?_⟩⟩
  have hk : k < d.size := by have := (List.getElem?_eq_some_iff.1 hx).1; simpa using this
  have e : d[k]! = x := by
    rw [getElem!_pos d k hk]
    rw [Array.getElem?_toList, Array.getElem?_eq_getElem hk] at hx
    exact Option.some.inj hx
  have := HoldsK.cells h encL_len hk i u (by rw [e]; exact hu)
  rw [Addr.add_lit] at this
  exact this

theorem cell_sortWorld {w : World} {b blk off m : Nat} {d : Array LabD} {os : Array Obj} {v : Value} (h : w.cell? ⟨b, 0, none⟩ = some v) (hne : b ≠ blk) : (sortWorldK encL 6 w blk off m d os).cell? ⟨b, 0, none⟩ = some v := by
  have hb := lt_of_cell h
  unfold sortWorldK
  rw [cell?_grow _ _ _ (by rw [size_putRowK]; exact hb), cell?_putRowK_other encL 6 _ blk off d _ hne]
  exact h
theorem below_sortWorld {w : World} {B blk off m : Nat} {d : Array LabD} {os : Array Obj} (hB : B ≤ blk) (hw : B ≤ w.heap.size) : Below B w (sortWorldK encL 6 w blk off m d os) := by
  refine ⟨rfl, rfl, rfl, ?_, fun k hk => ?_⟩
  · unfold sortWorldK
    rw [size_grow, size_putRowK]
    show w.heap.size ≤ w.heap.size + _
    omega
  · show ((w.heap.modify blk _) ++ os)[k]? = _
    rw [Array.getElem?_append_left (by rw [Array.size_modify]; omega), Array.getElem?_modify, if_neg (by omega)]

theorem infoLabel : (Tryz.prog.info? 47).map (fun i => (i.zero, i.size, i.bytes)) = some (some (.agg #[.string ⟨#[]⟩, .int .i64 0, .int .i64 0, .int .i64 0, .int .i64 0, .int .i64 0]), 6, 56) := by kernel_rfl

theorem grown_own {W w1 : World} {n₀ : Nat} {e : TypeId} {size : Nat} {v : Value} {k : Nat} {xs : List Value}
    (hrow : W.ownsRow n₀ e size v k xs) (hn₀ : n₀ ≤ W.heap.size) (hgrow : W.grownBy w1 v.ownBlock) : Below n₀ W w1 := by
  refine (Below.refl n₀ W).grown hgrow hn₀ fun j ej => ?_
  rcases hrow.2 with ⟨rfl, _⟩ | ⟨g, cap, cur, rfl, hb, _, _⟩
  · simp [Value.ownBlock] at ej
  · obtain rfl : g = j := by simpa [Value.ownBlock] using ej
    exact hb

set_option maxRecDepth 100000 in
set_option maxHeartbeats 1000000 in
theorem clone_any (v : Value) (l : List LabD) (w : World) (hl : l.length ≤ 40) (hv : LabRow w v l) :
    Calls Tryz.prog 88 #[v] w fun e w' => ∃ v', e = .returned v' ∧ w'.ownsRow w.heap.size 47 6 v' l.length (labCells l) ∧ Below w.heap.size w w' := by
  obtain ⟨a, cap, rfl, hc⟩ := hv
  obtain ⟨i0, hi, hi0, hi1, hi2⟩ := info_parts infoLabel
  have q22 : ∀ (w : World) (a : Option Addr) (n c n' c' : Nat), (binOp .eql 22 (.slice a n c) (.slice none n' c')).run Tryz.prog w = .ok (.bool a.isNone) w := fun w a n c n' c' => Lib.run_eql_slice_nil w _ _ a n c n' c' Tryz.underlying22
  cases a with
  | none =>
    have h0 : l.length = 0 := by
      rcases Nat.eq_zero_or_pos l.length with h | h
      · exact h
      · obtain ⟨b, off, h1, _⟩ := hc h; cases h1
    have hl0 : l = [] := List.length_eq_zero_iff.1 h0
    subst hl0
    clear hc
    go_enter Tryz.func88, Tryz.ntmps88
    go_wp2
    go_ret
    exact ⟨_, rfl, ⟨rfl, Or.inl ⟨rfl, rfl⟩⟩, Below.refl _ _⟩
  | some ad =>
    have HC : Aside (∀ (W : World), Below w.heap.size w W → ∀ j u, (labCells l)[j]? = some u → W.cell? (ad.add j) = some u) := fun W hb j u hj => by
      have hlen : 0 < l.length := by
        have := (List.getElem?_eq_some_iff.1 hj).1
        rw [labCells_length] at this; omega
      obtain ⟨b, off, h1, h2⟩ := hc hlen
      injection h1 with h1
      subst h1
      obtain ⟨x, hx, hu⟩ := labCells_at l j u hj
      rw [Addr.add_lit]
      have := cell_later hb (h2 _ x hx _ u hu)
      rw [show off + j / 6 * 6 + j % 6 = off + j by omega] at this
      exact this
    have HL := Lib.hid (labCells_length l)
    have H1 := Lib.hid (labCells_one l)
    clear hc
    generalize labCells l = news at HC HL H1 ⊢
    generalize l.length = n at hl HL ⊢
    go_enter Tryz.func88, Tryz.ntmps88
    go_wp2_with (at_builtin; refine wpList_append_own _ rfl _ _ 22 rfl w.heap.size 47 i0 (.agg #[.string ⟨#[]⟩, .int .i64 0, .int .i64 0, .int .i64 0, .int .i64 0, .int .i64 0]) 6 56 Tryz.underlying22 hi hi0 hi1 hi2 rfl (by decide) _ _ _ rfl (World.ownsRow_made w #[] 0 (Nat.le_refl _) (Nat.zero_le _) rfl) ad n cap news rfl HL.out (HC.out _ (by repeat' (first | exact Below.refl _ _ | refine Below.drew ?_ | refine Below.drewN' ?_ | refine Below.setCell ?_ (by first | omega | (simp; done) | exact Below.size (by assumption) | (simp; omega)) _ | refine Below.alloc ?_ (by first | omega | (simp; done) | exact Below.size (by assumption) | (simp; omega)) _ | refine Below.trans ?_ (Below.mono (by assumption) ?_) | (first | omega | (simp; done) | exact Below.size (by assumption) | (simp; omega))))) H1.out (by unfold maxLen; omega) (by omega) (by simp) ?_; intro v' w2 hown hgrow _)
    have hg2 : (w.alloc (.cells #[] 47)).grownBy w2 (some w.heap.size) := hgrow
    clear hgrow
    go_ret
    exact ⟨v', rfl, by simpa using hown, ((Below.refl _ w).alloc (Nat.le_refl _) _).grown hg2 (by simp) (by intro k hk; injection hk; omega)⟩

theorem insNone_any (p : Option Addr) (cap : Nat) (fv : Value) (w : World) :
    Calls Tryz.prog 131 #[.slice p 0 cap, .int .i64 0, .int .i64 0, fv] w fun e w' => e = .returned (.tuple #[]) ∧ w' = w := by
  go_enter Tryz.func131, Tryz.ntmps131
  go_wp2
  refine wp_loop_rounds 1 ?_
  rw [rounds_succ]
  go_wp2
  go_end0
  exact ⟨rfl, rfl⟩
theorem stableNone_any (p : Option Addr) (cap : Nat) (fv : Value) (w : World) :
    Calls Tryz.prog 111 #[.slice p 0 cap, .int .i64 0, fv] w fun e w' => e = .returned (.tuple #[]) ∧ w' = w := by
  have I := insNone_any p cap fv
  go_enter Tryz.func111, Tryz.ntmps111
  go_wp2
  refine wp_loop_rounds 1 ?_
  rw [rounds_succ]
  go_wp2_with (go_at_call 131; refine (I _).mono ?_; rintro e' w' ⟨rfl, rfl⟩)
  refine wp_loop_rounds 1 ?_
  rw [rounds_succ]
  go_wp2
  go_end0
  exact ⟨rfl, rfl⟩
theorem sortNone_any (p : Option Addr) (cap : Nat) (fv : Value) (w : World) :
    Calls Tryz.prog 89 #[.slice p 0 cap, fv] w fun e w' => e = .returned (.tuple #[]) ∧ w' = w := by
  have I := stableNone_any p cap fv
  go_enter Tryz.func89, Tryz.ntmps89
  go_wp2_with (go_at_call 111; refine (I _).mono ?_; rintro e' w' ⟨rfl, rfl⟩)
  go_end0
  exact ⟨rfl, rfl⟩

/-- The sort's call, of an own row. -/
theorem sortOwn_any (v : Value) (l : List LabD) (Bk base : Nat) (w : World) (hl : l.length ≤ 40) (hown : w.ownsRow base 47 6 v l.length (labCells l)) (hk : w.cell? ⟨Bk, 0, none⟩ = some (.func (.func 60) #[] #[])) (hb : Bk < base) (hbw : base ≤ w.heap.size) :
    Calls Tryz.prog 89 #[v, .func (.func 90) #[] #[.pointer (some ⟨Bk, 0, none⟩)]] w fun e w' => e = .returned (.tuple #[]) ∧ LabRow w' v (isort (ltOf cfL) l) ∧ Below base w w' := by
  rcases hown.2 with ⟨rfl, h0⟩ | ⟨g, cap, cur0, rfl, hg, hc0, _⟩
  · have hl0 : l = [] := List.length_eq_zero_iff.1 h0
    subst hl0
    refine (sortNone_any none 0 _ w).mono ?_
    rintro e w' ⟨rfl, rfl⟩
    exact ⟨rfl, ⟨none, 0, rfl, fun h => by simp [isort] at h⟩, Below.refl _ _⟩
  · have hH := holds_of_own hown
    have hgz : g < w.heap.size := lt_of_block hc0
    have eg : ∀ args w, (callFunc 90 args).run Tryz.prog w = .ok (.enter 90 args) w := enters_of Tryz.func90 (by kernel_rfl) rfl
    have hcmp : CmpLays Tryz.prog 90 #[.pointer (some ⟨Bk, 0, none⟩)] encL 6 cfL g 0 l.toArray.size w := fun m os dk _ x y => cmpL_any x y Bk _ (cell_sortWorld hk (by omega))
    have := sortStable_any cfL 90 #[.pointer (some ⟨Bk, 0, none⟩)] g 0 cap l.toArray w eg hcmp ⟨encL_len, encL_one, hH, hgz⟩ (by simpa using hl)
    rw [List.size_toArray] at this
    refine this.mono ?_
    rintro e w' ⟨rfl, hS⟩
    have hst := stable40_list (ltOf cfL) swoL l.toArray
    have hsz : (stable40 (ltOf cfL) l.toArray).size = l.toArray.size := by
      have := congrArg List.length hst
      rw [isort_length] at this
      simpa using this
    have hH2 := hS.holds hgz hH hsz
    refine ⟨rfl, ?_, ?_⟩
    · have := row_of_holds (n := l.length) (cap := cap) (by rw [hsz]; simp) hH2
      rw [hst] at this
      simpa using this
    · obtain ⟨m, os, rfl⟩ := hS
      exact below_sortWorld hg hbw

set_option maxHeartbeats 1000000 in
theorem ordered_any (v : Value) (l : List LabD) (w : World) (hl : l.length ≤ 40) (hv : LabRow w v l) :
    Calls Tryz.prog 59 #[v, .func (.func 60) #[] #[]] w fun e w' => ∃ v', e = .returned v' ∧ LabRow w' v' (isort (ltOf cfL) l) ∧ Below w.heap.size w w' := by
  have C := Lib.hid (fun w' hb => clone_any v l w' hl (hv.later (w' := w') hb))
  have S := Lib.hid (fun v' Bk base w' h1 h2 h3 h4 => sortOwn_any v' l Bk base w' hl h1 h2 h3 h4)
  clear hv
  go_enter Tryz.func59, Tryz.ntmps59
  go_wp2_with fail
  have B1 : Below w.heap.size w (w.alloc (.cells #[.func (.func 60) #[] #[]] 98)) := (Below.refl _ w).alloc (Nat.le_refl _) _
  have HO := row_new w (.cells #[.func (.func 60) #[] #[]] 98)
  generalize hw1 : w.alloc (.cells #[.func (.func 60) #[] #[]] 98) = w1
  rw [hw1] at B1 HO
  clear hw1
  have hz1 := lt_of_block HO
  refine (C.out _ B1).mono ?_
  rintro e w2 ⟨v2, rfl, hown, hb2⟩
  have HO2 := row_later hb2 HO
  have B2 := below_step B1 (Nat.le_refl _) hb2
  have HOWN := Lib.hid hown
  clear hown HO
  have pz := lt_of_block HO2
  have p0 := cell_of_row w2 _ 0 _ _ _ HO2
  simp only [List.getElem?_toArray, List.getElem?_cons_zero] at p0
  have HO2' := Lib.hid HO2
  clear HO2
  go_wp2_with fail
  refine (S.out v2 w.heap.size w1.heap.size w2 HOWN.out p0 hz1 hb2.size).mono ?_
  rintro e w3 ⟨rfl, hL, hb3⟩
  have B3 := B2.trans (hb3.mono (Nat.le_of_lt hz1))
  have HL := Lib.hid hL
  clear hL
  go_wp2
  go_ret
  exact ⟨v2, rfl, HL.out, B3⟩

theorem sorted_any (v : Value) (l : List LabD) (w : World) (hl : l.length ≤ 40) (hv : LabRow w v l) :
    Calls Tryz.prog 36 #[v] w fun e w' => ∃ v', e = .returned v' ∧ LabRow w' v' (isort (ltOf cfL) l) ∧ Below w.heap.size w w' := by
  have C := Lib.hid (ordered_any v l w hl hv)
  clear hv
  go_enter Tryz.func36, Tryz.ntmps36
  go_wp2_with fail
  refine C.out.mono ?_
  rintro e w2 ⟨v2, rfl, hL, hb2⟩
  have HL := Lib.hid hL
  clear hL
  go_wp2
  go_ret
  exact ⟨v2, rfl, HL.out, hb2⟩
end Go.Proofs.YtapllmniplgajaaGreatDoor
