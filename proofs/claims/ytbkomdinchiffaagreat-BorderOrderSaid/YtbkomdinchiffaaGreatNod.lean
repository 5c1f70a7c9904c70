/- Names in order; the places of objects; nodes. -/
import Derived.Test.YtbkomdinchiffaaGreatAtlV
import Derived.Test.YtbkomdinchiffaaGreatKitGen
import Derived.Sort.Walk0
import Derived.Sort.LotA
namespace Go.Proofs.YtbkomdinchiffaaGreat
open Go.RowKit Go.Sort

theorem bytes_total : ∀ (a b : List UInt8), Op.bytesLess a b = false → Op.bytesLess b a = false → a = b
  | [], [], _, _ => rfl
  | [], _ :: _, h, _ => by simp [Op.bytesLess] at h
  | _ :: _, [], _, h => by simp [Op.bytesLess] at h
  | x :: a, y :: b, h1, h2 => by
    simp only [Op.bytesLess] at h1 h2
    by_cases hxy : x = y
    · subst hxy
      simp at h1 h2
      rw [bytes_total a b h1 h2]
    · have hlt : x < y ∨ y < x := by
        rcases Nat.lt_trichotomy x.toNat y.toNat with h | h | h
        · exact Or.inl h
        · exact absurd (UInt8.toNat_inj.1 h) hxy
        · exact Or.inr h
      rcases hlt with h | h <;> simp_all
theorem ltB_total {a b : ByteArray} (h1 : ltB a b = false) (h2 : ltB b a = false) : a = b := by
  have := bytes_total a.toList b.toList h1 h2
  rw [ByteArray.toList_eq, ByteArray.toList_eq] at this
  exact ByteArray.ext (Array.toList_inj.mp this)
theorem ltB_eq (a b : ByteArray) : ltB a b = ltStr a.toList b.toList := bytesLess_eq _ _
/-- How two texts compare. -/
def cmpS (a b : ByteArray) : Int := if ltB a b then -1 else if ltB b a then 1 else 0
theorem compL : ∀ (x y : List UInt8), (Lib.compareBytes x y < 0 ↔ x < y) ∧ (Lib.compareBytes x y = 0 ↔ x = y)
  | [], [] => by simp [Lib.compareBytes]
  | [], _ :: _ => by simp [Lib.compareBytes]
  | _ :: _, [] => by simp [Lib.compareBytes]
  | a :: x, b :: y => by
    have ih := compL x y
    simp only [Lib.compareBytes, List.cons_lt_cons_iff, List.cons.injEq]
    rcases Nat.lt_trichotomy a.toNat b.toNat with h | h | h
    · have h1 : a < b := UInt8.lt_iff_toNat_lt.2 h
      have h3 : ¬ a = b := fun e => by subst e; omega
      simp [h1, h3]
    · have e : a = b := UInt8.toNat_inj.1 h
      subst e
      have h2 : ¬ a < a := fun e => by have := UInt8.lt_iff_toNat_lt.1 e; omega
      simp [h2, ih]
    · have h1 : b < a := UInt8.lt_iff_toNat_lt.2 h
      have h2 : ¬ a < b := fun e => by have := UInt8.lt_iff_toNat_lt.1 e; omega
      have h3 : ¬ a = b := fun e => by subst e; omega
      simp [h1, h2, h3]
theorem comp_lt (a b : ByteArray) : (Lib.compareBytes a.data.toList b.data.toList < 0) ↔ ltB a b = true := by
  rw [(compL _ _).1, ltB_eq, Sort.ltStr, decide_eq_true_eq, ByteArray.toList_eq, ByteArray.toList_eq]
theorem comp_eq (a b : ByteArray) : (Lib.compareBytes a.data.toList b.data.toList = 0) ↔ a = b := by
  rw [(compL _ _).2]
  exact ⟨fun h => ByteArray.ext (Array.toList_inj.mp h), fun h => by rw [h]⟩

/-- The place of the object with a name. -/
def posO (id : ByteArray) : List ObjD → Option Nat
  | [] => none
  | o :: l => if o.id = id then some 0 else (posO id l).map (· + 1)
theorem posO_some (id : ByteArray) : ∀ (l : List ObjD) (i : Nat), posO id l = some i → ∃ o, l[i]? = some o ∧ o.id = id
  | [], i, h => by cases h
  | o :: l, i, h => by
    rw [posO] at h
    split at h
    · rename_i e; injection h with h; subst h; exact ⟨o, rfl, e⟩
    · cases hp : posO id l with
      | none => rw [hp] at h; cases h
      | some j =>
        rw [hp] at h
        simp only [Option.map_some] at h
        injection h with h
        subst h
        simpa using posO_some id l j hp
theorem posO_none (id : ByteArray) : ∀ (l : List ObjD), posO id l = none → ∀ o ∈ l, o.id ≠ id
  | [], _, o, ho => by cases ho
  | x :: l, h, o, ho => by
    rw [posO] at h
    split at h
    · cases h
    · rename_i e
      cases hp : posO id l with
      | some j => rw [hp] at h; cases h
      | none =>
        rcases List.mem_cons.1 ho with rfl | ho
        · exact e
        · exact posO_none id l hp o ho
theorem ltB_trans {a b c : ByteArray} (h1 : ltB a b = true) (h2 : ltB b c = true) : ltB a c = true := by rw [ltB_eq] at *; exact Sort.swo_ltStr.trans _ _ _ h1 h2
theorem ltB_irrefl (a : ByteArray) : ltB a a = false := by rw [ltB_eq]; exact Sort.swo_ltStr.irrefl _
/-- The names of a valid map are in strictly increasing order. -/
theorem objs_sorted : ∀ (l : List ObjD) (last : ByteArray), objsFrom last l = true → (∀ o ∈ l, ltB last o.id = true) ∧ ∀ (i j : Nat) (x y : ObjD), i < j → l[i]? = some x → l[j]? = some y → ltB x.id y.id = true
  | [], _, _ => ⟨fun o h => (by cases h), fun i j x y _ h _ => (by simp at h)⟩
  | o :: l, last, h => by
    simp only [objsFrom, Bool.and_eq_true] at h
    obtain ⟨⟨_, h1⟩, h2⟩ := h
    obtain ⟨ha, hb⟩ := objs_sorted l o.id h2
    refine ⟨fun x hx => ?_, fun i j x y hij hx hy => ?_⟩
    · rcases List.mem_cons.1 hx with rfl | hx
      · exact h1
      · exact ltB_trans h1 (ha x hx)
    · cases j with
      | zero => omega
      | succ j =>
        have hy' : l[j]? = some y := by simpa using hy
        cases i with
        | zero =>
          have : o = x := by simpa using hx
          subst this
          exact ha y (List.mem_of_getElem? hy')
        | succ i => exact hb i j x y (by omega) (by simpa using hx) hy'

theorem bin_found {l : List ObjD} (hs : ∀ (i j : Nat) (x y : ObjD), i < j → l[i]? = some x → l[j]? = some y → ltB x.id y.id = true) {id : ByteArray} {lo : Nat} (h1 : ∀ t o, t < lo → l[t]? = some o → ltB o.id id = true) (h2 : ∀ t o, lo ≤ t → l[t]? = some o → ltB o.id id = false) :
    (∀ o, l[lo]? = some o → o.id = id → posO id l = some lo) ∧ (∀ j, posO id l = some j → j = lo ∧ ∃ o, l[lo]? = some o ∧ o.id = id) := by
  have hb : ∀ j, posO id l = some j → j = lo ∧ ∃ o, l[lo]? = some o ∧ o.id = id := by
    intro j hj
    obtain ⟨o, ho, e⟩ := posO_some id l j hj
    have hge : lo ≤ j := by
      rcases Nat.lt_or_ge j lo with h | h
      · have := h1 j o h ho; rw [e, ltB_irrefl] at this; cases this
      · exact h
    rcases Nat.lt_or_eq_of_le hge with h | h
    · have hjl := (List.getElem?_eq_some_iff.1 ho).1
      have hlo : l[lo]? = some (l[lo]'(by omega)) := List.getElem?_eq_getElem _
      have a := hs lo j _ o h hlo ho
      have b := h2 lo _ (Nat.le_refl _) hlo
      rw [e] at a; rw [a] at b; cases b
    · subst h; exact ⟨rfl, o, ho, e⟩
  refine ⟨fun o ho e => ?_, hb⟩
  cases hp : posO id l with
  | none => exact absurd e (posO_none id l hp o (List.mem_of_getElem? ho))
  | some j => rw [(hb j hp).1]

/-- The point of the node with a name. -/
def nodeAt (l : List ObjD) (r : ByteArray) : Option (Int × Int) :=
  match posO r l with
  | some k => match l[k]? with
    | some o => if o.kind = 1 then some (o.x, o.y) else none
    | none => none
  | none => none
theorem refs_bad (l : List ObjD) (refs : List ByteArray) (k : Nat) (r : ByteArray) (hr : refs[k]? = some r) (hp : nodeAt l r = none) : refs.all (fun r => (nodeAt l r).isSome) = false := by
  rw [List.all_eq_false]
  exact ⟨r, List.mem_of_getElem? hr, by simp [hp]⟩

theorem objs_ok : ∀ (l : List ObjD) (last : ByteArray), objsFrom last l = true → ∀ o ∈ l, objOK o = true
  | [], _, _, o, ho => by cases ho
  | x :: l, last, h, o, ho => by
    simp only [objsFrom, Bool.and_eq_true] at h
    rcases List.mem_cons.1 ho with rfl | ho
    · exact h.1.1
    · exact objs_ok l x.id h.2 o ho
theorem map_obj {l : List ObjD} (h : mapOK l = true) {o : ObjD} (ho : o ∈ l) : objOK o = true := by
  simp only [mapOK, Bool.and_eq_true] at h
  exact objs_ok l _ h.2 o ho
theorem obj_refs {o : ObjD} (h : objOK o = true) : o.refs.length ≤ 2000 := by
  simp only [objOK, Bool.and_eq_true, decide_eq_true_eq] at h
  exact h.1.1.2
theorem nodeAt_none (l : List ObjD) (r : ByteArray) (h : posO r l = none) : nodeAt l r = none := by unfold nodeAt; rw [h]
theorem nodeAt_some (l : List ObjD) (r : ByteArray) (k : Nat) (h : posO r l = some k) (o : ObjD) (ho : l[k]? = some o) : nodeAt l r = if o.kind = 1 then some (o.x, o.y) else none := by unfold nodeAt; rw [h]; simp only [ho]

theorem mapOK_sorted {l : List ObjD} (h : mapOK l = true) : l.length ≤ 1000000 ∧ ∀ (i j : Nat) (x y : ObjD), i < j → l[i]? = some x → l[j]? = some y → ltB x.id y.id = true := by
  simp only [mapOK, Bool.and_eq_true, decide_eq_true_eq] at h
  exact ⟨h.1, (objs_sorted l _ h.2).2⟩

/-- The index of the object with a name, -1 if there is none. -/
def idxO (id : ByteArray) (l : List ObjD) : Int := match posO id l with
  | some i => i
  | none => -1
theorem pos_at (id : ByteArray) : ∀ (l : List ObjD) (k : Nat) (o : ObjD), l[k]? = some o → (∀ (j : Nat) (y : ObjD), j < k → l[j]? = some y → y.id ≠ id) → o.id = id → posO id l = some k
  | x :: l, 0, o, hk, _, he => by
    have : x = o := by simpa using hk
    subst this
    rw [posO, if_pos he]
  | x :: l, k + 1, o, hk, hn, he => by
    have h0 : x.id ≠ id := hn 0 x (by omega) rfl
    rw [posO, if_neg h0, pos_at id l k o (by simpa using hk) (fun j y hj hy => hn (j + 1) y (by omega) (by simpa using hy)) he]; rfl
theorem pos_no (id : ByteArray) : ∀ (l : List ObjD), (∀ (j : Nat) (y : ObjD), l[j]? = some y → y.id ≠ id) → posO id l = none
  | [], _ => rfl
  | x :: l, hn => by
    rw [posO, if_neg (hn 0 x rfl), pos_no id l (fun j y hy => hn (j + 1) y (by simpa using hy))]; rfl
theorem pos_self {l : List ObjD} (h : mapOK l = true) {k : Nat} {o : ObjD} (ho : l[k]? = some o) : posO o.id l = some k := by
  refine pos_at o.id l k o ho (fun j y hj hy => ?_) rfl
  intro e
  have h2 : objsFrom ⟨#[]⟩ l = true := by
    unfold mapOK at h; rw [Bool.and_eq_true] at h; exact h.2
  have := (objs_sorted l _ h2).2 j k y o hj hy ho
  rw [e, ltB_irrefl] at this
  cases this
/-- All references of an object lead to nodes. -/
def soundB (l : List ObjD) (o : ObjD) : Bool := o.refs.all fun r => (nodeAt l r).isSome
theorem node_refs {o : ObjD} (h : objOK o = true) (hk : o.kind = 1) : o.refs = [] := by
  simp only [objOK, Bool.and_eq_true] at h
  have h2 := h.2
  rw [if_pos hk, Bool.and_eq_true, decide_eq_true_eq] at h2
  exact List.length_eq_zero_iff.1 h2.1
theorem refs_upto (l : List ObjD) (refs : List ByteArray) (k : Nat) (r : ByteArray) (hr : refs[k]? = some r) (h : ∀ s ∈ refs.take k, (nodeAt l s).isSome = true) (hp : (nodeAt l r).isSome = true) : ∀ s ∈ refs.take (k + 1), (nodeAt l s).isSome = true := by
  obtain ⟨hk, rfl⟩ := List.getElem?_eq_some_iff.1 hr
  rw [List.take_succ_eq_append_getElem hk]
  intro s hs
  rcases List.mem_append.1 hs with hs | hs
  · exact h s hs
  · rw [List.mem_singleton.1 hs]; exact hp

theorem StrRow.of_block {w : World} {g cap : Nat} {t : TypeId} {l : List ByteArray} {cs : Array Value} (hcs : cs = (l.map Value.string).toArray) (h : w.heap[g]? = some (.cells cs t)) (hl : l.length ≤ 140737488355328) (hz : ∀ s ∈ l, s.size ≤ 140737488355328) (n : Nat) (hn : n = l.length) : StrRow w (.slice (some ⟨g, 0, none⟩) n cap) l := by
  subst hn hcs
  refine ⟨some ⟨g, 0, none⟩, cap, rfl, hl, hz, fun _ => ⟨g, 0, rfl, fun i s hs => ?_⟩⟩
  have := cell_of_row w _ i _ _ _ h
  rw [Nat.zero_add, this, List.getElem?_toArray, List.getElem?_map, hs]; rfl
theorem StrRow.nil (w : World) : StrRow w (.slice none 0 0) [] := ⟨none, 0, rfl, by simp, by simp, fun h => by simp at h⟩
theorem TagRow.nil (w : World) : TagRow w (.slice none 0 0) [] := ⟨none, 0, rfl, by simp, by simp, fun h => by simp at h⟩

theorem TagRow.of_block {w : World} {g cap : Nat} {t : TypeId} {l : List TagD} {cs : Array Value} (hcs : cs = (l.flatMap fun t => [Value.string t.key, Value.string t.val]).toArray) (h : w.heap[g]? = some (.cells cs t)) (hl : l.length ≤ 140737488355328) (hz : ∀ t ∈ l, t.key.size ≤ 140737488355328 ∧ t.val.size ≤ 140737488355328) (n : Nat) (hn : n = l.length) : TagRow w (.slice (some ⟨g, 0, none⟩) n cap) l := by
  subst hn hcs
  refine ⟨some ⟨g, 0, none⟩, cap, rfl, hl, hz, fun _ => ⟨g, 0, rfl, fun i s hs => ?_⟩⟩
  have c0 := cell_of_row w _ (i * 2) _ _ _ h
  have c1 := cell_of_row w _ (i * 2 + 1) _ _ _ h
  have f0 := flat_get (fun t : TagD => [Value.string t.key, Value.string t.val]) 2 (fun _ => rfl) l i 0 s hs (by omega)
  have f1 := flat_get (fun t : TagD => [Value.string t.key, Value.string t.val]) 2 (fun _ => rfl) l i 1 s hs (by omega)
  rw [Nat.zero_add]
  rw [List.getElem?_toArray] at c0 c1
  exact ⟨c0.trans f0, c1.trans f1⟩
def lastO (l : List ObjD) : Nat → ByteArray
  | 0 => ⟨#[]⟩
  | m + 1 => ((l[m]?).map (·.id)).getD ⟨#[]⟩
theorem obj_name {o : ObjD} (h : objOK o = true) : nameB o.id = true := by
  simp only [objOK, Bool.and_eq_true, decide_eq_true_eq] at h
  exact h.1.1.1.1.1.2
end Go.Proofs.YtbkomdinchiffaaGreat
