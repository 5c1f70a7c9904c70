/- append of a slice that may be nil. Parts of a row as the source of an append. -/
import Derived.Test.YtbkomdinchiffaaGreatKitGen
import Derived.Laws.AppendOwn
import Derived.Laws.OwnMore
namespace Go.Proofs.YtbkomdinchiffaaGreat
open Go.RowKit

theorem grown_own {W w1 : World} {n₀ : Nat} {e : TypeId} {size : Nat} {v : Value} {k : Nat} {xs : List Value}
    (hrow : W.ownsRow n₀ e size v k xs) (hn₀ : n₀ ≤ W.heap.size) (hgrow : W.grownBy w1 v.ownBlock) : Below n₀ W w1 := by
  refine (Below.refl n₀ W).grown hgrow hn₀ fun j ej => ?_
  rcases hrow.2 with ⟨rfl, _⟩ | ⟨g, cap, cur, rfl, hb, _, _⟩
  · simp [Value.ownBlock] at ej
  · obtain rfl : g = j := by simpa [Value.ownBlock] using ej
    exact hb

/-- A slice whose cells are read by an append; it may be nil. -/
def SrcRow (w : World) (x : Value) (m : Nat) (news : List Value) : Prop :=
  ∃ (ao : Option Addr) (c : Nat), x = .slice ao m c ∧ (m = 0 ∨ ∃ a, ao = some a ∧ ∀ j u, news[j]? = some u → w.cell? (a.add j) = some u)
theorem run_append_src {P : Program} (w : World) (base : Nat) (t ty e : TypeId) (i : TypeInfo) (z : Value) (size bytes : Nat) (ht : P.underlying t = some (.slice e)) (hi : P.info? e = some i) (hz : i.zero = some z)
    (hsize : i.size = size) (hby : i.bytes = bytes) (hzs : z.cells.size = size) (hsz : 0 < size)
    (v : Value) (n : Nat) (xs : List Value) (hown : w.ownsRow base e size v n xs)
    (x : Value) (m : Nat) (news : List Value) (hx : SrcRow w x m news) (hl : news.length = m * size) (h1 : ∀ u ∈ news, u.oneCell' = true)
    (h63 : n + m ≤ maxLen) (hbytes : (n + m) * bytes ≤ 140737488355328) (hbase : base ≤ w.heap.size) :
    ∃ v' w', (Builtin.append_ #[t, t] ty #[v, x]).run P w = .ok v' w' ∧ w'.ownsRow base e size v' (n + m) (xs ++ news) ∧ w.grownBy w' v.ownBlock := by
  obtain ⟨ao, c, rfl, hc⟩ := hx
  cases ao with
  | some a =>
    have hnews : ∀ j u, news[j]? = some u → w.cell? (a.add j) = some u := by
      rcases hc with h0 | ⟨a', ha, hcells⟩
      · subst h0
        have : news = [] := List.length_eq_zero_iff.1 (by rw [hl, Nat.zero_mul])
        subst this
        intro j u h; simp at h
      · cases ha; exact hcells
    obtain ⟨v', w', hr, h2, h3, _⟩ := run_append_own (P := P) w base t ty e i z size bytes ht hi hz hsize hby hzs hsz v n xs hown a m c news hl hnews h1 h63 hbytes hbase
    exact ⟨v', w', hr, h2, h3⟩
  | none =>
    have h0 : m = 0 := by
      rcases hc with h0 | ⟨a', ha, _⟩
      · exact h0
      · cases ha
    subst h0
    have hnil : news = [] := List.length_eq_zero_iff.1 (by rw [hl, Nat.zero_mul])
    subst hnil
    have hg : ∀ row, w.grownBy w row := fun row => ⟨rfl, rfl, rfl, Nat.le_refl _, fun _ _ _ => rfl⟩
    have hown0 := hown
    rcases hown.2 with ⟨rfl, rfl⟩ | ⟨g, cap, cur, rfl, hb, hg', hn, hm, hcs, htk⟩
    · refine ⟨_, w, ?_, by simpa using hown0, hg _⟩
      simp [Builtin.append_, run_underlying ht, sizeOf, typeInfo, hi, Builtin.lenOf, Builtin.firstCells]
    · refine ⟨_, w, ?_, by simpa using hown0, hg _⟩
      simp [Builtin.append_, run_underlying ht, sizeOf, typeInfo, hi, Builtin.lenOf, Builtin.firstCells, hn, storeCells]
theorem wp_append_src {P : Program} (w : World) {o : Oper} {a : Act} {K : Act → World → Prop} {Q : Exit → Act → World → Prop} (s x : Operand) (t : TypeId)
    (ho : o.op = .call { callee := .builtin .append, args := #[s, x], argTypes := #[t, t] })
    (base : Nat) (e : TypeId) (i : TypeInfo) (z : Value) (size bytes : Nat) (ht : P.underlying t = some (.slice e)) (hi : P.info? e = some i) (hz : i.zero = some z)
    (hsize : i.size = size) (hby : i.bytes = bytes) (hzs : z.cells.size = size) (hsz : 0 < size)
    (v : Value) (n : Nat) (xs : List Value) (hs : a.eval s = v) (hown : w.ownsRow base e size v n xs)
    (m : Nat) (news : List Value) (hx : SrcRow w (a.eval x) m news) (hl : news.length = m * size) (h1 : ∀ u ∈ news, u.oneCell' = true)
    (h63 : n + m ≤ maxLen) (hbytes : (n + m) * bytes ≤ 140737488355328) (hbase : base ≤ w.heap.size)
    (h : ∀ v' w', w'.ownsRow base e size v' (n + m) (xs ++ news) → w.grownBy w' v.ownBlock → K (a.put o.dst v') w') : o.wp P a w K Q := by
  obtain ⟨v', w', hr, h2, h3⟩ := run_append_src (P := P) w base t o.type e i z size bytes ht hi hz hsize hby hzs hsz v n xs hown (a.eval x) m news hx hl h1 h63 hbytes hbase
  unfold Oper.wp execOp
  simp only [ho, resolve, invoke, builtin, Sem.run_bind, Sem.run_pure, Result.andThen_ok, List.map_toArray, List.map_cons, List.map_nil, hs, hr]
  exact h v' w' h2 h3
/-- The same, with what stood below the base handed on. -/
theorem wp_append_own_src {P : Program} (w : World) {o : Oper} {a : Act} {K : Act → World → Prop} {Q : Exit → Act → World → Prop} (s x : Operand) (t : TypeId)
    (ho : o.op = .call { callee := .builtin .append, args := #[s, x], argTypes := #[t, t] })
    (base : Nat) (e : TypeId) (i : TypeInfo) (z : Value) (size bytes : Nat) (ht : P.underlying t = some (.slice e)) (hi : P.info? e = some i) (hz : i.zero = some z)
    (hsize : i.size = size) (hby : i.bytes = bytes) (hzs : z.cells.size = size) (hsz : 0 < size)
    (v : Value) (n : Nat) (xs : List Value) (hs : a.eval s = v) (hown : w.ownsRow base e size v n xs)
    (m : Nat) (news : List Value) (hx : SrcRow w (a.eval x) m news) (hl : news.length = m * size) (h1 : ∀ u ∈ news, u.oneCell' = true)
    (h63 : n + m ≤ maxLen) (hbytes : (n + m) * bytes ≤ 140737488355328) (hbase : base ≤ w.heap.size)
    (h : ∀ v' w', w'.ownsRow base e size v' (n + m) (xs ++ news) → w.grownBy w' v.ownBlock → RowKit.Below base w w' → K (a.put o.dst v') w') : o.wp P a w K Q :=
  wp_append_src w s x t ho base e i z size bytes ht hi hz hsize hby hzs hsz v n xs hs hown m news hx hl h1 h63 hbytes hbase fun v' w' h2 h3 => h v' w' h2 h3 (grown_own hown hbase h3)
theorem own_base {w : World} {base base' size n : Nat} {e : TypeId} {v : Value} {xs : List Value} (h : w.ownsRow base e size v n xs) (hb : base' ≤ base) : w.ownsRow base' e size v n xs := by
  refine ⟨h.1, ?_⟩
  rcases h.2 with h0 | ⟨g, cap, cur, h1, h2, h3⟩
  · exact Or.inl h0
  · exact Or.inr ⟨g, cap, cur, h1, Nat.le_trans hb h2, h3⟩
theorem own_form {w : World} {base size n : Nat} {e : TypeId} {v : Value} {xs : List Value} (h : w.ownsRow base e size v n xs) : ∃ ao c, v = .slice ao n c := by
  rcases h.2 with ⟨rfl, rfl⟩ | ⟨g, cap, cur, rfl, _⟩
  · exact ⟨_, _, rfl⟩
  · exact ⟨_, _, rfl⟩
end Go.Proofs.YtbkomdinchiffaaGreat

namespace Go.Proofs.YtbkomdinchiffaaGreat
open Go.RowKit

section
variable {α : Type} {enc : α → List Value} {k : Nat}
theorem flat_at (hk : ∀ x, (enc x).length = k) (h0 : 0 < k) (l : List α) (j : Nat) (u : Value) (h : (l.flatMap enc)[j]? = some u) : ∃ x, l[j / k]? = some x ∧ (enc x)[j % k]? = some u := by
  have hl := (List.getElem?_eq_some_iff.1 h).1
  rw [flat_length enc k hk] at hl
  have hj : j / k < l.length := Nat.div_lt_of_lt_mul (by rw [Nat.mul_comm]; exact hl)
  have hx := List.getElem?_eq_getElem hj
  have := flat_get enc k hk l (j / k) (j % k) _ hx (Nat.mod_lt _ h0)
  rw [Nat.mul_comm, Nat.div_add_mod, h] at this
  exact ⟨_, hx, this.symm⟩
theorem flat_take' (hk : ∀ x, (enc x).length = k) (l : List α) (q : Nat) : (l.take q).flatMap enc = (l.flatMap enc).take (q * k) := by
  induction l generalizing q with
  | nil => simp
  | cons x l ih =>
    cases q with
    | zero => simp
    | succ q =>
      rw [List.take_succ_cons, List.flatMap_cons, List.flatMap_cons, ih, show (q + 1) * k = (enc x).length + q * k by rw [hk, Nat.add_mul]; omega, List.take_length_add_append]
/-- The cells of a row, one behind the other. -/
theorem row_src (hk : ∀ x, (enc x).length = k) (h0 : 0 < k) {w : World} {ao : Option Addr} {n c : Nat} {l : List α} (h : RowE enc k w (.slice ao n c) l) : SrcRow w (.slice ao n c) n (l.flatMap enc) := by
  obtain ⟨ao', cap', hv, hc⟩ := h
  injection hv with h1 h2 h3
  subst h1 h2 h3
  refine ⟨_, _, rfl, ?_⟩
  by_cases hl : l.length = 0
  · exact Or.inl hl
  · obtain ⟨b, off, ha, hcell⟩ := hc (by omega)
    refine Or.inr ⟨_, ha, fun j u hu => ?_⟩
    obtain ⟨x, hx, hxu⟩ := flat_at hk h0 l j u hu
    rw [Addr.add_lit]
    have := hcell (j / k) x hx (j % k) u hxu
    rw [Nat.add_assoc, Nat.mul_comm, Nat.div_add_mod] at this
    exact this
theorem src_take' (hk : ∀ x, (enc x).length = k) (h0 : 0 < k) {w : World} {ao : Option Addr} {n cap q : Nat} {l : List α} (h : RowE enc k w (.slice ao n cap) l) (hq : q ≤ n) (c : Nat) : SrcRow w (.slice ao q c) q ((l.take q).flatMap enc) := by
  obtain ⟨ao', cap', hv, hc⟩ := h
  injection hv with h1 h2 h3
  subst h1 h2 h3
  refine ⟨_, _, rfl, ?_⟩
  by_cases hl : q = 0
  · exact Or.inl hl
  · obtain ⟨b, off, ha, hcell⟩ := hc (by omega)
    refine Or.inr ⟨_, ha, fun j u hu => ?_⟩
    rw [flat_take' hk, List.getElem?_take] at hu
    split at hu
    · obtain ⟨x, hx, hxu⟩ := flat_at hk h0 l j u hu
      rw [Addr.add_lit]
      have := hcell (j / k) x hx (j % k) u hxu
      rw [Nat.add_assoc, Nat.mul_comm, Nat.div_add_mod] at this
      exact this
    · cases hu
theorem src_drop' (hk : ∀ x, (enc x).length = k) (h0 : 0 < k) {w : World} {ao : Option Addr} {n cap q : Nat} {l : List α} (h : RowE enc k w (.slice ao n cap) l) (hq : q ≤ n) (hcap : n ≤ cap) : SrcRow w (.slice (if cap = q then ao else ao.map (·.add (q * k))) (n - q) (cap - q)) (n - q) ((l.drop q).flatMap enc) := by
  obtain ⟨ao', cap', hv, hc⟩ := h
  injection hv with h1 h2 h3
  subst h1 h2 h3
  refine ⟨_, _, rfl, ?_⟩
  by_cases hl : l.length - q = 0
  · exact Or.inl hl
  · obtain ⟨b, off, ha, hcell⟩ := hc (by omega)
    have hne : cap ≠ q := by omega
    subst ha
    refine Or.inr ⟨⟨b, off + q * k, none⟩, by rw [if_neg hne]; simp [Addr.add_lit], fun j u hu => ?_⟩
    obtain ⟨x, hx, hxu⟩ := flat_at hk h0 (l.drop q) j u hu
    rw [List.getElem?_drop] at hx
    have := hcell (q + j / k) x hx (j % k) u hxu
    rw [Addr.add_lit]
    rw [Nat.add_mul, Nat.add_assoc, Nat.add_assoc, Nat.mul_comm (j / k), Nat.div_add_mod, ← Nat.add_assoc] at this
    exact this
/-- All elements of a list, laid as one block: a row of one's own. -/
theorem owns_lit (hk : ∀ x, (enc x).length = k) (w : World) {base : Nat} {e : TypeId} (l : List α) (hb : base ≤ w.heap.size) (hm : l.length ≤ maxLen) {cs : Array Value} (hcs : cs = (l.flatMap enc).toArray) (n : Nat) (hn : n = l.length) :
    (w.alloc (.cells cs e)).ownsRow base e k (.slice (some ⟨w.heap.size, 0, none⟩) n n) n (l.flatMap enc) := by
  subst hn hcs
  have hl := flat_length enc k hk l
  refine ⟨hl, Or.inr ⟨_, _, _, rfl, hb, row_new w _, Nat.le_refl _, hm, by simpa using hl, ?_⟩⟩
  show (l.flatMap enc).take _ = _
  exact List.take_of_length_le (by rw [hl]; exact Nat.le_refl _)
end
theorem wpList_append_src {P : Program} {ops : Array Oper} {rest : List Oper} {o : Oper} {a : Act} {Q : Exit → Act → World → Prop} {w : World} (hgd : o.guard = none) (s x : Operand) (t : TypeId)
    (ho : o.op = .call { callee := .builtin .append, args := #[s, x], argTypes := #[t, t] })
    (base : Nat) (e : TypeId) (i : TypeInfo) (z : Value) (size bytes : Nat) (ht : P.underlying t = some (.slice e)) (hi : P.info? e = some i) (hz : i.zero = some z)
    (hsize : i.size = size) (hby : i.bytes = bytes) (hzs : z.cells.size = size) (hsz : 0 < size)
    (v : Value) (n : Nat) (xs : List Value) (hs : a.eval s = v) (hown : w.ownsRow base e size v n xs)
    (m : Nat) (news : List Value) (hx : SrcRow w (a.eval x) m news) (hl : news.length = m * size) (h1 : ∀ u ∈ news, u.oneCell' = true)
    (h63 : n + m ≤ maxLen) (hbytes : (n + m) * bytes ≤ 140737488355328) (hbase : base ≤ w.heap.size)
    (h : ∀ v' w', w'.ownsRow base e size v' (n + m) (xs ++ news) → w.grownBy w' v.ownBlock → RowKit.Below base w w' → wpList P ops Q rest (a.put o.dst v') w') : wpList P ops Q (o :: rest) a w :=
  wpList_plain hgd fun _ hK => wp_append_own_src w s x t ho base e i z size bytes ht hi hz hsize hby hzs hsz v n xs hs hown m news hx hl h1 h63 hbytes hbase fun v' w' h2 h3 h4 => hK _ _ (h v' w' h2 h3 h4)
end Go.Proofs.YtbkomdinchiffaaGreat
