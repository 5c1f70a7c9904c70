/- Inserting into a sorted list, as the reference does it; append of a slice that may be nil. -/
import Derived.Test.YtapllmniplgajaaGreatDoorLabR
import Derived.Laws.AppendOwn
namespace Go.Proofs.YtapllmniplgajaaGreatDoor
open Go.Sort

section
variable {α : Type} {lt : α → α → Bool}
theorem insL_tail (x : α) (A : List α) : ∀ (n : Nat) (B : List α), B.length = n → (∀ b ∈ B, lt x b = true) → insL lt x (A ++ B) = insL lt x A ++ B
  | 0, B, h, _ => by
    obtain rfl := List.length_eq_zero_iff.1 h
    simp
  | n + 1, B, h, hB => by
    have hne : B ≠ [] := by intro e; rw [e] at h; cases h
    have e := List.dropLast_concat_getLast hne
    have hl := hB _ (List.getLast_mem hne)
    have ih := insL_tail x A n B.dropLast (by simp; omega) (fun b hb => hB b (List.dropLast_subset _ hb))
    rw [← e, ← List.append_assoc, insL_last _ _ _ _ hl, ih, List.append_assoc]
/-- The place at which the reference inserts is the sort's own. -/
theorem insL_at (hO : SWO lt) (x : α) (L : List α) (hL : Ord lt L) (q : Nat) (hq : q ≤ L.length) (hhi : ∀ (j : Nat) (y : α), q ≤ j → L[j]? = some y → lt x y = true) (hlo : ∀ (m : Nat) (y : α), q = m + 1 → L[m]? = some y → lt x y = false) :
    insL lt x L = L.take q ++ [x] ++ L.drop q := by
  have e : L = L.take q ++ L.drop q := (List.take_append_drop q L).symm
  have h1 : insL lt x (L.take q) = L.take q ++ [x] := by
    refine insL_end _ _ _ fun y hy => ?_
    obtain ⟨i, hi, rfl⟩ := List.getElem_of_mem hy
    rw [List.length_take] at hi
    rw [List.getElem_take]
    have hiq : i < q := by omega
    obtain ⟨m, rfl⟩ : ∃ m, q = m + 1 := ⟨q - 1, by omega⟩
    have hm := hlo m L[m] rfl (List.getElem?_eq_getElem (by omega))
    by_cases him : i = m
    · subst him; exact hm
    · have ho : lt L[m] L[i] = false := ord_get lt L hL i m (by omega) (by omega)
      exact hO.ntrans x L[m] L[i] hm ho
  conv => lhs; rw [e]
  rw [insL_tail x _ _ _ rfl (fun b hb => ?_), h1]
  obtain ⟨i, hi, rfl⟩ := List.getElem_of_mem hb
  rw [List.length_drop] at hi
  rw [List.getElem_drop]
  exact hhi (q + i) _ (by omega) (List.getElem?_eq_getElem (by omega))
end

/-- A slice whose cells are read by an append; it may be nil. -/
def SrcRow (w : World) (x : Value) (m : Nat) (news : List Value) : Prop :=
  ∃ (ao : Option Addr) (c : Nat), x = .slice ao m c ∧ (m = 0 ∨ ∃ a, ao = some a ∧ ∀ j u, news[j]? = some u → w.cell? (a.add j) = some u)
theorem run_append_src {P : Program} (w : World) (base : Nat) (t ty e : TypeId) (i : TypeInfo) (z : Value) (size bytes : Nat) (ht : P.underlying t = some (.slice e)) (hi : P.info? e = some i) (hz : i.zero = some z)
    (hsize : i.size = size) (hby : i.bytes = bytes) (hzs : z.cells.size = size) (hsz : 0 < size)
    (v : Value) (n : Nat) (xs : List Value) (hown : w.ownsRow base e size v n xs)
    (x : Value) (m : Nat) (news : List Value) (hx : SrcRow w x m news) (hl : news.length = m * size) (h1 : ∀ u ∈ news, u.oneCell' = true)
    (h63 : n + m ≤ maxLen) (hbytes : (n + m) * bytes ≤ 140737488355328) (hbase : base ≤ w.heap.size) :
    ∃ v' w', (Builtin.append_ #[t, t] ty #[v, x]).run P w = .ok v' w' ∧ w'.ownsRow base e size v' (n + m) (xs ++ news) ∧ w.grownBy w' v.ownBlock := by
  obtain ⟨ao, c, rfl, hc⟩ := hx
  cases ao with
  | some a =>
    have hnews : ∀ j u, news[j]? = some u → w.cell? (a.add j) = some u := by
      rcases hc with h0 | ⟨a', ha, hcells⟩
      · subst h0
        have : news = [] := List.length_eq_zero_iff.1 (by rw [hl, Nat.zero_mul])
        subst this
        intro j u h; simp at h
      · cases ha; exact hcells
    obtain ⟨v', w', hr, h2, h3, _⟩ := run_append_own (P := P) w base t ty e i z size bytes ht hi hz hsize hby hzs hsz v n xs hown a m c news hl hnews h1 h63 hbytes hbase
    exact ⟨v', w', hr, h2, h3⟩
  | none =>
    have h0 : m = 0 := by
      rcases hc with h0 | ⟨a', ha, _⟩
      · exact h0
      · cases ha
    subst h0
    have hnil : news = [] := List.length_eq_zero_iff.1 (by rw [hl, Nat.zero_mul])
    subst hnil
    have hg : ∀ row, w.grownBy w row := fun row => ⟨rfl, rfl, rfl, Nat.le_refl _, fun _ _ _ => rfl⟩
    have hown0 := hown
    rcases hown.2 with ⟨rfl, rfl⟩ | ⟨g, cap, cur, rfl, hb, hg', hn, hm, hcs, htk⟩
    · refine ⟨_, w, ?_, by simpa using hown0, hg _⟩
      simp [Builtin.append_, run_underlying ht, sizeOf, typeInfo, hi, Builtin.lenOf, Builtin.firstCells]
    · refine ⟨_, w, ?_, by simpa using hown0, hg _⟩
      simp [Builtin.append_, run_underlying ht, sizeOf, typeInfo, hi, Builtin.lenOf, Builtin.firstCells, hn, storeCells]
theorem wp_append_src {P : Program} (w : World) {o : Oper} {a : Act} {K : Act → World → Prop} {Q : Exit → Act → World → Prop} (s x : Operand) (t : TypeId)
    (ho : o.op = .call { callee := .builtin .append, args := #[s, x], argTypes := #[t, t] })
    (base : Nat) (e : TypeId) (i : TypeInfo) (z : Value) (size bytes : Nat) (ht : P.underlying t = some (.slice e)) (hi : P.info? e = some i) (hz : i.zero = some z)
    (hsize : i.size = size) (hby : i.bytes = bytes) (hzs : z.cells.size = size) (hsz : 0 < size)
    (v : Value) (n : Nat) (xs : List Value) (hs : a.eval s = v) (hown : w.ownsRow base e size v n xs)
    (m : Nat) (news : List Value) (hx : SrcRow w (a.eval x) m news) (hl : news.length = m * size) (h1 : ∀ u ∈ news, u.oneCell' = true)
    (h63 : n + m ≤ maxLen) (hbytes : (n + m) * bytes ≤ 140737488355328) (hbase : base ≤ w.heap.size)
    (h : ∀ v' w', w'.ownsRow base e size v' (n + m) (xs ++ news) → w.grownBy w' v.ownBlock → K (a.put o.dst v') w') : o.wp P a w K Q := by
  obtain ⟨v', w', hr, h2, h3⟩ := run_append_src (P := P) w base t o.type e i z size bytes ht hi hz hsize hby hzs hsz v n xs hown (a.eval x) m news hx hl h1 h63 hbytes hbase
  unfold Oper.wp execOp
  simp only [ho, resolve, invoke, builtin, Sem.run_bind, Sem.run_pure, Result.andThen_ok, List.map_toArray, List.map_cons, List.map_nil, hs, hr]
  exact h v' w' h2 h3
/-- The same, with what stood below the base handed on. -/
theorem wp_append_own_src {P : Program} (w : World) {o : Oper} {a : Act} {K : Act → World → Prop} {Q : Exit → Act → World → Prop} (s x : Operand) (t : TypeId)
    (ho : o.op = .call { callee := .builtin .append, args := #[s, x], argTypes := #[t, t] })
    (base : Nat) (e : TypeId) (i : TypeInfo) (z : Value) (size bytes : Nat) (ht : P.underlying t = some (.slice e)) (hi : P.info? e = some i) (hz : i.zero = some z)
    (hsize : i.size = size) (hby : i.bytes = bytes) (hzs : z.cells.size = size) (hsz : 0 < size)
    (v : Value) (n : Nat) (xs : List Value) (hs : a.eval s = v) (hown : w.ownsRow base e size v n xs)
    (m : Nat) (news : List Value) (hx : SrcRow w (a.eval x) m news) (hl : news.length = m * size) (h1 : ∀ u ∈ news, u.oneCell' = true)
    (h63 : n + m ≤ maxLen) (hbytes : (n + m) * bytes ≤ 140737488355328) (hbase : base ≤ w.heap.size)
    (h : ∀ v' w', w'.ownsRow base e size v' (n + m) (xs ++ news) → w.grownBy w' v.ownBlock → RowKit.Below base w w' → K (a.put o.dst v') w') : o.wp P a w K Q :=
  wp_append_src w s x t ho base e i z size bytes ht hi hz hsize hby hzs hsz v n xs hs hown m news hx hl h1 h63 hbytes hbase fun v' w' h2 h3 => h v' w' h2 h3 (grown_own hown hbase h3)
theorem own_base {w : World} {base base' size n : Nat} {e : TypeId} {v : Value} {xs : List Value} (h : w.ownsRow base e size v n xs) (hb : base' ≤ base) : w.ownsRow base' e size v n xs := by
  refine ⟨h.1, ?_⟩
  rcases h.2 with h0 | ⟨g, cap, cur, h1, h2, h3⟩
  · exact Or.inl h0
  · exact Or.inr ⟨g, cap, cur, h1, Nat.le_trans hb h2, h3⟩
theorem own_form {w : World} {base size n : Nat} {e : TypeId} {v : Value} {xs : List Value} (h : w.ownsRow base e size v n xs) : ∃ ao c, v = .slice ao n c := by
  rcases h.2 with ⟨rfl, rfl⟩ | ⟨g, cap, cur, rfl, _⟩
  · exact ⟨_, _, rfl⟩
  · exact ⟨_, _, rfl⟩
theorem flat_one (l : List LabD) : ∀ u ∈ l.flatMap encL, u.oneCell' = true := labCells_one l
theorem flat_take {α : Type} (enc : α → List Value) (k : Nat) (hk : ∀ x, (enc x).length = k) (l : List α) (q : Nat) : (l.take q).flatMap enc = (l.flatMap enc).take (q * k) := by
  induction l generalizing q with
  | nil => simp
  | cons x l ih =>
    cases q with
    | zero => simp
    | succ q =>
      rw [List.take_succ_cons, List.flatMap_cons, List.flatMap_cons, ih, show (q + 1) * k = (enc x).length + q * k by rw [hk, Nat.add_mul]; omega, List.take_length_add_append]
theorem src_take {w : World} {ao : Option Addr} {n cap q : Nat} {l : List LabD} (h : LabRow w (.slice ao n cap) l) (hn : n = l.length) (hq : q ≤ n) (c : Nat) : SrcRow w (.slice ao q c) q ((l.take q).flatMap encL) := by
  obtain ⟨ao', cap', hv, hc⟩ := h
  injection hv with h1 h2 h3
  subst h1
  refine ⟨ao, c, rfl, ?_⟩
  by_cases h0 : q = 0
  · exact Or.inl h0
  · obtain ⟨b, off, ha, hcell⟩ := hc (by omega)
    refine Or.inr ⟨⟨b, off, none⟩, ha, fun j u hu => ?_⟩
    rw [flat_take encL 6 encL_len, List.getElem?_take] at hu
    split at hu
    · rename_i hj
      obtain ⟨x, hx, hxu⟩ := labCells_at l j u hu
      have := hcell (j / 6) x hx (j % 6) u hxu
      rw [Addr.add_lit]
      rw [show off + j = off + j / 6 * 6 + j % 6 by omega]; exact this
    · cases hu
theorem src_drop {w : World} {ao : Option Addr} {n cap q : Nat} {l : List LabD} (h : LabRow w (.slice ao n cap) l) (hn : n = l.length) (hq : q ≤ n) (hcap : n ≤ cap) : SrcRow w (.slice (if cap = q then ao else ao.map (·.add (q * 6))) (n - q) (cap - q)) (n - q) ((l.drop q).flatMap encL) := by
  obtain ⟨ao', cap', hv, hc⟩ := h
  injection hv with h1 h2 h3
  subst h1
  refine ⟨_, _, rfl, ?_⟩
  by_cases h0 : n - q = 0
  · exact Or.inl h0
  · obtain ⟨b, off, ha, hcell⟩ := hc (by omega)
    have hne : cap ≠ q := by omega
    subst ha
    refine Or.inr ⟨⟨b, off + q * 6, none⟩, by rw [if_neg hne]; simp [Addr.add_lit], fun j u hu => ?_⟩
    obtain ⟨x, hx, hxu⟩ := labCells_at (l.drop q) j u hu
    rw [List.getElem?_drop] at hx
    have := hcell (q + j / 6) x hx (j % 6) u hxu
    rw [Addr.add_lit]
    rw [show off + q * 6 + j = off + (q + j / 6) * 6 + j % 6 by omega]; exact this
theorem src_whole {w : World} {ao : Option Addr} {n cap : Nat} {l : List LabD} (h : LabRow w (.slice ao n cap) l) (hn : n = l.length) : SrcRow w (.slice ao n cap) (n - 0) ((l.drop 0).flatMap encL) := by
  have := src_take h hn (Nat.le_refl n) cap
  rw [List.take_of_length_le (by omega)] at this
  simpa using this
theorem cells_new0 (w : World) (cs : List Value) (t : TypeId) (j : Nat) (u : Value) (h : cs[j]? = some u) : (w.alloc (.cells cs.toArray t)).cell? ((⟨w.heap.size, 0, none⟩ : Addr).add j) = some u := by
  rw [Addr.add_lit, cell_of_row _ _ _ _ _ _ (heap_alloc_new w _), Nat.zero_add]
  simpa using h
theorem cells_new1 (w : World) (o : Obj) (cs : List Value) (t : TypeId) (j : Nat) (u : Value) (h : cs[j]? = some u) : ((w.alloc o).alloc (.cells cs.toArray t)).cell? ((⟨w.heap.size + 1, 0, none⟩ : Addr).add j) = some u := by
  have := cells_new0 (w.alloc o) cs t j u h
  rwa [World.size_alloc] at this
theorem owns_made1 (w : World) (o : Obj) {base size : Nat} {e : TypeId} (cur : Array Value) (cap : Nat) (hb : base ≤ w.heap.size) (hm : cap ≤ maxLen) (hs : cur.size = cap * size) :
    ((w.alloc o).alloc (.cells cur e)).ownsRow base e size (.slice (some ⟨w.heap.size + 1, 0, none⟩) 0 cap) 0 [] := by
  have := World.ownsRow_made (w := w.alloc o) (e := e) (base := base) (size := size) cur cap (by rw [World.size_alloc]; omega) hm hs
  rwa [World.size_alloc] at this
end Go.Proofs.YtapllmniplgajaaGreatDoor
