/-       -/
import Derived.Test.YtibpaaajghbkoaaGreatUAe
import Derived.Laws.AppendOwn
import Derived.Laws.OwnMore
import Derived.Test.YtibpaaajghbkoaaGreatUAb
import Derived.Test.YtibpaaajghbkoaaGreatUAm
import Derived.LoopN
import Derived.Test.YtibpaaajghbkoaaGreatUAa
import Derived.Shelf.SlSortCmp.WholeK
import Derived.Shelf.SlSortCmp.NoneTotal
namespace Go.Proofs.YtibpaaajghbkoaaGreat
open Go.RowKit
theorem grown_own {W w1 : World} {n₀ : Nat} {e : TypeId} {size : Nat} {v : Value} {k : Nat} {xs : List Value}
  (hrow : W.ownsRow n₀ e size v k xs) (hn₀ : n₀ ≤ W.heap.size) (hgrow : W.grownBy w1 v.ownBlock) : Below n₀ W w1 := by
 refine (Below.refl n₀ W).grown hgrow hn₀ fun j ej => ?_
 rcases hrow.2 with ⟨rfl, _⟩ | ⟨g, cap, cur, rfl, hb, _, _⟩
 ·simp [Value.ownBlock] at ej
 ·obtain rfl : g = j := by simpa [Value.ownBlock] using ej
  exact hb
def SrcRow (w : World) (x : Value) (m : Nat) (news : List Value) : Prop :=
 ∃ (ao : Option Addr) (c : Nat), x = .slice ao m c ∧ (m = 0 ∨ ∃ a, ao = some a ∧ ∀ j u, news[j]? = some u → w.cell? (a.add j) = some u)
theorem run_append_src {P : Program} (w : World) (base : Nat) (t ty e : TypeId) (i : TypeInfo) (z : Value) (size bytes : Nat) (ht : P.underlying t = some (.slice e)) (hi : P.info? e = some i) (hz : i.zero = some z)
  (hsize : i.size = size) (hby : i.bytes = bytes) (hzs : z.cells.size = size) (hsz : 0 < size)
  (v : Value) (n : Nat) (xs : List Value) (hown : w.ownsRow base e size v n xs)
  (x : Value) (m : Nat) (news : List Value) (hx : SrcRow w x m news) (hl : news.length = m * size) (h1 : ∀ u ∈ news, u.oneCell' = true)
  (h63 : n + m ≤ maxLen) (hbytes : (n + m) * bytes ≤ 140737488355328) (hbase : base ≤ w.heap.size) :
  ∃ v' w', (Builtin.append_ #[t, t] ty #[v, x]).run P w = .ok v' w' ∧ w'.ownsRow base e size v' (n + m) (xs ++ news) ∧ w.grownBy w' v.ownBlock := by
 obtain ⟨ao, c, rfl, hc⟩ := hx
 cases ao with
 |some a =>
  have hnews : ∀ j u, news[j]? = some u → w.cell? (a.add j) = some u := by
   rcases hc with h0 | ⟨a', ha, hcells⟩
   ·subst h0
    have : news = [] := List.length_eq_zero_iff.1 (by rw [hl, Nat.zero_mul])
    subst this
    intro j u h; simp at h
   ·cases ha; exact hcells
  obtain ⟨v', w', hr, h2, h3, _⟩ := run_append_own (P := P) w base t ty e i z size bytes ht hi hz hsize hby hzs hsz v n xs hown a m c news hl hnews h1 h63 hbytes hbase
  exact ⟨v', w', hr, h2, h3⟩
 |none =>
  have h0 : m = 0 := by
   rcases hc with h0 | ⟨a', ha, _⟩
   ·exact h0
   ·cases ha
  subst h0
  have hnil : news = [] := List.length_eq_zero_iff.1 (by rw [hl, Nat.zero_mul])
  subst hnil
  have hg : ∀ row, w.grownBy w row := fun row => ⟨rfl, rfl, rfl, Nat.le_refl _, fun _ _ _ => rfl⟩
  have hown0 := hown
  rcases hown.2 with ⟨rfl, rfl⟩ | ⟨g, cap, cur, rfl, hb, hg', hn, hm, hcs, htk⟩
  ·refine ⟨_, w, ?_, by simpa using hown0, hg _⟩
   simp [Builtin.append_, run_underlying ht, sizeOf, typeInfo, hi, Builtin.lenOf, Builtin.firstCells]
  ·refine ⟨_, w, ?_, by simpa using hown0, hg _⟩
   simp [Builtin.append_, run_underlying ht, sizeOf, typeInfo, hi, Builtin.lenOf, Builtin.firstCells, hn, storeCells]
theorem wp_append_src {P : Program} (w : World) {o : Oper} {a : Act} {K : Act → World → Prop} {Q : Exit → Act → World → Prop} (s x : Operand) (t : TypeId)
  (ho : o.op = .call { callee := .builtin .append, args := #[s, x], argTypes := #[t, t] })
  (base : Nat) (e : TypeId) (i : TypeInfo) (z : Value) (size bytes : Nat) (ht : P.underlying t = some (.slice e)) (hi : P.info? e = some i) (hz : i.zero = some z)
  (hsize : i.size = size) (hby : i.bytes = bytes) (hzs : z.cells.size = size) (hsz : 0 < size)
  (v : Value) (n : Nat) (xs : List Value) (hs : a.eval s = v) (hown : w.ownsRow base e size v n xs)
  (m : Nat) (news : List Value) (hx : SrcRow w (a.eval x) m news) (hl : news.length = m * size) (h1 : ∀ u ∈ news, u.oneCell' = true)
  (h63 : n + m ≤ maxLen) (hbytes : (n + m) * bytes ≤ 140737488355328) (hbase : base ≤ w.heap.size)
  (h : ∀ v' w', w'.ownsRow base e size v' (n + m) (xs ++ news) → w.grownBy w' v.ownBlock → K (a.put o.dst v') w') : o.wp P a w K Q := by
 obtain ⟨v', w', hr, h2, h3⟩ := run_append_src (P := P) w base t o.type e i z size bytes ht hi hz hsize hby hzs hsz v n xs hown (a.eval x) m news hx hl h1 h63 hbytes hbase
 unfold Oper.wp execOp
 simp only [ho, resolve, invoke, builtin, Sem.run_bind, Sem.run_pure, Result.andThen_ok, List.map_toArray, List.map_cons, List.map_nil, hs, hr]
 exact h v' w' h2 h3
theorem wp_append_own_src {P : Program} (w : World) {o : Oper} {a : Act} {K : Act → World → Prop} {Q : Exit → Act → World → Prop} (s x : Operand) (t : TypeId)
  (ho : o.op = .call { callee := .builtin .append, args := #[s, x], argTypes := #[t, t] })
  (base : Nat) (e : TypeId) (i : TypeInfo) (z : Value) (size bytes : Nat) (ht : P.underlying t = some (.slice e)) (hi : P.info? e = some i) (hz : i.zero = some z)
  (hsize : i.size = size) (hby : i.bytes = bytes) (hzs : z.cells.size = size) (hsz : 0 < size)
  (v : Value) (n : Nat) (xs : List Value) (hs : a.eval s = v) (hown : w.ownsRow base e size v n xs)
  (m : Nat) (news : List Value) (hx : SrcRow w (a.eval x) m news) (hl : news.length = m * size) (h1 : ∀ u ∈ news, u.oneCell' = true)
  (h63 : n + m ≤ maxLen) (hbytes : (n + m) * bytes ≤ 140737488355328) (hbase : base ≤ w.heap.size)
  (h : ∀ v' w', w'.ownsRow base e size v' (n + m) (xs ++ news) → w.grownBy w' v.ownBlock → RowKit.Below base w w' → K (a.put o.dst v') w') : o.wp P a w K Q :=
 wp_append_src w s x t ho base e i z size bytes ht hi hz hsize hby hzs hsz v n xs hs hown m news hx hl h1 h63 hbytes hbase fun v' w' h2 h3 => h v' w' h2 h3 (grown_own hown hbase h3)
end Go.Proofs.YtibpaaajghbkoaaGreat

namespace Go.Proofs.YtibpaaajghbkoaaGreat
open Go.RowKit
section
variable {α : Type} {enc : α → List Value} {k : Nat}
theorem flat_at (hk : ∀ x, (enc x).length = k) (h0 : 0 < k) (l : List α) (j : Nat) (u : Value) (h : (l.flatMap enc)[j]? = some u) : ∃ x, l[j / k]? = some x ∧ (enc x)[j % k]? = some u := by
 have hl := (List.getElem?_eq_some_iff.1 h).1
 rw [flat_length enc k hk] at hl
 have hj : j / k < l.length := Nat.div_lt_of_lt_mul (by rw [Nat.mul_comm]; exact hl)
 have hx := List.getElem?_eq_getElem hj
 have := flat_get enc k hk l (j / k) (j % k) _ hx (Nat.mod_lt _ h0)
 rw [Nat.mul_comm, Nat.div_add_mod, h] at this
 exact ⟨_, hx, this.symm⟩
theorem row_src (hk : ∀ x, (enc x).length = k) (h0 : 0 < k) {w : World} {ao : Option Addr} {n c : Nat} {l : List α} (h : RowE enc k w (.slice ao n c) l) : SrcRow w (.slice ao n c) n (l.flatMap enc) := by
 obtain ⟨ao', cap', hv, hc⟩ := h
 injection hv with h1 h2 h3
 subst h1 h2 h3
 refine ⟨_, _, rfl, ?_⟩
 by_cases hl : l.length = 0
 ·exact Or.inl hl
 ·obtain ⟨b, off, ha, hcell⟩ := hc (by omega)
  refine Or.inr ⟨_, ha, fun j u hu => ?_⟩
  obtain ⟨x, hx, hxu⟩ := flat_at hk h0 l j u hu
  rw [Addr.add_lit]
  have := hcell (j / k) x hx (j % k) u hxu
  rw [Nat.add_assoc, Nat.mul_comm, Nat.div_add_mod] at this
  exact this
theorem owns_lit (hk : ∀ x, (enc x).length = k) (w : World) {base : Nat} {e : TypeId} (l : List α) (hb : base ≤ w.heap.size) (hm : l.length ≤ maxLen) {cs : Array Value} (hcs : cs = (l.flatMap enc).toArray) (n : Nat) (hn : n = l.length) :
  (w.alloc (.cells cs e)).ownsRow base e k (.slice (some ⟨w.heap.size, 0, none⟩) n n) n (l.flatMap enc) := by
 subst hn hcs
 have hl := flat_length enc k hk l
 refine ⟨hl, Or.inr ⟨_, _, _, rfl, hb, row_new w _, Nat.le_refl _, hm, by simpa using hl, ?_⟩⟩
 show (l.flatMap enc).take _ = _
 exact List.take_of_length_le (by rw [hl]; exact Nat.le_refl _)
end
theorem wpList_append_src {P : Program} {ops : Array Oper} {rest : List Oper} {o : Oper} {a : Act} {Q : Exit → Act → World → Prop} {w : World} (hgd : o.guard = none) (s x : Operand) (t : TypeId)
  (ho : o.op = .call { callee := .builtin .append, args := #[s, x], argTypes := #[t, t] })
  (base : Nat) (e : TypeId) (i : TypeInfo) (z : Value) (size bytes : Nat) (ht : P.underlying t = some (.slice e)) (hi : P.info? e = some i) (hz : i.zero = some z)
  (hsize : i.size = size) (hby : i.bytes = bytes) (hzs : z.cells.size = size) (hsz : 0 < size)
  (v : Value) (n : Nat) (xs : List Value) (hs : a.eval s = v) (hown : w.ownsRow base e size v n xs)
  (m : Nat) (news : List Value) (hx : SrcRow w (a.eval x) m news) (hl : news.length = m * size) (h1 : ∀ u ∈ news, u.oneCell' = true)
  (h63 : n + m ≤ maxLen) (hbytes : (n + m) * bytes ≤ 140737488355328) (hbase : base ≤ w.heap.size)
  (h : ∀ v' w', w'.ownsRow base e size v' (n + m) (xs ++ news) → w.grownBy w' v.ownBlock → RowKit.Below base w w' → wpList P ops Q rest (a.put o.dst v') w') : wpList P ops Q (o :: rest) a w :=
 wpList_plain hgd fun _ hK => wp_append_own_src w s x t ho base e i z size bytes ht hi hz hsize hby hzs hsz v n xs hs hown m news hx hl h1 h63 hbytes hbase fun v' w' h2 h3 h4 => hK _ _ (h v' w' h2 h3 h4)
end Go.Proofs.YtibpaaajghbkoaaGreat

namespace Go.Proofs.YtibpaaajghbkoaaGreat
open Go.RowKit Go.Sort
abbrev ObM := ObjD × Value × Value
def encOb (x : ObM) : List Value := [.string x.1.id, .int .i64 x.1.kind, .int .i64 x.1.x, .int .i64 x.1.y, x.2.1, x.2.2]
theorem encOb_len (x : ObM) : (encOb x).length = 6 := rfl
def ObOK (w : World) (x : ObM) : Prop := StrRow w x.2.1 x.1.refs ∧ TagRow w x.2.2 x.1.tags ∧ x.1.id.size ≤ 140737488355328
theorem ObOK.later {w w' : World} {x : ObM} (h : ObOK w x) (hb : Below w.heap.size w w') : ObOK w' x := ⟨h.1.later hb, h.2.1.later hb, h.2.2⟩
theorem ObOK.one {w : World} {x : ObM} (h : ObOK w x) : ∀ v ∈ encOb x, v.oneCell' = true := by
 obtain ⟨⟨a, c, e, _⟩, ⟨a2, c2, e2, _⟩, _⟩ := h
 intro v hv
 simp only [encOb, List.mem_cons, List.not_mem_nil, or_false] at hv
 rcases hv with rfl | rfl | rfl | rfl | rfl | rfl
 ·rfl
 ·rfl
 ·rfl
 ·rfl
 ·rw [e]; rfl
 ·rw [e2]; rfl
theorem list_choose {α β : Type} {P : Nat → α → β → Prop} : ∀ {l : List α}, (∀ i x, l[i]? = some x → ∃ y, P i x y) → ∃ L : List β, L.length = l.length ∧ ∀ i x y, l[i]? = some x → L[i]? = some y → P i x y
 |[], _ => ⟨[], rfl, fun i x y h => by simp at h⟩
 |a :: l, h => by
  obtain ⟨y0, h0⟩ := h 0 a rfl
  obtain ⟨L, h1, h2⟩ := list_choose (P := fun i x y => P (i + 1) x y) (l := l) fun i x hx => h (i + 1) x (by simpa using hx)
  refine ⟨y0 :: L, by simp [h1], fun i x y hx hy => ?_⟩
  cases i with
  |zero =>
   have e1 : a = x := by simpa using hx
   have e2 : y0 = y := by simpa using hy
   subst e1 e2; exact h0
  |succ i => exact h2 i x y (by simpa using hx) (by simpa using hy)
theorem objs_row {w : World} {v : Value} {l : List ObjD} (h : ObjsIs w v l) : ∃ L : List ObM, RowE encOb 6 w v L ∧ L.map (·.1) = l ∧ ∀ x ∈ L, ObOK w x := by
 obtain ⟨a, cap, rfl, hn, hc⟩ := h
 cases l with
 |nil => exact ⟨[], ⟨a, cap, rfl, fun h => by simp at h⟩, rfl, fun x hx => by cases hx⟩
 |cons o l =>
  obtain ⟨b, off, ha, hcell⟩ := hc (by simp)
  obtain ⟨Y, hl, hY⟩ := list_choose (β := Value × Value) (P := fun i (o : ObjD) y => RowE encOb 6 w (.slice (some ⟨b, off + i * 6, none⟩) 1 1) [(o, y)] ∧ ObOK w (o, y)) (l := o :: l) fun i x hx => by
   obtain ⟨vr, vt, h0, h1, h2, h3, h4, h5, hr, ht, hz⟩ := hcell i x hx
   refine ⟨(vr, vt), ⟨_, _, rfl, fun _ => ⟨b, off + i * 6, rfl, fun j y hj k u hu => ?_⟩⟩, hr, ht, hz⟩
   cases j with
   |succ j => simp at hj
   |zero =>
    have e : (x, vr, vt) = y := by simpa using hj
    subst e
    match k, hu with
    |0, hu => injection hu with hu; subst hu; exact h0
    |1, hu => injection hu with hu; subst hu; exact h1
    |2, hu => injection hu with hu; subst hu; exact h2
    |3, hu => injection hu with hu; subst hu; exact h3
    |4, hu => injection hu with hu; subst hu; exact h4
    |5, hu => injection hu with hu; subst hu; exact h5
    |k + 6, hu => cases hu
  have hget : ∀ (i : Nat) (x : ObM), ((o :: l).zip Y)[i]? = some x → (o :: l)[i]? = some x.1 ∧ Y[i]? = some x.2 := fun i x hx => by
   rw [List.getElem?_zip_eq_some] at hx
   exact hx
  refine ⟨(o :: l).zip Y, ⟨a, cap, ?_, fun _ => ⟨b, off, ha, fun i x hx k u hu => ?_⟩⟩, ?_, fun x hx => ?_⟩
  ·rw [List.length_zip, hl, Nat.min_self]
  ·obtain ⟨h1, h2⟩ := hget i x hx
   obtain ⟨⟨a2, c2, hv2, hc2⟩, _⟩ := hY i x.1 x.2 h1 h2
   injection hv2 with e1 _ _
   subst e1
   obtain ⟨b2, o2, e2, h3⟩ := hc2 (by simp)
   injection e2 with e2
   injection e2 with e2 e3
   subst e2 e3
   have := h3 0 x rfl k u hu
   simpa using this
  ·exact List.map_fst_zip (by rw [hl]; exact Nat.le_refl _)
  ·obtain ⟨i, hi⟩ := List.getElem?_of_mem hx
   obtain ⟨h1, h2⟩ := hget i x hi
   exact (hY i x.1 x.2 h1 h2).2
theorem objs_of {w : World} {v : Value} {L : List ObM} (h : RowE encOb 6 w v L) (hok : ∀ x ∈ L, ObOK w x) (hn : L.length ≤ 140737488355328) : ObjsIs w v (L.map (·.1)) := by
 obtain ⟨a, cap, rfl, hc⟩ := h
 refine ⟨a, cap, by rw [List.length_map], by rw [List.length_map]; exact hn, fun hp => ?_⟩
 rw [List.length_map] at hp
 obtain ⟨b, off, ha, hcell⟩ := hc hp
 refine ⟨b, off, ha, fun i o hi => ?_⟩
 rw [List.getElem?_map] at hi
 obtain ⟨x, hx, rfl⟩ := Option.map_eq_some_iff.1 hi
 obtain ⟨hr, ht, hz⟩ := hok x (List.mem_of_getElem? hx)
 exact ⟨_, _, hcell i x hx 0 _ rfl, hcell i x hx 1 _ rfl, hcell i x hx 2 _ rfl, hcell i x hx 3 _ rfl, hcell i x hx 4 _ rfl, hcell i x hx 5 _ rfl, hr, ht, hz⟩
theorem infoOb : (Tryz.prog.info? 36).map (fun i => (i.zero, i.size, i.bytes)) = some (some (.agg #[.string ⟨#[]⟩, .int .i64 0, .int .i64 0, .int .i64 0, .slice none 0 0, .slice none 0 0]), 6, 88) := by kernel_rfl
end Go.Proofs.YtibpaaajghbkoaaGreat

namespace Go.Proofs.YtibpaaajghbkoaaGreat
open Go.RowKit Go.Maps Go.ChangeMaps
set_option maxHeartbeats 1000000 in
theorem nodes1_any (id : ByteArray) (Bp Bm : Nat) (v : Value) (l : List ObjD) (w : World) (hz : id.size ≤ 140737488355328) (hp : w.heap[Bp]? = some (.cells #[v, .map (some Bm)] 78)) (hat : AtIs w Bm l) (hv : ObjsIs w v l) :
  Calls Tryz.prog 138 #[.string id, .pointer (some ⟨Bp, 0, none⟩)] w fun e w' => e = .returned (.bool (!(nodeAt l id).isSome)) ∧ w' = w := by
 obtain ⟨a, cap, rfl, hn, hc⟩ := hv
 have HP := Lib.hid hp
 have hlk := hat.lookOk id hz
 clear hp hat
 obtain ⟨r, hr⟩ : ∃ r, r = !(nodeAt l id).isSome := ⟨_, rfl⟩
 rw [← hr]
 cases hpo : posO id l with
 |none =>
  have HE := Lib.hid (show r = true by rw [hr, nodeAt_none l id hpo]; rfl)
  rw [hpo] at hlk
  simp only [Option.map_none, Option.getD_none, Option.isSome_none] at hlk
  obtain ⟨pz, p0, p1⟩ := rk2 HP.out
  clear hr hc hpo
  go_enter Tryz.func138, Tryz.ntmps138
  go_wp2
  go_ret
  exact ⟨by rw [HE.out] <;> rfl, rfl⟩
 |some k =>
  obtain ⟨o, ho, _⟩ := posO_some id l k hpo
  have hk := (List.getElem?_eq_some_iff.1 ho).1
  obtain ⟨b, off, ha, hcell⟩ := hc (by omega)
  subst ha
  obtain ⟨vr, vt, c0, c1, c2, c3, c4, c5, hrr, ht, hzo⟩ := hcell k o ho
  rw [hpo] at hlk
  simp only [Option.map_some, Option.getD_some, Option.isSome_some, intV] at hlk
  have HR := Lib.hid (hr.trans (congrArg (fun z : Option (Int × Int) => !z.isSome) (nodeAt_some l id k hpo o ho)))
  obtain ⟨pz, p0, p1⟩ := rk2 HP.out
  have k0 : (0 : Int) ≤ (k : Int) := by omega
  have k1 : (k : Int) < (l.length : Int) := by omega
  have kn : ((k : Int)).toNat = k := by omega
  clear hr hc hpo hcell hrr ht ho c0 c2 c3 c4 c5 hk
  by_cases h1 : o.kind = 1
  ·have h1d : (o.kind != 1) = false := by rw [h1]; rfl
   have HE := Lib.hid (show r = false by rw [HR.out, if_pos h1]; rfl)
   generalize o.kind = kd at *
   clear h1
   go_enter Tryz.func138, Tryz.ntmps138
   go_wp2
   go_ret
   exact ⟨by rw [HE.out] <;> rfl, rfl⟩
  ·have h1d : (o.kind != 1) = true := by rw [bne_iff_ne]; exact h1
   have HE := Lib.hid (show r = true by rw [HR.out, if_neg h1]; rfl)
   generalize o.kind = kd at *
   clear h1
   go_enter Tryz.func138, Tryz.ntmps138
   go_wp2
   go_ret
   exact ⟨by rw [HE.out] <;> rfl, rfl⟩
def IdxN (r : Bool) (w : World) (e : Ending) (w' : World) : Prop := (∃ n : Int, e = .returned (.int .i64 n) ∧ (0 ≤ n ↔ r = false)) ∧ w' = w
set_option maxHeartbeats 1000000 in
theorem idxN_any (vr : Value) (refs : List ByteArray) (Bp Bm : Nat) (v : Value) (l : List ObjD) (w : World) (hr : StrRow w vr refs) (hp : w.heap[Bp]? = some (.cells #[v, .map (some Bm)] 78)) (hat : AtIs w Bm l) (hv : ObjsIs w v l) :
  Calls Tryz.prog 166 #[vr, .func (.func 138) #[] #[.pointer (some ⟨Bp, 0, none⟩)]] w (IdxN (refs.all fun r => (nodeAt l r).isSome) w) := by
 have ND := Lib.hid (fun id hz => nodes1_any id Bp Bm v l w hz hp hat hv)
 clear hp hat hv
 obtain ⟨a, cap, rfl, hn, hsz, hc⟩ := hr
 generalize hN : refs.length = N at *
 have HN := Lib.hid hN
 have HZ := Lib.hid hsz
 have HC := Lib.hid hc
 obtain ⟨res, hres⟩ : ∃ z, z = refs.all fun r => (nodeAt l r).isSome := ⟨_, rfl⟩
 rw [← hres]
 have HR := Lib.hid hres
 clear hN hsz hc hres
 go_enter Tryz.func166, Tryz.ntmps166
 go_wp2
 go_loop [8] (fun i => ∃ k : Nat, k ≤ N ∧ i = .int .i64 k ∧ ∀ s ∈ refs.take k, (nodeAt l s).isSome = true) (fun i => N - (intOf i).toNat)
 case atStart => exact ⟨0, by omega, rfl, by simp⟩
 case round =>
  obtain ⟨k, hk, rfl, hT⟩ := hrel
  have HT := Lib.hid hT
  clear hT
  by_cases hlt : k < N
  ·obtain ⟨s, hs⟩ : ∃ s, refs[k]? = some s := ⟨refs[k]'(by rw [HN.out]; exact hlt), List.getElem?_eq_getElem _⟩
   obtain ⟨b, off, ha, hcell⟩ := HC.out (by omega)
   subst ha
   have z1 := HZ.out s (List.mem_of_getElem? hs)
   have c0 := hcell k s hs
   have HS := Lib.hid hs
   clear hcell hs
   go_wp2_with fail
   refine (ND.out s z1).mono ?_
   rintro e w2 ⟨rfl, rfl⟩
   cases hq : (nodeAt l s).isSome
   ·have HE := Lib.hid (show res = false by rw [HR.out, List.all_eq_false]; exact ⟨s, List.mem_of_getElem? HS.out, by simp [hq]⟩)
    clear hq
    go_wp2
    go_ret
    exact ⟨⟨_, rfl, by rw [HE.out]; simp⟩, rfl⟩
   ·have HG := Lib.hid (refs_upto l refs k s HS.out HT.out hq)
    clear hq
    go_wp2
    go_round
    case rel => exact ⟨k + 1, by omega, by go_num, HG.out⟩
    case measure => simp [intOf]; omega
  ·obtain rfl : k = N := by omega
   have HE := Lib.hid (show res = true by rw [HR.out, List.all_eq_true]; have := HT.out; rw [List.take_of_length_le (by rw [HN.out]; exact Nat.le_refl _)] at this; exact this)
   go_wp2
   go_ret
   exact ⟨⟨_, rfl, by rw [HE.out]; simp⟩, rfl⟩
theorem hasN_any (vr : Value) (refs : List ByteArray) (Bp Bm : Nat) (v : Value) (l : List ObjD) (w : World) (hr : StrRow w vr refs) (hp : w.heap[Bp]? = some (.cells #[v, .map (some Bm)] 78)) (hat : AtIs w Bm l) (hv : ObjsIs w v l) :
  Calls Tryz.prog 133 #[vr, .func (.func 138) #[] #[.pointer (some ⟨Bp, 0, none⟩)]] w fun e w' => e = .returned (.bool (!(refs.all fun r => (nodeAt l r).isSome))) ∧ w' = w := by
 have HI := Lib.hid (idxN_any vr refs Bp Bm v l w hr hp hat hv)
 clear hr hp hat hv
 generalize (refs.all fun r => (nodeAt l r).isSome) = res at HI ⊢
 go_enter Tryz.func133, Tryz.ntmps133
 go_wp2_with fail
 refine HI.out.mono ?_
 rintro e w2 ⟨⟨n, rfl, hn⟩, rfl⟩
 by_cases h0 : 0 ≤ n
 ·have HR := Lib.hid (hn.1 h0)
  clear hn
  go_wp2
  go_ret
  exact ⟨ret_bool (by rw [HR.out]; first | (simp; done) | (simp; omega)), rfl⟩
 ·have HR := Lib.hid (show res = true by
   cases hr : res
   ·exact absurd (hn.2 hr) h0
   ·rfl)
  clear hn
  have h0' : n < 0 := by omega
  go_wp2
  go_ret
  exact ⟨ret_bool (by rw [HR.out]; first | (simp; done) | (simp; omega)), rfl⟩
set_option maxHeartbeats 1000000 in
theorem nodes_any (o : ObjD) (vr vt : Value) (Bm : Nat) (v : Value) (l : List ObjD) (w : World) (hr : StrRow w vr o.refs) (ht : TagRow w vt o.tags) (hat : AtIs w Bm l) (hv : ObjsIs w v l) :
  Calls Tryz.prog 84 #[.agg #[v, .map (some Bm)], .agg #[.string o.id, .int .i64 o.kind, .int .i64 o.x, .int .i64 o.y, vr, vt]] w fun e w' => e = .returned (.bool (soundB l o)) ∧ Below w.heap.size w w' := by
 have HS := Lib.hid (fun w' hp hb => hasN_any vr o.refs w.heap.size Bm v l w' (hr.later hb) hp (hat.on hb) (hv.later hb))
 have HQ := Lib.hid (show soundB l o = (o.refs.all fun r => (nodeAt l r).isSome) from rfl)
 generalize soundB l o = res at HQ ⊢
 rw [← HQ.out] at HS
 obtain ⟨a, cap, rfl, _⟩ := hv
 obtain ⟨ar, capr, rfl, _⟩ := hr
 obtain ⟨at1, capt, rfl, _⟩ := ht
 clear HQ hat
 obtain ⟨id, kind, x, y, refs, tags⟩ := o
 simp only [] at HS ⊢
 go_enter Tryz.func84, Tryz.ntmps84
 go_wp2_with fail
 have B1 : Below w.heap.size w ((w.alloc (.cells #[.slice a l.length cap, .map (some Bm)] 78)).alloc (.cells #[.string id, .int .i64 kind, .int .i64 x, .int .i64 y, .slice ar refs.length capr, .slice at1 tags.length capt] 36)) := (by repeat' (first | exact Below.refl _ _ | refine Below.drew ?_ | refine Below.drewN' ?_ | refine Below.setCell ?_ (by first | omega | (simp; done) | exact Below.size (by assumption) | (simp; omega)) _ | refine Below.alloc ?_ (by first | omega | (simp; done) | exact Below.size (by assumption) | (simp; omega)) _ | refine Below.trans ?_ (Below.mono (by assumption) ?_) | (first | omega | (simp; done) | exact Below.size (by assumption) | (simp; omega))))
 have H1 := row_past (o' := .cells #[.string id, .int .i64 kind, .int .i64 x, .int .i64 y, .slice ar refs.length capr, .slice at1 tags.length capt] 36) (row_new w (.cells #[.slice a l.length cap, .map (some Bm)] 78))
 refine (HS.out _ H1 B1).mono ?_
 rintro e w2 ⟨rfl, rfl⟩
 clear H1
 go_wp2
 go_ret
 exact ⟨by simp, B1⟩
set_option maxHeartbeats 1000000 in
theorem point_any (id : ByteArray) (Bm : Nat) (v : Value) (l : List ObjD) (w : World) (hz : id.size ≤ 140737488355328) (hat : AtIs w Bm l) (hv : ObjsIs w v l) (hn : (nodeAt l id).isSome = true) :
  Calls Tryz.prog 75 #[.agg #[v, .map (some Bm)], .string id] w fun e w' => e = .returned (ptV (ptO l id)) ∧ Below w.heap.size w w' := by
 have HAT := Lib.hid hat
 obtain ⟨a, cap, rfl, hn', hc⟩ := hv
 cases hpo : posO id l with
 |none => rw [nodeAt_none l id hpo] at hn; cases hn
 |some k =>
  obtain ⟨o, ho, _⟩ := posO_some id l k hpo
  have hk := (List.getElem?_eq_some_iff.1 ho).1
  obtain ⟨b, off, ha, hcell⟩ := hc (by omega)
  subst ha
  obtain ⟨vr, vt, c0, c1, c2, c3, c4, c5, hrr, ht, hzo⟩ := hcell k o ho
  have hpt : ptO l id = (o.x, o.y) := by
   have h := nodeAt_some l id k hpo o ho
   unfold ptO
   rw [h] at hn ⊢
   split at hn
   ·rename_i h1; rw [if_pos h1]; rfl
   ·cases hn
  rw [hpt]
  have hlk := (HAT.out.on (w' := (w.alloc (.cells #[.slice (some ⟨b, off, none⟩) l.length cap, .map (some Bm)] 78)).alloc (.cells #[.int .i64 0, .int .i64 0] 33)) (by repeat' (first | exact Below.refl _ _ | refine Below.drew ?_ | refine Below.drewN' ?_ | refine Below.setCell ?_ (by first | omega | (simp; done) | exact Below.size (by assumption) | (simp; omega)) _ | refine Below.alloc ?_ (by first | omega | (simp; done) | exact Below.size (by assumption) | (simp; omega)) _ | refine Below.trans ?_ (Below.mono (by assumption) ?_) | (first | omega | (simp; done) | exact Below.size (by assumption) | (simp; omega))))).look id hz
  rw [hpo] at hlk
  simp only [Option.map_some, Option.getD_some, intV] at hlk
  have k0 : (0 : Int) ≤ (k : Int) := by omega
  have k1 : (k : Int) < (l.length : Int) := by omega
  have kn : ((k : Int)).toNat = k := by omega
  have bz := lt_of_cell c2
  clear hpt hn hat hc hpo hcell hrr ht ho c0 c1 c4 c5 hk
  go_enter Tryz.func75, Tryz.ntmps75
  go_wp2
  refine bodyPost_ret (v := .agg #[.int .i64 o.x, .int .i64 o.y]) ?_ rfl ⟨rfl, ?_⟩
  ·simp [results, Tryz.results75, go_sem]
  ·repeat' (first | exact Below.refl _ _ | refine Below.drew ?_ | refine Below.drewN' ?_ | refine Below.setCell ?_ (by first | omega | (simp; done) | exact Below.size (by assumption) | (simp; omega)) _ | refine Below.alloc ?_ (by first | omega | (simp; done) | exact Below.size (by assumption) | (simp; omega)) _ | refine Below.trans ?_ (Below.mono (by assumption) ?_) | (first | omega | (simp; done) | exact Below.size (by assumption) | (simp; omega)))
end Go.Proofs.YtibpaaajghbkoaaGreat

namespace Go.Proofs.YtibpaaajghbkoaaGreat
open Go.RowKit Go.Sort
theorem isNaNS (x : ByteArray) (w : World) : Calls Tryz.prog 144 #[.string x] w fun e w' => e = .returned (.bool false) ∧ w' = w := by
 go_enter Tryz.func144, Tryz.ntmps144
 go_wp2
 go_ret
 exact ⟨by simp, rfl⟩
set_option maxHeartbeats 1000000 in
theorem cmpS_any (x y : ByteArray) (w : World) : Calls Tryz.prog 104 #[.string x, .string y] w fun e w' => e = .returned (.int .i64 (cmpS x y)) ∧ w' = w := by
 have hn := fun z => isNaNS z
 cases h1 : ltB x y
 ·cases h2 : ltB y x
  ·have HR := Lib.hid (show cmpS x y = 0 by unfold cmpS; rw [h1, h2]; rfl)
   have h3 := bl_leq x.toList y.toList
   unfold ltB at h1 h2
   rw [h1, h2] at h3
   simp only [Bool.false_or, Bool.not_false] at h3
   go_enter Tryz.func104, Tryz.ntmps104
   go_wp2_with (go_at_call 144; refine (hn _ _).mono ?_; rintro e' w' ⟨rfl, rfl⟩)
   go_ret
   exact ⟨by rw [HR.out]; rfl, rfl⟩
  ·have HR := Lib.hid (show cmpS x y = 1 by unfold cmpS; rw [h1, h2]; rfl)
   have h3 := bl_leq x.toList y.toList
   unfold ltB at h1 h2
   rw [h1, h2] at h3
   simp only [Bool.false_or, Bool.not_true] at h3
   go_enter Tryz.func104, Tryz.ntmps104
   go_wp2_with (go_at_call 144; refine (hn _ _).mono ?_; rintro e' w' ⟨rfl, rfl⟩)
   go_ret
   exact ⟨by rw [HR.out]; rfl, rfl⟩
 ·have HR := Lib.hid (show cmpS x y = -1 by unfold cmpS; rw [h1]; rfl)
  unfold ltB at h1
  go_enter Tryz.func104, Tryz.ntmps104
  go_wp2_with (go_at_call 144; refine (hn _ _).mono ?_; rintro e' w' ⟨rfl, rfl⟩)
  go_ret
  exact ⟨by rw [HR.out]; rfl, rfl⟩
set_option maxHeartbeats 1000000 in
theorem orI_any (x y : Int) (B : Nat) (cap : Nat) (w : World) (h0 : w.cell? ⟨B, 0, none⟩ = some (.int .i64 x)) (h1 : w.cell? ⟨B, 1, none⟩ = some (.int .i64 y)) :
  Calls Tryz.prog 102 #[.slice (some ⟨B, 0, none⟩) 2 cap] w fun e w' => e = .returned (.int .i64 (if x = 0 then y else x)) ∧ w' = w := by
 obtain ⟨r, hr⟩ : ∃ r, r = if x = 0 then y else x := ⟨_, rfl⟩
 rw [← hr]
 by_cases hx : x = 0
 ·have HR := Lib.hid (show r = y by rw [hr, if_pos hx])
  clear hr
  have hxb : (x != 0) = false := by simp [hx]
  by_cases hy : y = 0
  ·have hyb : (y != 0) = false := by simp [hy]
   have HY := Lib.hid hy
   clear hx hy
   go_enter Tryz.func102, Tryz.ntmps102
   go_wp2
   refine wp_loop_rounds 3 ?_
   rw [rounds_succ]
   go_wp2
   rw [rounds_succ]
   go_wp2
   rw [rounds_succ]
   go_wp2
   go_ret
   exact ⟨by rw [HR.out, HY.out]; rfl, rfl⟩
  ·have hyb : (y != 0) = true := by simp [hy]
   clear hx hy
   go_enter Tryz.func102, Tryz.ntmps102
   go_wp2
   refine wp_loop_rounds 2 ?_
   rw [rounds_succ]
   go_wp2
   rw [rounds_succ]
   go_wp2
   go_ret
   exact ⟨by rw [HR.out]; rfl, rfl⟩
 ·have HR := Lib.hid (show r = x by rw [hr, if_neg hx])
  clear hr
  have hxb : (x != 0) = true := by simp [hx]
  clear hx
  go_enter Tryz.func102, Tryz.ntmps102
  go_wp2
  refine wp_loop_rounds 1 ?_
  rw [rounds_succ]
  go_wp2
  go_ret
  exact ⟨by rw [HR.out]; rfl, rfl⟩
end Go.Proofs.YtibpaaajghbkoaaGreat

namespace Go.Proofs.YtibpaaajghbkoaaGreat
open Go.RowKit Go.Lib Go.Sort Go.Shelf
def Grew (w w' : World) : Prop := ∃ q os, w' = grow (w.drewN q) os
theorem drewN_grow (w : World) (os : Array Obj) (q : Nat) : (grow w os).drewN q = grow (w.drewN q) os := rfl
theorem drewN_drewN (w : World) (p q : Nat) : (w.drewN p).drewN q = w.drewN (p + q) := by
 simp [World.drewN, Nat.add_assoc]
theorem Grew.refl (w : World) : Grew w w := ⟨0, #[], by rw [grow_empty]; rfl⟩
theorem Grew.trans {a b c : World} (h : Grew a b) (h2 : Grew b c) : Grew a c := by
 obtain ⟨q, os, rfl⟩ := h
 obtain ⟨q2, os2, rfl⟩ := h2
 exact ⟨q + q2, os ++ os2, by rw [drewN_grow, drewN_drewN, grow_grow]⟩
theorem Grew.alloc {a b : World} (h : Grew a b) (o : Obj) : Grew a (b.alloc o) := h.trans ⟨0, #[o], by rw [alloc_eq_grow]; rfl⟩
theorem Grew.drew {a b : World} (h : Grew a b) : Grew a b.drew := h.trans ⟨1, #[], by rw [grow_empty]; rfl⟩
theorem Grew.drewN {a b : World} (h : Grew a b) (n : Nat) : Grew a (b.drewN n) := h.trans ⟨n, #[], by rw [grow_empty]⟩
theorem Grew.below {a b : World} (h : Grew a b) : Below a.heap.size a b := by
 obtain ⟨q, os, rfl⟩ := h
 refine ⟨rfl, rfl, rfl, ?_, fun k hk => ?_⟩
 ·show a.heap.size ≤ (a.heap ++ os).size
  simp
 ·show (a.heap ++ os)[k]? = _
  rw [Array.getElem?_append_left hk]
section
variable {P : Program} {ρ : Ren} {α : Type} [Inhabited α]
theorem holdsK_own {enc : α → List Value} {k : Nat} (hk : ∀ x, (enc x).length = k) {w : World} {base g cap n : Nat} {e : TypeId} {l : List α} (hn : n = l.length) (h : w.ownsRow base e k (.slice (some ⟨g, 0, none⟩) n cap) n (l.flatMap enc)) : HoldsK enc k w g 0 l.toArray := by
 subst hn
 obtain ⟨_, ⟨h0, _⟩ | ⟨g', cap', cur, hv, hb, hc, h1, h2, h3, h4⟩⟩ := h
 ·cases h0
 ·obtain ⟨rfl, rfl⟩ : g = g' ∧ cap = cap' := by injection hv with a b c; injection a with a; injection a with a; exact ⟨a, c⟩
  intro j hj
  rw [size_flatK, List.size_toArray] at hj
  have hk0 : 0 < k := by
   rcases Nat.eq_zero_or_pos k with h | h
   ·subst h; simp at hj
   ·exact h
  have e1 : (flatK enc k l.toArray)[j]! = (enc l.toArray[j / k]!)[j % k]! := get_flatK _ _ _ _ (by simpa using hj)
  have hjk : j / k < l.length := Nat.div_lt_of_lt_mul (by rw [Nat.mul_comm]; exact hj)
  have hm : j % k < k := Nat.mod_lt _ hk0
  have e3 : j / k * k + j % k = j := by rw [Nat.mul_comm]; exact Nat.div_add_mod j k
  have hj2 : cur[j]? = some (enc l[j / k])[j % k]! := by
   have a := flat_get enc k hk l (j / k) (j % k) l[j / k] (List.getElem?_eq_getElem hjk) hm
   rw [e3, ← h4, List.getElem?_take, if_pos hj, Array.getElem?_toList] at a
   rw [a, List.getElem?_eq_getElem (by rw [hk]; exact hm), getElem!_pos _ _ (by rw [hk]; exact hm)]
  have e2 : l.toArray[j / k]! = l[j / k] := by rw [getElem!_pos _ _ (by simpa using hjk)]; simp
  refine ⟨?_, by simp [World.frozen?, hc]⟩
  rw [e1, e2]
  simp only [World.cell?, hc, Nat.zero_add, Option.isSome_none, Bool.false_eq_true, if_false, id]
  exact hj2
theorem own_sortWorld {enc : α → List Value} {k : Nat} (hk : ∀ x, (enc x).length = k) {w : World} {base g cap n m : Nat} {e : TypeId} {l : List α} {d : Array α} {os : Array Obj} (hd : d.size = n)
  (h : w.ownsRow base e k (.slice (some ⟨g, 0, none⟩) n cap) n (l.flatMap enc)) : (sortWorldK enc k w g 0 m d os).ownsRow base e k (.slice (some ⟨g, 0, none⟩) n cap) n (d.toList.flatMap enc) := by
 obtain ⟨_, ⟨h0, _⟩ | ⟨g', cap', cur, hv, hb, hc, h1, h2, h3, h4⟩⟩ := h
 ·cases h0
 ·obtain ⟨rfl, rfl⟩ : g = g' ∧ cap = cap' := by injection hv with a b c; injection a with a; injection a with a; exact ⟨a, c⟩
  have hgs : g < w.heap.size := lt_of_block hc
  have hle : n * k ≤ cur.size := by rw [h3]; exact Nat.mul_le_mul_right k h1
  refine ⟨by rw [flat_length enc k hk]; simp [hd], Or.inr ⟨g, cap, putCells id 0 (flatK enc k d) cur, rfl, hb, ?_, h1, h2, by simpa [putCells] using h3, ?_⟩⟩
  ·unfold sortWorldK putRowK
   show ((putRow id (Sort.ahead w m) g 0 (flatK enc k d)).heap ++ os)[g]? = _
   rw [Array.getElem?_append_left (by simpa [Sort.ahead] using hgs)]
   simp [putRow, mapBlock, Sort.ahead, Array.getElem?_modify, hc, onCells]
  ·apply List.ext_getElem?
   intro j
   rw [List.getElem?_take, Array.getElem?_toList]
   by_cases hj : j < n * k
   ·have hk0 : 0 < k := by
     rcases Nat.eq_zero_or_pos k with h | h
     ·subst h; simp at hj
     ·exact h
    have hjd : j < d.size * k := by rw [hd]; exact hj
    have hm : j % k < k := Nat.mod_lt _ hk0
    have hjk : j / k < d.size := Nat.div_lt_of_lt_mul (by rw [Nat.mul_comm]; exact hjd)
    have e3 : j / k * k + j % k = j := by rw [Nat.mul_comm]; exact Nat.div_add_mod j k
    have a := flat_get enc k hk d.toList (j / k) (j % k) d[j / k] (by rw [Array.getElem?_toList, Array.getElem?_eq_getElem hjk]) hm
    rw [e3] at a
    rw [if_pos hj, a, putCells, Array.getElem?_mapIdx, Array.getElem?_eq_getElem (by omega), Option.map_some]
    rw [if_pos ⟨by omega, by rw [size_flatK]; omega⟩, Nat.sub_zero, get_flatK _ _ _ _ hjd, getElem!_pos d _ hjk]
    rw [List.getElem?_eq_getElem (by rw [hk]; exact hm), getElem!_pos _ _ (by rw [hk]; exact hm)]; rfl
   ·rw [if_neg hj, List.getElem?_eq_none (by rw [flat_length enc k hk]; simp [hd]; omega)]
theorem grown_sortWorld {enc : α → List Value} {k : Nat} {w : World} {g cap n m : Nat} {d : Array α} {os : Array Obj} : w.grownBy (sortWorldK enc k w g 0 m d os) (Value.slice (some ⟨g, 0, none⟩) n cap).ownBlock := by
 refine ⟨rfl, rfl, rfl, ?_, fun i hi hne => ?_⟩
 ·unfold sortWorldK
  rw [size_grow, size_putRowK]
  show w.heap.size ≤ w.heap.size + _
  omega
 ·have hne' : g ≠ i := fun e => hne (by subst e; rfl)
  show ((w.heap.modify g _) ++ os)[i]? = _
  rw [Array.getElem?_append_left (by rw [Array.size_modify]; exact hi), Array.getElem?_modify, if_neg hne']
def SortPost (w : World) (base k : Nat) (e : TypeId) (v : Value) (n : Nat) (enc : α → List Value) (cf : α → α → Int) (l : List α) (en : Ending) (w' : World) : Prop :=
 en = .returned (.tuple #[]) ∧ ∃ l' : List α, l'.Perm l ∧ l'.Pairwise (fun x y => ltOf cf y x = false) ∧ w'.ownsRow base e k v n (l'.flatMap enc) ∧ w.grownBy w' v.ownBlock
theorem sort_own (L : SlLaysF0.n6 P ρ) (k : Nat) (aE : ∀ w, (isAgg (ρ.t 24)).run P w = .ok true w) (zE : ∀ w, (Go.sizeOf (ρ.t 24)).run P w = .ok k w) (enc : α → List Value) (hk : ∀ x, (enc x).length = k) (h1 : ∀ x, ∀ v ∈ enc x, v.oneCell' = true) (cf : α → α → Int) (hO : SWO (ltOf cf))
  (f : Nat) (cb : Array Value) (ef : ∀ args w, (callFunc f args).run P w = .ok (.enter f args) w) {w : World} {base n : Nat} {e : TypeId} {v : Value} {l : List α} (hn : n = l.length) (hsz : n < 4611686018427387904)
  (hcmp : ∀ W, w.grownBy W v.ownBlock → ∀ x y : α, Calls P f (#[.agg (enc x).toArray, .agg (enc y).toArray] ++ cb) W fun e w' => e = .returned (.int .i64 (cf x y)) ∧ Grew W w')
  (hrow : w.ownsRow base e k v n (l.flatMap enc)) : Calls P (ρ.f 6) #[v, .func (.func f) #[] cb] w (SortPost w base k e v n enc cf l) := by
 rcases hrow.2 with ⟨rfl, h0⟩ | ⟨g, cap, cur, rfl, hb, hc, h2, h3, h4, h5⟩
 ·have hl : l = [] := List.length_eq_zero_iff.1 (by omega)
  subst hl
  refine (AnyF.slices_SortFunc_none L none 0 (.func (.func f) #[] cb) w).mono ?_
  rintro en w' ⟨rfl, rfl⟩
  exact ⟨rfl, [], List.Perm.refl _, List.Pairwise.nil, hrow, World.grownBy.refl _ _⟩
 ·have hH := holdsK_own hk hn hrow
  have hs : l.toArray.size = n := by simp [hn]
  have hC : CmpLays P f cb enc k cf g 0 l.toArray.size w := fun m os dk hdk x y =>
   (hcmp _ (grown_sortWorld (n := n) (cap := cap)) x y).mono fun _ _ ⟨he, q, os', hw⟩ => ⟨he, q, os', hw⟩
  have := AnyQ.slices_SortFunc L k aE zE enc hk h1 cf hO f cb g 0 cap l.toArray w ef hC hH (lt_of_block hc) (by rw [hs]; exact hsz)
  rw [hs] at this
  refine this.mono ?_
  rintro en w' ⟨rfl, d', m, os, hp, hso, rfl⟩
  obtain ⟨hp1, _, hp3⟩ := hp
  have hd : d'.size = n := by rw [hp1, hs]
  have e0 : d'.extract 0 n = d' := by rw [← hd]; simp
  have e1 : l.toArray.extract 0 n = l.toArray := by rw [← hs]; simp
  rw [e0, e1] at hp3
  refine ⟨rfl, d'.toList, by simpa using hp3, ?_, own_sortWorld hk hd hrow, grown_sortWorld⟩
  rw [List.pairwise_iff_getElem]
  intro i j hi hj hij
  have hi' : i < d'.size := by simpa using hi
  have hj' : j < d'.size := by simpa using hj
  have := hso i j (Nat.zero_le _) hij (by omega)
  rw [getElem!_pos d' i hi', getElem!_pos d' j hj'] at this
  simpa using this
end
end Go.Proofs.YtibpaaajghbkoaaGreat
