/-  -/
import Derived.Test.YtibpaaajghbkoaaGreatTAc
import Derived.Test.YtibpaaajghbkoaaGreatTBg
namespace Go.Proofs.YtibpaaajghbkoaaGreat
open Go.ChangeShapes Go.WideShapes Go.ChangeAt Go.RowKit Go.Joins
section
variable {H : Type} {enc : TypeId × Value → H} {W : World}
instance : Inhabited ObM := ⟨(⟨⟨#[]⟩, 0, 0, 0, [], []⟩, .slice none 0 0, .slice none 0 0)⟩
set_option maxRecDepth 100000 in
theorem cap_strs {n : Nat} {c : Value} {y : DataW H × List MemPlace} (h : TrodW enc W n 31 [c] y) : CapV c := by
 rcases Go.Deep.open_slice1 Tryz.underlying31 cellsStr h with ⟨hcs, -⟩ | ⟨a, len, cap, m, k, V, D, Pl, hcs, -, hle, hm, hmm, hx, hel⟩
 ·simp at hcs
  subst hcs
  intro a n c e
  injection e
  omega
 ·simp at hcs
  subst hcs
  intro a n c e
  injection e
  omega
set_option maxRecDepth 100000 in
theorem open_objC {n : Nat} {cs : List Value} {y : DataW H × List MemPlace} (h : TrodW enc W n 36 cs y) (hl : Light 36 y.1) :
  ∃ x : ObM, cs = encOb x ∧ ObCap W x := by
 obtain ⟨xs, m, _, hy, hlc, hlen, hf⟩ := DataW.trod_struct Tryz.underlying36 h
 rw [cellsObj] at hlc
 match cs, hlc with
 |[c0, c1, c2, c3, c4, c5], _ =>
  match xs, hlen with
  |[y0, y1, y2, y3, y4], _ =>
   have g0 := hf 0 _ rfl
   have g1 := hf 1 _ rfl
   have g2 := hf 2 _ rfl
   have g3 := hf 3 _ rfl
   have g4 := hf 4 _ rfl
   simp [cellsPoint, cellsInt, cellsStr, cellsStrs, cellsTags] at g0 g1 g2 g3 g4
   obtain ⟨a0, a1, m', -, -, k0, k1⟩ := trod_struct2 Tryz.underlying33 g2
   simp [cellsInt] at k0 k1
   have hl' : Light 36 (.agg [y0.1, y1.1, y2.1, y3.1, y4.1]) := by rw [hy] at hl; simpa using hl
   obtain ⟨s0, e0, z0⟩ := open_str g0 (light_part Tryz.underlying36 hl' (j := 0) rfl rfl)
   obtain ⟨n1, e1, -, -⟩ := DataW.trod_int Tryz.underlying3 g1
   obtain ⟨n2, e2, -, -⟩ := DataW.trod_int Tryz.underlying3 k0
   obtain ⟨n3, e3, -, -⟩ := DataW.trod_int Tryz.underlying3 k1
   obtain ⟨rs, hr⟩ := open_strs g3 (light_part Tryz.underlying36 hl' (j := 3) rfl rfl)
   obtain ⟨ts, ht⟩ := open_tags g4 (light_part Tryz.underlying36 hl' (j := 4) rfl rfl)
   have hcap := cap_strs g3
   simp at e1 e2 e3
   subst e0 e1 e2 e3
   exact ⟨(⟨s0, n1, n2, n3, rs, ts⟩, c4, c5), rfl, ⟨hr, ht, z0⟩, hcap⟩
set_option maxRecDepth 100000 in
theorem open_objsC {n : Nat} {c : Value} {y : DataW H × List MemPlace} (h : TrodW enc W n 22 [c] y) (hl : Light 22 y.1) : ∃ l : List ObjD, ObjC W c l ∧ l.length ≤ 140737488355328 := by
 rcases Go.Deep.open_slice Tryz.underlying22 h with ⟨hcs, -⟩ | ⟨a, len, cap, m, k, D, Pl, hcs, -, hle, hm, hmm, hx, hel⟩
 ·simp at hcs
  subst hcs
  exact ⟨[], ⟨[], ⟨none, 0, rfl, fun h => by simp at h⟩, rfl, fun x hx => by cases hx⟩, by simp⟩
 ·simp at hcs
  subst hcs
  have hlm : len ≤ m := by rw [hmm]; split <;> omega
  have hx1 : y.1 = .slice ((List.range len).map D) ((List.range (m - len)).map fun j => D (len + j)) := by rw [hx]
  rw [hx1] at hl
  have each : ∀ i, i < len → ∃ x : ObM, (∀ j u, (encOb x)[j]? = some u → W.cell? (a.add (i * 6 + j)) = some u) ∧ ObCap W x := by
   intro i hi
   obtain ⟨cs', h1, h2⟩ := hel i (by omega)
   obtain ⟨x, rfl, hx⟩ := open_objC h2 (light_elem Tryz.underlying22 hl (List.mem_map.2 ⟨i, List.mem_range.2 hi, rfl⟩))
   rw [cellsObj] at h1
   obtain ⟨-, -, hc⟩ := World.cells?_some h1
   refine ⟨x, fun j u hu => ?_, hx⟩
   have hj : j < 6 := (List.getElem?_eq_some_iff.1 hu).1
   have := hc j hj
   rw [Go.Deep.add_add] at this
   rw [this, hu]
  obtain ⟨f, hf⟩ := Go.Deep.choose_lt (α := ObM) each
  have hlen := light_len Tryz.underlying22 (of_decide_eq_true (by kernel_rfl)) hl
  refine ⟨((List.range len).map f).map (·.1), ⟨(List.range len).map f, ⟨some a, cap, by simp, fun h0 => ?_⟩, rfl, fun x hx => ?_⟩, by simpa using hlen⟩
  ·obtain ⟨hp, -⟩ := hf 0 (by simpa using h0)
   have hp0 := hp 0 _ rfl
   rw [show a.add (0 * 6 + 0) = a by unfold Addr.add; simp] at hp0
   refine ⟨a.block, a.off, by rw [← addr_plain hp0], fun j x hx i u hu => ?_⟩
   have hil : j < len := by have := (List.getElem?_eq_some_iff.1 hx).1; simpa using this
   have hfs : f j = x := by simpa [hil] using hx
   have := (hf j hil).1 i u (by rw [hfs]; exact hu)
   rw [addr_plain hp0, Go.WideShapes.add_plain] at this
   rw [← Nat.add_assoc] at this
   exact this
  ·obtain ⟨i, hi, rfl⟩ := List.mem_map.1 hx
   exact (hf i (List.mem_range.1 hi)).2
end
set_option maxRecDepth 100000 in
theorem open_mapC {H : Type} {enc : TypeId × Value → H} {r : Reach} {b0 : Nat} {W : World} {v : Value} {d : DataW H} {p : List MemPlace}
  (hv : Value.okWide Tryz.prog W r b0 24 v) (h : DataW.Trod enc Tryz.prog W 0 (fun _ => true) true 24 v d p) (hl : Light 24 d) :
  ∃ (c : Value) (l : List ObjD), v = .agg #[c] ∧ ObjC W c l ∧ l.length ≤ 140737488355328 := by
 obtain ⟨cs, rfl, hsz⟩ := okWide_struct Tryz.underlying24 hv
 obtain ⟨c, rfl⟩ := array1 (hsz.trans cellsMap)
 obtain ⟨fuel, hf⟩ := h
 obtain ⟨xs, m, _, hy, hlc, hlen, hf'⟩ := DataW.trod_struct Tryz.underlying24 hf
 match xs, hlen with
 |[y0], _ =>
  have g0 := hf' 0 _ rfl
  simp [cellsObjs, Value.cells] at g0
  simp only [Prod.mk.injEq] at hy
  have hl' : Light 24 (.agg [y0.1]) := by rw [hy.1] at hl; simpa using hl
  obtain ⟨l, hl2⟩ := open_objsC g0 (light_part Tryz.underlying24 hl' (j := 0) rfl rfl)
  exact ⟨c, l, rfl, hl2⟩
end Go.Proofs.YtibpaaajghbkoaaGreat
