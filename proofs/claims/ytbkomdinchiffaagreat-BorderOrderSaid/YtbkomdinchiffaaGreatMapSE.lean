/- Arguments of a map, a segment, a text; no listed variables. -/
import Derived.Test.YtbkomdinchiffaaGreatObjMN
import Derived.ProofKit
import Derived.OpenShut
import Derived.SizedLaws
import Derived.Deep.SlicePairs
import Derived.Lib.SmallJoins
import Derived.Test.YtbkomdinchiffaaGreatChecked
import Derived.Test.YtbkomdinchiffaaGreatRows
namespace Go.Proofs.YtbkomdinchiffaaGreat
open Go.ChangeShapes Go.WideShapes Go.ChangeAt Go.RowKit Go.Joins

theorem own : ownKnob Tryz.prog.godebug = none := by kernel_rfl
theorem laidOut : laidOutB Tryz.prog = true := by kernel_rfl
theorem cellsPoint : Tryz.prog.cellsOf 37 = 2 := by kernel_rfl
theorem cellsInt : Tryz.prog.cellsOf 3 = 1 := by kernel_rfl
theorem cellsStr : Tryz.prog.cellsOf 9 = 1 := by kernel_rfl
theorem addr_plain {W : World} {a : Addr} {v : Value} (h : W.cell? a = some v) : a = ⟨a.block, a.off, none⟩ := by
  obtain ⟨b, o, sp⟩ := a
  cases sp with
  | none => rfl
  | some x =>
    unfold World.cell? at h
    simp at h
    split at h <;> simp at h
instance : Inhabited TagD := ⟨⟨⟨#[]⟩, ⟨#[]⟩⟩⟩
instance : Inhabited ObjD := ⟨⟨⟨#[]⟩, 0, 0, 0, [], []⟩⟩
/-- All of a datum's weights are within reach. -/
def Light {H : Type} (t : TypeId) (d : DataW H) : Prop := ∀ n ∈ d.weights Tryz.prog t, n ≤ reachBytes
theorem light_of {H : Type} {ts : List TypeId} {ds : List (DataW H)} (h : (DataW.weightsEach Tryz.prog ts ds).all (· ≤ reachBytes) = true) {j : Nat} {t : TypeId} {d : DataW H} (ht : ts[j]? = some t) (hd : ds[j]? = some d) : Light t d := by
  intro n hn
  simpa using List.all_eq_true.1 h n (DataW.weights_mem_each ht hd n hn)
theorem mem_weightsAll {H : Type} {P : Program} {e : TypeId} : ∀ {l : List (DataW H)} {d : DataW H}, d ∈ l → ∀ n ∈ d.weights P e, n ∈ DataW.weightsAll P e l
  | x :: l, d, hd, n, hn => by
    simp only [DataW.weightsAll, List.mem_append]
    rcases List.mem_cons.1 hd with rfl | hd
    · exact Or.inl hn
    · exact Or.inr (mem_weightsAll hd n hn)
theorem light_elem {H : Type} {t e : TypeId} {el sp : List (DataW H)} (hu : Tryz.prog.underlying t = some (.slice e)) (h : Light t (.slice el sp)) {d : DataW H} (hd : d ∈ el) : Light e d := by
  intro n hn
  refine h n ?_
  simp only [DataW.weights, hu, List.mem_cons, List.mem_append]
  exact Or.inr (Or.inl (mem_weightsAll hd n hn))
theorem light_len {H : Type} {t e : TypeId} {el sp : List (DataW H)} (hu : Tryz.prog.underlying t = some (.slice e)) (hb : 1 ≤ Tryz.prog.bytesOf e) (h : Light t (.slice el sp)) : el.length ≤ 140737488355328 := by
  have := h ((el.length + sp.length) * Tryz.prog.bytesOf e) (by simp [DataW.weights, hu])
  have h2 : el.length * 1 ≤ (el.length + sp.length) * Tryz.prog.bytesOf e := Nat.mul_le_mul (by omega) hb
  have h3 : reachBytes < 2 ^ 47 := reachBytes_lt
  omega
theorem light_part {H : Type} {t : TypeId} {fs : Array Field} {ps : List (DataW H)} (hu : Tryz.prog.underlying t = some (.struct fs)) (h : Light t (.agg ps)) {j : Nat} {e : TypeId} {d : DataW H} (he : (fs.toList.map (·.type))[j]? = some e) (hd : ps[j]? = some d) : Light e d := by
  intro n hn
  refine h n ?_
  simp only [DataW.weights, hu]
  exact DataW.weights_mem_each he hd n hn
theorem light_str {H : Type} {t : TypeId} {bs : List UInt8} (h : Light (H := H) t (.lit (.string bs))) : bs.length ≤ 140737488355328 := by
  have := h bs.length (by simp [DataW.weights])
  have h3 : reachBytes < 2 ^ 47 := reachBytes_lt
  omega

section
variable {H : Type} {enc : TypeId × Value → H} {W : World}
abbrev TrodW (enc : TypeId × Value → H) (W : World) (n : Nat) (t : TypeId) (cs : List Value) (y : DataW H × List MemPlace) : Prop := DataW.trod enc Tryz.prog W 0 (fun _ => true) true n t cs = some y

theorem open_str {n : Nat} {c : Value} {y : DataW H × List MemPlace} (h : TrodW enc W n 9 [c] y) (hl : Light 9 y.1) : ∃ s : ByteArray, c = .string s ∧ s.size ≤ 140737488355328 := by
  obtain ⟨s, e, hx, -⟩ := DataW.trod_string Tryz.underlying9 h
  simp at e
  rw [hx] at hl
  exact ⟨s, e, light_str hl⟩

set_option maxRecDepth 100000 in
/-- A slice of texts. -/
theorem open_strs {n : Nat} {c : Value} {y : DataW H × List MemPlace} (h : TrodW enc W n 41 [c] y) (hl : Light 41 y.1) : ∃ l : List ByteArray, StrRow W c l := by
  rcases Go.Deep.open_slice1 Tryz.underlying41 cellsStr h with ⟨hcs, -⟩ | ⟨a, len, cap, m, k, V, D, Pl, hcs, -, hle, hm, hmm, hx, hel⟩
  · simp at hcs
    subst hcs
    exact ⟨[], none, 0, rfl, by simp, by simp, fun h => by simp at h⟩
  · simp at hcs
    subst hcs
    have hlm : len ≤ m := by rw [hmm]; split <;> omega
    have hx1 : y.1 = .slice ((List.range len).map D) ((List.range (m - len)).map fun j => D (len + j)) := by rw [hx]
    rw [hx1] at hl
    have each : ∀ i, i < len → ∃ s : ByteArray, W.cell? (a.add i) = some (.string s) ∧ s.size ≤ 140737488355328 := by
      intro i hi
      obtain ⟨h1, h2⟩ := hel i (by omega)
      obtain ⟨s, hs, hz⟩ := open_str h2 (light_elem Tryz.underlying41 hl (List.mem_map.2 ⟨i, List.mem_range.2 hi, rfl⟩))
      exact ⟨s, by rw [h1, hs], hz⟩
    obtain ⟨f, hf⟩ := Go.Deep.choose_lt each
    have hlen := light_len Tryz.underlying41 (of_decide_eq_true (by kernel_rfl)) hl
    refine ⟨(List.range len).map f, some a, cap, by simp, by simpa using hlen, fun s hs => ?_, fun h0 => ?_⟩
    · obtain ⟨i, hi, rfl⟩ := List.mem_map.1 hs
      exact (hf i (List.mem_range.1 hi)).2
    · have hp0 := (hf 0 (by simpa using h0)).1
      rw [show a.add 0 = a by unfold Addr.add; simp] at hp0
      refine ⟨a.block, a.off, by rw [← addr_plain hp0], fun i s hi => ?_⟩
      have hil : i < len := by have := (List.getElem?_eq_some_iff.1 hi).1; simpa using this
      have hfs : f i = s := by simpa [hil] using hi
      have := (hf i hil).1
      rw [addr_plain hp0, Go.WideShapes.add_plain, hfs] at this
      exact this

set_option maxRecDepth 100000 in
/-- A slice of tags. -/
theorem open_tags {n : Nat} {c : Value} {y : DataW H × List MemPlace} (h : TrodW enc W n 57 [c] y) (hl : Light 57 y.1) : ∃ l : List TagD, TagRow W c l := by
  rcases Go.Deep.open_slice_pairs Tryz.underlying57 Tryz.underlying73 (by kernel_rfl) rfl rfl cellsStr cellsStr h with ⟨hcs, -⟩ | ⟨a, len, cap, m, k, V0, V1, D0, D1, P0, P1, hcs, -, hle, hm, hmm, hx, hel⟩
  · simp at hcs
    subst hcs
    exact ⟨[], none, 0, rfl, by simp, by simp, fun h => by simp at h⟩
  · simp at hcs
    subst hcs
    have hlm : len ≤ m := by rw [hmm]; split <;> omega
    have hx1 : y.1 = .slice ((List.range len).map fun i => .agg [D0 i, D1 i]) ((List.range (m - len)).map fun j => .agg [D0 (len + j), D1 (len + j)]) := by rw [hx]
    rw [hx1] at hl
    have each : ∀ i, i < len → ∃ t : TagD, W.cell? (a.add (i * 2)) = some (.string t.key) ∧ W.cell? (a.add (i * 2 + 1)) = some (.string t.val) ∧ t.key.size ≤ 140737488355328 ∧ t.val.size ≤ 140737488355328 := by
      intro i hi
      obtain ⟨h1, h2, h3, h4⟩ := hel i (by omega)
      have he := light_elem Tryz.underlying57 hl (List.mem_map.2 ⟨i, List.mem_range.2 hi, rfl⟩)
      obtain ⟨s, hs, hz⟩ := open_str h3 (light_part Tryz.underlying73 he (j := 0) rfl rfl)
      obtain ⟨s', hs', hz'⟩ := open_str h4 (light_part Tryz.underlying73 he (j := 1) rfl rfl)
      exact ⟨⟨s, s'⟩, by rw [h1, hs], by rw [h2, hs'], hz, hz'⟩
    obtain ⟨f, hf⟩ := Go.Deep.choose_lt (α := TagD) each
    have hlen := light_len Tryz.underlying57 (of_decide_eq_true (by kernel_rfl)) hl
    refine ⟨(List.range len).map f, some a, cap, by simp, by simpa using hlen, fun s hs => ?_, fun h0 => ?_⟩
    · obtain ⟨i, hi, rfl⟩ := List.mem_map.1 hs
      exact (hf i (List.mem_range.1 hi)).2.2
    · have hp0 := (hf 0 (by simpa using h0)).1
      rw [show a.add (0 * 2) = a by unfold Addr.add; simp] at hp0
      refine ⟨a.block, a.off, by rw [← addr_plain hp0], fun i s hi => ?_⟩
      have hil : i < len := by have := (List.getElem?_eq_some_iff.1 hi).1; simpa using this
      have hfs : f i = s := by simpa [hil] using hi
      have h2 := hf i hil
      rw [addr_plain hp0, Go.WideShapes.add_plain, Go.WideShapes.add_plain, hfs] at h2
      exact ⟨h2.1, h2.2.1⟩

theorem cellsObj : Tryz.prog.cellsOf 59 = 6 := by kernel_rfl
theorem cellsStrs : Tryz.prog.cellsOf 41 = 1 := by kernel_rfl
theorem cellsTags : Tryz.prog.cellsOf 57 = 1 := by kernel_rfl
set_option maxRecDepth 100000 in
theorem open_obj {n : Nat} {cs : List Value} {y : DataW H × List MemPlace} (h : TrodW enc W n 59 cs y) (hl : Light 59 y.1) :
    ∃ (o : ObjD) (vr vt : Value), cs = [.string o.id, .int .i64 o.kind, .int .i64 o.x, .int .i64 o.y, vr, vt] ∧ StrRow W vr o.refs ∧ TagRow W vt o.tags ∧ o.id.size ≤ 140737488355328 := by
  obtain ⟨xs, m, _, hy, hlc, hlen, hf⟩ := DataW.trod_struct Tryz.underlying59 h
  rw [cellsObj] at hlc
  match cs, hlc with
  | [c0, c1, c2, c3, c4, c5], _ =>
    match xs, hlen with
    | [y0, y1, y2, y3, y4], _ =>
      have g0 := hf 0 _ rfl
      have g1 := hf 1 _ rfl
      have g2 := hf 2 _ rfl
      have g3 := hf 3 _ rfl
      have g4 := hf 4 _ rfl
      simp [cellsPoint, cellsInt, cellsStr, cellsStrs, cellsTags] at g0 g1 g2 g3 g4
      obtain ⟨a0, a1, m', -, -, k0, k1⟩ := trod_struct2 Tryz.underlying37 g2
      simp [cellsInt] at k0 k1
      have hl' : Light 59 (.agg [y0.1, y1.1, y2.1, y3.1, y4.1]) := by rw [hy] at hl; simpa using hl
      obtain ⟨s0, e0, z0⟩ := open_str g0 (light_part Tryz.underlying59 hl' (j := 0) rfl rfl)
      obtain ⟨n1, e1, -, -⟩ := DataW.trod_int Tryz.underlying3 g1
      obtain ⟨n2, e2, -, -⟩ := DataW.trod_int Tryz.underlying3 k0
      obtain ⟨n3, e3, -, -⟩ := DataW.trod_int Tryz.underlying3 k1
      obtain ⟨rs, hr⟩ := open_strs g3 (light_part Tryz.underlying59 hl' (j := 3) rfl rfl)
      obtain ⟨ts, ht⟩ := open_tags g4 (light_part Tryz.underlying59 hl' (j := 4) rfl rfl)
      simp at e1 e2 e3
      subst e0 e1 e2 e3
      exact ⟨⟨s0, n1, n2, n3, rs, ts⟩, c4, c5, rfl, hr, ht, z0⟩
set_option maxRecDepth 100000 in
theorem open_objs {n : Nat} {c : Value} {y : DataW H × List MemPlace} (h : TrodW enc W n 22 [c] y) (hl : Light 22 y.1) : ∃ l : List ObjD, ObjsIs W c l := by
  rcases Go.Deep.open_slice Tryz.underlying22 h with ⟨hcs, -⟩ | ⟨a, len, cap, m, k, D, Pl, hcs, -, hle, hm, hmm, hx, hel⟩
  · simp at hcs
    subst hcs
    exact ⟨[], none, 0, rfl, by simp, fun h => by simp at h⟩
  · simp at hcs
    subst hcs
    have hlm : len ≤ m := by rw [hmm]; split <;> omega
    have hx1 : y.1 = .slice ((List.range len).map D) ((List.range (m - len)).map fun j => D (len + j)) := by rw [hx]
    rw [hx1] at hl
    have each : ∀ i, i < len → ∃ o : ObjD, ∃ vr vt : Value, (∀ j u, ([.string o.id, .int .i64 o.kind, .int .i64 o.x, .int .i64 o.y, vr, vt] : List Value)[j]? = some u → W.cell? (a.add (i * 6 + j)) = some u) ∧ StrRow W vr o.refs ∧ TagRow W vt o.tags ∧ o.id.size ≤ 140737488355328 := by
      intro i hi
      obtain ⟨cs', h1, h2⟩ := hel i (by omega)
      obtain ⟨o, vr, vt, rfl, hr, ht, hz⟩ := open_obj h2 (light_elem Tryz.underlying22 hl (List.mem_map.2 ⟨i, List.mem_range.2 hi, rfl⟩))
      rw [cellsObj] at h1
      obtain ⟨-, -, hc⟩ := World.cells?_some h1
      refine ⟨o, vr, vt, fun j u hu => ?_, hr, ht, hz⟩
      have hj : j < 6 := (List.getElem?_eq_some_iff.1 hu).1
      have := hc j hj
      rw [Go.Deep.add_add] at this
      rw [this, hu]
    obtain ⟨f, hf⟩ := Go.Deep.choose_lt (α := ObjD) each
    have hlen := light_len Tryz.underlying22 (of_decide_eq_true (by kernel_rfl)) hl
    refine ⟨(List.range len).map f, some a, cap, by simp, by simpa using hlen, fun h0 => ?_⟩
    obtain ⟨vr0, vt0, hp, -⟩ := hf 0 (by simpa using h0)
    have hp0 := hp 0 _ rfl
    rw [show a.add (0 * 6 + 0) = a by unfold Addr.add; simp] at hp0
    refine ⟨a.block, a.off, by rw [← addr_plain hp0], fun i o hi => ?_⟩
    have hil : i < len := by have := (List.getElem?_eq_some_iff.1 hi).1; simpa using this
    have hfs : f i = o := by simpa [hil] using hi
    obtain ⟨vr, vt, hc, hr, ht, hz⟩ := hf i hil
    rw [hfs] at hc hr ht hz
    have hcc : ∀ j u, ([.string o.id, .int .i64 o.kind, .int .i64 o.x, .int .i64 o.y, vr, vt] : List Value)[j]? = some u → W.cell? ⟨a.block, a.off + (i * 6 + j), none⟩ = some u := fun j u hu => by
      have := hc j u hu
      rwa [addr_plain hp0, Go.WideShapes.add_plain] at this
    exact ⟨vr, vt, hcc 0 _ rfl, hcc 1 _ rfl, hcc 2 _ rfl, hcc 3 _ rfl, hcc 4 _ rfl, hcc 5 _ rfl, hr, ht, hz⟩
end
theorem cellsMap : Tryz.prog.cellsOf 24 = 1 := by kernel_rfl
theorem cellsObjs : Tryz.prog.cellsOf 22 = 1 := by kernel_rfl
theorem array1 {α : Type} {cs : Array α} (h : cs.size = 1) : ∃ c, cs = #[c] := by
  obtain ⟨l⟩ := cs
  match l, h with
  | [c], _ => exact ⟨c, rfl⟩
set_option maxRecDepth 100000 in
/-- An argument of type api.Map. -/
theorem open_map {H : Type} {enc : TypeId × Value → H} {r : Reach} {b0 : Nat} {W : World} {v : Value} {d : DataW H} {p : List MemPlace}
    (hv : Value.okWide Tryz.prog W r b0 24 v) (h : DataW.Trod enc Tryz.prog W 0 (fun _ => true) true 24 v d p) (hl : Light 24 d) :
    ∃ (c : Value) (l : List ObjD), v = .agg #[c] ∧ ObjsIs W c l := by
  obtain ⟨cs, rfl, hsz⟩ := okWide_struct Tryz.underlying24 hv
  obtain ⟨c, rfl⟩ := array1 (hsz.trans cellsMap)
  obtain ⟨fuel, hf⟩ := h
  obtain ⟨xs, m, _, hy, hlc, hlen, hf'⟩ := DataW.trod_struct Tryz.underlying24 hf
  match xs, hlen with
  | [y0], _ =>
    have g0 := hf' 0 _ rfl
    simp [cellsObjs, Value.cells] at g0
    simp only [Prod.mk.injEq] at hy
    have hl' : Light 24 (.agg [y0.1]) := by rw [hy.1] at hl; simpa using hl
    obtain ⟨l, hl2⟩ := open_objs g0 (light_part Tryz.underlying24 hl' (j := 0) rfl rfl)
    exact ⟨c, l, rfl, hl2⟩
set_option maxRecDepth 100000 in
/-- An argument of type []string. -/
theorem open_texts {H : Type} {enc : TypeId × Value → H} {r : Reach} {b0 : Nat} {W : World} {v : Value} {d : DataW H} {p : List MemPlace}
    (hv : Value.okWide Tryz.prog W r b0 41 v) (h : DataW.Trod enc Tryz.prog W 0 (fun _ => true) true 41 v d p) (hl : Light 41 d) : ∃ l : List ByteArray, StrRow W v l := by
  obtain ⟨a0, len, cap, rfl⟩ := okWide_slice Tryz.underlying41 hv
  obtain ⟨fuel, hf⟩ := h
  exact open_strs (y := (d, p)) (by simpa [Value.cells] using hf) hl
end Go.Proofs.YtbkomdinchiffaaGreat
