/-    -/
import Derived.Test.YtibpaaajghbkoaaGreatUAc
import Derived.Test.YtibpaaajghbkoaaGreatUBg
import Derived.Test.YtibpaaajghbkoaaGreatUAn
import Derived.Test.YtibpaaajghbkoaaGreatUAe
import Derived.Deep.LoopGhost
import Derived.Test.YtibpaaajghbkoaaGreatUAl
namespace Go.Proofs.YtibpaaajghbkoaaGreat
open Go.ChangeShapes Go.WideShapes Go.ChangeAt Go.RowKit Go.Joins
section
variable {H : Type} {enc : TypeId × Value → H} {W : World}
instance : Inhabited ObM := ⟨(⟨⟨#[]⟩, 0, 0, 0, [], []⟩, .slice none 0 0, .slice none 0 0)⟩
set_option maxRecDepth 100000 in
theorem cap_strs {n : Nat} {c : Value} {y : DataW H × List MemPlace} (h : TrodW enc W n 31 [c] y) : CapV c := by
 rcases Go.Deep.open_slice1 Tryz.underlying31 cellsStr h with ⟨hcs, -⟩ | ⟨a, len, cap, m, k, V, D, Pl, hcs, -, hle, hm, hmm, hx, hel⟩
 ·simp at hcs
  subst hcs
  intro a n c e
  injection e
  omega
 ·simp at hcs
  subst hcs
  intro a n c e
  injection e
  omega
set_option maxRecDepth 100000 in
theorem open_objC {n : Nat} {cs : List Value} {y : DataW H × List MemPlace} (h : TrodW enc W n 36 cs y) (hl : Light 36 y.1) :
  ∃ x : ObM, cs = encOb x ∧ ObCap W x := by
 obtain ⟨xs, m, _, hy, hlc, hlen, hf⟩ := DataW.trod_struct Tryz.underlying36 h
 rw [cellsObj] at hlc
 match cs, hlc with
 |[c0, c1, c2, c3, c4, c5], _ =>
  match xs, hlen with
  |[y0, y1, y2, y3, y4], _ =>
   have g0 := hf 0 _ rfl
   have g1 := hf 1 _ rfl
   have g2 := hf 2 _ rfl
   have g3 := hf 3 _ rfl
   have g4 := hf 4 _ rfl
   simp [cellsPoint, cellsInt, cellsStr, cellsStrs, cellsTags] at g0 g1 g2 g3 g4
   obtain ⟨a0, a1, m', -, -, k0, k1⟩ := trod_struct2 Tryz.underlying33 g2
   simp [cellsInt] at k0 k1
   have hl' : Light 36 (.agg [y0.1, y1.1, y2.1, y3.1, y4.1]) := by rw [hy] at hl; simpa using hl
   obtain ⟨s0, e0, z0⟩ := open_str g0 (light_part Tryz.underlying36 hl' (j := 0) rfl rfl)
   obtain ⟨n1, e1, -, -⟩ := DataW.trod_int Tryz.underlying3 g1
   obtain ⟨n2, e2, -, -⟩ := DataW.trod_int Tryz.underlying3 k0
   obtain ⟨n3, e3, -, -⟩ := DataW.trod_int Tryz.underlying3 k1
   obtain ⟨rs, hr⟩ := open_strs g3 (light_part Tryz.underlying36 hl' (j := 3) rfl rfl)
   obtain ⟨ts, ht⟩ := open_tags g4 (light_part Tryz.underlying36 hl' (j := 4) rfl rfl)
   have hcap := cap_strs g3
   simp at e1 e2 e3
   subst e0 e1 e2 e3
   exact ⟨(⟨s0, n1, n2, n3, rs, ts⟩, c4, c5), rfl, ⟨hr, ht, z0⟩, hcap⟩
set_option maxRecDepth 100000 in
theorem open_objsC {n : Nat} {c : Value} {y : DataW H × List MemPlace} (h : TrodW enc W n 22 [c] y) (hl : Light 22 y.1) : ∃ l : List ObjD, ObjC W c l ∧ l.length ≤ 140737488355328 := by
 rcases Go.Deep.open_slice Tryz.underlying22 h with ⟨hcs, -⟩ | ⟨a, len, cap, m, k, D, Pl, hcs, -, hle, hm, hmm, hx, hel⟩
 ·simp at hcs
  subst hcs
  exact ⟨[], ⟨[], ⟨none, 0, rfl, fun h => by simp at h⟩, rfl, fun x hx => by cases hx⟩, by simp⟩
 ·simp at hcs
  subst hcs
  have hlm : len ≤ m := by rw [hmm]; split <;> omega
  have hx1 : y.1 = .slice ((List.range len).map D) ((List.range (m - len)).map fun j => D (len + j)) := by rw [hx]
  rw [hx1] at hl
  have each : ∀ i, i < len → ∃ x : ObM, (∀ j u, (encOb x)[j]? = some u → W.cell? (a.add (i * 6 + j)) = some u) ∧ ObCap W x := by
   intro i hi
   obtain ⟨cs', h1, h2⟩ := hel i (by omega)
   obtain ⟨x, rfl, hx⟩ := open_objC h2 (light_elem Tryz.underlying22 hl (List.mem_map.2 ⟨i, List.mem_range.2 hi, rfl⟩))
   rw [cellsObj] at h1
   obtain ⟨-, -, hc⟩ := World.cells?_some h1
   refine ⟨x, fun j u hu => ?_, hx⟩
   have hj : j < 6 := (List.getElem?_eq_some_iff.1 hu).1
   have := hc j hj
   rw [Go.Deep.add_add] at this
   rw [this, hu]
  obtain ⟨f, hf⟩ := Go.Deep.choose_lt (α := ObM) each
  have hlen := light_len Tryz.underlying22 (of_decide_eq_true (by kernel_rfl)) hl
  refine ⟨((List.range len).map f).map (·.1), ⟨(List.range len).map f, ⟨some a, cap, by simp, fun h0 => ?_⟩, rfl, fun x hx => ?_⟩, by simpa using hlen⟩
  ·obtain ⟨hp, -⟩ := hf 0 (by simpa using h0)
   have hp0 := hp 0 _ rfl
   rw [show a.add (0 * 6 + 0) = a by unfold Addr.add; simp] at hp0
   refine ⟨a.block, a.off, by rw [← addr_plain hp0], fun j x hx i u hu => ?_⟩
   have hil : j < len := by have := (List.getElem?_eq_some_iff.1 hx).1; simpa using this
   have hfs : f j = x := by simpa [hil] using hx
   have := (hf j hil).1 i u (by rw [hfs]; exact hu)
   rw [addr_plain hp0, Go.WideShapes.add_plain] at this
   rw [← Nat.add_assoc] at this
   exact this
  ·obtain ⟨i, hi, rfl⟩ := List.mem_map.1 hx
   exact (hf i (List.mem_range.1 hi)).2
end
set_option maxRecDepth 100000 in
theorem open_mapC {H : Type} {enc : TypeId × Value → H} {r : Reach} {b0 : Nat} {W : World} {v : Value} {d : DataW H} {p : List MemPlace}
  (hv : Value.okWide Tryz.prog W r b0 24 v) (h : DataW.Trod enc Tryz.prog W 0 (fun _ => true) true 24 v d p) (hl : Light 24 d) :
  ∃ (c : Value) (l : List ObjD), v = .agg #[c] ∧ ObjC W c l ∧ l.length ≤ 140737488355328 := by
 obtain ⟨cs, rfl, hsz⟩ := okWide_struct Tryz.underlying24 hv
 obtain ⟨c, rfl⟩ := array1 (hsz.trans cellsMap)
 obtain ⟨fuel, hf⟩ := h
 obtain ⟨xs, m, _, hy, hlc, hlen, hf'⟩ := DataW.trod_struct Tryz.underlying24 hf
 match xs, hlen with
 |[y0], _ =>
  have g0 := hf' 0 _ rfl
  simp [cellsObjs, Value.cells] at g0
  simp only [Prod.mk.injEq] at hy
  have hl' : Light 24 (.agg [y0.1]) := by rw [hy.1] at hl; simpa using hl
  obtain ⟨l, hl2⟩ := open_objsC g0 (light_part Tryz.underlying24 hl' (j := 0) rfl rfl)
  exact ⟨c, l, rfl, hl2⟩
end Go.Proofs.YtibpaaajghbkoaaGreat

namespace Go.Proofs.YtibpaaajghbkoaaGreat
open Go.RowKit
def PlaceO (id : ByteArray) (l : List ObjD) (i : Nat) : Prop := i ≤ l.length ∧ (∀ t o, t < i → l[t]? = some o → ltB o.id id = true) ∧ ∀ t o, i ≤ t → l[t]? = some o → ltB o.id id = false
set_option maxHeartbeats 1000000 in
theorem atC_any (id : ByteArray) (kind x y : Int) (vr vt : Value) (refs : List ByteArray) (tags : List TagD) (t : ByteArray) (w : World) (hr : StrRow w vr refs) (ht : TagRow w vt tags) :
  Calls Tryz.prog 93 #[.agg #[.string id, .int .i64 kind, .int .i64 x, .int .i64 y, vr, vt], .string t] w fun e w' => e = .returned (.int .i64 (Lib.compareBytes id.data.toList t.data.toList)) ∧ Below w.heap.size w w' := by
 have SC := Lib.hid (fun w => Tryz.strings_Compare id t w)
 generalize Lib.compareBytes id.data.toList t.data.toList = c at SC ⊢
 obtain ⟨ar, capr, rfl, _⟩ := hr
 obtain ⟨at1, capt, rfl, _⟩ := ht
 go_enter Tryz.func93, Tryz.ntmps93
 go_wp2_with fail
 refine (SC.out _).mono ?_
 rintro e w2 ⟨rfl, rfl⟩
 go_wp2
 go_ret
 exact ⟨rfl, (Below.refl _ _).alloc (Nat.le_refl _) _⟩
def BinPost (id : ByteArray) (l : List ObjD) (w : World) (e : Ending) (w' : World) : Prop :=
 (∃ (i : Nat) (b : Bool), e = .returned (.tuple #[.int .i64 i, .bool b]) ∧ b = (posO id l).isSome ∧ (∀ j, posO id l = some j → i = j) ∧ PlaceO id l i) ∧ Below w.heap.size w w'
set_option maxRecDepth 100000 in
set_option maxHeartbeats 2000000 in
theorem bin_any (v : Value) (l : List ObjD) (id : ByteArray) (w : World) (hv : ObjsIs w v l) (hl : l.length ≤ 1000000) (hs : ∀ (i j : Nat) (x y : ObjD), i < j → l[i]? = some x → l[j]? = some y → ltB x.id y.id = true) :
  Calls Tryz.prog 92 #[v, .string id, .func (.func 93) #[] #[]] w (BinPost id l w) := by
 obtain ⟨a, cap, rfl, hn, hc⟩ := hv
 generalize hN : l.length = N at *
 have HN := Lib.hid hN
 have HC := Lib.hid hc
 have HS := Lib.hid hs
 have CM := Lib.hid (fun (o : ObjD) (vr vt : Value) w h1 h2 => atC_any o.id o.kind o.x o.y vr vt o.refs o.tags id w h1 h2)
 clear hN hc hs
 go_enter Tryz.func92, Tryz.ntmps92
 go_wp2
 go_loopg [9, 10] N (fun kx s9 s10 wr => ∃ lo hi : Nat, s9 = .int .i64 lo ∧ s10 = .int .i64 hi ∧ lo ≤ hi ∧ hi ≤ N ∧ hi - lo ≤ kx ∧ Below w.heap.size w wr ∧
  Hid ((∀ t o, t < lo → l[t]? = some o → ltB o.id id = true) ∧ (∀ t o, hi ≤ t → l[t]? = some o → ltB o.id id = false)))
 case atStart => exact ⟨0, N, rfl, rfl, Nat.zero_le _, Nat.le_refl _, by omega, Below.refl _ _, Lib.hid ⟨fun t o ht => absurd ht (Nat.not_lt_zero _), fun t o h1 h2 => by have := (List.getElem?_eq_some_iff.1 h2).1; rw [HN.out] at this; omega⟩⟩
 case round =>
  obtain ⟨lo, hi, rfl, rfl, hlh, hin, hg, hbr, I⟩ := hrel
  by_cases hlt : lo < hi
  ·have hltz : (lo : Int) < (hi : Int) := by omega
   obtain ⟨c, hcc⟩ : ∃ c, c = (lo + hi) / 2 := ⟨_, rfl⟩
   have hczz : ((lo : Int) + (hi : Int)) / 2 = (c : Int) := by omega
   have hlc : lo ≤ c := by omega
   have hch : c < hi := by omega
   have hcN : c < N := by omega
   clear hcc
   obtain ⟨o, ho⟩ : ∃ o, l[c]? = some o := ⟨l[c]'(by rw [HN.out]; exact hcN), List.getElem?_eq_getElem _⟩
   obtain ⟨b, off, ha, hcell⟩ := HC.out (by omega)
   subst ha
   obtain ⟨vr, vt, c0, c1, c2, c3, c4, c5, hr, ht, hz⟩ := (hcell c o ho).later hbr
   have HR := Lib.hid hr
   have HTG := Lib.hid ht
   obtain ⟨ar, capr, evr, _⟩ := hr
   obtain ⟨at1, capt, evt, _⟩ := ht
   subst evr evt
   have bz := lt_of_cell c0
   have HO := Lib.hid ho
   have CL := Lib.hid (comp_lt o.id id)
   clear hcell ho
   go_wp2_with fail
   refine (CM.out o _ _ _ HR.out HTG.out).mono ?_
   rintro e w2 ⟨rfl, hb2⟩
   have B2 := below_step hbr (Nat.le_refl _) hb2
   clear c0 c1 c2 c3 c4 c5
   cases hlo : ltB o.id id with
   |true =>
    have hneg : Lib.compareBytes o.id.data.toList id.data.toList < 0 := CL.out.2 hlo
    have I2 : Hid ((∀ t o, t < c + 1 → l[t]? = some o → ltB o.id id = true) ∧ (∀ t o, hi ≤ t → l[t]? = some o → ltB o.id id = false)) := Lib.hid ⟨fun t o' ht h' => by
     rcases Nat.lt_or_eq_of_le (Nat.le_of_lt_succ ht) with h | h
     ·exact ltB_trans (HS.out t c o' o h h' HO.out) hlo
     ·subst h; rw [HO.out] at h'; cases h'; exact hlo, I.out.2⟩
    generalize Lib.compareBytes o.id.data.toList id.data.toList = cv at hneg CL
    clear hlo CL I
    go_wp2
    go_roundg (hi - (c + 1))
    case measure => omega
    case rel => exact ⟨c + 1, hi, by go_num, rfl, by omega, hin, by omega, B2, I2⟩
   |false =>
    have hneg : ¬ Lib.compareBytes o.id.data.toList id.data.toList < 0 := fun h => by have := CL.out.1 h; rw [hlo] at this; cases this
    have I2 : Hid ((∀ t o, t < lo → l[t]? = some o → ltB o.id id = true) ∧ (∀ t o, c ≤ t → l[t]? = some o → ltB o.id id = false)) := Lib.hid ⟨I.out.1, fun t o' ht h' => by
     rcases Nat.lt_or_eq_of_le ht with h | h
     ·cases hx : ltB o'.id id with
      |false => rfl
      |true => have := ltB_trans (HS.out c t o o' h HO.out h') hx; rw [hlo] at this; cases this
     ·subst h; rw [HO.out] at h'; cases h'; exact hlo⟩
    generalize Lib.compareBytes o.id.data.toList id.data.toList = cv at hneg CL
    clear hlo CL I
    go_wp2
    go_roundg (c - lo)
    case measure => omega
    case rel => exact ⟨lo, c, rfl, by go_num, by omega, by omega, by omega, B2, I2⟩
  ·obtain rfl : lo = hi := by omega
   have F := Lib.hid (bin_found HS.out I.out.1 I.out.2)
   have HPL : Hid (PlaceO id l lo) := Lib.hid ⟨by rw [HN.out]; exact hin, I.out.1, I.out.2⟩
   clear I
   by_cases hNl : lo < N
   ·have hNz : (lo : Int) < (N : Int) := by omega
    obtain ⟨o, ho⟩ : ∃ o, l[lo]? = some o := ⟨l[lo]'(by rw [HN.out]; exact hNl), List.getElem?_eq_getElem _⟩
    obtain ⟨b, off, ha, hcell⟩ := HC.out (by omega)
    subst ha
    obtain ⟨vr, vt, c0, c1, c2, c3, c4, c5, hr, ht, hz⟩ := (hcell lo o ho).later hbr
    have HR := Lib.hid hr
    have HTG := Lib.hid ht
    obtain ⟨ar, capr, evr, _⟩ := hr
    obtain ⟨at1, capt, evt, _⟩ := ht
    subst evr evt
    have bz := lt_of_cell c0
    have HO := Lib.hid ho
    have CL := Lib.hid (comp_eq o.id id)
    clear hcell ho
    have hltz : ¬ (lo : Int) < (lo : Int) := by omega
    go_wp2_with fail
    refine (CM.out o _ _ _ HR.out HTG.out).mono ?_
    rintro e w2 ⟨rfl, hb2⟩
    have B2 := below_step hbr (Nat.le_refl _) hb2
    clear c0 c1 c2 c3 c4 c5
    by_cases he : o.id = id
    ·have HP := Lib.hid (F.out.1 o HO.out he)
     have hc0 : (Lib.compareBytes o.id.data.toList id.data.toList == 0) = true := by rw [beq_iff_eq]; exact CL.out.2 he
     generalize Lib.compareBytes o.id.data.toList id.data.toList = cv at hc0 CL
     clear CL he
     go_wp2
     go_ret2
     exact ⟨⟨lo, true, rfl, by rw [HP.out]; rfl, (fun j h => by rw [HP.out] at h; injection h), HPL.out⟩, B2⟩
    ·have HP := Lib.hid (show posO id l = none by
      cases hp : posO id l with
      |none => rfl
      |some j => obtain ⟨_, o', ho', e⟩ := F.out.2 j hp; rw [HO.out] at ho'; cases ho'; exact absurd e he)
     have hc0 : (Lib.compareBytes o.id.data.toList id.data.toList == 0) = false := by rw [beq_eq_false_iff_ne]; exact fun h => he (CL.out.1 h)
     generalize Lib.compareBytes o.id.data.toList id.data.toList = cv at hc0 CL
     clear CL he
     go_wp2
     go_ret2
     exact ⟨⟨lo, false, rfl, by rw [HP.out]; rfl, (fun j h => by rw [HP.out] at h; cases h), HPL.out⟩, B2⟩
   ·have hNz : ¬ (lo : Int) < (N : Int) := by omega
    have HP := Lib.hid (show posO id l = none by
     cases hp : posO id l with
     |none => rfl
     |some j => obtain ⟨_, o, ho, _⟩ := F.out.2 j hp; have := (List.getElem?_eq_some_iff.1 ho).1; rw [HN.out] at this; omega)
    go_wp2
    go_ret2
    exact ⟨⟨lo, false, rfl, by rw [HP.out]; rfl, (fun j h => by rw [HP.out] at h; cases h), HPL.out⟩, hbr⟩
theorem at_map (v : Value) (l : List ObjD) (id : ByteArray) (w : World) (hv : ObjsIs w v l) (hok : mapOK l = true) :
  Calls Tryz.prog 52 #[.agg #[v], .string id] w (BinPost id l w) := by
 obtain ⟨h1, h2⟩ := mapOK_sorted hok
 have BI := Lib.hid (fun w' hb => bin_any v l id w' (hv.later (w' := w') hb) h1 h2)
 obtain ⟨a, cap, rfl, _⟩ := hv
 clear h2
 go_enter Tryz.func52, Tryz.ntmps52
 go_wp2_with fail
 have B1 : Below w.heap.size w (w.alloc (.cells #[.slice a l.length cap] 24)) := (Below.refl _ w).alloc (Nat.le_refl _) _
 refine (BI.out _ B1).mono ?_
 rintro e w2 ⟨⟨i, b, rfl, hb, hi, hpl⟩, hb2⟩
 have B2 := below_step B1 (Nat.le_refl _) hb2
 have HBI := Lib.hid hb
 have HII := Lib.hid hi
 have HPL := Lib.hid hpl
 clear hb hi hpl
 go_wp2
 go_ret2
 exact ⟨⟨i, b, rfl, HBI.out, HII.out, HPL.out⟩, B2⟩
end Go.Proofs.YtibpaaajghbkoaaGreat

namespace Go.Proofs.YtibpaaajghbkoaaGreat
open Go.RowKit
def ptsK (l : List ObjD) (o : ObjD) : List (Int × Int) × Int :=
 if o.kind = 1 then ([(o.x, o.y)], 0) else if o.kind = 2 ∨ o.kind = 3 then (if o.refs.all (fun r => (nodeAt l r).isSome) then (o.refs.filterMap (nodeAt l), 0) else ([], 14)) else ([], 13)
def ptsO (l : List ObjD) (id : ByteArray) : List (Int × Int) × Int :=
 if mapOK l then
  match posO id l with
  |none => ([], 11)
  |some i => match l[i]? with
   |none => ([], 11)
   |some o => ptsK l o
 else ([], 1)
theorem ptsO_bad (l : List ObjD) (id : ByteArray) (h : mapOK l = false) : ptsO l id = ([], 1) := by unfold ptsO; rw [h]; rfl
theorem ptsO_none (l : List ObjD) (id : ByteArray) (h : mapOK l = true) (hp : posO id l = none) : ptsO l id = ([], 11) := by unfold ptsO; rw [h, hp]; rfl
theorem ptsO_some (l : List ObjD) (id : ByteArray) (h : mapOK l = true) (i : Nat) (hp : posO id l = some i) (o : ObjD) (ho : l[i]? = some o) : ptsO l id = ptsK l o := by unfold ptsO; rw [h, hp]; simp only [ho]; rfl
def PtsPost (r : List (Int × Int) × Int) (w : World) (e : Ending) (w' : World) : Prop := (∃ v, e = .returned (.tuple #[v, .int .i64 r.2]) ∧ RowE encPt 2 w' v r.1) ∧ Below w.heap.size w w'
theorem infoPoint : (Tryz.prog.info? 33).map (fun i => (i.zero, i.size, i.bytes)) = some (some (.agg #[.int .i64 0, .int .i64 0]), 2, 16) := by kernel_rfl
theorem refs_take (l : List ObjD) (refs : List ByteArray) (k : Nat) (r : ByteArray) (hr : refs[k]? = some r) (p : Int × Int) (hp : nodeAt l r = some p) : (refs.take (k + 1)).filterMap (nodeAt l) = (refs.take k).filterMap (nodeAt l) ++ [p] := by
 obtain ⟨hk, rfl⟩ := List.getElem?_eq_some_iff.1 hr
 rw [List.take_succ_eq_append_getElem hk, List.filterMap_append]; simp [hp]
set_option maxRecDepth 100000 in
set_option maxHeartbeats 4000000 in
theorem points_any (v : Value) (l : List ObjD) (id : ByteArray) (w : World) (hv : ObjsIs w v l) :
  Calls Tryz.prog 24 #[.agg #[v], .string id] w (PtsPost (ptsO l id) w) := by
 have VS := Lib.hid (fun B w' hb hB => validS_any v l B w' (hv.later (w' := w') hb) hB)
 have HV := Lib.hid hv
 obtain ⟨a, cap, rfl, hn, hc⟩ := hv
 have HC := Lib.hid hc
 have HPB := Lib.hid (ptsO_bad l id)
 have HPN := Lib.hid (ptsO_none l id)
 have HPS := Lib.hid (ptsO_some l id)
 obtain ⟨res, hres⟩ : ∃ res, ptsO l id = res := ⟨_, rfl⟩
 rw [hres] at HPB HPN HPS ⊢
 obtain ⟨i0, hi, hi0, hi1, hi2⟩ := info_parts infoPoint
 clear hc hres
 go_enter Tryz.func24, Tryz.ntmps24
 go_wp2_with fail
 have B1 : Below w.heap.size w ((w.alloc (.cells #[.slice a l.length cap] 24)).alloc (.cells #[.slice a l.length cap] 24)) := ((Below.refl _ w).alloc (Nat.le_refl _) _).alloc (by simp) _
 have HB1 := row_new1 w (.cells #[.slice a l.length cap] 24) (.cells #[.slice a l.length cap] 24)
 have HM1 := row_past (o' := .cells #[.slice a l.length cap] 24) (row_new w (.cells #[.slice a l.length cap] 24))
 generalize hw1 : (w.alloc (.cells #[.slice a l.length cap] 24)).alloc (.cells #[.slice a l.length cap] 24) = w1
 rw [hw1] at B1 HB1 HM1
 clear hw1
 refine (VS.out _ _ B1 (by rw [cell_of_row w1 _ 0 _ _ _ HB1]; rfl)).mono ?_
 rintro e w2 ⟨rfl, hb2⟩
 have B2 := below_step B1 (Nat.le_refl _) hb2
 have HM2 := row_later hb2 HM1
 clear HB1 HM1 B1 hb2 VS
 cases hok : mapOK l
 case false =>
  have HR := Lib.hid (HPB.out hok)
  clear hok
  go_wp2
  go_ret2
  exact ⟨⟨_, by rw [HR.out]; rfl, by rw [HR.out]; exact row_nil _ _ _⟩, B2⟩
 case true =>
  have HPN := Lib.hid (HPN.out hok)
  have HPS := Lib.hid (HPS.out hok)
  have MO := Lib.hid (fun (o : ObjD) (ho : o ∈ l) => obj_refs (map_obj hok ho))
  have AT := Lib.hid (fun (r : ByteArray) w' hb => at_map (.slice a l.length cap) l r w' (HV.out.later (w' := w') hb) hok)
  clear hok HPB
  have HM2h := Lib.hid HM2
  obtain ⟨mz, m0⟩ := rk1 HM2
  have HM2' := Lib.hid HM2
  clear HM2
  go_wp2_with fail
  refine (AT.out id w2 B2).mono ?_
  rintro e w3 ⟨⟨i, b, rfl, hb, hi', -⟩, hb3⟩
  have B3 := below_step B2 (Nat.le_refl _) hb3
  have HM3 := row_later hb3 HM2h.out
  clear m0 mz HM2' HM2h B2 hb3
  cases hp : posO id l with
  |none =>
   rw [hp] at hb
   obtain rfl : b = false := hb
   have HR := Lib.hid (HPN.out hp)
   clear hp hi'
   go_wp2
   go_ret2
   exact ⟨⟨_, by rw [HR.out]; rfl, by rw [HR.out]; exact row_nil _ _ _⟩, B3⟩
  |some j =>
   rw [hp] at hb
   obtain rfl : b = true := hb
   obtain rfl : i = j := hi' j hp
   obtain ⟨o, ho, hoid⟩ := posO_some id l i hp
   clear hoid
   have HP2 := Lib.hid (show res = ptsK l o from HPS.out i hp o ho)
   have hrl := MO.out o (List.mem_of_getElem? ho)
   have hil : i < l.length := (List.getElem?_eq_some_iff.1 ho).1
   obtain ⟨bo, off, ha, hcell⟩ := HC.out (by omega)
   subst ha
   obtain ⟨vr, vt, c0, c1, c2, c3, c4, c5, hr, ht, hz⟩ := (hcell i o ho).later B3
   have HRF := Lib.hid hr
   obtain ⟨ar, capr, evr, _⟩ := hr
   obtain ⟨at1, capt, evt, _⟩ := ht
   subst evr evt
   have bz := lt_of_cell c0
   have HM3h := Lib.hid HM3
   clear hp hi' HPN HPS ho hcell
   obtain ⟨mz, m0⟩ := rk1 HM3
   have HM3' := Lib.hid HM3
   clear HM3
   by_cases k1 : o.kind = 1
   ·have HR := Lib.hid (show res = ([(o.x, o.y)], 0) by rw [HP2.out]; unfold ptsK; rw [if_pos k1])
    have f1 : (o.kind == 1) = true := by rw [beq_iff_eq]; exact k1
    clear HP2 k1
    go_wp2
    go_ret2
    refine ⟨⟨_, by rw [HR.out]; rfl, ?_⟩, (B3.alloc B3.size _).alloc (by have := B3.size; simp; omega) _⟩
    rw [HR.out]
    refine ⟨_, _, rfl, fun _ => ⟨_, _, rfl, fun j x hx i u hu => ?_⟩⟩
    cases j with
    |succ j => simp at hx
    |zero =>
     obtain rfl : (o.x, o.y) = x := by simpa using hx
     have := row_new1 w3 (.cells #[.string o.id, .int .i64 o.kind, .int .i64 o.x, .int .i64 o.y, .slice ar o.refs.length capr, .slice at1 o.tags.length capt] 36) (.cells #[.int .i64 o.x, .int .i64 o.y] 33)
     have h2 := cell_of_row _ _ i _ _ _ this
     rw [show 0 + 0 * 2 + i = i by omega, h2]
     simpa [encPt] using hu
   ·have f1 : (o.kind == 1) = false := by rw [beq_eq_false_iff_ne]; exact k1
    by_cases k23 : o.kind = 2 ∨ o.kind = 3
    ·have HR := Lib.hid (show res = if o.refs.all (fun r => (nodeAt l r).isSome) then (o.refs.filterMap (nodeAt l), 0) else ([], 14) by rw [HP2.out]; unfold ptsK; rw [if_neg k1, if_pos k23])
     have BA : Below w.heap.size w (w3.alloc (.cells #[.string o.id, .int .i64 o.kind, .int .i64 o.x, .int .i64 o.y, .slice ar o.refs.length capr, .slice at1 o.tags.length capt] 36)) := B3.alloc B3.size _
     have HX := row_new w3 (.cells #[.string o.id, .int .i64 o.kind, .int .i64 o.x, .int .i64 o.y, .slice ar o.refs.length capr, .slice at1 o.tags.length capt] 36)
     have HMA := row_past (o' := .cells #[.string o.id, .int .i64 o.kind, .int .i64 o.x, .int .i64 o.y, .slice ar o.refs.length capr, .slice at1 o.tags.length capt] 36) HM3h.out
     have HRA := HRF.out.later ((Below.refl _ w3).alloc (Nat.le_refl _) (.cells #[.string o.id, .int .i64 o.kind, .int .i64 o.x, .int .i64 o.y, .slice ar o.refs.length capr, .slice at1 o.tags.length capt] 36))
     clear HP2 HRF
     rcases k23 with k2 | k3
     ·have f2 : (o.kind == 2) = true := by rw [beq_iff_eq]; exact k2
      clear k1 k2
      go_wp2_with fail
      generalize hwa : w3.alloc (.cells #[.string o.id, .int .i64 o.kind, .int .i64 o.x, .int .i64 o.y, .slice ar o.refs.length capr, .slice at1 o.tags.length capt] 36) = wa
      rw [hwa] at BA HX HMA HRA
      clear hwa
      have HMAh := Lib.hid HMA
      have HXh := Lib.hid HX
      obtain ⟨ar', capr', evr2, hrn, _, hrc⟩ := HRA
      have hrc := (show 0 < o.refs.length → ∃ b off, ar = some ⟨b, off, none⟩ ∧ ∀ (i : Nat) (s : ByteArray), o.refs[i]? = some s → wa.cell? ⟨b, off + i, none⟩ = some (.string s) by injection evr2 with e1 _ _; subst e1; exact hrc)
      have HRC := Lib.hid hrc
      obtain ⟨Rn, hRn⟩ : ∃ Rn, o.refs.length = Rn := ⟨_, rfl⟩
      rw [hRn] at hrn hrl HX ⊢
      have HRN := Lib.hid hRn
      clear evr2 hrc hRn HMA m0 mz HM3' c0 c1 c2 c3 c4 c5
      obtain ⟨xz, x0, x1, x2, x3, x4, x5⟩ := rk6 HX
      have HX' := Lib.hid HX
      clear HX
      go_wp2
      clear x0 x1 x2 x3 x4 x5 xz HX'
      have BW := below_step BA (Nat.le_refl _) (Below.refl wa.heap.size wa)
      go_loopw [9, 44] (fun v9 i wr => ∃ q : Nat, q ≤ Rn ∧ i = .int .i64 q ∧ Hid ((o.refs.take q).all (fun r => (nodeAt l r).isSome) = true) ∧ wr.ownsRow wa.heap.size 33 2 v9 ((o.refs.take q).filterMap (nodeAt l)).length (((o.refs.take q).filterMap (nodeAt l)).flatMap encPt) ∧ Below wa.heap.size wa wr) (fun _ i _ => Rn - (intOf i).toNat)
      case atStart => exact ⟨0, by omega, rfl, Lib.hid rfl, ⟨rfl, Or.inl ⟨rfl, rfl⟩⟩, Below.refl _ _⟩
      case round =>
       obtain ⟨q, hq, rfl, hA, hown, hbr⟩ := hrel
       have BR := below_step BA (Nat.le_refl _) hbr
       by_cases hlt : q < Rn
       ·obtain ⟨r, hr⟩ : ∃ r, o.refs[q]? = some r := ⟨o.refs[q]'(by rw [HRN.out]; exact hlt), List.getElem?_eq_getElem _⟩
        obtain ⟨b2, off2, ha2, hcell2⟩ := HRC.out (by rw [HRN.out]; omega)
        subst ha2
        have r0 := cell_later hbr (hcell2 q r hr)
        have HMr := row_later hbr HMAh.out
        have HOWN := Lib.hid hown
        have HRR := Lib.hid hr
        have hlen : ((o.refs.take q).filterMap (nodeAt l)).length ≤ q := by
         have := List.length_filterMap_le (nodeAt l) (o.refs.take q)
         rw [List.length_take] at this; omega
        clear hcell2 hr hown
        obtain ⟨mz, m0⟩ := rk1 HMr
        have HMr' := Lib.hid HMr
        clear HMr
        go_wp2_with fail
        refine (AT.out r wr BR).mono ?_
        rintro e w6 ⟨⟨k, bb, rfl, hbb, hki, -⟩, hb6⟩
        have B6 := below_step hbr (Nat.le_refl _) hb6
        have BR6 := below_step BR (Nat.le_refl _) hb6
        have HM6 := row_later B6 HMAh.out
        have HO6 := Lib.hid (own_later HOWN.out hb6)
        clear m0 mz HMr' r0 HOWN hb6 hbr BR
        cases hpr : posO r l with
        |none =>
         rw [hpr] at hbb
         obtain rfl : bb = false := hbb
         have HE := Lib.hid (show res = ([], 14) by rw [HR.out, refs_bad l o.refs q r HRR.out (nodeAt_none l r hpr)]; rfl)
         clear hpr hki
         obtain ⟨mz, m0⟩ := rk1 HM6
         have HM6' := Lib.hid HM6
         clear HM6
         go_wp2
         go_ret2
         exact ⟨⟨_, by rw [HE.out]; rfl, by rw [HE.out]; exact row_nil _ _ _⟩, BR6⟩
        |some kk =>
         rw [hpr] at hbb
         obtain rfl : bb = true := hbb
         obtain rfl : k = kk := hki kk hpr
         obtain ⟨o2, ho2, _⟩ := posO_some r l k hpr
         have HN2 := Lib.hid (nodeAt_some l r k hpr o2 ho2)
         have hkl : k < l.length := (List.getElem?_eq_some_iff.1 ho2).1
         obtain ⟨bo2, off3, ha3, hcell3⟩ := HC.out (by omega)
         obtain ⟨rfl, rfl⟩ : bo = bo2 ∧ off = off3 := by injection ha3 with a; injection a with a b; exact ⟨a, b⟩
         obtain ⟨vr2, vt2, d0, d1, d2, d3, _⟩ := (hcell3 k o2 ho2).later BR6
         clear hpr hki hcell3 ho2 ha3 d0
         have bz6 := lt_of_cell d1
         obtain ⟨mz, m0⟩ := rk1 HM6
         have HM6' := Lib.hid HM6
         clear HM6
         by_cases kk1 : o2.kind = 1
         ·have HN3 := Lib.hid (show nodeAt l r = some (o2.x, o2.y) by rw [HN2.out, if_pos kk1])
          have g1 : (o2.kind != 1) = false := by rw [kk1]; rfl
          have HT := Lib.hid (refs_take l o.refs q r HRR.out (o2.x, o2.y) HN3.out)
          have HA2 : Hid ((o.refs.take (q + 1)).all (fun r => (nodeAt l r).isSome) = true) := Lib.hid (by
           obtain ⟨hk, e⟩ := List.getElem?_eq_some_iff.1 HRR.out
           rw [List.take_succ_eq_append_getElem hk, List.all_append, hA.out, e]; simp [HN3.out])
          have O6 := HO6.out
          generalize (o.refs.take q).filterMap (nodeAt l) = out at O6 HT hlen
          clear HN2 kk1 HO6
          have hsz6 := B6.size
          go_wp2_with (at_builtin; refine wpList_append_own _ rfl _ _ 50 rfl wa.heap.size 33 i0 (.agg #[.int .i64 0, .int .i64 0]) 2 16 Tryz.underlying50 hi hi0 hi1 hi2 rfl (by decide) _ _ _ rfl (O6.alloc _) ⟨w6.heap.size, 0, none⟩ 1 1 (encPt (o2.x, o2.y)) rfl rfl (cells_new _ _ _) (encPt_one _) (by unfold maxLen; omega) (by omega) (by simp; omega) ?_; intro v' w10 hown2 hgrow _; have hb10 := appended O6 hsz6 hgrow)
          have HOW := Lib.hid (show w10.ownsRow wa.heap.size 33 2 v' ((o.refs.take (q + 1)).filterMap (nodeAt l)).length (((o.refs.take (q + 1)).filterMap (nodeAt l)).flatMap encPt) by rw [HT.out, List.length_append, List.flatMap_append]; simpa using hown2)
          have B10 := B6.trans hb10
          clear hown2 hgrow O6
          go_roundw
          case rel => exact ⟨q + 1, by omega, by go_num, HA2, HOW.out, B10⟩
          case measure => simp [intOf]; omega
         ·have HN3 := Lib.hid (show nodeAt l r = none by rw [HN2.out, if_neg kk1])
          have g1 : (o2.kind != 1) = true := by rw [bne_iff_ne]; exact kk1
          have HE := Lib.hid (show res = ([], 14) by rw [HR.out, refs_bad l o.refs q r HRR.out HN3.out]; rfl)
          clear HN2 kk1
          go_wp2
          go_ret2
          exact ⟨⟨_, by rw [HE.out]; rfl, by rw [HE.out]; exact row_nil _ _ _⟩, BR6⟩
       ·obtain rfl : q = Rn := by omega
        have htk : o.refs.take q = o.refs := List.take_of_length_le (by rw [HRN.out]; exact Nat.le_refl _)
        rw [htk] at hA hown
        have HE := Lib.hid (show res = (o.refs.filterMap (nodeAt l), 0) by rw [HR.out, hA.out]; rfl)
        have HOW := Lib.hid (RowE.of_own encPt_len rfl hown)
        clear hown
        go_wp2
        go_ret2
        exact ⟨⟨_, by rw [HE.out]; rfl, by rw [HE.out]; exact HOW.out⟩, BR⟩
     ·have f2 : (o.kind == 2) = false := by rw [beq_eq_false_iff_ne]; omega
      have f3 : (o.kind == 3) = true := by rw [beq_iff_eq]; exact k3
      clear k1 k3
      go_wp2_with fail
      generalize hwa : w3.alloc (.cells #[.string o.id, .int .i64 o.kind, .int .i64 o.x, .int .i64 o.y, .slice ar o.refs.length capr, .slice at1 o.tags.length capt] 36) = wa
      rw [hwa] at BA HX HMA HRA
      clear hwa
      have HMAh := Lib.hid HMA
      have HXh := Lib.hid HX
      obtain ⟨ar', capr', evr2, hrn, _, hrc⟩ := HRA
      have hrc := (show 0 < o.refs.length → ∃ b off, ar = some ⟨b, off, none⟩ ∧ ∀ (i : Nat) (s : ByteArray), o.refs[i]? = some s → wa.cell? ⟨b, off + i, none⟩ = some (.string s) by injection evr2 with e1 _ _; subst e1; exact hrc)
      have HRC := Lib.hid hrc
      obtain ⟨Rn, hRn⟩ : ∃ Rn, o.refs.length = Rn := ⟨_, rfl⟩
      rw [hRn] at hrn hrl HX ⊢
      have HRN := Lib.hid hRn
      clear evr2 hrc hRn HMA m0 mz HM3' c0 c1 c2 c3 c4 c5
      obtain ⟨xz, x0, x1, x2, x3, x4, x5⟩ := rk6 HX
      have HX' := Lib.hid HX
      clear HX
      go_wp2
      clear x0 x1 x2 x3 x4 x5 xz HX'
      have BW := below_step BA (Nat.le_refl _) (Below.refl wa.heap.size wa)
      go_loopw [9, 44] (fun v9 i wr => ∃ q : Nat, q ≤ Rn ∧ i = .int .i64 q ∧ Hid ((o.refs.take q).all (fun r => (nodeAt l r).isSome) = true) ∧ wr.ownsRow wa.heap.size 33 2 v9 ((o.refs.take q).filterMap (nodeAt l)).length (((o.refs.take q).filterMap (nodeAt l)).flatMap encPt) ∧ Below wa.heap.size wa wr) (fun _ i _ => Rn - (intOf i).toNat)
      case atStart => exact ⟨0, by omega, rfl, Lib.hid rfl, ⟨rfl, Or.inl ⟨rfl, rfl⟩⟩, Below.refl _ _⟩
      case round =>
       obtain ⟨q, hq, rfl, hA, hown, hbr⟩ := hrel
       have BR := below_step BA (Nat.le_refl _) hbr
       by_cases hlt : q < Rn
       ·obtain ⟨r, hr⟩ : ∃ r, o.refs[q]? = some r := ⟨o.refs[q]'(by rw [HRN.out]; exact hlt), List.getElem?_eq_getElem _⟩
        obtain ⟨b2, off2, ha2, hcell2⟩ := HRC.out (by rw [HRN.out]; omega)
        subst ha2
        have r0 := cell_later hbr (hcell2 q r hr)
        have HMr := row_later hbr HMAh.out
        have HOWN := Lib.hid hown
        have HRR := Lib.hid hr
        have hlen : ((o.refs.take q).filterMap (nodeAt l)).length ≤ q := by
         have := List.length_filterMap_le (nodeAt l) (o.refs.take q)
         rw [List.length_take] at this; omega
        clear hcell2 hr hown
        obtain ⟨mz, m0⟩ := rk1 HMr
        have HMr' := Lib.hid HMr
        clear HMr
        go_wp2_with fail
        refine (AT.out r wr BR).mono ?_
        rintro e w6 ⟨⟨k, bb, rfl, hbb, hki, -⟩, hb6⟩
        have B6 := below_step hbr (Nat.le_refl _) hb6
        have BR6 := below_step BR (Nat.le_refl _) hb6
        have HM6 := row_later B6 HMAh.out
        have HO6 := Lib.hid (own_later HOWN.out hb6)
        clear m0 mz HMr' r0 HOWN hb6 hbr BR
        cases hpr : posO r l with
        |none =>
         rw [hpr] at hbb
         obtain rfl : bb = false := hbb
         have HE := Lib.hid (show res = ([], 14) by rw [HR.out, refs_bad l o.refs q r HRR.out (nodeAt_none l r hpr)]; rfl)
         clear hpr hki
         obtain ⟨mz, m0⟩ := rk1 HM6
         have HM6' := Lib.hid HM6
         clear HM6
         go_wp2
         go_ret2
         exact ⟨⟨_, by rw [HE.out]; rfl, by rw [HE.out]; exact row_nil _ _ _⟩, BR6⟩
        |some kk =>
         rw [hpr] at hbb
         obtain rfl : bb = true := hbb
         obtain rfl : k = kk := hki kk hpr
         obtain ⟨o2, ho2, _⟩ := posO_some r l k hpr
         have HN2 := Lib.hid (nodeAt_some l r k hpr o2 ho2)
         have hkl : k < l.length := (List.getElem?_eq_some_iff.1 ho2).1
         obtain ⟨bo2, off3, ha3, hcell3⟩ := HC.out (by omega)
         obtain ⟨rfl, rfl⟩ : bo = bo2 ∧ off = off3 := by injection ha3 with a; injection a with a b; exact ⟨a, b⟩
         obtain ⟨vr2, vt2, d0, d1, d2, d3, _⟩ := (hcell3 k o2 ho2).later BR6
         clear hpr hki hcell3 ho2 ha3 d0
         have bz6 := lt_of_cell d1
         obtain ⟨mz, m0⟩ := rk1 HM6
         have HM6' := Lib.hid HM6
         clear HM6
         by_cases kk1 : o2.kind = 1
         ·have HN3 := Lib.hid (show nodeAt l r = some (o2.x, o2.y) by rw [HN2.out, if_pos kk1])
          have g1 : (o2.kind != 1) = false := by rw [kk1]; rfl
          have HT := Lib.hid (refs_take l o.refs q r HRR.out (o2.x, o2.y) HN3.out)
          have HA2 : Hid ((o.refs.take (q + 1)).all (fun r => (nodeAt l r).isSome) = true) := Lib.hid (by
           obtain ⟨hk, e⟩ := List.getElem?_eq_some_iff.1 HRR.out
           rw [List.take_succ_eq_append_getElem hk, List.all_append, hA.out, e]; simp [HN3.out])
          have O6 := HO6.out
          generalize (o.refs.take q).filterMap (nodeAt l) = out at O6 HT hlen
          clear HN2 kk1 HO6
          have hsz6 := B6.size
          go_wp2_with (at_builtin; refine wpList_append_own _ rfl _ _ 50 rfl wa.heap.size 33 i0 (.agg #[.int .i64 0, .int .i64 0]) 2 16 Tryz.underlying50 hi hi0 hi1 hi2 rfl (by decide) _ _ _ rfl (O6.alloc _) ⟨w6.heap.size, 0, none⟩ 1 1 (encPt (o2.x, o2.y)) rfl rfl (cells_new _ _ _) (encPt_one _) (by unfold maxLen; omega) (by omega) (by simp; omega) ?_; intro v' w10 hown2 hgrow _; have hb10 := appended O6 hsz6 hgrow)
          have HOW := Lib.hid (show w10.ownsRow wa.heap.size 33 2 v' ((o.refs.take (q + 1)).filterMap (nodeAt l)).length (((o.refs.take (q + 1)).filterMap (nodeAt l)).flatMap encPt) by rw [HT.out, List.length_append, List.flatMap_append]; simpa using hown2)
          have B10 := B6.trans hb10
          clear hown2 hgrow O6
          go_roundw
          case rel => exact ⟨q + 1, by omega, by go_num, HA2, HOW.out, B10⟩
          case measure => simp [intOf]; omega
         ·have HN3 := Lib.hid (show nodeAt l r = none by rw [HN2.out, if_neg kk1])
          have g1 : (o2.kind != 1) = true := by rw [bne_iff_ne]; exact kk1
          have HE := Lib.hid (show res = ([], 14) by rw [HR.out, refs_bad l o.refs q r HRR.out HN3.out]; rfl)
          clear HN2 kk1
          go_wp2
          go_ret2
          exact ⟨⟨_, by rw [HE.out]; rfl, by rw [HE.out]; exact row_nil _ _ _⟩, BR6⟩
       ·obtain rfl : q = Rn := by omega
        have htk : o.refs.take q = o.refs := List.take_of_length_le (by rw [HRN.out]; exact Nat.le_refl _)
        rw [htk] at hA hown
        have HE := Lib.hid (show res = (o.refs.filterMap (nodeAt l), 0) by rw [HR.out, hA.out]; rfl)
        have HOW := Lib.hid (RowE.of_own encPt_len rfl hown)
        clear hown
        go_wp2
        go_ret2
        exact ⟨⟨_, by rw [HE.out]; rfl, by rw [HE.out]; exact HOW.out⟩, BR⟩
    ·have HR := Lib.hid (show res = ([], 13) by rw [HP2.out]; unfold ptsK; rw [if_neg k1, if_neg k23])
     have f2 : (o.kind == 2) = false := by rw [beq_eq_false_iff_ne]; omega
     have f3 : (o.kind == 3) = false := by rw [beq_eq_false_iff_ne]; omega
     clear HP2 k1 k23
     go_wp2
     go_ret2
     exact ⟨⟨_, by rw [HR.out]; rfl, by rw [HR.out]; exact row_nil _ _ _⟩, B3.alloc B3.size _⟩
end Go.Proofs.YtibpaaajghbkoaaGreat
