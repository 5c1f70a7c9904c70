/- From a row's conditions to the walks: what the listed variables hold, the witness, the wrap. -/
import Derived.Test.YtapllmniplgajaaGreatDoorLevA
import Derived.Test.YtapllmniplgajaaGreatDoorLabG
import Derived.ProofKit
import Derived.OpenShut
import Derived.HandedShaped
import Derived.Lay
import Derived.Lib.LaidTab
import Derived.Lib.LaidU8
import Derived.LaidSub
import Derived.LaidMore
import Derived.Stop.LaidErr
import Derived.Stop.Joined
import Derived.SevenTiedAt
import Derived.Lib.SmallJoins
import Derived.Test.YtapllmniplgajaaGreatDoorCards
import Derived.Test.YtapllmniplgajaaGreatDoorTie
namespace Go.Proofs.YtapllmniplgajaaGreatDoor
open Go.ChangeShapes Go.WideShapes Go.ChangeAt Go.RowKit Go.Shelf Go.Joins
open Go.ChangeMaps (open_string shut_string)

theorem own : ownKnob Tryz.prog.godebug = none := by kernel_rfl
theorem laidOut : laidOutB Tryz.prog = true := by kernel_rfl

/-- The variables that the rows list. -/
def laidL : List (String × DataW Unit) := [("math/bits.deBruijn32tab", Rows.laid_math_bits_deBruijn32tab), ("math/bits.deBruijn64tab", Rows.laid_math_bits_deBruijn64tab), ("internal/strconv.uint64pow10", Rows.laid_internal_strconv_uint64pow10), ("strconv.ErrRange", Rows.laid_strconv_ErrRange), ("strconv.ErrSyntax", Rows.laid_strconv_ErrSyntax)]

/-- 'returnsInHanded_of_change_and' with the world's shape handed on besides. -/
theorem returns_laid_shaped {H : Type} {enc : TypeId × Value → H} {a : Assume} {C : Checked} {os : Os} {f : FuncId} {fn : Func} {s : ChangeSpec} {conds : List PathCond} {apart fresh handsOn again : Bool} {X : World → Array Value → Prop}
    (hX : ∀ (w w' : World) (args : Array Value), w.heap = w'.heap → X w args → X w' args)
    (own : ownKnob C.prog.godebug = none) (started : os.Started) (noInit : C.prog.inits.idxOf? f = none) (hfn : C.prog.funcs[f]? = some fn)
    (witness : ∃ (w : World) (tape : Tape) (i : Input), w.os = os ∧ (w.forCall tape i).Shaped C.prog ∧ i.vars = [] ∧ Input.okWide C.prog (w.forCall tape i) .any w.heap.size f i ∧
      ((s.pre enc C.prog fn conds apart (w.forCall tape i).memory i.args ∧ X (w.forCall tape i).memory i.args) ∧ sizedMet enc C.prog fn (OpenSpec.ofChange s) apart (w.forCall tape i).memory i.args) ∧ a.holds C.prog (lone (Frame.enter C.prog f i.args .normal) [] (w.forCall tape i)))
    (contract : ∀ (W : World) (base : Nat) (args : Array Value) (ds gs : List (DataW H)) (before : List MemPlace),
      (∀ (j : Nat) t v, fn.params[j]? = some t → args[j]? = some v → Value.okWide C.prog W .any base t v) →
      DataW.Whole enc C.prog fn.params.toList s.vars apart W args.toList ds gs before →
      conds.all (PathCond.test C.prog ⟨fn.params.toList, ds, s.plain.varTypes C.prog, gs⟩) = true →
      (DataW.weightsEach C.prog (fn.params.toList ++ s.plain.varTypes C.prog) (ds ++ gs)).all (· ≤ reachBytes) = true → X W args → W.ShapedOpen C.prog →
      a.holds C.prog (lone (Frame.enter C.prog f args .normal) [] W) →
      Calls C.prog f args W fun e W' => ∃ v, e = .returned v ∧ s.post enc C.prog fn apart fresh handsOn again W args v W') :
    ReturnsInHanded a C os f .any (fun w args => (s.pre enc C.prog fn conds apart w args ∧ X w args) ∧ sizedMet enc C.prog fn (OpenSpec.ofChange s) apart w args) (s.post enc C.prog fn apart fresh handsOn again) := by
  refine returnsInHanded_of_calls own started noInit witness ?_
  intro w tape i _ hsh _ hok hpre hholds
  obtain ⟨_, _, _, fn', hfn', _, _, _, _, hval⟩ := hok
  have e : fn' = fn := Option.some.inj (hfn'.symm.trans hfn)
  subst e
  obtain ⟨⟨⟨ds, gs, before, hw, hc⟩, hx⟩, hz⟩ := hpre
  have hw' := DataW.Whole.of_heap (w' := w.forCall tape i) (by rfl) hw
  refine (contract (w.forCall tape i) w.heap.size i.args ds gs before hval hw' hc (hz.weights hw) (hX _ _ _ (by rfl) hx) hsh hholds).mono fun e W' ⟨v, he, hp⟩ => ?_
  subst he
  exact ChangeSpec.post_blind hp

theorem gES : Tryz.prog.globalNamed "strconv.ErrSyntax" = some 0 := by kernel_rfl
theorem gER : Tryz.prog.globalNamed "strconv.ErrRange" = some 1 := by kernel_rfl
theorem gPT : Tryz.prog.globalNamed "internal/strconv.uint64pow10" = some 2 := by kernel_rfl
theorem gESType : (Tryz.prog.globals[0]?).map (·.type) = some 101 := by kernel_rfl
theorem gERType : (Tryz.prog.globals[1]?).map (·.type) = some 101 := by kernel_rfl
theorem gPTType : (Tryz.prog.globals[2]?).map (·.type) = some 175 := by kernel_rfl
theorem cellsES : Tryz.prog.cellsOf 173 = 1 := by kernel_rfl
theorem cellsString : Tryz.prog.cellsOf 9 = 1 := by kernel_rfl
theorem cellsU64 : Tryz.prog.cellsOf 155 = 1 := by kernel_rfl
theorem cellsTab : Tryz.prog.cellsOf 175 = 20 := by kernel_rfl
theorem star : "*" ++ "errors.errorString" = "*errors.errorString" := by decide
theorem rowES (u : TypeId) (h : Tryz.prog.typeName? 3 u = some "*errors.errorString") : u = 171 :=
  typeName_ptr_named (nm := "errors.errorString") (by rw [star]; kernel_rfl) (by kernel_rfl) (by decide) u (by rw [star]; exact h)

theorem only (n : String) (l : List (String × DataW Unit)) (d : DataW Unit) {P : Program} {w : World} (h : laidMet P l w) (he : (l.filter fun x => x.1 == n) = [(n, d)]) : laidMet P [(n, d)] w := by
  rw [← he]
  exact h.filter _

theorem env_of {W : World} (hL : laidMetH Tryz.prog laidL W) : Env W := by
  rw [MakeChecks.laidMetH_plain _ _ _ (by kernel_rfl)] at hL
  refine ⟨?_, ?_, ?_⟩
  · exact Lib.tabIs_of_head gPT gPTType Tryz.underlying175 Tryz.underlying155 cellsU64 cellsTab (rest := []) (only "internal/strconv.uint64pow10" laidL (Lib.tabData .u64 Lib.pow10Tab) hL (by kernel_rfl))
  · obtain ⟨a0, s0, hv0, -, -, -⟩ := laid_sentinel (only "strconv.ErrSyntax" laidL Rows.laid_strconv_ErrSyntax hL (by kernel_rfl)) gES gESType Tryz.underlying101 rowES Tryz.underlying171 Tryz.underlying173 rfl rfl Tryz.underlying9 cellsES cellsString
    exact ⟨_, _, hv0⟩
  · obtain ⟨a0, s0, hv0, -, -, -⟩ := laid_sentinel (only "strconv.ErrRange" laidL Rows.laid_strconv_ErrRange hL (by kernel_rfl)) gER gERType Tryz.underlying101 rowES Tryz.underlying171 Tryz.underlying173 rfl rfl Tryz.underlying9 cellsES cellsString
    exact ⟨_, _, hv0⟩
theorem cellsPoint : Tryz.prog.cellsOf 24 = 2 := by kernel_rfl
theorem cellsBox : Tryz.prog.cellsOf 26 = 4 := by kernel_rfl
theorem cellsInt : Tryz.prog.cellsOf 3 = 1 := by kernel_rfl
set_option maxRecDepth 100000 in
theorem open_box {H : Type} {enc : TypeId × Value → H} {r : Reach} {b0 : Nat} {W : World} {v : Value} {d : DataW H} {p : List MemPlace}
    (hv : Value.okWide Tryz.prog W r b0 26 v) (h : DataW.Trod enc Tryz.prog W 0 (fun _ => true) true 26 v d p) :
    ∃ n0 n1 n2 n3 : Int, v = .agg #[.int .i64 n0, .int .i64 n1, .int .i64 n2, .int .i64 n3] := by
  obtain ⟨cs, rfl, hsz⟩ := okWide_struct Tryz.underlying26 hv
  obtain ⟨c0, c1, c2, c3, rfl⟩ := array4 (hsz.trans cellsBox)
  obtain ⟨fuel, hf⟩ := h
  obtain ⟨y0, y1, n, -, -, h0, h1⟩ := trod_struct2 Tryz.underlying26 hf
  obtain ⟨a0, a1, m, -, -, k0, k1⟩ := trod_struct2 Tryz.underlying24 h0
  obtain ⟨a2, a3, m', -, -, k2, k3⟩ := trod_struct2 Tryz.underlying24 h1
  simp only [cellsPoint, cellsInt, Value.cells, List.drop_zero, List.drop_succ_cons, List.take_succ_cons, List.take_zero] at k0 k1 k2 k3
  obtain ⟨n0, e0, -, -⟩ := DataW.trod_int Tryz.underlying3 k0
  obtain ⟨n1, e1, -, -⟩ := DataW.trod_int Tryz.underlying3 k1
  obtain ⟨n2, e2, -, -⟩ := DataW.trod_int Tryz.underlying3 k2
  obtain ⟨n3, e3, -, -⟩ := DataW.trod_int Tryz.underlying3 k3
  simp at e0 e1 e2 e3
  subst e0 e1 e2 e3
  exact ⟨n0, n1, n2, n3, rfl⟩

theorem cellsLabel : Tryz.prog.cellsOf 47 = 6 := by kernel_rfl
theorem cellsStr : Tryz.prog.cellsOf 9 = 1 := by kernel_rfl
theorem addr_plain {W : World} {a : Addr} {v : Value} (h : W.cell? a = some v) : a = ⟨a.block, a.off, none⟩ := by
  obtain ⟨b, o, sp⟩ := a
  cases sp with
  | none => rfl
  | some x =>
    unfold World.cell? at h
    simp at h
    split at h <;> simp at h
set_option maxRecDepth 100000 in
theorem open_label {H : Type} {enc : TypeId × Value → H} {W : World} {n : Nat} {cs : List Value} {y : DataW H × List MemPlace} (h : DataW.trod enc Tryz.prog W 0 (fun _ => true) true n 47 cs = some y) :
    ∃ x : LabD, cs = encL x := by
  obtain ⟨xs, m, _, -, hl, hlen, hf⟩ := DataW.trod_struct Tryz.underlying47 h
  rw [cellsLabel] at hl
  match cs, hl with
  | [c0, c1, c2, c3, c4, c5], _ =>
    match xs, hlen with
    | [y0, y1, y2, y3, y4], _ =>
      have g0 := hf 0 _ rfl
      have g1 := hf 1 _ rfl
      have g2 := hf 2 _ rfl
      have g3 := hf 3 _ rfl
      have g4 := hf 4 _ rfl
      simp [cellsPoint, cellsInt, cellsStr] at g0 g1 g2 g3 g4
      obtain ⟨a0, a1, m', -, -, k0, k1⟩ := trod_struct2 Tryz.underlying24 g1
      simp only [cellsInt, List.drop_zero, List.drop_succ_cons, List.take_succ_cons, List.take_zero] at k0 k1
      obtain ⟨s0, e0, -, -⟩ := DataW.trod_string Tryz.underlying9 g0
      obtain ⟨n1, e1, -, -⟩ := DataW.trod_int Tryz.underlying3 k0
      obtain ⟨n2, e2, -, -⟩ := DataW.trod_int Tryz.underlying3 k1
      obtain ⟨n3, e3, -, -⟩ := DataW.trod_int Tryz.underlying3 g2
      obtain ⟨n4, e4, -, -⟩ := DataW.trod_int Tryz.underlying3 g3
      obtain ⟨n5, e5, -, -⟩ := DataW.trod_int Tryz.underlying3 g4
      simp at e0 e1 e2 e3 e4 e5
      subst e0 e1 e2 e3 e4 e5
      exact ⟨⟨s0, n1, n2, n3, n4, n5⟩, rfl⟩
set_option maxRecDepth 100000 in
/-- An argument of type []api.Label. -/
theorem open_labels {H : Type} {enc : TypeId × Value → H} {r : Reach} {b0 : Nat} {W : World} {v : Value} {d : DataW H} {p : List MemPlace}
    (hv : Value.okWide Tryz.prog W r b0 22 v) (h : DataW.Trod enc Tryz.prog W 0 (fun _ => true) true 22 v d p) :
    ∃ l : List LabD, LabRow W v l ∧ l.length ≤ 9223372036854775807 := by
  obtain ⟨a0, len, cap, rfl⟩ := okWide_slice Tryz.underlying22 hv
  obtain ⟨fuel, hf⟩ := h
  rcases Go.Deep.open_slice Tryz.underlying22 hf with ⟨hcs, -⟩ | ⟨a, len', cap', m, n, D, Pl, hcs, -, hl, hm, hmm, -, hx⟩
  · have hcs' : Value.slice a0 len cap = .slice none 0 0 := by simpa [Value.cells] using hcs
    injection hcs' with h1 h2 h3
    subst h1 h2 h3
    exact ⟨[], ⟨none, 0, rfl, fun h => by simp at h⟩, by simp⟩
  · have hcs' : Value.slice a0 len cap = .slice (some a) len' cap' := by simpa [Value.cells] using hcs
    injection hcs' with h1 h2 h3
    subst h1 h2 h3
    have hlm : len ≤ m := by rw [hmm]; split <;> omega
    have each : ∀ i, i < len → ∃ x : LabD, ∀ (j : Nat) (u : Value), (encL x)[j]? = some u → W.cell? (a.add (i * 6 + j)) = some u := by
      intro i hi
      obtain ⟨cs', h1, h2⟩ := hx i (by omega)
      obtain ⟨x, rfl⟩ := open_label h2
      rw [cellsLabel] at h1
      obtain ⟨-, -, hc⟩ := World.cells?_some h1
      refine ⟨x, fun j u hu => ?_⟩
      have hj : j < 6 := by rw [← encL_len x]; exact (List.getElem?_eq_some_iff.1 hu).1
      have := hc j hj
      rw [Go.Deep.add_add] at this
      rw [this, hu]
    obtain ⟨f, hf'⟩ := Go.Deep.choose_lt each
    refine ⟨(List.range len).map f, ⟨some a, cap, by simp, fun h0 => ⟨a.block, a.off, ?_, fun j x hj i u hu => ?_⟩⟩, by simp; unfold maxLen at hm; omega⟩
    · have h00 := hf' 0 (by simpa using h0) 0 _ rfl
      have hp : a.add (0 * 6 + 0) = a := by unfold Addr.add; simp
      rw [hp] at h00
      rw [← addr_plain h00]
    · have hjl : j < len := by have := (List.getElem?_eq_some_iff.1 hj).1; simpa using this
      have hxj : f j = x := by simpa [hjl] using hj
      have h00 := hf' 0 (by omega) 0 _ rfl
      have hp : a.add (0 * 6 + 0) = a := by unfold Addr.add; simp
      rw [hp] at h00
      have := hf' j hjl i u (by rw [hxj]; exact hu)
      rw [addr_plain h00, Go.WideShapes.add_plain] at this
      simpa [Nat.add_assoc] using this
end Go.Proofs.YtapllmniplgajaaGreatDoor
