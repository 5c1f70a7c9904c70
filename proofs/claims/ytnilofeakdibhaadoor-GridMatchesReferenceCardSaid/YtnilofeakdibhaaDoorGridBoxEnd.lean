/- An argument of type api.Box: two points of two cells each, one flat value. -/
import Derived.Test.YtnilofeakdibhaaDoorGridEnd
namespace Go.Proofs.YtnilofeakdibhaaDoor
open Go.ChangeShapes Go.WideShapes Go.ChangeAt Go.RowKit Go.Joins

theorem cellsBox : Tryd.prog.cellsOf 33 = 4 := by kernel_rfl
theorem cellsInt : Tryd.prog.cellsOf 3 = 1 := by kernel_rfl
set_option maxRecDepth 100000 in
theorem open_box {H : Type} {enc : TypeId × Value → H} {r : Reach} {b0 : Nat} {W : World} {v : Value} {d : DataW H} {p : List MemPlace}
    (hv : Value.okWide Tryd.prog W r b0 33 v) (h : DataW.Trod enc Tryd.prog W 0 (fun _ => true) true 33 v d p) :
    ∃ n0 n1 n2 n3 : Int, v = .agg #[.int .i64 n0, .int .i64 n1, .int .i64 n2, .int .i64 n3] := by
  obtain ⟨cs, rfl, hsz⟩ := okWide_struct Tryd.underlying33 hv
  obtain ⟨c0, c1, c2, c3, rfl⟩ := array4 (hsz.trans cellsBox)
  obtain ⟨fuel, hf⟩ := h
  obtain ⟨y0, y1, n, -, -, h0, h1⟩ := trod_struct2 Tryd.underlying33 hf
  obtain ⟨a0, a1, m, -, -, k0, k1⟩ := trod_struct2 Tryd.underlying31 h0
  obtain ⟨a2, a3, m', -, -, k2, k3⟩ := trod_struct2 Tryd.underlying31 h1
  simp only [cellsPoint, cellsInt, Value.cells, List.drop_zero, List.drop_succ_cons, List.take_succ_cons, List.take_zero] at k0 k1 k2 k3
  obtain ⟨n0, e0, -, -⟩ := DataW.trod_int Tryd.underlying3 k0
  obtain ⟨n1, e1, -, -⟩ := DataW.trod_int Tryd.underlying3 k1
  obtain ⟨n2, e2, -, -⟩ := DataW.trod_int Tryd.underlying3 k2
  obtain ⟨n3, e3, -, -⟩ := DataW.trod_int Tryd.underlying3 k3
  simp at e0 e1 e2 e3
  subst e0 e1 e2 e3
  exact ⟨n0, n1, n2, n3, rfl⟩
end Go.Proofs.YtnilofeakdibhaaDoor
