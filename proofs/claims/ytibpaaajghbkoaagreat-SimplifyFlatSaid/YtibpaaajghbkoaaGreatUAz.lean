/-   -/
import Derived.Test.YtibpaaajghbkoaaGreatUAw
import Derived.Test.YtibpaaajghbkoaaGreatUAn
import Derived.Test.YtibpaaajghbkoaaGreatUAt
import Derived.Test.YtibpaaajghbkoaaGreatUAq
import Derived.Test.YtibpaaajghbkoaaGreatUAy
namespace Go.Proofs.YtibpaaajghbkoaaGreat
open Go.RowKit Go.Sort
abbrev ItD := Nat × Sg
def xlo (s : Sg) : Int := min s.1.1 s.2.1
def xhi (s : Sg) : Int := max s.1.1 s.2.1
def ylo (s : Sg) : Int := min s.1.2 s.2.2
def yhi (s : Sg) : Int := max s.1.2 s.2.2
def encIt (x : ItD) : List Value := [.int .i64 x.1, .int .i64 x.2.1.1, .int .i64 x.2.1.2, .int .i64 x.2.2.1, .int .i64 x.2.2.2, .int .i64 (xlo x.2), .int .i64 (xhi x.2), .int .i64 (ylo x.2), .int .i64 (yhi x.2)]
theorem encIt_len (x : ItD) : (encIt x).length = 9 := rfl
theorem encIt_one (x : ItD) : ∀ v ∈ encIt x, v.oneCell' = true := by
 intro v hv
 simp only [encIt, List.mem_cons, List.not_mem_nil, or_false] at hv
 rcases hv with rfl | rfl | rfl | rfl | rfl | rfl | rfl | rfl | rfl <;> rfl
theorem swof_any (a b : Int) (w : World) :
  Calls Tryz.prog 180 #[.int .i64 a, .int .i64 b] w fun e w' => e = .returned (.agg #[.int .i64 (min a b), .int .i64 (max a b)]) ∧ Below w.heap.size w w' := by
 have hmn : ∀ (W : World) ts t, (Builtin.min_ ts t #[.int .i64 a, .int .i64 b]).run Tryz.prog W = .ok (.int .i64 (min a b)) W := fun W ts t => by
  have e : (if b < a then b else a) = min a b := by split <;> omega
  simp [Builtin.min_, Builtin.min2, e]
 have hmx : ∀ (W : World) ts t, (Builtin.max_ ts t #[.int .i64 a, .int .i64 b]).run Tryz.prog W = .ok (.int .i64 (max a b)) W := fun W ts t => by
  have e : (if a < b then b else a) = max a b := by split <;> omega
  simp [Builtin.max_, Builtin.max2, e]
 generalize min a b = m at hmn ⊢
 generalize max a b = n at hmx ⊢
 go_enter Tryz.func180, Tryz.ntmps180
 go_wp2
 refine bodyPost_ret (v := .agg #[.int .i64 m, .int .i64 n]) ?_ rfl ⟨rfl, ?_⟩
 ·simp [results, Tryz.results180, go_sem]
 ·repeat' (first | exact Below.refl _ _ | refine Below.drew ?_ | refine Below.drewN' ?_ | refine Below.setCell ?_ (by first | omega | (simp; done) | exact Below.size (by assumption) | (simp; omega)) _ | refine Below.alloc ?_ (by first | omega | (simp; done) | exact Below.size (by assumption) | (simp; omega)) _ | refine Below.trans ?_ (Below.mono (by assumption) ?_) | (first | omega | (simp; done) | exact Below.size (by assumption) | (simp; omega)))
theorem swmeets_any (a b c d : Int) (w : World) :
  Calls Tryz.prog 185 #[.agg #[.int .i64 a, .int .i64 b], .agg #[.int .i64 c, .int .i64 d]] w fun e w' => e = .returned (.bool (decide (a ≤ d) && decide (c ≤ b))) ∧ Below w.heap.size w w' := by
 by_cases h : a ≤ d
 ·have e1 : decide (a ≤ d) = true := decide_eq_true h
  rw [e1]
  clear h
  go_enter Tryz.func185, Tryz.ntmps185
  go_wp2
  go_ret
  exact ⟨by simp, (by repeat' (first | exact Below.refl _ _ | refine Below.drew ?_ | refine Below.drewN' ?_ | refine Below.setCell ?_ (by first | omega | (simp; done) | exact Below.size (by assumption) | (simp; omega)) _ | refine Below.alloc ?_ (by first | omega | (simp; done) | exact Below.size (by assumption) | (simp; omega)) _ | refine Below.trans ?_ (Below.mono (by assumption) ?_) | (first | omega | (simp; done) | exact Below.size (by assumption) | (simp; omega))))⟩
 ·have e1 : decide (a ≤ d) = false := decide_eq_false h
  rw [e1]
  clear h
  go_enter Tryz.func185, Tryz.ntmps185
  go_wp2
  go_ret
  exact ⟨by simp, (by repeat' (first | exact Below.refl _ _ | refine Below.drew ?_ | refine Below.drewN' ?_ | refine Below.setCell ?_ (by first | omega | (simp; done) | exact Below.size (by assumption) | (simp; omega)) _ | refine Below.alloc ?_ (by first | omega | (simp; done) | exact Below.size (by assumption) | (simp; omega)) _ | refine Below.trans ?_ (Below.mono (by assumption) ?_) | (first | omega | (simp; done) | exact Below.size (by assumption) | (simp; omega))))⟩
def cfIt (x y : ItD) : Int := if Lib.compareInt (xlo x.2) (xlo y.2) = 0 then (x.1 : Int) - (y.1 : Int) else Lib.compareInt (xlo x.2) (xlo y.2)
theorem cfIt_neg (x y : ItD) : cfIt x y < 0 ↔ xlo x.2 < xlo y.2 ∨ (xlo x.2 = xlo y.2 ∧ x.1 < y.1) := by
 unfold cfIt Lib.compareInt
 split <;> split at * <;> (try split at *) <;> omega
abbrev ItT := {x : ItD // x.1 ≤ 20000}
instance : Inhabited ItT := ⟨⟨(0, ((0, 0), (0, 0))), by decide⟩⟩
theorem swoIt : SWO (ltOf fun x y : ItT => cfIt x.1 y.1) where
 irrefl := fun x => by unfold ltOf; rw [decide_eq_false_iff_not, cfIt_neg]; omega
 trans := fun x y z h h2 => by unfold ltOf at *; rw [decide_eq_true_eq, cfIt_neg] at *; omega
 ntrans := fun x y z h h2 => by unfold ltOf at *; rw [decide_eq_false_iff_not, cfIt_neg] at *; omega
abbrev MtD := Nat × Nat × Int
def encMt (m : MtD) : List Value := [.int .i64 m.1, .int .i64 m.2.1, .int .i64 m.2.2]
theorem encMt_len (x : MtD) : (encMt x).length = 3 := rfl
theorem encMt_one (x : MtD) : ∀ v ∈ encMt x, v.oneCell' = true := by
 intro v hv
 simp only [encMt, List.mem_cons, List.not_mem_nil, or_false] at hv
 rcases hv with rfl | rfl | rfl <;> rfl
def cfMt (x y : MtD) : Int := if (x.1 : Int) - (y.1 : Int) = 0 then (x.2.1 : Int) - (y.2.1 : Int) else (x.1 : Int) - (y.1 : Int)
theorem cfMt_neg (x y : MtD) : cfMt x y < 0 ↔ x.1 < y.1 ∨ (x.1 = y.1 ∧ x.2.1 < y.2.1) := by
 unfold cfMt
 split <;> omega
abbrev MtT := {x : MtD // x.1 ≤ 20000 ∧ x.2.1 ≤ 20000}
instance : Inhabited MtT := ⟨⟨(0, 0, 0), by decide⟩⟩
theorem swoMt : SWO (ltOf fun x y : MtT => cfMt x.1 y.1) where
 irrefl := fun x => by unfold ltOf; rw [decide_eq_false_iff_not, cfMt_neg]; omega
 trans := fun x y z h h2 => by unfold ltOf at *; rw [decide_eq_true_eq, cfMt_neg] at *; omega
 ntrans := fun x y z h h2 => by unfold ltOf at *; rw [decide_eq_false_iff_not, cfMt_neg] at *; omega
set_option maxHeartbeats 1000000 in
theorem mtc_any (x y : MtT) (w : World) :
  Calls Tryz.prog 187 #[.agg (encMt x.1).toArray, .agg (encMt y.1).toArray] w fun e w' => e = .returned (.int .i64 (cfMt x.1 y.1)) ∧ Grew w w' := by
 have OR := Lib.hid (fun B c W h0 h1 => orI_any ((x.1.1 : Int) - (y.1.1 : Int)) ((x.1.2.1 : Int) - (y.1.2.1 : Int)) B c W h0 h1)
 have HQ := Lib.hid (show cfMt x.1 y.1 = if (x.1.1 : Int) - (y.1.1 : Int) = 0 then (x.1.2.1 : Int) - (y.1.2.1 : Int) else (x.1.1 : Int) - (y.1.1 : Int) from rfl)
 generalize cfMt x.1 y.1 = r at HQ ⊢
 rw [← HQ.out] at OR
 obtain ⟨⟨xa, xb, xk⟩, hx1, hx2⟩ := x
 obtain ⟨⟨ya, yb, yk⟩, hy1, hy2⟩ := y
 simp only [encMt] at OR hx1 hx2 hy1 hy2 ⊢
 clear HQ
 go_enter Tryz.func187, Tryz.ntmps187
 go_wp2_with fail
 have H3 := row_new2 w (.cells #[.int .i64 xa, .int .i64 xb, .int .i64 xk] 188) (.cells #[.int .i64 ya, .int .i64 yb, .int .i64 yk] 188) (.cells #[.int .i64 ((xa : Int) - ya), .int .i64 ((xb : Int) - yb)] 3)
 have G1 : Grew w (((w.alloc (.cells #[.int .i64 xa, .int .i64 xb, .int .i64 xk] 188)).alloc (.cells #[.int .i64 ya, .int .i64 yb, .int .i64 yk] 188)).alloc (.cells #[.int .i64 ((xa : Int) - ya), .int .i64 ((xb : Int) - yb)] 3)) := (((Grew.refl w).alloc _).alloc _).alloc _
 generalize hw1 : ((w.alloc (.cells #[.int .i64 xa, .int .i64 xb, .int .i64 xk] 188)).alloc (.cells #[.int .i64 ya, .int .i64 yb, .int .i64 yk] 188)).alloc (.cells #[.int .i64 ((xa : Int) - ya), .int .i64 ((xb : Int) - yb)] 3) = w1
 rw [hw1] at G1 H3
 clear hw1
 have H3 := Lib.hid H3
 obtain ⟨kz, k0, k1⟩ := rk2 H3.out
 refine (OR.out _ _ _ k0 k1).mono ?_
 rintro e w2 ⟨rfl, rfl⟩
 go_wp2
 go_ret
 exact ⟨rfl, G1⟩
set_option maxRecDepth 100000 in
set_option maxHeartbeats 2000000 in
theorem itc_any (x y : ItT) (w : World) :
  Calls Tryz.prog 182 #[.agg (encIt x.1).toArray, .agg (encIt y.1).toArray] w fun e w' => e = .returned (.int .i64 (cfIt x.1 y.1)) ∧ Grew w w' := by
 have mixed : Tryz.prog.follows .mixedOrders = true := by kernel_rfl
 have OR := Lib.hid (fun B c W h0 h1 => orI_any (Lib.compareInt (xlo x.1.2) (xlo y.1.2)) ((x.1.1 : Int) - (y.1.1 : Int)) B c W h0 h1)
 have C1 := Lib.hid (fun w => Tryz.cmp_Compare_int (xlo x.1.2) (xlo y.1.2) w)
 have HQ := Lib.hid (show cfIt x.1 y.1 = if Lib.compareInt (xlo x.1.2) (xlo y.1.2) = 0 then (x.1.1 : Int) - (y.1.1 : Int) else Lib.compareInt (xlo x.1.2) (xlo y.1.2) from rfl)
 generalize cfIt x.1 y.1 = r at HQ ⊢
 rw [← HQ.out] at OR
 generalize Lib.compareInt (xlo x.1.2) (xlo y.1.2) = cc at OR C1 HQ
 obtain ⟨⟨xi, ⟨⟨x1, x2⟩, ⟨x3, x4⟩⟩⟩, hx⟩ := x
 obtain ⟨⟨yi, ⟨⟨y1, y2⟩, ⟨y3, y4⟩⟩⟩, hy⟩ := y
 simp only [encIt] at OR C1 hx hy ⊢
 generalize xlo ((x1, x2), x3, x4) = xl at C1 ⊢
 generalize xhi ((x1, x2), x3, x4) = xh
 generalize ylo ((x1, x2), x3, x4) = xm
 generalize yhi ((x1, x2), x3, x4) = xn
 generalize xlo ((y1, y2), y3, y4) = yl at C1 ⊢
 generalize xhi ((y1, y2), y3, y4) = yh
 generalize ylo ((y1, y2), y3, y4) = ym
 generalize yhi ((y1, y2), y3, y4) = yn
 clear HQ
 have wd : IntKind.i64.wrap ((xi : Int) - (yi : Int)) = (xi : Int) - (yi : Int) := IntWalk.i64_in _ (by omega)
 go_enter Tryz.func182, Tryz.ntmps182
 go_wp2_with fail
 have H1 := row_past (o' := .cells #[.int .i64 yi, .int .i64 y1, .int .i64 y2, .int .i64 y3, .int .i64 y4, .int .i64 yl, .int .i64 yh, .int .i64 ym, .int .i64 yn] 230) (row_new w (.cells #[.int .i64 xi, .int .i64 x1, .int .i64 x2, .int .i64 x3, .int .i64 x4, .int .i64 xl, .int .i64 xh, .int .i64 xm, .int .i64 xn] 230))
 have H2 := row_new1 w (.cells #[.int .i64 xi, .int .i64 x1, .int .i64 x2, .int .i64 x3, .int .i64 x4, .int .i64 xl, .int .i64 xh, .int .i64 xm, .int .i64 xn] 230) (.cells #[.int .i64 yi, .int .i64 y1, .int .i64 y2, .int .i64 y3, .int .i64 y4, .int .i64 yl, .int .i64 yh, .int .i64 ym, .int .i64 yn] 230)
 have G1 : Grew w ((w.alloc (.cells #[.int .i64 xi, .int .i64 x1, .int .i64 x2, .int .i64 x3, .int .i64 x4, .int .i64 xl, .int .i64 xh, .int .i64 xm, .int .i64 xn] 230)).alloc (.cells #[.int .i64 yi, .int .i64 y1, .int .i64 y2, .int .i64 y3, .int .i64 y4, .int .i64 yl, .int .i64 yh, .int .i64 ym, .int .i64 yn] 230)) := ((Grew.refl w).alloc _).alloc _
 generalize hw1 : (w.alloc (.cells #[.int .i64 xi, .int .i64 x1, .int .i64 x2, .int .i64 x3, .int .i64 x4, .int .i64 xl, .int .i64 xh, .int .i64 xm, .int .i64 xn] 230)).alloc (.cells #[.int .i64 yi, .int .i64 y1, .int .i64 y2, .int .i64 y3, .int .i64 y4, .int .i64 yl, .int .i64 yh, .int .i64 ym, .int .i64 yn] 230) = w1
 rw [hw1] at G1 H1 H2
 clear hw1
 have H1 := Lib.hid H1
 have H2 := Lib.hid H2
 refine MG.wp_region_mix 12 (fun W => Grew w1 W) (fun W => Grew w1 W) mixed (by kernel_rfl) (by kernel_rfl) (by kernel_rfl) (MG.StableW.grew _) (fun W hW => hW) (Grew.refl _).drew ?_
 apply Exists.intro
 refine ⟨fun W hW => ?_, ?_⟩
 ·have HA := Lib.hid (row_later hW.below H1.out)
  have HB := Lib.hid (row_later hW.below H2.out)
  have az := lt_of_block HA.out
  have a0 := cell_of_row W _ 0 _ _ _ HA.out
  have a1 := cell_of_row W _ 1 _ _ _ HA.out
  have a2 := cell_of_row W _ 2 _ _ _ HA.out
  have a3 := cell_of_row W _ 3 _ _ _ HA.out
  have a4 := cell_of_row W _ 4 _ _ _ HA.out
  have a5 := cell_of_row W _ 5 _ _ _ HA.out
  have a6 := cell_of_row W _ 6 _ _ _ HA.out
  have a7 := cell_of_row W _ 7 _ _ _ HA.out
  have a8 := cell_of_row W _ 8 _ _ _ HA.out
  simp only [List.getElem?_toArray, List.getElem?_cons_zero, List.getElem?_cons_succ] at a0 a1 a2 a3 a4 a5 a6 a7 a8
  have bz := lt_of_block HB.out
  have b0 := cell_of_row W _ 0 _ _ _ HB.out
  have b1 := cell_of_row W _ 1 _ _ _ HB.out
  have b2 := cell_of_row W _ 2 _ _ _ HB.out
  have b3 := cell_of_row W _ 3 _ _ _ HB.out
  have b4 := cell_of_row W _ 4 _ _ _ HB.out
  have b5 := cell_of_row W _ 5 _ _ _ HB.out
  have b6 := cell_of_row W _ 6 _ _ _ HB.out
  have b7 := cell_of_row W _ 7 _ _ _ HB.out
  have b8 := cell_of_row W _ 8 _ _ _ HB.out
  simp only [List.getElem?_toArray, List.getElem?_cons_zero, List.getElem?_cons_succ] at b0 b1 b2 b3 b4 b5 b6 b7 b8
  have q0 := MG.cell_grewBy a0
  have q5 := MG.cell_grewBy a5
  have p0 := MG.cell_grewBy b0
  have p5 := MG.cell_grewBy b5
  clear a0 a1 a2 a3 a4 a5 a6 a7 a8 az
  clear b0 b1 b2 b3 b4 b5 b6 b7 b8 bz
  simp only [List.take_succ_cons, List.take_zero]
  repeat (go_big_quiet_step ((go_at_call 90; exact MG.calls_grewBy ((C1.out _).mono fun _ _ ⟨he, hw⟩ => ⟨he, hw ▸ Grew.refl _⟩))))
  exact wpQuiet_nil rfl
 ·simp only [List.drop_succ_cons, List.drop_zero]
  refine MG.tailM_step (ι := Nat) (fun g => .slice (some ⟨g, 0, none⟩) 2 2) (fun g W => Grew w1 W ∧ W.heap[g]? = some (.cells #[.int .i64 cc, .int .i64 ((xi : Int) - yi)] 3)) rfl (fun g => (MG.StableW.grew _).and (MG.StableW.row _ _)) (fun _ _ h => h.1) (fun W hS K hK => ?_) (fun g => ?_)
  ·go_simp
   exact hK W.heap.size _ ⟨hS.alloc _, row_new _ _⟩
  simp only [Act.put, List.setIfInBounds_toArray, List.set_cons_succ, List.set_cons_zero]
  refine MG.tailM_pure (.int .i64 r) rfl ((MG.StableW.grew _).and (MG.StableW.row _ _)) (fun _ h => h.1) (fun W hS K hK => ?_) ?_
  ·have HG := Lib.hid hS.2
   obtain ⟨gz, g0, g1⟩ := rk2 HG.out
   go_simp
   refine (OR.out _ _ _ g0 g1).mono ?_
   rintro e w2 ⟨rfl, rfl⟩
   go_simp
   exact hK
  simp only [Act.put, List.setIfInBounds_toArray, List.set_cons_succ, List.set_cons_zero]
  refine MG.tailM_pure (.int .i64 r) rfl ((MG.StableW.grew _).and (MG.StableW.row _ _)) (fun _ h => h.1) (fun W hS K hK => ?_) (MG.tailM_nil fun W hW => ?_)
  ·go_simp
   exact hK
  obtain ⟨hW1, -⟩ := hW
  simp only [Act.put, List.setIfInBounds_toArray, List.set_cons_succ, List.set_cons_zero]
  go_wp2
  go_ret
  exact ⟨rfl, G1.trans hW1⟩
theorem it2_any (x y : ItD) (Ba : Nat) (w : World) (ha : w.heap[Ba]? = some (.cells (encIt y).toArray 230)) :
  Calls Tryz.prog 184 #[.agg (encIt x).toArray, .pointer (some ⟨Ba, 0, none⟩)] w fun e w' => e = .returned (.bool (decide (xhi x.2 < xlo y.2))) ∧ Below w.heap.size w w' := by
 have HA := Lib.hid ha
 clear ha
 obtain ⟨xi, ⟨⟨x1, x2⟩, ⟨x3, x4⟩⟩⟩ := x
 obtain ⟨yi, ⟨⟨y1, y2⟩, ⟨y3, y4⟩⟩⟩ := y
 simp only [encIt] at HA ⊢
 generalize xlo ((x1, x2), x3, x4) = xl
 generalize xhi ((x1, x2), x3, x4) = xh
 generalize ylo ((x1, x2), x3, x4) = xm
 generalize yhi ((x1, x2), x3, x4) = xn
 generalize xlo ((y1, y2), y3, y4) = yl at HA ⊢
 generalize xhi ((y1, y2), y3, y4) = yh at HA
 generalize ylo ((y1, y2), y3, y4) = ym at HA
 generalize yhi ((y1, y2), y3, y4) = yn at HA
 have az := lt_of_block HA.out
 have a0 := cell_of_row w _ 0 _ _ _ HA.out
 have a1 := cell_of_row w _ 1 _ _ _ HA.out
 have a2 := cell_of_row w _ 2 _ _ _ HA.out
 have a3 := cell_of_row w _ 3 _ _ _ HA.out
 have a4 := cell_of_row w _ 4 _ _ _ HA.out
 have a5 := cell_of_row w _ 5 _ _ _ HA.out
 have a6 := cell_of_row w _ 6 _ _ _ HA.out
 have a7 := cell_of_row w _ 7 _ _ _ HA.out
 have a8 := cell_of_row w _ 8 _ _ _ HA.out
 simp only [List.getElem?_toArray, List.getElem?_cons_zero, List.getElem?_cons_succ] at a0 a1 a2 a3 a4 a5 a6 a7 a8
 go_enter Tryz.func184, Tryz.ntmps184
 go_wp2
 go_ret
 exact ⟨rfl, (by repeat' (first | exact Below.refl _ _ | refine Below.drew ?_ | refine Below.drewN' ?_ | refine Below.setCell ?_ (by first | omega | (simp; done) | exact Below.size (by assumption) | (simp; omega)) _ | refine Below.alloc ?_ (by first | omega | (simp; done) | exact Below.size (by assumption) | (simp; omega)) _ | refine Below.trans ?_ (Below.mono (by assumption) ?_) | (first | omega | (simp; done) | exact Below.size (by assumption) | (simp; omega))))⟩
end Go.Proofs.YtibpaaajghbkoaaGreat

namespace Go.Proofs.YtibpaaajghbkoaaGreat
open Go.RowKit Go.Sort
def leftI (y x : ItD) : Bool := decide (xhi x.2 < xlo y.2)
def Holds9 (X : Array Value) (l : List ItD) (from' : Nat) : Prop := ∀ (a : Nat) (x : ItD) (t : Nat) (u : Value), from' ≤ a → l[a]? = some x → (encIt x)[t]? = some u → X[a * 9 + t]? = some u
theorem enc9_lt {x : ItD} {t : Nat} {u : Value} (h : (encIt x)[t]? = some u) : t < 9 := (List.getElem?_eq_some_iff.1 h).1
theorem Holds9.flat {X : Array Value} {l : List ItD} (h : Holds9 X l 0) : X.toList.take (l.length * 9) = l.flatMap encIt := by
 apply List.ext_getElem?
 intro i
 rw [List.getElem?_take]
 by_cases hi : i < l.length * 9
 ·have hk : i / 9 < l.length := by omega
  have e : i / 9 * 9 + i % 9 = i := by omega
  have h1 := flat_get encIt 9 encIt_len l (i / 9) (i % 9) l[i / 9] (List.getElem?_eq_getElem hk) (by omega)
  rw [e] at h1
  have hu : (encIt l[i / 9])[i % 9]? = some ((encIt l[i / 9])[i % 9]'(by rw [encIt_len]; omega)) := List.getElem?_eq_getElem _
  have h2 := h (i / 9) _ (i % 9) _ (Nat.zero_le _) (List.getElem?_eq_getElem hk) hu
  rw [e] at h2
  rw [if_pos hi, h1, hu, Array.getElem?_toList, h2]
 ·rw [if_neg hi, List.getElem?_eq_none (by rw [flat_length encIt 9 encIt_len]; omega)]
theorem Holds9.of_flat {X : Array Value} {l : List ItD} (h : X.toList.take (l.length * 9) = l.flatMap encIt) : Holds9 X l 0 := by
 intro a x t u _ hx hu
 have ht := enc9_lt hu
 have ha := (List.getElem?_eq_some_iff.1 hx).1
 have h1 := flat_get encIt 9 encIt_len l a t x hx ht
 rw [← h, List.getElem?_take, if_pos (by omega), Array.getElem?_toList, hu] at h1
 exact h1
theorem Holds9.mono {X : Array Value} {l : List ItD} {i j : Nat} (h : Holds9 X l i) (hij : i ≤ j) : Holds9 X l j := fun a x t u ha => h a x t u (Nat.le_trans hij ha)
theorem Holds9.splice_after {X : Array Value} {l : List ItD} {i j : Nat} {x : ItD} (h : Holds9 X l j) (hij : i < j) (hs : i * 9 + 9 ≤ X.size) : Holds9 (splice X (i * 9) (encIt x)) l j := by
 intro a y t u ha hy hu
 rw [splice_get _ _ _ (by rw [encIt_len]; exact hs), encIt_len, if_neg (by omega)]
 exact h a y t u ha hy hu
theorem Holds9.splice_snoc {X : Array Value} {l : List ItD} {x : ItD} (h : Holds9 X l 0) (hs : l.length * 9 + 9 ≤ X.size) : Holds9 (splice X (l.length * 9) (encIt x)) (l ++ [x]) 0 := by
 intro a y t u ha hy hu
 have ht := enc9_lt hu
 rw [splice_get _ _ _ (by rw [encIt_len]; exact hs), encIt_len]
 by_cases hal : a < l.length
 ·rw [if_neg (by omega)]
  rw [List.getElem?_append_left hal] at hy
  exact h a y t u ha hy hu
 ·rw [List.getElem?_append_right (by omega)] at hy
  have e : a = l.length := by
   have := (List.getElem?_eq_some_iff.1 hy).1
   simp at this; omega
  subst e
  simp at hy
  subst hy
  rw [if_pos ⟨by omega, by omega⟩, show l.length * 9 + t - l.length * 9 = t by omega]
  exact hu
def IdxI (A : List ItD) (y : ItD) (w : World) (e : Ending) (w' : World) : Prop :=
 (∃ n : Int, e = .returned (.int .i64 n) ∧ ((n = -1 ∧ ∀ x ∈ A, leftI y x = false) ∨ ∃ (i : Nat) (x : ItD), n = (i : Int) ∧ A[i]? = some x ∧ leftI y x = true ∧ ∀ z ∈ A.take i, leftI y z = false)) ∧ Below w.heap.size w w'
set_option maxRecDepth 100000 in
set_option maxHeartbeats 2000000 in
theorem idxI_any (v : Value) (A : List ItD) (y : ItD) (Ba : Nat) (w : World) (hv : RowE encIt 9 w v A) (hl : A.length ≤ 20000) (hs : w.heap[Ba]? = some (.cells (encIt y).toArray 230)) :
  Calls Tryz.prog 240 #[v, .func (.func 184) #[] #[.pointer (some ⟨Ba, 0, none⟩)]] w (IdxI A y w) := by
 have FR := Lib.hid (fun x W (hb : Below w.heap.size w W) => it2_any x y Ba W (row_later hb hs))
 obtain ⟨a, cap, rfl, hc⟩ := hv
 obtain ⟨N, hN⟩ : ∃ N, A.length = N := ⟨_, rfl⟩
 rw [hN] at hc hl ⊢
 have HN := Lib.hid hN
 have HC := Lib.hid hc
 clear hN hc hs
 go_enter Tryz.func240, Tryz.ntmps240
 go_wp2
 go_loopw [8] (fun i wr => ∃ k : Nat, k ≤ N ∧ i = .int .i64 k ∧ (∀ t ∈ A.take k, leftI y t = false) ∧ Below w.heap.size w wr) (fun i _ => N - (intOf i).toNat)
 case atStart => exact ⟨0, by omega, rfl, by simp, Below.refl _ _⟩
 case round =>
  obtain ⟨k, hk, rfl, hT, hbr⟩ := hrel
  have HT := Lib.hid hT
  have hzr := hbr.size
  clear hT
  by_cases hlt : k < N
  ·obtain ⟨x, hx⟩ : ∃ x, A[k]? = some x := ⟨A[k]'(by rw [HN.out]; exact hlt), List.getElem?_eq_getElem _⟩
   obtain ⟨b, off, ha, hcell⟩ := HC.out (by omega)
   subst ha
   have d0' := cell_later hbr (hcell k x hx 0 _ rfl)
   have d0 : wr.cell? ⟨b, off + k * 9, none⟩ = some (.int .i64 x.1) := d0'
   have d1 := cell_later hbr (hcell k x hx 1 _ rfl)
   have d2 := cell_later hbr (hcell k x hx 2 _ rfl)
   have d3 := cell_later hbr (hcell k x hx 3 _ rfl)
   have d4 := cell_later hbr (hcell k x hx 4 _ rfl)
   have d5 := cell_later hbr (hcell k x hx 5 _ rfl)
   have d6 := cell_later hbr (hcell k x hx 6 _ rfl)
   have d7 := cell_later hbr (hcell k x hx 7 _ rfl)
   have d8 := cell_later hbr (hcell k x hx 8 _ rfl)
   have HX := Lib.hid hx
   have F1 := Lib.hid (FR.out x wr hbr)
   have bz := lt_of_cell d0
   clear hcell d0' hx
   have F2 := Lib.hid (show Calls Tryz.prog 184 #[.agg (encIt x).toArray, .pointer (some ⟨Ba, 0, none⟩)] wr fun e w' => e = .returned (.bool (leftI y x)) ∧ Below wr.heap.size wr w' from F1.out)
   obtain ⟨bd, hbd⟩ : ∃ z, z = leftI y x := ⟨_, rfl⟩
   rw [← hbd] at F2
   have HBD := Lib.hid hbd
   clear hbd F1
   simp only [encIt] at F2
   go_wp2_with fail
   refine F2.out.mono ?_
   rintro e w2 ⟨rfl, hb2⟩
   have B2 := below_step hbr (Nat.le_refl _) hb2
   clear d0 d1 d2 d3 d4 d5 d6 d7 d8 hb2 F2
   cases bd with
   |true =>
    have HE := Lib.hid (show IdxI A y w (.returned (.int .i64 k)) w2 from ⟨⟨_, rfl, Or.inr ⟨k, x, rfl, HX.out, HBD.out.symm, HT.out⟩⟩, B2⟩)
    go_wp2
    go_ret
    exact HE.out
   |false =>
    have HG := Lib.hid (show ∀ t ∈ A.take (k + 1), leftI y t = false by
     obtain ⟨hk', e⟩ := List.getElem?_eq_some_iff.1 HX.out
     rw [List.take_succ_eq_append_getElem hk', e]
     intro t ht
     rcases List.mem_append.1 ht with h | h
     ·exact HT.out t h
     ·rw [List.mem_singleton.1 h]; exact HBD.out.symm)
    go_wp2
    go_roundw
    case rel => exact ⟨k + 1, by omega, by go_num, HG.out, B2⟩
    case measure => simp [intOf]; omega
  ·obtain rfl : k = N := by omega
   have HE := Lib.hid (show IdxI A y w (.returned (.int .i64 (-1))) wr from ⟨⟨_, rfl, Or.inl ⟨rfl, by
    have := HT.out
    rw [List.take_of_length_le (by rw [HN.out]; exact Nat.le_refl _)] at this
    exact this⟩⟩, hbr⟩)
   go_wp2
   go_ret
   exact HE.out
def DelPost (A : List ItD) (y : ItD) (base : Nat) (v : Value) (w : World) (e : Ending) (w' : World) : Prop :=
 ∃ v', e = .returned v' ∧ w'.ownsRow base 230 9 v' (A.filter fun x => !leftI y x).length ((A.filter fun x => !leftI y x).flatMap encIt) ∧ w.grownBy w' v.ownBlock ∧ v'.ownBlock = v.ownBlock
theorem filter_snoc {A : List ItD} {p : ItD → Bool} {j : Nat} {x : ItD} (hx : A[j]? = some x) : (A.take (j + 1)).filter p = (A.take j).filter p ++ if p x then [x] else [] := by
 obtain ⟨hk, e⟩ := List.getElem?_eq_some_iff.1 hx
 rw [List.take_succ_eq_append_getElem hk, e, List.filter_append]
 cases h : p x <;> simp [h]
theorem take_get {α : Type} {l : List α} {n i : Nat} {x : α} (h : (l.take n)[i]? = some x) : l[i]? = some x := by
 rw [List.getElem?_take] at h
 split at h
 ·exact h
 ·cases h
theorem zero9 (n : Nat) : ∀ v ∈ (Builtin.zeroCells (Value.agg #[.int .i64 0, .int .i64 0, .int .i64 0, .int .i64 0, .int .i64 0, .int .i64 0, .int .i64 0, .int .i64 0, .int .i64 0]).cells n).toList, v.oneCell' = true := by
 intro v hv
 have key : ∀ k, k < 9 → ((#[.int .i64 0, .int .i64 0, .int .i64 0, .int .i64 0, .int .i64 0, .int .i64 0, .int .i64 0, .int .i64 0, .int .i64 0] : Array Value)[k]!).oneCell' = true := by
  intro k hk
  match k, hk with
  |0, _ | 1, _ | 2, _ | 3, _ | 4, _ | 5, _ | 6, _ | 7, _ | 8, _ => rfl
 simp only [Builtin.zeroCells, Value.cells, Array.toList_map, List.mem_map] at hv
 obtain ⟨i, _, rfl⟩ := hv
 exact key _ (Nat.mod_lt _ (by decide))
theorem zeroIt (w : World) : (zeroValue 230).run Tryz.prog w = .ok (.agg #[.int .i64 0, .int .i64 0, .int .i64 0, .int .i64 0, .int .i64 0, .int .i64 0, .int .i64 0, .int .i64 0, .int .i64 0]) w := by kernel_rfl
set_option maxRecDepth 100000 in
set_option maxHeartbeats 4000000 in
theorem delI_any (v : Value) (A : List ItD) (y : ItD) (Ba base : Nat) (w : World) (hv : w.ownsRow base 230 9 v A.length (A.flatMap encIt)) (hl : A.length ≤ 20000) (hs : w.heap[Ba]? = some (.cells (encIt y).toArray 230)) (hne : v.ownBlock ≠ some Ba) :
  Calls Tryz.prog 183 #[v, .func (.func 184) #[] #[.pointer (some ⟨Ba, 0, none⟩)]] w (DelPost A y base v w) := by
 have IX := Lib.hid (idxI_any v A y Ba w (RowE.of_own encIt_len rfl hv) hl hs)
 have FR := Lib.hid (fun x W (hb : W.heap[Ba]? = some (.cells (encIt y).toArray 230)) => (show Calls Tryz.prog 184 #[.agg (encIt x).toArray, .pointer (some ⟨Ba, 0, none⟩)] W fun e w' => e = .returned (.bool (leftI y x)) ∧ Below W.heap.size W w' from it2_any x y Ba W hb))
 have HV := Lib.hid hv
 obtain ⟨a, n0, cap, hva⟩ : ∃ a n0 cap, v = .slice a n0 cap := ⟨_, _, _, own_parts hv⟩
 subst hva
 go_enter Tryz.func183, Tryz.ntmps183
 go_wp2_with fail
 refine IX.out.mono ?_
 rintro e w2 ⟨⟨n, rfl, hn⟩, hb⟩
 clear IX
 rcases hn with ⟨rfl, hall⟩ | ⟨i0, x0, rfl, hx0, hl0, hbef⟩
 ·have HF := Lib.hid (show (A.filter fun x => !leftI y x) = A from List.filter_eq_self.2 fun x hx => by rw [hall x hx]; rfl)
  have HE := Lib.hid (show DelPost A y base (.slice a n0 cap) w (.returned (.slice a n0 cap)) w2 from ⟨_, rfl, by rw [HF.out]; exact own_later HV.out hb, (World.grownBy.refl w none).trans ⟨hb.os, hb.tape, hb.output, hb.size, fun k hk _ => hb.block k hk⟩ |>.but _, rfl⟩)
  clear hall hb hv hs
  go_wp2
  go_ret
  exact HE.out
 ·rcases HV.out.2 with ⟨h1, h2⟩ | ⟨g, cap', cur, h1, hb0, hc, hn1, hcm, hsz, hfl⟩
  ·have := (List.getElem?_eq_some_iff.1 hx0).1; omega
  injection h1 with e1 e2 e3
  subst e1 e2 e3
  obtain ⟨N, hN⟩ : ∃ N, A.length = N := ⟨_, rfl⟩
  have hi0 : i0 < N := by rw [← hN]; exact (List.getElem?_eq_some_iff.1 hx0).1
  have hgB : g ≠ Ba := fun e => hne (by simp [Value.ownBlock, e])
  have HA0 := Holds9.of_flat hfl
  have h0 : (A.take (i0 + 1)).filter (fun x => !leftI y x) = A.take i0 := by
   rw [filter_snoc hx0, hl0, List.filter_eq_self.2 fun x hx => by rw [hbef x hx]; rfl]; simp
  have HS0 := Lib.hid (show i0 = ((A.take (i0 + 1)).filter fun x => !leftI y x).length ∧ Holds9 cur ((A.take (i0 + 1)).filter fun x => !leftI y x) 0 ∧ Holds9 cur A (i0 + 1) from ⟨by rw [h0, List.length_take]; omega, by
   rw [h0]
   exact fun a x t u ha hx hu => HA0 a x t u ha (take_get hx) hu, HA0.mono (Nat.zero_le _)⟩)
  have HC2 := Lib.hid (row_later hb hc)
  have HBa := Lib.hid (row_later hb (show w.heap[Ba]? = some (.cells (encIt y).toArray 230) from by assumption))
  have HBB := Lib.hid hb
  have HFL := Lib.hid (And.intro hb0 (And.intro hn1 (And.intro hcm hsz)))
  have HNN := Lib.hid hN
  rw [hN] at hl hn1 ⊢
  have hm1 : ((i0 : Int) == -1) = false := by rw [beq_eq_false_iff_ne]; omega
  clear hN hfl HA0 h0 hx0 hl0 hbef hc hb hv HV
  go_wp2_with fail
  go_loopw [5, 6] (fun v5 v6 wr => ∃ (i j : Nat) (X : Array Value), v5 = .int .i64 i ∧ v6 = .int .i64 j ∧ i < j ∧ j ≤ N ∧ wr.heap[g]? = some (.cells X 230 (0, 0)) ∧ X.size = cap * 9 ∧ (i = ((A.take j).filter fun x => !leftI y x).length ∧ Holds9 X ((A.take j).filter fun x => !leftI y x) 0 ∧ Holds9 X A j) ∧ w2.grownBy wr (some g)) (fun _ v6 _ => N - (intOf v6).toNat)
  case atStart => exact ⟨i0, i0 + 1, cur, rfl, by go_num, by omega, by omega, HC2.out, HFL.out.2.2.2, HS0.out, World.grownBy.refl _ _⟩
  case round =>
   obtain ⟨i, j, X, rfl, rfl, hij, hjN, hX, hXs, hst, hgr⟩ := hrel
   have HXg := Lib.hid hX
   have HST := Lib.hid hst
   have HGR := Lib.hid hgr
   have hzr := hgr.size
   have HBr := Lib.hid (row_grown hgr HBa.out (fun e => hgB (by injection e with e; exact e.symm)))
   clear hX hst hgr
   by_cases hlt : j < N
   ·obtain ⟨x, hx⟩ : ∃ x, A[j]? = some x := ⟨A[j]'(by rw [HNN.out]; exact hlt), List.getElem?_eq_getElem _⟩
    have x0 := cell_of_row wr _ (j * 9 + 0) _ _ _ HXg.out
    have x1 := cell_of_row wr _ (j * 9 + 1) _ _ _ HXg.out
    have x2 := cell_of_row wr _ (j * 9 + 2) _ _ _ HXg.out
    have x3 := cell_of_row wr _ (j * 9 + 3) _ _ _ HXg.out
    have x4 := cell_of_row wr _ (j * 9 + 4) _ _ _ HXg.out
    have x5 := cell_of_row wr _ (j * 9 + 5) _ _ _ HXg.out
    have x6 := cell_of_row wr _ (j * 9 + 6) _ _ _ HXg.out
    have x7 := cell_of_row wr _ (j * 9 + 7) _ _ _ HXg.out
    have x8 := cell_of_row wr _ (j * 9 + 8) _ _ _ HXg.out
    rw [show X[j * 9 + 0]? = some (.int .i64 x.1) from HST.out.2.2 j x 0 _ (Nat.le_refl _) hx rfl] at x0
    rw [show X[j * 9 + 1]? = some (.int .i64 x.2.1.1) from HST.out.2.2 j x 1 _ (Nat.le_refl _) hx rfl] at x1
    rw [show X[j * 9 + 2]? = some (.int .i64 x.2.1.2) from HST.out.2.2 j x 2 _ (Nat.le_refl _) hx rfl] at x2
    rw [show X[j * 9 + 3]? = some (.int .i64 x.2.2.1) from HST.out.2.2 j x 3 _ (Nat.le_refl _) hx rfl] at x3
    rw [show X[j * 9 + 4]? = some (.int .i64 x.2.2.2) from HST.out.2.2 j x 4 _ (Nat.le_refl _) hx rfl] at x4
    rw [show X[j * 9 + 5]? = some (.int .i64 (xlo x.2)) from HST.out.2.2 j x 5 _ (Nat.le_refl _) hx rfl] at x5
    rw [show X[j * 9 + 6]? = some (.int .i64 (xhi x.2)) from HST.out.2.2 j x 6 _ (Nat.le_refl _) hx rfl] at x6
    rw [show X[j * 9 + 7]? = some (.int .i64 (ylo x.2)) from HST.out.2.2 j x 7 _ (Nat.le_refl _) hx rfl] at x7
    rw [show X[j * 9 + 8]? = some (.int .i64 (yhi x.2)) from HST.out.2.2 j x 8 _ (Nat.le_refl _) hx rfl] at x8
    have x0' : wr.cell? ⟨g, j * 9, none⟩ = some (.int .i64 x.1) := x0
    have gz := lt_of_block HXg.out
    have HJX := Lib.hid hx
    have F1 := Lib.hid (fun W hb => FR.out x W hb)
    have HFS := Lib.hid (filter_snoc (p := fun x => !leftI y x) hx)
    clear hx x0
    obtain ⟨bd, hbd⟩ : ∃ z, z = leftI y x := ⟨_, rfl⟩
    rw [← hbd] at F1 HFS
    clear hbd
    have HEN := Lib.hid (show (encIt x).toArray = #[.int .i64 x.1, .int .i64 x.2.1.1, .int .i64 x.2.1.2, .int .i64 x.2.2.1, .int .i64 x.2.2.2, .int .i64 (xlo x.2), .int .i64 (xhi x.2), .int .i64 (ylo x.2), .int .i64 (yhi x.2)] from rfl)
    rw [HEN.out] at F1
    go_wp2_with fail
    have BX : Below wr.heap.size wr (wr.alloc (.cells #[.int .i64 x.1, .int .i64 x.2.1.1, .int .i64 x.2.1.2, .int .i64 x.2.2.1, .int .i64 x.2.2.2, .int .i64 (xlo x.2), .int .i64 (xhi x.2), .int .i64 (ylo x.2), .int .i64 (yhi x.2)] 230)) := (Below.refl _ _).alloc (Nat.le_refl _) _
    have HV4 := row_new wr (.cells #[.int .i64 x.1, .int .i64 x.2.1.1, .int .i64 x.2.1.2, .int .i64 x.2.2.1, .int .i64 x.2.2.2, .int .i64 (xlo x.2), .int .i64 (xhi x.2), .int .i64 (ylo x.2), .int .i64 (yhi x.2)] 230)
    generalize hw4 : wr.alloc (.cells #[.int .i64 x.1, .int .i64 x.2.1.1, .int .i64 x.2.1.2, .int .i64 x.2.2.1, .int .i64 x.2.2.2, .int .i64 (xlo x.2), .int .i64 (xhi x.2), .int .i64 (ylo x.2), .int .i64 (yhi x.2)] 230) = w4
    rw [hw4] at BX HV4
    have hz4 : w4.heap.size = wr.heap.size + 1 := by rw [← hw4]; simp
    clear hw4
    refine (F1.out _ (row_later BX HBr.out)).mono ?_
    rintro e w5 ⟨rfl, hb5⟩
    have B5 := below_step BX (Nat.le_refl _) hb5
    have HX5 := Lib.hid (row_later B5 HXg.out)
    have HV5 := Lib.hid (row_later hb5 HV4)
    have hz5 := hb5.size
    have G5 := Lib.hid (HGR.out.trans ⟨B5.os, B5.tape, B5.output, B5.size, fun k hk _ => B5.block k hk⟩)
    clear hb5 BX HV4 B5 x1 x2 x3 x4 x5 x6 x7 x8 x0'
    cases bd with
    |true =>
     have HF2 := Lib.hid (show ((A.take (j + 1)).filter fun x => !leftI y x) = (A.take j).filter fun x => !leftI y x by rw [HFS.out]; simp)
     have HS2 := Lib.hid (show i = ((A.take (j + 1)).filter fun x => !leftI y x).length ∧ Holds9 X ((A.take (j + 1)).filter fun x => !leftI y x) 0 ∧ Holds9 X A (j + 1) from by
      rw [HF2.out]; exact ⟨HST.out.1, HST.out.2.1, HST.out.2.2.mono (Nat.le_succ _)⟩)
     go_wp2
     go_roundw
     case rel => exact ⟨i, j + 1, X, rfl, by go_num, by omega, by omega, HX5.out, hXs, HS2.out, G5.out⟩
     case measure => simp [intOf]; omega
    |false =>
     have HF2 := Lib.hid (show ((A.take (j + 1)).filter fun x => !leftI y x) = ((A.take j).filter fun x => !leftI y x) ++ [x] by rw [HFS.out]; simp)
     have hcap : N ≤ cap := by have := HFL.out.2.1; rw [HNN.out] at this; exact this
     have hi9 : i * 9 + 9 ≤ X.size := by omega
     obtain ⟨u0', hu0⟩ : ∃ u, X[i * 9 + 0]? = some u := ⟨_, Array.getElem?_eq_getElem (by omega)⟩
     have s0 := (cell_of_row w5 _ (i * 9 + 0) _ _ _ HX5.out).trans hu0
     obtain ⟨u1', hu1⟩ : ∃ u, X[i * 9 + 1]? = some u := ⟨_, Array.getElem?_eq_getElem (by omega)⟩
     have s1 := (cell_of_row w5 _ (i * 9 + 1) _ _ _ HX5.out).trans hu1
     obtain ⟨u2', hu2⟩ : ∃ u, X[i * 9 + 2]? = some u := ⟨_, Array.getElem?_eq_getElem (by omega)⟩
     have s2 := (cell_of_row w5 _ (i * 9 + 2) _ _ _ HX5.out).trans hu2
     obtain ⟨u3', hu3⟩ : ∃ u, X[i * 9 + 3]? = some u := ⟨_, Array.getElem?_eq_getElem (by omega)⟩
     have s3 := (cell_of_row w5 _ (i * 9 + 3) _ _ _ HX5.out).trans hu3
     obtain ⟨u4', hu4⟩ : ∃ u, X[i * 9 + 4]? = some u := ⟨_, Array.getElem?_eq_getElem (by omega)⟩
     have s4 := (cell_of_row w5 _ (i * 9 + 4) _ _ _ HX5.out).trans hu4
     obtain ⟨u5', hu5⟩ : ∃ u, X[i * 9 + 5]? = some u := ⟨_, Array.getElem?_eq_getElem (by omega)⟩
     have s5 := (cell_of_row w5 _ (i * 9 + 5) _ _ _ HX5.out).trans hu5
     obtain ⟨u6', hu6⟩ : ∃ u, X[i * 9 + 6]? = some u := ⟨_, Array.getElem?_eq_getElem (by omega)⟩
     have s6 := (cell_of_row w5 _ (i * 9 + 6) _ _ _ HX5.out).trans hu6
     obtain ⟨u7', hu7⟩ : ∃ u, X[i * 9 + 7]? = some u := ⟨_, Array.getElem?_eq_getElem (by omega)⟩
     have s7 := (cell_of_row w5 _ (i * 9 + 7) _ _ _ HX5.out).trans hu7
     obtain ⟨u8', hu8⟩ : ∃ u, X[i * 9 + 8]? = some u := ⟨_, Array.getElem?_eq_getElem (by omega)⟩
     have s8 := (cell_of_row w5 _ (i * 9 + 8) _ _ _ HX5.out).trans hu8
     have f0 := frozen_of_row w5 _ (i * 9 + 0) _ _ HX5.out
     have f1 := frozen_of_row w5 _ (i * 9 + 1) _ _ HX5.out
     have f2 := frozen_of_row w5 _ (i * 9 + 2) _ _ HX5.out
     have f3 := frozen_of_row w5 _ (i * 9 + 3) _ _ HX5.out
     have f4 := frozen_of_row w5 _ (i * 9 + 4) _ _ HX5.out
     have f5 := frozen_of_row w5 _ (i * 9 + 5) _ _ HX5.out
     have f6 := frozen_of_row w5 _ (i * 9 + 6) _ _ HX5.out
     have f7 := frozen_of_row w5 _ (i * 9 + 7) _ _ HX5.out
     have f8 := frozen_of_row w5 _ (i * 9 + 8) _ _ HX5.out
     have s0' : w5.cell? ⟨g, i * 9, none⟩ = some u0' := s0
     have f0' : w5.frozen? ⟨g, i * 9, none⟩ = false := f0
     clear hu0 hu1 hu2 hu3 hu4 hu5 hu6 hu7 hu8 s0 f0 hi9
     have bz := lt_of_block HV5.out
     have b0 := cell_of_row w5 _ 0 _ _ _ HV5.out
     have b1 := cell_of_row w5 _ 1 _ _ _ HV5.out
     have b2 := cell_of_row w5 _ 2 _ _ _ HV5.out
     have b3 := cell_of_row w5 _ 3 _ _ _ HV5.out
     have b4 := cell_of_row w5 _ 4 _ _ _ HV5.out
     have b5 := cell_of_row w5 _ 5 _ _ _ HV5.out
     have b6 := cell_of_row w5 _ 6 _ _ _ HV5.out
     have b7 := cell_of_row w5 _ 7 _ _ _ HV5.out
     have b8 := cell_of_row w5 _ 8 _ _ _ HV5.out
     simp only [List.getElem?_toArray, List.getElem?_cons_zero, List.getElem?_cons_succ] at b0 b1 b2 b3 b4 b5 b6 b7 b8
     go_wp2_with fail
     have hcs : ((((((((w5.setCell ⟨g, i * 9, none⟩ (.int .i64 x.1)).setCell ⟨g, i * 9 + 1, none⟩ (.int .i64 x.2.1.1)).setCell ⟨g, i * 9 + 2, none⟩ (.int .i64 x.2.1.2)).setCell ⟨g, i * 9 + 3, none⟩ (.int .i64 x.2.2.1)).setCell ⟨g, i * 9 + 4, none⟩ (.int .i64 x.2.2.2)).setCell ⟨g, i * 9 + 5, none⟩ (.int .i64 (xlo x.2))).setCell ⟨g, i * 9 + 6, none⟩ (.int .i64 (xhi x.2))).setCell ⟨g, i * 9 + 7, none⟩ (.int .i64 (ylo x.2))).setCell ⟨g, i * 9 + 8, none⟩ (.int .i64 (yhi x.2)) = w5.setCells g (i * 9) (encIt x) := rfl
     have HX6 := Lib.hid (setCells_block (encIt x) (i * 9) w5 X HX5.out)
     have G6 := Lib.hid (G5.out.trans (setCells_grown (g := g) (encIt x) (i * 9) w5))
     have hi9 : i * 9 + 9 ≤ X.size := by omega
     have HS2 := Lib.hid (show i + 1 = ((A.take (j + 1)).filter fun x => !leftI y x).length ∧ Holds9 (splice X (i * 9) (encIt x)) ((A.take (j + 1)).filter fun x => !leftI y x) 0 ∧ Holds9 (splice X (i * 9) (encIt x)) A (j + 1) from by
      rw [HF2.out, List.length_append, ← HST.out.1]
      refine ⟨rfl, ?_, (HST.out.2.2.splice_after hij hi9).mono (Nat.le_succ _)⟩
      have h := HST.out.2.1.splice_snoc (x := x) (by rw [← HST.out.1]; exact hi9)
      rw [← HST.out.1] at h
      exact h)
     have hss := size_splice (encIt x) X (i * 9)
     have hsz2 : (splice X (i * 9) (encIt x)).size = cap * 9 := by rw [hss]; exact hXs
     go_roundw
     case rel =>
      rw [hcs]
      exact ⟨i + 1, j + 1, splice X (i * 9) (encIt x), by go_num, by go_num, by omega, by omega, HX6.out, hsz2, HS2.out, G6.out⟩
     case measure => simp [intOf]; omega
   ·obtain rfl : j = N := by omega
    have hcl := fun ty => run_clear (P := Tryz.prog) (ty := ty) (c := cap - i) (n := j - i) (o := i * 9) Tryz.underlying225 (zeroIt wr) HXg.out (by simp only [Value.cells]; show _ + _ * 9 ≤ _; have := HFL.out.2.1; rw [HNN.out] at this; omega) (by omega) (zero9 _)
    obtain ⟨Y, hY⟩ : ∃ Y, Y = (X.toList.take (i * 9) ++ (Builtin.zeroCells (Value.agg #[.int .i64 0, .int .i64 0, .int .i64 0, .int .i64 0, .int .i64 0, .int .i64 0, .int .i64 0, .int .i64 0, .int .i64 0]).cells (j - i)).toList ++ X.toList.drop (i * 9 + (j - i) * (Value.agg #[.int .i64 0, .int .i64 0, .int .i64 0, .int .i64 0, .int .i64 0, .int .i64 0, .int .i64 0, .int .i64 0, .int .i64 0]).cells.size)).toArray := ⟨_, rfl⟩
    rw [← hY] at hcl
    have hle : i * 9 + (j - i) * 9 ≤ X.size := by have := HFL.out.2.1; rw [HNN.out] at this; omega
    have hYs : Y.size = cap * 9 := by
     rw [hY, List.size_toArray, List.length_append, List.length_append, zeroCells_size, List.length_take, List.length_drop]
     show min (i * 9) _ + (j - i) * 9 + (_ - (i * 9 + (j - i) * 9)) = _
     rw [Array.length_toList]; omega
    have hYt : Y.toList.take (i * 9) = ((A.take j).filter fun x => !leftI y x).flatMap encIt := by
     have h2 := HST.out.2.1.flat
     rw [← HST.out.1] at h2
     rw [hY, List.append_assoc, ← h2]
     have hl9 : (X.toList.take (i * 9)).length = i * 9 := by rw [List.length_take, Array.length_toList]; omega
     rw [List.take_append_of_le_length (by omega), List.take_of_length_le (by omega)]
    have hA : A.take j = A := List.take_of_length_le (by rw [HNN.out]; exact Nat.le_refl _)
    have hi := HST.out.1
    rw [hA] at hYt hi
    have hg3 : (wr.setRow g Y).heap[g]? = some (.cells Y 230 (0, 0)) := setRow_heap wr g X _ _ _ HXg.out
    have hgr3 : wr.grownBy (wr.setRow g Y) (some g) := ⟨rfl, rfl, rfl, by simp, fun k hk hne' => setRow_other _ _ _ _ (fun e => hne' (by rw [e]))⟩
    have HE := Lib.hid (show DelPost A y base (.slice (some ⟨g, 0, none⟩) j cap) w (.returned (.slice (some ⟨g, 0, none⟩) i cap)) (wr.setRow g Y) from ⟨_, rfl, ⟨by rw [flat_length encIt 9 encIt_len], Or.inr ⟨g, cap, Y, by rw [← hi], HFL.out.1, hg3, by rw [← hi]; have := HFL.out.2.1; rw [HNN.out] at this; omega, HFL.out.2.2.1, hYs, by rw [← hi]; exact hYt⟩⟩,
     ((show w.grownBy w2 (some g) from ⟨HBB.out.os, HBB.out.tape, HBB.out.output, HBB.out.size, fun k hk _ => HBB.out.block k hk⟩).trans HGR.out).trans hgr3, rfl⟩)
    clear hYs hYt hA hi hg3 hgr3 hY hle
    go_wp2
    go_ret
    exact HE.out
end Go.Proofs.YtibpaaajghbkoaaGreat
