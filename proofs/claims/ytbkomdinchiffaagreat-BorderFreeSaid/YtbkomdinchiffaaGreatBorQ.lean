/- sweep: bounds, items, their orders. -/
import Derived.Test.YtbkomdinchiffaaGreatBorMN
import Derived.Test.YtbkomdinchiffaaGreatCmp
import Derived.Test.YtbkomdinchiffaaGreatMixG
import Derived.Test.YtbkomdinchiffaaGreatBorT
import Derived.Test.YtbkomdinchiffaaGreatBorF
namespace Go.Proofs.YtbkomdinchiffaaGreat
open Go.RowKit Go.Sort

abbrev ItD := Nat × Sg
def xlo (s : Sg) : Int := min s.1.1 s.2.1
def xhi (s : Sg) : Int := max s.1.1 s.2.1
def ylo (s : Sg) : Int := min s.1.2 s.2.2
def yhi (s : Sg) : Int := max s.1.2 s.2.2
def encIt (x : ItD) : List Value := [.int .i64 x.1, .int .i64 x.2.1.1, .int .i64 x.2.1.2, .int .i64 x.2.2.1, .int .i64 x.2.2.2, .int .i64 (xlo x.2), .int .i64 (xhi x.2), .int .i64 (ylo x.2), .int .i64 (yhi x.2)]
theorem encIt_len (x : ItD) : (encIt x).length = 9 := rfl
theorem encIt_one (x : ItD) : ∀ v ∈ encIt x, v.oneCell' = true := by
  intro v hv
  simp only [encIt, List.mem_cons, List.not_mem_nil, or_false] at hv
  rcases hv with rfl | rfl | rfl | rfl | rfl | rfl | rfl | rfl | rfl <;> rfl

theorem swof_any (a b : Int) (w : World) :
    Calls Tryz.prog 103 #[.int .i64 a, .int .i64 b] w fun e w' => e = .returned (.agg #[.int .i64 (min a b), .int .i64 (max a b)]) ∧ Below w.heap.size w w' := by
  have hmn : ∀ (W : World) ts t, (Builtin.min_ ts t #[.int .i64 a, .int .i64 b]).run Tryz.prog W = .ok (.int .i64 (min a b)) W := fun W ts t => by
    have e : (if b < a then b else a) = min a b := by split <;> omega
    simp [Builtin.min_, Builtin.min2, e]
  have hmx : ∀ (W : World) ts t, (Builtin.max_ ts t #[.int .i64 a, .int .i64 b]).run Tryz.prog W = .ok (.int .i64 (max a b)) W := fun W ts t => by
    have e : (if a < b then b else a) = max a b := by split <;> omega
    simp [Builtin.max_, Builtin.max2, e]
  generalize min a b = m at hmn ⊢
  generalize max a b = n at hmx ⊢
  go_enter Tryz.func103, Tryz.ntmps103
  go_wp2
  refine bodyPost_ret (v := .agg #[.int .i64 m, .int .i64 n]) ?_ rfl ⟨rfl, ?_⟩
  · simp [results, Tryz.results103, go_sem]
  · repeat' (first | exact Below.refl _ _ | refine Below.drew ?_ | refine Below.drewN' ?_ | refine Below.setCell ?_ (by first | omega | (simp; done) | exact Below.size (by assumption) | (simp; omega)) _ | refine Below.alloc ?_ (by first | omega | (simp; done) | exact Below.size (by assumption) | (simp; omega)) _ | refine Below.trans ?_ (Below.mono (by assumption) ?_) | (first | omega | (simp; done) | exact Below.size (by assumption) | (simp; omega)))

theorem swmeets_any (a b c d : Int) (w : World) :
    Calls Tryz.prog 109 #[.agg #[.int .i64 a, .int .i64 b], .agg #[.int .i64 c, .int .i64 d]] w fun e w' => e = .returned (.bool (decide (a ≤ d) && decide (c ≤ b))) ∧ Below w.heap.size w w' := by
  by_cases h : a ≤ d
  · have e1 : decide (a ≤ d) = true := decide_eq_true h
    rw [e1]
    clear h
    go_enter Tryz.func109, Tryz.ntmps109
    go_wp2
    go_ret
    exact ⟨by simp, (by repeat' (first | exact Below.refl _ _ | refine Below.drew ?_ | refine Below.drewN' ?_ | refine Below.setCell ?_ (by first | omega | (simp; done) | exact Below.size (by assumption) | (simp; omega)) _ | refine Below.alloc ?_ (by first | omega | (simp; done) | exact Below.size (by assumption) | (simp; omega)) _ | refine Below.trans ?_ (Below.mono (by assumption) ?_) | (first | omega | (simp; done) | exact Below.size (by assumption) | (simp; omega))))⟩
  · have e1 : decide (a ≤ d) = false := decide_eq_false h
    rw [e1]
    clear h
    go_enter Tryz.func109, Tryz.ntmps109
    go_wp2
    go_ret
    exact ⟨by simp, (by repeat' (first | exact Below.refl _ _ | refine Below.drew ?_ | refine Below.drewN' ?_ | refine Below.setCell ?_ (by first | omega | (simp; done) | exact Below.size (by assumption) | (simp; omega)) _ | refine Below.alloc ?_ (by first | omega | (simp; done) | exact Below.size (by assumption) | (simp; omega)) _ | refine Below.trans ?_ (Below.mono (by assumption) ?_) | (first | omega | (simp; done) | exact Below.size (by assumption) | (simp; omega))))⟩

/-- The order of items: by their least X, then by their numbers. -/
def cfIt (x y : ItD) : Int := if Lib.compareInt (xlo x.2) (xlo y.2) = 0 then (x.1 : Int) - (y.1 : Int) else Lib.compareInt (xlo x.2) (xlo y.2)
theorem cfIt_neg (x y : ItD) : cfIt x y < 0 ↔ xlo x.2 < xlo y.2 ∨ (xlo x.2 = xlo y.2 ∧ x.1 < y.1) := by
  unfold cfIt Lib.compareInt
  split <;> split at * <;> (try split at *) <;> omega
abbrev ItT := {x : ItD // x.1 ≤ 20000}
instance : Inhabited ItT := ⟨⟨(0, ((0, 0), (0, 0))), by decide⟩⟩
theorem swoIt : SWO (ltOf fun x y : ItT => cfIt x.1 y.1) where
  irrefl := fun x => by unfold ltOf; rw [decide_eq_false_iff_not, cfIt_neg]; omega
  trans := fun x y z h h2 => by unfold ltOf at *; rw [decide_eq_true_eq, cfIt_neg] at *; omega
  ntrans := fun x y z h h2 => by unfold ltOf at *; rw [decide_eq_false_iff_not, cfIt_neg] at *; omega
abbrev MtD := Nat × Nat × Int
def encMt (m : MtD) : List Value := [.int .i64 m.1, .int .i64 m.2.1, .int .i64 m.2.2]
theorem encMt_len (x : MtD) : (encMt x).length = 3 := rfl
theorem encMt_one (x : MtD) : ∀ v ∈ encMt x, v.oneCell' = true := by
  intro v hv
  simp only [encMt, List.mem_cons, List.not_mem_nil, or_false] at hv
  rcases hv with rfl | rfl | rfl <;> rfl
def cfMt (x y : MtD) : Int := if (x.1 : Int) - (y.1 : Int) = 0 then (x.2.1 : Int) - (y.2.1 : Int) else (x.1 : Int) - (y.1 : Int)
theorem cfMt_neg (x y : MtD) : cfMt x y < 0 ↔ x.1 < y.1 ∨ (x.1 = y.1 ∧ x.2.1 < y.2.1) := by
  unfold cfMt
  split <;> omega
abbrev MtT := {x : MtD // x.1 ≤ 20000 ∧ x.2.1 ≤ 20000}
instance : Inhabited MtT := ⟨⟨(0, 0, 0), by decide⟩⟩
theorem swoMt : SWO (ltOf fun x y : MtT => cfMt x.1 y.1) where
  irrefl := fun x => by unfold ltOf; rw [decide_eq_false_iff_not, cfMt_neg]; omega
  trans := fun x y z h h2 => by unfold ltOf at *; rw [decide_eq_true_eq, cfMt_neg] at *; omega
  ntrans := fun x y z h h2 => by unfold ltOf at *; rw [decide_eq_false_iff_not, cfMt_neg] at *; omega

set_option maxHeartbeats 1000000 in
theorem mtc_any (x y : MtT) (w : World) :
    Calls Tryz.prog 111 #[.agg (encMt x.1).toArray, .agg (encMt y.1).toArray] w fun e w' => e = .returned (.int .i64 (cfMt x.1 y.1)) ∧ Grew w w' := by
  have OR := Lib.hid (fun B c W h0 h1 => orI_any ((x.1.1 : Int) - (y.1.1 : Int)) ((x.1.2.1 : Int) - (y.1.2.1 : Int)) B c W h0 h1)
  have HQ := Lib.hid (show cfMt x.1 y.1 = if (x.1.1 : Int) - (y.1.1 : Int) = 0 then (x.1.2.1 : Int) - (y.1.2.1 : Int) else (x.1.1 : Int) - (y.1.1 : Int) from rfl)
  generalize cfMt x.1 y.1 = r at HQ ⊢
  rw [← HQ.out] at OR
  obtain ⟨⟨xa, xb, xk⟩, hx1, hx2⟩ := x
  obtain ⟨⟨ya, yb, yk⟩, hy1, hy2⟩ := y
  simp only [encMt] at OR hx1 hx2 hy1 hy2 ⊢
  clear HQ
  go_enter Tryz.func111, Tryz.ntmps111
  go_wp2_with fail
  have H3 := row_new2 w (.cells #[.int .i64 xa, .int .i64 xb, .int .i64 xk] 125) (.cells #[.int .i64 ya, .int .i64 yb, .int .i64 yk] 125) (.cells #[.int .i64 ((xa : Int) - ya), .int .i64 ((xb : Int) - yb)] 3)
  have G1 : Grew w (((w.alloc (.cells #[.int .i64 xa, .int .i64 xb, .int .i64 xk] 125)).alloc (.cells #[.int .i64 ya, .int .i64 yb, .int .i64 yk] 125)).alloc (.cells #[.int .i64 ((xa : Int) - ya), .int .i64 ((xb : Int) - yb)] 3)) := (((Grew.refl w).alloc _).alloc _).alloc _
  generalize hw1 : ((w.alloc (.cells #[.int .i64 xa, .int .i64 xb, .int .i64 xk] 125)).alloc (.cells #[.int .i64 ya, .int .i64 yb, .int .i64 yk] 125)).alloc (.cells #[.int .i64 ((xa : Int) - ya), .int .i64 ((xb : Int) - yb)] 3) = w1
  rw [hw1] at G1 H3
  clear hw1
  have H3 := Lib.hid H3
  have kz := lt_of_block H3.out
  have k0 := cell_of_row w1 _ 0 _ _ _ H3.out
  have k1 := cell_of_row w1 _ 1 _ _ _ H3.out
  simp only [List.getElem?_toArray, List.getElem?_cons_zero, List.getElem?_cons_succ] at k0 k1
  refine (OR.out _ _ _ k0 k1).mono ?_
  rintro e w2 ⟨rfl, rfl⟩
  go_wp2
  go_ret
  exact ⟨rfl, G1⟩

set_option maxRecDepth 100000 in
set_option maxHeartbeats 2000000 in
theorem itc_any (x y : ItT) (w : World) :
    Calls Tryz.prog 105 #[.agg (encIt x.1).toArray, .agg (encIt y.1).toArray] w fun e w' => e = .returned (.int .i64 (cfIt x.1 y.1)) ∧ Grew w w' := by
  have mixed : Tryz.prog.follows .mixedOrders = true := by kernel_rfl
  have OR := Lib.hid (fun B c W h0 h1 => orI_any (Lib.compareInt (xlo x.1.2) (xlo y.1.2)) ((x.1.1 : Int) - (y.1.1 : Int)) B c W h0 h1)
  have C1 := Lib.hid (fun w => Tryz.cmp_Compare_int (xlo x.1.2) (xlo y.1.2) w)
  have HQ := Lib.hid (show cfIt x.1 y.1 = if Lib.compareInt (xlo x.1.2) (xlo y.1.2) = 0 then (x.1.1 : Int) - (y.1.1 : Int) else Lib.compareInt (xlo x.1.2) (xlo y.1.2) from rfl)
  generalize cfIt x.1 y.1 = r at HQ ⊢
  rw [← HQ.out] at OR
  generalize Lib.compareInt (xlo x.1.2) (xlo y.1.2) = cc at OR C1 HQ
  obtain ⟨⟨xi, ⟨⟨x1, x2⟩, ⟨x3, x4⟩⟩⟩, hx⟩ := x
  obtain ⟨⟨yi, ⟨⟨y1, y2⟩, ⟨y3, y4⟩⟩⟩, hy⟩ := y
  simp only [encIt] at OR C1 hx hy ⊢
  generalize xlo ((x1, x2), x3, x4) = xl at C1 ⊢
  generalize xhi ((x1, x2), x3, x4) = xh
  generalize ylo ((x1, x2), x3, x4) = xm
  generalize yhi ((x1, x2), x3, x4) = xn
  generalize xlo ((y1, y2), y3, y4) = yl at C1 ⊢
  generalize xhi ((y1, y2), y3, y4) = yh
  generalize ylo ((y1, y2), y3, y4) = ym
  generalize yhi ((y1, y2), y3, y4) = yn
  clear HQ
  have wd : IntKind.i64.wrap ((xi : Int) - (yi : Int)) = (xi : Int) - (yi : Int) := IntWalk.i64_in _ (by omega)
  go_enter Tryz.func105, Tryz.ntmps105
  go_wp2_with fail
  have H1 := row_past (o' := .cells #[.int .i64 yi, .int .i64 y1, .int .i64 y2, .int .i64 y3, .int .i64 y4, .int .i64 yl, .int .i64 yh, .int .i64 ym, .int .i64 yn] 156) (row_new w (.cells #[.int .i64 xi, .int .i64 x1, .int .i64 x2, .int .i64 x3, .int .i64 x4, .int .i64 xl, .int .i64 xh, .int .i64 xm, .int .i64 xn] 156))
  have H2 := row_new1 w (.cells #[.int .i64 xi, .int .i64 x1, .int .i64 x2, .int .i64 x3, .int .i64 x4, .int .i64 xl, .int .i64 xh, .int .i64 xm, .int .i64 xn] 156) (.cells #[.int .i64 yi, .int .i64 y1, .int .i64 y2, .int .i64 y3, .int .i64 y4, .int .i64 yl, .int .i64 yh, .int .i64 ym, .int .i64 yn] 156)
  have G1 : Grew w ((w.alloc (.cells #[.int .i64 xi, .int .i64 x1, .int .i64 x2, .int .i64 x3, .int .i64 x4, .int .i64 xl, .int .i64 xh, .int .i64 xm, .int .i64 xn] 156)).alloc (.cells #[.int .i64 yi, .int .i64 y1, .int .i64 y2, .int .i64 y3, .int .i64 y4, .int .i64 yl, .int .i64 yh, .int .i64 ym, .int .i64 yn] 156)) := ((Grew.refl w).alloc _).alloc _
  generalize hw1 : (w.alloc (.cells #[.int .i64 xi, .int .i64 x1, .int .i64 x2, .int .i64 x3, .int .i64 x4, .int .i64 xl, .int .i64 xh, .int .i64 xm, .int .i64 xn] 156)).alloc (.cells #[.int .i64 yi, .int .i64 y1, .int .i64 y2, .int .i64 y3, .int .i64 y4, .int .i64 yl, .int .i64 yh, .int .i64 ym, .int .i64 yn] 156) = w1
  rw [hw1] at G1 H1 H2
  clear hw1
  have H1 := Lib.hid H1
  have H2 := Lib.hid H2
  refine MG.wp_region_mix 12 (fun W => Grew w1 W) (fun W => Grew w1 W) mixed (by kernel_rfl) (by kernel_rfl) (by kernel_rfl) (MG.StableW.grew _) (fun W hW => hW) (Grew.refl _).drew ?_
  apply Exists.intro
  refine ⟨fun W hW => ?_, ?_⟩
  · have HA := Lib.hid (row_later hW.below H1.out)
    have HB := Lib.hid (row_later hW.below H2.out)
    have az := lt_of_block HA.out
    have a0 := cell_of_row W _ 0 _ _ _ HA.out
    have a1 := cell_of_row W _ 1 _ _ _ HA.out
    have a2 := cell_of_row W _ 2 _ _ _ HA.out
    have a3 := cell_of_row W _ 3 _ _ _ HA.out
    have a4 := cell_of_row W _ 4 _ _ _ HA.out
    have a5 := cell_of_row W _ 5 _ _ _ HA.out
    have a6 := cell_of_row W _ 6 _ _ _ HA.out
    have a7 := cell_of_row W _ 7 _ _ _ HA.out
    have a8 := cell_of_row W _ 8 _ _ _ HA.out
    simp only [List.getElem?_toArray, List.getElem?_cons_zero, List.getElem?_cons_succ] at a0 a1 a2 a3 a4 a5 a6 a7 a8
    have bz := lt_of_block HB.out
    have b0 := cell_of_row W _ 0 _ _ _ HB.out
    have b1 := cell_of_row W _ 1 _ _ _ HB.out
    have b2 := cell_of_row W _ 2 _ _ _ HB.out
    have b3 := cell_of_row W _ 3 _ _ _ HB.out
    have b4 := cell_of_row W _ 4 _ _ _ HB.out
    have b5 := cell_of_row W _ 5 _ _ _ HB.out
    have b6 := cell_of_row W _ 6 _ _ _ HB.out
    have b7 := cell_of_row W _ 7 _ _ _ HB.out
    have b8 := cell_of_row W _ 8 _ _ _ HB.out
    simp only [List.getElem?_toArray, List.getElem?_cons_zero, List.getElem?_cons_succ] at b0 b1 b2 b3 b4 b5 b6 b7 b8
    have q0 := MG.cell_grewBy a0
    have q5 := MG.cell_grewBy a5
    have p0 := MG.cell_grewBy b0
    have p5 := MG.cell_grewBy b5
    clear a0 a1 a2 a3 a4 a5 a6 a7 a8 az
    clear b0 b1 b2 b3 b4 b5 b6 b7 b8 bz
    simp only [List.take_succ_cons, List.take_zero]
    repeat (go_big_quiet_step ((go_at_call 92; exact MG.calls_grewBy ((C1.out _).mono fun _ _ ⟨he, hw⟩ => ⟨he, hw ▸ Grew.refl _⟩))))
    exact wpQuiet_nil rfl
  · simp only [List.drop_succ_cons, List.drop_zero]
    refine MG.tailM_step (ι := Nat) (fun g => .slice (some ⟨g, 0, none⟩) 2 2) (fun g W => Grew w1 W ∧ W.heap[g]? = some (.cells #[.int .i64 cc, .int .i64 ((xi : Int) - yi)] 3)) rfl (fun g => (MG.StableW.grew _).and (MG.StableW.row _ _)) (fun _ _ h => h.1) (fun W hS K hK => ?_) (fun g => ?_)
    · go_simp
      exact hK W.heap.size _ ⟨hS.alloc _, row_new _ _⟩
    simp only [Act.put, List.setIfInBounds_toArray, List.set_cons_succ, List.set_cons_zero]
    refine MG.tailM_pure (.int .i64 r) rfl ((MG.StableW.grew _).and (MG.StableW.row _ _)) (fun _ h => h.1) (fun W hS K hK => ?_) ?_
    · have HG := Lib.hid hS.2
      have gz := lt_of_block HG.out
      have g0 := cell_of_row W _ 0 _ _ _ HG.out
      have g1 := cell_of_row W _ 1 _ _ _ HG.out
      simp only [List.getElem?_toArray, List.getElem?_cons_zero, List.getElem?_cons_succ] at g0 g1
      go_simp
      refine (OR.out _ _ _ g0 g1).mono ?_
      rintro e w2 ⟨rfl, rfl⟩
      go_simp
      exact hK
    simp only [Act.put, List.setIfInBounds_toArray, List.set_cons_succ, List.set_cons_zero]
    refine MG.tailM_pure (.int .i64 r) rfl ((MG.StableW.grew _).and (MG.StableW.row _ _)) (fun _ h => h.1) (fun W hS K hK => ?_) (MG.tailM_nil fun W hW => ?_)
    · go_simp
      exact hK
    obtain ⟨hW1, -⟩ := hW
    simp only [Act.put, List.setIfInBounds_toArray, List.set_cons_succ, List.set_cons_zero]
    go_wp2
    go_ret
    exact ⟨rfl, G1.trans hW1⟩

/-- A segment is left of another one, in the closure that deletes. -/
theorem it2_any (x y : ItD) (Ba : Nat) (w : World) (ha : w.heap[Ba]? = some (.cells (encIt y).toArray 156)) :
    Calls Tryz.prog 108 #[.agg (encIt x).toArray, .pointer (some ⟨Ba, 0, none⟩)] w fun e w' => e = .returned (.bool (decide (xhi x.2 < xlo y.2))) ∧ Below w.heap.size w w' := by
  have HA := Lib.hid ha
  clear ha
  obtain ⟨xi, ⟨⟨x1, x2⟩, ⟨x3, x4⟩⟩⟩ := x
  obtain ⟨yi, ⟨⟨y1, y2⟩, ⟨y3, y4⟩⟩⟩ := y
  simp only [encIt] at HA ⊢
  generalize xlo ((x1, x2), x3, x4) = xl
  generalize xhi ((x1, x2), x3, x4) = xh
  generalize ylo ((x1, x2), x3, x4) = xm
  generalize yhi ((x1, x2), x3, x4) = xn
  generalize xlo ((y1, y2), y3, y4) = yl at HA ⊢
  generalize xhi ((y1, y2), y3, y4) = yh at HA
  generalize ylo ((y1, y2), y3, y4) = ym at HA
  generalize yhi ((y1, y2), y3, y4) = yn at HA
  have az := lt_of_block HA.out
  have a0 := cell_of_row w _ 0 _ _ _ HA.out
  have a1 := cell_of_row w _ 1 _ _ _ HA.out
  have a2 := cell_of_row w _ 2 _ _ _ HA.out
  have a3 := cell_of_row w _ 3 _ _ _ HA.out
  have a4 := cell_of_row w _ 4 _ _ _ HA.out
  have a5 := cell_of_row w _ 5 _ _ _ HA.out
  have a6 := cell_of_row w _ 6 _ _ _ HA.out
  have a7 := cell_of_row w _ 7 _ _ _ HA.out
  have a8 := cell_of_row w _ 8 _ _ _ HA.out
  simp only [List.getElem?_toArray, List.getElem?_cons_zero, List.getElem?_cons_succ] at a0 a1 a2 a3 a4 a5 a6 a7 a8
  go_enter Tryz.func108, Tryz.ntmps108
  go_wp2
  go_ret
  exact ⟨rfl, (by repeat' (first | exact Below.refl _ _ | refine Below.drew ?_ | refine Below.drewN' ?_ | refine Below.setCell ?_ (by first | omega | (simp; done) | exact Below.size (by assumption) | (simp; omega)) _ | refine Below.alloc ?_ (by first | omega | (simp; done) | exact Below.size (by assumption) | (simp; omega)) _ | refine Below.trans ?_ (Below.mono (by assumption) ?_) | (first | omega | (simp; done) | exact Below.size (by assumption) | (simp; omega))))⟩
end Go.Proofs.YtbkomdinchiffaaGreat
