/-  -/
import Derived.Test.YtibpaaajghbkoaaGreatTBo
import Derived.Test.YtibpaaajghbkoaaGreatTBh
namespace Go.Proofs.YtibpaaajghbkoaaGreat
open Go.RowKit Go.Sort
set_option maxRecDepth 100000 in
set_option maxHeartbeats 4000000 in
theorem further_any (c : Value) (l : List ObjD) (a b : Int) (w : World) (hv : ObjC w c l) (hl : l.length ≤ 140737488355328) :
  Calls Tryz.prog 4 #[.agg #[c], .int .i64 a, .int .i64 b] w fun e w' => e = .returned (.bool true) ∧ Below w.heap.size w w' := by
 obtain ⟨av, cv, rfl⟩ : ∃ av cv, c = .slice av l.length cv := by
  obtain ⟨L, ⟨a, cap, e, _⟩, h2, _⟩ := hv
  exact ⟨a, cap, by rw [e, ← h2, List.length_map]⟩
 have HV := Lib.hid hv
 have B1 : Below w.heap.size w (w.alloc (.cells #[.slice av l.length cv] 24)) := (Below.refl _ _).alloc (Nat.le_refl _) _
 have H1 := row_new w (.cells #[.slice av l.length cv] 24)
 have mixed : Tryz.prog.follows .mixedOrders = true := by kernel_rfl
 clear hv
 obtain ⟨g, hg⟩ : ∃ g, w.heap.size = g := ⟨_, rfl⟩
 go_enter Tryz.func4, Tryz.ntmps4
 go_upto_region 1 with fail
 generalize hw1 : w.alloc (.cells #[.slice av l.length cv] 24) = w1
 rw [hw1] at B1 H1
 rw [hg] at H1
 clear hw1 hg
 go_wp2_with fail
 refine (head_any w1).mono ?_
 rintro e w2 ⟨rfl, hb2⟩
 have B2 := below_step B1 (Nat.le_refl _) hb2
 have H2 := Lib.hid (row_later hb2 H1)
 have HV2 := Lib.hid (HV.out.later B2)
 clear HV hb2 B1 H1
 obtain ⟨mz, m0⟩ := rk1 H2.out
 by_cases ha : a < 0
 ·have ha' : decide (a < 0) = true := decide_eq_true ha
  go_wp2_with fail
  refine (fewL_any _ l w2 (HV2.out.is hl)).mono ?_
  rintro e w3 ⟨⟨r, rfl, -⟩, hb3⟩
  have B3 := below_step B2 (Nat.le_refl _) hb3
  have H3 := Lib.hid (row_later hb3 H2.out)
  clear HV2 H2 B2
  cases r with
  |false =>
   go_wp2
   go_ret
   exact ⟨rfl, B3⟩
  |true =>
   obtain ⟨mz, m0⟩ := rk1 H3.out
   go_wp2
   go_ret
   exact ⟨rfl, B3⟩
 by_cases hab : a > b
 ·have ha' : decide (a > b) = true := decide_eq_true hab
  have ha2 : decide (a < 0) = false := decide_eq_false ha
  go_wp2_with fail
  refine (fewL_any _ l w2 (HV2.out.is hl)).mono ?_
  rintro e w3 ⟨⟨r, rfl, -⟩, hb3⟩
  have B3 := below_step B2 (Nat.le_refl _) hb3
  have H3 := Lib.hid (row_later hb3 H2.out)
  clear HV2 H2 B2
  cases r with
  |false =>
   go_wp2
   go_ret
   exact ⟨rfl, B3⟩
  |true =>
   obtain ⟨mz, m0⟩ := rk1 H3.out
   go_wp2
   go_ret
   exact ⟨rfl, B3⟩
 have ha' : decide (a < 0) = false := decide_eq_false ha
 have hab' : decide (a > b) = false := decide_eq_false hab
 go_wp2_with fail
 refine (fewL_any _ l w2 (HV2.out.is hl)).mono ?_
 rintro e w3 ⟨⟨r, rfl, hr0⟩, hb3⟩
 have B3 := below_step B2 (Nat.le_refl _) hb3
 have H3 := Lib.hid (row_later hb3 H2.out)
 have HV3 := Lib.hid (HV2.out.later hb3)
 clear HV2 hb3 B2 H2
 cases r with
 |false =>
  go_wp2
  go_ret
  exact ⟨rfl, B3⟩
 |true =>
  have hr := hr0 rfl
  clear hr0
  obtain ⟨mz, m0⟩ := rk1 H3.out
  go_wp2_with fail
  have HRL := Lib.hid hr
  clear hr
  refine (simMap_any _ l a w3 HV3.out (by have := HRL.out.1; omega) (keys_few HRL.out)).mono ?_
  rintro e w4 ⟨x4, rfl, hx4, hb4⟩
  obtain ⟨a4, c4, hx4e⟩ : ∃ a4 c4, x4 = .slice a4 (simP l a).length c4 := by
   obtain ⟨L, ⟨a, cap, e, _⟩, h2, _⟩ := hx4
   exact ⟨a, cap, by rw [e, ← h2, List.length_map]⟩
  subst hx4e
  have HX4 := Lib.hid (hx4.later ((Below.refl _ w4).alloc (Nat.le_refl _) (.cells #[.slice a4 (simP l a).length c4] 24)))
  have HV4 := Lib.hid ((HV3.out.later hb4).later ((Below.refl _ w4).alloc (Nat.le_refl _) (.cells #[.slice a4 (simP l a).length c4] 24)))
  have B4 := (below_step B3 (Nat.le_refl _) hb4).alloc (below_step B3 (Nat.le_refl _) hb4).size (.cells #[.slice a4 (simP l a).length c4] 24)
  have H4 := row_past (o' := .cells #[.slice a4 (simP l a).length c4] 24) (row_later hb4 H3.out)
  have H4x := row_new w4 (.cells #[.slice a4 (simP l a).length c4] 24)
  clear HV3 hb4 B3 H3 hx4
  obtain ⟨g4, hg4⟩ : ∃ g4, w4.heap.size = g4 := ⟨_, rfl⟩
  rw [hg4] at H4x
  go_upto_region 5 with fail
  generalize hw5 : w4.alloc (.cells #[.slice a4 (simP l a).length c4] 24) = w5
  rw [hw5] at HX4 HV4 B4 H4 H4x
  clear hw5 hg4
  have H4 := Lib.hid H4
  have H4x := Lib.hid H4x
  obtain ⟨mz, m0⟩ := rk1 H4.out
  go_wp2_with fail
  refine (simMap_any _ l b w5 HV4.out (by have := HRL.out.1; omega) (keys_few HRL.out)).mono ?_
  rintro e w6 ⟨x6, rfl, hx6, hb6⟩
  obtain ⟨a6, c6, hx6e⟩ : ∃ a6 c6, x6 = .slice a6 (simP l b).length c6 := by
   obtain ⟨L, ⟨a, cap, e, _⟩, h2, _⟩ := hx6
   exact ⟨a, cap, by rw [e, ← h2, List.length_map]⟩
  subst hx6e
  have HY6 := Lib.hid (hx6.later ((Below.refl _ w6).alloc (Nat.le_refl _) (.cells #[.slice a6 (simP l b).length c6] 24)))
  have HX6 := Lib.hid ((HX4.out.later hb6).later ((Below.refl _ w6).alloc (Nat.le_refl _) (.cells #[.slice a6 (simP l b).length c6] 24)))
  have B6 := (below_step B4 (Nat.le_refl _) hb6).alloc (below_step B4 (Nat.le_refl _) hb6).size (.cells #[.slice a6 (simP l b).length c6] 24)
  have H6x := row_past (o' := .cells #[.slice a6 (simP l b).length c6] 24) (row_later hb6 H4x.out)
  have H6y := row_new w6 (.cells #[.slice a6 (simP l b).length c6] 24)
  clear HV4 HX4 hb6 B4 H4 hx6 H4x m0
  obtain ⟨g6, hg6⟩ : ∃ g6, w6.heap.size = g6 := ⟨_, rfl⟩
  rw [hg6] at H6y
  go_upto_region 6 with fail
  generalize hw7 : w6.alloc (.cells #[.slice a6 (simP l b).length c6] 24) = w7
  rw [hw7] at HX6 HY6 B6 H6x H6y
  clear hw7 hg6
  have H6x := Lib.hid H6x
  have H6y := Lib.hid H6y
  have B6 := Lib.hid B6
  have S1 := Lib.hid (sim_small (l := l) (tol := a) HRL.out)
  have S2 := Lib.hid (sim_small (l := l) (tol := b) HRL.out)
  obtain ⟨e1, e2, e3⟩ := sim_more (l := l) (a := a) (b := b) (by omega) (by omega)
  have E1 := Lib.hid e1
  have E2 := Lib.hid e2
  have E3 := Lib.hid e3
  clear e1 e2 e3
  have M1 := Lib.hid (fun W (hb : Below w7.heap.size w7 W) => simMap_any _ (simP l a) b W (HX6.out.later hb) (by have := S1.out.1; omega) (keys_few S1.out))
  have M2 := Lib.hid (fun W (hb : Below w7.heap.size w7 W) => simMap_any _ (simP l b) b W (HY6.out.later hb) (by have := S2.out.1; omega) (keys_few S2.out))
  have M3 := Lib.hid (fun W (hb : Below w7.heap.size w7 W) => simMap_any _ (simP l b) a W (HY6.out.later hb) (by have := S2.out.1; omega) (keys_few S2.out))
  have SM := Lib.hid (fun x W (hb : Below w7.heap.size w7 W) (hx : ObjC W x (simP l b)) => rsameM_any x _ (simP l b) W (hx.is (by have := S2.out.1; omega)) ((HY6.out.later hb).is (by have := S2.out.1; omega)))
  obtain ⟨mz, m0⟩ := rk1 H6x.out
  obtain ⟨nz, n0⟩ := rk1 H6y.out
  clear HX6 HY6 HRL S1 S2 H6x H6y mixed
  go_region_held3 (fun w' => w'.cell? ⟨g4, 0, none⟩ = some (.slice a4 (simP l a).length c4) ∧ w'.cell? ⟨g6, 0, none⟩ = some (.slice a6 (simP l b).length c6) ∧ Below w7.heap.size w7 w')
   (first
    |exact ⟨m0, n0, (Below.refl _ _).drew⟩
    |(have hq := ‹_ ∧ _ ∧ Below w7.heap.size w7 _›; exact ⟨cell_later hb hq.1, cell_later hb hq.2.1, below_step hq.2.2 (Nat.le_refl _) hb⟩)
    |assumption)
   (first
    |(go_at_call 12; (with_reducible refine (M1.out _ (‹_ ∧ _ ∧ Below w7.heap.size w7 _›).2.2).mono ?_); rintro e wa ⟨va, rfl, hva, hb⟩; rw [E1.out] at hva)
    |(go_at_call 12; (with_reducible refine (M2.out _ (‹_ ∧ _ ∧ Below w7.heap.size w7 _›).2.2).mono ?_); rintro e wb ⟨va, rfl, hva, hb⟩; rw [E2.out] at hva)
    |(go_at_call 12; (with_reducible refine (M3.out _ (‹_ ∧ _ ∧ Below w7.heap.size w7 _›).2.2).mono ?_); rintro e wd ⟨va, rfl, hva, hb⟩; rw [E3.out] at hva)
    |(go_at_call 11; refine (SM.out _ _ (‹_ ∧ _ ∧ Below w7.heap.size w7 _›).2.2 hva).mono ?_; rintro e we ⟨rfl, hb⟩; clear hva))
  have BF := below_step B6.out (Nat.le_refl _) (‹_ ∧ _ ∧ Below w7.heap.size w7 _›).2.2
  go_wp2
  go_ret
  exact ⟨rfl, BF⟩
end Go.Proofs.YtibpaaajghbkoaaGreat
