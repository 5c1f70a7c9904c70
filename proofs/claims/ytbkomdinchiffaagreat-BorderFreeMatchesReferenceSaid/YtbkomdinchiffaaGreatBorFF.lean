/- BorderFreeMatchesReference: the walk. -/
import Derived.Test.YtbkomdinchiffaaGreatBorRDE
import Derived.Test.YtbkomdinchiffaaGreatBorHd
namespace Go.Proofs.YtbkomdinchiffaaGreat
open Go.RowKit Go.Sort

theorem free_all (v : Value) (l : List ObjD) (s : Sg) (w : World) (hv : ObjsIs w v l) :
    Calls Tryz.prog 18 #[.agg #[v], sgV s] w fun e w' => e = .returned (.bool (mapOK l && freeP l s)) ∧ Below w.heap.size w w' := by
  cases h : mapOK l with
  | false => exact free_inv v l s w hv h
  | true => rw [Bool.true_and]; exact free_any v l s w hv h
theorem rfree_all (v : Value) (l : List ObjD) (s : Sg) (w : World) (hv : ObjsIs w v l) (hl : l.length ≤ 1000) (hr : ∀ o ∈ l, o.refs.length ≤ 12) :
    Calls Tryz.prog 19 #[.agg #[v], sgV s] w fun e w' => e = .returned (.bool (mapOK l && freeP l s)) ∧ Below w.heap.size w w' := by
  cases h : mapOK l with
  | false => exact rfree_bad v l s w hv h
  | true => rw [Bool.true_and]; exact rfree_any v l s w hv h hl hr
set_option maxRecDepth 100000 in
set_option maxHeartbeats 4000000 in
theorem freeref_law (v : Value) (l : List ObjD) (s : Sg) (w : World) (hv : ObjsIs w v l) :
    Calls Tryz.prog 4 #[.agg #[v], sgV s] w fun e w' => e = .returned (.bool true) ∧ Below w.heap.size w w' := by
  have mixed : Tryz.prog.follows .mixedOrders = true := by kernel_rfl
  have HV := Lib.hid (fun W hb => hv.later (w' := W) hb)
  obtain ⟨a, cap, rfl, _⟩ := hv
  obtain ⟨⟨ax, ay⟩, ⟨bx, by1⟩⟩ := s
  have FA := Lib.hid (fun W hb => free_all _ l ((ax, ay), (bx, by1)) W (HV.out W hb))
  have FB := Lib.hid (fun hl hr W hb => rfree_all _ l ((ax, ay), (bx, by1)) W (HV.out W hb) hl hr)
  obtain ⟨res, hres⟩ : ∃ z, z = (mapOK l && freeP l ((ax, ay), (bx, by1))) := ⟨_, rfl⟩
  rw [← hres] at FA FB
  clear hres
  go_enter Tryz.func4, Tryz.ntmps4
  go_wp2_with fail
  have BX : Below w.heap.size w ((w.alloc (.cells #[.slice a l.length cap] 24)).alloc (.cells #[.int .i64 ax, .int .i64 ay, .int .i64 bx, .int .i64 by1] 39)) := (by repeat' (first | exact Below.refl _ _ | refine Below.drew ?_ | refine Below.drewN' ?_ | refine Below.setCell ?_ (by first | omega | (simp; done) | exact Below.size (by assumption) | (simp; omega)) _ | refine Below.alloc ?_ (by first | omega | (simp; done) | exact Below.size (by assumption) | (simp; omega)) _ | refine Below.trans ?_ (Below.mono (by assumption) ?_) | (first | omega | (simp; done) | exact Below.size (by assumption) | (simp; omega))))
  have HS := row_new1 w (.cells #[.slice a l.length cap] 24) (.cells #[.int .i64 ax, .int .i64 ay, .int .i64 bx, .int .i64 by1] 39)
  have HX := row_past (o' := .cells #[.int .i64 ax, .int .i64 ay, .int .i64 bx, .int .i64 by1] 39) (row_new w (.cells #[.slice a l.length cap] 24))
  generalize hw1 : (w.alloc (.cells #[.slice a l.length cap] 24)).alloc (.cells #[.int .i64 ax, .int .i64 ay, .int .i64 bx, .int .i64 by1] 39) = w1
  rw [hw1] at BX HX HS
  have HX1 := Lib.hid HX
  have HS1 := Lib.hid HS
  have hz1 : w.heap.size + 1 < w1.heap.size := lt_of_block HS
  clear hw1 HX HS
  refine (head_any _).mono ?_
  rintro e w2 ⟨rfl, hb⟩
  have B2 := below_step BX (by omega) hb
  replace HX1 := Lib.hid (row_later hb HX1.out)
  replace HS1 := Lib.hid (row_later hb HS1.out)
  have hz2 := hb.size
  clear hb BX
  have pz := lt_of_block HX1.out
  have p0 := cell_of_row w2 _ 0 _ _ _ HX1.out
  simp only [List.getElem?_toArray, List.getElem?_cons_zero] at p0
  go_wp2_with fail
  clear p0 pz
  refine (few13_any _ l 24 (by omega) _ (HV.out _ B2)).mono ?_
  rintro e w3 ⟨⟨r, rfl, hr⟩, hb⟩
  have B3 := below_step B2 (by omega) hb
  replace HX1 := Lib.hid (row_later hb HX1.out)
  replace HS1 := Lib.hid (row_later hb HS1.out)
  have hz3 := hb.size
  clear hb B2
  cases r with
  | false =>
    go_wp2
    go_ret
    exact ⟨rfl, B3⟩
  | true =>
    obtain ⟨hl24, hr12⟩ := hr rfl
    have FB' := Lib.hid (FB.out (by omega) hr12)
    clear hr hr12 FB
    have pz := lt_of_block HX1.out
    have p0 := cell_of_row w3 _ 0 _ _ _ HX1.out
    simp only [List.getElem?_toArray, List.getElem?_cons_zero] at p0
    have qp0 := cell_belowBy p0
    clear p0
    have qz := lt_of_block HS1.out
    have q0 := cell_of_row w3 _ 0 _ _ _ HS1.out
    have q1 := cell_of_row w3 _ 1 _ _ _ HS1.out
    have q2 := cell_of_row w3 _ 2 _ _ _ HS1.out
    have q3 := cell_of_row w3 _ 3 _ _ _ HS1.out
    simp only [List.getElem?_toArray, List.getElem?_cons_zero, List.getElem?_cons_succ] at q0 q1 q2 q3
    have qq0 := cell_belowBy q0
    have qq1 := cell_belowBy q1
    have qq2 := cell_belowBy q2
    have qq3 := cell_belowBy q3
    clear q0 q1 q2 q3
    go_wp2_with fail
    refine wp_region_quiet_below mixed (by kernel_rfl) ?_
    repeat (go_big_quiet_step (first
      | (go_at_call 18; exact calls_belowBy (FA.out _ (below_step B3 (by omega) (BelowBy.below _))))
      | (go_at_call 19; exact calls_belowBy (FB'.out _ (below_step B3 (by omega) (BelowBy.below _))))))
    refine wpQuiet_nil ?_
    intro w8 hw'
    obtain ⟨⟨wq, hbq⟩, hw''⟩ := hw'
    subst hw''
    have B8 := below_step B3 (by omega) hbq
    clear B3 hbq
    cases res with
    | true =>
      go_wp2
      go_ret
      exact ⟨rfl, B8⟩
    | false =>
      go_wp2
      go_ret
      exact ⟨rfl, B8⟩
end Go.Proofs.YtbkomdinchiffaaGreat
