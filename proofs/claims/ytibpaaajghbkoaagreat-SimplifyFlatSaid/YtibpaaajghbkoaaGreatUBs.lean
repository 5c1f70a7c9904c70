/-      -/
import Derived.Test.YtibpaaajghbkoaaGreatUBr
import Derived.Test.YtibpaaajghbkoaaGreatUAk
import Derived.KernelRfl
import Derived.Test.YtibpaaajghbkoaaGreatUAb
import Derived.Test.YtibpaaajghbkoaaGreatRows
import Derived.Test.YtibpaaajghbkoaaGreatUAa
namespace Go.Proofs.YtibpaaajghbkoaaGreat
open Go.RowKit Go.Sort
set_option maxHeartbeats 1000000 in
theorem equalS_any (v u : Value) (l : List ByteArray) (w : World) (hv : StrRow w v l) (hu : StrRow w u l) :
  Calls Tryz.prog 41 #[v, u] w fun e w' => e = .returned (.bool true) ∧ Below w.heap.size w w' := by
 obtain ⟨a1, c1, rfl, hn1, _, hc1⟩ := hv
 obtain ⟨a2, c2, rfl, _, _, hc2⟩ := hu
 obtain ⟨N, hN⟩ : ∃ N, l.length = N := ⟨_, rfl⟩
 rw [hN] at hn1 hc1 hc2 ⊢
 have HN := Lib.hid hN
 have HC1 := Lib.hid hc1
 have HC2 := Lib.hid hc2
 clear hN hc1 hc2
 go_enter Tryz.func41, Tryz.ntmps41
 go_wp2_with fail
 go_loopw [13] (fun i wr => ∃ k : Nat, i = .int .i64 k ∧ k ≤ N ∧ Below w.heap.size w wr) (fun i _ => N - (intOf i).toNat)
 case atStart => exact ⟨0, rfl, Nat.zero_le _, Below.refl _ _⟩
 case round =>
  obtain ⟨k, rfl, hk, hbr⟩ := hrel
  by_cases hlt : k < N
  ·obtain ⟨s, hs⟩ : ∃ s, l[k]? = some s := ⟨l[k]'(by rw [HN.out]; exact hlt), List.getElem?_eq_getElem _⟩
   obtain ⟨b1, f1, e1, q1⟩ := HC1.out (by omega)
   obtain ⟨b2, f2, e2, q2⟩ := HC2.out (by omega)
   subst e1 e2
   have d0 := cell_later hbr (q1 k s hs)
   have d1 := cell_later hbr (q2 k s hs)
   clear q1 q2 hs
   go_wp2_with fail
   go_quiet (fail)
   go_wp2
   go_roundw
   case rel => exact ⟨k + 1, by go_num, by omega, hbr.drewN'⟩
   case measure => simp [intOf]; omega
  ·obtain rfl : k = N := by omega
   go_wp2
   go_ret
   exact ⟨rfl, hbr⟩
set_option maxHeartbeats 1000000 in
theorem rsameS_any (v u : Value) (l : List ByteArray) (w : World) (hv : StrRow w v l) (hu : StrRow w u l) :
  Calls Tryz.prog 28 #[v, u] w fun e w' => e = .returned (.bool true) ∧ Below w.heap.size w w' := by
 obtain ⟨a1, c1, rfl, hn1, _, hc1⟩ := hv
 obtain ⟨a2, c2, rfl, _, _, hc2⟩ := hu
 obtain ⟨N, hN⟩ : ∃ N, l.length = N := ⟨_, rfl⟩
 rw [hN] at hn1 hc1 hc2 ⊢
 have HN := Lib.hid hN
 have HC1 := Lib.hid hc1
 have HC2 := Lib.hid hc2
 clear hN hc1 hc2
 go_enter Tryz.func28, Tryz.ntmps28
 go_wp2_with fail
 go_loopw [5] (fun i wr => ∃ k : Nat, i = .int .i64 k ∧ k ≤ N ∧ Below w.heap.size w wr) (fun i _ => N - (intOf i).toNat)
 case atStart => exact ⟨0, rfl, Nat.zero_le _, Below.refl _ _⟩
 case round =>
  obtain ⟨k, rfl, hk, hbr⟩ := hrel
  by_cases hlt : k < N
  ·obtain ⟨s, hs⟩ : ∃ s, l[k]? = some s := ⟨l[k]'(by rw [HN.out]; exact hlt), List.getElem?_eq_getElem _⟩
   obtain ⟨b1, f1, e1, q1⟩ := HC1.out (by omega)
   obtain ⟨b2, f2, e2, q2⟩ := HC2.out (by omega)
   subst e1 e2
   have d0 := cell_later hbr (q1 k s hs)
   have d1 := cell_later hbr (q2 k s hs)
   clear q1 q2 hs
   go_wp2_with fail
   go_quiet (fail)
   go_wp2
   go_roundw
   case rel => exact ⟨k + 1, by go_num, by omega, hbr.drewN'⟩
   case measure => simp [intOf]; omega
  ·obtain rfl : k = N := by omega
   go_wp2
   go_ret
   exact ⟨rfl, hbr⟩
set_option maxHeartbeats 1000000 in
theorem equalT_any (v u : Value) (l : List TagD) (w : World) (hv : TagRow w v l) (hu : TagRow w u l) :
  Calls Tryz.prog 42 #[v, u] w fun e w' => e = .returned (.bool true) ∧ Below w.heap.size w w' := by
 obtain ⟨a1, c1, rfl, hn1, _, hc1⟩ := hv
 obtain ⟨a2, c2, rfl, _, _, hc2⟩ := hu
 obtain ⟨N, hN⟩ : ∃ N, l.length = N := ⟨_, rfl⟩
 rw [hN] at hn1 hc1 hc2 ⊢
 have HN := Lib.hid hN
 have HC1 := Lib.hid hc1
 have HC2 := Lib.hid hc2
 clear hN hc1 hc2
 go_enter Tryz.func42, Tryz.ntmps42
 go_wp2_with fail
 go_loopw [13] (fun i wr => ∃ k : Nat, i = .int .i64 k ∧ k ≤ N ∧ Below w.heap.size w wr) (fun i _ => N - (intOf i).toNat)
 case atStart => exact ⟨0, rfl, Nat.zero_le _, Below.refl _ _⟩
 case round =>
  obtain ⟨k, rfl, hk, hbr⟩ := hrel
  by_cases hlt : k < N
  ·obtain ⟨t, ht⟩ : ∃ t, l[k]? = some t := ⟨l[k]'(by rw [HN.out]; exact hlt), List.getElem?_eq_getElem _⟩
   obtain ⟨b1, f1, e1, q1⟩ := HC1.out (by omega)
   obtain ⟨b2, f2, e2, q2⟩ := HC2.out (by omega)
   subst e1 e2
   have d0 := cell_later hbr (q1 k t ht).1
   have d1 := cell_later hbr (q1 k t ht).2
   have d2 := cell_later hbr (q2 k t ht).1
   have d3 := cell_later hbr (q2 k t ht).2
   have hte := fun W => eqIn_tag t.key t.val W
   clear q1 q2 ht
   go_wp2_with fail
   go_quiet (fail)
   go_wp2
   go_roundw
   case rel => exact ⟨k + 1, by go_num, by omega, hbr.drewN'⟩
   case measure => simp [intOf]; omega
  ·obtain rfl : k = N := by omega
   go_wp2
   go_ret
   exact ⟨rfl, hbr⟩
end Go.Proofs.YtibpaaajghbkoaaGreat

namespace Go.Proofs.YtibpaaajghbkoaaGreat
open Go.RowKit Go.Sort
set_option maxRecDepth 100000 in
set_option maxHeartbeats 2000000 in
theorem sameO_any (o : ObjD) (vr vt ur ut : Value) (w : World) (hr : StrRow w vr o.refs) (ht : TagRow w vt o.tags) (gr : StrRow w ur o.refs) (gt : TagRow w ut o.tags) :
  Calls Tryz.prog 20 #[obV o vr vt, obV o ur ut] w fun e w' => e = .returned (.bool true) ∧ Below w.heap.size w w' := by
 have hpe := fun W => eqIn_pt o.x o.y W
 have ES := Lib.hid (fun W (hb : Below w.heap.size w W) => equalS_any vr ur o.refs W (hr.later hb) (gr.later hb))
 have ET := Lib.hid (fun W (hb : Below w.heap.size w W) => equalT_any vt ut o.tags W (ht.later hb) (gt.later hb))
 obtain ⟨a1, c1, rfl, _⟩ := hr
 obtain ⟨a2, c2, rfl, _⟩ := ht
 obtain ⟨a3, c3, rfl, _⟩ := gr
 obtain ⟨a4, c4, rfl, _⟩ := gt
 have B1 : Below w.heap.size w ((w.alloc (.cells #[.string o.id, .int .i64 o.kind, .int .i64 o.x, .int .i64 o.y, .slice a1 o.refs.length c1, .slice a2 o.tags.length c2] 36)).alloc (.cells #[.string o.id, .int .i64 o.kind, .int .i64 o.x, .int .i64 o.y, .slice a3 o.refs.length c3, .slice a4 o.tags.length c4] 36)) := (by repeat' (first | exact Below.refl _ _ | refine Below.drew ?_ | refine Below.drewN' ?_ | refine Below.setCell ?_ (by first | omega | (simp; done) | exact Below.size (by assumption) | (simp; omega)) _ | refine Below.alloc ?_ (by first | omega | (simp; done) | exact Below.size (by assumption) | (simp; omega)) _ | refine Below.trans ?_ (Below.mono (by assumption) ?_) | (first | omega | (simp; done) | exact Below.size (by assumption) | (simp; omega))))
 have H2 := row_past (o' := .cells #[.string o.id, .int .i64 o.kind, .int .i64 o.x, .int .i64 o.y, .slice a3 o.refs.length c3, .slice a4 o.tags.length c4] 36) (row_new w (.cells #[.string o.id, .int .i64 o.kind, .int .i64 o.x, .int .i64 o.y, .slice a1 o.refs.length c1, .slice a2 o.tags.length c2] 36))
 have H3 := row_new1 w (.cells #[.string o.id, .int .i64 o.kind, .int .i64 o.x, .int .i64 o.y, .slice a1 o.refs.length c1, .slice a2 o.tags.length c2] 36) (.cells #[.string o.id, .int .i64 o.kind, .int .i64 o.x, .int .i64 o.y, .slice a3 o.refs.length c3, .slice a4 o.tags.length c4] 36)
 go_enter Tryz.func20, Tryz.ntmps20
 go_wp2_with fail
 generalize hw1 : (w.alloc (.cells #[.string o.id, .int .i64 o.kind, .int .i64 o.x, .int .i64 o.y, .slice a1 o.refs.length c1, .slice a2 o.tags.length c2] 36)).alloc (.cells #[.string o.id, .int .i64 o.kind, .int .i64 o.x, .int .i64 o.y, .slice a3 o.refs.length c3, .slice a4 o.tags.length c4] 36) = w1
 rw [hw1] at B1 H2 H3
 clear hw1
 refine (ES.out _ B1).mono ?_
 rintro e w2 ⟨rfl, hb⟩
 have B2 := below_step B1 (Nat.le_refl _) hb
 have H2 := Lib.hid (row_later hb H2)
 have H3 := Lib.hid (row_later hb H3)
 clear hb B1 ES
 obtain ⟨xz, x0, x1, x2, x3, x4, x5⟩ := rk6 H2.out
 obtain ⟨yz, y0, y1, y2, y3, y4, y5⟩ := rk6 H3.out
 go_wp2_with fail
 refine (ET.out _ B2).mono ?_
 rintro e w3 ⟨rfl, hb⟩
 have B3 := below_step B2 (Nat.le_refl _) hb
 clear x0 x1 x2 x3 x4 x5 xz
 clear y0 y1 y2 y3 y4 y5 yz
 go_wp2
 go_ret
 exact ⟨rfl, B3⟩
set_option maxRecDepth 100000 in
set_option maxHeartbeats 2000000 in
theorem equalF_any (v u : Value) (l : List ObjD) (w : World) (hv : ObjsIs w v l) (hu : ObjsIs w u l) :
  Calls Tryz.prog 60 #[v, u, .func (.func 20) #[] #[]] w fun e w' => e = .returned (.bool true) ∧ Below w.heap.size w w' := by
 obtain ⟨a1, c1, rfl, hn1, hc1⟩ := hv
 obtain ⟨a2, c2, rfl, hn2, hc2⟩ := hu
 obtain ⟨N, hN⟩ : ∃ N, l.length = N := ⟨_, rfl⟩
 rw [hN] at hn1 hc1 hc2 ⊢
 have HN := Lib.hid hN
 have HC1 := Lib.hid hc1
 have HC2 := Lib.hid hc2
 clear hN hc1 hc2 hn2
 go_enter Tryz.func60, Tryz.ntmps60
 go_wp2_with fail
 go_loopw [17] (fun i wr => ∃ k : Nat, i = .int .i64 k ∧ k ≤ N ∧ Below w.heap.size w wr) (fun i _ => N - (intOf i).toNat)
 case atStart => exact ⟨0, rfl, Nat.zero_le _, Below.refl _ _⟩
 case round =>
  obtain ⟨wq, rfl⟩ : ∃ z : World, z = wr := ⟨_, rfl⟩
  obtain ⟨k, rfl, hk, hbr⟩ := hrel
  by_cases hlt : k < N
  ·obtain ⟨o, ho⟩ : ∃ o, l[k]? = some o := ⟨l[k]'(by rw [HN.out]; exact hlt), List.getElem?_eq_getElem _⟩
   obtain ⟨b1, f1, e1, q1⟩ := HC1.out (by omega)
   obtain ⟨b2, f2, e2, q2⟩ := HC2.out (by omega)
   subst e1 e2
   obtain ⟨vr, vt, x0, x1, x2, x3, x4, x5, hr1, ht1, _⟩ := (q1 k o ho).later hbr
   obtain ⟨ur, ut, y0, y1, y2, y3, y4, y5, hr2, ht2, _⟩ := (q2 k o ho).later hbr
   have RS := Lib.hid (fun W (hb : Below wq.heap.size wq W) => sameO_any o vr vt ur ut W (hr1.later hb) (ht1.later hb) (hr2.later hb) (ht2.later hb))
   obtain ⟨p1, pc1, ev1, _⟩ := hr1
   obtain ⟨p2, pc2, ev2, _⟩ := ht1
   obtain ⟨p3, pc3, ev3, _⟩ := hr2
   obtain ⟨p4, pc4, ev4, _⟩ := ht2
   subst ev1 ev2 ev3 ev4
   have bz1 := lt_of_cell x0
   have bz2 := lt_of_cell y0
   clear q1 q2 ho
   go_wp2_with fail
   refine (RS.out _ (by repeat' (first | exact Below.refl _ _ | refine Below.drew ?_ | refine Below.drewN' ?_ | refine Below.setCell ?_ (by first | omega | (simp; done) | exact Below.size (by assumption) | (simp; omega)) _ | refine Below.alloc ?_ (by first | omega | (simp; done) | exact Below.size (by assumption) | (simp; omega)) _ | refine Below.trans ?_ (Below.mono (by assumption) ?_) | (first | omega | (simp; done) | exact Below.size (by assumption) | (simp; omega))))).mono ?_
   rintro e w3 ⟨rfl, hb⟩
   have B3 := Lib.hid (hbr.trans ((((Below.refl wq.heap.size wq).alloc (Nat.le_refl _) _).alloc (by simp) _ |>.trans (hb.mono (by simp; omega))).mono hbr.size))
   clear hb x0 x1 x2 x3 x4 x5 y0 y1 y2 y3 y4 y5
   go_wp2
   go_roundw
   case rel => exact ⟨k + 1, by go_num, by omega, B3.out⟩
   case measure => simp [intOf]; omega
  ·obtain rfl : k = N := by omega
   go_wp2
   go_ret
   exact ⟨rfl, hbr⟩
set_option maxHeartbeats 1000000 in
theorem asame_any (v u : Value) (l : List ObjD) (w : World) (hv : ObjsIs w v l) (hu : ObjsIs w u l) :
  Calls Tryz.prog 29 #[.agg #[v], .agg #[u]] w fun e w' => e = .returned (.bool true) ∧ Below w.heap.size w w' := by
 have EF := Lib.hid (fun W (hb : Below w.heap.size w W) => equalF_any v u l W (hv.later hb) (hu.later hb))
 obtain ⟨a1, c1, rfl, _⟩ := hv
 obtain ⟨a2, c2, rfl, _⟩ := hu
 have B1 : Below w.heap.size w ((w.alloc (.cells #[.slice a1 l.length c1] 24)).alloc (.cells #[.slice a2 l.length c2] 24)) := (by repeat' (first | exact Below.refl _ _ | refine Below.drew ?_ | refine Below.drewN' ?_ | refine Below.setCell ?_ (by first | omega | (simp; done) | exact Below.size (by assumption) | (simp; omega)) _ | refine Below.alloc ?_ (by first | omega | (simp; done) | exact Below.size (by assumption) | (simp; omega)) _ | refine Below.trans ?_ (Below.mono (by assumption) ?_) | (first | omega | (simp; done) | exact Below.size (by assumption) | (simp; omega))))
 go_enter Tryz.func29, Tryz.ntmps29
 go_wp2_with fail
 refine (EF.out _ B1).mono ?_
 rintro e w2 ⟨rfl, hb⟩
 have B2 := below_step B1 (Nat.le_refl _) hb
 go_wp2
 go_ret
 exact ⟨rfl, B2⟩
def FewOPost (o : ObjD) (w : World) (e : Ending) (w' : World) : Prop := (∃ r, e = .returned (.bool r) ∧ (r = true → o.refs.length ≤ 40)) ∧ Below w.heap.size w w'
set_option maxRecDepth 100000 in
set_option maxHeartbeats 4000000 in
theorem fewO_any (o : ObjD) (vr vt : Value) (w : World) (hr : StrRow w vr o.refs) (ht : TagRow w vt o.tags) :
  Calls Tryz.prog 61 #[obV o vr vt, .int .i64 40] w (FewOPost o w) := by
 obtain ⟨a1, c1, rfl, hn1, hs1, hc1⟩ := hr
 obtain ⟨a2, c2, rfl, hn2, hs2, hc2⟩ := ht
 have B1 : Below w.heap.size w (w.alloc (.cells #[.string o.id, .int .i64 o.kind, .int .i64 o.x, .int .i64 o.y, .slice a1 o.refs.length c1, .slice a2 o.tags.length c2] 36)) := (Below.refl _ _).alloc (Nat.le_refl _) _
 have H2 := row_new w (.cells #[.string o.id, .int .i64 o.kind, .int .i64 o.x, .int .i64 o.y, .slice a1 o.refs.length c1, .slice a2 o.tags.length c2] 36)
 by_cases z1 : (300 : Int) < o.id.size
 ·have zb : decide ((300 : Int) < o.id.size) = true := decide_eq_true z1
  go_enter Tryz.func61, Tryz.ntmps61
  go_wp2
  go_ret
  exact ⟨⟨false, rfl, fun h => by cases h⟩, B1⟩
 have zb : decide ((300 : Int) < o.id.size) = false := decide_eq_false z1
 by_cases z2 : (40 : Int) < o.refs.length
 ·have zb2 : decide ((40 : Int) < o.refs.length) = true := decide_eq_true z2
  clear z1
  go_enter Tryz.func61, Tryz.ntmps61
  go_wp2
  go_ret
  exact ⟨⟨false, rfl, fun h => by cases h⟩, B1⟩
 have zb2 : decide ((40 : Int) < o.refs.length) = false := decide_eq_false z2
 by_cases z3 : (65 : Int) < o.tags.length
 ·have zb3 : decide ((65 : Int) < o.tags.length) = true := decide_eq_true z3
  clear z1 z2
  go_enter Tryz.func61, Tryz.ntmps61
  go_wp2
  go_ret
  exact ⟨⟨false, rfl, fun h => by cases h⟩, B1⟩
 have zb3 : decide ((65 : Int) < o.tags.length) = false := decide_eq_false z3
 have HR := Lib.hid (show o.refs.length ≤ 40 by omega)
 obtain ⟨nr, hnr⟩ : ∃ n, o.refs.length = n := ⟨_, rfl⟩
 obtain ⟨nt, hnt⟩ : ∃ n, o.tags.length = n := ⟨_, rfl⟩
 rw [hnr] at hn1 hc1 zb2 z2 B1 H2 ⊢
 rw [hnt] at hn2 hc2 zb3 z3 B1 H2 ⊢
 have HNR := Lib.hid hnr
 have HNT := Lib.hid hnt
 have HC1 := Lib.hid hc1
 have HC2 := Lib.hid hc2
 have HS1 := Lib.hid hs1
 have HS2 := Lib.hid hs2
 have hnr40 : nr ≤ 40 := by rw [← hnr]; exact HR.out
 have hnt65 : nt ≤ 65 := by omega
 clear hnr hnt hc1 hc2 hs1 hs2 z1 z2 z3
 go_enter Tryz.func61, Tryz.ntmps61
 go_wp2_with fail
 generalize hw1 : w.alloc (.cells #[.string o.id, .int .i64 o.kind, .int .i64 o.x, .int .i64 o.y, .slice a1 nr c1, .slice a2 nt c2] 36) = w1
 rw [hw1] at B1 H2
 clear hw1 zb zb2 zb3
 go_loopw [5] (fun i wr => ∃ k : Nat, i = .int .i64 k ∧ k ≤ nr ∧ Below w.heap.size w wr ∧ wr.heap[w.heap.size]? = some (.cells #[.string o.id, .int .i64 o.kind, .int .i64 o.x, .int .i64 o.y, .slice a1 nr c1, .slice a2 nt c2] 36)) (fun i _ => nr - (intOf i).toNat)
 case atStart => exact ⟨0, rfl, Nat.zero_le _, B1, H2⟩
 case round =>
  obtain ⟨k, rfl, hk, hbr, h2⟩ := hrel
  have G2 := Lib.hid h2
  clear h2
  by_cases hlt : k < nr
  ·obtain ⟨s, hs⟩ : ∃ s, o.refs[k]? = some s := ⟨o.refs[k]'(by rw [HNR.out]; exact hlt), List.getElem?_eq_getElem _⟩
   obtain ⟨b1, f1, e1, q1⟩ := HC1.out (by omega)
   subst e1
   have d0 := cell_later hbr (q1 k s hs)
   have hz := HS1.out s (List.mem_of_getElem? hs)
   clear q1 hs
   obtain ⟨xz, x0, x1, x2, x3, x4, x5⟩ := rk6 G2.out
   by_cases hb : (300 : Int) < s.size
   ·have hbb : decide ((300 : Int) < s.size) = true := decide_eq_true hb
    clear hb
    go_wp2
    go_ret
    exact ⟨⟨false, rfl, fun h => by cases h⟩, hbr⟩
   ·have hbb : decide ((300 : Int) < s.size) = false := decide_eq_false hb
    clear hb
    go_wp2
    go_roundw
    case rel => exact ⟨k + 1, by go_num, by omega, hbr, G2.out⟩
    case measure => simp [intOf]; omega
  ·obtain rfl : k = nr := by omega
   obtain ⟨wv, rfl⟩ : ∃ z : World, z = wr := ⟨_, rfl⟩
   obtain ⟨xz, x0, x1, x2, x3, x4, x5⟩ := rk6 G2.out
   go_wp2_with fail
   clear x0 x1 x2 x3 x4 x5 xz
   go_loopw [6] (fun i wr => ∃ j : Nat, i = .int .i64 j ∧ j ≤ nt ∧ Below w.heap.size w wr ∧ wr.heap[w.heap.size]? = some (.cells #[.string o.id, .int .i64 o.kind, .int .i64 o.x, .int .i64 o.y, .slice a1 k c1, .slice a2 nt c2] 36)) (fun i _ => nt - (intOf i).toNat)
   case atStart => exact ⟨0, rfl, Nat.zero_le _, hbr, G2.out⟩
   case round =>
    obtain ⟨j, rfl, hj, hbr2, h2⟩ := hrel
    have G2 := Lib.hid h2
    clear h2
    by_cases hlt2 : j < nt
    ·obtain ⟨t, ht⟩ : ∃ t, o.tags[j]? = some t := ⟨o.tags[j]'(by rw [HNT.out]; exact hlt2), List.getElem?_eq_getElem _⟩
     obtain ⟨b2, f2, e2, q2⟩ := HC2.out (by omega)
     subst e2
     have d0 := cell_later hbr2 (q2 j t ht).1
     have d1 := cell_later hbr2 (q2 j t ht).2
     obtain ⟨hz1, hz2⟩ := HS2.out t (List.mem_of_getElem? ht)
     have wz : IntKind.i64.wrap ((t.key.size : Int) + t.val.size) = (t.key.size : Int) + t.val.size := IntWalk.i64_in _ (by omega)
     clear q2 ht
     obtain ⟨xz, x0, x1, x2, x3, x4, x5⟩ := rk6 G2.out
     obtain ⟨bd, hbd⟩ : ∃ z, decide ((600 : Int) < (t.key.size : Int) + t.val.size) = z := ⟨_, rfl⟩
     cases bd with
     |true =>
      go_wp2_with fail
      go_quiet (fail)
      go_wp2
      go_ret
      exact ⟨⟨false, rfl, fun h => by cases h⟩, hbr2.drewN'⟩
     |false =>
      go_wp2_with fail
      go_quiet (fail)
      clear x0 x1 x2 x3 x4 x5 xz
      have BQ : Below wr.heap.size wr (wr.drewN nq) := (Below.refl _ _).drewN'
      go_wp2
      go_roundw
      case rel => exact ⟨j + 1, by go_num, by omega, hbr2.drewN', row_later BQ G2.out⟩
      case measure => simp [intOf]; omega
    ·obtain rfl : j = nt := by omega
     obtain ⟨xz, x0, x1, x2, x3, x4, x5⟩ := rk6 G2.out
     go_wp2
     go_ret
     exact ⟨⟨true, rfl, fun _ => HR.out⟩, hbr2⟩
end Go.Proofs.YtibpaaajghbkoaaGreat

namespace Go.Proofs.YtibpaaajghbkoaaGreat
open Go.RowKit Go.Sort
def FewMPost (l : List ObjD) (w : World) (e : Ending) (w' : World) : Prop := (∃ r, e = .returned (.bool r) ∧ (r = true → l.length ≤ 25 ∧ ∀ o ∈ l, o.refs.length ≤ 40)) ∧ Below w.heap.size w w'
set_option maxRecDepth 100000 in
set_option maxHeartbeats 2000000 in
theorem few12_any (v : Value) (l : List ObjD) (w : World) (hv : ObjsIs w v l) :
  Calls Tryz.prog 30 #[.agg #[v], .int .i64 25] w (FewMPost l w) := by
 obtain ⟨a, c, rfl, hn, hc⟩ := hv
 obtain ⟨N, hN⟩ : ∃ N, l.length = N := ⟨_, rfl⟩
 rw [hN] at hn hc ⊢
 have HN := Lib.hid hN
 have HC := Lib.hid hc
 clear hN hc
 have B1 : Below w.heap.size w (w.alloc (.cells #[.slice a N c] 24)) := (Below.refl _ _).alloc (Nat.le_refl _) _
 have H2 := row_new w (.cells #[.slice a N c] 24)
 by_cases hbig : (N : Int) ≤ 25
 case neg =>
  have hb : decide ((N : Int) ≤ 25) = false := decide_eq_false hbig
  have hp : decide ((0 : Int) < (N : Int)) = true := decide_eq_true (by omega)
  have hp2 : decide (0 < N) = true := decide_eq_true (by omega)
  have hb3 : decide (N ≤ 25) = false := decide_eq_false (by omega)
  clear hbig
  go_enter Tryz.func30, Tryz.ntmps30
  go_wp2_with fail
  refine wp_loop_rounds 2 ?_
  rw [rounds_succ]
  go_wp2
  go_ret
  exact ⟨⟨false, rfl, fun h => by cases h⟩, B1⟩
 have hb : decide ((N : Int) ≤ 25) = true := decide_eq_true hbig
 have hb3 : decide (N ≤ 25) = true := decide_eq_true (by omega)
 have hN25 : N ≤ 25 := by omega
 clear hbig
 go_enter Tryz.func30, Tryz.ntmps30
 go_wp2_with fail
 generalize hw1 : w.alloc (.cells #[.slice a N c] 24) = w1
 rw [hw1] at B1 H2
 clear hw1
 go_loopw [5] (fun i wr => ∃ k : Nat, i = .int .i64 k ∧ k ≤ N ∧ (∀ o ∈ l.take k, o.refs.length ≤ 40) ∧ Below w.heap.size w wr ∧ wr.heap[w.heap.size]? = some (.cells #[.slice a N c] 24)) (fun i _ => N - (intOf i).toNat)
 case atStart => exact ⟨0, rfl, Nat.zero_le _, (fun o ho => by simp at ho), B1, H2⟩
 case round =>
  obtain ⟨wq, rfl⟩ : ∃ z : World, z = wr := ⟨_, rfl⟩
  obtain ⟨k, rfl, hk, hrs, hbr, h2⟩ := hrel
  have G2 := Lib.hid h2
  have HRS := Lib.hid hrs
  clear h2 hrs
  by_cases hlt : k < N
  ·obtain ⟨o, ho⟩ : ∃ o, l[k]? = some o := ⟨l[k]'(by rw [HN.out]; exact hlt), List.getElem?_eq_getElem _⟩
   obtain ⟨b1, f1, e1, q1⟩ := HC.out (by omega)
   subst e1
   obtain ⟨vr, vt, x0, x1, x2, x3, x4, x5, hr1, ht1, _⟩ := (q1 k o ho).later hbr
   have FO := Lib.hid (fewO_any o vr vt wq hr1 ht1)
   obtain ⟨p1, pc1, ev1, _⟩ := hr1
   obtain ⟨p2, pc2, ev2, _⟩ := ht1
   subst ev1 ev2
   have bz1 := lt_of_cell x0
   have HO := Lib.hid ho
   clear q1 ho
   obtain ⟨mz, m0⟩ := rk1 G2.out
   go_wp2_with fail
   refine FO.out.mono ?_
   rintro e w3 ⟨⟨r, rfl, hr⟩, hb⟩
   have B3 := hbr.trans (hb.mono hbr.size)
   have G3 := Lib.hid (row_later hb G2.out)
   have HRR := Lib.hid hr
   clear hb x0 x1 x2 x3 x4 x5 hr FO
   clear m0 mz
   cases r with
   |false =>
    go_wp2
    go_ret
    exact ⟨⟨false, rfl, fun h => by cases h⟩, B3⟩
   |true =>
    have HR2 := Lib.hid (show ∀ q ∈ l.take (k + 1), q.refs.length ≤ 40 from fun q hq => by
     rw [take_snoc' HO.out] at hq
     rcases List.mem_append.1 hq with h | h
     ·exact HRS.out q h
     ·rw [List.mem_singleton.1 h]; exact HRR.out rfl)
    go_wp2
    go_roundw
    case rel => exact ⟨k + 1, by go_num, by omega, HR2.out, B3, G3.out⟩
    case measure => simp [intOf]; omega
  ·obtain rfl : k = N := by omega
   have HE := Lib.hid (show l.length ≤ 25 ∧ ∀ o ∈ l, o.refs.length ≤ 40 by
    refine ⟨by rw [HN.out]; exact hN25, fun o ho => HRS.out o ?_⟩
    rw [List.take_of_length_le (by rw [HN.out]; exact Nat.le_refl _)]
    exact ho)
   obtain ⟨mz, m0⟩ := rk1 G2.out
   go_wp2
   go_ret
   exact ⟨⟨true, rfl, fun _ => HE.out⟩, hbr⟩
set_option maxHeartbeats 1000000 in
theorem fewL_any (v : Value) (l : List ObjD) (w : World) (hv : ObjsIs w v l) :
  Calls Tryz.prog 10 #[.agg #[v]] w (FewMPost l w) := by
 have FM := Lib.hid (fun W (hb : Below w.heap.size w W) => few12_any v l W (hv.later hb))
 obtain ⟨a, c, rfl, _⟩ := hv
 have B1 : Below w.heap.size w (w.alloc (.cells #[.slice a l.length c] 24)) := (Below.refl _ _).alloc (Nat.le_refl _) _
 go_enter Tryz.func10, Tryz.ntmps10
 go_wp2_with fail
 refine (FM.out _ B1).mono ?_
 rintro e w2 ⟨⟨r, rfl, hr⟩, hb⟩
 have B2 := below_step B1 (Nat.le_refl _) hb
 have HR := Lib.hid hr
 clear hr
 go_wp2
 go_ret
 exact ⟨⟨r, rfl, HR.out⟩, B2⟩
end Go.Proofs.YtibpaaajghbkoaaGreat

namespace Go.Proofs.YtibpaaajghbkoaaGreat
def smA : ObjD := ⟨⟨#[97]⟩, 1, 0, 10, [], []⟩
def smB : ObjD := ⟨⟨#[98]⟩, 1, 4, 11, [], []⟩
def smC : ObjD := ⟨⟨#[99]⟩, 1, 8, 10, [], []⟩
def smD : ObjD := ⟨⟨#[100]⟩, 1, 4, 10, [], []⟩
def smE : ObjD := ⟨⟨#[101]⟩, 1, 4, 5, [], []⟩
def smV : ObjD := ⟨⟨#[118]⟩, 2, 0, 0, [⟨#[100]⟩, ⟨#[101]⟩], []⟩
def smW : ObjD := ⟨⟨#[119]⟩, 2, 0, 0, [⟨#[97]⟩, ⟨#[98]⟩, ⟨#[99]⟩], []⟩
def smX : ObjD := ⟨⟨#[119]⟩, 2, 0, 0, [⟨#[97]⟩, ⟨#[99]⟩], []⟩
def sm1 : List ObjD := [smA, smB, smC, smW]
def sm2 : List ObjD := [smA, smB, smC, smD, smE, smV, smW]
theorem sm_8 : simP sm1 8 = [smA, smC, smX] := by kernel_rfl
theorem sm_7 : simP sm1 7 = sm1 := by kernel_rfl
theorem sm_both : simP sm2 8 = sm2 := by kernel_rfl
theorem sm_neg : simP sm1 (-1) = sm1 := by kernel_rfl
end Go.Proofs.YtibpaaajghbkoaaGreat

namespace Go.Proofs.YtibpaaajghbkoaaGreat
open Go.RowKit
def halfN : Nat → Int
 |0 => 1048576
 |n + 1 => (halfN n).tdiv 2
def tolP (z : Int) : Int := if z < 0 ∨ 17 < z then 0 else (halfN z.toNat).tdiv 64 * (halfN z.toNat).tdiv 64
set_option maxRecDepth 100000 in
set_option maxHeartbeats 4000000 in
theorem tol_any (z : Int) (w : World) : Calls Tryz.prog 14 #[.int .i64 z] w fun e w' => e = .returned (.int .i64 (tolP z)) ∧ w' = w := by
 by_cases h1 : z < 0
 ·have d1 : decide (z < 0) = true := decide_eq_true h1
  have HE := Lib.hid (show tolP z = 0 by unfold tolP; rw [if_pos (Or.inl h1)])
  go_enter Tryz.func14, Tryz.ntmps14
  go_wp2
  go_ret
  exact ⟨by rw [HE.out] <;> rfl, rfl⟩
 ·have d1 : decide (z < 0) = false := decide_eq_false h1
  by_cases h2 : 17 < z
  ·have d2 : decide (17 < z) = true := decide_eq_true h2
   have HE := Lib.hid (show tolP z = 0 by unfold tolP; rw [if_pos (Or.inr h2)])
   go_enter Tryz.func14, Tryz.ntmps14
   go_wp2
   go_ret
   exact ⟨by rw [HE.out] <;> rfl, rfl⟩
  ·have hz : z = 0 ∨ z = 1 ∨ z = 2 ∨ z = 3 ∨ z = 4 ∨ z = 5 ∨ z = 6 ∨ z = 7 ∨ z = 8 ∨ z = 9 ∨ z = 10 ∨ z = 11 ∨ z = 12 ∨ z = 13 ∨ z = 14 ∨ z = 15 ∨ z = 16 ∨ z = 17 := by omega
   clear d1 h1 h2
   rcases hz with rfl | rfl | rfl | rfl | rfl | rfl | rfl | rfl | rfl | rfl | rfl | rfl | rfl | rfl | rfl | rfl | rfl | rfl
   all_goals
    go_enter Tryz.func14, Tryz.ntmps14
    go_wp2
    go_ret
    exact ⟨by rfl, rfl⟩
end Go.Proofs.YtibpaaajghbkoaaGreat
