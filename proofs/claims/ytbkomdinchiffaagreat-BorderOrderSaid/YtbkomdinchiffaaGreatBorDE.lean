/- geom: On, online. geom: online. -/
import Derived.Test.YtbkomdinchiffaaGreatBorABC
import Derived.Deep.CutBlock
import Derived.Deep.CutRange
namespace Go.Proofs.YtbkomdinchiffaaGreat
open Go.RowKit

theorem set4_row {w : World} {g : Nat} {a b c d x y z u : Value} {t : TypeId} (h : w.heap[g]? = some (.cells #[a, b, c, d] t (0, 0))) : ((((w.setCell ⟨g, 0, none⟩ x).setCell ⟨g, 1, none⟩ y).setCell ⟨g, 2, none⟩ z).setCell ⟨g, 3, none⟩ u).heap[g]? = some (.cells #[x, y, z, u] t (0, 0)) :=
  row_set (i := 3) (row_set (i := 2) (row_set (i := 1) (row_set (i := 0) h)))
theorem set4_other {w : World} {g k : Nat} {o : Obj} {x y z u : Value} (h : w.heap[k]? = some o) (hne : k ≠ g) : ((((w.setCell ⟨g, 0, none⟩ x).setCell ⟨g, 1, none⟩ y).setCell ⟨g, 2, none⟩ z).setCell ⟨g, 3, none⟩ u).heap[k]? = some o :=
  row_set_other (row_set_other (row_set_other (row_set_other h hne) hne) hne) hne
theorem set4_below {B : Nat} {w0 w : World} {g : Nat} {x y z u : Value} (h : Below B w0 w) (hg : B ≤ g) : Below B w0 ((((w.setCell ⟨g, 0, none⟩ x).setCell ⟨g, 1, none⟩ y).setCell ⟨g, 2, none⟩ z).setCell ⟨g, 3, none⟩ u) :=
  (((h.setCell (p := ⟨g, 0, none⟩) hg _).setCell (p := ⟨g, 1, none⟩) hg _).setCell (p := ⟨g, 2, none⟩) hg _).setCell (p := ⟨g, 3, none⟩) hg _
set_option maxRecDepth 100000 in
set_option maxHeartbeats 4000000 in
theorem on_any' (s : Sg) (p : Pt) (hs : nearS s = true) (hp : nearQ p = true) (w : World) :
    Calls Tryz.prog 93 #[sgV s, ptV p] w fun e w' => e = .returned (.bool (onQ s p)) ∧ Below w.heap.size w w' := by
  have hs1 : nearQ s.1 = true := by unfold nearS at hs; rw [Bool.and_eq_true] at hs; exact hs.1
  have hs2 : nearQ s.2 = true := by unfold nearS at hs; rw [Bool.and_eq_true] at hs; exact hs.2
  have NR := Lib.hid (fun (v : Value) w' hv => by
    have := near_any v [s.1, s.2, p] w' (by simp) hv
    rw [show [s.1, s.2, p].all nearQ = true by simp [hs1, hs2, hp]] at this
    exact this)
  have SR := Lib.hid (fun w => sorted_any s w)
  have hn' := srtS_near s
  rw [hs] at hn'
  unfold nearS at hn'
  rw [Bool.and_eq_true] at hn'
  have HO := Lib.hid (show onQ s p = (decide (crs (srtS s).1 (srtS s).2 p = 0) && decide (lexC (srtS s).1 p ≤ 0) && decide (lexC p (srtS s).2 ≤ 0) && (decide ((srtS s).1 ≠ (srtS s).2) || decide (p = (srtS s).1))) from rfl)
  generalize onQ s p = res at HO ⊢
  generalize srtS s = r at SR hn' HO
  have OR := Lib.hid (fun w => orient_any r.1 r.2 p hn'.1 hn'.2 hp w)
  have C1 := Lib.hid (fun w => gcomp_any r.1 p w)
  have C2 := Lib.hid (fun w => gcomp_any p r.2 w)
  have eqg := eg37
  have nq := neq_point r.1 r.2
  have eq := eql_point p r.1
  have hz := @sgn_zero (crs r.1 r.2 p)
  obtain ⟨o, ho⟩ : ∃ z, z = sgn (crs r.1 r.2 p) := ⟨_, rfl⟩
  rw [← ho] at OR hz
  have HZ := Lib.hid hz
  generalize crs r.1 r.2 p = n at HO HZ
  generalize lexC r.1 p = c1 at C1 HO
  generalize lexC p r.2 = c2 at C2 HO
  obtain ⟨d1, hd1⟩ : ∃ z, z = decide (r.1 = r.2) := ⟨_, rfl⟩
  obtain ⟨d2, hd2⟩ : ∃ z, z = decide (p = r.1) := ⟨_, rfl⟩
  rw [← hd1] at nq
  rw [← hd2] at eq HO
  have HO2 := Lib.hid (show res = (decide (n = 0) && decide (c1 ≤ 0) && decide (c2 ≤ 0) && (!d1 || d2)) by rw [HO.out, hd1]; simp)
  clear ho hd1 hd2 HO hs hs1 hs2 hp hn' hz
  obtain ⟨⟨ax, ay⟩, ⟨bx, by1⟩⟩ := s
  obtain ⟨px, py⟩ := p
  obtain ⟨⟨rx, ry⟩, ⟨qx, qy⟩⟩ := r
  simp only [] at NR SR OR C1 C2 nq eq ⊢
  go_enter Tryz.func93, Tryz.ntmps93
  go_wp2_with fail
  have H1 := row_past (o' := .cells #[.int .i64 ax, .int .i64 ay, .int .i64 bx, .int .i64 by1, .int .i64 px, .int .i64 py] 37) (row_past (o' := .cells #[.int .i64 px, .int .i64 py] 37) (row_new w (.cells #[.int .i64 ax, .int .i64 ay, .int .i64 bx, .int .i64 by1] 39)))
  have H2 := row_past (o' := .cells #[.int .i64 ax, .int .i64 ay, .int .i64 bx, .int .i64 by1, .int .i64 px, .int .i64 py] 37) (row_new1 w (.cells #[.int .i64 ax, .int .i64 ay, .int .i64 bx, .int .i64 by1] 39) (.cells #[.int .i64 px, .int .i64 py] 37))
  have H3 := row_new2 w (.cells #[.int .i64 ax, .int .i64 ay, .int .i64 bx, .int .i64 by1] 39) (.cells #[.int .i64 px, .int .i64 py] 37) (.cells #[.int .i64 ax, .int .i64 ay, .int .i64 bx, .int .i64 by1, .int .i64 px, .int .i64 py] 37)
  refine (NR.out _ _ (RowE.of_block (l := [(ax, ay), (bx, by1), (px, py)]) encPt_len rfl H3 3 rfl)).mono ?_
  rintro e w2 ⟨rfl, hb⟩
  have B2 : Below w.heap.size w w2 := below_step (by repeat' (first | exact Below.refl _ _ | refine Below.drew ?_ | refine Below.drewN' ?_ | refine Below.setCell ?_ (by first | omega | (simp; done) | exact Below.size (by assumption) | (simp; omega)) _ | refine Below.alloc ?_ (by first | omega | (simp; done) | exact Below.size (by assumption) | (simp; omega)) _ | refine Below.trans ?_ (Below.mono (by assumption) ?_) | (first | omega | (simp; done) | exact Below.size (by assumption) | (simp; omega)))) (Nat.le_refl _) hb
  have H1 := Lib.hid (row_later hb H1)
  have H2 := Lib.hid (row_later hb H2)
  clear hb H3 NR
  have az := lt_of_block H1.out
  have a0 := cell_of_row w2 _ 0 _ _ _ H1.out
  have a1 := cell_of_row w2 _ 1 _ _ _ H1.out
  have a2 := cell_of_row w2 _ 2 _ _ _ H1.out
  have a3 := cell_of_row w2 _ 3 _ _ _ H1.out
  simp only [List.getElem?_toArray, List.getElem?_cons_zero, List.getElem?_cons_succ] at a0 a1 a2 a3
  go_wp2_with fail
  refine (SR.out _).mono ?_
  rintro e w3 ⟨rfl, hb⟩
  have B3 := below_step B2 (Nat.le_refl _) hb
  clear a0 a1 a2 a3 az
  replace H1 := Lib.hid (row_later hb H1.out)
  replace H2 := Lib.hid (row_later hb H2.out)
  clear hb B2 SR
  have az := lt_of_block H1.out
  have a0 := cell_of_row w3 _ 0 _ _ _ H1.out
  have a1 := cell_of_row w3 _ 1 _ _ _ H1.out
  have a2 := cell_of_row w3 _ 2 _ _ _ H1.out
  have a3 := cell_of_row w3 _ 3 _ _ _ H1.out
  have af0 := frozen_of_row w3 _ 0 _ _ H1.out
  have af1 := frozen_of_row w3 _ 1 _ _ H1.out
  have af2 := frozen_of_row w3 _ 2 _ _ H1.out
  have af3 := frozen_of_row w3 _ 3 _ _ H1.out
  simp only [List.getElem?_toArray, List.getElem?_cons_zero, List.getElem?_cons_succ] at a0 a1 a2 a3
  have bz := lt_of_block H2.out
  have b0 := cell_of_row w3 _ 0 _ _ _ H2.out
  have b1 := cell_of_row w3 _ 1 _ _ _ H2.out
  simp only [List.getElem?_toArray, List.getElem?_cons_zero, List.getElem?_cons_succ] at b0 b1
  go_wp2_with fail
  have hne : w.heap.size + 1 ≠ w.heap.size := by omega
  have G1 := set4_row (x := .int .i64 rx) (y := .int .i64 ry) (z := .int .i64 qx) (u := .int .i64 qy) H1.out
  have G2 := set4_other (g := w.heap.size) (x := .int .i64 rx) (y := .int .i64 ry) (z := .int .i64 qx) (u := .int .i64 qy) H2.out hne
  have B4 := set4_below (g := w.heap.size) (x := .int .i64 rx) (y := .int .i64 ry) (z := .int .i64 qx) (u := .int .i64 qy) B3 (Nat.le_refl _)
  generalize hw4 : (((w3.setCell ⟨w.heap.size, 0, none⟩ (.int .i64 rx)).setCell ⟨w.heap.size, 1, none⟩ (.int .i64 ry)).setCell ⟨w.heap.size, 2, none⟩ (.int .i64 qx)).setCell ⟨w.heap.size, 3, none⟩ (.int .i64 qy) = w4
  rw [hw4] at G1 G2 B4
  clear a0 a1 a2 a3 az af0 af1 af2 af3
  clear b0 b1 bz
  have H1 := Lib.hid G1
  have H2 := Lib.hid G2
  clear G1 G2 hw4 B3
  refine (OR.out _).mono ?_
  rintro e w5 ⟨rfl, hb⟩
  have B5 := below_step B4 (Nat.le_refl _) hb
  replace H1 := Lib.hid (row_later hb H1.out)
  replace H2 := Lib.hid (row_later hb H2.out)
  clear hb B4 OR
  by_cases h0 : o = 0
  case neg =>
    have h0d : (o == 0) = false := by rw [beq_eq_false_iff_ne]; exact h0
    have HE := Lib.hid (show res = false by
      have : n ≠ 0 := fun e => h0 (HZ.out.2 e)
      rw [HO2.out, decide_eq_false this]; rfl)
    clear h0
    go_wp2
    go_ret
    exact ⟨by rw [HE.out] <;> rfl, B5⟩
  have hn0 := HZ.out.1 h0
  subst h0
  have az := lt_of_block H1.out
  have a0 := cell_of_row w5 _ 0 _ _ _ H1.out
  have a1 := cell_of_row w5 _ 1 _ _ _ H1.out
  have a2 := cell_of_row w5 _ 2 _ _ _ H1.out
  have a3 := cell_of_row w5 _ 3 _ _ _ H1.out
  simp only [List.getElem?_toArray, List.getElem?_cons_zero, List.getElem?_cons_succ] at a0 a1 a2 a3
  have bz := lt_of_block H2.out
  have b0 := cell_of_row w5 _ 0 _ _ _ H2.out
  have b1 := cell_of_row w5 _ 1 _ _ _ H2.out
  simp only [List.getElem?_toArray, List.getElem?_cons_zero, List.getElem?_cons_succ] at b0 b1
  go_wp2_with fail
  refine (C1.out _).mono ?_
  rintro e w6 ⟨rfl, hb⟩
  have B6 := below_step B5 (Nat.le_refl _) hb
  replace H1 := Lib.hid (row_later hb H1.out)
  replace H2 := Lib.hid (row_later hb H2.out)
  clear a0 a1 a2 a3 az
  clear b0 b1 bz
  clear hb B5 C1
  by_cases h1 : c1 ≤ 0
  case neg =>
    have h1d : decide (c1 ≤ 0) = false := decide_eq_false h1
    have HE := Lib.hid (show res = false by rw [HO2.out, h1d]; simp)
    clear h1
    go_wp2
    go_ret
    exact ⟨by rw [HE.out] <;> rfl, B6⟩
  have h1d : decide (c1 ≤ 0) = true := decide_eq_true h1
  have az := lt_of_block H1.out
  have a0 := cell_of_row w6 _ 0 _ _ _ H1.out
  have a1 := cell_of_row w6 _ 1 _ _ _ H1.out
  have a2 := cell_of_row w6 _ 2 _ _ _ H1.out
  have a3 := cell_of_row w6 _ 3 _ _ _ H1.out
  simp only [List.getElem?_toArray, List.getElem?_cons_zero, List.getElem?_cons_succ] at a0 a1 a2 a3
  have bz := lt_of_block H2.out
  have b0 := cell_of_row w6 _ 0 _ _ _ H2.out
  have b1 := cell_of_row w6 _ 1 _ _ _ H2.out
  simp only [List.getElem?_toArray, List.getElem?_cons_zero, List.getElem?_cons_succ] at b0 b1
  go_wp2_with fail
  refine (C2.out _).mono ?_
  rintro e w7 ⟨rfl, hb⟩
  have B7 := below_step B6 (Nat.le_refl _) hb
  replace H1 := Lib.hid (row_later hb H1.out)
  replace H2 := Lib.hid (row_later hb H2.out)
  clear a0 a1 a2 a3 az
  clear b0 b1 bz
  clear hb B6 C2
  by_cases h2 : c2 ≤ 0
  case neg =>
    have h2d : decide (c2 ≤ 0) = false := decide_eq_false h2
    have HE := Lib.hid (show res = false by rw [HO2.out, h2d]; simp)
    clear h2
    go_wp2
    go_ret
    exact ⟨by rw [HE.out] <;> rfl, B7⟩
  have h2d : decide (c2 ≤ 0) = true := decide_eq_true h2
  have HE2 := Lib.hid (show res = (!d1 || d2) by rw [HO2.out, h1d, h2d, decide_eq_true hn0]; rfl)
  have az := lt_of_block H1.out
  have a0 := cell_of_row w7 _ 0 _ _ _ H1.out
  have a1 := cell_of_row w7 _ 1 _ _ _ H1.out
  have a2 := cell_of_row w7 _ 2 _ _ _ H1.out
  have a3 := cell_of_row w7 _ 3 _ _ _ H1.out
  simp only [List.getElem?_toArray, List.getElem?_cons_zero, List.getElem?_cons_succ] at a0 a1 a2 a3
  have bz := lt_of_block H2.out
  have b0 := cell_of_row w7 _ 0 _ _ _ H2.out
  have b1 := cell_of_row w7 _ 1 _ _ _ H2.out
  simp only [List.getElem?_toArray, List.getElem?_cons_zero, List.getElem?_cons_succ] at b0 b1
  cases d1 with
  | false =>
    have HE := Lib.hid (show res = true by rw [HE2.out]; rfl)
    clear hn0
    go_wp2
    go_ret
    exact ⟨by rw [HE.out] <;> rfl, B7⟩
  | true =>
    have HE := Lib.hid (show res = d2 by rw [HE2.out]; rfl)
    clear hn0
    go_wp2
    go_ret
    exact ⟨by rw [HE.out] <;> rfl, B7⟩
end Go.Proofs.YtbkomdinchiffaaGreat

namespace Go.Proofs.YtbkomdinchiffaaGreat
open Go.RowKit

def lineB (x y : Sg) : Int :=
  if x.1 = x.2 then (if !onQ y x.1 then 0 else if x.1 = y.1 ∨ x.1 = y.2 then 1 else 2)
  else
    let low := if 0 < lexC y.1 x.1 then y.1 else x.1
    let high := if lexC y.2 x.2 < 0 then y.2 else x.2
    if lexC low high = -1 then 5 else if lexC low high = 0 then 1 else 0
theorem lineQ_B (s t : Sg) : lineQ s t = if t.1 = t.2 then lineB t s else lineB s t := by
  unfold lineQ lineB
  by_cases h : t.1 = t.2 <;> simp [h]

set_option maxRecDepth 100000 in
set_option maxHeartbeats 4000000 in
theorem online_any (s t : Sg) (hs : nearS s = true) (ht : nearS t = true) (w : World) :
    Calls Tryz.prog 57 #[sgV s, sgV t] w fun e w' => e = .returned (.int .i64 (lineQ s t)) ∧ Below w.heap.size w w' := by
  have mixed : Tryz.prog.follows .mixedOrders = true := by kernel_rfl
  have hs1 : nearQ s.1 = true := by unfold nearS at hs; rw [Bool.and_eq_true] at hs; exact hs.1
  have ht1 : nearQ t.1 = true := by unfold nearS at ht; rw [Bool.and_eq_true] at ht; exact ht.1
  have O1 := Lib.hid (fun w => on_any' s t.1 hs ht1 w)
  have O2 := Lib.hid (fun w => on_any' t s.1 ht hs1 w)
  have CC := Lib.hid (fun p q w => gcomp_any p q w)
  have HLQ := Lib.hid (lineQ_B s t)
  clear hs ht hs1 ht1
  obtain ⟨⟨ax, ay⟩, ⟨bx, by1⟩⟩ := s
  obtain ⟨⟨cx, cy⟩, ⟨dx, dy⟩⟩ := t
  have eqg := eg37
  have eq0 := eql_point (cx, cy) (dx, dy)
  obtain ⟨d0, hd0⟩ : ∃ z, z = decide (((cx, cy) : Pt) = (dx, dy)) := ⟨_, rfl⟩
  rw [← hd0] at eq0
  have HD0 := Lib.hid hd0
  clear hd0
  simp only [] at O1 O2 eq0 HLQ ⊢
  generalize lineQ ((ax, ay), (bx, by1)) ((cx, cy), (dx, dy)) = lq at HLQ ⊢
  go_enter Tryz.func57, Tryz.ntmps57
  have H1 := Lib.hid (row_past (o' := .cells #[.int .i64 cx, .int .i64 cy, .int .i64 dx, .int .i64 dy] 39) (row_new w (.cells #[.int .i64 ax, .int .i64 ay, .int .i64 bx, .int .i64 by1] 39)))
  have H2 := Lib.hid (row_new1 w (.cells #[.int .i64 ax, .int .i64 ay, .int .i64 bx, .int .i64 by1] 39) (.cells #[.int .i64 cx, .int .i64 cy, .int .i64 dx, .int .i64 dy] 39))
  have B2 : Below w.heap.size w ((w.alloc (.cells #[.int .i64 ax, .int .i64 ay, .int .i64 bx, .int .i64 by1] 39)).alloc (.cells #[.int .i64 cx, .int .i64 cy, .int .i64 dx, .int .i64 dy] 39)) := (by repeat' (first | exact Below.refl _ _ | refine Below.drew ?_ | refine Below.drewN' ?_ | refine Below.setCell ?_ (by first | omega | (simp; done) | exact Below.size (by assumption) | (simp; omega)) _ | refine Below.alloc ?_ (by first | omega | (simp; done) | exact Below.size (by assumption) | (simp; omega)) _ | refine Below.trans ?_ (Below.mono (by assumption) ?_) | (first | omega | (simp; done) | exact Below.size (by assumption) | (simp; omega))))
  cases d0 with
  | true =>
    have hx := of_decide_eq_true HD0.out.symm
    have HLB := Lib.hid (show lq = lineB ((cx, cy), (dx, dy)) ((ax, ay), (bx, by1)) by rw [HLQ.out, if_pos hx])
    clear hx HLQ
    go_upto_region 3 with fail
    clear H1 H2 B2
    have H1 := Lib.hid (row_past (o' := .cells #[.int .i64 ax, .int .i64 ay, .int .i64 bx, .int .i64 by1] 39) (row_new w (.cells #[.int .i64 cx, .int .i64 cy, .int .i64 dx, .int .i64 dy] 39)))
    have H2 := Lib.hid (row_new1 w (.cells #[.int .i64 cx, .int .i64 cy, .int .i64 dx, .int .i64 dy] 39) (.cells #[.int .i64 ax, .int .i64 ay, .int .i64 bx, .int .i64 by1] 39))
    have B3 : Below w.heap.size w ((w.alloc (.cells #[.int .i64 cx, .int .i64 cy, .int .i64 dx, .int .i64 dy] 39)).alloc (.cells #[.int .i64 ax, .int .i64 ay, .int .i64 bx, .int .i64 by1] 39)) := (by repeat' (first | exact Below.refl _ _ | refine Below.drew ?_ | refine Below.drewN' ?_ | refine Below.setCell ?_ (by first | omega | (simp; done) | exact Below.size (by assumption) | (simp; omega)) _ | refine Below.alloc ?_ (by first | omega | (simp; done) | exact Below.size (by assumption) | (simp; omega)) _ | refine Below.trans ?_ (Below.mono (by assumption) ?_) | (first | omega | (simp; done) | exact Below.size (by assumption) | (simp; omega))))
    generalize hw3 : (w.alloc (.cells #[.int .i64 cx, .int .i64 cy, .int .i64 dx, .int .i64 dy] 39)).alloc (.cells #[.int .i64 ax, .int .i64 ay, .int .i64 bx, .int .i64 by1] 39) = w3
    rw [hw3] at H1 H2 B3
    have hzz : w.heap.size + 2 ≤ w3.heap.size := by rw [← hw3]; simp
    clear hw3 eq0
    have HR := HLB.out
    clear HLB
    unfold lineB at HR
    simp only [] at HR
    obtain ⟨d1, hd1⟩ : ∃ z, z = decide (((cx, cy) : Pt) = (dx, dy)) := ⟨_, rfl⟩
    have eq1 := eql_point (cx, cy) (dx, dy)
    rw [← hd1] at eq1
    simp only [] at eq1
    have HD1 := Lib.hid hd1
    have HR := Lib.hid HR
    clear hd1
    have az := lt_of_block H1.out
    have a0 := cell_of_row w3 _ 0 _ _ _ H1.out
    have a1 := cell_of_row w3 _ 1 _ _ _ H1.out
    have a2 := cell_of_row w3 _ 2 _ _ _ H1.out
    have a3 := cell_of_row w3 _ 3 _ _ _ H1.out
    simp only [List.getElem?_toArray, List.getElem?_cons_zero, List.getElem?_cons_succ] at a0 a1 a2 a3
    have bz := lt_of_block H2.out
    have b0 := cell_of_row w3 _ 0 _ _ _ H2.out
    have b1 := cell_of_row w3 _ 1 _ _ _ H2.out
    have b2 := cell_of_row w3 _ 2 _ _ _ H2.out
    have b3 := cell_of_row w3 _ 3 _ _ _ H2.out
    simp only [List.getElem?_toArray, List.getElem?_cons_zero, List.getElem?_cons_succ] at b0 b1 b2 b3
    cases d1 with
    | true =>
      have HR2 := Lib.hid (HR.out.trans (if_pos (of_decide_eq_true HD1.out.symm)))
      go_wp2_with fail
      refine (O1.out _).mono ?_
      rintro e w4 ⟨rfl, hb⟩
      have B4 := below_step B3 (Nat.le_refl _) hb
      replace H1 := Lib.hid (row_later hb H1.out)
      replace H2 := Lib.hid (row_later hb H2.out)
      clear a0 a1 a2 a3 az
      clear b0 b1 b2 b3 bz
      clear hb B3 HR
      obtain ⟨ob, hob⟩ : ∃ z, z = onQ ((ax, ay), (bx, by1)) (cx, cy) := ⟨_, rfl⟩
      have HR3 := HR2.out
      rw [← hob] at HR3 ⊢
      clear hob HR2
      cases ob with
      | false =>
        have HE := Lib.hid (show lq = 0 from HR3)
        clear HR3
        go_wp2
        go_ret
        exact ⟨by rw [HE.out] <;> rfl, B4⟩
      | true =>
        obtain ⟨d2, hd2⟩ : ∃ z, z = decide (((cx, cy) : Pt) = (ax, ay)) := ⟨_, rfl⟩
        obtain ⟨d3, hd3⟩ : ∃ z, z = decide (((cx, cy) : Pt) = (bx, by1)) := ⟨_, rfl⟩
        have eq2 := eql_point (cx, cy) (ax, ay)
        have eq3 := eql_point (cx, cy) (bx, by1)
        rw [← hd2] at eq2
        rw [← hd3] at eq3
        simp only [] at eq2 eq3
        have HR4 := Lib.hid (show lq = if d2 || d3 then 1 else 2 by rw [HR3, hd2, hd3]; simp)
        clear hd2 hd3 HR3
        have az := lt_of_block H1.out
        have a0 := cell_of_row w4 _ 0 _ _ _ H1.out
        have a1 := cell_of_row w4 _ 1 _ _ _ H1.out
        have a2 := cell_of_row w4 _ 2 _ _ _ H1.out
        have a3 := cell_of_row w4 _ 3 _ _ _ H1.out
        simp only [List.getElem?_toArray, List.getElem?_cons_zero, List.getElem?_cons_succ] at a0 a1 a2 a3
        have bz := lt_of_block H2.out
        have b0 := cell_of_row w4 _ 0 _ _ _ H2.out
        have b1 := cell_of_row w4 _ 1 _ _ _ H2.out
        have b2 := cell_of_row w4 _ 2 _ _ _ H2.out
        have b3 := cell_of_row w4 _ 3 _ _ _ H2.out
        simp only [List.getElem?_toArray, List.getElem?_cons_zero, List.getElem?_cons_succ] at b0 b1 b2 b3
        cases d2 with
        | true =>
          have HE := Lib.hid (show lq = 1 from HR4.out)
          go_wp2
          go_ret
          exact ⟨by rw [HE.out] <;> rfl, B4⟩
        | false =>
          cases d3 with
          | true =>
            have HE := Lib.hid (show lq = 1 from HR4.out)
            go_wp2
            go_ret
            exact ⟨by rw [HE.out] <;> rfl, B4⟩
          | false =>
            have HE := Lib.hid (show lq = 2 from HR4.out)
            go_wp2
            go_ret
            exact ⟨by rw [HE.out] <;> rfl, B4⟩
    | false =>
      have HR2 := Lib.hid (HR.out.trans (if_neg (of_decide_eq_false HD1.out.symm)))
      clear HR
      go_upto_region 9 with fail
      go_cut [5, 6] from 38 to 41 (fun v5 v6 wx => ∃ g h : Nat, v5 = .pointer (some ⟨g, 0, none⟩) ∧ v6 = .pointer (some ⟨h, 0, none⟩) ∧ w3.heap.size ≤ g ∧ w3.heap.size ≤ h ∧ g ≠ h ∧ wx.heap[g]? = some (.cells #[.int .i64 cx, .int .i64 cy] 37) ∧ wx.heap[h]? = some (.cells #[.int .i64 dx, .int .i64 dy] 37) ∧ Below w3.heap.size w3 wx)
      case first =>
        go_region
        all_goals (
          go_wp2
          go_meet
          case rel => first
            | exact ⟨_, _, rfl, rfl, Nat.le_refl _, by omega, by omega, row_past (row_new w3 (.cells #[.int .i64 cx, .int .i64 cy] 37)), row_new1 w3 (.cells #[.int .i64 cx, .int .i64 cy] 37) (.cells #[.int .i64 dx, .int .i64 dy] 37), (by repeat' (first | exact Below.refl _ _ | refine Below.drew ?_ | refine Below.drewN' ?_ | refine Below.setCell ?_ (by first | omega | (simp; done) | exact Below.size (by assumption) | (simp; omega)) _ | refine Below.alloc ?_ (by first | omega | (simp; done) | exact Below.size (by assumption) | (simp; omega)) _ | refine Below.trans ?_ (Below.mono (by assumption) ?_) | (first | omega | (simp; done) | exact Below.size (by assumption) | (simp; omega))))⟩
            | exact ⟨_, _, rfl, rfl, by omega, Nat.le_refl _, by omega, row_new1 w3 (.cells #[.int .i64 dx, .int .i64 dy] 37) (.cells #[.int .i64 cx, .int .i64 cy] 37), row_past (row_new w3 (.cells #[.int .i64 dx, .int .i64 dy] 37)), (by repeat' (first | exact Below.refl _ _ | refine Below.drew ?_ | refine Below.drewN' ?_ | refine Below.setCell ?_ (by first | omega | (simp; done) | exact Below.size (by assumption) | (simp; omega)) _ | refine Below.alloc ?_ (by first | omega | (simp; done) | exact Below.size (by assumption) | (simp; omega)) _ | refine Below.trans ?_ (Below.mono (by assumption) ?_) | (first | omega | (simp; done) | exact Below.size (by assumption) | (simp; omega))))⟩)
      case rest =>
        obtain ⟨g, h, rfl, rfl, hg, hh, hne, HG, HH, hbc⟩ := hcut
        have HG := Lib.hid HG
        have HH := Lib.hid HH
        have BC := below_step B3 (Nat.le_refl _) hbc
        have hz3 := B3.size
        have hne' : h ≠ g := fun e => hne e.symm
        clear a0 a1 a2 a3 az
        clear b0 b1 b2 b3 bz
        replace H1 := Lib.hid (row_later hbc H1.out)
        replace H2 := Lib.hid (row_later hbc H2.out)
        clear hbc B3
        have bz := lt_of_block H2.out
        have b0 := cell_of_row wc _ 0 _ _ _ H2.out
        have b1 := cell_of_row wc _ 1 _ _ _ H2.out
        have b2 := cell_of_row wc _ 2 _ _ _ H2.out
        have b3 := cell_of_row wc _ 3 _ _ _ H2.out
        simp only [List.getElem?_toArray, List.getElem?_cons_zero, List.getElem?_cons_succ] at b0 b1 b2 b3
        have gz := lt_of_block HG.out
        have g0 := cell_of_row wc _ 0 _ _ _ HG.out
        have g1 := cell_of_row wc _ 1 _ _ _ HG.out
        have gf0 := frozen_of_row wc _ 0 _ _ HG.out
        have gf1 := frozen_of_row wc _ 1 _ _ HG.out
        simp only [List.getElem?_toArray, List.getElem?_cons_zero, List.getElem?_cons_succ] at g0 g1
        go_wp2_with fail
        refine (CC.out (ax, ay) (cx, cy) _).mono ?_
        rintro e w5 ⟨rfl, hb⟩
        have B5 := below_step BC (Nat.le_refl _) hb
        replace H1 := Lib.hid (row_later hb H1.out)
        replace H2 := Lib.hid (row_later hb H2.out)
        replace HG := Lib.hid (row_later hb HG.out)
        replace HH := Lib.hid (row_later hb HH.out)
        clear b0 b1 b2 b3 bz
        clear g0 g1 gz gf0 gf1
        clear hb BC
        obtain ⟨c1, hc1⟩ : ∃ z, z = lexC (ax, ay) (cx, cy) := ⟨_, rfl⟩
        have HR3 := HR2.out
        rw [← hc1] at HR3 ⊢
        clear hc1 HR2
        by_cases e1 : 0 < c1
        · have e1d : decide (0 < c1) = true := decide_eq_true e1
          rw [if_pos e1] at HR3
          have HR3 := Lib.hid HR3
          clear e1
          have bz := lt_of_block H2.out
          have b0 := cell_of_row w5 _ 0 _ _ _ H2.out
          have b1 := cell_of_row w5 _ 1 _ _ _ H2.out
          have b2 := cell_of_row w5 _ 2 _ _ _ H2.out
          have b3 := cell_of_row w5 _ 3 _ _ _ H2.out
          simp only [List.getElem?_toArray, List.getElem?_cons_zero, List.getElem?_cons_succ] at b0 b1 b2 b3
          have gz := lt_of_block HG.out
          have g0 := cell_of_row w5 _ 0 _ _ _ HG.out
          have g1 := cell_of_row w5 _ 1 _ _ _ HG.out
          have gf0 := frozen_of_row w5 _ 0 _ _ HG.out
          have gf1 := frozen_of_row w5 _ 1 _ _ HG.out
          simp only [List.getElem?_toArray, List.getElem?_cons_zero, List.getElem?_cons_succ] at g0 g1
          go_upto_region 12 with fail
          have GA := row_set (i := 1) (v := .int .i64 ay) (row_set (i := 0) (v := .int .i64 ax) HG.out)
          simp only [List.setIfInBounds_toArray, List.set_cons_zero, List.set_cons_succ] at GA
          have GB := row_set_other (a := ⟨g, 1, none⟩) (v := .int .i64 ay) (row_set_other (a := ⟨g, 0, none⟩) (v := .int .i64 ax) HH.out (by simp only; omega)) (by simp only; omega)
          have GC := row_set_other (a := ⟨g, 1, none⟩) (v := .int .i64 ay) (row_set_other (a := ⟨g, 0, none⟩) (v := .int .i64 ax) H2.out (by simp only; omega)) (by simp only; omega)
          have BM := (B5.setCell (p := ⟨g, 0, none⟩) (by simp only; omega) (.int .i64 ax)).setCell (p := ⟨g, 1, none⟩) (by simp only; omega) (.int .i64 ay)
          generalize hw6 : (w5.setCell ⟨g, 0, none⟩ (.int .i64 ax)).setCell ⟨g, 1, none⟩ (.int .i64 ay) = w6
          rw [hw6] at GA GB GC BM
          clear b0 b1 b2 b3 bz
          clear g0 g1 gz gf0 gf1
          clear hw6 H1 H2 HG HH B5
          have HG := Lib.hid GA
          have HH := Lib.hid GB
          have H2 := Lib.hid GC
          clear GA GB GC
          -- X.2 = (dx, dy), Y.2 = (bx, by1); low (ax, ay); rows HG, HH, H1, H2 of world w6; BM
          have bz := lt_of_block H2.out
          have b0 := cell_of_row w6 _ 0 _ _ _ H2.out
          have b1 := cell_of_row w6 _ 1 _ _ _ H2.out
          have b2 := cell_of_row w6 _ 2 _ _ _ H2.out
          have b3 := cell_of_row w6 _ 3 _ _ _ H2.out
          simp only [List.getElem?_toArray, List.getElem?_cons_zero, List.getElem?_cons_succ] at b0 b1 b2 b3
          have hz := lt_of_block HH.out
          have h0 := cell_of_row w6 _ 0 _ _ _ HH.out
          have h1 := cell_of_row w6 _ 1 _ _ _ HH.out
          have hf0 := frozen_of_row w6 _ 0 _ _ HH.out
          have hf1 := frozen_of_row w6 _ 1 _ _ HH.out
          simp only [List.getElem?_toArray, List.getElem?_cons_zero, List.getElem?_cons_succ] at h0 h1
          go_wp2_with fail
          refine (CC.out (bx, by1) (dx, dy) _).mono ?_
          rintro e w7 ⟨rfl, hb⟩
          have B7 := below_step BM (Nat.le_refl _) hb
          replace H2 := Lib.hid (row_later hb H2.out)
          replace HG := Lib.hid (row_later hb HG.out)
          replace HH := Lib.hid (row_later hb HH.out)
          clear b0 b1 b2 b3 bz
          clear h0 h1 hz hf0 hf1
          clear hb BM
          obtain ⟨c2, hc2⟩ : ∃ z, z = lexC (bx, by1) (dx, dy) := ⟨_, rfl⟩
          have HR4 := HR3.out
          rw [← hc2] at HR4 ⊢
          clear hc2 HR3
          by_cases e2 : c2 < 0
          · have e2d : decide (c2 < 0) = true := decide_eq_true e2
            have HR5 := Lib.hid (show lq = if lexC (ax, ay) (bx, by1) = -1 then 5 else if lexC (ax, ay) (bx, by1) = 0 then 1 else 0 by rw [HR4, if_pos e2])
            clear e2 HR4
            have bz := lt_of_block H2.out
            have b0 := cell_of_row w7 _ 0 _ _ _ H2.out
            have b1 := cell_of_row w7 _ 1 _ _ _ H2.out
            have b2 := cell_of_row w7 _ 2 _ _ _ H2.out
            have b3 := cell_of_row w7 _ 3 _ _ _ H2.out
            simp only [List.getElem?_toArray, List.getElem?_cons_zero, List.getElem?_cons_succ] at b0 b1 b2 b3
            have hz := lt_of_block HH.out
            have h0 := cell_of_row w7 _ 0 _ _ _ HH.out
            have h1 := cell_of_row w7 _ 1 _ _ _ HH.out
            have hf0 := frozen_of_row w7 _ 0 _ _ HH.out
            have hf1 := frozen_of_row w7 _ 1 _ _ HH.out
            simp only [List.getElem?_toArray, List.getElem?_cons_zero, List.getElem?_cons_succ] at h0 h1
            go_upto_region 14 with fail
            have GA := row_set (i := 1) (v := .int .i64 by1) (row_set (i := 0) (v := .int .i64 bx) HH.out)
            simp only [List.setIfInBounds_toArray, List.set_cons_zero, List.set_cons_succ] at GA
            have GB := row_set_other (a := ⟨h, 1, none⟩) (v := .int .i64 by1) (row_set_other (a := ⟨h, 0, none⟩) (v := .int .i64 bx) HG.out (by simp only; omega)) (by simp only; omega)
            have B8 := (B7.setCell (p := ⟨h, 0, none⟩) (by simp only; omega) (.int .i64 bx)).setCell (p := ⟨h, 1, none⟩) (by simp only; omega) (.int .i64 by1)
            generalize hw8 : (w7.setCell ⟨h, 0, none⟩ (.int .i64 bx)).setCell ⟨h, 1, none⟩ (.int .i64 by1) = w8
            rw [hw8] at GA GB B8
            clear hw8 HG HH
            clear b0 b1 b2 b3 bz
            clear h0 h1 hz hf0 hf1
            have HG := Lib.hid GB
            have HH := Lib.hid GA
            clear GA GB
            -- low (ax, ay) in row HG, high (bx, by1) in row HH of world w8; B8 : Below w ..
            have gz := lt_of_block HG.out
            have g0 := cell_of_row w8 _ 0 _ _ _ HG.out
            have g1 := cell_of_row w8 _ 1 _ _ _ HG.out
            simp only [List.getElem?_toArray, List.getElem?_cons_zero, List.getElem?_cons_succ] at g0 g1
            have hz := lt_of_block HH.out
            have h0 := cell_of_row w8 _ 0 _ _ _ HH.out
            have h1 := cell_of_row w8 _ 1 _ _ _ HH.out
            simp only [List.getElem?_toArray, List.getElem?_cons_zero, List.getElem?_cons_succ] at h0 h1
            go_wp2_with fail
            refine (CC.out (ax, ay) (bx, by1) _).mono ?_
            rintro e w9 ⟨rfl, hb⟩
            have B9 := below_step B8 (Nat.le_refl _) hb
            obtain ⟨c3, hc3⟩ : ∃ z, z = lexC (ax, ay) (bx, by1) := ⟨_, rfl⟩
            have HR6 := HR5.out
            rw [← hc3] at HR6 ⊢
            clear hc3 HR5 hb
            by_cases e1 : c3 = -1
            · have e1d : (c3 == -1) = true := by rw [beq_iff_eq]; exact e1
              have HE := Lib.hid (show lq = 5 by rw [HR6, if_pos e1])
              clear e1 HR6
              go_wp2
              go_ret
              exact ⟨by rw [HE.out] <;> rfl, B9⟩
            · have e1d : (c3 == -1) = false := by rw [beq_eq_false_iff_ne]; exact e1
              by_cases e2 : c3 = 0
              · have e2d : (c3 == 0) = true := by rw [beq_iff_eq]; exact e2
                have HE := Lib.hid (show lq = 1 by rw [HR6, if_neg e1, if_pos e2])
                clear e1 e2 HR6
                go_wp2
                go_ret
                exact ⟨by rw [HE.out] <;> rfl, B9⟩
              · have e2d : (c3 == 0) = false := by rw [beq_eq_false_iff_ne]; exact e2
                have HE := Lib.hid (show lq = 0 by rw [HR6, if_neg e1, if_neg e2])
                clear e1 e2 HR6
                go_wp2
                go_ret
                exact ⟨by rw [HE.out] <;> rfl, B9⟩
          · have e2d : decide (c2 < 0) = false := decide_eq_false e2
            have HR5 := Lib.hid (show lq = if lexC (ax, ay) (dx, dy) = -1 then 5 else if lexC (ax, ay) (dx, dy) = 0 then 1 else 0 by rw [HR4, if_neg e2])
            clear e2 HR4
            -- low (ax, ay) in row HG, high (dx, dy) in row HH of world w7; B7 : Below w ..
            have gz := lt_of_block HG.out
            have g0 := cell_of_row w7 _ 0 _ _ _ HG.out
            have g1 := cell_of_row w7 _ 1 _ _ _ HG.out
            simp only [List.getElem?_toArray, List.getElem?_cons_zero, List.getElem?_cons_succ] at g0 g1
            have hz := lt_of_block HH.out
            have h0 := cell_of_row w7 _ 0 _ _ _ HH.out
            have h1 := cell_of_row w7 _ 1 _ _ _ HH.out
            simp only [List.getElem?_toArray, List.getElem?_cons_zero, List.getElem?_cons_succ] at h0 h1
            go_wp2_with fail
            refine (CC.out (ax, ay) (dx, dy) _).mono ?_
            rintro e w9 ⟨rfl, hb⟩
            have B9 := below_step B7 (Nat.le_refl _) hb
            obtain ⟨c3, hc3⟩ : ∃ z, z = lexC (ax, ay) (dx, dy) := ⟨_, rfl⟩
            have HR6 := HR5.out
            rw [← hc3] at HR6 ⊢
            clear hc3 HR5 hb
            by_cases e1 : c3 = -1
            · have e1d : (c3 == -1) = true := by rw [beq_iff_eq]; exact e1
              have HE := Lib.hid (show lq = 5 by rw [HR6, if_pos e1])
              clear e1 HR6
              go_wp2
              go_ret
              exact ⟨by rw [HE.out] <;> rfl, B9⟩
            · have e1d : (c3 == -1) = false := by rw [beq_eq_false_iff_ne]; exact e1
              by_cases e2 : c3 = 0
              · have e2d : (c3 == 0) = true := by rw [beq_iff_eq]; exact e2
                have HE := Lib.hid (show lq = 1 by rw [HR6, if_neg e1, if_pos e2])
                clear e1 e2 HR6
                go_wp2
                go_ret
                exact ⟨by rw [HE.out] <;> rfl, B9⟩
              · have e2d : (c3 == 0) = false := by rw [beq_eq_false_iff_ne]; exact e2
                have HE := Lib.hid (show lq = 0 by rw [HR6, if_neg e1, if_neg e2])
                clear e1 e2 HR6
                go_wp2
                go_ret
                exact ⟨by rw [HE.out] <;> rfl, B9⟩
        · have e1d : decide (0 < c1) = false := decide_eq_false e1
          rw [if_neg e1] at HR3
          have HR3 := Lib.hid HR3
          have BM := B5
          clear e1 B5
          -- X.2 = (dx, dy), Y.2 = (bx, by1); low (cx, cy); rows HG, HH, H1, H2 of world w5; BM
          have bz := lt_of_block H2.out
          have b0 := cell_of_row w5 _ 0 _ _ _ H2.out
          have b1 := cell_of_row w5 _ 1 _ _ _ H2.out
          have b2 := cell_of_row w5 _ 2 _ _ _ H2.out
          have b3 := cell_of_row w5 _ 3 _ _ _ H2.out
          simp only [List.getElem?_toArray, List.getElem?_cons_zero, List.getElem?_cons_succ] at b0 b1 b2 b3
          have hz := lt_of_block HH.out
          have h0 := cell_of_row w5 _ 0 _ _ _ HH.out
          have h1 := cell_of_row w5 _ 1 _ _ _ HH.out
          have hf0 := frozen_of_row w5 _ 0 _ _ HH.out
          have hf1 := frozen_of_row w5 _ 1 _ _ HH.out
          simp only [List.getElem?_toArray, List.getElem?_cons_zero, List.getElem?_cons_succ] at h0 h1
          go_wp2_with fail
          refine (CC.out (bx, by1) (dx, dy) _).mono ?_
          rintro e w7 ⟨rfl, hb⟩
          have B7 := below_step BM (Nat.le_refl _) hb
          replace H2 := Lib.hid (row_later hb H2.out)
          replace HG := Lib.hid (row_later hb HG.out)
          replace HH := Lib.hid (row_later hb HH.out)
          clear b0 b1 b2 b3 bz
          clear h0 h1 hz hf0 hf1
          clear hb BM
          obtain ⟨c2, hc2⟩ : ∃ z, z = lexC (bx, by1) (dx, dy) := ⟨_, rfl⟩
          have HR4 := HR3.out
          rw [← hc2] at HR4 ⊢
          clear hc2 HR3
          by_cases e2 : c2 < 0
          · have e2d : decide (c2 < 0) = true := decide_eq_true e2
            have HR5 := Lib.hid (show lq = if lexC (cx, cy) (bx, by1) = -1 then 5 else if lexC (cx, cy) (bx, by1) = 0 then 1 else 0 by rw [HR4, if_pos e2])
            clear e2 HR4
            have bz := lt_of_block H2.out
            have b0 := cell_of_row w7 _ 0 _ _ _ H2.out
            have b1 := cell_of_row w7 _ 1 _ _ _ H2.out
            have b2 := cell_of_row w7 _ 2 _ _ _ H2.out
            have b3 := cell_of_row w7 _ 3 _ _ _ H2.out
            simp only [List.getElem?_toArray, List.getElem?_cons_zero, List.getElem?_cons_succ] at b0 b1 b2 b3
            have hz := lt_of_block HH.out
            have h0 := cell_of_row w7 _ 0 _ _ _ HH.out
            have h1 := cell_of_row w7 _ 1 _ _ _ HH.out
            have hf0 := frozen_of_row w7 _ 0 _ _ HH.out
            have hf1 := frozen_of_row w7 _ 1 _ _ HH.out
            simp only [List.getElem?_toArray, List.getElem?_cons_zero, List.getElem?_cons_succ] at h0 h1
            go_upto_region 14 with fail
            have GA := row_set (i := 1) (v := .int .i64 by1) (row_set (i := 0) (v := .int .i64 bx) HH.out)
            simp only [List.setIfInBounds_toArray, List.set_cons_zero, List.set_cons_succ] at GA
            have GB := row_set_other (a := ⟨h, 1, none⟩) (v := .int .i64 by1) (row_set_other (a := ⟨h, 0, none⟩) (v := .int .i64 bx) HG.out (by simp only; omega)) (by simp only; omega)
            have B8 := (B7.setCell (p := ⟨h, 0, none⟩) (by simp only; omega) (.int .i64 bx)).setCell (p := ⟨h, 1, none⟩) (by simp only; omega) (.int .i64 by1)
            generalize hw8 : (w7.setCell ⟨h, 0, none⟩ (.int .i64 bx)).setCell ⟨h, 1, none⟩ (.int .i64 by1) = w8
            rw [hw8] at GA GB B8
            clear hw8 HG HH
            clear b0 b1 b2 b3 bz
            clear h0 h1 hz hf0 hf1
            have HG := Lib.hid GB
            have HH := Lib.hid GA
            clear GA GB
            -- low (cx, cy) in row HG, high (bx, by1) in row HH of world w8; B8 : Below w ..
            have gz := lt_of_block HG.out
            have g0 := cell_of_row w8 _ 0 _ _ _ HG.out
            have g1 := cell_of_row w8 _ 1 _ _ _ HG.out
            simp only [List.getElem?_toArray, List.getElem?_cons_zero, List.getElem?_cons_succ] at g0 g1
            have hz := lt_of_block HH.out
            have h0 := cell_of_row w8 _ 0 _ _ _ HH.out
            have h1 := cell_of_row w8 _ 1 _ _ _ HH.out
            simp only [List.getElem?_toArray, List.getElem?_cons_zero, List.getElem?_cons_succ] at h0 h1
            go_wp2_with fail
            refine (CC.out (cx, cy) (bx, by1) _).mono ?_
            rintro e w9 ⟨rfl, hb⟩
            have B9 := below_step B8 (Nat.le_refl _) hb
            obtain ⟨c3, hc3⟩ : ∃ z, z = lexC (cx, cy) (bx, by1) := ⟨_, rfl⟩
            have HR6 := HR5.out
            rw [← hc3] at HR6 ⊢
            clear hc3 HR5 hb
            by_cases e1 : c3 = -1
            · have e1d : (c3 == -1) = true := by rw [beq_iff_eq]; exact e1
              have HE := Lib.hid (show lq = 5 by rw [HR6, if_pos e1])
              clear e1 HR6
              go_wp2
              go_ret
              exact ⟨by rw [HE.out] <;> rfl, B9⟩
            · have e1d : (c3 == -1) = false := by rw [beq_eq_false_iff_ne]; exact e1
              by_cases e2 : c3 = 0
              · have e2d : (c3 == 0) = true := by rw [beq_iff_eq]; exact e2
                have HE := Lib.hid (show lq = 1 by rw [HR6, if_neg e1, if_pos e2])
                clear e1 e2 HR6
                go_wp2
                go_ret
                exact ⟨by rw [HE.out] <;> rfl, B9⟩
              · have e2d : (c3 == 0) = false := by rw [beq_eq_false_iff_ne]; exact e2
                have HE := Lib.hid (show lq = 0 by rw [HR6, if_neg e1, if_neg e2])
                clear e1 e2 HR6
                go_wp2
                go_ret
                exact ⟨by rw [HE.out] <;> rfl, B9⟩
          · have e2d : decide (c2 < 0) = false := decide_eq_false e2
            have HR5 := Lib.hid (show lq = if lexC (cx, cy) (dx, dy) = -1 then 5 else if lexC (cx, cy) (dx, dy) = 0 then 1 else 0 by rw [HR4, if_neg e2])
            clear e2 HR4
            -- low (cx, cy) in row HG, high (dx, dy) in row HH of world w7; B7 : Below w ..
            have gz := lt_of_block HG.out
            have g0 := cell_of_row w7 _ 0 _ _ _ HG.out
            have g1 := cell_of_row w7 _ 1 _ _ _ HG.out
            simp only [List.getElem?_toArray, List.getElem?_cons_zero, List.getElem?_cons_succ] at g0 g1
            have hz := lt_of_block HH.out
            have h0 := cell_of_row w7 _ 0 _ _ _ HH.out
            have h1 := cell_of_row w7 _ 1 _ _ _ HH.out
            simp only [List.getElem?_toArray, List.getElem?_cons_zero, List.getElem?_cons_succ] at h0 h1
            go_wp2_with fail
            refine (CC.out (cx, cy) (dx, dy) _).mono ?_
            rintro e w9 ⟨rfl, hb⟩
            have B9 := below_step B7 (Nat.le_refl _) hb
            obtain ⟨c3, hc3⟩ : ∃ z, z = lexC (cx, cy) (dx, dy) := ⟨_, rfl⟩
            have HR6 := HR5.out
            rw [← hc3] at HR6 ⊢
            clear hc3 HR5 hb
            by_cases e1 : c3 = -1
            · have e1d : (c3 == -1) = true := by rw [beq_iff_eq]; exact e1
              have HE := Lib.hid (show lq = 5 by rw [HR6, if_pos e1])
              clear e1 HR6
              go_wp2
              go_ret
              exact ⟨by rw [HE.out] <;> rfl, B9⟩
            · have e1d : (c3 == -1) = false := by rw [beq_eq_false_iff_ne]; exact e1
              by_cases e2 : c3 = 0
              · have e2d : (c3 == 0) = true := by rw [beq_iff_eq]; exact e2
                have HE := Lib.hid (show lq = 1 by rw [HR6, if_neg e1, if_pos e2])
                clear e1 e2 HR6
                go_wp2
                go_ret
                exact ⟨by rw [HE.out] <;> rfl, B9⟩
              · have e2d : (c3 == 0) = false := by rw [beq_eq_false_iff_ne]; exact e2
                have HE := Lib.hid (show lq = 0 by rw [HR6, if_neg e1, if_neg e2])
                clear e1 e2 HR6
                go_wp2
                go_ret
                exact ⟨by rw [HE.out] <;> rfl, B9⟩
  | false =>
    have hx := of_decide_eq_false HD0.out.symm
    have HLB := Lib.hid (show lq = lineB ((ax, ay), (bx, by1)) ((cx, cy), (dx, dy)) by rw [HLQ.out, if_neg hx])
    clear hx HLQ
    go_upto_region 3 with fail
    generalize hw3 : (w.alloc (.cells #[.int .i64 ax, .int .i64 ay, .int .i64 bx, .int .i64 by1] 39)).alloc (.cells #[.int .i64 cx, .int .i64 cy, .int .i64 dx, .int .i64 dy] 39) = w3
    rw [hw3] at H1 H2 B2
    have hzz : w.heap.size + 2 ≤ w3.heap.size := by rw [← hw3]; simp
    clear hw3
    have B3 := B2
    clear B2
    have HR := HLB.out
    clear HLB
    unfold lineB at HR
    simp only [] at HR
    obtain ⟨d1, hd1⟩ : ∃ z, z = decide (((ax, ay) : Pt) = (bx, by1)) := ⟨_, rfl⟩
    have eq1 := eql_point (ax, ay) (bx, by1)
    rw [← hd1] at eq1
    simp only [] at eq1
    have HD1 := Lib.hid hd1
    have HR := Lib.hid HR
    clear hd1
    have az := lt_of_block H1.out
    have a0 := cell_of_row w3 _ 0 _ _ _ H1.out
    have a1 := cell_of_row w3 _ 1 _ _ _ H1.out
    have a2 := cell_of_row w3 _ 2 _ _ _ H1.out
    have a3 := cell_of_row w3 _ 3 _ _ _ H1.out
    simp only [List.getElem?_toArray, List.getElem?_cons_zero, List.getElem?_cons_succ] at a0 a1 a2 a3
    have bz := lt_of_block H2.out
    have b0 := cell_of_row w3 _ 0 _ _ _ H2.out
    have b1 := cell_of_row w3 _ 1 _ _ _ H2.out
    have b2 := cell_of_row w3 _ 2 _ _ _ H2.out
    have b3 := cell_of_row w3 _ 3 _ _ _ H2.out
    simp only [List.getElem?_toArray, List.getElem?_cons_zero, List.getElem?_cons_succ] at b0 b1 b2 b3
    cases d1 with
    | true =>
      have HR2 := Lib.hid (HR.out.trans (if_pos (of_decide_eq_true HD1.out.symm)))
      go_wp2_with fail
      refine (O2.out _).mono ?_
      rintro e w4 ⟨rfl, hb⟩
      have B4 := below_step B3 (Nat.le_refl _) hb
      replace H1 := Lib.hid (row_later hb H1.out)
      replace H2 := Lib.hid (row_later hb H2.out)
      clear a0 a1 a2 a3 az
      clear b0 b1 b2 b3 bz
      clear hb B3 HR
      obtain ⟨ob, hob⟩ : ∃ z, z = onQ ((cx, cy), (dx, dy)) (ax, ay) := ⟨_, rfl⟩
      have HR3 := HR2.out
      rw [← hob] at HR3 ⊢
      clear hob HR2
      cases ob with
      | false =>
        have HE := Lib.hid (show lq = 0 from HR3)
        clear HR3
        go_wp2
        go_ret
        exact ⟨by rw [HE.out] <;> rfl, B4⟩
      | true =>
        obtain ⟨d2, hd2⟩ : ∃ z, z = decide (((ax, ay) : Pt) = (cx, cy)) := ⟨_, rfl⟩
        obtain ⟨d3, hd3⟩ : ∃ z, z = decide (((ax, ay) : Pt) = (dx, dy)) := ⟨_, rfl⟩
        have eq2 := eql_point (ax, ay) (cx, cy)
        have eq3 := eql_point (ax, ay) (dx, dy)
        rw [← hd2] at eq2
        rw [← hd3] at eq3
        simp only [] at eq2 eq3
        have HR4 := Lib.hid (show lq = if d2 || d3 then 1 else 2 by rw [HR3, hd2, hd3]; simp)
        clear hd2 hd3 HR3
        have az := lt_of_block H1.out
        have a0 := cell_of_row w4 _ 0 _ _ _ H1.out
        have a1 := cell_of_row w4 _ 1 _ _ _ H1.out
        have a2 := cell_of_row w4 _ 2 _ _ _ H1.out
        have a3 := cell_of_row w4 _ 3 _ _ _ H1.out
        simp only [List.getElem?_toArray, List.getElem?_cons_zero, List.getElem?_cons_succ] at a0 a1 a2 a3
        have bz := lt_of_block H2.out
        have b0 := cell_of_row w4 _ 0 _ _ _ H2.out
        have b1 := cell_of_row w4 _ 1 _ _ _ H2.out
        have b2 := cell_of_row w4 _ 2 _ _ _ H2.out
        have b3 := cell_of_row w4 _ 3 _ _ _ H2.out
        simp only [List.getElem?_toArray, List.getElem?_cons_zero, List.getElem?_cons_succ] at b0 b1 b2 b3
        cases d2 with
        | true =>
          have HE := Lib.hid (show lq = 1 from HR4.out)
          go_wp2
          go_ret
          exact ⟨by rw [HE.out] <;> rfl, B4⟩
        | false =>
          cases d3 with
          | true =>
            have HE := Lib.hid (show lq = 1 from HR4.out)
            go_wp2
            go_ret
            exact ⟨by rw [HE.out] <;> rfl, B4⟩
          | false =>
            have HE := Lib.hid (show lq = 2 from HR4.out)
            go_wp2
            go_ret
            exact ⟨by rw [HE.out] <;> rfl, B4⟩
    | false =>
      have HR2 := Lib.hid (HR.out.trans (if_neg (of_decide_eq_false HD1.out.symm)))
      clear HR
      go_upto_region 9 with fail
      go_cut [5, 6] from 38 to 41 (fun v5 v6 wx => ∃ g h : Nat, v5 = .pointer (some ⟨g, 0, none⟩) ∧ v6 = .pointer (some ⟨h, 0, none⟩) ∧ w3.heap.size ≤ g ∧ w3.heap.size ≤ h ∧ g ≠ h ∧ wx.heap[g]? = some (.cells #[.int .i64 ax, .int .i64 ay] 37) ∧ wx.heap[h]? = some (.cells #[.int .i64 bx, .int .i64 by1] 37) ∧ Below w3.heap.size w3 wx)
      case first =>
        go_region
        all_goals (
          go_wp2
          go_meet
          case rel => first
            | exact ⟨_, _, rfl, rfl, Nat.le_refl _, by omega, by omega, row_past (row_new w3 (.cells #[.int .i64 ax, .int .i64 ay] 37)), row_new1 w3 (.cells #[.int .i64 ax, .int .i64 ay] 37) (.cells #[.int .i64 bx, .int .i64 by1] 37), (by repeat' (first | exact Below.refl _ _ | refine Below.drew ?_ | refine Below.drewN' ?_ | refine Below.setCell ?_ (by first | omega | (simp; done) | exact Below.size (by assumption) | (simp; omega)) _ | refine Below.alloc ?_ (by first | omega | (simp; done) | exact Below.size (by assumption) | (simp; omega)) _ | refine Below.trans ?_ (Below.mono (by assumption) ?_) | (first | omega | (simp; done) | exact Below.size (by assumption) | (simp; omega))))⟩
            | exact ⟨_, _, rfl, rfl, by omega, Nat.le_refl _, by omega, row_new1 w3 (.cells #[.int .i64 bx, .int .i64 by1] 37) (.cells #[.int .i64 ax, .int .i64 ay] 37), row_past (row_new w3 (.cells #[.int .i64 bx, .int .i64 by1] 37)), (by repeat' (first | exact Below.refl _ _ | refine Below.drew ?_ | refine Below.drewN' ?_ | refine Below.setCell ?_ (by first | omega | (simp; done) | exact Below.size (by assumption) | (simp; omega)) _ | refine Below.alloc ?_ (by first | omega | (simp; done) | exact Below.size (by assumption) | (simp; omega)) _ | refine Below.trans ?_ (Below.mono (by assumption) ?_) | (first | omega | (simp; done) | exact Below.size (by assumption) | (simp; omega))))⟩)
      case rest =>
        obtain ⟨g, h, rfl, rfl, hg, hh, hne, HG, HH, hbc⟩ := hcut
        have HG := Lib.hid HG
        have HH := Lib.hid HH
        have BC := below_step B3 (Nat.le_refl _) hbc
        have hz3 := B3.size
        have hne' : h ≠ g := fun e => hne e.symm
        clear a0 a1 a2 a3 az
        clear b0 b1 b2 b3 bz
        replace H1 := Lib.hid (row_later hbc H1.out)
        replace H2 := Lib.hid (row_later hbc H2.out)
        clear hbc B3
        have bz := lt_of_block H2.out
        have b0 := cell_of_row wc _ 0 _ _ _ H2.out
        have b1 := cell_of_row wc _ 1 _ _ _ H2.out
        have b2 := cell_of_row wc _ 2 _ _ _ H2.out
        have b3 := cell_of_row wc _ 3 _ _ _ H2.out
        simp only [List.getElem?_toArray, List.getElem?_cons_zero, List.getElem?_cons_succ] at b0 b1 b2 b3
        have gz := lt_of_block HG.out
        have g0 := cell_of_row wc _ 0 _ _ _ HG.out
        have g1 := cell_of_row wc _ 1 _ _ _ HG.out
        have gf0 := frozen_of_row wc _ 0 _ _ HG.out
        have gf1 := frozen_of_row wc _ 1 _ _ HG.out
        simp only [List.getElem?_toArray, List.getElem?_cons_zero, List.getElem?_cons_succ] at g0 g1
        go_wp2_with fail
        refine (CC.out (cx, cy) (ax, ay) _).mono ?_
        rintro e w5 ⟨rfl, hb⟩
        have B5 := below_step BC (Nat.le_refl _) hb
        replace H1 := Lib.hid (row_later hb H1.out)
        replace H2 := Lib.hid (row_later hb H2.out)
        replace HG := Lib.hid (row_later hb HG.out)
        replace HH := Lib.hid (row_later hb HH.out)
        clear b0 b1 b2 b3 bz
        clear g0 g1 gz gf0 gf1
        clear hb BC
        obtain ⟨c1, hc1⟩ : ∃ z, z = lexC (cx, cy) (ax, ay) := ⟨_, rfl⟩
        have HR3 := HR2.out
        rw [← hc1] at HR3 ⊢
        clear hc1 HR2
        by_cases e1 : 0 < c1
        · have e1d : decide (0 < c1) = true := decide_eq_true e1
          rw [if_pos e1] at HR3
          have HR3 := Lib.hid HR3
          clear e1
          have bz := lt_of_block H2.out
          have b0 := cell_of_row w5 _ 0 _ _ _ H2.out
          have b1 := cell_of_row w5 _ 1 _ _ _ H2.out
          have b2 := cell_of_row w5 _ 2 _ _ _ H2.out
          have b3 := cell_of_row w5 _ 3 _ _ _ H2.out
          simp only [List.getElem?_toArray, List.getElem?_cons_zero, List.getElem?_cons_succ] at b0 b1 b2 b3
          have gz := lt_of_block HG.out
          have g0 := cell_of_row w5 _ 0 _ _ _ HG.out
          have g1 := cell_of_row w5 _ 1 _ _ _ HG.out
          have gf0 := frozen_of_row w5 _ 0 _ _ HG.out
          have gf1 := frozen_of_row w5 _ 1 _ _ HG.out
          simp only [List.getElem?_toArray, List.getElem?_cons_zero, List.getElem?_cons_succ] at g0 g1
          go_upto_region 12 with fail
          have GA := row_set (i := 1) (v := .int .i64 cy) (row_set (i := 0) (v := .int .i64 cx) HG.out)
          simp only [List.setIfInBounds_toArray, List.set_cons_zero, List.set_cons_succ] at GA
          have GB := row_set_other (a := ⟨g, 1, none⟩) (v := .int .i64 cy) (row_set_other (a := ⟨g, 0, none⟩) (v := .int .i64 cx) HH.out (by simp only; omega)) (by simp only; omega)
          have GC := row_set_other (a := ⟨g, 1, none⟩) (v := .int .i64 cy) (row_set_other (a := ⟨g, 0, none⟩) (v := .int .i64 cx) H2.out (by simp only; omega)) (by simp only; omega)
          have BM := (B5.setCell (p := ⟨g, 0, none⟩) (by simp only; omega) (.int .i64 cx)).setCell (p := ⟨g, 1, none⟩) (by simp only; omega) (.int .i64 cy)
          generalize hw6 : (w5.setCell ⟨g, 0, none⟩ (.int .i64 cx)).setCell ⟨g, 1, none⟩ (.int .i64 cy) = w6
          rw [hw6] at GA GB GC BM
          clear b0 b1 b2 b3 bz
          clear g0 g1 gz gf0 gf1
          clear hw6 H1 H2 HG HH B5
          have HG := Lib.hid GA
          have HH := Lib.hid GB
          have H2 := Lib.hid GC
          clear GA GB GC
          -- X.2 = (bx, by1), Y.2 = (dx, dy); low (cx, cy); rows HG, HH, H1, H2 of world w6; BM
          have bz := lt_of_block H2.out
          have b0 := cell_of_row w6 _ 0 _ _ _ H2.out
          have b1 := cell_of_row w6 _ 1 _ _ _ H2.out
          have b2 := cell_of_row w6 _ 2 _ _ _ H2.out
          have b3 := cell_of_row w6 _ 3 _ _ _ H2.out
          simp only [List.getElem?_toArray, List.getElem?_cons_zero, List.getElem?_cons_succ] at b0 b1 b2 b3
          have hz := lt_of_block HH.out
          have h0 := cell_of_row w6 _ 0 _ _ _ HH.out
          have h1 := cell_of_row w6 _ 1 _ _ _ HH.out
          have hf0 := frozen_of_row w6 _ 0 _ _ HH.out
          have hf1 := frozen_of_row w6 _ 1 _ _ HH.out
          simp only [List.getElem?_toArray, List.getElem?_cons_zero, List.getElem?_cons_succ] at h0 h1
          go_wp2_with fail
          refine (CC.out (dx, dy) (bx, by1) _).mono ?_
          rintro e w7 ⟨rfl, hb⟩
          have B7 := below_step BM (Nat.le_refl _) hb
          replace H2 := Lib.hid (row_later hb H2.out)
          replace HG := Lib.hid (row_later hb HG.out)
          replace HH := Lib.hid (row_later hb HH.out)
          clear b0 b1 b2 b3 bz
          clear h0 h1 hz hf0 hf1
          clear hb BM
          obtain ⟨c2, hc2⟩ : ∃ z, z = lexC (dx, dy) (bx, by1) := ⟨_, rfl⟩
          have HR4 := HR3.out
          rw [← hc2] at HR4 ⊢
          clear hc2 HR3
          by_cases e2 : c2 < 0
          · have e2d : decide (c2 < 0) = true := decide_eq_true e2
            have HR5 := Lib.hid (show lq = if lexC (cx, cy) (dx, dy) = -1 then 5 else if lexC (cx, cy) (dx, dy) = 0 then 1 else 0 by rw [HR4, if_pos e2])
            clear e2 HR4
            have bz := lt_of_block H2.out
            have b0 := cell_of_row w7 _ 0 _ _ _ H2.out
            have b1 := cell_of_row w7 _ 1 _ _ _ H2.out
            have b2 := cell_of_row w7 _ 2 _ _ _ H2.out
            have b3 := cell_of_row w7 _ 3 _ _ _ H2.out
            simp only [List.getElem?_toArray, List.getElem?_cons_zero, List.getElem?_cons_succ] at b0 b1 b2 b3
            have hz := lt_of_block HH.out
            have h0 := cell_of_row w7 _ 0 _ _ _ HH.out
            have h1 := cell_of_row w7 _ 1 _ _ _ HH.out
            have hf0 := frozen_of_row w7 _ 0 _ _ HH.out
            have hf1 := frozen_of_row w7 _ 1 _ _ HH.out
            simp only [List.getElem?_toArray, List.getElem?_cons_zero, List.getElem?_cons_succ] at h0 h1
            go_upto_region 14 with fail
            have GA := row_set (i := 1) (v := .int .i64 dy) (row_set (i := 0) (v := .int .i64 dx) HH.out)
            simp only [List.setIfInBounds_toArray, List.set_cons_zero, List.set_cons_succ] at GA
            have GB := row_set_other (a := ⟨h, 1, none⟩) (v := .int .i64 dy) (row_set_other (a := ⟨h, 0, none⟩) (v := .int .i64 dx) HG.out (by simp only; omega)) (by simp only; omega)
            have B8 := (B7.setCell (p := ⟨h, 0, none⟩) (by simp only; omega) (.int .i64 dx)).setCell (p := ⟨h, 1, none⟩) (by simp only; omega) (.int .i64 dy)
            generalize hw8 : (w7.setCell ⟨h, 0, none⟩ (.int .i64 dx)).setCell ⟨h, 1, none⟩ (.int .i64 dy) = w8
            rw [hw8] at GA GB B8
            clear hw8 HG HH
            clear b0 b1 b2 b3 bz
            clear h0 h1 hz hf0 hf1
            have HG := Lib.hid GB
            have HH := Lib.hid GA
            clear GA GB
            -- low (cx, cy) in row HG, high (dx, dy) in row HH of world w8; B8 : Below w ..
            have gz := lt_of_block HG.out
            have g0 := cell_of_row w8 _ 0 _ _ _ HG.out
            have g1 := cell_of_row w8 _ 1 _ _ _ HG.out
            simp only [List.getElem?_toArray, List.getElem?_cons_zero, List.getElem?_cons_succ] at g0 g1
            have hz := lt_of_block HH.out
            have h0 := cell_of_row w8 _ 0 _ _ _ HH.out
            have h1 := cell_of_row w8 _ 1 _ _ _ HH.out
            simp only [List.getElem?_toArray, List.getElem?_cons_zero, List.getElem?_cons_succ] at h0 h1
            go_wp2_with fail
            refine (CC.out (cx, cy) (dx, dy) _).mono ?_
            rintro e w9 ⟨rfl, hb⟩
            have B9 := below_step B8 (Nat.le_refl _) hb
            obtain ⟨c3, hc3⟩ : ∃ z, z = lexC (cx, cy) (dx, dy) := ⟨_, rfl⟩
            have HR6 := HR5.out
            rw [← hc3] at HR6 ⊢
            clear hc3 HR5 hb
            by_cases e1 : c3 = -1
            · have e1d : (c3 == -1) = true := by rw [beq_iff_eq]; exact e1
              have HE := Lib.hid (show lq = 5 by rw [HR6, if_pos e1])
              clear e1 HR6
              go_wp2
              go_ret
              exact ⟨by rw [HE.out] <;> rfl, B9⟩
            · have e1d : (c3 == -1) = false := by rw [beq_eq_false_iff_ne]; exact e1
              by_cases e2 : c3 = 0
              · have e2d : (c3 == 0) = true := by rw [beq_iff_eq]; exact e2
                have HE := Lib.hid (show lq = 1 by rw [HR6, if_neg e1, if_pos e2])
                clear e1 e2 HR6
                go_wp2
                go_ret
                exact ⟨by rw [HE.out] <;> rfl, B9⟩
              · have e2d : (c3 == 0) = false := by rw [beq_eq_false_iff_ne]; exact e2
                have HE := Lib.hid (show lq = 0 by rw [HR6, if_neg e1, if_neg e2])
                clear e1 e2 HR6
                go_wp2
                go_ret
                exact ⟨by rw [HE.out] <;> rfl, B9⟩
          · have e2d : decide (c2 < 0) = false := decide_eq_false e2
            have HR5 := Lib.hid (show lq = if lexC (cx, cy) (bx, by1) = -1 then 5 else if lexC (cx, cy) (bx, by1) = 0 then 1 else 0 by rw [HR4, if_neg e2])
            clear e2 HR4
            -- low (cx, cy) in row HG, high (bx, by1) in row HH of world w7; B7 : Below w ..
            have gz := lt_of_block HG.out
            have g0 := cell_of_row w7 _ 0 _ _ _ HG.out
            have g1 := cell_of_row w7 _ 1 _ _ _ HG.out
            simp only [List.getElem?_toArray, List.getElem?_cons_zero, List.getElem?_cons_succ] at g0 g1
            have hz := lt_of_block HH.out
            have h0 := cell_of_row w7 _ 0 _ _ _ HH.out
            have h1 := cell_of_row w7 _ 1 _ _ _ HH.out
            simp only [List.getElem?_toArray, List.getElem?_cons_zero, List.getElem?_cons_succ] at h0 h1
            go_wp2_with fail
            refine (CC.out (cx, cy) (bx, by1) _).mono ?_
            rintro e w9 ⟨rfl, hb⟩
            have B9 := below_step B7 (Nat.le_refl _) hb
            obtain ⟨c3, hc3⟩ : ∃ z, z = lexC (cx, cy) (bx, by1) := ⟨_, rfl⟩
            have HR6 := HR5.out
            rw [← hc3] at HR6 ⊢
            clear hc3 HR5 hb
            by_cases e1 : c3 = -1
            · have e1d : (c3 == -1) = true := by rw [beq_iff_eq]; exact e1
              have HE := Lib.hid (show lq = 5 by rw [HR6, if_pos e1])
              clear e1 HR6
              go_wp2
              go_ret
              exact ⟨by rw [HE.out] <;> rfl, B9⟩
            · have e1d : (c3 == -1) = false := by rw [beq_eq_false_iff_ne]; exact e1
              by_cases e2 : c3 = 0
              · have e2d : (c3 == 0) = true := by rw [beq_iff_eq]; exact e2
                have HE := Lib.hid (show lq = 1 by rw [HR6, if_neg e1, if_pos e2])
                clear e1 e2 HR6
                go_wp2
                go_ret
                exact ⟨by rw [HE.out] <;> rfl, B9⟩
              · have e2d : (c3 == 0) = false := by rw [beq_eq_false_iff_ne]; exact e2
                have HE := Lib.hid (show lq = 0 by rw [HR6, if_neg e1, if_neg e2])
                clear e1 e2 HR6
                go_wp2
                go_ret
                exact ⟨by rw [HE.out] <;> rfl, B9⟩
        · have e1d : decide (0 < c1) = false := decide_eq_false e1
          rw [if_neg e1] at HR3
          have HR3 := Lib.hid HR3
          have BM := B5
          clear e1 B5
          -- X.2 = (bx, by1), Y.2 = (dx, dy); low (ax, ay); rows HG, HH, H1, H2 of world w5; BM
          have bz := lt_of_block H2.out
          have b0 := cell_of_row w5 _ 0 _ _ _ H2.out
          have b1 := cell_of_row w5 _ 1 _ _ _ H2.out
          have b2 := cell_of_row w5 _ 2 _ _ _ H2.out
          have b3 := cell_of_row w5 _ 3 _ _ _ H2.out
          simp only [List.getElem?_toArray, List.getElem?_cons_zero, List.getElem?_cons_succ] at b0 b1 b2 b3
          have hz := lt_of_block HH.out
          have h0 := cell_of_row w5 _ 0 _ _ _ HH.out
          have h1 := cell_of_row w5 _ 1 _ _ _ HH.out
          have hf0 := frozen_of_row w5 _ 0 _ _ HH.out
          have hf1 := frozen_of_row w5 _ 1 _ _ HH.out
          simp only [List.getElem?_toArray, List.getElem?_cons_zero, List.getElem?_cons_succ] at h0 h1
          go_wp2_with fail
          refine (CC.out (dx, dy) (bx, by1) _).mono ?_
          rintro e w7 ⟨rfl, hb⟩
          have B7 := below_step BM (Nat.le_refl _) hb
          replace H2 := Lib.hid (row_later hb H2.out)
          replace HG := Lib.hid (row_later hb HG.out)
          replace HH := Lib.hid (row_later hb HH.out)
          clear b0 b1 b2 b3 bz
          clear h0 h1 hz hf0 hf1
          clear hb BM
          obtain ⟨c2, hc2⟩ : ∃ z, z = lexC (dx, dy) (bx, by1) := ⟨_, rfl⟩
          have HR4 := HR3.out
          rw [← hc2] at HR4 ⊢
          clear hc2 HR3
          by_cases e2 : c2 < 0
          · have e2d : decide (c2 < 0) = true := decide_eq_true e2
            have HR5 := Lib.hid (show lq = if lexC (ax, ay) (dx, dy) = -1 then 5 else if lexC (ax, ay) (dx, dy) = 0 then 1 else 0 by rw [HR4, if_pos e2])
            clear e2 HR4
            have bz := lt_of_block H2.out
            have b0 := cell_of_row w7 _ 0 _ _ _ H2.out
            have b1 := cell_of_row w7 _ 1 _ _ _ H2.out
            have b2 := cell_of_row w7 _ 2 _ _ _ H2.out
            have b3 := cell_of_row w7 _ 3 _ _ _ H2.out
            simp only [List.getElem?_toArray, List.getElem?_cons_zero, List.getElem?_cons_succ] at b0 b1 b2 b3
            have hz := lt_of_block HH.out
            have h0 := cell_of_row w7 _ 0 _ _ _ HH.out
            have h1 := cell_of_row w7 _ 1 _ _ _ HH.out
            have hf0 := frozen_of_row w7 _ 0 _ _ HH.out
            have hf1 := frozen_of_row w7 _ 1 _ _ HH.out
            simp only [List.getElem?_toArray, List.getElem?_cons_zero, List.getElem?_cons_succ] at h0 h1
            go_upto_region 14 with fail
            have GA := row_set (i := 1) (v := .int .i64 dy) (row_set (i := 0) (v := .int .i64 dx) HH.out)
            simp only [List.setIfInBounds_toArray, List.set_cons_zero, List.set_cons_succ] at GA
            have GB := row_set_other (a := ⟨h, 1, none⟩) (v := .int .i64 dy) (row_set_other (a := ⟨h, 0, none⟩) (v := .int .i64 dx) HG.out (by simp only; omega)) (by simp only; omega)
            have B8 := (B7.setCell (p := ⟨h, 0, none⟩) (by simp only; omega) (.int .i64 dx)).setCell (p := ⟨h, 1, none⟩) (by simp only; omega) (.int .i64 dy)
            generalize hw8 : (w7.setCell ⟨h, 0, none⟩ (.int .i64 dx)).setCell ⟨h, 1, none⟩ (.int .i64 dy) = w8
            rw [hw8] at GA GB B8
            clear hw8 HG HH
            clear b0 b1 b2 b3 bz
            clear h0 h1 hz hf0 hf1
            have HG := Lib.hid GB
            have HH := Lib.hid GA
            clear GA GB
            -- low (ax, ay) in row HG, high (dx, dy) in row HH of world w8; B8 : Below w ..
            have gz := lt_of_block HG.out
            have g0 := cell_of_row w8 _ 0 _ _ _ HG.out
            have g1 := cell_of_row w8 _ 1 _ _ _ HG.out
            simp only [List.getElem?_toArray, List.getElem?_cons_zero, List.getElem?_cons_succ] at g0 g1
            have hz := lt_of_block HH.out
            have h0 := cell_of_row w8 _ 0 _ _ _ HH.out
            have h1 := cell_of_row w8 _ 1 _ _ _ HH.out
            simp only [List.getElem?_toArray, List.getElem?_cons_zero, List.getElem?_cons_succ] at h0 h1
            go_wp2_with fail
            refine (CC.out (ax, ay) (dx, dy) _).mono ?_
            rintro e w9 ⟨rfl, hb⟩
            have B9 := below_step B8 (Nat.le_refl _) hb
            obtain ⟨c3, hc3⟩ : ∃ z, z = lexC (ax, ay) (dx, dy) := ⟨_, rfl⟩
            have HR6 := HR5.out
            rw [← hc3] at HR6 ⊢
            clear hc3 HR5 hb
            by_cases e1 : c3 = -1
            · have e1d : (c3 == -1) = true := by rw [beq_iff_eq]; exact e1
              have HE := Lib.hid (show lq = 5 by rw [HR6, if_pos e1])
              clear e1 HR6
              go_wp2
              go_ret
              exact ⟨by rw [HE.out] <;> rfl, B9⟩
            · have e1d : (c3 == -1) = false := by rw [beq_eq_false_iff_ne]; exact e1
              by_cases e2 : c3 = 0
              · have e2d : (c3 == 0) = true := by rw [beq_iff_eq]; exact e2
                have HE := Lib.hid (show lq = 1 by rw [HR6, if_neg e1, if_pos e2])
                clear e1 e2 HR6
                go_wp2
                go_ret
                exact ⟨by rw [HE.out] <;> rfl, B9⟩
              · have e2d : (c3 == 0) = false := by rw [beq_eq_false_iff_ne]; exact e2
                have HE := Lib.hid (show lq = 0 by rw [HR6, if_neg e1, if_neg e2])
                clear e1 e2 HR6
                go_wp2
                go_ret
                exact ⟨by rw [HE.out] <;> rfl, B9⟩
          · have e2d : decide (c2 < 0) = false := decide_eq_false e2
            have HR5 := Lib.hid (show lq = if lexC (ax, ay) (bx, by1) = -1 then 5 else if lexC (ax, ay) (bx, by1) = 0 then 1 else 0 by rw [HR4, if_neg e2])
            clear e2 HR4
            -- low (ax, ay) in row HG, high (bx, by1) in row HH of world w7; B7 : Below w ..
            have gz := lt_of_block HG.out
            have g0 := cell_of_row w7 _ 0 _ _ _ HG.out
            have g1 := cell_of_row w7 _ 1 _ _ _ HG.out
            simp only [List.getElem?_toArray, List.getElem?_cons_zero, List.getElem?_cons_succ] at g0 g1
            have hz := lt_of_block HH.out
            have h0 := cell_of_row w7 _ 0 _ _ _ HH.out
            have h1 := cell_of_row w7 _ 1 _ _ _ HH.out
            simp only [List.getElem?_toArray, List.getElem?_cons_zero, List.getElem?_cons_succ] at h0 h1
            go_wp2_with fail
            refine (CC.out (ax, ay) (bx, by1) _).mono ?_
            rintro e w9 ⟨rfl, hb⟩
            have B9 := below_step B7 (Nat.le_refl _) hb
            obtain ⟨c3, hc3⟩ : ∃ z, z = lexC (ax, ay) (bx, by1) := ⟨_, rfl⟩
            have HR6 := HR5.out
            rw [← hc3] at HR6 ⊢
            clear hc3 HR5 hb
            by_cases e1 : c3 = -1
            · have e1d : (c3 == -1) = true := by rw [beq_iff_eq]; exact e1
              have HE := Lib.hid (show lq = 5 by rw [HR6, if_pos e1])
              clear e1 HR6
              go_wp2
              go_ret
              exact ⟨by rw [HE.out] <;> rfl, B9⟩
            · have e1d : (c3 == -1) = false := by rw [beq_eq_false_iff_ne]; exact e1
              by_cases e2 : c3 = 0
              · have e2d : (c3 == 0) = true := by rw [beq_iff_eq]; exact e2
                have HE := Lib.hid (show lq = 1 by rw [HR6, if_neg e1, if_pos e2])
                clear e1 e2 HR6
                go_wp2
                go_ret
                exact ⟨by rw [HE.out] <;> rfl, B9⟩
              · have e2d : (c3 == 0) = false := by rw [beq_eq_false_iff_ne]; exact e2
                have HE := Lib.hid (show lq = 0 by rw [HR6, if_neg e1, if_neg e2])
                clear e1 e2 HR6
                go_wp2
                go_ret
                exact ⟨by rw [HE.out] <;> rfl, B9⟩
end Go.Proofs.YtbkomdinchiffaaGreat
