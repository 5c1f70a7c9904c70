/-  -/
import Derived.Test.YtibpaaajghbkoaaGreatUAx
namespace Go.Proofs.YtibpaaajghbkoaaGreat
open Go.RowKit
def meetsS (s t : Sg) : Int :=
 if s = t then 4
 else if s.1 = s.2 ∨ t.1 = t.2 ∨ (crs s.1 s.2 t.1 = 0 ∧ crs s.1 s.2 t.2 = 0) then lineQ s t
 else
  let a := sgn (crs s.1 s.2 t.1)
  let b := sgn (crs s.1 s.2 t.2)
  let c := sgn (crs t.1 t.2 s.1)
  let d := sgn (crs t.1 t.2 s.2)
  if 0 < a * b ∨ 0 < c * d then 0 else if a * b < 0 ∧ c * d < 0 then 3 else if a * b = 0 ∧ c * d = 0 then 1 else 2
theorem meetsS_flat (d1 d2 d3 : Bool) (s t : Sg) (h1 : d1 = decide (s = t)) (h2 : d2 = decide (s.1 = s.2)) (h3 : d3 = decide (t.1 = t.2)) : meetsS s t =
  if d1 = true then 4 else if d2 = true ∨ d3 = true ∨ (sgn (crs s.1 s.2 t.1) = 0 ∧ sgn (crs s.1 s.2 t.2) = 0) then lineQ s t
  else if 0 < sgn (crs s.1 s.2 t.1) * sgn (crs s.1 s.2 t.2) ∨ 0 < sgn (crs t.1 t.2 s.1) * sgn (crs t.1 t.2 s.2) then 0
  else if sgn (crs s.1 s.2 t.1) * sgn (crs s.1 s.2 t.2) < 0 ∧ sgn (crs t.1 t.2 s.1) * sgn (crs t.1 t.2 s.2) < 0 then 3
  else if sgn (crs s.1 s.2 t.1) * sgn (crs s.1 s.2 t.2) = 0 ∧ sgn (crs t.1 t.2 s.1) * sgn (crs t.1 t.2 s.2) = 0 then 1 else 2 := by
 subst h1 h2 h3
 unfold meetsS
 simp only [decide_eq_true_eq, sgn_zero]
theorem sgn_bd (n : Int) : -1 ≤ sgn n ∧ sgn n ≤ 1 := by unfold sgn; split <;> (try split) <;> omega
def Seg2 (w2 : World) (g h : Nat) (ax ay bx by1 cx cy dx dy : Int) (w' : World) : Prop :=
 w'.cell? ⟨g, 0, none⟩ = some (.int .i64 ax) ∧ w'.cell? ⟨g, 1, none⟩ = some (.int .i64 ay) ∧ w'.cell? ⟨g, 2, none⟩ = some (.int .i64 bx) ∧ w'.cell? ⟨g, 3, none⟩ = some (.int .i64 by1) ∧
 w'.cell? ⟨h, 0, none⟩ = some (.int .i64 cx) ∧ w'.cell? ⟨h, 1, none⟩ = some (.int .i64 cy) ∧ w'.cell? ⟨h, 2, none⟩ = some (.int .i64 dx) ∧ w'.cell? ⟨h, 3, none⟩ = some (.int .i64 dy) ∧
 w'.frozen? ⟨g, 0, none⟩ = false ∧ w'.frozen? ⟨g, 1, none⟩ = false ∧ w'.frozen? ⟨g, 2, none⟩ = false ∧ w'.frozen? ⟨g, 3, none⟩ = false ∧
 w'.frozen? ⟨h, 0, none⟩ = false ∧ w'.frozen? ⟨h, 1, none⟩ = false ∧ w'.frozen? ⟨h, 2, none⟩ = false ∧ w'.frozen? ⟨h, 3, none⟩ = false ∧ Below w2.heap.size w2 w'
theorem seg2_start {w : World} {g h : Nat} {ax ay bx by1 cx cy dx dy : Int} (a0 : w.cell? ⟨g, 0, none⟩ = some (.int .i64 ax)) (a1 : w.cell? ⟨g, 1, none⟩ = some (.int .i64 ay)) (a2 : w.cell? ⟨g, 2, none⟩ = some (.int .i64 bx)) (a3 : w.cell? ⟨g, 3, none⟩ = some (.int .i64 by1))
  (b0 : w.cell? ⟨h, 0, none⟩ = some (.int .i64 cx)) (b1 : w.cell? ⟨h, 1, none⟩ = some (.int .i64 cy)) (b2 : w.cell? ⟨h, 2, none⟩ = some (.int .i64 dx)) (b3 : w.cell? ⟨h, 3, none⟩ = some (.int .i64 dy))
  (f0 : w.frozen? ⟨g, 0, none⟩ = false) (f1 : w.frozen? ⟨g, 1, none⟩ = false) (f2 : w.frozen? ⟨g, 2, none⟩ = false) (f3 : w.frozen? ⟨g, 3, none⟩ = false)
  (e0 : w.frozen? ⟨h, 0, none⟩ = false) (e1 : w.frozen? ⟨h, 1, none⟩ = false) (e2 : w.frozen? ⟨h, 2, none⟩ = false) (e3 : w.frozen? ⟨h, 3, none⟩ = false) : Seg2 w g h ax ay bx by1 cx cy dx dy w.drew :=
 ⟨a0, a1, a2, a3, b0, b1, b2, b3, f0, f1, f2, f3, e0, e1, e2, e3, (Below.refl _ _).drew⟩
theorem frozen_later {w w' : World} (hb : Below w.heap.size w w') {b o : Nat} {v : Value} (h : w.cell? ⟨b, o, none⟩ = some v) (hf : w.frozen? ⟨b, o, none⟩ = false) : w'.frozen? ⟨b, o, none⟩ = false := (hb.frozen (p := ⟨b, o, none⟩) (lt_of_cell h)).trans hf
theorem seg2_below {w2 w : World} {g h : Nat} {ax ay bx by1 cx cy dx dy : Int} (hs : Seg2 w2 g h ax ay bx by1 cx cy dx dy w) : Below w2.heap.size w2 w := by
 obtain ⟨a0, a1, a2, a3, b0, b1, b2, b3, f0, f1, f2, f3, e0, e1, e2, e3, h1⟩ := hs
 exact h1
theorem seg2_later {w2 w w' : World} {g h : Nat} {ax ay bx by1 cx cy dx dy : Int} (hs : Seg2 w2 g h ax ay bx by1 cx cy dx dy w) (hb : Below w.heap.size w w') : Seg2 w2 g h ax ay bx by1 cx cy dx dy w' := by
 obtain ⟨a0, a1, a2, a3, b0, b1, b2, b3, f0, f1, f2, f3, e0, e1, e2, e3, h1⟩ := hs
 exact ⟨cell_later hb a0, cell_later hb a1, cell_later hb a2, cell_later hb a3, cell_later hb b0, cell_later hb b1, cell_later hb b2, cell_later hb b3, frozen_later hb a0 f0, frozen_later hb a1 f1, frozen_later hb a2 f2, frozen_later hb a3 f3,
  frozen_later hb b0 e0, frozen_later hb b1 e1, frozen_later hb b2 e2, frozen_later hb b3 e3, below_step h1 (Nat.le_refl _) hb⟩
set_option maxRecDepth 100000 in
set_option maxHeartbeats 8000000 in
theorem gmeets_any (s t : Sg) (w : World) :
  Calls Tryz.prog 107 #[sgV s, sgV t] w fun e w' => e = .returned (.int .i64 (meetsQ s t)) ∧ Below w.heap.size w w' := by
 have mixed : Tryz.prog.follows .mixedOrders = true := by kernel_rfl
 have NR := Lib.hid (fun (v : Value) w' hv => by
  have := near_any v [s.1, s.2, t.1, t.2] w' (by simp) hv
  rw [show [s.1, s.2, t.1, t.2].all nearQ = (nearS s && nearS t) by simp [nearS, Bool.and_assoc]] at this
  exact this)
 cases hn : (nearS s && nearS t) with
 |false =>
  have HE := Lib.hid (show meetsQ s t = 0 by unfold meetsQ; rw [hn]; rfl)
  rw [hn] at NR
  clear hn
  generalize meetsQ s t = res at HE ⊢
  obtain ⟨⟨ax, ay⟩, ⟨bx, by1⟩⟩ := s
  obtain ⟨⟨cx, cy⟩, ⟨dx, dy⟩⟩ := t
  simp only [] at NR ⊢
  go_enter Tryz.func107, Tryz.ntmps107
  go_wp2_with fail
  have H1 := row_past (o' := .cells #[.int .i64 ax, .int .i64 ay, .int .i64 bx, .int .i64 by1, .int .i64 cx, .int .i64 cy, .int .i64 dx, .int .i64 dy] 33) (row_past (o' := .cells #[.int .i64 cx, .int .i64 cy, .int .i64 dx, .int .i64 dy] 48) (row_new w (.cells #[.int .i64 ax, .int .i64 ay, .int .i64 bx, .int .i64 by1] 48)))
  have H2 := row_past (o' := .cells #[.int .i64 ax, .int .i64 ay, .int .i64 bx, .int .i64 by1, .int .i64 cx, .int .i64 cy, .int .i64 dx, .int .i64 dy] 33) (row_new1 w (.cells #[.int .i64 ax, .int .i64 ay, .int .i64 bx, .int .i64 by1] 48) (.cells #[.int .i64 cx, .int .i64 cy, .int .i64 dx, .int .i64 dy] 48))
  have H3 := row_new2 w (.cells #[.int .i64 ax, .int .i64 ay, .int .i64 bx, .int .i64 by1] 48) (.cells #[.int .i64 cx, .int .i64 cy, .int .i64 dx, .int .i64 dy] 48) (.cells #[.int .i64 ax, .int .i64 ay, .int .i64 bx, .int .i64 by1, .int .i64 cx, .int .i64 cy, .int .i64 dx, .int .i64 dy] 33)
  have B1 : Below w.heap.size w (((w.alloc (.cells #[.int .i64 ax, .int .i64 ay, .int .i64 bx, .int .i64 by1] 48)).alloc (.cells #[.int .i64 cx, .int .i64 cy, .int .i64 dx, .int .i64 dy] 48)).alloc (.cells #[.int .i64 ax, .int .i64 ay, .int .i64 bx, .int .i64 by1, .int .i64 cx, .int .i64 cy, .int .i64 dx, .int .i64 dy] 33)) := (by repeat' (first | exact Below.refl _ _ | refine Below.drew ?_ | refine Below.drewN' ?_ | refine Below.setCell ?_ (by first | omega | (simp; done) | exact Below.size (by assumption) | (simp; omega)) _ | refine Below.alloc ?_ (by first | omega | (simp; done) | exact Below.size (by assumption) | (simp; omega)) _ | refine Below.trans ?_ (Below.mono (by assumption) ?_) | (first | omega | (simp; done) | exact Below.size (by assumption) | (simp; omega))))
  generalize hw1 : ((w.alloc (.cells #[.int .i64 ax, .int .i64 ay, .int .i64 bx, .int .i64 by1] 48)).alloc (.cells #[.int .i64 cx, .int .i64 cy, .int .i64 dx, .int .i64 dy] 48)).alloc (.cells #[.int .i64 ax, .int .i64 ay, .int .i64 bx, .int .i64 by1, .int .i64 cx, .int .i64 cy, .int .i64 dx, .int .i64 dy] 33) = w1
  rw [hw1] at H1 H2 H3 B1
  have hzz : w.heap.size + 3 ≤ w1.heap.size := by rw [← hw1]; simp
  have H1 := Lib.hid H1
  have H2 := Lib.hid H2
  clear hw1
  refine (NR.out _ w1 (RowE.of_block (l := [(ax, ay), (bx, by1), (cx, cy), (dx, dy)]) encPt_len rfl H3 4 rfl)).mono ?_
  rintro e w2 ⟨rfl, hb⟩
  have B2 := below_step B1 (Nat.le_refl _) hb
  have hzz2 := hb.size
  replace H1 := Lib.hid (row_later hb H1.out)
  replace H2 := Lib.hid (row_later hb H2.out)
  clear hb H3 B1 NR
  go_wp2
  go_ret
  exact ⟨by rw [HE.out] <;> rfl, B2⟩
 |true =>
  have hn2 := hn
  rw [Bool.and_eq_true] at hn2
  have hs := (srtS_near s).trans hn2.1
  have ht := (srtS_near t).trans hn2.2
  have hS1 : nearQ (srtS s).1 = true := by unfold nearS at hs; rw [Bool.and_eq_true] at hs; exact hs.1
  have hS2 : nearQ (srtS s).2 = true := by unfold nearS at hs; rw [Bool.and_eq_true] at hs; exact hs.2
  have hT1 : nearQ (srtS t).1 = true := by unfold nearS at ht; rw [Bool.and_eq_true] at ht; exact ht.1
  have hT2 : nearQ (srtS t).2 = true := by unfold nearS at ht; rw [Bool.and_eq_true] at ht; exact ht.2
  rw [hn] at NR
  have HM : meetsQ s t = meetsS (srtS s) (srtS t) := by unfold meetsQ meetsS; rw [hn]; rfl
  have SR1 := Lib.hid (fun w => sorted_any s w)
  have SR2 := Lib.hid (fun w => sorted_any t w)
  generalize meetsQ s t = res at HM ⊢
  generalize srtS s = S at hs hS1 hS2 HM SR1
  generalize srtS t = T at ht hT1 hT2 HM SR2
  have O1 := Lib.hid (fun w => orient_any S.1 S.2 T.1 hS1 hS2 hT1 w)
  have O2 := Lib.hid (fun w => orient_any S.1 S.2 T.2 hS1 hS2 hT2 w)
  have O3 := Lib.hid (fun w => orient_any T.1 T.2 S.1 hT1 hT2 hS1 w)
  have O4 := Lib.hid (fun w => orient_any T.1 T.2 S.2 hT1 hT2 hS2 w)
  have OL := Lib.hid (fun w => online_any S T hs ht w)
  have eq1 := eql_seg S T
  have eq2 := eql_point S.1 S.2
  have eq3 := eql_point T.1 T.2
  have eqg := eg37
  have eqs := eg39
  obtain ⟨d1, hd1⟩ : ∃ z, z = decide (S = T) := ⟨_, rfl⟩
  obtain ⟨d2, hd2⟩ : ∃ z, z = decide (S.1 = S.2) := ⟨_, rfl⟩
  obtain ⟨d3, hd3⟩ : ∃ z, z = decide (T.1 = T.2) := ⟨_, rfl⟩
  have HM2 := Lib.hid (HM.trans (meetsS_flat d1 d2 d3 S T hd1 hd2 hd3))
  rw [← hd1] at eq1
  rw [← hd2] at eq2
  rw [← hd3] at eq3
  have ba := sgn_bd (crs S.1 S.2 T.1)
  have bb := sgn_bd (crs S.1 S.2 T.2)
  have bc := sgn_bd (crs T.1 T.2 S.1)
  have bd := sgn_bd (crs T.1 T.2 S.2)
  generalize sgn (crs S.1 S.2 T.1) = a at O1 HM2 ba
  generalize sgn (crs S.1 S.2 T.2) = b at O2 HM2 bb
  generalize sgn (crs T.1 T.2 S.1) = c at O3 HM2 bc
  generalize sgn (crs T.1 T.2 S.2) = d at O4 HM2 bd
  generalize lineQ S T = lq at OL HM2
  clear HM hd1 hd2 hd3 hs ht hS1 hS2 hT1 hT2 hn hn2
  have wab := mul_bd ba bb
  have wcd := mul_bd bc bd
  have w1 : wrap64 (a * b) = a * b := IntWalk.wrap64_in _ (by omega)
  have w2' : wrap64 (c * d) = c * d := IntWalk.wrap64_in _ (by omega)
  clear wab wcd ba bb bc bd
  obtain ⟨⟨ax, ay⟩, ⟨bx, by1⟩⟩ := s
  obtain ⟨⟨cx, cy⟩, ⟨dx, dy⟩⟩ := t
  obtain ⟨⟨px, py⟩, ⟨qx, qy⟩⟩ := S
  obtain ⟨⟨rx, ry⟩, ⟨ux, uy⟩⟩ := T
  simp only [] at NR SR1 SR2 O1 O2 O3 O4 OL eq1 eq2 eq3 ⊢
  have W1 := Lib.hid w1
  have W2 := Lib.hid w2'
  clear w1 w2'
  go_enter Tryz.func107, Tryz.ntmps107
  go_wp2_with fail
  have H1 := row_past (o' := .cells #[.int .i64 ax, .int .i64 ay, .int .i64 bx, .int .i64 by1, .int .i64 cx, .int .i64 cy, .int .i64 dx, .int .i64 dy] 33) (row_past (o' := .cells #[.int .i64 cx, .int .i64 cy, .int .i64 dx, .int .i64 dy] 48) (row_new w (.cells #[.int .i64 ax, .int .i64 ay, .int .i64 bx, .int .i64 by1] 48)))
  have H2 := row_past (o' := .cells #[.int .i64 ax, .int .i64 ay, .int .i64 bx, .int .i64 by1, .int .i64 cx, .int .i64 cy, .int .i64 dx, .int .i64 dy] 33) (row_new1 w (.cells #[.int .i64 ax, .int .i64 ay, .int .i64 bx, .int .i64 by1] 48) (.cells #[.int .i64 cx, .int .i64 cy, .int .i64 dx, .int .i64 dy] 48))
  have H3 := row_new2 w (.cells #[.int .i64 ax, .int .i64 ay, .int .i64 bx, .int .i64 by1] 48) (.cells #[.int .i64 cx, .int .i64 cy, .int .i64 dx, .int .i64 dy] 48) (.cells #[.int .i64 ax, .int .i64 ay, .int .i64 bx, .int .i64 by1, .int .i64 cx, .int .i64 cy, .int .i64 dx, .int .i64 dy] 33)
  have B1 : Below w.heap.size w (((w.alloc (.cells #[.int .i64 ax, .int .i64 ay, .int .i64 bx, .int .i64 by1] 48)).alloc (.cells #[.int .i64 cx, .int .i64 cy, .int .i64 dx, .int .i64 dy] 48)).alloc (.cells #[.int .i64 ax, .int .i64 ay, .int .i64 bx, .int .i64 by1, .int .i64 cx, .int .i64 cy, .int .i64 dx, .int .i64 dy] 33)) := (by repeat' (first | exact Below.refl _ _ | refine Below.drew ?_ | refine Below.drewN' ?_ | refine Below.setCell ?_ (by first | omega | (simp; done) | exact Below.size (by assumption) | (simp; omega)) _ | refine Below.alloc ?_ (by first | omega | (simp; done) | exact Below.size (by assumption) | (simp; omega)) _ | refine Below.trans ?_ (Below.mono (by assumption) ?_) | (first | omega | (simp; done) | exact Below.size (by assumption) | (simp; omega))))
  generalize hw1 : ((w.alloc (.cells #[.int .i64 ax, .int .i64 ay, .int .i64 bx, .int .i64 by1] 48)).alloc (.cells #[.int .i64 cx, .int .i64 cy, .int .i64 dx, .int .i64 dy] 48)).alloc (.cells #[.int .i64 ax, .int .i64 ay, .int .i64 bx, .int .i64 by1, .int .i64 cx, .int .i64 cy, .int .i64 dx, .int .i64 dy] 33) = w1
  rw [hw1] at H1 H2 H3 B1
  have hzz : w.heap.size + 3 ≤ w1.heap.size := by rw [← hw1]; simp
  have H1 := Lib.hid H1
  have H2 := Lib.hid H2
  clear hw1
  refine (NR.out _ w1 (RowE.of_block (l := [(ax, ay), (bx, by1), (cx, cy), (dx, dy)]) encPt_len rfl H3 4 rfl)).mono ?_
  rintro e w2 ⟨rfl, hb⟩
  have B2 := below_step B1 (Nat.le_refl _) hb
  have hzz2 := hb.size
  replace H1 := Lib.hid (row_later hb H1.out)
  replace H2 := Lib.hid (row_later hb H2.out)
  clear hb H3 B1 NR
  obtain ⟨az, a0, a1, a2, a3⟩ := rk4 H1.out
  have af0 := frozen_of_row w2 _ 0 _ _ H1.out
  have af1 := frozen_of_row w2 _ 1 _ _ H1.out
  have af2 := frozen_of_row w2 _ 2 _ _ H1.out
  have af3 := frozen_of_row w2 _ 3 _ _ H1.out
  obtain ⟨bz, b0, b1, b2, b3⟩ := rk4 H2.out
  have bf0 := frozen_of_row w2 _ 0 _ _ H2.out
  have bf1 := frozen_of_row w2 _ 1 _ _ H2.out
  have bf2 := frozen_of_row w2 _ 2 _ _ H2.out
  have bf3 := frozen_of_row w2 _ 3 _ _ H2.out
  go_upto_region 3 with fail
  have hne : w.heap.size ≠ w.heap.size + 1 := by omega
  have K0 := seg2_start a0 a1 a2 a3 b0 b1 b2 b3 af0 af1 af2 af3 bf0 bf1 bf2 bf3
  have K0h := Lib.hid K0
  obtain ⟨a0, a1, a2, a3, b0, b1, b2, b3, af0, af1, af2, af3, bf0, bf1, bf2, bf3, -⟩ := K0
  go_cut [] from 20 to 23 (fun wx => wx.heap[w.heap.size]? = some (.cells #[.int .i64 px, .int .i64 py, .int .i64 qx, .int .i64 qy] 48) ∧ wx.heap[w.heap.size + 1]? = some (.cells #[.int .i64 rx, .int .i64 ry, .int .i64 ux, .int .i64 uy] 48) ∧ Below w.heap.size w wx)
  case first =>
   go_region_with (first
    |(go_at_call 49; (with_reducible refine (SR1.out _).mono ?_); rintro e wq ⟨rfl, hb⟩; have K1 := seg2_later K0h.out hb; have K1h := Lib.hid K1; obtain ⟨g0, g1, g2, g3, h0, h1, h2, h3, gf0, gf1, gf2, gf3, hf0, hf1, hf2, hf3, -⟩ := K1)
    |(go_at_call 49; (with_reducible refine (SR2.out _).mono ?_); rintro e wr ⟨rfl, hb2⟩; have K2 := seg2_later K1h.out hb2; have K2h := Lib.hid K2; obtain ⟨k0, k1, k2, k3, l0, l1, l2, l3, kf0, kf1, kf2, kf3, lf0, lf1, lf2, lf3, -⟩ := K2))
   all_goals (
    have KB := seg2_below K2h.out
    have R1 := row_later KB H1.out
    have R2 := row_later KB H2.out
    have G3 := set4_other (g := w.heap.size + 1) (x := .int .i64 rx) (y := .int .i64 ry) (z := .int .i64 ux) (u := .int .i64 uy) (set4_row (x := .int .i64 px) (y := .int .i64 py) (z := .int .i64 qx) (u := .int .i64 qy) R1) hne
    have G4 := set4_row (x := .int .i64 rx) (y := .int .i64 ry) (z := .int .i64 ux) (u := .int .i64 uy) (set4_other (g := w.heap.size) (x := .int .i64 px) (y := .int .i64 py) (z := .int .i64 qx) (u := .int .i64 qy) R2 hne.symm)
    have BB := set4_below (g := w.heap.size + 1) (x := .int .i64 rx) (y := .int .i64 ry) (z := .int .i64 ux) (u := .int .i64 uy) (set4_below (g := w.heap.size) (x := .int .i64 px) (y := .int .i64 py) (z := .int .i64 qx) (u := .int .i64 qy) (below_step B2 (Nat.le_refl _) KB) (Nat.le_refl _)) (by omega)
    clear K0h K1h K2h R1 R2 KB a0 a1 a2 a3 b0 b1 b2 b3 af0 af1 af2 af3 bf0 bf1 bf2 bf3 g0 g1 g2 g3 h0 h1 h2 h3 gf0 gf1 gf2 gf3 hf0 hf1 hf2 hf3 k0 k1 k2 k3 l0 l1 l2 l3 kf0 kf1 kf2 kf3 lf0 lf1 lf2 lf3
    go_wp2
    go_meet
    case rel => exact ⟨G3, G4, BB⟩)
  case rest =>
   obtain ⟨R1, R2, BC⟩ := hcut
   clear K0h a0 a1 a2 a3 b0 b1 b2 b3 af0 af1 af2 af3 bf0 bf1 bf2 bf3 az bz H1 H2 B2 SR1 SR2
   have H1 := Lib.hid R1
   have H2 := Lib.hid R2
   clear R1 R2
   cases d1 with
   |true =>
    have HE := Lib.hid (show res = 4 from HM2.out)
    obtain ⟨az, a0, a1, a2, a3⟩ := rk4 H1.out
    obtain ⟨bz, b0, b1, b2, b3⟩ := rk4 H2.out
    go_wp2
    go_ret
    exact ⟨by rw [HE.out] <;> rfl, BC⟩
   |false =>
    have HM3 := Lib.hid (show res = if d2 = true ∨ d3 = true ∨ (a = 0 ∧ b = 0) then lq else if 0 < a * b ∨ 0 < c * d then 0 else if a * b < 0 ∧ c * d < 0 then 3 else if a * b = 0 ∧ c * d = 0 then 1 else 2 from HM2.out)
    clear HM2
    cases d2 with
    |true =>
     clear eq3 O1 O2 O3 O4
     obtain ⟨az, a0, a1, a2, a3⟩ := rk4 H1.out
     obtain ⟨bz, b0, b1, b2, b3⟩ := rk4 H2.out
     have HE := Lib.hid (show res = lq from HM3.out.trans (if_pos (Or.inl rfl)))
     go_wp2_with fail
     refine (OL.out _).mono ?_
     rintro e w9 ⟨rfl, hb⟩
     have B9 := below_step BC (Nat.le_refl _) hb
     clear a0 a1 a2 a3 az
     clear b0 b1 b2 b3 bz
     clear hb BC
     go_wp2
     go_ret
     exact ⟨by rw [HE.out] <;> rfl, B9⟩
    |false =>
     cases d3 with
     |true =>
      clear O1 O2 O3 O4
      obtain ⟨az, a0, a1, a2, a3⟩ := rk4 H1.out
      obtain ⟨bz, b0, b1, b2, b3⟩ := rk4 H2.out
      have HE := Lib.hid (show res = lq from HM3.out.trans (if_pos (Or.inr (Or.inl rfl))))
      go_wp2_with fail
      refine (OL.out _).mono ?_
      rintro e w9 ⟨rfl, hb⟩
      have B9 := below_step BC (Nat.le_refl _) hb
      clear a0 a1 a2 a3 az
      clear b0 b1 b2 b3 bz
      clear hb BC
      go_wp2
      go_ret
      exact ⟨by rw [HE.out] <;> rfl, B9⟩
     |false =>
      obtain ⟨az, a0, a1, a2, a3⟩ := rk4 H1.out
      obtain ⟨bz, b0, b1, b2, b3⟩ := rk4 H2.out
      go_wp2_with fail
      refine (O1.out _).mono ?_
      rintro e w3 ⟨rfl, hb⟩
      have B3 := below_step BC (Nat.le_refl _) hb
      replace H1 := Lib.hid (row_later hb H1.out)
      replace H2 := Lib.hid (row_later hb H2.out)
      clear a0 a1 a2 a3 az
      clear b0 b1 b2 b3 bz
      clear hb
      by_cases ha : a = 0
      ·have had : (a == 0) = true := by rw [beq_iff_eq]; exact ha
       have HA := Lib.hid ha
       clear ha
       obtain ⟨az, a0, a1, a2, a3⟩ := rk4 H1.out
       obtain ⟨bz, b0, b1, b2, b3⟩ := rk4 H2.out
       go_wp2_with fail
       refine (O2.out _).mono ?_
       rintro e w4 ⟨rfl, hb⟩
       have B4 := below_step B3 (Nat.le_refl _) hb
       replace H1 := Lib.hid (row_later hb H1.out)
       replace H2 := Lib.hid (row_later hb H2.out)
       clear a0 a1 a2 a3 az
       clear b0 b1 b2 b3 bz
       clear hb
       by_cases hb0 : b = 0
       ·have hbd : (b == 0) = true := by rw [beq_iff_eq]; exact hb0
        have HB := Lib.hid hb0
        clear hb0
        obtain ⟨az, a0, a1, a2, a3⟩ := rk4 H1.out
        obtain ⟨bz, b0, b1, b2, b3⟩ := rk4 H2.out
        have HE := Lib.hid (show res = lq from HM3.out.trans (if_pos (Or.inr (Or.inr ⟨HA.out, HB.out⟩))))
        go_wp2_with fail
        refine (OL.out _).mono ?_
        rintro e w9 ⟨rfl, hb⟩
        have B9 := below_step B4 (Nat.le_refl _) hb
        clear a0 a1 a2 a3 az
        clear b0 b1 b2 b3 bz
        clear hb B4
        go_wp2
        go_ret
        exact ⟨by rw [HE.out] <;> rfl, B9⟩
       ·have hbd : (b == 0) = false := by rw [beq_eq_false_iff_ne]; exact hb0
        have HM4 := Lib.hid (show res = if 0 < a * b ∨ 0 < c * d then 0 else if a * b < 0 ∧ c * d < 0 then 3 else if a * b = 0 ∧ c * d = 0 then 1 else 2 from HM3.out.trans (if_neg (by rintro (h | h | h); cases h; cases h; exact hb0 h.2)))
        clear hb0 HM3
        obtain ⟨az, a0, a1, a2, a3⟩ := rk4 H1.out
        obtain ⟨bz, b0, b1, b2, b3⟩ := rk4 H2.out
        go_wp2_with fail
        have qa0 := cell_belowBy a0
        have qa1 := cell_belowBy a1
        have qa2 := cell_belowBy a2
        have qa3 := cell_belowBy a3
        have qb0 := cell_belowBy b0
        have qb1 := cell_belowBy b1
        have qb2 := cell_belowBy b2
        have qb3 := cell_belowBy b3
        clear a0 a1 a2 a3 az
        clear b0 b1 b2 b3 bz
        refine wp_region_quiet_below mixed (by kernel_rfl) ?_
        iterate 7 (go_big_quiet_step ((go_at_call 50; exact calls_belowBy (O1.out _))))
        repeat (go_big_quiet_step ((go_at_call 50; exact calls_belowBy (O2.out _))))
        refine wpQuiet_nil ?_
        intro w7 hw'
        obtain ⟨⟨wq, hbq⟩, hw''⟩ := hw'
        subst hw''
        have B7 := below_step B4 (Nat.le_refl _) hbq
        replace H1 := Lib.hid (row_later hbq H1.out)
        replace H2 := Lib.hid (row_later hbq H2.out)
        clear hbq qa0 qa1 qa2 qa3 qb0 qb1 qb2 qb3
        obtain ⟨az, a0, a1, a2, a3⟩ := rk4 H1.out
        obtain ⟨bz, b0, b1, b2, b3⟩ := rk4 H2.out
        go_wp2_with fail
        have qa0 := cell_belowBy a0
        have qa1 := cell_belowBy a1
        have qa2 := cell_belowBy a2
        have qa3 := cell_belowBy a3
        have qb0 := cell_belowBy b0
        have qb1 := cell_belowBy b1
        have qb2 := cell_belowBy b2
        have qb3 := cell_belowBy b3
        clear a0 a1 a2 a3 az
        clear b0 b1 b2 b3 bz
        refine wp_region_quiet_below mixed (by kernel_rfl) ?_
        iterate 7 (go_big_quiet_step ((go_at_call 50; exact calls_belowBy (O3.out _))))
        repeat (go_big_quiet_step ((go_at_call 50; exact calls_belowBy (O4.out _))))
        refine wpQuiet_nil ?_
        intro w8 hw'
        obtain ⟨⟨wq, hbq⟩, hw''⟩ := hw'
        subst hw''
        have B8 := below_step B7 (Nat.le_refl _) hbq
        replace H1 := Lib.hid (row_later hbq H1.out)
        replace H2 := Lib.hid (row_later hbq H2.out)
        clear hbq qa0 qa1 qa2 qa3 qb0 qb1 qb2 qb3
        clear O1 O2 O3 O4 OL H1 H2
        obtain ⟨m1, hm1⟩ : ∃ z, z = a * b := ⟨_, rfl⟩
        obtain ⟨m2, hm2⟩ : ∃ z, z = c * d := ⟨_, rfl⟩
        have wm1 := W1.out.trans hm1.symm
        have wm2 := W2.out.trans hm2.symm
        have HM5 := HM4.out
        rw [← hm1] at HM5
        rw [← hm2] at HM5
        clear hm1 hm2 HM4 W1 W2
        by_cases p1 : 0 < m1
        ·have e1 : decide (0 < m1) = true := decide_eq_true p1
         have HE := Lib.hid (show res = 0 by rw [HM5, if_pos (Or.inl p1)])
         clear p1 HM5
         go_wp2
         go_ret
         exact ⟨by rw [HE.out] <;> rfl, B8⟩
        have e1 : decide (0 < m1) = false := decide_eq_false p1
        by_cases p2 : 0 < m2
        ·have e2 : decide (0 < m2) = true := decide_eq_true p2
         have HE := Lib.hid (show res = 0 by rw [HM5, if_pos (Or.inr p2)])
         clear p1 p2 HM5
         go_wp2
         go_ret
         exact ⟨by rw [HE.out] <;> rfl, B8⟩
        have e2 : decide (0 < m2) = false := decide_eq_false p2
        rw [if_neg (by rintro (h | h); exact p1 h; exact p2 h)] at HM5
        by_cases p3 : m1 < 0
        ·have e3 : decide (m1 < 0) = true := decide_eq_true p3
         have e4 : (m1 == 0) = false := by rw [beq_eq_false_iff_ne]; omega
         by_cases p4 : m2 < 0
         ·have e5 : decide (m2 < 0) = true := decide_eq_true p4
          have HE := Lib.hid (show res = 3 by rw [HM5, if_pos ⟨p3, p4⟩])
          clear p1 p2 p3 p4 HM5
          go_wp2
          go_ret
          exact ⟨by rw [HE.out] <;> rfl, B8⟩
         ·have e5 : decide (m2 < 0) = false := decide_eq_false p4
          have HE := Lib.hid (show res = 2 by rw [HM5, if_neg (fun h => p4 h.2), if_neg (fun h => by have := h.1; omega)])
          clear p1 p2 p3 p4 HM5
          go_wp2
          go_ret
          exact ⟨by rw [HE.out] <;> rfl, B8⟩
        have e3 : decide (m1 < 0) = false := decide_eq_false p3
        have e4 : (m1 == 0) = true := by rw [beq_iff_eq]; omega
        rw [if_neg (fun h => p3 h.1)] at HM5
        by_cases p4 : m2 = 0
        ·have e5 : (m2 == 0) = true := by rw [beq_iff_eq]; exact p4
         have HE := Lib.hid (show res = 1 by rw [HM5, if_pos ⟨by omega, p4⟩])
         clear p1 p2 p3 p4 HM5
         go_wp2
         go_ret
         exact ⟨by rw [HE.out] <;> rfl, B8⟩
        ·have e5 : (m2 == 0) = false := by rw [beq_eq_false_iff_ne]; exact p4
         have HE := Lib.hid (show res = 2 by rw [HM5, if_neg (fun h => p4 h.2)])
         clear p1 p2 p3 p4 HM5
         go_wp2
         go_ret
         exact ⟨by rw [HE.out] <;> rfl, B8⟩
      ·have had : (a == 0) = false := by rw [beq_eq_false_iff_ne]; exact ha
       have HM4 := Lib.hid (show res = if 0 < a * b ∨ 0 < c * d then 0 else if a * b < 0 ∧ c * d < 0 then 3 else if a * b = 0 ∧ c * d = 0 then 1 else 2 from HM3.out.trans (if_neg (by rintro (h | h | h); cases h; cases h; exact ha h.1)))
       clear ha HM3
       obtain ⟨az, a0, a1, a2, a3⟩ := rk4 H1.out
       obtain ⟨bz, b0, b1, b2, b3⟩ := rk4 H2.out
       go_wp2_with fail
       have qa0 := cell_belowBy a0
       have qa1 := cell_belowBy a1
       have qa2 := cell_belowBy a2
       have qa3 := cell_belowBy a3
       have qb0 := cell_belowBy b0
       have qb1 := cell_belowBy b1
       have qb2 := cell_belowBy b2
       have qb3 := cell_belowBy b3
       clear a0 a1 a2 a3 az
       clear b0 b1 b2 b3 bz
       refine wp_region_quiet_below mixed (by kernel_rfl) ?_
       iterate 7 (go_big_quiet_step ((go_at_call 50; exact calls_belowBy (O1.out _))))
       repeat (go_big_quiet_step ((go_at_call 50; exact calls_belowBy (O2.out _))))
       refine wpQuiet_nil ?_
       intro w7 hw'
       obtain ⟨⟨wq, hbq⟩, hw''⟩ := hw'
       subst hw''
       have B7 := below_step B3 (Nat.le_refl _) hbq
       replace H1 := Lib.hid (row_later hbq H1.out)
       replace H2 := Lib.hid (row_later hbq H2.out)
       clear hbq qa0 qa1 qa2 qa3 qb0 qb1 qb2 qb3
       obtain ⟨az, a0, a1, a2, a3⟩ := rk4 H1.out
       obtain ⟨bz, b0, b1, b2, b3⟩ := rk4 H2.out
       go_wp2_with fail
       have qa0 := cell_belowBy a0
       have qa1 := cell_belowBy a1
       have qa2 := cell_belowBy a2
       have qa3 := cell_belowBy a3
       have qb0 := cell_belowBy b0
       have qb1 := cell_belowBy b1
       have qb2 := cell_belowBy b2
       have qb3 := cell_belowBy b3
       clear a0 a1 a2 a3 az
       clear b0 b1 b2 b3 bz
       refine wp_region_quiet_below mixed (by kernel_rfl) ?_
       iterate 7 (go_big_quiet_step ((go_at_call 50; exact calls_belowBy (O3.out _))))
       repeat (go_big_quiet_step ((go_at_call 50; exact calls_belowBy (O4.out _))))
       refine wpQuiet_nil ?_
       intro w8 hw'
       obtain ⟨⟨wq, hbq⟩, hw''⟩ := hw'
       subst hw''
       have B8 := below_step B7 (Nat.le_refl _) hbq
       replace H1 := Lib.hid (row_later hbq H1.out)
       replace H2 := Lib.hid (row_later hbq H2.out)
       clear hbq qa0 qa1 qa2 qa3 qb0 qb1 qb2 qb3
       clear O1 O2 O3 O4 OL H1 H2
       obtain ⟨m1, hm1⟩ : ∃ z, z = a * b := ⟨_, rfl⟩
       obtain ⟨m2, hm2⟩ : ∃ z, z = c * d := ⟨_, rfl⟩
       have wm1 := W1.out.trans hm1.symm
       have wm2 := W2.out.trans hm2.symm
       have HM5 := HM4.out
       rw [← hm1] at HM5
       rw [← hm2] at HM5
       clear hm1 hm2 HM4 W1 W2
       by_cases p1 : 0 < m1
       ·have e1 : decide (0 < m1) = true := decide_eq_true p1
        have HE := Lib.hid (show res = 0 by rw [HM5, if_pos (Or.inl p1)])
        clear p1 HM5
        go_wp2
        go_ret
        exact ⟨by rw [HE.out] <;> rfl, B8⟩
       have e1 : decide (0 < m1) = false := decide_eq_false p1
       by_cases p2 : 0 < m2
       ·have e2 : decide (0 < m2) = true := decide_eq_true p2
        have HE := Lib.hid (show res = 0 by rw [HM5, if_pos (Or.inr p2)])
        clear p1 p2 HM5
        go_wp2
        go_ret
        exact ⟨by rw [HE.out] <;> rfl, B8⟩
       have e2 : decide (0 < m2) = false := decide_eq_false p2
       rw [if_neg (by rintro (h | h); exact p1 h; exact p2 h)] at HM5
       by_cases p3 : m1 < 0
       ·have e3 : decide (m1 < 0) = true := decide_eq_true p3
        have e4 : (m1 == 0) = false := by rw [beq_eq_false_iff_ne]; omega
        by_cases p4 : m2 < 0
        ·have e5 : decide (m2 < 0) = true := decide_eq_true p4
         have HE := Lib.hid (show res = 3 by rw [HM5, if_pos ⟨p3, p4⟩])
         clear p1 p2 p3 p4 HM5
         go_wp2
         go_ret
         exact ⟨by rw [HE.out] <;> rfl, B8⟩
        ·have e5 : decide (m2 < 0) = false := decide_eq_false p4
         have HE := Lib.hid (show res = 2 by rw [HM5, if_neg (fun h => p4 h.2), if_neg (fun h => by have := h.1; omega)])
         clear p1 p2 p3 p4 HM5
         go_wp2
         go_ret
         exact ⟨by rw [HE.out] <;> rfl, B8⟩
       have e3 : decide (m1 < 0) = false := decide_eq_false p3
       have e4 : (m1 == 0) = true := by rw [beq_iff_eq]; omega
       rw [if_neg (fun h => p3 h.1)] at HM5
       by_cases p4 : m2 = 0
       ·have e5 : (m2 == 0) = true := by rw [beq_iff_eq]; exact p4
        have HE := Lib.hid (show res = 1 by rw [HM5, if_pos ⟨by omega, p4⟩])
        clear p1 p2 p3 p4 HM5
        go_wp2
        go_ret
        exact ⟨by rw [HE.out] <;> rfl, B8⟩
       ·have e5 : (m2 == 0) = false := by rw [beq_eq_false_iff_ne]; exact p4
        have HE := Lib.hid (show res = 2 by rw [HM5, if_neg (fun h => p4 h.2)])
        clear p1 p2 p3 p4 HM5
        go_wp2
        go_ret
        exact ⟨by rw [HE.out] <;> rfl, B8⟩
end Go.Proofs.YtibpaaajghbkoaaGreat
