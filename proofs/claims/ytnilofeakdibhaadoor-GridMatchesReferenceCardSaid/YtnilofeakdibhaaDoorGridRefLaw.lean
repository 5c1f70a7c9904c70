/- GridMatchesReference: the walk. -/
import Derived.Test.YtnilofeakdibhaaDoorGridRF
import Derived.Test.YtnilofeakdibhaaDoorGridRH
import Derived.Test.YtnilofeakdibhaaDoorGridI
namespace Go.Proofs.YtnilofeakdibhaaDoor
open Go.RowKit

set_option maxRecDepth 100000 in
set_option maxHeartbeats 1000000 in
theorem refLaw_long (x y z tz tx ty a b c d : Int) (s : ByteArray) (hs : 100 < s.size) (w : World) (he : Env w) :
    Calls Tryd.prog 8 #[.agg #[.int .i64 x, .int .i64 y], .int .i64 z, .agg #[.int .i64 tz, .int .i64 tx, .int .i64 ty], .agg #[.int .i64 a, .int .i64 b, .int .i64 c, .int .i64 d], .string s] w fun e w' => e = .returned (.bool true) ∧ Below w.heap.size w w' := by
  have HE := Lib.hid he
  clear he
  go_enter Tryd.func8, Tryd.ntmps8
  go_wp2_with fail
  refine (head_true _ (HE.out.later (by repeat' (first | exact Below.refl _ _ | refine Below.drew ?_ | refine Below.drewN' ?_ | refine Below.setCell ?_ (by first | omega | (simp; done) | exact Below.size (by assumption) | (simp; omega)) _ | refine Below.alloc ?_ (by first | omega | (simp; done) | exact Below.size (by assumption) | (simp; omega)) _ | refine Below.trans ?_ (Below.mono (by assumption) ?_) | (first | omega | (simp; done) | exact Below.size (by assumption) | (simp; omega)))))).mono ?_; rintro e w1 ⟨rfl, hb1⟩
  have B1 : Below w.heap.size w w1 := below_step ((((Below.refl _ _).alloc (Nat.le_refl _) _).alloc (by simp) _).alloc (by simp; omega) _) (Nat.le_refl _) hb1
  clear hb1
  go_wp2
  go_ret
  refine ⟨rfl, ?_⟩
  repeat' (first | exact Below.refl _ _ | refine Below.drew ?_ | refine Below.drewN' ?_ | refine Below.setCell ?_ (by first | omega | (simp; done) | exact Below.size (by assumption) | (simp; omega)) _ | refine Below.alloc ?_ (by first | omega | (simp; done) | exact Below.size (by assumption) | (simp; omega)) _ | refine Below.trans ?_ (Below.mono (by assumption) ?_) | (first | omega | (simp; done) | exact Below.size (by assumption) | (simp; omega)))


set_option maxRecDepth 100000 in
set_option maxHeartbeats 4000000 in
theorem refLaw_short (x y z tz tx ty a b c d : Int) (s : ByteArray) (hs : s.size ≤ 100) (w : World) (he : Env w) :
    Calls Tryd.prog 8 #[.agg #[.int .i64 x, .int .i64 y], .int .i64 z, .agg #[.int .i64 tz, .int .i64 tx, .int .i64 ty], .agg #[.int .i64 a, .int .i64 b, .int .i64 c, .int .i64 d], .string s] w fun e w' => e = .returned (.bool true) ∧ Below w.heap.size w w' := by
  have HE := Lib.hid he
  clear he
  obtain ⟨OZ, OX, OY, OE, o1, o2⟩ := of_both x y z
  obtain ⟨XA, XB, XC, XD, XE, x1, x2⟩ := box_both tz tx ty
  obtain ⟨UZ, UX, UY, UE, u1, u2⟩ := up_both tz tx ty
  obtain ⟨KL, KE, klen, k1, k2⟩ := kids_both tz tx ty
  obtain ⟨CL, CE, clen, c1, c2⟩ := cover_both a b c d z
  obtain ⟨PX, PY, PE, p1, p2⟩ := pixel_both tz tx ty x y
  obtain ⟨TS, TE, t1, t2⟩ := text_both tz tx ty
  obtain ⟨QZ, QX, QY, QE, q1, q2⟩ := parse_both s (by omega)
  have HO1 := Lib.hid o1
  have HO2 := Lib.hid o2
  have HX1 := Lib.hid x1
  have HX2 := Lib.hid x2
  have HU1 := Lib.hid u1
  have HU2 := Lib.hid u2
  have HK1 := Lib.hid k1
  have HK2 := Lib.hid k2
  have HC1 := Lib.hid c1
  have HC2 := Lib.hid c2
  have HP1 := Lib.hid p1
  have HP2 := Lib.hid p2
  have HT1 := Lib.hid t1
  have HT2 := Lib.hid t2
  have HQ1 := Lib.hid q1
  have HQ2 := Lib.hid q2
  clear o1 o2 x1 x2 u1 u2 k1 k2 c1 c2 p1 p2 t1 t2 q1 q2
  go_enter Tryd.func8, Tryd.ntmps8
  go_wp2_with fail
  refine (head_true _ (HE.out.later (by repeat' (first | exact Below.refl _ _ | refine Below.drew ?_ | refine Below.drewN' ?_ | refine Below.setCell ?_ (by first | omega | (simp; done) | exact Below.size (by assumption) | (simp; omega)) _ | refine Below.alloc ?_ (by first | omega | (simp; done) | exact Below.size (by assumption) | (simp; omega)) _ | refine Below.trans ?_ (Below.mono (by assumption) ?_) | (first | omega | (simp; done) | exact Below.size (by assumption) | (simp; omega)))))).mono ?_; rintro e w1 ⟨rfl, hb1⟩
  have B1 : Below w.heap.size w w1 := below_step ((((Below.refl _ _).alloc (Nat.le_refl _) _).alloc (by simp) _).alloc (by simp; omega) _) (Nat.le_refl _) hb1
  have S1 := hb1.size; simp at S1
  have GP := Lib.hid (row_later hb1 (row_past (row_past (row_new w _))))
  have GT := Lib.hid (row_later hb1 (row_past (row_new1 w _ _)))
  have GB := Lib.hid (row_later hb1 (row_new2 w _ _ _))
  clear hb1
  have H := GP.out
  have gpz := lt_of_block H
  have gp0 := cell_of_row w1 _ 0 _ _ _ H
  have gp1 := cell_of_row w1 _ 1 _ _ _ H
  simp only [List.getElem?_toArray, List.getElem?_cons_zero, List.getElem?_cons_succ] at gp0 gp1
  have H' := Lib.hid H
  clear H
  clear H'
  go_wp2_with fail
  refine (HO1.out _).mono ?_; rintro e w2 ⟨rfl, hb⟩
  have B2 := below_step B1 (Nat.le_refl _) hb
  have S2 := hb.size
  have GP := Lib.hid (row_later hb GP.out)
  have GT := Lib.hid (row_later hb GT.out)
  have GB := Lib.hid (row_later hb GB.out)
  clear hb gp0 gp1 gpz
  have H := GP.out
  have gpz := lt_of_block H
  have gp0 := cell_of_row w2 _ 0 _ _ _ H
  have gp1 := cell_of_row w2 _ 1 _ _ _ H
  simp only [List.getElem?_toArray, List.getElem?_cons_zero, List.getElem?_cons_succ] at gp0 gp1
  have H' := Lib.hid H
  clear H
  clear H'
  go_wp2_with fail
  refine (HO2.out _).mono ?_; rintro e w3 ⟨rfl, hb⟩
  have B3 := below_step (B2.alloc B2.size _) (Nat.le_refl _) hb
  have S3 := hb.size
  simp at S3
  have hb' := below_step ((Below.refl _ _).alloc (Nat.le_refl _) _) (Nat.le_refl _) hb
  have GP := Lib.hid (row_later hb (row_past GP.out))
  have GT := Lib.hid (row_later hb (row_past GT.out))
  have GB := Lib.hid (row_later hb (row_past GB.out))
  have GA := Lib.hid (row_later hb (row_new w2 _))
  clear hb hb' gp0 gp1 gpz
  have H := GT.out
  have gtz := lt_of_block H
  have gt0 := cell_of_row w3 _ 0 _ _ _ H
  have gt1 := cell_of_row w3 _ 1 _ _ _ H
  have gt2 := cell_of_row w3 _ 2 _ _ _ H
  simp only [List.getElem?_toArray, List.getElem?_cons_zero, List.getElem?_cons_succ] at gt0 gt1 gt2
  have H' := Lib.hid H
  clear H
  clear H'
  go_wp2_with fail
  refine (HX1.out _).mono ?_; rintro e w4 ⟨rfl, hb⟩
  have B4 := below_step (B3.alloc B3.size _) (Nat.le_refl _) hb
  have S4 := hb.size
  simp at S4
  have hb' := below_step ((Below.refl _ _).alloc (Nat.le_refl _) _) (Nat.le_refl _) hb
  have GP := Lib.hid (row_later hb (row_past GP.out))
  have GT := Lib.hid (row_later hb (row_past GT.out))
  have GB := Lib.hid (row_later hb (row_past GB.out))
  have GA := Lib.hid (row_later hb (row_past GA.out))
  have GC := Lib.hid (row_later hb (row_new w3 _))
  clear hb hb' gt0 gt1 gt2 gtz
  have H := GT.out
  have gtz := lt_of_block H
  have gt0 := cell_of_row w4 _ 0 _ _ _ H
  have gt1 := cell_of_row w4 _ 1 _ _ _ H
  have gt2 := cell_of_row w4 _ 2 _ _ _ H
  simp only [List.getElem?_toArray, List.getElem?_cons_zero, List.getElem?_cons_succ] at gt0 gt1 gt2
  have H' := Lib.hid H
  clear H
  clear H'
  go_wp2_with fail
  refine (HX2.out _).mono ?_; rintro e w5 ⟨rfl, hb⟩
  have B5 := below_step (B4.alloc B4.size _) (Nat.le_refl _) hb
  have S5 := hb.size
  simp at S5
  have hb' := below_step ((Below.refl _ _).alloc (Nat.le_refl _) _) (Nat.le_refl _) hb
  have GP := Lib.hid (row_later hb (row_past GP.out))
  have GT := Lib.hid (row_later hb (row_past GT.out))
  have GB := Lib.hid (row_later hb (row_past GB.out))
  have GA := Lib.hid (row_later hb (row_past GA.out))
  have GC := Lib.hid (row_later hb (row_past GC.out))
  have GX := Lib.hid (row_later hb (row_new w4 _))
  clear hb hb' gt0 gt1 gt2 gtz
  have H := GT.out
  have gtz := lt_of_block H
  have gt0 := cell_of_row w5 _ 0 _ _ _ H
  have gt1 := cell_of_row w5 _ 1 _ _ _ H
  have gt2 := cell_of_row w5 _ 2 _ _ _ H
  simp only [List.getElem?_toArray, List.getElem?_cons_zero, List.getElem?_cons_succ] at gt0 gt1 gt2
  have H' := Lib.hid H
  clear H
  clear H'
  go_wp2_with fail
  refine (HU1.out _).mono ?_; rintro e w6 ⟨rfl, hb⟩
  have B6 := below_step (B5.alloc B5.size _) (Nat.le_refl _) hb
  have S6 := hb.size
  simp at S6
  have hb' := below_step ((Below.refl _ _).alloc (Nat.le_refl _) _) (Nat.le_refl _) hb
  have GP := Lib.hid (row_later hb (row_past GP.out))
  have GT := Lib.hid (row_later hb (row_past GT.out))
  have GB := Lib.hid (row_later hb (row_past GB.out))
  have GA := Lib.hid (row_later hb (row_past GA.out))
  have GC := Lib.hid (row_later hb (row_past GC.out))
  have GX := Lib.hid (row_later hb (row_past GX.out))
  have GY := Lib.hid (row_later hb (row_new w5 _))
  clear hb hb' gt0 gt1 gt2 gtz
  have H := GT.out
  have gtz := lt_of_block H
  have gt0 := cell_of_row w6 _ 0 _ _ _ H
  have gt1 := cell_of_row w6 _ 1 _ _ _ H
  have gt2 := cell_of_row w6 _ 2 _ _ _ H
  simp only [List.getElem?_toArray, List.getElem?_cons_zero, List.getElem?_cons_succ] at gt0 gt1 gt2
  have H' := Lib.hid H
  clear H
  clear H'
  go_wp2_with fail
  refine (HU2.out _).mono ?_; rintro e w7 ⟨rfl, hb⟩
  have B7 := below_step (B6.alloc B6.size _) (Nat.le_refl _) hb
  have S7 := hb.size
  simp at S7
  have hb' := below_step ((Below.refl _ _).alloc (Nat.le_refl _) _) (Nat.le_refl _) hb
  have GP := Lib.hid (row_later hb (row_past GP.out))
  have GT := Lib.hid (row_later hb (row_past GT.out))
  have GB := Lib.hid (row_later hb (row_past GB.out))
  have GA := Lib.hid (row_later hb (row_past GA.out))
  have GC := Lib.hid (row_later hb (row_past GC.out))
  have GX := Lib.hid (row_later hb (row_past GX.out))
  have GY := Lib.hid (row_later hb (row_past GY.out))
  have GU := Lib.hid (row_later hb (row_new w6 _))
  clear hb hb' gt0 gt1 gt2 gtz
  have H := GT.out
  have gtz := lt_of_block H
  have gt0 := cell_of_row w7 _ 0 _ _ _ H
  have gt1 := cell_of_row w7 _ 1 _ _ _ H
  have gt2 := cell_of_row w7 _ 2 _ _ _ H
  simp only [List.getElem?_toArray, List.getElem?_cons_zero, List.getElem?_cons_succ] at gt0 gt1 gt2
  have H' := Lib.hid H
  clear H
  clear H'
  go_wp2_with fail
  refine (HK1.out _).mono ?_; rintro e w8 ⟨⟨va, rfl, hs⟩, hb⟩
  have B8 := below_step (B7.alloc B7.size _) (Nat.le_refl _) hb
  have S8 := hb.size
  simp at S8
  have hb' := below_step ((Below.refl _ _).alloc (Nat.le_refl _) _) (Nat.le_refl _) hb
  have GP := Lib.hid (row_later hb (row_past GP.out))
  have GT := Lib.hid (row_later hb (row_past GT.out))
  have GB := Lib.hid (row_later hb (row_past GB.out))
  have GA := Lib.hid (row_later hb (row_past GA.out))
  have GC := Lib.hid (row_later hb (row_past GC.out))
  have GX := Lib.hid (row_later hb (row_past GX.out))
  have GY := Lib.hid (row_later hb (row_past GY.out))
  have GU := Lib.hid (row_later hb (row_past GU.out))
  have GV := Lib.hid (row_later hb (row_new w7 _))
  have Hva := Lib.hid hs
  clear hb hb' hs gt0 gt1 gt2 gtz
  have H := GT.out
  have gtz := lt_of_block H
  have gt0 := cell_of_row w8 _ 0 _ _ _ H
  have gt1 := cell_of_row w8 _ 1 _ _ _ H
  have gt2 := cell_of_row w8 _ 2 _ _ _ H
  simp only [List.getElem?_toArray, List.getElem?_cons_zero, List.getElem?_cons_succ] at gt0 gt1 gt2
  have H' := Lib.hid H
  clear H
  clear H'
  go_wp2_with fail
  refine (HK2.out _).mono ?_; rintro e w9 ⟨⟨vb, rfl, hs⟩, hb⟩
  have B9 := below_step B8 (Nat.le_refl _) hb
  have S9 := hb.size
  have GP := Lib.hid (row_later hb GP.out)
  have GT := Lib.hid (row_later hb GT.out)
  have GB := Lib.hid (row_later hb GB.out)
  have GA := Lib.hid (row_later hb GA.out)
  have GC := Lib.hid (row_later hb GC.out)
  have GX := Lib.hid (row_later hb GX.out)
  have GY := Lib.hid (row_later hb GY.out)
  have GU := Lib.hid (row_later hb GU.out)
  have GV := Lib.hid (row_later hb GV.out)
  have Hva := Lib.hid (Hva.out.later hb)
  have Hvb := Lib.hid hs
  clear hb hs gt0 gt1 gt2 gtz
  have H := GA.out
  have gaz := lt_of_block H
  have ga0 := cell_of_row w9 _ 0 _ _ _ H
  have ga1 := cell_of_row w9 _ 1 _ _ _ H
  have ga2 := cell_of_row w9 _ 2 _ _ _ H
  simp only [List.getElem?_toArray, List.getElem?_cons_zero, List.getElem?_cons_succ] at ga0 ga1 ga2
  have H' := Lib.hid H
  clear H
  clear H'
  have H := GC.out
  have gcz := lt_of_block H
  have gc0 := cell_of_row w9 _ 0 _ _ _ H
  have gc1 := cell_of_row w9 _ 1 _ _ _ H
  have gc2 := cell_of_row w9 _ 2 _ _ _ H
  simp only [List.getElem?_toArray, List.getElem?_cons_zero, List.getElem?_cons_succ] at gc0 gc1 gc2
  have H' := Lib.hid H
  clear H
  clear H'
  have H := GX.out
  have gxz := lt_of_block H
  have gx0 := cell_of_row w9 _ 0 _ _ _ H
  have gx1 := cell_of_row w9 _ 1 _ _ _ H
  have gx2 := cell_of_row w9 _ 2 _ _ _ H
  have gx3 := cell_of_row w9 _ 3 _ _ _ H
  simp only [List.getElem?_toArray, List.getElem?_cons_zero, List.getElem?_cons_succ] at gx0 gx1 gx2 gx3
  have H' := Lib.hid H
  clear H
  clear H'
  have H := GY.out
  have gyz := lt_of_block H
  have gy0 := cell_of_row w9 _ 0 _ _ _ H
  have gy1 := cell_of_row w9 _ 1 _ _ _ H
  have gy2 := cell_of_row w9 _ 2 _ _ _ H
  have gy3 := cell_of_row w9 _ 3 _ _ _ H
  simp only [List.getElem?_toArray, List.getElem?_cons_zero, List.getElem?_cons_succ] at gy0 gy1 gy2 gy3
  have H' := Lib.hid H
  clear H
  clear H'
  have H := GU.out
  have guz := lt_of_block H
  have gu0 := cell_of_row w9 _ 0 _ _ _ H
  have gu1 := cell_of_row w9 _ 1 _ _ _ H
  have gu2 := cell_of_row w9 _ 2 _ _ _ H
  simp only [List.getElem?_toArray, List.getElem?_cons_zero, List.getElem?_cons_succ] at gu0 gu1 gu2
  have H' := Lib.hid H
  clear H
  clear H'
  have H := GV.out
  have gvz := lt_of_block H
  have gv0 := cell_of_row w9 _ 0 _ _ _ H
  have gv1 := cell_of_row w9 _ 1 _ _ _ H
  have gv2 := cell_of_row w9 _ 2 _ _ _ H
  simp only [List.getElem?_toArray, List.getElem?_cons_zero, List.getElem?_cons_succ] at gv0 gv1 gv2
  have H' := Lib.hid H
  clear H
  clear H'
  go_wp2_with fail
  refine (same_any _ _ _ klen _ Hva.out Hvb.out).mono ?_; rintro e w10 ⟨rfl, hb⟩
  have B10 := below_step B9 (Nat.le_refl _) hb
  have S10 := hb.size
  have GP := Lib.hid (row_later hb GP.out)
  have GT := Lib.hid (row_later hb GT.out)
  have GB := Lib.hid (row_later hb GB.out)
  have GA := Lib.hid (row_later hb GA.out)
  have GC := Lib.hid (row_later hb GC.out)
  have GX := Lib.hid (row_later hb GX.out)
  have GY := Lib.hid (row_later hb GY.out)
  have GU := Lib.hid (row_later hb GU.out)
  have GV := Lib.hid (row_later hb GV.out)
  have Hva := Lib.hid (Hva.out.later hb)
  have Hvb := Lib.hid (Hvb.out.later hb)
  clear hb ga0 ga1 ga2 gaz gc0 gc1 gc2 gcz gx0 gx1 gx2 gx3 gxz gy0 gy1 gy2 gy3 gyz gu0 gu1 gu2 guz gv0 gv1 gv2 gvz
  clear GX GY GU GV Hva Hvb
  have H := GB.out
  have gbz := lt_of_block H
  have gb0 := cell_of_row w10 _ 0 _ _ _ H
  have gb1 := cell_of_row w10 _ 1 _ _ _ H
  have gb2 := cell_of_row w10 _ 2 _ _ _ H
  have gb3 := cell_of_row w10 _ 3 _ _ _ H
  simp only [List.getElem?_toArray, List.getElem?_cons_zero, List.getElem?_cons_succ] at gb0 gb1 gb2 gb3
  have H' := Lib.hid H
  clear H
  clear H'
  go_wp2_with fail
  refine (HC1.out _).mono ?_; rintro e w11 ⟨⟨vc, rfl, hs⟩, hb⟩
  have B11 := below_step B10 (Nat.le_refl _) hb
  have S11 := hb.size
  have GP := Lib.hid (row_later hb GP.out)
  have GT := Lib.hid (row_later hb GT.out)
  have GB := Lib.hid (row_later hb GB.out)
  have GA := Lib.hid (row_later hb GA.out)
  have GC := Lib.hid (row_later hb GC.out)
  have Hvc := Lib.hid hs
  clear hb hs gb0 gb1 gb2 gb3 gbz
  have H := GB.out
  have gbz := lt_of_block H
  have gb0 := cell_of_row w11 _ 0 _ _ _ H
  have gb1 := cell_of_row w11 _ 1 _ _ _ H
  have gb2 := cell_of_row w11 _ 2 _ _ _ H
  have gb3 := cell_of_row w11 _ 3 _ _ _ H
  simp only [List.getElem?_toArray, List.getElem?_cons_zero, List.getElem?_cons_succ] at gb0 gb1 gb2 gb3
  have H' := Lib.hid H
  clear H
  clear H'
  go_wp2_with fail
  refine (HC2.out _).mono ?_; rintro e w12 ⟨⟨vd, rfl, hs⟩, hb⟩
  have B12 := below_step B11 (Nat.le_refl _) hb
  have S12 := hb.size
  have GP := Lib.hid (row_later hb GP.out)
  have GT := Lib.hid (row_later hb GT.out)
  have GB := Lib.hid (row_later hb GB.out)
  have GA := Lib.hid (row_later hb GA.out)
  have GC := Lib.hid (row_later hb GC.out)
  have Hvc := Lib.hid (Hvc.out.later hb)
  have Hvd := Lib.hid hs
  clear hb hs gb0 gb1 gb2 gb3 gbz
  clear GB
  have H := GT.out
  have gtz := lt_of_block H
  have gt0 := cell_of_row w12 _ 0 _ _ _ H
  have gt1 := cell_of_row w12 _ 1 _ _ _ H
  have gt2 := cell_of_row w12 _ 2 _ _ _ H
  simp only [List.getElem?_toArray, List.getElem?_cons_zero, List.getElem?_cons_succ] at gt0 gt1 gt2
  have H' := Lib.hid H
  clear H
  clear H'
  have H := GP.out
  have gpz := lt_of_block H
  have gp0 := cell_of_row w12 _ 0 _ _ _ H
  have gp1 := cell_of_row w12 _ 1 _ _ _ H
  simp only [List.getElem?_toArray, List.getElem?_cons_zero, List.getElem?_cons_succ] at gp0 gp1
  have H' := Lib.hid H
  clear H
  clear H'
  go_wp2_with fail
  refine (HP1.out _).mono ?_; rintro e w13 ⟨rfl, hb⟩
  have B13 := below_step B12 (Nat.le_refl _) hb
  have S13 := hb.size
  have GP := Lib.hid (row_later hb GP.out)
  have GT := Lib.hid (row_later hb GT.out)
  have GA := Lib.hid (row_later hb GA.out)
  have GC := Lib.hid (row_later hb GC.out)
  have Hvc := Lib.hid (Hvc.out.later hb)
  have Hvd := Lib.hid (Hvd.out.later hb)
  clear hb gt0 gt1 gt2 gtz gp0 gp1 gpz
  have H := GT.out
  have gtz := lt_of_block H
  have gt0 := cell_of_row w13 _ 0 _ _ _ H
  have gt1 := cell_of_row w13 _ 1 _ _ _ H
  have gt2 := cell_of_row w13 _ 2 _ _ _ H
  simp only [List.getElem?_toArray, List.getElem?_cons_zero, List.getElem?_cons_succ] at gt0 gt1 gt2
  have H' := Lib.hid H
  clear H
  clear H'
  have H := GP.out
  have gpz := lt_of_block H
  have gp0 := cell_of_row w13 _ 0 _ _ _ H
  have gp1 := cell_of_row w13 _ 1 _ _ _ H
  simp only [List.getElem?_toArray, List.getElem?_cons_zero, List.getElem?_cons_succ] at gp0 gp1
  have H' := Lib.hid H
  clear H
  clear H'
  go_wp2_with fail
  refine (HP2.out _).mono ?_; rintro e w14 ⟨rfl, hb⟩
  have B14 := below_step (B13.alloc B13.size _) (Nat.le_refl _) hb
  have S14 := hb.size
  simp at S14
  have hb' := below_step ((Below.refl _ _).alloc (Nat.le_refl _) _) (Nat.le_refl _) hb
  have GP := Lib.hid (row_later hb (row_past GP.out))
  have GT := Lib.hid (row_later hb (row_past GT.out))
  have GA := Lib.hid (row_later hb (row_past GA.out))
  have GC := Lib.hid (row_later hb (row_past GC.out))
  have GM := Lib.hid (row_later hb (row_new w13 _))
  have Hvc := Lib.hid (Hvc.out.later hb')
  have Hvd := Lib.hid (Hvd.out.later hb')
  clear hb hb' gt0 gt1 gt2 gtz gp0 gp1 gpz
  have H := GT.out
  have gtz := lt_of_block H
  have gt0 := cell_of_row w14 _ 0 _ _ _ H
  have gt1 := cell_of_row w14 _ 1 _ _ _ H
  have gt2 := cell_of_row w14 _ 2 _ _ _ H
  simp only [List.getElem?_toArray, List.getElem?_cons_zero, List.getElem?_cons_succ] at gt0 gt1 gt2
  have H' := Lib.hid H
  clear H
  clear H'
  go_wp2_with fail
  refine (HT1.out _ (HE.out.later (B14.alloc B14.size _))).mono ?_; rintro e w15 ⟨rfl, hb⟩
  have B15 := below_step (B14.alloc B14.size _) (Nat.le_refl _) hb
  have S15 := hb.size
  simp at S15
  have hb' := below_step ((Below.refl _ _).alloc (Nat.le_refl _) _) (Nat.le_refl _) hb
  have GP := Lib.hid (row_later hb (row_past GP.out))
  have GT := Lib.hid (row_later hb (row_past GT.out))
  have GA := Lib.hid (row_later hb (row_past GA.out))
  have GC := Lib.hid (row_later hb (row_past GC.out))
  have GM := Lib.hid (row_later hb (row_past GM.out))
  have GN := Lib.hid (row_later hb (row_new w14 _))
  have Hvc := Lib.hid (Hvc.out.later hb')
  have Hvd := Lib.hid (Hvd.out.later hb')
  clear hb hb' gt0 gt1 gt2 gtz
  have H := GT.out
  have gtz := lt_of_block H
  have gt0 := cell_of_row w15 _ 0 _ _ _ H
  have gt1 := cell_of_row w15 _ 1 _ _ _ H
  have gt2 := cell_of_row w15 _ 2 _ _ _ H
  simp only [List.getElem?_toArray, List.getElem?_cons_zero, List.getElem?_cons_succ] at gt0 gt1 gt2
  have H' := Lib.hid H
  clear H
  clear H'
  go_wp2_with fail
  refine (HT2.out _).mono ?_; rintro e w16 ⟨rfl, hb⟩
  have B16 := below_step B15 (Nat.le_refl _) hb
  have S16 := hb.size
  have GP := Lib.hid (row_later hb GP.out)
  have GT := Lib.hid (row_later hb GT.out)
  have GA := Lib.hid (row_later hb GA.out)
  have GC := Lib.hid (row_later hb GC.out)
  have GM := Lib.hid (row_later hb GM.out)
  have GN := Lib.hid (row_later hb GN.out)
  have Hvc := Lib.hid (Hvc.out.later hb)
  have Hvd := Lib.hid (Hvd.out.later hb)
  clear hb gt0 gt1 gt2 gtz
  clear GT GP
  go_wp2_with fail
  refine (HQ1.out _ (HE.out.later B16)).mono ?_; rintro e w17 ⟨rfl, hb⟩
  have B17 := below_step B16 (Nat.le_refl _) hb
  have S17 := hb.size
  have GA := Lib.hid (row_later hb GA.out)
  have GC := Lib.hid (row_later hb GC.out)
  have GM := Lib.hid (row_later hb GM.out)
  have GN := Lib.hid (row_later hb GN.out)
  have Hvc := Lib.hid (Hvc.out.later hb)
  have Hvd := Lib.hid (Hvd.out.later hb)
  clear hb 
  have H := GA.out
  have gaz := lt_of_block H
  have ga0 := cell_of_row w17 _ 0 _ _ _ H
  have ga1 := cell_of_row w17 _ 1 _ _ _ H
  have ga2 := cell_of_row w17 _ 2 _ _ _ H
  have gaf0 := frozen_of_row w17 _ 0 _ _ H
  have gaf1 := frozen_of_row w17 _ 1 _ _ H
  have gaf2 := frozen_of_row w17 _ 2 _ _ H
  simp only [List.getElem?_toArray, List.getElem?_cons_zero, List.getElem?_cons_succ] at ga0 ga1 ga2
  have H' := Lib.hid H
  clear H
  clear H'
  go_wp2_with fail
  have GA := Lib.hid (show (((w17.setCell ⟨w2.heap.size, 0, none⟩ (.int .i64 QZ)).setCell ⟨w2.heap.size, 1, none⟩ (.int .i64 QX)).setCell ⟨w2.heap.size, 2, none⟩ (.int .i64 QY)).heap[w2.heap.size]? = some (Obj.cells #[.int .i64 QZ, .int .i64 QX, .int .i64 QY] 23 (0, 0)) from row_set (i := 2) (row_set (i := 1) (row_set (i := 0) GA.out)))
  have GC := Lib.hid (row_set_other (a := ⟨w2.heap.size, 2, none⟩) (v := .int .i64 QY) (row_set_other (a := ⟨w2.heap.size, 1, none⟩) (v := .int .i64 QX) (row_set_other (a := ⟨w2.heap.size, 0, none⟩) (v := .int .i64 QZ) GC.out (by simp only; omega)) (by simp only; omega)) (by simp only; omega))
  have GM := Lib.hid (row_set_other (a := ⟨w2.heap.size, 2, none⟩) (v := .int .i64 QY) (row_set_other (a := ⟨w2.heap.size, 1, none⟩) (v := .int .i64 QX) (row_set_other (a := ⟨w2.heap.size, 0, none⟩) (v := .int .i64 QZ) GM.out (by simp only; omega)) (by simp only; omega)) (by simp only; omega))
  have GN := Lib.hid (row_set_other (a := ⟨w2.heap.size, 2, none⟩) (v := .int .i64 QY) (row_set_other (a := ⟨w2.heap.size, 1, none⟩) (v := .int .i64 QX) (row_set_other (a := ⟨w2.heap.size, 0, none⟩) (v := .int .i64 QZ) GN.out (by simp only; omega)) (by simp only; omega)) (by simp only; omega))
  have Hvc := Lib.hid ((((Hvc.out).set (a := ⟨w2.heap.size, 0, none⟩) (by simp only; omega) (.int .i64 QZ)).set (a := ⟨w2.heap.size, 1, none⟩) (by simp only; omega) (.int .i64 QX)).set (a := ⟨w2.heap.size, 2, none⟩) (by simp only; omega) (.int .i64 QY))
  have Hvd := Lib.hid ((((Hvd.out).set (a := ⟨w2.heap.size, 0, none⟩) (by simp only; omega) (.int .i64 QZ)).set (a := ⟨w2.heap.size, 1, none⟩) (by simp only; omega) (.int .i64 QX)).set (a := ⟨w2.heap.size, 2, none⟩) (by simp only; omega) (.int .i64 QY))
  have Bw17s := (((B17).setCell (p := ⟨w2.heap.size, 0, none⟩) (by simp only; omega) (.int .i64 QZ)).setCell (p := ⟨w2.heap.size, 1, none⟩) (by simp only; omega) (.int .i64 QX)).setCell (p := ⟨w2.heap.size, 2, none⟩) (by simp only; omega) (.int .i64 QY)
  clear ga0 ga1 ga2 gaz gaf0 gaf1 gaf2
  generalize hw : (((w17.setCell ⟨w2.heap.size, 0, none⟩ (.int .i64 QZ)).setCell ⟨w2.heap.size, 1, none⟩ (.int .i64 QX)).setCell ⟨w2.heap.size, 2, none⟩ (.int .i64 QY)) = w17s
  rw [hw] at GA GC GM GN Hvc Hvd Bw17s
  clear hw
  refine (HQ2.out _).mono ?_; rintro e w18 ⟨rfl, hb⟩
  have B18 := below_step Bw17s (Nat.le_refl _) hb
  have S18 := hb.size
  have GA := Lib.hid (row_later hb GA.out)
  have GC := Lib.hid (row_later hb GC.out)
  have GM := Lib.hid (row_later hb GM.out)
  have GN := Lib.hid (row_later hb GN.out)
  have Hvc := Lib.hid (Hvc.out.later hb)
  have Hvd := Lib.hid (Hvd.out.later hb)
  clear hb
  have H := GC.out
  have gcz := lt_of_block H
  have gc0 := cell_of_row w18 _ 0 _ _ _ H
  have gc1 := cell_of_row w18 _ 1 _ _ _ H
  have gc2 := cell_of_row w18 _ 2 _ _ _ H
  have gcf0 := frozen_of_row w18 _ 0 _ _ H
  have gcf1 := frozen_of_row w18 _ 1 _ _ H
  have gcf2 := frozen_of_row w18 _ 2 _ _ H
  simp only [List.getElem?_toArray, List.getElem?_cons_zero, List.getElem?_cons_succ] at gc0 gc1 gc2
  have H' := Lib.hid H
  clear H
  clear H'
  go_wp2_with fail
  have GC := Lib.hid (show (((w18.setCell ⟨w3.heap.size, 0, none⟩ (.int .i64 QZ)).setCell ⟨w3.heap.size, 1, none⟩ (.int .i64 QX)).setCell ⟨w3.heap.size, 2, none⟩ (.int .i64 QY)).heap[w3.heap.size]? = some (Obj.cells #[.int .i64 QZ, .int .i64 QX, .int .i64 QY] 23 (0, 0)) from row_set (i := 2) (row_set (i := 1) (row_set (i := 0) GC.out)))
  have GA := Lib.hid (row_set_other (a := ⟨w3.heap.size, 2, none⟩) (v := .int .i64 QY) (row_set_other (a := ⟨w3.heap.size, 1, none⟩) (v := .int .i64 QX) (row_set_other (a := ⟨w3.heap.size, 0, none⟩) (v := .int .i64 QZ) GA.out (by simp only; omega)) (by simp only; omega)) (by simp only; omega))
  have GM := Lib.hid (row_set_other (a := ⟨w3.heap.size, 2, none⟩) (v := .int .i64 QY) (row_set_other (a := ⟨w3.heap.size, 1, none⟩) (v := .int .i64 QX) (row_set_other (a := ⟨w3.heap.size, 0, none⟩) (v := .int .i64 QZ) GM.out (by simp only; omega)) (by simp only; omega)) (by simp only; omega))
  have GN := Lib.hid (row_set_other (a := ⟨w3.heap.size, 2, none⟩) (v := .int .i64 QY) (row_set_other (a := ⟨w3.heap.size, 1, none⟩) (v := .int .i64 QX) (row_set_other (a := ⟨w3.heap.size, 0, none⟩) (v := .int .i64 QZ) GN.out (by simp only; omega)) (by simp only; omega)) (by simp only; omega))
  have Hvc := Lib.hid ((((Hvc.out).set (a := ⟨w3.heap.size, 0, none⟩) (by simp only; omega) (.int .i64 QZ)).set (a := ⟨w3.heap.size, 1, none⟩) (by simp only; omega) (.int .i64 QX)).set (a := ⟨w3.heap.size, 2, none⟩) (by simp only; omega) (.int .i64 QY))
  have Hvd := Lib.hid ((((Hvd.out).set (a := ⟨w3.heap.size, 0, none⟩) (by simp only; omega) (.int .i64 QZ)).set (a := ⟨w3.heap.size, 1, none⟩) (by simp only; omega) (.int .i64 QX)).set (a := ⟨w3.heap.size, 2, none⟩) (by simp only; omega) (.int .i64 QY))
  have Bw18s := (((B18).setCell (p := ⟨w3.heap.size, 0, none⟩) (by simp only; omega) (.int .i64 QZ)).setCell (p := ⟨w3.heap.size, 1, none⟩) (by simp only; omega) (.int .i64 QX)).setCell (p := ⟨w3.heap.size, 2, none⟩) (by simp only; omega) (.int .i64 QY)
  clear gc0 gc1 gc2 gcz gcf0 gcf1 gcf2
  generalize hw : (((w18.setCell ⟨w3.heap.size, 0, none⟩ (.int .i64 QZ)).setCell ⟨w3.heap.size, 1, none⟩ (.int .i64 QX)).setCell ⟨w3.heap.size, 2, none⟩ (.int .i64 QY)) = w18s
  rw [hw] at GA GC GM GN Hvc Hvd Bw18s
  clear hw
  refine (same_any _ _ _ clen _ Hvc.out Hvd.out).mono ?_; rintro e w19 ⟨rfl, hb⟩
  have B19 := below_step Bw18s (Nat.le_refl _) hb
  have S19 := hb.size
  have GA := Lib.hid (row_later hb GA.out)
  have GC := Lib.hid (row_later hb GC.out)
  have GM := Lib.hid (row_later hb GM.out)
  have GN := Lib.hid (row_later hb GN.out)
  have Hvc := Lib.hid (Hvc.out.later hb)
  have Hvd := Lib.hid (Hvd.out.later hb)
  clear hb
  have H := GA.out
  have gaz := lt_of_block H
  have ga0 := cell_of_row w19 _ 0 _ _ _ H
  have ga1 := cell_of_row w19 _ 1 _ _ _ H
  have ga2 := cell_of_row w19 _ 2 _ _ _ H
  simp only [List.getElem?_toArray, List.getElem?_cons_zero, List.getElem?_cons_succ] at ga0 ga1 ga2
  have H' := Lib.hid H
  clear H
  clear H'
  have H := GC.out
  have gcz := lt_of_block H
  have gc0 := cell_of_row w19 _ 0 _ _ _ H
  have gc1 := cell_of_row w19 _ 1 _ _ _ H
  have gc2 := cell_of_row w19 _ 2 _ _ _ H
  simp only [List.getElem?_toArray, List.getElem?_cons_zero, List.getElem?_cons_succ] at gc0 gc1 gc2
  have H' := Lib.hid H
  clear H
  clear H'
  have H := GM.out
  have gmz := lt_of_block H
  have gm0 := cell_of_row w19 _ 0 _ _ _ H
  have gm1 := cell_of_row w19 _ 1 _ _ _ H
  simp only [List.getElem?_toArray, List.getElem?_cons_zero, List.getElem?_cons_succ] at gm0 gm1
  have H' := Lib.hid H
  clear H
  clear H'
  have H := GN.out
  have gnz := lt_of_block H
  have gn0 := cell_of_row w19 _ 0 _ _ _ H
  have gn1 := cell_of_row w19 _ 1 _ _ _ H
  simp only [List.getElem?_toArray, List.getElem?_cons_zero, List.getElem?_cons_succ] at gn0 gn1
  have H' := Lib.hid H
  clear H
  clear H'
  go_wp2
  go_ret
  exact ⟨rfl, B19⟩

theorem gridRef_walk (x y z tz tx ty a b c d : Int) (s : ByteArray) (w : World) (he : Env w) :
    Calls Tryd.prog 8 #[.agg #[.int .i64 x, .int .i64 y], .int .i64 z, .agg #[.int .i64 tz, .int .i64 tx, .int .i64 ty], .agg #[.int .i64 a, .int .i64 b, .int .i64 c, .int .i64 d], .string s] w fun e w' => e = .returned (.bool true) ∧ Below w.heap.size w w' := by
  rcases Nat.lt_or_ge 100 s.size with h | h
  · exact refLaw_long x y z tz tx ty a b c d s h w he
  · exact refLaw_short x y z tz tx ty a b c d s h w he
end Go.Proofs.YtnilofeakdibhaaDoor
