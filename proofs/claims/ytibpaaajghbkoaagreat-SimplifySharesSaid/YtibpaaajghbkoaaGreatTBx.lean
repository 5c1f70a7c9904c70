/-  -/
import Derived.Test.YtibpaaajghbkoaaGreatTBs
import Derived.Test.YtibpaaajghbkoaaGreatTBt
import Derived.Test.YtibpaaajghbkoaaGreatTBo
import Derived.Test.YtibpaaajghbkoaaGreatTAk
import Derived.Test.YtibpaaajghbkoaaGreatTBm
import Derived.Test.YtibpaaajghbkoaaGreatTBw
namespace Go.Proofs.YtibpaaajghbkoaaGreat
open Go.RowKit Go.Sort
theorem neqs_seg (s t : Sg) (w : World) : (binOp .neq 48 (.agg #[.int .i64 s.1.1, .int .i64 s.1.2, .int .i64 s.2.1, .int .i64 s.2.2]) (.agg #[.int .i64 t.1.1, .int .i64 t.1.2, .int .i64 t.2.1, .int .i64 t.2.2])).run Tryz.prog w = .ok (.bool (!decide (s = t))) w := by
 simp only [run_neq_struct]
 rw [show (10000 : Nat) = 9999 + 1 from rfl, run_equalIn_struct _ _ _ _ _ fo39 sf39]
 simp [Program.fieldsOf, Tryz.underlying48, Op.eqFields, go_sem]
 obtain ⟨⟨a, b⟩, ⟨c, d⟩⟩ := s
 obtain ⟨⟨a', b'⟩, ⟨c', d'⟩⟩ := t
 simp only [Prod.mk.injEq]
 (repeat' split) <;> simp_all
theorem texts_got {w : World} {v : Value} {ls : List (List ByteArray)} (h : TextsAt w v ls) : ∃ (ao : Option Addr) (cap : Nat), v = .slice ao ls.length cap ∧ (0 < ls.length → ∃ b off, ao = some ⟨b, off, none⟩ ∧ ∀ (i : Nat) (ids : List ByteArray), ls[i]? = some ids → ∃ vi : Value, w.cell? ⟨b, off + i, none⟩ = some vi ∧ StrRow w vi ids) := by
 obtain ⟨L, hL, hn, hs⟩ := h
 obtain ⟨ao, cap, rfl, hc⟩ := hL
 rw [hn]
 refine ⟨ao, cap, rfl, fun hp => ?_⟩
 obtain ⟨b, off, ha, hcell⟩ := hc (by rw [hn]; exact hp)
 refine ⟨b, off, ha, fun i ids hi => ?_⟩
 have hl := (List.getElem?_eq_some_iff.1 hi).1
 have hx : L[i]? = some (L[i]'(by rw [hn]; exact hl)) := List.getElem?_eq_getElem _
 have h0 := hcell i _ hx 0 _ rfl
 rw [Nat.mul_one, Nat.add_zero] at h0
 exact ⟨_, h0, hs i _ ids hx hi⟩
theorem less_orig {m : List ObjD} {D : List ByteArray} (h : GoneM m D) {o : ObjD} (ho : o ∈ dropsP m D) : ∃ (j : Nat) (y : ObjD), findI o.id m = (j : Int) ∧ m[j]? = some y ∧ partI o.refs y.refs 0 = o.refs.length := by
 obtain ⟨y, hy, _, rfl⟩ := mem_drops.1 ho
 obtain ⟨j, hj⟩ := List.getElem?_of_mem hy
 exact ⟨j, y, by unfold findI; rw [pos_self h.okm hj], hj, part_all _ _⟩
set_option maxRecDepth 100000 in
set_option maxHeartbeats 4000000 in
theorem shares_any (c : Value) (l : List ObjD) (tol : Int) (w : World) (hv : ObjC w c l) (hl : l.length ≤ 140737488355328) :
  Calls Tryz.prog 6 #[.agg #[c], .int .i64 tol] w fun e w' => e = .returned (.bool true) ∧ Below w.heap.size w w' := by
 obtain ⟨av, cv, rfl⟩ : ∃ av cv, c = .slice av l.length cv := by
  obtain ⟨L, ⟨a, cap, e, _⟩, h2, _⟩ := hv
  exact ⟨a, cap, by rw [e, ← h2, List.length_map]⟩
 have HV := Lib.hid hv
 have B1 : Below w.heap.size w (w.alloc (.cells #[.slice av l.length cv] 24)) := (Below.refl _ _).alloc (Nat.le_refl _) _
 have H1 := row_new w (.cells #[.slice av l.length cv] 24)
 clear hv
 obtain ⟨g, hg⟩ : ∃ g, w.heap.size = g := ⟨_, rfl⟩
 go_enter Tryz.func6, Tryz.ntmps6
 go_upto_region 1 with fail
 generalize hw1 : w.alloc (.cells #[.slice av l.length cv] 24) = w1
 rw [hw1] at B1 H1
 rw [hg] at H1
 clear hw1 hg
 go_wp2_with fail
 refine (head_any w1).mono ?_
 rintro e w2 ⟨rfl, hb2⟩
 have B2 := below_step B1 (Nat.le_refl _) hb2
 have H2 := Lib.hid (row_later hb2 H1)
 have HV2 := Lib.hid (HV.out.later B2)
 clear HV hb2 B1 H1
 obtain ⟨mz, m0⟩ := rk1 H2.out
 go_wp2_with fail
 refine (fewL_any _ l w2 (HV2.out.is hl)).mono ?_
 rintro e w3 ⟨⟨r, rfl, hr0⟩, hb3⟩
 have B3 := below_step B2 (Nat.le_refl _) hb3
 have H3 := Lib.hid (row_later hb3 H2.out)
 have HV3 := Lib.hid (HV2.out.later hb3)
 clear HV2 hb3 B2 H2
 cases r with
 |false =>
  go_wp2
  go_ret
  exact ⟨rfl, B3⟩
 |true =>
  have hr := hr0 rfl
  clear hr0
  obtain ⟨mz, m0⟩ := rk1 H3.out
  go_wp2_with fail
  have HRL := Lib.hid hr
  clear hr
  have FT := fitL_any _ l w3 (HV3.out.is hl) (by have := HRL.out.1; omega) (keys_few HRL.out)
  obtain ⟨fp, hfp⟩ : ∃ z, fitP l = z := ⟨_, rfl⟩
  rw [hfp] at FT
  have HFP := Lib.hid hfp
  clear hfp
  refine FT.mono ?_
  rintro e w4 ⟨rfl, hb4⟩
  have B4 := below_step B3 (Nat.le_refl _) hb4
  have H4 := Lib.hid (row_later hb4 H3.out)
  have HV4 := Lib.hid (HV3.out.later hb4)
  clear FT HV3 hb4 B3 H3
  cases fp with
  |false =>
   go_wp2
   go_ret
   exact ⟨rfl, B4⟩
  |true =>
   obtain ⟨mz, m0⟩ := rk1 H4.out
   go_wp2_with fail
   refine (simMap_any _ l tol w4 HV4.out (by have := HRL.out.1; omega) (keys_few HRL.out)).mono ?_
   rintro e w5 ⟨x5, rfl, hx5, hb5⟩
   obtain ⟨D, hG, hD⟩ := gone_sim (fit_parts.1 HFP.out).1 tol
   rw [hD] at hx5
   have hML := drops_len (m := l) D
   obtain ⟨a5, c5, hx5e⟩ : ∃ a5 c5, x5 = .slice a5 (dropsP l D).length c5 := by
    obtain ⟨L, ⟨a, cap, e, _⟩, h2, _⟩ := hx5
    exact ⟨a, cap, by rw [e, ← h2, List.length_map]⟩
   subst hx5e
   have HOK := Lib.hid (fit_parts.1 HFP.out).1
   have HG := Lib.hid hG
   have HCK := Lib.hid (fit_parts.1 HFP.out).2.1
   have HKL := Lib.hid (keys_few HRL.out)
   have HKX := Lib.hid (show (keysP (dropsP l D)).length ≤ 20000 by rw [← hD]; exact keys_few (sim_small HRL.out))
   have HNL := Lib.hid (HRL.out.1)
   have HX5 := Lib.hid (hx5.later ((Below.refl _ w5).alloc (Nat.le_refl _) (.cells #[.slice a5 (dropsP l D).length c5] 24)))
   have HV5 := Lib.hid ((HV4.out.later hb5).later ((Below.refl _ w5).alloc (Nat.le_refl _) (.cells #[.slice a5 (dropsP l D).length c5] 24)))
   have B5 := (below_step B4 (Nat.le_refl _) hb5).alloc (below_step B4 (Nat.le_refl _) hb5).size (.cells #[.slice a5 (dropsP l D).length c5] 24)
   have H5 := row_past (o' := .cells #[.slice a5 (dropsP l D).length c5] 24) (row_later hb5 H4.out)
   have H5x := row_new w5 (.cells #[.slice a5 (dropsP l D).length c5] 24)
   clear HV4 hb5 B4 H4 hx5 hD hG HFP
   obtain ⟨g5, hg5⟩ : ∃ g5, w5.heap.size = g5 := ⟨_, rfl⟩
   rw [hg5] at H5x
   go_upto_region 5 with fail
   generalize hw6 : w5.alloc (.cells #[.slice a5 (dropsP l D).length c5] 24) = w6
   rw [hw6] at HX5 HV5 B5 H5 H5x
   clear hw6 hg5
   have HVI := HV5.out.is hl
   have HXI := HX5.out.is (by omega)
   obtain ⟨X, hX⟩ : ∃ X, dropsP l D = X := ⟨_, rfl⟩
   have SL := Lib.hid (fun kx (hx : kx ∈ keysP (dropsP l D)) km (hm : km ∈ keysP l) (hs : segB (dropsP l D) kx = segB l km) => shares_law HG.out HCK.out hx hm hs)
   have LF := Lib.hid (fun o (ho : o ∈ dropsP l D) => less_orig HG.out ho)
   have HOX := Lib.hid HG.out.ok
   rw [hX] at HXI H5x hML SL LF HOX HKX ⊢
   have FD := Lib.hid (fun id w' hb => findO_any _ l id w' (HVI.later (w' := w') hb) (by have := HNL.out; omega))
   have S1 := Lib.hid (fun w' hb => segments_any _ l w' (HVI.later (w' := w') hb) HOK.out)
   have S2 := Lib.hid (fun w' hb => segments_any _ X w' (HXI.later (w' := w') hb) HOX.out)
   obtain ⟨_, _, hv1, -, hc⟩ := HVI
   obtain ⟨_, _, hv2, -, hcx⟩ := HXI
   obtain ⟨N, hN⟩ : ∃ N, l.length = N := ⟨_, rfl⟩
   obtain ⟨M, hM⟩ : ∃ M, X.length = M := ⟨_, rfl⟩
   injection hv1 with e1 _ e2
   injection hv2 with e3 _ e4
   subst e1 e2 e3 e4
   have hNL := HNL.out
   rw [hN] at hc H5 hML hNL FD S1 ⊢
   rw [hM] at hcx H5x hML S2 ⊢
   have HC := Lib.hid hc
   have HCX := Lib.hid hcx
   have HN := Lib.hid hN
   have HM := Lib.hid hM
   have H5 := Lib.hid H5
   have H5x := Lib.hid H5x
   have hMN : M ≤ N := by omega
   have keysl := HKL.out
   clear hc hcx hN hM HX5 HV5 hX HRL HNL hML
   obtain ⟨mz, m0⟩ := rk1 H5.out
   go_wp2_with fail
   clear m0 mz
   refine (S1.out w6 (Below.refl _ _)).mono ?_
   rintro e w7 ⟨v1, v2, rfl, hr1, hr2, hb7⟩
   have H7 := Lib.hid (row_later hb7 H5.out)
   have H7x := Lib.hid (row_later hb7 H5x.out)
   obtain ⟨a1, c1, hv1, hk1⟩ := hr1
   rw [List.length_map] at hv1 hk1
   obtain ⟨a2, c2, hv2, hk2⟩ := texts_got hr2
   rw [List.length_map] at hv2 hk2
   subst hv1 hv2
   have HK1 := Lib.hid hk1
   have HK2 := Lib.hid hk2
   clear hr2 hk1 hk2 S1
   obtain ⟨nz, n0⟩ := rk1 H7x.out
   go_wp2_with fail
   clear n0 nz
   refine (S2.out w7 hb7).mono ?_
   rintro e w8 ⟨v3, v4, rfl, hr3, hr4, hb8⟩
   have B78 := hb8
   have B8 := below_step hb7 (Nat.le_refl _) hb8
   have H8 := Lib.hid (row_later hb8 H7.out)
   have H8x := Lib.hid (row_later hb8 H7x.out)
   obtain ⟨a3, c3, hv3, hk3⟩ := hr3
   rw [List.length_map] at hv3 hk3
   obtain ⟨a4, c4, hv4, hk4⟩ := texts_got hr4
   rw [List.length_map] at hv4 hk4
   subst hv3 hv4
   have HK3 := Lib.hid hk3
   have HK4 := Lib.hid hk4
   obtain ⟨K, hK⟩ : ∃ K, (keysP l).length = K := ⟨_, rfl⟩
   obtain ⟨KX, hKX⟩ : ∃ K, (keysP X).length = K := ⟨_, rfl⟩
   rw [hK] at HK1 HK2 keysl ⊢
   rw [hKX] at HK3 HK4 ⊢
   have HKN := Lib.hid hK
   have HKXN := Lib.hid hKX
   have hKXl : KX ≤ 20000 := by rw [← hKX]; exact HKX.out
   have n1 : ((K : Int) != (K : Int)) = false := by simp
   have n2 : ((KX : Int) != (KX : Int)) = false := by simp
   clear hr4 hk3 hk4 S2 hb7 hb8 hK hKX H7 H7x
   go_wp2_with fail
   clear n1 n2
   go_loopw [11] (fun i wr => ∃ k : Nat, i = .int .i64 k ∧ k ≤ KX ∧ Below w8.heap.size w8 wr) (fun i _ => KX - (intOf i).toNat)
   case atStart => exact ⟨0, rfl, Nat.zero_le _, Below.refl _ _⟩
   case round =>
    obtain ⟨i, rfl, hi, hbr⟩ := hrel
    obtain ⟨wq, rfl⟩ : ∃ z : World, z = wr := ⟨_, rfl⟩
    by_cases hlt : i < KX
    ·obtain ⟨kx, hkx⟩ : ∃ kx, (keysP X)[i]? = some kx := ⟨(keysP X)[i]'(by rw [HKXN.out]; exact hlt), List.getElem?_eq_getElem _⟩
     obtain ⟨b3, f3, hA3, hc3⟩ := HK3.out (by omega)
     obtain ⟨b4, f4, hA4, hc4⟩ := HK4.out (by omega)
     subst hA3 hA4
     have p0' := hc3 i (segB X kx) (by rw [List.getElem?_map, hkx]; rfl) 0 _ rfl
     have p0 : w8.cell? ⟨b3, f3 + i * 4, none⟩ = _ := p0'
     have p1 := hc3 i (segB X kx) (by rw [List.getElem?_map, hkx]; rfl) 1 _ rfl
     have p2 := hc3 i (segB X kx) (by rw [List.getElem?_map, hkx]; rfl) 2 _ rfl
     have p3 := hc3 i (segB X kx) (by rw [List.getElem?_map, hkx]; rfl) 3 _ rfl
     obtain ⟨ov, q0, hov⟩ := hc4 i (ownF X X kx) (by rw [List.getElem?_map, hkx]; rfl)
     have P0 := Lib.hid p0
     have P1 := Lib.hid p1
     have P2 := Lib.hid p2
     have P3 := Lib.hid p3
     have HOV := Lib.hid hov
     obtain ⟨oa, oc, rfl, -⟩ := hov
     have Q0 := Lib.hid q0
     have HKK := Lib.hid (List.mem_of_getElem? hkx)
     clear hc3 hc4 p0 p0' p1 p2 p3 q0 hkx
     go_wp2_with fail
     go_loopw [12] (fun v wr => ∃ k : Nat, v = .int .i64 k ∧ k ≤ K ∧ Below w8.heap.size w8 wr) (fun i _ => K - (intOf i).toNat)
     case atStart => exact ⟨0, rfl, Nat.zero_le _, hbr⟩
     case round =>
      obtain ⟨k, rfl, hk, hbk⟩ := hrel
      obtain ⟨wk, rfl⟩ : ∃ z : World, z = wr := ⟨_, rfl⟩
      have B7k := below_step B78 (Nat.le_refl _) hbk
      by_cases hlk : k < K
      ·obtain ⟨km, hkm⟩ : ∃ km, (keysP l)[k]? = some km := ⟨(keysP l)[k]'(by rw [HKN.out]; exact hlk), List.getElem?_eq_getElem _⟩
       obtain ⟨b1, f1, hA1, hc1⟩ := HK1.out (by omega)
       obtain ⟨b2, f2, hA2, hc2⟩ := HK2.out (by omega)
       subst hA1 hA2
       have r0' := cell_later B7k (hc1 k (segB l km) (by rw [List.getElem?_map, hkm]; rfl) 0 _ rfl)
       have r0 : wk.cell? ⟨b1, f1 + k * 4, none⟩ = _ := r0'
       have r1 := cell_later B7k (hc1 k (segB l km) (by rw [List.getElem?_map, hkm]; rfl) 1 _ rfl)
       have r2 := cell_later B7k (hc1 k (segB l km) (by rw [List.getElem?_map, hkm]; rfl) 2 _ rfl)
       have r3 := cell_later B7k (hc1 k (segB l km) (by rw [List.getElem?_map, hkm]; rfl) 3 _ rfl)
       obtain ⟨wv, s0, hwv⟩ := hc2 k (ownF l l km) (by rw [List.getElem?_map, hkm]; rfl)
       have HWV := Lib.hid hwv
       obtain ⟨wa, wc, rfl, hwn, -, hwc⟩ := hwv
       have S0 := Lib.hid s0
       have HWC := Lib.hid hwc
       have HKM := Lib.hid (List.mem_of_getElem? hkm)
       have p0 := cell_later hbk P0.out
       have p1 := cell_later hbk P1.out
       have p2 := cell_later hbk P2.out
       have p3 := cell_later hbk P3.out
       have z1 := lt_of_cell p0
       have z2 := lt_of_cell r0
       have nq := neqs_seg (segB X kx) (segB l km)
       clear hc1 hc2 r0' s0 hwc hkm
       by_cases hsg : segB X kx = segB l km
       ·have HIN := Lib.hid (SL.out kx HKK.out km HKM.out hsg)
        rw [decide_eq_true hsg] at nq
        simp only [Bool.not_true] at nq
        clear hsg
        generalize segB X kx = sx at p0 p1 p2 p3 nq
        generalize segB l km = sm at r0 r1 r2 r3 nq
        obtain ⟨⟨x1, x2⟩, ⟨x3, x4⟩⟩ := sx
        obtain ⟨⟨y1, y2⟩, ⟨y3, y4⟩⟩ := sm
        simp only [] at p0 p1 p2 p3 r0 r1 r2 r3 nq
        go_wp2_with fail
        go_quiet (fail)
        clear p0 p1 p2 p3 r0 r1 r2 r3 z1 z2
        go_wp2_with fail
        go_loopw [13] (fun v wr => ∃ q : Nat, v = .int .i64 q ∧ q ≤ (ownF l l km).length ∧ Below w8.heap.size w8 wr) (fun i _ => (ownF l l km).length - (intOf i).toNat)
        case atStart => exact ⟨0, rfl, Nat.zero_le _, hbk.drewN'⟩
        case round =>
         obtain ⟨q, rfl, hq, hbq⟩ := hrel
         obtain ⟨wn, rfl⟩ : ∃ z : World, z = wr := ⟨_, rfl⟩
         have B7n := below_step B78 (Nat.le_refl _) hbq
         have s0 := cell_later B7n S0.out
         have q0 := cell_later hbq Q0.out
         have z1 := lt_of_cell s0
         have z2 := lt_of_cell q0
         by_cases hlq : q < (ownF l l km).length
         ·obtain ⟨s, hs⟩ : ∃ s, (ownF l l km)[q]? = some s := ⟨(ownF l l km)[q], List.getElem?_eq_getElem hlq⟩
          obtain ⟨b5, f5, hA5, hc5⟩ := HWC.out (by omega)
          subst hA5
          have t0 := cell_later B7n (hc5 q s hs)
          have z3 := lt_of_cell t0
          have CT := Lib.hid (fun n => show Calls Tryz.prog 18 #[.slice oa (ownF X X kx).length oc, .string s] (wn.drewN n) (fun e w' => e = .returned (.bool true) ∧ w' = wn.drewN n) by
           have := hasS_any (.slice oa (ownF X X kx).length oc) (ownF X X kx) s (wn.drewN n) ((HOV.out.later hbq).later (Below.refl _ _).drewN')
           rw [decide_eq_true (HIN.out s (List.mem_of_getElem? hs))] at this
           exact this)
          clear hc5 hs
          go_upto_region 19 with fail
          go_quiet ((go_at_call 18; exact Calls.quiet_of_same (CT.out _)))
          have BF := hbq.trans ((show Below wn.heap.size wn (wn.drewN nq) from (Below.refl _ _).drewN').mono hbq.size)
          go_wp2
          go_roundw
          case rel => exact ⟨q + 1, by go_num, by omega, BF⟩
          case measure => simp [intOf]; omega
         ·obtain rfl : q = (ownF l l km).length := by omega
          go_wp2
          go_roundw
          case rel => exact ⟨k + 1, by go_num, by omega, hbq⟩
          case measure => simp [intOf]; omega
       ·rw [decide_eq_false hsg] at nq
        simp only [Bool.not_false] at nq
        clear hsg
        generalize segB X kx = sx at p0 p1 p2 p3 nq
        generalize segB l km = sm at r0 r1 r2 r3 nq
        obtain ⟨⟨x1, x2⟩, ⟨x3, x4⟩⟩ := sx
        obtain ⟨⟨y1, y2⟩, ⟨y3, y4⟩⟩ := sm
        simp only [] at p0 p1 p2 p3 r0 r1 r2 r3 nq
        go_wp2_with fail
        go_quiet (fail)
        go_wp2
        go_roundw
        case rel => exact ⟨k + 1, by go_num, by omega, hbk.drewN'⟩
        case measure => simp [intOf]; omega
      ·obtain rfl : k = K := by omega
       go_wp2
       go_roundw
       case rel => exact ⟨i + 1, by go_num, by omega, hbk⟩
       case measure => simp [intOf]; omega
    ·obtain rfl : i = KX := by omega
     have H9 := Lib.hid (row_later hbr H8.out)
     have H9x := Lib.hid (row_later hbr H8x.out)
     have B9 := below_step B8 (Nat.le_refl _) hbr
     clear H8 H8x HK1 HK2 HK3 HK4 B78
     go_wp2_with fail
     go_loopw [14] (fun v wr => ∃ k : Nat, v = .int .i64 k ∧ k ≤ M ∧ Below wq.heap.size wq wr) (fun i _ => M - (intOf i).toNat)
     case atStart => exact ⟨0, rfl, Nat.zero_le _, Below.refl _ _⟩
     case round =>
      obtain ⟨k, rfl, hk, hbi⟩ := hrel
      obtain ⟨wi, rfl⟩ : ∃ z : World, z = wr := ⟨_, rfl⟩
      have BI := below_step B9 (Nat.le_refl _) hbi
      have HXi := Lib.hid (row_later hbi H9x.out)
      have HMi := Lib.hid (row_later hbi H9.out)
      by_cases hlk : k < M
      ·obtain ⟨o, ho⟩ : ∃ o, X[k]? = some o := ⟨X[k]'(by rw [HM.out]; exact hlk), List.getElem?_eq_getElem _⟩
       obtain ⟨b, off, ha, hcell⟩ := HCX.out (by omega)
       subst ha
       obtain ⟨vr, vt, c0, c1', c2', c3', c4', c5', hsr, htr, hz⟩ := (hcell k o ho).later BI
       have HSR := Lib.hid hsr
       obtain ⟨ar, capr, rfl, -⟩ := hsr
       obtain ⟨at1, capt, rfl, -⟩ := htr
       obtain ⟨j, y, hfj, hy, hpt⟩ := LF.out o (List.mem_of_getElem? ho)
       have hjN : j < N := by rw [← HN.out]; exact (List.getElem?_eq_some_iff.1 hy).1
       obtain ⟨b6, off6, ha6, hcell6⟩ := HC.out (by omega)
       subst ha6
       obtain ⟨_, _, _, _, _, _, e4, _, hyr, _, _⟩ := (hcell6 j y hy).later BI
       have HYR := Lib.hid hyr
       obtain ⟨ay, capy, rfl, -⟩ := hyr
       have E4 := Lib.hid e4
       have bz := lt_of_cell c0
       have BX : Below wi.heap.size wi (wi.alloc (.cells #[.string o.id, .int .i64 o.kind, .int .i64 o.x, .int .i64 o.y, .slice ar o.refs.length capr, .slice at1 o.tags.length capt] 36)) := (Below.refl _ _).alloc (Nat.le_refl _) _
       have HX := row_new wi (.cells #[.string o.id, .int .i64 o.kind, .int .i64 o.x, .int .i64 o.y, .slice ar o.refs.length capr, .slice at1 o.tags.length capt] 36)
       have F1 := FD.out o.id
       rw [hfj] at F1
       have F1 := Lib.hid F1
       have HPT := Lib.hid (decide_eq_true hpt)
       clear hcell hcell6 ho hfj hy e4 hpt
       obtain ⟨nz, n0⟩ := rk1 HXi.out
       go_upto_region 25 with fail
       clear n0 nz
       generalize hwx : wi.alloc (.cells #[.string o.id, .int .i64 o.kind, .int .i64 o.x, .int .i64 o.y, .slice ar o.refs.length capr, .slice at1 o.tags.length capt] 36) = wx
       rw [hwx] at BX HX
       obtain ⟨b15, hb15⟩ : ∃ z, z = wi.heap.size := ⟨_, rfl⟩
       rw [← hb15] at HX ⊢
       have HX := Lib.hid HX
       have HMx := Lib.hid (row_later BX HMi.out)
       have BXI := below_step BI (Nat.le_refl _) BX
       clear hwx c0 c1' c2' c3' c4' c5' bz hb15
       obtain ⟨xz, x0, x1, x2, x3, x4, x5⟩ := rk6 HX.out
       obtain ⟨mz, m0⟩ := rk1 HMx.out
       go_wp2_with fail
       refine (F1.out wx BXI).mono ?_
       rintro e wa ⟨rfl, hb⟩
       have H7a := Lib.hid (row_later hb HX.out)
       have HMa := Lib.hid (row_later hb HMx.out)
       have BWA := below_step BX (Nat.le_refl _) hb
       have BA := below_step BXI (Nat.le_refl _) hb
       have BAq := below_step hbi (Nat.le_refl _) BWA
       clear x0 x1 x2 x3 x4 x5 xz
       clear m0 mz
       clear F1 hb HX HMx BX BXI
       have e4 := cell_later BWA E4.out
       have ez := lt_of_cell e4
       have PA := fun W (hb : Below wa.heap.size wa W) => part_any (.slice ar o.refs.length capr) (.slice ay y.refs.length capy) o.refs y.refs W ((HSR.out.later BWA).later hb) ((HYR.out.later BWA).later hb)
       rw [HPT.out] at PA
       have PA := Lib.hid PA
       have g1 : decide ((j : Int) < 0) = false := decide_eq_false (by omega)
       have g2 : decide ((j : Int) ≥ (N : Int)) = false := decide_eq_false (by omega)
       have g2n : decide (N ≤ j) = false := decide_eq_false (by omega)
       obtain ⟨xz, x0, x1, x2, x3, x4, x5⟩ := rk6 H7a.out
       obtain ⟨mz, m0⟩ := rk1 HMa.out
       go_upto_region 26 with fail
       go_region_held3 (fun w' => w'.cell? ⟨b15, 4, none⟩ = some (.slice ar o.refs.length capr) ∧ w'.cell? ⟨g, 0, none⟩ = some (.slice (some ⟨b6, off6, none⟩) N cv) ∧ w'.cell? ⟨b6, off6 + j * 6 + 4, none⟩ = some (.slice ay y.refs.length capy) ∧ Below wa.heap.size wa w')
        (first
         |exact ⟨x4, m0, e4, (Below.refl _ _).drew⟩
         |(have hq := ‹_ ∧ _ ∧ _ ∧ Below wa.heap.size wa _›; exact ⟨cell_later hb hq.1, cell_later hb hq.2.1, cell_later hb hq.2.2.1, below_step hq.2.2.2 (Nat.le_refl _) hb⟩)
         |assumption)
        (first
         |(go_at_call 19; refine (PA.out _ (‹_ ∧ _ ∧ _ ∧ Below wa.heap.size wa _›).2.2.2).mono ?_; rintro e wb ⟨rfl, hb⟩))
       have hbB := (‹_ ∧ _ ∧ _ ∧ Below wa.heap.size wa _›).2.2.2
       have BF := below_step BAq (Nat.le_refl _) hbB
       go_wp2
       go_roundw
       case rel => exact ⟨k + 1, by go_num, by omega, BF⟩
       case measure => simp [intOf]; omega
      ·obtain rfl : k = M := by omega
       obtain ⟨nz, n0⟩ := rk1 HXi.out
       go_wp2
       go_ret
       exact ⟨rfl, below_step B5 (Nat.le_refl _) BI⟩
end Go.Proofs.YtibpaaajghbkoaaGreat
