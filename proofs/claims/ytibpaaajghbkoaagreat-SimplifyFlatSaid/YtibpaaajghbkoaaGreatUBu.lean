/-  -/
import Derived.Test.YtibpaaajghbkoaaGreatUBj
import Derived.Test.YtibpaaajghbkoaaGreatUBn
import Derived.Test.YtibpaaajghbkoaaGreatUBt
import Derived.Test.YtibpaaajghbkoaaGreatUAk
import Derived.Test.YtibpaaajghbkoaaGreatUBr
import Derived.Test.YtibpaaajghbkoaaGreatUAw
namespace Go.Proofs.YtibpaaajghbkoaaGreat
open Go.RowKit Go.Sort
def anyOn (X : List ObjD) (p : Pt) (ks : List KeyD) : Bool := ks.any fun k => onQ (segB X k) p
theorem pts_map {l : List ObjD} {refs : List ByteArray} (h : ∀ r ∈ refs, (nodeAt l r).isSome = true) : refs.filterMap (nodeAt l) = refs.map (ptO l) := by
 induction refs with
 |nil => rfl
 |cons r refs ih =>
  obtain ⟨q, hq⟩ := Option.isSome_iff_exists.1 (h r (by simp))
  rw [List.filterMap_cons_some hq, List.map_cons, ih (fun s hs => h s (List.mem_cons_of_mem _ hs))]
  congr 1
  unfold ptO
  rw [hq]; rfl
theorem pts_area {l : List ObjD} (h : mapOK l = true) {o : ObjD} (ho : o ∈ l) (hk : o.kind = 3) (hr : ∀ r ∈ o.refs, (nodeAt l r).isSome = true) : ptsO l o.id = (o.refs.map (ptO l), 0) ∧ 3 ≤ (o.refs.map (ptO l)).length ∧ (o.refs.map (ptO l)).length ≤ 2000 ∧ ∀ p ∈ o.refs.map (ptO l), nearQ p = true := by
 have h1 := map_obj h ho
 simp only [objOK, Bool.and_eq_true, decide_eq_true_eq] at h1
 obtain ⟨⟨⟨⟨⟨⟨_, _⟩, _⟩, h3⟩, h4⟩, _⟩, _⟩ := h1
 unfold leastK at h3
 rw [if_neg (by omega), if_neg (by omega), if_pos hk] at h3
 refine ⟨?_, by rw [List.length_map]; omega, by rw [List.length_map]; exact h4, fun p hp => ?_⟩
 ·rw [pts_at h (at_some h ho)]
  unfold ptsK
  rw [if_neg (by omega), if_pos (Or.inr hk), if_pos (List.all_eq_true.2 hr), pts_map hr]
 ·obtain ⟨r, _, rfl⟩ := List.mem_map.1 hp
  exact pt_near h r
theorem fit_nodes {l : List ObjD} (h : mapOK l = true) {o : ObjD} (hk : o.kind = 3) (hf : fitO l o = true) : ∀ r ∈ o.refs, (nodeAt l r).isSome = true := by
 rw [fit_lines h (Or.inr hk)] at hf
 exact List.all_eq_true.1 hf
theorem area_pts {l : List ObjD} (h : mapOK l = true) {o : ObjD} (ho : o ∈ l) (hk : o.kind = 3) (hf : fitO l o = true) : ∃ A, ptsO l o.id = (A, 0) ∧ 3 ≤ A.length ∧ A.length ≤ 2000 ∧ (∀ p ∈ A, nearQ p = true) ∧ cycS A = cycS (o.refs.map (ptO l)) := by
 obtain ⟨h1, h2, h3, h4⟩ := pts_area h ho hk (fit_nodes h hk hf)
 exact ⟨_, h1, h2, h3, h4, rfl⟩
theorem area_left {m : List ObjD} {D : List ByteArray} (h : GoneM m D) {o : ObjD} (ho : o ∈ m) (hk : o.kind = 3) (hf : fitO m o = true) : ∃ B, ptsO (dropsP m D) o.id = (B, 0) ∧ 3 ≤ B.length ∧ B.length ≤ 2000 ∧ (∀ p ∈ B, nearQ p = true) ∧ cycS B = cycS ((o.refs.filter fun r => decide (r ∉ D)).map (ptO m)) := by
 have hd : o.id ∉ D := fun c => by have := (gone_kind h ho c).1; omega
 have hx : ({ o with refs := o.refs.filter fun r => decide (r ∉ D) } : ObjD) ∈ dropsP m D := mem_drops.2 ⟨o, ho, hd, rfl⟩
 have hn := fit_nodes h.okm hk hf
 obtain ⟨h1, h2, h3, h4⟩ := pts_area h.ok hx hk (fun r hr => by
  obtain ⟨hr1, hr2⟩ := List.mem_filter.1 hr
  rw [node_left h (of_decide_eq_true hr2)]
  exact hn r hr1)
 refine ⟨_, h1, h2, h3, h4, ?_⟩
 congr 1
 refine List.map_congr_left fun r hr => ?_
 unfold ptO
 rw [node_left h (of_decide_eq_true (List.mem_filter.1 hr).2)]
set_option maxRecDepth 100000 in
set_option maxHeartbeats 4000000 in
theorem flat_any (c : Value) (l : List ObjD) (w : World) (hv : ObjC w c l) (hl : l.length ≤ 140737488355328) :
  Calls Tryz.prog 7 #[.agg #[c]] w fun e w' => e = .returned (.bool true) ∧ Below w.heap.size w w' := by
 obtain ⟨av, cv, rfl⟩ : ∃ av cv, c = .slice av l.length cv := by
  obtain ⟨L, ⟨a, cap, e, _⟩, h2, _⟩ := hv
  exact ⟨a, cap, by rw [e, ← h2, List.length_map]⟩
 have mixed : Tryz.prog.follows .mixedOrders = true := by kernel_rfl
 have HV := Lib.hid hv
 have B1 : Below w.heap.size w (w.alloc (.cells #[.slice av l.length cv] 24)) := (Below.refl _ _).alloc (Nat.le_refl _) _
 have H1 := row_new w (.cells #[.slice av l.length cv] 24)
 clear hv
 obtain ⟨g, hg⟩ : ∃ g, w.heap.size = g := ⟨_, rfl⟩
 go_enter Tryz.func7, Tryz.ntmps7
 go_upto_region 1 with fail
 generalize hw1 : w.alloc (.cells #[.slice av l.length cv] 24) = w1
 rw [hw1] at B1 H1
 rw [hg] at H1
 clear hw1 hg
 go_wp2_with fail
 refine (head_any w1).mono ?_
 rintro e w2 ⟨rfl, hb2⟩
 have B2 := below_step B1 (Nat.le_refl _) hb2
 have H2 := Lib.hid (row_later hb2 H1)
 have HV2 := Lib.hid (HV.out.later B2)
 clear HV hb2 B1 H1
 obtain ⟨mz, m0⟩ := rk1 H2.out
 go_wp2_with fail
 refine (fewL_any _ l w2 (HV2.out.is hl)).mono ?_
 rintro e w3 ⟨⟨r, rfl, hr0⟩, hb3⟩
 have B3 := below_step B2 (Nat.le_refl _) hb3
 have H3 := Lib.hid (row_later hb3 H2.out)
 have HV3 := Lib.hid (HV2.out.later hb3)
 clear HV2 hb3 B2 H2
 cases r with
 |false =>
  go_wp2
  go_ret
  exact ⟨rfl, B3⟩
 |true =>
  have hr := hr0 rfl
  clear hr0
  obtain ⟨mz, m0⟩ := rk1 H3.out
  go_wp2_with fail
  have HRL := Lib.hid hr
  clear hr
  have FT := fitL_any _ l w3 (HV3.out.is hl) (by have := HRL.out.1; omega) (keys_few HRL.out)
  obtain ⟨fp, hfp⟩ : ∃ z, fitP l = z := ⟨_, rfl⟩
  rw [hfp] at FT
  have HFP := Lib.hid hfp
  clear hfp
  refine FT.mono ?_
  rintro e w4 ⟨rfl, hb4⟩
  have B4 := below_step B3 (Nat.le_refl _) hb4
  have H4 := Lib.hid (row_later hb4 H3.out)
  have HV4 := Lib.hid (HV3.out.later hb4)
  clear FT HV3 hb4 B3 H3
  cases fp with
  |false =>
   go_wp2
   go_ret
   exact ⟨rfl, B4⟩
  |true =>
   obtain ⟨mz, m0⟩ := rk1 H4.out
   go_wp2_with fail
   refine (simMap_any _ l 0 w4 HV4.out (by have := HRL.out.1; omega) (keys_few HRL.out)).mono ?_
   rintro e w5 ⟨x5, rfl, hx5, hb5⟩
   obtain ⟨D, hFl⟩ := flat_law HFP.out
   have hG := hFl.gone
   have hD := hFl.eq
   have HON := hFl.on
   have HRI := hFl.ring
   rw [hD] at HON
   have HON := Lib.hid HON
   have HRI := Lib.hid HRI
   have HFO := Lib.hid (fun o (ho : o ∈ l) => (fit_parts.1 HFP.out).2.2 o ho)
   rw [hD] at hx5
   have hML := drops_len (m := l) D
   obtain ⟨a5, c5, hx5e⟩ : ∃ a5 c5, x5 = .slice a5 (dropsP l D).length c5 := by
    obtain ⟨L, ⟨a, cap, e, _⟩, h2, _⟩ := hx5
    exact ⟨a, cap, by rw [e, ← h2, List.length_map]⟩
   subst hx5e
   have HOK := Lib.hid (fit_parts.1 HFP.out).1
   have HG := Lib.hid hG
   have HCK := Lib.hid (fit_parts.1 HFP.out).2.1
   have HKL := Lib.hid (keys_few HRL.out)
   have HKX := Lib.hid (show (keysP (dropsP l D)).length ≤ 20000 by rw [← hD]; exact keys_few (sim_small HRL.out))
   have HNL := Lib.hid (HRL.out.1)
   have HX5 := Lib.hid (hx5.later ((Below.refl _ w5).alloc (Nat.le_refl _) (.cells #[.slice a5 (dropsP l D).length c5] 24)))
   have HV5 := Lib.hid ((HV4.out.later hb5).later ((Below.refl _ w5).alloc (Nat.le_refl _) (.cells #[.slice a5 (dropsP l D).length c5] 24)))
   have B5 := (below_step B4 (Nat.le_refl _) hb5).alloc (below_step B4 (Nat.le_refl _) hb5).size (.cells #[.slice a5 (dropsP l D).length c5] 24)
   have H5 := row_past (o' := .cells #[.slice a5 (dropsP l D).length c5] 24) (row_later hb5 H4.out)
   have H5x := row_new w5 (.cells #[.slice a5 (dropsP l D).length c5] 24)
   clear HV4 hb5 B4 H4 hx5 hD hG HFP
   obtain ⟨g5, hg5⟩ : ∃ g5, w5.heap.size = g5 := ⟨_, rfl⟩
   rw [hg5] at H5x
   go_upto_region 5 with fail
   generalize hw6 : w5.alloc (.cells #[.slice a5 (dropsP l D).length c5] 24) = w6
   rw [hw6] at HX5 HV5 B5 H5 H5x
   clear hw6 hg5
   have HVI := HV5.out.is hl
   have HXI := HX5.out.is (by omega)
   obtain ⟨X, hX⟩ : ∃ X, dropsP l D = X := ⟨_, rfl⟩
   have FG := Lib.hid (fun r (hd : r ∈ D) => find_gone (m := l) hd)
   have FL := Lib.hid (fun o (ho : o ∈ l) (hd : o.id ∉ D) => find_left HG.out ho hd)
   have PM := Lib.hid (fun o (ho : o ∈ l) (hk : o.kind = 3) => area_pts HOK.out ho hk (HFO.out o ho))
   have PX := Lib.hid (fun o (ho : o ∈ l) (hk : o.kind = 3) => area_left HG.out ho hk (HFO.out o ho))
   have HOX := Lib.hid HG.out.ok
   rw [hX] at HXI H5x hML FG FL HOX HKX HON PX ⊢
   have FD := Lib.hid (fun id w' hb => findO_any _ X id w' (HXI.later (w' := w') hb) (by have := HNL.out; omega))
   have P1 := Lib.hid (fun id w' hb => points_any _ l id w' (HVI.later (w' := w') hb))
   have P2 := Lib.hid (fun id w' hb => points_any _ X id w' (HXI.later (w' := w') hb))
   have S2 := Lib.hid (fun w' hb => segments_any _ X w' (HXI.later (w' := w') hb) HOX.out)
   obtain ⟨_, _, hv1, -, hc⟩ := HVI
   obtain ⟨_, _, hv2, -, hcx⟩ := HXI
   obtain ⟨N, hN⟩ : ∃ N, l.length = N := ⟨_, rfl⟩
   obtain ⟨M, hM⟩ : ∃ M, X.length = M := ⟨_, rfl⟩
   injection hv1 with e1 _ e2
   injection hv2 with e3 _ e4
   subst e1 e2 e3 e4
   have hNL := HNL.out
   rw [hN] at hc H5 hML hNL P1 ⊢
   rw [hM] at hcx H5x hML S2 FD P2 ⊢
   have HC := Lib.hid hc
   have HCX := Lib.hid hcx
   have HN := Lib.hid hN
   have HM := Lib.hid hM
   have H5 := Lib.hid H5
   have H5x := Lib.hid H5x
   have hMN : M ≤ N := by omega
   have keysl := HKL.out
   clear hc hcx hN hM HX5 HV5 hX HRL HNL hML
   clear keysl
   obtain ⟨nz, n0⟩ := rk1 H5x.out
   go_wp2_with fail
   clear n0 nz
   refine (S2.out w6 (Below.refl _ _)).mono ?_
   rintro e w8 ⟨v3, v4, rfl, hr3, hr4, hb8⟩
   have H8 := Lib.hid (row_later hb8 H5.out)
   have H8x := Lib.hid (row_later hb8 H5x.out)
   obtain ⟨a3, c3, hv3, hk3⟩ := hr3
   rw [List.length_map] at hv3 hk3
   subst hv3
   have HK3 := Lib.hid hk3
   obtain ⟨KX, hKX⟩ : ∃ K, (keysP X).length = K := ⟨_, rfl⟩
   rw [hKX] at HK3 ⊢
   have HKXN := Lib.hid hKX
   have hKXl : KX ≤ 20000 := by rw [← hKX]; exact HKX.out
   clear hr4 hk3 S2 hKX
   go_wp2_with fail
   go_loopw [7] (fun i wr => ∃ k : Nat, i = .int .i64 k ∧ k ≤ N ∧ Below w8.heap.size w8 wr) (fun i _ => N - (intOf i).toNat)
   case atStart => exact ⟨0, rfl, Nat.zero_le _, Below.refl _ _⟩
   case round =>
    obtain ⟨k, rfl, hk, hbr⟩ := hrel
    obtain ⟨wq, rfl⟩ : ∃ z : World, z = wr := ⟨_, rfl⟩
    have HQ := Lib.hid (row_later hbr H8.out)
    have HQX := Lib.hid (row_later hbr H8x.out)
    have BQ := below_step hb8 (Nat.le_refl _) hbr
    by_cases hlt : k < N
    ·obtain ⟨o, ho⟩ : ∃ o, l[k]? = some o := ⟨l[k]'(by rw [HN.out]; exact hlt), List.getElem?_eq_getElem _⟩
     obtain ⟨b, off, ha, hcell⟩ := HC.out (by omega)
     subst ha
     obtain ⟨vr, vt, c0, c1, c2, c3', c4, c5', hsr, htr, hz⟩ := (hcell k o ho).later BQ
     obtain ⟨ar, capr, rfl, -⟩ := hsr
     obtain ⟨at1, capt, rfl, -⟩ := htr
     have HMO := Lib.hid (List.mem_of_getElem? ho)
     have bz := lt_of_cell c0
     have BX : Below wq.heap.size wq (wq.alloc (.cells #[.string o.id, .int .i64 o.kind, .int .i64 o.x, .int .i64 o.y, .slice ar o.refs.length capr, .slice at1 o.tags.length capt] 36)) := (Below.refl _ _).alloc (Nat.le_refl _) _
     have HX := row_new wq (.cells #[.string o.id, .int .i64 o.kind, .int .i64 o.x, .int .i64 o.y, .slice ar o.refs.length capr, .slice at1 o.tags.length capt] 36)
     clear hcell ho
     obtain ⟨mz, m0⟩ := rk1 HQ.out
     go_upto_region 10 with fail
     clear m0 mz
     generalize hwx : wq.alloc (.cells #[.string o.id, .int .i64 o.kind, .int .i64 o.x, .int .i64 o.y, .slice ar o.refs.length capr, .slice at1 o.tags.length capt] 36) = wx
     rw [hwx] at BX HX
     obtain ⟨b8, hb8'⟩ : ∃ z, z = wq.heap.size := ⟨_, rfl⟩
     rw [← hb8'] at HX ⊢
     have HX := Lib.hid HX
     have HMX := Lib.hid (row_later BX HQ.out)
     have HXX := Lib.hid (row_later BX HQX.out)
     have BWX := below_step BQ (Nat.le_refl _) BX
     have B8X := below_step hbr (Nat.le_refl _) BX
     clear hwx c0 c1 c2 c3' c4 c5' bz HQ HQX hb8' BX
     obtain ⟨xz, x0, x1, x2, x3, x4, x5⟩ := rk6 HX.out
     obtain ⟨nz, n0⟩ := rk1 HXX.out
     by_cases hk1 : o.kind = 1
     ·have f1 : (o.kind == 1) = true := by rw [hk1]; rfl
      have f3 : (o.kind == 3) = false := by rw [hk1]; rfl
      by_cases hd : o.id ∈ D
      ·have F1 := FD.out o.id wx BWX
       rw [FG.out _ hd] at F1
       have F1 := Lib.hid F1
       obtain ⟨kx0, hkx0, hon0⟩ := HON.out _ hd
       have hpt : ptO l o.id = (o.x, o.y) := pt_at HOK.out (at_some HOK.out HMO.out) hk1
       rw [hpt, ← onQ_srt] at hon0
       have HAN := Lib.hid (show anyOn X (o.x, o.y) (keysP X) = true from List.any_eq_true.2 ⟨_, hkx0, hon0⟩)
       have HNP := Lib.hid (show nearQ (o.x, o.y) = true by rw [← hpt]; exact pt_near HOK.out _)
       clear hkx0 hon0 hpt hd hk1
       go_wp2_with fail
       refine F1.out.mono ?_
       rintro e wa ⟨rfl, hb⟩
       have H9 := Lib.hid (row_later hb HX.out)
       have B8A := below_step B8X (Nat.le_refl _) hb
       clear x0 x1 x2 x3 x4 x5 xz
       clear n0 nz
       clear F1 hb BWX B8X
       go_wp2_with fail
       go_loopw [9, 10] (fun v9 i wi => ∃ j : Nat, i = .int .i64 j ∧ j ≤ KX ∧ v9 = .bool (anyOn X (o.x, o.y) ((keysP X).take j)) ∧ Below wa.heap.size wa wi) (fun _ i _ => KX - (intOf i).toNat)
       case atStart => exact ⟨0, rfl, Nat.zero_le _, rfl, Below.refl _ _⟩
       case round =>
        obtain ⟨j, rfl, hj, rfl, hbi⟩ := hrel
        obtain ⟨wi, rfl⟩ : ∃ z : World, z = wr := ⟨_, rfl⟩
        have B8I := below_step B8A (Nat.le_refl _) hbi
        by_cases hlj : j < KX
        ·obtain ⟨kx, hkx⟩ : ∃ kx, (keysP X)[j]? = some kx := ⟨(keysP X)[j]'(by rw [HKXN.out]; exact hlj), List.getElem?_eq_getElem _⟩
         obtain ⟨b3, f3', hA3, hc3⟩ := HK3.out (by omega)
         subst hA3
         have HAT := Lib.hid (show anyOn X (o.x, o.y) ((keysP X).take (j + 1)) = (anyOn X (o.x, o.y) ((keysP X).take j) || onQ (segB X kx) (o.x, o.y)) by unfold anyOn; rw [take_snoc' hkx, List.any_append]; simp)
         have p0' := cell_later B8I (hc3 j (segB X kx) (by rw [List.getElem?_map, hkx]; rfl) 0 _ rfl)
         have p0 : wi.cell? ⟨b3, f3' + j * 4, none⟩ = _ := p0'
         have p1 := cell_later B8I (hc3 j (segB X kx) (by rw [List.getElem?_map, hkx]; rfl) 1 _ rfl)
         have p2 := cell_later B8I (hc3 j (segB X kx) (by rw [List.getElem?_map, hkx]; rfl) 2 _ rfl)
         have p3 := cell_later B8I (hc3 j (segB X kx) (by rw [List.getElem?_map, hkx]; rfl) 3 _ rfl)
         have z1 := lt_of_cell p0
         have ON := Lib.hid (fun W => on_any' (segB X kx) (o.x, o.y) (by unfold nearS segB; rw [Bool.and_eq_true]; exact ⟨pt_near HOX.out _, pt_near HOX.out _⟩) HNP.out W)
         have H10 := Lib.hid (row_later hbi H9.out)
         clear hc3 p0' hkx
         generalize onQ (segB X kx) (o.x, o.y) = ob at HAT ON
         generalize segB X kx = sx at p0 p1 p2 p3 ON
         obtain ⟨⟨x1', x2'⟩, ⟨x3', x4'⟩⟩ := sx
         simp only [] at p0 p1 p2 p3
         obtain ⟨cur, hcur⟩ : ∃ z, anyOn X (o.x, o.y) ((keysP X).take j) = z := ⟨_, rfl⟩
         rw [hcur] at HAT ⊢
         have q0 := cell_belowBy p0
         have q1 := cell_belowBy p1
         have q2 := cell_belowBy p2
         have q3 := cell_belowBy p3
         clear p0 p1 p2 p3 hcur
         obtain ⟨xz, x0, x1, x2, x3, x4, x5⟩ := rk6 H10.out
         have qx0 := cell_belowBy x0
         have qx1 := cell_belowBy x1
         have qx2 := cell_belowBy x2
         have qx3 := cell_belowBy x3
         have qx4 := cell_belowBy x4
         have qx5 := cell_belowBy x5
         clear x0 x1 x2 x3 x4 x5
         cases cur
         all_goals
          go_upto_region 15 with fail
          refine wp_region_quiet_below mixed (by kernel_rfl) ?_
          repeat (go_big_quiet_step ((go_at_call 23; exact calls_belowBy (ON.out _))))
          refine wpQuiet_nil ?_
          intro w9 hw'
          obtain ⟨⟨wz, hbz⟩, hw''⟩ := hw'
          subst hw''
          have BZ := below_step hbi (Nat.le_refl _) hbz
          clear q0 q1 q2 q3 qx0 qx1 qx2 qx3 qx4 qx5
          go_wp2
          go_roundw
          case rel => exact ⟨j + 1, by go_num, by omega, by rw [HAT.out] <;> rfl, BZ⟩
          case measure => simp [intOf]; omega
        ·obtain rfl : j = KX := by omega
         have htk : (keysP X).take j = keysP X := List.take_of_length_le (by rw [HKXN.out]; exact Nat.le_refl _)
         rw [htk, HAN.out]
         have H10 := Lib.hid (row_later hbi H9.out)
         obtain ⟨xz, x0, x1, x2, x3, x4, x5⟩ := rk6 H10.out
         go_wp2
         go_roundw
         case rel => exact ⟨k + 1, by go_num, by omega, B8I⟩
         case measure => simp [intOf]; omega
      ·obtain ⟨jx, hfj, -⟩ := FL.out o HMO.out hd
       have F1 := FD.out o.id wx BWX
       rw [hfj] at F1
       have F1 := Lib.hid F1
       have g1 : decide ((jx : Int) < 0) = false := decide_eq_false (by omega)
       clear hfj hd hk1
       go_wp2_with fail
       refine F1.out.mono ?_
       rintro e wa ⟨rfl, hb⟩
       have H9 := Lib.hid (row_later hb HX.out)
       have B8A := below_step B8X (Nat.le_refl _) hb
       clear x0 x1 x2 x3 x4 x5 xz
       clear n0 nz
       clear F1 hb BWX B8X
       obtain ⟨xz, x0, x1, x2, x3, x4, x5⟩ := rk6 H9.out
       go_wp2
       go_roundw
       case rel => exact ⟨k + 1, by go_num, by omega, B8A⟩
       case measure => simp [intOf]; omega
     ·have f1 : (o.kind == 1) = false := bq_ne hk1
      by_cases hk3 : o.kind = 3
      ·have f3 : (o.kind == 3) = true := by rw [hk3]; rfl
       obtain ⟨A, hA, hA3, hAl, hAn, hAc⟩ := PM.out o HMO.out hk3
       obtain ⟨B, hB, hB3, hBl, hBn, hBc⟩ := PX.out o HMO.out hk3
       have hcy : cycS B = cycS A := by rw [hAc, hBc]; exact HRI.out o HMO.out
       have Q1 := P1.out o.id wx BWX
       rw [hA] at Q1
       have Q1 := Lib.hid Q1
       have Q2 := P2.out o.id
       rw [hB] at Q2
       have Q2 := Lib.hid Q2
       clear n0 nz
       obtain ⟨mz, m0⟩ := rk1 HMX.out
       clear hk1 hk3 hA hB hAc hBc
       go_wp2_with fail
       refine Q1.out.mono ?_
       rintro e wa ⟨⟨va, rfl, hva⟩, hb⟩
       have BA := below_step BWX (Nat.le_refl _) hb
       have B8A := below_step B8X (Nat.le_refl _) hb
       have H9 := Lib.hid (row_later hb HX.out)
       have HXA := Lib.hid (row_later hb HXX.out)
       clear x0 x1 x2 x3 x4 x5 xz
       clear m0 mz
       clear Q1 hb BWX B8X
       obtain ⟨xz, x0, x1, x2, x3, x4, x5⟩ := rk6 H9.out
       obtain ⟨nz, n0⟩ := rk1 HXA.out
       simp only [] at hva
       go_wp2_with fail
       refine (Q2.out wa BA).mono ?_
       rintro e wb ⟨⟨vb, rfl, hvb⟩, hb⟩
       have B8B := below_step B8A (Nat.le_refl _) hb
       have hva := hva.later hb
       simp only [] at hvb
       have T1 := Lib.hid (ringTwice_any va A wb hva hAn hA3 hAl)
       have T2 := Lib.hid (fun W (hb : Below wb.heap.size wb W) => ringTwice_any vb B W (hvb.later hb) hBn hB3 hBl)
       clear x0 x1 x2 x3 x4 x5 xz
       clear n0 nz
       obtain ⟨aa, na, ca, rfl⟩ : ∃ a n c, va = .slice a n c := by obtain ⟨a, c, e, _⟩ := hva; exact ⟨_, _, _, e⟩
       obtain ⟨ab, nb, cb, rfl⟩ : ∃ a n c, vb = .slice a n c := by obtain ⟨a, c, e, _⟩ := hvb; exact ⟨_, _, _, e⟩
       rw [hcy] at T2
       generalize cycS A = cy at T1 T2
       clear hva hvb hb hAn hBn hcy
       go_wp2_with fail
       refine T1.out.mono ?_
       rintro e wc ⟨rfl, hb⟩
       have B8C := below_step B8B (Nat.le_refl _) hb
       go_wp2_with fail
       refine (T2.out wc hb).mono ?_
       rintro e wd ⟨rfl, hb2⟩
       have B8D := below_step B8C (Nat.le_refl _) hb2
       have ncy : (cy != cy) = false := by simp
       go_wp2
       go_roundw
       case rel => exact ⟨k + 1, by go_num, by omega, B8D⟩
       case measure => simp [intOf]; omega
      ·have f3 : (o.kind == 3) = false := bq_ne hk3
       clear hk1 hk3
       go_wp2
       go_roundw
       case rel => exact ⟨k + 1, by go_num, by omega, B8X⟩
       case measure => simp [intOf]; omega
    ·obtain rfl : k = N := by omega
     obtain ⟨mz, m0⟩ := rk1 HQ.out
     go_wp2
     go_ret
     exact ⟨rfl, below_step B5 (Nat.le_refl _) BQ⟩
end Go.Proofs.YtibpaaajghbkoaaGreat
