/-  -/
import Derived.Test.YtibpaaajghbkoaaGreatTBs
import Derived.Test.YtibpaaajghbkoaaGreatTBt
import Derived.Test.YtibpaaajghbkoaaGreatTBo
import Derived.Test.YtibpaaajghbkoaaGreatTAk
import Derived.Test.YtibpaaajghbkoaaGreatTBn
namespace Go.Proofs.YtibpaaajghbkoaaGreat
open Go.RowKit Go.Sort
def goneI (D : List ByteArray) (l : List ObjD) : List ByteArray := (l.filter fun o => decide (o.id ∈ D)).map (·.id)
theorem goneI_take (D : List ByteArray) {l : List ObjD} {k : Nat} {o : ObjD} (ho : l[k]? = some o) : goneI D (l.take (k + 1)) = goneI D (l.take k) ++ (if o.id ∈ D then [o.id] else []) := by
 unfold goneI
 rw [take_snoc' ho, List.filter_append, List.map_append]
 congr 1
 by_cases h : o.id ∈ D
 ·rw [if_pos h, List.filter_cons, if_pos (decide_eq_true h)]; rfl
 ·rw [if_neg h, List.filter_cons, if_neg (by simpa using h)]; rfl
theorem goneI_mem {D : List ByteArray} {l : List ObjD} {r : ByteArray} (h : r ∈ goneI D l) : r ∈ D := by
 obtain ⟨o, ho, rfl⟩ := List.mem_map.1 h
 exact of_decide_eq_true (List.mem_filter.1 ho).2
theorem goneI_len (D : List ByteArray) (l : List ObjD) (k : Nat) : (goneI D (l.take k)).length ≤ k := by
 unfold goneI
 rw [List.length_map]
 exact Nat.le_trans (List.length_filter_le _ _) (by rw [List.length_take]; omega)
theorem find_gone {m : List ObjD} {D : List ByteArray} {r : ByteArray} (hd : r ∈ D) : findI r (dropsP m D) = -1 := by unfold findI; rw [pos_gone hd]
theorem find_left {m : List ObjD} {D : List ByteArray} (h : GoneM m D) {o : ObjD} (ho : o ∈ m) (hd : o.id ∉ D) : ∃ j : Nat, findI o.id (dropsP m D) = (j : Int) ∧ (dropsP m D)[j]? = some ⟨o.id, o.kind, o.x, o.y, o.refs.filter fun r => decide (r ∉ D), o.tags⟩ := by
 obtain ⟨j, hj, hx⟩ := pos_left h ho hd
 exact ⟨j, by unfold findI; rw [hj], hx⟩
theorem find_ref {m : List ObjD} {D : List ByteArray} (h : GoneM m D) {o : ObjD} (hf : ∀ r ∈ o.refs, ∃ x ∈ m, x.id = r) {r : ByteArray} (hr : r ∈ o.refs) : ∃ (n : Int) (b : Bool), findI r (dropsP m D) = n ∧ decide (n < 0) = b ∧ decide (r ∈ o.refs.filter fun r => decide (r ∉ D)) = !b := by
 by_cases hd : r ∈ D
 ·exact ⟨-1, true, find_gone hd, rfl, decide_eq_false fun c => of_decide_eq_true (List.mem_filter.1 c).2 hd⟩
 ·obtain ⟨x, hx, rfl⟩ := hf r hr
  obtain ⟨j, hj, -⟩ := find_left h hx hd
  exact ⟨j, false, hj, decide_eq_false (by omega), decide_eq_true (List.mem_filter.2 ⟨hr, decide_eq_true hd⟩)⟩
theorem fit_refs {l : List ObjD} (h : fitP l = true) {o : ObjD} (ho : o ∈ l) : ∀ r ∈ o.refs, ∃ x ∈ l, x.id = r := fun r hr => by
 obtain ⟨i, hi⟩ := List.getElem?_of_mem hr
 obtain ⟨x, hx, -⟩ := fit_iff.1 ((fit_parts.1 h).2.2 o ho) i r hi
 exact ⟨x, at_node hx⟩
theorem kind_lens {l : List ObjD} (h : mapOK l = true) {o : ObjD} (ho : o ∈ l) : (o.kind = 5 → o.refs.length = 3) ∧ (o.kind = 2 → 2 ≤ o.refs.length) := by
 have h1 := map_obj h ho
 simp only [objOK, Bool.and_eq_true, decide_eq_true_eq] at h1
 obtain ⟨⟨⟨⟨⟨⟨h2, _⟩, _⟩, h3⟩, _⟩, _⟩, h4⟩ := h1
 constructor
 ·intro hk
  rw [if_neg (by omega), if_pos hk] at h4
  simp only [Bool.and_eq_true, decide_eq_true_eq] at h4
  exact h4.1
 ·intro hk
  unfold leastK at h3
  rw [if_neg (by omega), if_pos hk] at h3
  omega
set_option maxRecDepth 100000 in
set_option maxHeartbeats 4000000 in
theorem stays_any (c : Value) (l : List ObjD) (tol : Int) (w : World) (hv : ObjC w c l) (hl : l.length ≤ 140737488355328) :
  Calls Tryz.prog 5 #[.agg #[c], .int .i64 tol] w fun e w' => e = .returned (.bool true) ∧ Below w.heap.size w w' := by
 obtain ⟨av, cv, rfl⟩ : ∃ av cv, c = .slice av l.length cv := by
  obtain ⟨L, ⟨a, cap, e, _⟩, h2, _⟩ := hv
  exact ⟨a, cap, by rw [e, ← h2, List.length_map]⟩
 have HV := Lib.hid hv
 have B1 : Below w.heap.size w (w.alloc (.cells #[.slice av l.length cv] 24)) := (Below.refl _ _).alloc (Nat.le_refl _) _
 have H1 := row_new w (.cells #[.slice av l.length cv] 24)
 clear hv
 obtain ⟨g, hg⟩ : ∃ g, w.heap.size = g := ⟨_, rfl⟩
 go_enter Tryz.func5, Tryz.ntmps5
 go_upto_region 1 with fail
 generalize hw1 : w.alloc (.cells #[.slice av l.length cv] 24) = w1
 rw [hw1] at B1 H1
 rw [hg] at H1
 clear hw1 hg
 go_wp2_with fail
 refine (head_any w1).mono ?_
 rintro e w2 ⟨rfl, hb2⟩
 have B2 := below_step B1 (Nat.le_refl _) hb2
 have H2 := Lib.hid (row_later hb2 H1)
 have HV2 := Lib.hid (HV.out.later B2)
 clear HV hb2 B1 H1
 obtain ⟨mz, m0⟩ := rk1 H2.out
 go_wp2_with fail
 refine (fewL_any _ l w2 (HV2.out.is hl)).mono ?_
 rintro e w3 ⟨⟨r, rfl, hr0⟩, hb3⟩
 have B3 := below_step B2 (Nat.le_refl _) hb3
 have H3 := Lib.hid (row_later hb3 H2.out)
 have HV3 := Lib.hid (HV2.out.later hb3)
 clear HV2 hb3 B2 H2
 cases r with
 |false =>
  go_wp2
  go_ret
  exact ⟨rfl, B3⟩
 |true =>
  have hr := hr0 rfl
  clear hr0
  obtain ⟨mz, m0⟩ := rk1 H3.out
  go_wp2_with fail
  have HRL := Lib.hid hr
  clear hr
  have FT := fitL_any _ l w3 (HV3.out.is hl) (by have := HRL.out.1; omega) (keys_few HRL.out)
  obtain ⟨fp, hfp⟩ : ∃ z, fitP l = z := ⟨_, rfl⟩
  rw [hfp] at FT
  have HFP := Lib.hid hfp
  clear hfp
  refine FT.mono ?_
  rintro e w4 ⟨rfl, hb4⟩
  have B4 := below_step B3 (Nat.le_refl _) hb4
  have H4 := Lib.hid (row_later hb4 H3.out)
  have HV4 := Lib.hid (HV3.out.later hb4)
  clear FT HV3 hb4 B3 H3
  cases fp with
  |false =>
   go_wp2
   go_ret
   exact ⟨rfl, B4⟩
  |true =>
   obtain ⟨mz, m0⟩ := rk1 H4.out
   go_wp2_with fail
   refine (simMap_any _ l tol w4 HV4.out (by have := HRL.out.1; omega) (keys_few HRL.out)).mono ?_
   rintro e w5 ⟨x5, rfl, hx5, hb5⟩
   obtain ⟨D, hG, hD⟩ := gone_sim (fit_parts.1 HFP.out).1 tol
   rw [hD] at hx5
   have hML := drops_len (m := l) D
   obtain ⟨a5, c5, hx5e⟩ : ∃ a5 c5, x5 = .slice a5 (dropsP l D).length c5 := by
    obtain ⟨L, ⟨a, cap, e, _⟩, h2, _⟩ := hx5
    exact ⟨a, cap, by rw [e, ← h2, List.length_map]⟩
   subst hx5e
   have HOK := Lib.hid (fit_parts.1 HFP.out).1
   have HG := Lib.hid hG
   have HRF := Lib.hid (fun o (ho : o ∈ l) => fit_refs HFP.out ho)
   have HNL := Lib.hid (HRL.out.1)
   have HX5 := Lib.hid (hx5.later ((Below.refl _ w5).alloc (Nat.le_refl _) (.cells #[.slice a5 (dropsP l D).length c5] 24)))
   have HV5 := Lib.hid ((HV4.out.later hb5).later ((Below.refl _ w5).alloc (Nat.le_refl _) (.cells #[.slice a5 (dropsP l D).length c5] 24)))
   have B5 := (below_step B4 (Nat.le_refl _) hb5).alloc (below_step B4 (Nat.le_refl _) hb5).size (.cells #[.slice a5 (dropsP l D).length c5] 24)
   have H5 := row_past (o' := .cells #[.slice a5 (dropsP l D).length c5] 24) (row_later hb5 H4.out)
   have H5x := row_new w5 (.cells #[.slice a5 (dropsP l D).length c5] 24)
   clear HV4 hb5 B4 H4 hx5 hD hG HFP
   obtain ⟨g5, hg5⟩ : ∃ g5, w5.heap.size = g5 := ⟨_, rfl⟩
   rw [hg5] at H5x
   go_upto_region 5 with fail
   generalize hw6 : w5.alloc (.cells #[.slice a5 (dropsP l D).length c5] 24) = w6
   rw [hw6] at HX5 HV5 B5 H5 H5x
   clear hw6 hg5
   have HVI := HV5.out.is hl
   have HXI := HX5.out.is (by omega)
   obtain ⟨X, hX⟩ : ∃ X, dropsP l D = X := ⟨_, rfl⟩
   have FG := Lib.hid (fun r (hd : r ∈ D) => find_gone (m := l) hd)
   have FL := Lib.hid (fun o (ho : o ∈ l) (hd : o.id ∉ D) => find_left HG.out ho hd)
   have FR := Lib.hid (fun o (ho : o ∈ l) r (hr : r ∈ o.refs) => find_ref HG.out (HRF.out o ho) hr)
   rw [hX] at HXI H5x hML FG FL FR ⊢
   have FD := Lib.hid (fun id w' hb => findO_any _ X id w' (HXI.later (w' := w') hb) (by have := HNL.out; omega))
   have RF := Lib.hid (fun id w' hb => refers_any _ l id w' (HVI.later (w' := w') hb) HOK.out)
   obtain ⟨_, _, hv1, -, hc⟩ := HVI
   obtain ⟨_, _, hv2, -, hcx⟩ := HXI
   obtain ⟨N, hN⟩ : ∃ N, l.length = N := ⟨_, rfl⟩
   obtain ⟨M, hM⟩ : ∃ M, X.length = M := ⟨_, rfl⟩
   injection hv1 with e1 _ e2
   injection hv2 with e3 _ e4
   subst e1 e2 e3 e4
   have hNL := HNL.out
   rw [hN] at hc H5 hML hNL RF ⊢
   rw [hM] at hcx H5x hML FD ⊢
   have HC := Lib.hid hc
   have HCX := Lib.hid hcx
   have HN := Lib.hid hN
   have HM := Lib.hid hM
   have H5 := Lib.hid H5
   have H5x := Lib.hid H5x
   have HLG := Lib.hid hML
   obtain ⟨i0, hi, hi0, hi1, hi2⟩ := info_parts infoStr
   have hMN : M ≤ N := by omega
   clear hc hcx hN hM HX5 HV5 hX HRL HNL HRF hML
   go_wp2_with fail
   go_loopw [7, 8] (fun v7 i wr => ∃ k : Nat, i = .int .i64 k ∧ k ≤ N ∧ wr.ownsRow w6.heap.size 9 1 v7 (goneI D (l.take k)).length ((goneI D (l.take k)).map Value.string) ∧ Below w6.heap.size w6 wr) (fun _ i _ => N - (intOf i).toNat)
   case atStart => exact ⟨0, rfl, Nat.zero_le _, World.ownsRow_nil _ _ _ _, Below.refl _ _⟩
   case round =>
    obtain ⟨k, rfl, hk, hown, hbr⟩ := hrel
    obtain ⟨wq, rfl⟩ : ∃ z : World, z = wr := ⟨_, rfl⟩
    have HQ := Lib.hid (row_later hbr H5.out)
    have HQX := Lib.hid (row_later hbr H5x.out)
    have hsz := hbr.size
    by_cases hlt : k < N
    ·obtain ⟨o, ho⟩ : ∃ o, l[k]? = some o := ⟨l[k]'(by rw [HN.out]; exact hlt), List.getElem?_eq_getElem _⟩
     obtain ⟨b, off, ha, hcell⟩ := HC.out (by omega)
     subst ha
     obtain ⟨vr, vt, c0, c1, c2, c3, c4, c5', hsr, htr, hz⟩ := (hcell k o ho).later hbr
     have HSR := Lib.hid hsr
     have HTR := Lib.hid htr
     obtain ⟨ar, capr, rfl, hrl, hrz, hrc⟩ := hsr
     obtain ⟨at1, capt, rfl, _⟩ := htr
     have HO := Lib.hid ho
     have HMO := Lib.hid (List.mem_of_getElem? ho)
     have HRC := Lib.hid hrc
     have HT := Lib.hid (goneI_take D ho)
     have bz := lt_of_cell c0
     have BX : Below wq.heap.size wq (wq.alloc (.cells #[.string o.id, .int .i64 o.kind, .int .i64 o.x, .int .i64 o.y, .slice ar o.refs.length capr, .slice at1 o.tags.length capt] 36)) := (Below.refl _ _).alloc (Nat.le_refl _) _
     have HX := row_new wq (.cells #[.string o.id, .int .i64 o.kind, .int .i64 o.x, .int .i64 o.y, .slice ar o.refs.length capr, .slice at1 o.tags.length capt] 36)
     have HOWN := Lib.hid (own_later hown BX)
     clear hcell ho hrc hown
     obtain ⟨mz, m0⟩ := rk1 HQ.out
     go_upto_region 10 with fail
     clear m0 mz
     generalize hwx : wq.alloc (.cells #[.string o.id, .int .i64 o.kind, .int .i64 o.x, .int .i64 o.y, .slice ar o.refs.length capr, .slice at1 o.tags.length capt] 36) = wx
     rw [hwx] at BX HX HOWN
     obtain ⟨b9, hb9⟩ : ∃ z, z = wq.heap.size := ⟨_, rfl⟩
     rw [← hb9] at HX ⊢
     have HX := Lib.hid HX
     have HMX := Lib.hid (row_later BX HQ.out)
     have HXX := Lib.hid (row_later BX HQX.out)
     have BWX := below_step hbr (Nat.le_refl _) BX
     have hxl := lt_of_block HX.out
     clear hwx c0 c1 c2 c3 c4 c5' bz HQ HQX hbr hb9
     obtain ⟨xz, x0, x1, x2, x3, x4, x5⟩ := rk6 HX.out
     obtain ⟨nz, n0⟩ := rk1 HXX.out
     by_cases hd : o.id ∈ D
     ·have F1 := FD.out o.id wx BWX
      rw [FG.out _ hd] at F1
      have F1 := Lib.hid F1
      obtain ⟨hk1, ht1⟩ := gone_kind HG.out HMO.out hd
      have g1 : (o.kind != 1) = false := bn_eq hk1
      have ht0 : o.tags.length = 0 := by rw [ht1]; rfl
      have g2 : decide ((0 : Int) < (o.tags.length : Int)) = false := decide_eq_false (by omega)
      have g2' : decide (0 < o.tags.length) = false := decide_eq_false (by omega)
      have hrn : (refersP l o.id).length ≠ 0 := fun c => gone_refers HG.out hd (by rw [List.length_eq_zero_iff.1 c]; rfl)
      have g3 : (((refersP l o.id).length : Int) == 0) = false := bq_ne (by omega)
      have g4 : decide ((-1 : Int) ≥ (M : Int)) = false := decide_eq_false (by omega)
      have HT2 := HT.out
      rw [if_pos hd] at HT2
      have HT2 := Lib.hid HT2
      clear hk1 ht1 hd HT hrn
      go_wp2_with fail
      refine F1.out.mono ?_
      rintro e wa ⟨rfl, hb⟩
      have H9 := Lib.hid (row_later hb HX.out)
      have HMA := Lib.hid (row_later hb HMX.out)
      have HXA := Lib.hid (row_later hb HXX.out)
      have BA := below_step BWX (Nat.le_refl _) hb
      have HOW := Lib.hid (own_later HOWN.out hb)
      clear x0 x1 x2 x3 x4 x5 xz
      clear n0 nz
      clear F1 hb HOWN BX BWX
      obtain ⟨xz, x0, x1, x2, x3, x4, x5⟩ := rk6 H9.out
      obtain ⟨nz, n0⟩ := rk1 HXA.out
      obtain ⟨mz, m0⟩ := rk1 HMA.out
      go_wp2_with fail
      refine (RF.out o.id wa BA).mono ?_
      rintro e wb ⟨⟨a8, c8, rfl⟩, hb⟩
      have H9b := Lib.hid (row_later hb H9.out)
      have BB := below_step BA (Nat.le_refl _) hb
      have O5 := own_later HOW.out hb
      have hszb := BB.size
      have hgl := goneI_len D l k
      clear x0 x1 x2 x3 x4 x5 xz
      clear n0 nz
      clear m0 mz
      clear hb HOW BA H9 HXA HMA
      obtain ⟨xz, x0, x1, x2, x3, x4, x5⟩ := rk6 H9b.out
      generalize goneI D (l.take k) = out at O5 HT2 hgl
      go_wp2_with (at_builtin; refine wpList_append_own _ rfl _ _ 31 rfl w6.heap.size 9 i0 (.string ⟨#[]⟩) 1 16 Tryz.underlying31 hi hi0 hi1 hi2 rfl (by decide) _ _ _ rfl (O5.alloc _) ⟨wb.heap.size, 0, none⟩ 1 1 [.string o.id] rfl rfl (cells_new _ _ _) (by simp [Value.oneCell']) (by unfold maxLen; omega) (by omega) (by simp; omega) ?_; intro v' w10 hown2 hgrow _; have hb10 := appended O5 hszb hgrow)
      have HOW2 := Lib.hid (show w10.ownsRow w6.heap.size 9 1 v' (goneI D (l.take (k + 1))).length ((goneI D (l.take (k + 1))).map Value.string) by rw [HT2.out, List.length_append, List.map_append]; exact hown2)
      have B10 := BB.trans hb10
      clear hown2 hgrow O5
      go_roundw
      case rel => exact ⟨k + 1, by go_num, by omega, HOW2.out, B10⟩
      case measure => simp [intOf]; omega
     ·obtain ⟨kx, hfk, hxk⟩ := FL.out o HMO.out hd
      have F1 := FD.out o.id wx BWX
      rw [hfk] at F1
      have F1 := Lib.hid F1
      obtain ⟨F, hFd⟩ : ∃ F, o.refs.filter (fun r => decide (r ∉ D)) = F := ⟨_, rfl⟩
      have hkM : kx < M := by rw [← HM.out]; exact (List.getElem?_eq_some_iff.1 hxk).1
      have hpart : partI F o.refs 0 = F.length := by rw [← hFd]; exact part_all _ _
      have FRO := FR.out o HMO.out
      rw [hFd] at hxk FRO
      have FRO := Lib.hid FRO
      have HPT := Lib.hid (decide_eq_true hpart)
      have g4 : decide ((kx : Int) ≥ (M : Int)) = false := decide_eq_false (by omega)
      have g4n : decide (M ≤ kx) = false := decide_eq_false (by omega)
      have gK : decide ((kx : Int) ≥ 0) = true := decide_eq_true (by omega)
      have HT2 := HT.out
      rw [if_neg hd, List.append_nil] at HT2
      have HT2 := Lib.hid HT2
      have HXK := Lib.hid hxk
      clear hd HT hfk hFd hpart hxk
      go_wp2_with fail
      refine F1.out.mono ?_
      rintro e wa ⟨rfl, hb⟩
      have H9 := Lib.hid (row_later hb HX.out)
      have HMA := Lib.hid (row_later hb HMX.out)
      have HXA := Lib.hid (row_later hb HXX.out)
      have BA := below_step BWX (Nat.le_refl _) hb
      have HOW := Lib.hid (own_later HOWN.out hb)
      have BQA := below_step BX (Nat.le_refl _) hb
      clear x0 x1 x2 x3 x4 x5 xz
      clear n0 nz
      clear F1 hb HOWN BX BWX
      obtain ⟨bX, offX, haX, hcX⟩ := HCX.out (by omega)
      subst haX
      obtain ⟨xr, xt, e0, e1, e2, e3, e4, e5, hxr, hxt, hxz⟩ := (hcX kx _ HXK.out).later BA
      simp only [] at e0 e1 e2 e3 hxr hxt hxz
      have HXR := Lib.hid hxr
      have HXT := Lib.hid hxt
      obtain ⟨axr, cxr, rfl, hfl, -, -⟩ := hxr
      obtain ⟨axt, cxt, rfl, -⟩ := hxt
      have bz := lt_of_cell e0
      have BY : Below wa.heap.size wa (wa.alloc (.cells #[.string o.id, .int .i64 o.kind, .int .i64 o.x, .int .i64 o.y, .slice axr F.length cxr, .slice axt o.tags.length cxt] 36)) := (Below.refl _ _).alloc (Nat.le_refl _) _
      have HY := row_new wa (.cells #[.string o.id, .int .i64 o.kind, .int .i64 o.x, .int .i64 o.y, .slice axr F.length cxr, .slice axt o.tags.length cxt] 36)
      clear hcX
      obtain ⟨nz, n0⟩ := rk1 HXA.out
      go_upto_region 15 with fail
      clear n0 nz
      generalize hwy : wa.alloc (.cells #[.string o.id, .int .i64 o.kind, .int .i64 o.x, .int .i64 o.y, .slice axr F.length cxr, .slice axt o.tags.length cxt] 36) = wy
      rw [hwy] at BY HY
      obtain ⟨b11, hb11⟩ : ∃ z, z = wa.heap.size := ⟨_, rfl⟩
      rw [← hb11] at HY ⊢
      have HY := Lib.hid HY
      have H9y := Lib.hid (row_later BY H9.out)
      have HXY := Lib.hid (row_later BY HXA.out)
      have BWY := below_step BA (Nat.le_refl _) BY
      have BQY := below_step BQA (Nat.le_refl _) BY
      have h911 : b9 < b11 := by have := BQA.size; have := lt_of_block H9.out; omega
      have hw11 : wq.heap.size ≤ b11 := by have := BQA.size; omega
      have hwa11 : wa.heap.size ≤ b11 := by omega
      have hFR := HXR.out.later BY
      have HXR := Lib.hid hFR
      clear hwy e0 e1 e2 e3 e4 e5 bz hb11 H9 HXA BA BQA hFR
      go_wp2_with fail
      go_loopw [12] (fun i wi => ∃ j : Nat, i = .int .i64 j ∧ j ≤ o.refs.length ∧ Below wy.heap.size wy wi) (fun i _ => o.refs.length - (intOf i).toNat)
      case atStart => exact ⟨0, rfl, Nat.zero_le _, Below.refl _ _⟩
      case round =>
       obtain ⟨j, rfl, hj, hbi⟩ := hrel
       obtain ⟨wi, rfl⟩ : ∃ z : World, z = wr := ⟨_, rfl⟩
       have H9i := Lib.hid (row_later hbi H9y.out)
       have HYi := Lib.hid (row_later hbi HY.out)
       have BWI := below_step BWY (Nat.le_refl _) hbi
       have BQI := below_step BQY (Nat.le_refl _) hbi
       by_cases hlt3 : j < o.refs.length
       ·obtain ⟨s, hs⟩ : ∃ s, o.refs[j]? = some s := ⟨o.refs[j], List.getElem?_eq_getElem hlt3⟩
        obtain ⟨b8, off8, ha8, hcell8⟩ := HRC.out (by omega)
        subst ha8
        have r0 := cell_later BQI (hcell8 j s hs)
        have HXi := Lib.hid (row_later hbi HXY.out)
        obtain ⟨n, bb, hn, hn0, hh⟩ := FRO.out s (List.mem_of_getElem? hs)
        have F1 := FD.out s
        rw [hn] at F1
        have F2 := fun W (hb : Below wi.heap.size wi W) => hasS_any (.slice axr F.length cxr) F s W ((HXR.out.later hbi).later hb)
        rw [hh] at F2
        have F1 := Lib.hid F1
        have F2 := Lib.hid F2
        clear hcell8 hs hn hh
        obtain ⟨xz, x0, x1, x2, x3, x4, x5⟩ := rk6 H9i.out
        obtain ⟨yz, y0, y1, y2, y3, y4, y5⟩ := rk6 HYi.out
        obtain ⟨nz, n0⟩ := rk1 HXi.out
        cases bb
        all_goals
         have F2 := F2.out
         simp only [Bool.not_true, Bool.not_false] at F2
         have F2 := Lib.hid F2
         go_upto_region 18 with fail
         go_region_held3 (fun w' => w'.cell? ⟨g5, 0, none⟩ = some (.slice (some ⟨bX, offX, none⟩) M c5) ∧ w'.cell? ⟨b9, 4, none⟩ = some (.slice (some ⟨b8, off8, none⟩) o.refs.length capr) ∧ w'.cell? ⟨b11, 4, none⟩ = some (.slice axr F.length cxr) ∧ w'.cell? ⟨b8, off8 + j, none⟩ = some (.string s) ∧ Below wi.heap.size wi w')
          (first
           |exact ⟨n0, x4, y4, r0, (Below.refl _ _).drew⟩
           |(have hq := ‹_ ∧ _ ∧ _ ∧ _ ∧ Below wi.heap.size wi _›; exact ⟨cell_later hb hq.1, cell_later hb hq.2.1, cell_later hb hq.2.2.1, cell_later hb hq.2.2.2.1, below_step hq.2.2.2.2 (Nat.le_refl _) hb⟩)
           |assumption)
          (first
           |(go_at_call 17; refine (F1.out _ (below_step BWI (Nat.le_refl _) (‹_ ∧ _ ∧ _ ∧ _ ∧ Below wi.heap.size wi _›).2.2.2.2)).mono ?_; rintro e wa2 ⟨rfl, hb⟩)
           |(go_at_call 18; refine (F2.out _ (‹_ ∧ _ ∧ _ ∧ _ ∧ Below wi.heap.size wi _›).2.2.2.2).mono ?_; rintro e wa3 ⟨rfl, rfl⟩))
         all_goals
          have hbA := (‹_ ∧ _ ∧ _ ∧ _ ∧ Below wi.heap.size wi _›).2.2.2.2
          have BA := below_step hbi (Nat.le_refl _) hbA
          go_wp2
          go_roundw
          case rel => exact ⟨j + 1, by go_num, by omega, BA⟩
          case measure => simp [intOf]; omega
       ·obtain rfl : j = o.refs.length := by omega
        have PA := part_any (.slice axr F.length cxr) (.slice ar o.refs.length capr) F o.refs wi (HXR.out.later hbi) (HSR.out.later BQI)
        rw [HPT.out] at PA
        have PA := Lib.hid PA
        obtain ⟨xz, x0, x1, x2, x3, x4, x5⟩ := rk6 H9i.out
        obtain ⟨yz, y0, y1, y2, y3, y4, y5⟩ := rk6 HYi.out
        go_wp2_with fail
        refine PA.out.mono ?_
        rintro e wb ⟨rfl, hb⟩
        have H9b := row_later hb H9i.out
        have HYb := row_later hb HYi.out
        have BWb := below_step BWI (Nat.le_refl _) hb
        have BQb := below_step BQI (Nat.le_refl _) hb
        have BYb := below_step hbi (Nat.le_refl _) hb
        have H9c := Lib.hid H9b
        clear x0 x1 x2 x3 x4 x5 xz
        clear y0 y1 y2 y3 y4 y5 yz
        clear PA hb H9i HYi BWI BQI
        have HS11 := row_set (i := 4) (v := .slice ar o.refs.length capr) HYb
        have HS9 := row_set_other (a := ⟨b11, 4, none⟩) (v := .slice ar o.refs.length capr) H9b (show b9 ≠ b11 by omega)
        have BWS := BWb.setCell (p := ⟨b11, 4, none⟩) (show w6.heap.size ≤ b11 by omega) (.slice ar o.refs.length capr)
        have BQS := BQb.setCell (p := ⟨b11, 4, none⟩) hw11 (.slice ar o.refs.length capr)
        have BAS := (below_step BY (Nat.le_refl _) BYb).setCell (p := ⟨b11, 4, none⟩) hwa11 (.slice ar o.refs.length capr)
        have HYc := Lib.hid HYb
        obtain ⟨xz, x0, x1, x2, x3, x4, x5⟩ := rk6 H9c.out
        obtain ⟨yz, y0, y1, y2, y3, y4, y5⟩ := rk6 HYc.out
        have yf0 := frozen_of_row wb _ 0 _ _ HYc.out
        have yf1 := frozen_of_row wb _ 1 _ _ HYc.out
        have yf2 := frozen_of_row wb _ 2 _ _ HYc.out
        have yf3 := frozen_of_row wb _ 3 _ _ HYc.out
        have yf4 := frozen_of_row wb _ 4 _ _ HYc.out
        have yf5 := frozen_of_row wb _ 5 _ _ HYc.out
        go_upto_region 23 with fail
        clear x0 x1 x2 x3 x4 x5 xz
        clear y0 y1 y2 y3 y4 y5 yz yf0 yf1 yf2 yf3 yf4 yf5
        generalize hws : wb.setCell ⟨b11, 4, none⟩ (.slice ar o.refs.length capr) = ws
        rw [hws] at HS11 HS9 BWS BQS BAS
        have HS11 := Lib.hid (show ws.heap[b11]? = some (.cells #[.string o.id, .int .i64 o.kind, .int .i64 o.x, .int .i64 o.y, .slice ar o.refs.length capr, .slice axt o.tags.length cxt] 36) by simpa using HS11)
        have HS9 := Lib.hid HS9
        have SO := Lib.hid (sameO_any o (.slice ar o.refs.length capr) (.slice axt o.tags.length cxt) (.slice ar o.refs.length capr) (.slice at1 o.tags.length capt) ws (HSR.out.later BQS) (HXT.out.later BAS) (HSR.out.later BQS) (HTR.out.later BQS))
        have HOS := Lib.hid (own_later HOW.out BAS)
        clear hws H9b HYb H9c HYc BWb BQb BYb BAS BQS
        obtain ⟨yz, y0, y1, y2, y3, y4, y5⟩ := rk6 HS11.out
        obtain ⟨xz, x0, x1, x2, x3, x4, x5⟩ := rk6 HS9.out
        go_wp2_with fail
        refine SO.out.mono ?_
        rintro e wz ⟨rfl, hb⟩
        have BZ := below_step BWS (Nat.le_refl _) hb
        have HOZ := own_later HOS.out hb
        rw [← HT2.out] at HOZ
        have HOZ := Lib.hid HOZ
        clear SO hb
        go_wp2
        go_roundw
        case rel => exact ⟨k + 1, by go_num, by omega, HOZ.out, BZ⟩
        case measure => simp [intOf]; omega
    ·obtain rfl : k = N := by omega
     have htk : l.take k = l := List.take_of_length_le (by rw [HN.out]; exact Nat.le_refl _)
     rw [htk] at hown
     obtain ⟨a7, c7, rfl⟩ := own_len hown
     obtain ⟨GL, hGL⟩ : ∃ z, (goneI D l).length = z := ⟨_, rfl⟩
     have hlg : M + GL = k := by rw [← hGL]; exact HLG.out
     have HGS := StrRow.of_own hown (by omega) (fun s hs => by
      obtain ⟨o, ho, rfl⟩ := List.mem_map.1 hs
      obtain ⟨i, hi⟩ := List.getElem?_of_mem (List.mem_filter.1 ho).1
      have := (List.getElem?_eq_some_iff.1 hi).1
      obtain ⟨b, off, _, hcell⟩ := HC.out (by rw [← HN.out]; omega)
      obtain ⟨_, _, _, _, _, _, _, _, _, _, hz⟩ := hcell i o hi
      exact hz)
     rw [hGL] at HGS ⊢
     have HS := Lib.hid (show ∀ r, r ∉ D → ∀ W, Below wq.heap.size wq W → Calls Tryz.prog 18 #[.slice a7 GL c7, .string r] W (fun e w' => e = .returned (.bool false) ∧ w' = W) from fun r hr W hb => by
      have := hasS_any (.slice a7 GL c7) (goneI D l) r W (HGS.later hb)
      rw [decide_eq_false (fun c => hr (goneI_mem c))] at this
      exact this)
     have gE : ((M : Int) + (GL : Int) == (k : Int)) = true := by rw [beq_iff_eq]; omega
     clear hown hGL HGS htk
     obtain ⟨mz, m0⟩ := rk1 HQ.out
     go_wp2_with fail
     clear m0 mz
     go_loopw [13] (fun i wr => ∃ k2 : Nat, i = .int .i64 k2 ∧ k2 ≤ k ∧ Below wq.heap.size wq wr) (fun i _ => k - (intOf i).toNat)
     case atStart => exact ⟨0, rfl, Nat.zero_le _, Below.refl _ _⟩
     case round =>
      obtain ⟨k2, rfl, hk2, hbi⟩ := hrel
      obtain ⟨wi, rfl⟩ : ∃ z : World, z = wr := ⟨_, rfl⟩
      have BI := below_step hbr (Nat.le_refl _) hbi
      have HMi := Lib.hid (row_later hbi HQ.out)
      by_cases hlt2 : k2 < k
      ·obtain ⟨o, ho⟩ : ∃ o, l[k2]? = some o := ⟨l[k2]'(by rw [HN.out]; exact hlt2), List.getElem?_eq_getElem _⟩
       obtain ⟨b, off, ha, hcell⟩ := HC.out (by omega)
       subst ha
       obtain ⟨vr, vt, c0, c1, c2, c3, c4, c5', hsr, htr, hz⟩ := (hcell k2 o ho).later BI
       obtain ⟨ar, capr, rfl, hrl, hrz, hrc⟩ := hsr
       obtain ⟨at1, capt, rfl, _⟩ := htr
       have HRC := Lib.hid hrc
       have HMO := Lib.hid (List.mem_of_getElem? ho)
       have bz := lt_of_cell c0
       have BX : Below wi.heap.size wi (wi.alloc (.cells #[.string o.id, .int .i64 o.kind, .int .i64 o.x, .int .i64 o.y, .slice ar o.refs.length capr, .slice at1 o.tags.length capt] 36)) := (Below.refl _ _).alloc (Nat.le_refl _) _
       have HX := row_new wi (.cells #[.string o.id, .int .i64 o.kind, .int .i64 o.x, .int .i64 o.y, .slice ar o.refs.length capr, .slice at1 o.tags.length capt] 36)
       clear hcell ho hrc
       obtain ⟨mz, m0⟩ := rk1 HMi.out
       go_upto_region 32 with fail
       clear m0 mz
       generalize hwx : wi.alloc (.cells #[.string o.id, .int .i64 o.kind, .int .i64 o.x, .int .i64 o.y, .slice ar o.refs.length capr, .slice at1 o.tags.length capt] 36) = wx
       rw [hwx] at BX HX
       have HX := Lib.hid HX
       have BXW := Lib.hid BX
       have BQ := below_step hbi (Nat.le_refl _) BX
       have HLK := Lib.hid (kind_lens HOK.out HMO.out)
       clear hwx c0 c1 c2 c3 c4 c5' bz BX
       by_cases h5 : o.kind = 5
       ·have f5 : (o.kind == 5) = true := by rw [h5]; rfl
        have f2 : (o.kind == 2) = false := by rw [h5]; rfl
        have hl3 := HLK.out.1 h5
        have f3 : ((o.refs.length : Int) == 3) = true := by rw [hl3]; rfl
        obtain ⟨s, hs⟩ : ∃ s, o.refs[1]? = some s := ⟨o.refs[1], List.getElem?_eq_getElem (by omega)⟩
        obtain ⟨b8, off8, ha8, hcell8⟩ := HRC.out (by omega)
        subst ha8
        have r0 := cell_later BXW.out (hcell8 1 s hs)
        have F1 := Lib.hid (HS.out s (gone_turn HG.out HMO.out h5 (List.mem_of_getElem? hs)) wx BQ)
        clear hcell8 hs h5
        obtain ⟨xz, x0, x1, x2, x3, x4, x5⟩ := rk6 HX.out
        go_wp2_with fail
        refine F1.out.mono ?_
        rintro e wb ⟨rfl, rfl⟩
        go_wp2
        go_roundw
        case rel => exact ⟨k2 + 1, by go_num, by omega, BQ⟩
        case measure => simp [intOf]; omega
       ·have f5 : (o.kind == 5) = false := bq_ne h5
        by_cases h2 : o.kind = 2
        ·have f2 : (o.kind == 2) = true := by rw [h2]; rfl
         have hl2 := HLK.out.2 h2
         obtain ⟨q, hq⟩ : ∃ q, o.refs.length = q + 1 := ⟨o.refs.length - 1, by omega⟩
         obtain ⟨s, hs⟩ : ∃ s, o.refs[0]? = some s := ⟨o.refs[0], List.getElem?_eq_getElem (by omega)⟩
         obtain ⟨t, ht⟩ : ∃ t, o.refs[q]? = some t := ⟨o.refs[q], List.getElem?_eq_getElem (by omega)⟩
         obtain ⟨b8, off8, ha8, hcell8⟩ := HRC.out (by omega)
         subst ha8
         have r0 : wx.cell? ⟨b8, off8, none⟩ = some (.string s) := cell_later BXW.out (hcell8 0 s hs)
         have r1 := cell_later BXW.out (hcell8 q t ht)
         have hw := gone_way HG.out HMO.out h2
         have F1 := Lib.hid (HS.out s (hw.1 s (by rw [List.head?_eq_getElem?]; exact hs)) wx BQ)
         have F2 := Lib.hid (HS.out t (hw.2 t (by rw [List.getLast?_eq_getElem?, show o.refs.length - 1 = q by omega]; exact ht)) wx BQ)
         rw [hq] at HX
         clear hcell8 hs ht h2 hw
         obtain ⟨xz, x0, x1, x2, x3, x4, x5⟩ := rk6 HX.out
         go_wp2_with fail
         refine F1.out.mono ?_
         rintro e wb ⟨rfl, rfl⟩
         go_wp2_with fail
         refine F2.out.mono ?_
         rintro e wb ⟨rfl, rfl⟩
         go_wp2
         go_roundw
         case rel => exact ⟨k2 + 1, by go_num, by omega, BQ⟩
         case measure => simp [intOf]; omega
        ·have f2 : (o.kind == 2) = false := bq_ne h2
         clear h2
         obtain ⟨xz, x0, x1, x2, x3, x4, x5⟩ := rk6 HX.out
         go_wp2
         go_roundw
         case rel => exact ⟨k2 + 1, by go_num, by omega, BQ⟩
         case measure => simp [intOf]; omega
      ·obtain rfl : k2 = k := by omega
       have HXF := Lib.hid (row_later BI H5x.out)
       obtain ⟨mz, m0⟩ := rk1 HMi.out
       obtain ⟨nz, n0⟩ := rk1 HXF.out
       go_wp2
       go_ret
       exact ⟨rfl, below_step B5 (Nat.le_refl _) BI⟩
end Go.Proofs.YtibpaaajghbkoaaGreat
