/- The law's node, way, square; segments. -/
import Derived.Test.YtbkomdinchiffaaGreatBorY
import Derived.Test.YtbkomdinchiffaaGreatSrcAB
import Derived.Test.YtbkomdinchiffaaGreatObRow
import Derived.Test.YtbkomdinchiffaaGreatBorMN
namespace Go.Proofs.YtbkomdinchiffaaGreat
open Go.RowKit Go.Sort

def nodeD (id : ByteArray) (x y : Int) : ObjD := ⟨id, 1, x, y, [], []⟩
def wayD (id : ByteArray) (refs : List ByteArray) : ObjD := ⟨id, 2, 0, 0, refs, []⟩

theorem node_any (id : ByteArray) (x y : Int) (w : World) :
    Calls Tryz.prog 64 #[.string id, .int .i64 x, .int .i64 y] w fun e w' => e = .returned (.agg #[.string id, .int .i64 1, .int .i64 x, .int .i64 y, .slice none 0 0, .slice none 0 0]) ∧ Below w.heap.size w w' := by
  go_enter Tryz.func64, Tryz.ntmps64
  go_wp2
  refine bodyPost_ret (v := .agg #[.string id, .int .i64 1, .int .i64 x, .int .i64 y, .slice none 0 0, .slice none 0 0]) ?_ rfl ⟨rfl, (by repeat' (first | exact Below.refl _ _ | refine Below.drew ?_ | refine Below.drewN' ?_ | refine Below.setCell ?_ (by first | omega | (simp; done) | exact Below.size (by assumption) | (simp; omega)) _ | refine Below.alloc ?_ (by first | omega | (simp; done) | exact Below.size (by assumption) | (simp; omega)) _ | refine Below.trans ?_ (Below.mono (by assumption) ?_) | (first | omega | (simp; done) | exact Below.size (by assumption) | (simp; omega))))⟩
  simp [results, Tryz.results64, go_sem]
theorem way_any (id : ByteArray) (vr : Value) (refs : List ByteArray) (w : World) (hr : StrRow w vr refs) :
    Calls Tryz.prog 27 #[.string id, vr] w fun e w' => e = .returned (.agg #[.string id, .int .i64 2, .int .i64 0, .int .i64 0, vr, .slice none 0 0]) ∧ Below w.heap.size w w' := by
  obtain ⟨a, cap, rfl, _⟩ := hr
  go_enter Tryz.func27, Tryz.ntmps27
  go_wp2
  refine bodyPost_ret (v := .agg #[.string id, .int .i64 2, .int .i64 0, .int .i64 0, .slice a refs.length cap, .slice none 0 0]) ?_ rfl ⟨rfl, (by repeat' (first | exact Below.refl _ _ | refine Below.drew ?_ | refine Below.drewN' ?_ | refine Below.setCell ?_ (by first | omega | (simp; done) | exact Below.size (by assumption) | (simp; omega)) _ | refine Below.alloc ?_ (by first | omega | (simp; done) | exact Below.size (by assumption) | (simp; omega)) _ | refine Below.trans ?_ (Below.mono (by assumption) ?_) | (first | omega | (simp; done) | exact Below.size (by assumption) | (simp; omega))))⟩
  simp [results, Tryz.results27, go_sem]

def squareD (ws : List ObjD) : List ObjD := [nodeD ⟨#[97]⟩ 0 0, nodeD ⟨#[98]⟩ 4 4, nodeD ⟨#[99]⟩ 0 4, nodeD ⟨#[100]⟩ 4 0] ++ ws
def bareN (id : ByteArray) (x y : Int) : ObM := (nodeD id x y, .slice none 0 0, .slice none 0 0)
theorem bareN_ok (id : ByteArray) (x y : Int) (w : World) (h : id.size ≤ 140737488355328) : ObOK w (bareN id x y) := ⟨StrRow.nil w, TagRow.nil w, h⟩
set_option maxRecDepth 100000 in
set_option maxHeartbeats 1000000 in
theorem square_any (vw : Value) (ws : List ObjD) (w : World) (hv : ObjsIs w vw ws) (hn : ws.length ≤ 100) :
    Calls Tryz.prog 28 #[vw] w fun e w' => ∃ v', e = .returned (.agg #[v']) ∧ ObjsIs w' v' (squareD ws) ∧ Below w.heap.size w w' := by
  obtain ⟨L, hL, rfl, hok⟩ := objs_row hv
  obtain ⟨i0, hi, hi0, hi1, hi2⟩ := info_parts infoOb
  have HL := Lib.hid hL
  have HOK := Lib.hid hok
  rw [List.length_map] at hn
  obtain ⟨a, cap, rfl, _⟩ := hL
  clear hv hok
  go_enter Tryz.func28, Tryz.ntmps28
  go_wp2_with fail
  have BX : Below w.heap.size w (w.alloc (.cells #[.slice none 0 0] 24)) := (by repeat' (first | exact Below.refl _ _ | refine Below.drew ?_ | refine Below.drewN' ?_ | refine Below.setCell ?_ (by first | omega | (simp; done) | exact Below.size (by assumption) | (simp; omega)) _ | refine Below.alloc ?_ (by first | omega | (simp; done) | exact Below.size (by assumption) | (simp; omega)) _ | refine Below.trans ?_ (Below.mono (by assumption) ?_) | (first | omega | (simp; done) | exact Below.size (by assumption) | (simp; omega))))
  have HX := row_new w (.cells #[.slice none 0 0] 24)
  generalize hw1 : w.alloc (.cells #[.slice none 0 0] 24) = w1
  rw [hw1] at BX HX
  have HX1 := Lib.hid HX
  have hz1 : w.heap.size < w1.heap.size := lt_of_block HX
  clear hw1 HX
  refine (node_any _ _ _ _).mono ?_
  rintro e w2 ⟨rfl, hb2⟩
  go_wp2_with fail
  refine (node_any _ _ _ _).mono ?_
  rintro e w3 ⟨rfl, hb3⟩
  go_wp2_with fail
  refine (node_any _ _ _ _).mono ?_
  rintro e w4 ⟨rfl, hb4⟩
  go_wp2_with fail
  refine (node_any _ _ _ _).mono ?_
  rintro e w5 ⟨rfl, hb5⟩
  have B5 := below_step (below_step (below_step hb2 (Nat.le_refl _) hb3) (Nat.le_refl _) hb4) (Nat.le_refl _) hb5
  have hz5 := B5.size
  have B15 := B5
  have O5 := Lib.hid (owns_lit (e := 59) encOb_len w5 [bareN ⟨#[97]⟩ 0 0, bareN ⟨#[98]⟩ 4 4, bareN ⟨#[99]⟩ 0 4, bareN ⟨#[100]⟩ 4 0] (Nat.le_refl _) (by decide) rfl 4 rfl)
  have BA : Below w5.heap.size w5 (w5.alloc (.cells (([bareN ⟨#[97]⟩ 0 0, bareN ⟨#[98]⟩ 4 4, bareN ⟨#[99]⟩ 0 4, bareN ⟨#[100]⟩ 4 0] : List ObM).flatMap encOb).toArray 59)) := (Below.refl _ _).alloc (Nat.le_refl _) _
  have S5 := Lib.hid (row_src encOb_len (by omega) ((HL.out.later (below_step BX (by omega) B5)).later BA))
  have HLN := Lib.hid (flat_length encOb 6 encOb_len L)
  go_wp2_with (at_builtin; refine wpList_append_src rfl _ _ 22 rfl w5.heap.size 59 i0 (.agg #[.string ⟨#[]⟩, .int .i64 0, .int .i64 0, .int .i64 0, .slice none 0 0, .slice none 0 0]) 6 88 Tryz.underlying22 hi hi0 hi1 hi2 rfl (by decide) _ _ _ rfl O5.out _ _ S5.out HLN.out (obs_one HOK.out) (by unfold maxLen; omega) (by omega) BA.size ?_; intro v' w6 hown6 hgrow6 hbel6; have R6 := row_later (B15.trans ((BA.trans hbel6).mono B15.size)) HX1.out; have r0 := cell_of_row w6 _ 0 _ _ _ R6; have rf0 := frozen_of_row w6 _ 0 _ _ R6; have rz := lt_of_block R6; simp only [List.getElem?_toArray, List.getElem?_cons_zero] at r0; obtain ⟨av, cv, hav⟩ := own_form hown6; subst hav; have O6 := Lib.hid hown6; have B6 := Lib.hid hbel6; clear hown6 hgrow6 hbel6 R6)
  refine bodyPost_ret (v := .agg #[.slice av (4 + L.length) cv]) ?_ rfl ⟨_, rfl, ?_, ?_⟩
  · simp [results, Tryz.results28, go_sem, r0]
  · have hg : w6.grownBy (w6.setCell ⟨w.heap.size, 0, none⟩ (.slice av (4 + L.length) cv)) (some w.heap.size) := setCells_grown (g := w.heap.size) [.slice av (4 + L.length) cv] 0 w6
    have OF := O6.out.kept hg (Or.inr (fun c => by have := (O6.out.lt _ c).1; omega))
    have HR := RowE.of_own (n := 4 + L.length) (l := [bareN ⟨#[97]⟩ 0 0, bareN ⟨#[98]⟩ 4 4, bareN ⟨#[99]⟩ 0 4, bareN ⟨#[100]⟩ 4 0] ++ L) encOb_len (by simp; omega) (by rw [List.flatMap_append]; exact OF)
    have BF : Below w.heap.size w (w6.setCell ⟨w.heap.size, 0, none⟩ (.slice av (4 + L.length) cv)) := ((BX.trans (B15.mono (by omega))).trans ((BA.trans B6.out).mono (by omega))).setCell (p := ⟨w.heap.size, 0, none⟩) (Nat.le_refl _) _
    have := objs_of HR (fun x hx => by
      rcases List.mem_append.1 hx with hx | hx
      · simp only [List.mem_cons, List.not_mem_nil, or_false] at hx
        rcases hx with rfl | rfl | rfl | rfl <;> exact bareN_ok _ _ _ _ (by decide)
      · exact (HOK.out x hx).later BF) (by simp; omega)
    rw [List.map_append] at this
    exact this
  · exact ((BX.trans (B15.mono (by omega))).trans ((BA.trans B6.out).mono (by omega))).setCell (p := ⟨w.heap.size, 0, none⟩) (Nat.le_refl _) _

theorem neq_seg (s t : Sg) (w : World) : (binOp .neq 39 (.agg #[.int .i64 s.1.1, .int .i64 s.1.2, .int .i64 s.2.1, .int .i64 s.2.2]) (.agg #[.int .i64 t.1.1, .int .i64 t.1.2, .int .i64 t.2.1, .int .i64 t.2.2])).run Tryz.prog w = .ok (.bool (!decide (s = t))) w := by
  simp only [run_neq_struct]
  rw [show (10000 : Nat) = 9999 + 1 from rfl, run_equalIn_struct _ _ _ _ _ fo39 sf39]
  simp [Program.fieldsOf, Tryz.underlying39, Op.eqFields, go_sem]
  obtain ⟨⟨a, b⟩, ⟨c, d⟩⟩ := s
  obtain ⟨⟨a', b'⟩, ⟨c', d'⟩⟩ := t
  simp only [Prod.mk.injEq]
  (repeat' split) <;> simp_all
theorem texts_get {w : World} {v : Value} {ls : List (List ByteArray)} (h : TextsAt w v ls) : ∃ (ao : Option Addr) (cap : Nat), v = .slice ao ls.length cap ∧ (0 < ls.length → ∃ b off, ao = some ⟨b, off, none⟩ ∧ ∀ (i : Nat) (ids : List ByteArray), ls[i]? = some ids → ∃ vi : Value, w.cell? ⟨b, off + i, none⟩ = some vi ∧ StrRow w vi ids) := by
  obtain ⟨L, hL, hn, hs⟩ := h
  obtain ⟨ao, cap, rfl, hc⟩ := hL
  rw [hn]
  refine ⟨ao, cap, rfl, fun hp => ?_⟩
  obtain ⟨b, off, ha, hcell⟩ := hc (by rw [hn]; exact hp)
  refine ⟨b, off, ha, fun i ids hi => ?_⟩
  have hl := (List.getElem?_eq_some_iff.1 hi).1
  have hx : L[i]? = some (L[i]'(by rw [hn]; exact hl)) := List.getElem?_eq_getElem _
  have h0 := hcell i _ hx 0 _ rfl
  rw [Nat.mul_one, Nat.add_zero] at h0
  exact ⟨_, h0, hs i _ ids hx hi⟩
set_option maxRecDepth 100000 in
set_option maxHeartbeats 2000000 in
theorem segments_law (va vb vx vy : Value) (a b : List Sg) (x y : List (List ByteArray)) (w : World) (ha : RowE encSg 4 w va a) (hb : RowE encSg 4 w vb b) (hx : TextsAt w vx x) (hy : TextsAt w vy y) (hax : a.length = x.length) (hby : b.length = y.length) (hn : a.length ≤ 1000000000) :
    Calls Tryz.prog 14 #[va, vb, vx, vy] w fun e w' => e = .returned (.bool (decide (a = b ∧ x = y))) ∧ Below w.heap.size w w' := by
  have mixed : Tryz.prog.follows .mixedOrders = true := by kernel_rfl
  obtain ⟨xa, ca, rfl, hca⟩ := ha
  obtain ⟨xb, cb, rfl, hcb⟩ := hb
  obtain ⟨xx, cx, rfl, hcx⟩ := texts_get hx
  obtain ⟨xy, cy, rfl, hcy⟩ := texts_get hy
  rw [← hax] at hcx ⊢
  rw [← hby] at hcy ⊢
  clear hx hy
  by_cases hl : a.length = b.length
  case neg =>
    have HE := Lib.hid (show decide (a = b ∧ x = y) = false from decide_eq_false fun c => hl (by rw [c.1]))
    have e1 : ((a.length : Int) == (b.length : Int)) = false := by simp; omega
    have e2 : ¬ (a.length : Int) = (b.length : Int) := by omega
    rw [HE.out]
    clear hca hcb hcx hcy hax hby
    go_enter Tryz.func14, Tryz.ntmps14
    go_wp2
    go_ret
    exact ⟨rfl, Below.refl _ _⟩
  rw [← hl] at hcb hcy hby ⊢
  have HA := Lib.hid hca
  have HB := Lib.hid hcb
  have HX := Lib.hid hcx
  have HY := Lib.hid hcy
  obtain ⟨n, hla⟩ : ∃ n, a.length = n := ⟨_, rfl⟩
  rw [hla] at HA HB HX HY hn hl hax hby ⊢
  have HLA := Lib.hid hla
  have HLB := Lib.hid hl.symm
  have HLX := Lib.hid hax.symm
  have HLY := Lib.hid hby.symm
  have neqg := eg39
  clear hca hcb hcx hcy hla hl hax hby
  go_enter Tryz.func14, Tryz.ntmps14
  go_wp2_with fail
  go_loopw [9] (fun i wr => ∃ k : Nat, k ≤ n ∧ i = .int .i64 k ∧ a.take k = b.take k ∧ x.take k = y.take k ∧ Below w.heap.size w wr) (fun i _ => n - (intOf i).toNat)
  case atStart => exact ⟨0, by omega, rfl, rfl, rfl, Below.refl _ _⟩
  case round =>
    obtain ⟨k, hk, rfl, ht, ht2, hbr⟩ := hrel
    have HT := Lib.hid ht
    have HT2 := Lib.hid ht2
    clear ht ht2
    by_cases h1 : k < n
    · obtain ⟨p, hp⟩ : ∃ p, a[k]? = some p := ⟨a[k]'(by rw [HLA.out]; exact h1), List.getElem?_eq_getElem _⟩
      obtain ⟨q, hq⟩ : ∃ q, b[k]? = some q := ⟨b[k]'(by rw [HLB.out]; exact h1), List.getElem?_eq_getElem _⟩
      obtain ⟨o, ho⟩ : ∃ o, x[k]? = some o := ⟨x[k]'(by rw [HLX.out]; exact h1), List.getElem?_eq_getElem _⟩
      obtain ⟨u, hu⟩ : ∃ u, y[k]? = some u := ⟨y[k]'(by rw [HLY.out]; exact h1), List.getElem?_eq_getElem _⟩
      obtain ⟨ba, oa, hxa, ga⟩ := HA.out (by omega)
      subst hxa
      obtain ⟨bb, ob, hxb, gb⟩ := HB.out (by omega)
      subst hxb
      obtain ⟨bx, ox, hxx, gx⟩ := HX.out (by omega)
      subst hxx
      obtain ⟨by', oy, hxy, gy⟩ := HY.out (by omega)
      subst hxy
      obtain ⟨vo, vo0, so⟩ := gx k o ho
      obtain ⟨vu, vu0, su⟩ := gy k u hu
      have q0' := cell_belowBy (cell_later hbr (ga k p hp 0 _ rfl))
      have q0 := q0'
      rw [Nat.add_zero] at q0
      have q1 := cell_belowBy (cell_later hbr (ga k p hp 1 _ rfl))
      have q2 := cell_belowBy (cell_later hbr (ga k p hp 2 _ rfl))
      have q3 := cell_belowBy (cell_later hbr (ga k p hp 3 _ rfl))
      have r0' := cell_belowBy (cell_later hbr (gb k q hq 0 _ rfl))
      have r0 := r0'
      rw [Nat.add_zero] at r0
      have r1 := cell_belowBy (cell_later hbr (gb k q hq 1 _ rfl))
      have r2 := cell_belowBy (cell_later hbr (gb k q hq 2 _ rfl))
      have r3 := cell_belowBy (cell_later hbr (gb k q hq 3 _ rfl))
      have qv := cell_belowBy (cell_later hbr vo0)
      have rv := cell_belowBy (cell_later hbr vu0)
      have z1 := lt_of_cell (cell_later hbr (ga k p hp 0 _ rfl))
      have z2 := lt_of_cell (cell_later hbr (gb k q hq 0 _ rfl))
      have z3 := lt_of_cell (cell_later hbr vo0)
      have z4 := lt_of_cell (cell_later hbr vu0)
      have nq := neq_seg p q
      have ID := Lib.hid (fun W h => rids_any vo vu o u W (so.later (w' := W) h) (su.later h))
      have HNX := Lib.hid (fun (h : p = q) => take_eq HT.out hp hq h)
      have HNY := Lib.hid (fun (h : o = u) => take_eq HT2.out ho hu h)
      have HNE := Lib.hid (fun (h : a = b) => (show p = q by rw [h, hq] at hp; injection hp with hp; exact hp.symm))
      have HNF := Lib.hid (fun (h : x = y) => (show o = u by rw [h, hu] at ho; injection ho with ho; exact ho.symm))
      obtain ⟨d, hd⟩ : ∃ d, decide (o = u) = d := ⟨_, rfl⟩
      obtain ⟨d2, hd2⟩ : ∃ d, decide (p = q) = d := ⟨_, rfl⟩
      rw [hd] at ID
      rw [hd2] at nq
      have HD := Lib.hid hd
      have HD2 := Lib.hid hd2
      clear ga gb gx gy hp hq ho hu vo0 vu0 so su hd hd2 q0' r0'
      cases d2 with
      | false =>
        have HF := Lib.hid (show decide (a = b ∧ x = y) = false from decide_eq_false fun c => of_decide_eq_false HD2.out (HNE.out c.1))
        go_wp2_with fail
        refine wp_region_quiet_below mixed (by kernel_rfl) ?_
        repeat (go_big_quiet_step ((go_at_call 29; exact calls_belowBy (ID.out _ (hbr.trans ((BelowBy.below _).mono hbr.size))))))
        refine wpQuiet_nil ?_
        intro w8 hw'
        obtain ⟨⟨wq, hbq⟩, hw''⟩ := hw'
        subst hw''
        clear q0 q1 q2 q3 r0 r1 r2 r3 qv rv
        go_wp2
        go_ret
        exact ⟨by rw [HF.out] <;> rfl, hbr.trans (hbq.mono hbr.size)⟩
      | true =>
        cases d with
        | true =>
          have HN := Lib.hid (HNX.out (of_decide_eq_true HD2.out))
          have HM := Lib.hid (HNY.out (of_decide_eq_true HD.out))
          go_wp2_with fail
          refine wp_region_quiet_below mixed (by kernel_rfl) ?_
          repeat (go_big_quiet_step ((go_at_call 29; exact calls_belowBy (ID.out _ (hbr.trans ((BelowBy.below _).mono hbr.size))))))
          refine wpQuiet_nil ?_
          intro w8 hw'
          obtain ⟨⟨wq, hbq⟩, hw''⟩ := hw'
          subst hw''
          clear q0 q1 q2 q3 r0 r1 r2 r3 qv rv
          go_wp2
          go_roundw
          case rel => exact ⟨k + 1, by omega, by go_num, HN.out, HM.out, hbr.trans (hbq.mono hbr.size)⟩
          case measure => simp [intOf]; omega
        | false =>
          have HF := Lib.hid (show decide (a = b ∧ x = y) = false from decide_eq_false fun c => of_decide_eq_false HD.out (HNF.out c.2))
          go_wp2_with fail
          refine wp_region_quiet_below mixed (by kernel_rfl) ?_
          repeat (go_big_quiet_step ((go_at_call 29; exact calls_belowBy (ID.out _ (hbr.trans ((BelowBy.below _).mono hbr.size))))))
          refine wpQuiet_nil ?_
          intro w8 hw'
          obtain ⟨⟨wq, hbq⟩, hw''⟩ := hw'
          subst hw''
          clear q0 q1 q2 q3 r0 r1 r2 r3 qv rv
          go_wp2
          go_ret
          exact ⟨by rw [HF.out] <;> rfl, hbr.trans (hbq.mono hbr.size)⟩
    · obtain rfl : k = n := by omega
      have HF := Lib.hid (show decide (a = b ∧ x = y) = true from decide_eq_true (by
        have h := HT.out
        have h2 := HT2.out
        rw [List.take_of_length_le (by rw [HLA.out]; exact Nat.le_refl _), List.take_of_length_le (by rw [HLB.out]; exact Nat.le_refl _)] at h
        rw [List.take_of_length_le (by rw [HLX.out]; exact Nat.le_refl _), List.take_of_length_le (by rw [HLY.out]; exact Nat.le_refl _)] at h2
        exact ⟨h, h2⟩))
      go_wp2
      go_ret
      exact ⟨by rw [HF.out] <;> rfl, hbr⟩
end Go.Proofs.YtbkomdinchiffaaGreat
