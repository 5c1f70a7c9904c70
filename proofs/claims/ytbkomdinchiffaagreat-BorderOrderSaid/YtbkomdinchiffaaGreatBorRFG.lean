/- The reference's cross and Add. The reference's Order. -/
import Derived.Test.YtbkomdinchiffaaGreatBorRABC
import Derived.Test.YtbkomdinchiffaaGreatBorLaw
import Derived.Deep.RegionHeld3
import Derived.Test.YtbkomdinchiffaaGreatBorRDE
namespace Go.Proofs.YtbkomdinchiffaaGreat
open Go.RowKit Go.Sort

theorem rcross13_any (a b : ByteArray) (w : World) (ha : a.size ≤ 140737488355328) (hb : b.size ≤ 140737488355328) :
    Calls Tryz.prog 44 #[.string a, .string b] w fun e w' => ∃ (g n : Nat), e = .returned (.agg #[.string ⟨#[]⟩, .int .i64 2, .slice (some ⟨g, 0, none⟩) n n]) ∧ StrRow w' (.slice (some ⟨g, 0, none⟩) n n) (idsK (key2 a b)) ∧ Below w.heap.size w w' := by
  have hmin := run_minB Tryz.prog
  have hmax' := run_maxB Tryz.prog
  by_cases e : a = b
  · subst e
    have HK := Lib.hid (show idsK (key2 a a) = [a] by rw [key2_self]; unfold idsK; rw [if_pos rfl])
    rw [HK.out]
    have HS := Lib.hid (show ∀ (W : World) (c : Nat), W.heap[c]? = some (.cells #[.string a] 9) → StrRow W (.slice (some ⟨c, 0, none⟩) 1 1) [a] from fun W c h => StrRow.of_block (l := [a]) rfl h (by simp) (fun s hs => by rw [List.mem_singleton.1 hs]; exact ha) 1 rfl)
    clear ha hb
    go_enter Tryz.func44, Tryz.ntmps44
    go_wp2
    refine bodyPost_ret (v := .agg #[.string ⟨#[]⟩, .int .i64 2, .slice (some ⟨w.heap.size + 1, 0, none⟩) 1 1]) ?_ rfl ⟨_, _, rfl, HS.out _ _ ?_, (by repeat' (first | exact Below.refl _ _ | refine Below.drew ?_ | refine Below.drewN' ?_ | refine Below.setCell ?_ (by first | omega | (simp; done) | exact Below.size (by assumption) | (simp; omega)) _ | refine Below.alloc ?_ (by first | omega | (simp; done) | exact Below.size (by assumption) | (simp; omega)) _ | refine Below.trans ?_ (Below.mono (by assumption) ?_) | (first | omega | (simp; done) | exact Below.size (by assumption) | (simp; omega))))⟩
    · simp [results, Tryz.results44, go_sem]
    · exact row_new1 w _ _
  · have HK := Lib.hid (show idsK (key2 a b) = [minB a b, maxB a b] by unfold idsK; rw [if_neg (key2_ne e)]; rfl)
    rw [HK.out]
    have n1 := toList_ne e
    have HS := Lib.hid (show ∀ (W : World) (c : Nat), W.heap[c]? = some (.cells #[.string (minB a b), .string (maxB a b)] 9) → StrRow W (.slice (some ⟨c, 0, none⟩) 2 2) [minB a b, maxB a b] from fun W c h => StrRow.of_block (l := [minB a b, maxB a b]) rfl h (by simp) (fun s hs => by
      simp only [List.mem_cons, List.not_mem_nil, or_false] at hs
      rcases hs with rfl | rfl
      · unfold minB; split <;> assumption
      · unfold maxB; split <;> assumption) 2 rfl)
    clear ha hb
    go_enter Tryz.func44, Tryz.ntmps44
    go_wp2
    refine bodyPost_ret (v := .agg #[.string ⟨#[]⟩, .int .i64 2, .slice (some ⟨w.heap.size + 1, 0, none⟩) 2 2]) ?_ rfl ⟨_, _, rfl, HS.out _ _ ?_, (by repeat' (first | exact Below.refl _ _ | refine Below.drew ?_ | refine Below.drewN' ?_ | refine Below.setCell ?_ (by first | omega | (simp; done) | exact Below.size (by assumption) | (simp; omega)) _ | refine Below.alloc ?_ (by first | omega | (simp; done) | exact Below.size (by assumption) | (simp; omega)) _ | refine Below.trans ?_ (Below.mono (by assumption) ?_) | (first | omega | (simp; done) | exact Below.size (by assumption) | (simp; omega))))⟩
    · simp [results, Tryz.results44, go_sem]
    · exact row_new1 w _ _

theorem vis_one (L : List LineM) : ∀ u ∈ L.flatMap encVi, u.oneCell' = true := fun u hu => by
  obtain ⟨x, _, hu⟩ := List.mem_flatMap.1 hu
  exact encVi_one x u hu
/-- A list of violations in a row of the call's own. -/
def VOwn (w : World) (base : Nat) (v : Value) (ks : List KeyD) : Prop :=
  ∃ L : List LineM, w.ownsRow base 43 3 v L.length (L.flatMap encVi) ∧ L.map (·.1) = ks ∧ ∀ x ∈ L, StrRow w (.slice x.2.1 x.2.2.1 x.2.2.2) (idsK x.1)
theorem VOwn.on {w w' : World} {base : Nat} {v : Value} {ks : List KeyD} (h : VOwn w base v ks) (hb : Below w.heap.size w w') : VOwn w' base v ks := by
  obtain ⟨L, h1, h2, h3⟩ := h
  exact ⟨L, own_later h1 hb, h2, fun x hx => (h3 x hx).later hb⟩
theorem VOwn.vios {w : World} {base : Nat} {v : Value} {ks : List KeyD} (h : VOwn w base v ks) : ViosAt w v ks := by
  obtain ⟨L, h1, h2, h3⟩ := h
  exact ⟨L, RowE.of_own encVi_len rfl h1, h2, h3⟩
theorem VOwn.nil (w : World) (base : Nat) : VOwn w base (.slice none 0 0) [] := ⟨[], World.ownsRow_nil _ _ _ _, rfl, fun x hx => by cases hx⟩
theorem vown_of {w : World} {base n i : Nat} {v : Value} {L : List LineM} {k : KeyD} {ks : List KeyD} {a : Option Addr} {m c : Nat} (hL : L.map (·.1) = ks) (hs : ∀ x ∈ L, StrRow w (.slice x.2.1 x.2.2.1 x.2.2.2) (idsK x.1)) (hi : StrRow w (.slice a m c) (idsK k)) (hn : L.length = n) (hin : i ≤ n)
    (ho : w.ownsRow base 43 3 v (i + 1 + (n - i)) ((L.take i).flatMap encVi ++ encVi (k, a, m, c) ++ (L.drop i).flatMap encVi)) : VOwn w base v (ks.take i ++ k :: ks.drop i) := by
  refine ⟨L.take i ++ (k, a, m, c) :: L.drop i, ?_, ?_, fun x hx => ?_⟩
  · rw [show (L.take i ++ (k, a, m, c) :: L.drop i).length = i + 1 + (n - i) by rw [List.length_append, List.length_take, List.length_cons, List.length_drop, hn]; omega]
    rw [show (L.take i ++ (k, a, m, c) :: L.drop i).flatMap encVi = (L.take i).flatMap encVi ++ encVi (k, a, m, c) ++ (L.drop i).flatMap encVi by simp]
    exact ho
  · rw [List.map_append, List.map_cons, List.map_take, List.map_drop, hL]
  · rcases List.mem_append.1 hx with hx | hx
    · exact hs x (List.mem_of_mem_take hx)
    · rcases List.mem_cons.1 hx with rfl | hx
      · exact hi
      · exact hs x (List.mem_of_mem_drop hx)
theorem cell_blo {B : Nat} {w w' : World} (h : Below B w w') {g i : Nat} (hg : g < B) {v : Value} (hc : w.cell? ⟨g, i, none⟩ = some v) : w'.cell? ⟨g, i, none⟩ = some v := (cell_row_same (h.block g hg)).trans hc
/-- How far the list is looked through. -/
def PreK (ks : List KeyD) (k : KeyD) (i : Nat) : Prop := ∀ j p, j < i → ks[j]? = some p → ltK p k = true
theorem PreK.succ {ks : List KeyD} {k p : KeyD} {i : Nat} (h : PreK ks k i) (hp : ks[i]? = some p) (hl : ltK p k = true) : PreK ks k (i + 1) := fun j q hj hq => by
  by_cases e : j = i
  · subst e; rw [hp] at hq; cases hq; exact hl
  · exact h j q (by omega) hq
set_option maxRecDepth 100000 in
set_option maxHeartbeats 4000000 in
theorem radd_any (v : Value) (ks : List KeyD) (k : KeyD) (a : Option Addr) (m c : Nat) (base : Nat) (w : World) (hv : VOwn w base v ks) (hi : StrRow w (.slice a m c) (idsK k)) (hks : ∀ x ∈ ks, OrdP x) (hk : OrdP k) (hn : ks.length ≤ 1000000000) (hbase : base ≤ w.heap.size) :
    Calls Tryz.prog 43 #[v, .agg #[.string ⟨#[]⟩, .int .i64 2, .slice a m c]] w fun e w' => ∃ v', e = .returned v' ∧ VOwn w' base v' (insK k ks) ∧ Below w.heap.size w w' := by
  have mixed : Tryz.prog.follows .mixedOrders = true := by kernel_rfl
  obtain ⟨i0, hi', hi0, hi1, hi2⟩ := info_parts infoVi
  have HV := Lib.hid hv
  have HI := Lib.hid hi
  have HVG := Lib.hid (vios_get hv.vios)
  obtain ⟨av, cv, hvv, _⟩ := vios_get hv.vios
  subst hvv
  obtain ⟨L, hown, hL1, hL2⟩ := id hv
  have hcap := own_cap' hown
  have HR := Lib.hid (RowE.of_own encVi_len rfl hown)
  have HL1 := Lib.hid hL1
  have HL2 := Lib.hid hL2
  have hln : L.length = ks.length := by rw [← hL1, List.length_map]
  rw [hln] at hcap
  obtain ⟨n, hN⟩ : ∃ n, n = ks.length := ⟨_, rfl⟩
  rw [← hN] at HV HVG hn hcap HR hln ⊢
  have HN := Lib.hid hN
  have HLN := Lib.hid hln
  have HB := Lib.hid (fun (va vb : Value) (p q : KeyD) W h1 h2 hp hq => (show Calls Tryz.prog 21 #[va, vb] W fun e w' => e = .returned (.bool (ltK p q)) ∧ Below W.heap.size W w' by
    have h := rbefore_any va vb (idsK p) (idsK q) W h1 h2
    rw [idsK_before hp hq] at h
    exact h))
  have HKS := Lib.hid hks
  have HKO := Lib.hid hk
  clear hv hi hks hk hN hown hL1 hL2 hln
  go_enter Tryz.func43, Tryz.ntmps43
  go_upto_block 0 with fail
  have BX : Below w.heap.size w (w.alloc (.cells #[.string ⟨#[]⟩, .int .i64 2, .slice a m c] 43)) := (by repeat' (first | exact Below.refl _ _ | refine Below.drew ?_ | refine Below.drewN' ?_ | refine Below.setCell ?_ (by first | omega | (simp; done) | exact Below.size (by assumption) | (simp; omega)) _ | refine Below.alloc ?_ (by first | omega | (simp; done) | exact Below.size (by assumption) | (simp; omega)) _ | refine Below.trans ?_ (Below.mono (by assumption) ?_) | (first | omega | (simp; done) | exact Below.size (by assumption) | (simp; omega))))
  have HX := row_new w (.cells #[.string ⟨#[]⟩, .int .i64 2, .slice a m c] 43)
  generalize hw1 : w.alloc (.cells #[.string ⟨#[]⟩, .int .i64 2, .slice a m c] 43) = w1
  rw [hw1] at BX HX
  have HX1 := Lib.hid HX
  have hz1 : w.heap.size < w1.heap.size := lt_of_block HX
  clear hw1 HX
  go_cut [5] from 7 to 23 (fun v5 wx => ∃ i : Nat, v5 = .int .i64 i ∧ i ≤ n ∧ PreK ks k i ∧ (∀ p, ks[i]? = some p → ltK p k = false) ∧ Below w1.heap.size w1 wx)
  case first =>
    go_wp2_with fail
    go_loopw [5] (fun v5 wr => ∃ i : Nat, v5 = .int .i64 i ∧ i ≤ n ∧ PreK ks k i ∧ Below w1.heap.size w1 wr) (fun v5 _ => n - (intOf v5).toNat)
    case atStart => exact ⟨0, rfl, by omega, (fun j p hj => by omega), Below.refl _ _⟩
    case round =>
      obtain ⟨i, rfl, hin, hpre, hbr⟩ := hrel
      have HPRE := Lib.hid hpre
      have HXr := row_later hbr HX1.out
      have BR := below_step BX (by omega) hbr
      clear hpre
      by_cases hlt : i < n
      case neg =>
        obtain rfl : i = n := by omega
        have HS := Lib.hid (show ∀ p, ks[i]? = some p → ltK p k = false from fun p hp => by have := (List.getElem?_eq_some_iff.1 hp).1; rw [← HN.out] at this; omega)
        have hd : decide ((i : Int) < (i : Int)) = false := decide_eq_false (by omega)
        go_wp2_with fail
        refine wp_region_quiet_below mixed (by kernel_rfl) ?_
        repeat (go_big_quiet_step (fail))
        refine wpQuiet_nil ?_
        intro w8 hw'
        obtain ⟨⟨wq, hbq⟩, hw''⟩ := hw'
        subst hw''
        go_wp2
        go_meet
        case rel => exact ⟨_, rfl, by omega, HPRE.out, HS.out, hbr.trans (hbq.mono hbr.size)⟩
      obtain ⟨p, hp⟩ : ∃ p, ks[i]? = some p := ⟨ks[i]'(by rw [← HN.out]; exact hlt), List.getElem?_eq_getElem _⟩
      obtain ⟨ao, co, hv, hc⟩ := HVG.out
      injection hv with e1 e2 e3
      subst e1
      obtain ⟨b, off, hab, hcell⟩ := hc (by omega)
      subst hab
      obtain ⟨vi, c0, c1, c2, hst⟩ := hcell i p hp
      obtain ⟨ia, ic, hvi, _⟩ := id hst
      subst hvi
      have q2 := cell_belowBy (cell_later BR c2)
      have bz := lt_of_cell (cell_later BR c2)
      have hd : decide ((i : Int) < (n : Int)) = true := decide_eq_true (by omega)
      have hd' : (i : Int) < (n : Int) := by omega
      have hi1 : (0 : Int) ≤ (i : Int) := by omega
      have BF := Lib.hid (fun (W : World) (hb : Below w.heap.size w W) => HB.out _ _ p k W (hst.later hb) (HI.out.later hb) (HKS.out p (List.mem_of_getElem? hp)) HKO.out)
      have HGT := Lib.hid (fun (h : ltK p k = true) => HPRE.out.succ hp h)
      have HST := Lib.hid (fun (h : ltK p k = false) => (show ∀ q, ks[i]? = some q → ltK q k = false from fun q hq => by rw [hp] at hq; injection hq with hq; rw [← hq]; exact h))
      have HXh := Lib.hid HXr
      generalize (idsK p).length = np at q2 BF
      have xz := lt_of_block HXh.out
      have x0 := cell_of_row wr _ 0 _ _ _ HXh.out
      have x1 := cell_of_row wr _ 1 _ _ _ HXh.out
      have x2 := cell_of_row wr _ 2 _ _ _ HXh.out
      simp only [List.getElem?_toArray, List.getElem?_cons_zero, List.getElem?_cons_succ] at x0 x1 x2
      have qx0 := cell_belowBy x0
      have qx1 := cell_belowBy x1
      have qx2 := cell_belowBy x2
      clear x0 x1 x2
      clear hcell hc hp e2 e3 c0 c1 c2 hst HXr
      cases hl : ltK p k with
      | true =>
        have HP2 := Lib.hid (HGT.out hl)
        rw [hl] at BF
        clear hl
        go_wp2_with fail
        refine wp_region_quiet_below mixed (by kernel_rfl) ?_
        repeat (go_big_quiet_step ((go_at_call 21; exact calls_belowBy (BF.out _ (BR.trans ((BelowBy.below _).mono BR.size))))))
        refine wpQuiet_nil ?_
        intro w8 hw'
        obtain ⟨⟨wq, hbq⟩, hw''⟩ := hw'
        subst hw''
        have hbr8 := hbr.trans (hbq.mono hbr.size)
        clear q2
        go_wp2
        go_roundw
        case rel => exact ⟨i + 1, by go_num, by omega, HP2.out, hbr8⟩
        case measure => simp [intOf]; omega
      | false =>
        have HS := Lib.hid (HST.out hl)
        rw [hl] at BF
        clear hl
        go_wp2_with fail
        refine wp_region_quiet_below mixed (by kernel_rfl) ?_
        repeat (go_big_quiet_step ((go_at_call 21; exact calls_belowBy (BF.out _ (BR.trans ((BelowBy.below _).mono BR.size))))))
        refine wpQuiet_nil ?_
        intro w8 hw'
        obtain ⟨⟨wq, hbq⟩, hw''⟩ := hw'
        subst hw''
        have hbr8 := hbr.trans (hbq.mono hbr.size)
        clear q2
        go_wp2
        go_meet
        case rel => exact ⟨i, rfl, by omega, HPRE.out, HS.out, hbr8⟩
  case rest =>
    obtain ⟨i, rfl, hin, hpre, hst, hbr⟩ := hcut
    have HPRE := Lib.hid hpre
    have HSTO := Lib.hid hst
    obtain ⟨w2, rfl⟩ : ∃ z : World, z = wc := ⟨_, rfl⟩
    have BR := below_step BX (by omega) hbr
    have HXr := Lib.hid (row_later hbr HX1.out)
    have hs2 := hbr.size
    clear hpre hst
    go_upto_region 4 with fail
    go_cut [37] from 23 to 38 (fun v37 wx => ∃ fnd : Bool, v37 = .bool fnd ∧ (fnd = true → ks[i]? = some k) ∧ (fnd = false → ∀ p, ks[i]? = some p → p ≠ k) ∧ Below w2.heap.size w2 wx)
    case first =>
      by_cases hlt : i < n
      case neg =>
        obtain rfl : i = n := by omega
        have HS := Lib.hid (show ∀ p, ks[i]? = some p → p ≠ k from fun p hp => by have := (List.getElem?_eq_some_iff.1 hp).1; rw [← HN.out] at this; omega)
        have hd : decide ((i : Int) < (i : Int)) = false := decide_eq_false (by omega)
        go_wp2_with fail
        refine wp_region_quiet_below mixed (by kernel_rfl) ?_
        repeat (go_big_quiet_step (fail))
        refine wpQuiet_nil ?_
        intro w8 hw'
        obtain ⟨⟨wq, hbq⟩, hw''⟩ := hw'
        subst hw''
        go_wp2
        go_meet
        case rel => exact ⟨false, rfl, (fun h => by cases h), fun _ => HS.out, hbq⟩
      obtain ⟨p, hp⟩ : ∃ p, ks[i]? = some p := ⟨ks[i]'(by rw [← HN.out]; exact hlt), List.getElem?_eq_getElem _⟩
      obtain ⟨ao, co, hv, hc⟩ := HVG.out
      injection hv with e1 e2 e3
      subst e1
      obtain ⟨b, off, hab, hcell⟩ := hc (by omega)
      subst hab
      obtain ⟨vi, c0, c1, c2, hst⟩ := hcell i p hp
      obtain ⟨ia, ic, hvi, _⟩ := id hst
      subst hvi
      have q2 := cell_belowBy (cell_later BR c2)
      have bz := lt_of_cell (cell_later BR c2)
      have hd : decide ((i : Int) < (n : Int)) = true := decide_eq_true (by omega)
      have hd' : (i : Int) < (n : Int) := by omega
      have hi1 : (0 : Int) ≤ (i : Int) := by omega
      have BF := Lib.hid (fun (W : World) (hb : Below w.heap.size w W) => HB.out _ _ k p W (HI.out.later hb) (hst.later hb) HKO.out (HKS.out p (List.mem_of_getElem? hp)))
      have HPK := Lib.hid (HSTO.out p hp)
      have HX1' := Lib.hid hp
      generalize (idsK p).length = np at q2 BF
      have xz := lt_of_block HXr.out
      have x0 := cell_of_row w2 _ 0 _ _ _ HXr.out
      have x1 := cell_of_row w2 _ 1 _ _ _ HXr.out
      have x2 := cell_of_row w2 _ 2 _ _ _ HXr.out
      simp only [List.getElem?_toArray, List.getElem?_cons_zero, List.getElem?_cons_succ] at x0 x1 x2
      have qx0 := cell_belowBy x0
      have qx1 := cell_belowBy x1
      have qx2 := cell_belowBy x2
      clear x0 x1 x2
      clear hcell hc hp e2 e3 c0 c1 c2 hst
      cases hl : ltK k p with
      | true =>
        have HS := Lib.hid (show ∀ q, ks[i]? = some q → q ≠ k from fun q hq e => by
          rw [HX1'.out] at hq; injection hq with hq; rw [hq, e, ltK_irrefl] at hl; cases hl)
        rw [hl] at BF
        clear hl
        go_wp2_with fail
        refine wp_region_quiet_below mixed (by kernel_rfl) ?_
        repeat (go_big_quiet_step ((go_at_call 21; exact calls_belowBy (BF.out _ (BR.trans ((BelowBy.below _).mono BR.size))))))
        refine wpQuiet_nil ?_
        intro w8 hw'
        obtain ⟨⟨wq, hbq⟩, hw''⟩ := hw'
        subst hw''
        have hbr8 := hbr.trans (hbq.mono hbr.size)
        clear q2
        go_wp2
        go_meet
        case rel => exact ⟨false, rfl, (fun h => by cases h), fun _ => HS.out, hbq⟩
      | false =>
        have HS := Lib.hid (show ks[i]? = some k by rw [HX1'.out, ltK_total HPK.out hl])
        rw [hl] at BF
        clear hl
        go_wp2_with fail
        refine wp_region_quiet_below mixed (by kernel_rfl) ?_
        repeat (go_big_quiet_step ((go_at_call 21; exact calls_belowBy (BF.out _ (BR.trans ((BelowBy.below _).mono BR.size))))))
        refine wpQuiet_nil ?_
        intro w8 hw'
        obtain ⟨⟨wq, hbq⟩, hw''⟩ := hw'
        subst hw''
        have hbr8 := hbr.trans (hbq.mono hbr.size)
        clear q2
        go_wp2
        go_meet
        case rel => exact ⟨true, rfl, fun _ => HS.out, (fun h => by cases h), hbq⟩
    case rest =>
      obtain ⟨fnd, rfl, hf1, hf2, hbq⟩ := hcut
      obtain ⟨w3, rfl⟩ : ∃ z : World, z = wc := ⟨_, rfl⟩
      have hb3 := hbr.trans (hbq.mono hs2)
      have B3 := below_step BX (by omega) hb3
      have HX3 := Lib.hid (row_later hb3 HX1.out)
      have hSK : StopK ks k i := ⟨by rw [← HN.out]; exact hin, HPRE.out, HSTO.out⟩
      cases fnd with
      | true =>
        have HF := Lib.hid (show VOwn w3 base (.slice av n cv) (insK k ks) by rw [insK_same hSK (hf1 rfl)]; exact HV.out.on B3)
        clear hf1 hf2 hSK
        go_wp2
        go_ret
        exact ⟨_, rfl, HF.out, B3⟩
      | false =>
        have HINS := Lib.hid (insK_at hSK (hf2 rfl))
        have SRC1 := Lib.hid (fun (W : World) (hb : Below w.heap.size w W) => src_take' encVi_len (by decide) (HR.out.later hb) hin cv)
        have SRC2 := Lib.hid (fun (W : World) (hb : Below w.heap.size w W) => src_drop' encVi_len (by decide) (HR.out.later hb) hin hcap)
        have LT := Lib.hid (show ((L.take i).flatMap encVi).length = i * 3 by rw [flat_length encVi 3 encVi_len, List.length_take, HLN.out, Nat.min_eq_left hin])
        have LD := Lib.hid (show ((L.drop i).flatMap encVi).length = (n - i) * 3 by rw [flat_length encVi 3 encVi_len, List.length_drop, HLN.out])
        have s1 : (0 : Int) ≤ (i : Int) := by omega
        have s2 : (i : Int) ≤ (n : Int) := by omega
        have s3 : (n : Int) ≤ (cv : Int) := by omega
        have s4 : (i : Int) ≤ (cv : Int) := by omega
        clear hf1 hf2 hSK
        have BA := (Below.refl w3.heap.size w3).alloc (Nat.le_refl _) (.cells #[] 43)
        have BwA := below_step B3 (by have := B3.size; omega) BA
        go_wp2_with (at_builtin; refine wpList_append_src rfl (.tmp 39) (.tmp 42) 33 rfl w3.heap.size 43 i0 (.agg #[.string ⟨#[]⟩, .int .i64 0, .slice none 0 0]) 3 48 Tryz.underlying33 hi' hi0 hi1 hi2 rfl (by decide) _ 0 [] rfl (World.ownsRow_made _ #[] 0 (Nat.le_refl _) (by decide) rfl) i ((L.take i).flatMap encVi) (SRC1.out _ BwA) LT.out (vis_one _) (by unfold maxLen; omega) (by omega) BA.size ?_; intro v7 w7 hown7 hgrow7 hbel7; have B37 := BA.trans hbel7; have B7 := below_step B3 (by have := B3.size; omega) B37; have HX7 := Lib.hid (row_later B37 HX3.out); obtain ⟨a7, c7, hv7⟩ := own_form hown7; subst hv7; have O7 := Lib.hid (show w7.ownsRow w3.heap.size 43 3 (.slice a7 i c7) i ((L.take i).flatMap encVi) by simpa using hown7); clear hown7 hgrow7 hbel7 BA BwA)
        have HS7 := Lib.hid hs2
        have hz37 := B37.size
        have hwz : w.heap.size ≤ w3.heap.size := B3.size
        have hwl : w.heap.size < w3.heap.size := lt_of_block HX3.out
        have S2 := Lib.hid (fun (W : World) (hb : Below w3.heap.size w7 W) => SRC2.out W (B7.trans (hb.mono hwz)))
        have xz := lt_of_block HX7.out
        have x0 := cell_of_row w7 _ 0 _ _ _ HX7.out
        have x1 := cell_of_row w7 _ 1 _ _ _ HX7.out
        have x2 := cell_of_row w7 _ 2 _ _ _ HX7.out
        simp only [List.getElem?_toArray, List.getElem?_cons_zero, List.getElem?_cons_succ] at x0 x1 x2
        clear SRC1 SRC2 hbr hb3 hbq BX BR
        go_region_held3 (fun w' => w'.cell? ⟨w.heap.size, 0, none⟩ = some (.string ⟨#[]⟩) ∧ w'.cell? ⟨w.heap.size, 1, none⟩ = some (.int .i64 2) ∧ w'.cell? ⟨w.heap.size, 2, none⟩ = some (.slice a m c) ∧ Below w3.heap.size w7 w')
          (first
            | exact ⟨x0, x1, x2, (Below.refl _ _).drew⟩
            | (have hq := ‹_ ∧ _ ∧ _ ∧ Below w3.heap.size w7 _›; exact ⟨cell_upon hq.1, cell_upon hq.2.1, cell_upon hq.2.2.1, hq.2.2.2.alloc (Nat.le_trans hz37 hq.2.2.2.size) _⟩)
            | (have hq := ‹_ ∧ _ ∧ _ ∧ Below w3.heap.size w7 _›; have B := hq.2.2.2.trans hbA; exact ⟨cell_blo B hwl x0, cell_blo B hwl x1, cell_blo B hwl x2, B⟩)
            | assumption)
          (first
            | (rw [if_pos (by rfl)]; refine wp_append_own_src _ (.tmp 44) (.tmp 46) 33 rfl w3.heap.size 43 i0 (.agg #[.string ⟨#[]⟩, .int .i64 0, .slice none 0 0]) 3 48 Tryz.underlying33 hi' hi0 hi1 hi2 rfl (by decide) _ i ((L.take i).flatMap encVi) rfl (by first | exact own_later (O7.out.alloc _) (Below.refl _ _).drew | exact O7.out.alloc _) 1 (encVi (k, a, m, c)) (by exact ⟨some _, _, rfl, Or.inr ⟨_, rfl, cells_new _ _ _⟩⟩) (encVi_len (k, a, m, c)) (encVi_one (k, a, m, c)) (by unfold maxLen; omega) (by omega) (by first | exact Nat.le_trans hz37 (‹_ ∧ _ ∧ _ ∧ Below w3.heap.size w7 _›).2.2.2.size | (simp; omega)) ?_; intro v1 w1' hown1 hgrow1 hbA)
            | (rw [if_pos (by rfl)]; refine wp_append_own_src _ (.tmp 47) (.tmp 50) 33 rfl w3.heap.size 43 i0 (.agg #[.string ⟨#[]⟩, .int .i64 0, .slice none 0 0]) 3 48 Tryz.underlying33 hi' hi0 hi1 hi2 rfl (by decide) _ (i + 1) ((L.take i).flatMap encVi ++ encVi (k, a, m, c)) rfl hown1 (n - i) ((L.drop i).flatMap encVi) (S2.out _ (‹_ ∧ _ ∧ _ ∧ Below w3.heap.size w7 _›).2.2.2) LD.out (vis_one _) (by unfold maxLen; omega) (by omega) (by first | exact Nat.le_trans hz37 (‹_ ∧ _ ∧ _ ∧ Below w3.heap.size w7 _›).2.2.2.size | (simp; omega)) ?_; intro v2 w2' hown2 hgrow2 hbA))
        all_goals (
          have BF := Lib.hid (‹_ ∧ _ ∧ _ ∧ Below w3.heap.size w7 _›).2.2.2
          have HO2 := Lib.hid hown2
          have BFw := Lib.hid (B7.trans (BF.out.mono hwz))
          have HF := Lib.hid (show VOwn _ base v2 (insK k ks) by
            rw [HINS.out]
            exact vown_of HL1.out (fun x hx => (HL2.out x hx).later BFw.out) (HI.out.later BFw.out) HLN.out hin (own_base HO2.out (Nat.le_trans hbase hwz)))
          clear hown1 hown2 hgrow1 hgrow2 hbA HO2 BF
          go_wp2
          all_goals (
            go_ret
            exact ⟨_, rfl, HF.out, BFw.out⟩))
end Go.Proofs.YtbkomdinchiffaaGreat

namespace Go.Proofs.YtbkomdinchiffaaGreat
open Go.RowKit Go.Sort

def ordR (p q : KeyD) (s t : Sg) : Bool := decide (meetsR s t = 0) || (decide (meetsR s t = 1) && comK p q)
set_option maxRecDepth 100000 in
set_option maxHeartbeats 4000000 in
theorem rorder_any (p q : KeyD) (s t : Sg) (pa qa : Option Addr) (pn pc qn qc : Nat) (w : World) :
    Calls Tryz.prog 42 #[.agg #[.string p.1, .string p.2, .int .i64 s.1.1, .int .i64 s.1.2, .int .i64 s.2.1, .int .i64 s.2.2, .slice pa pn pc], .agg #[.string q.1, .string q.2, .int .i64 t.1.1, .int .i64 t.1.2, .int .i64 t.2.1, .int .i64 t.2.2, .slice qa qn qc]] w fun e w' => e = .returned (.bool (ordR p q s t)) ∧ Below w.heap.size w w' := by
  have mixed : Tryz.prog.follows .mixedOrders = true := by kernel_rfl
  have MT := Lib.hid (fun W => rmeets_any s t W)
  unfold ordR
  generalize meetsR s t = kd at MT ⊢
  obtain ⟨p1, p2⟩ := p
  obtain ⟨q1, q2⟩ := q
  obtain ⟨⟨ax, ay⟩, ⟨bx, by1⟩⟩ := s
  obtain ⟨⟨cx, cy⟩, ⟨dx, dy⟩⟩ := t
  have HCK := Lib.hid (show comK (p1, p2) (q1, q2) = (decide (p1 = q1 ∨ p1 = q2) || decide (p2 = q1 ∨ p2 = q2)) from rfl)
  obtain ⟨com, hcom⟩ : ∃ z, z = comK (p1, p2) (q1, q2) := ⟨_, rfl⟩
  rw [← hcom] at HCK ⊢
  obtain ⟨res, hres⟩ : ∃ z, z = (decide (kd = 0) || (decide (kd = 1) && com)) := ⟨_, rfl⟩
  rw [← hres]
  have HRES := Lib.hid hres
  clear hcom hres
  simp only []
  go_enter Tryz.func42, Tryz.ntmps42
  go_upto_region 1 with fail
  have BX : Below w.heap.size w ((w.alloc (.cells #[.string p1, .string p2, .int .i64 ax, .int .i64 ay, .int .i64 bx, .int .i64 by1, .slice pa pn pc] 49)).alloc (.cells #[.string q1, .string q2, .int .i64 cx, .int .i64 cy, .int .i64 dx, .int .i64 dy, .slice qa qn qc] 49)) := (by repeat' (first | exact Below.refl _ _ | refine Below.drew ?_ | refine Below.drewN' ?_ | refine Below.setCell ?_ (by first | omega | (simp; done) | exact Below.size (by assumption) | (simp; omega)) _ | refine Below.alloc ?_ (by first | omega | (simp; done) | exact Below.size (by assumption) | (simp; omega)) _ | refine Below.trans ?_ (Below.mono (by assumption) ?_) | (first | omega | (simp; done) | exact Below.size (by assumption) | (simp; omega))))
  have HB := row_new1 w (.cells #[.string p1, .string p2, .int .i64 ax, .int .i64 ay, .int .i64 bx, .int .i64 by1, .slice pa pn pc] 49) (.cells #[.string q1, .string q2, .int .i64 cx, .int .i64 cy, .int .i64 dx, .int .i64 dy, .slice qa qn qc] 49)
  have HA := row_past (o' := .cells #[.string q1, .string q2, .int .i64 cx, .int .i64 cy, .int .i64 dx, .int .i64 dy, .slice qa qn qc] 49) (row_new w (.cells #[.string p1, .string p2, .int .i64 ax, .int .i64 ay, .int .i64 bx, .int .i64 by1, .slice pa pn pc] 49))
  generalize hw1 : (w.alloc (.cells #[.string p1, .string p2, .int .i64 ax, .int .i64 ay, .int .i64 bx, .int .i64 by1, .slice pa pn pc] 49)).alloc (.cells #[.string q1, .string q2, .int .i64 cx, .int .i64 cy, .int .i64 dx, .int .i64 dy, .slice qa qn qc] 49) = w1
  rw [hw1] at BX HA HB
  have HA1 := Lib.hid HA
  have HB1 := Lib.hid HB
  have hz1 : w.heap.size + 1 < w1.heap.size := lt_of_block HB
  clear hw1 HA HB
  have xz := lt_of_block HA1.out
  have x0 := cell_of_row w1 _ 0 _ _ _ HA1.out
  have x1 := cell_of_row w1 _ 1 _ _ _ HA1.out
  have x2 := cell_of_row w1 _ 2 _ _ _ HA1.out
  have x3 := cell_of_row w1 _ 3 _ _ _ HA1.out
  have x4 := cell_of_row w1 _ 4 _ _ _ HA1.out
  have x5 := cell_of_row w1 _ 5 _ _ _ HA1.out
  have x6 := cell_of_row w1 _ 6 _ _ _ HA1.out
  simp only [List.getElem?_toArray, List.getElem?_cons_zero, List.getElem?_cons_succ] at x0 x1 x2 x3 x4 x5 x6
  have qx0 := cell_belowBy x0
  have qx1 := cell_belowBy x1
  have qx2 := cell_belowBy x2
  have qx3 := cell_belowBy x3
  have qx4 := cell_belowBy x4
  have qx5 := cell_belowBy x5
  have qx6 := cell_belowBy x6
  clear x0 x1 x2 x3 x4 x5 x6
  have yz := lt_of_block HB1.out
  have y0 := cell_of_row w1 _ 0 _ _ _ HB1.out
  have y1 := cell_of_row w1 _ 1 _ _ _ HB1.out
  have y2 := cell_of_row w1 _ 2 _ _ _ HB1.out
  have y3 := cell_of_row w1 _ 3 _ _ _ HB1.out
  have y4 := cell_of_row w1 _ 4 _ _ _ HB1.out
  have y5 := cell_of_row w1 _ 5 _ _ _ HB1.out
  have y6 := cell_of_row w1 _ 6 _ _ _ HB1.out
  simp only [List.getElem?_toArray, List.getElem?_cons_zero, List.getElem?_cons_succ] at y0 y1 y2 y3 y4 y5 y6
  have qy0 := cell_belowBy y0
  have qy1 := cell_belowBy y1
  have qy2 := cell_belowBy y2
  have qy3 := cell_belowBy y3
  have qy4 := cell_belowBy y4
  have qy5 := cell_belowBy y5
  have qy6 := cell_belowBy y6
  clear y0 y1 y2 y3 y4 y5 y6
  go_wp2_with fail
  refine wp_region_quiet_below mixed (by kernel_rfl) ?_
  repeat (go_big_quiet_step (first | (go_at_call 33; exact calls_belowBy (rsegment_any _ _ _ _ _ _ _ _ _ _)) | (go_at_call 49; exact calls_belowBy (MT.out _))))
  refine wpQuiet_nil ?_
  intro w8 hw'
  obtain ⟨⟨wq, hbq⟩, hw''⟩ := hw'
  subst hw''
  have B2 := below_step BX (by omega) hbq
  have HA2 := Lib.hid (row_later hbq HA1.out)
  have HB2 := Lib.hid (row_later hbq HB1.out)
  have hz2 := hbq.size
  clear hbq BX HA1 HB1
  go_upto_region 2 with fail
  obtain ⟨w2, rfl⟩ : ∃ z : World, z = w8 := ⟨_, rfl⟩
  go_cut [6] from 12 to 38 (fun v6 wx => v6 = .bool com ∧ wx = w2)
  case first =>
    have xz := lt_of_block HA2.out
    have x0 := cell_of_row w2 _ 0 _ _ _ HA2.out
    have x1 := cell_of_row w2 _ 1 _ _ _ HA2.out
    have x2 := cell_of_row w2 _ 2 _ _ _ HA2.out
    have x3 := cell_of_row w2 _ 3 _ _ _ HA2.out
    have x4 := cell_of_row w2 _ 4 _ _ _ HA2.out
    have x5 := cell_of_row w2 _ 5 _ _ _ HA2.out
    have x6 := cell_of_row w2 _ 6 _ _ _ HA2.out
    simp only [List.getElem?_toArray, List.getElem?_cons_zero, List.getElem?_cons_succ] at x0 x1 x2 x3 x4 x5 x6
    have yz := lt_of_block HB2.out
    have y0 := cell_of_row w2 _ 0 _ _ _ HB2.out
    have y1 := cell_of_row w2 _ 1 _ _ _ HB2.out
    have y2 := cell_of_row w2 _ 2 _ _ _ HB2.out
    have y3 := cell_of_row w2 _ 3 _ _ _ HB2.out
    have y4 := cell_of_row w2 _ 4 _ _ _ HB2.out
    have y5 := cell_of_row w2 _ 5 _ _ _ HB2.out
    have y6 := cell_of_row w2 _ 6 _ _ _ HB2.out
    simp only [List.getElem?_toArray, List.getElem?_cons_zero, List.getElem?_cons_succ] at y0 y1 y2 y3 y4 y5 y6
    by_cases e1 : p1 = q1
    · have HC := Lib.hid (show com = true by rw [HCK.out]; simp [e1])
      subst e1
      go_wp2
      go_meet
      case rel => exact ⟨by rw [HC.out] <;> rfl, rfl⟩
    by_cases e2 : p1 = q2
    · have HC := Lib.hid (show com = true by rw [HCK.out]; simp [e2])
      have n1 := toList_ne e1
      subst e2
      go_wp2
      go_meet
      case rel => exact ⟨by rw [HC.out] <;> rfl, rfl⟩
    by_cases e3 : p2 = q1
    · have HC := Lib.hid (show com = true by rw [HCK.out]; simp [e3])
      have n1 := toList_ne e1
      have n2 := toList_ne e2
      subst e3
      go_wp2
      go_meet
      case rel => exact ⟨by rw [HC.out] <;> rfl, rfl⟩
    by_cases e4 : p2 = q2
    · have HC := Lib.hid (show com = true by rw [HCK.out]; simp [e4])
      have n1 := toList_ne e1
      have n2 := toList_ne e2
      have n3 := toList_ne e3
      subst e4
      go_wp2
      go_meet
      case rel => exact ⟨by rw [HC.out] <;> rfl, rfl⟩
    have HC := Lib.hid (show com = false by rw [HCK.out]; simp [e1, e2, e3, e4])
    have n1 := toList_ne e1
    have n2 := toList_ne e2
    have n3 := toList_ne e3
    have n4 := toList_ne e4
    clear e1 e2 e3 e4
    go_wp2
    go_meet
    case rel => exact ⟨by rw [HC.out] <;> rfl, rfl⟩
  case rest =>
    obtain ⟨rfl, hw⟩ := hcut
    rw [hw]
    clear hw
    by_cases k0 : kd = 0
    · have HC := Lib.hid (show res = true by rw [HRES.out]; simp [k0])
      subst k0
      go_wp2
      go_ret
      exact ⟨by rw [HC.out] <;> rfl, B2⟩
    have m0 : (kd == 0) = false := beq_false_of_ne k0
    by_cases k1 : kd = 1
    · subst k1
      cases com with
      | true =>
        have HC := Lib.hid (show res = true by rw [HRES.out]; rfl)
        go_wp2
        go_ret
        exact ⟨by rw [HC.out] <;> rfl, B2⟩
      | false =>
        have HC := Lib.hid (show res = false by rw [HRES.out]; rfl)
        go_wp2
        go_ret
        exact ⟨by rw [HC.out] <;> rfl, B2⟩
    · have HC := Lib.hid (show res = false by rw [HRES.out]; simp [k0, k1])
      have m1 : (kd == 1) = false := beq_false_of_ne k1
      go_wp2
      go_ret
      exact ⟨by rw [HC.out] <;> rfl, B2⟩
end Go.Proofs.YtbkomdinchiffaaGreat
