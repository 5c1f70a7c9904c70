/- Contract of the reference of layer 7: Parse. -/
import Derived.Test.YtnilofeakdibhaaDoorGridRC
import Derived.Test.YtnilofeakdibhaaDoorGridRE
namespace Go.Proofs.YtnilofeakdibhaaDoor
open Go.RowKit

theorem dgt_bd (n : Int) (u : UInt8) (h0 : 0 ≤ n) (h1 : 48 ≤ u.toNat) : 0 ≤ dgt n u ∧ dgt n u ≤ 10000000 := by
  unfold dgt; omega
theorem take_snoc (s : ByteArray) (k : Nat) (h : k < s.size) : s.data.toList.take (k + 1) = s.data.toList.take k ++ [s[k]] := by
  rw [List.take_succ_eq_append_getElem (by simpa using h)]; rfl

def NumsAt (g : Nat) (t : PS) (w : World) : Prop := w.heap[g]? = some (.cells #[.int .i64 t.a, .int .i64 t.b, .int .i64 t.c] 3 (0, 0))
def PSok (t : PS) : Prop := 0 ≤ t.a ∧ t.a ≤ 10000000 ∧ 0 ≤ t.b ∧ t.b ≤ 10000000 ∧ 0 ≤ t.c ∧ t.c ≤ 10000000

def RParsePost (s : ByteArray) (w : World) (e : Ending) (w' : World) : Prop :=
  e = .returned (.tuple #[.agg #[.int .i64 (presR s).1, .int .i64 (presR s).2.1, .int .i64 (presR s).2.2.1], .int .i64 (presR s).2.2.2]) ∧ Below w.heap.size w w'



set_option maxRecDepth 100000 in
set_option maxHeartbeats 2000000 in
theorem rparse_any (s : ByteArray) (hs : s.size ≤ 1000000) (w : World) :
    Calls Tryd.prog 28 #[.string s] w (RParsePost s w) := by
  go_enter Tryd.func28, Tryd.ntmps28
  go_wp2
  have GN := Lib.hid (show NumsAt (w.heap.size + 1) PS.zero ((w.alloc (.cells #[.int .i64 0, .int .i64 0, .int .i64 0] 23)).alloc (.cells #[.int .i64 0, .int .i64 0, .int .i64 0] 3)) from row_new1 w _ _)
  have GR := Lib.hid (row_past (o' := .cells #[.int .i64 0, .int .i64 0, .int .i64 0] 3) (row_new w (.cells #[.int .i64 0, .int .i64 0, .int .i64 0] 23)))
  have B0 : Below w.heap.size w ((w.alloc (.cells #[.int .i64 0, .int .i64 0, .int .i64 0] 23)).alloc (.cells #[.int .i64 0, .int .i64 0, .int .i64 0] 3)) := ((Below.refl _ _).alloc (Nat.le_refl _) _).alloc (by simp) _
  generalize hw1 : (w.alloc (.cells #[.int .i64 0, .int .i64 0, .int .i64 0] 23)).alloc (.cells #[.int .i64 0, .int .i64 0, .int .i64 0] 3) = w1
  rw [hw1] at GN GR B0
  clear hw1
  go_loopw [5, 6] (fun kk i wr => ∃ (j : Nat) (st : PS), j ≤ s.size ∧ i = .int .i64 j ∧ kk = .int .i64 (st.k : Nat) ∧ pfold (s.data.toList.take j) = some st ∧ st.k ≤ j ∧ PSok st ∧ NumsAt (w.heap.size + 1) st wr ∧ wr.heap[w.heap.size]? = some (.cells #[.int .i64 0, .int .i64 0, .int .i64 0] 23 (0, 0)) ∧ Below w.heap.size w wr) (fun _ i _ => s.size - (intOf i).toNat)
  case atStart => exact ⟨0, PS.zero, by omega, rfl, rfl, rfl, by decide, by simp [PSok, PS.zero], GN.out, GR.out, B0⟩
  case round =>
    obtain ⟨j, ⟨k, na, nb, nc⟩, hj, rfl, rfl, hf, hk, ⟨p1, p2, p3, p4, p5, p6⟩, hn, hr, hb⟩ := hrel
    simp only at hk p1 p2 p3 p4 p5 p6
    have HFD := Lib.hid hf
    have HR := Lib.hid hr
    have HN := Lib.hid (show wr.heap[w.heap.size + 1]? = some (.cells #[.int .i64 na, .int .i64 nb, .int .i64 nc] 3 (0, 0)) from hn)
    clear hf hr hn
    by_cases hlt : j < s.size
    · have HT := Lib.hid (take_snoc s j hlt)
      by_cases h47 : s[j].toNat = 47
      · have E47 : ((s[j].toNat : Int) == 47) = true := by rw [beq_iff_eq]; omega
        have HS := Lib.hid (show pfold (s.data.toList.take (j + 1)) = some ⟨k + 1, na, nb, nc⟩ by rw [HT.out, pfold_snoc, HFD.out, Option.bind_some, pstep, if_pos h47])
        clear h47
        go_wp2
        go_roundw
        case rel => exact ⟨j + 1, ⟨k + 1, na, nb, nc⟩, by omega, by go_num, by go_num, HS.out, by simp only; omega, ⟨p1, p2, p3, p4, p5, p6⟩, HN.out, HR.out, hb⟩
        case measure => simp [intOf]; omega
      · have E47 : ((s[j].toNat : Int) == 47) = false := by rw [beq_eq_false_iff_ne]; omega
        by_cases hd : 48 ≤ s[j].toNat ∧ s[j].toNat ≤ 57 ∧ k < 3
        · obtain ⟨d1, d2, d3⟩ := hd
          have D1 : decide ((48 : Int) ≤ (s[j].toNat : Int)) = true := by rw [decide_eq_true_eq]; omega
          have D2 : decide ((s[j].toNat : Int) ≤ 57) = true := by rw [decide_eq_true_eq]; omega
          have HN := HN.out
          have nz := lt_of_block HN
          have n0 := cell_of_row wr _ 0 _ _ _ HN
          have n1 := cell_of_row wr _ 1 _ _ _ HN
          have n2 := cell_of_row wr _ 2 _ _ _ HN
          have nf0 := frozen_of_row wr _ 0 _ _ HN
          have nf1 := frozen_of_row wr _ 1 _ _ HN
          have nf2 := frozen_of_row wr _ 2 _ _ HN
          simp only [List.getElem?_toArray, List.getElem?_cons_zero, List.getElem?_cons_succ] at n0 n1 n2
          have HN' := Lib.hid HN
          clear HN
          obtain rfl | rfl | rfl : k = 0 ∨ k = 1 ∨ k = 2 := by omega
          · have HS := Lib.hid (show pfold (s.data.toList.take (j + 1)) = some ⟨0, dgt na s[j], nb, nc⟩ by rw [HT.out, pfold_snoc, HFD.out, Option.bind_some, pstep, if_neg h47, if_pos ⟨d1, d2, d3⟩]; rfl)
            have DG := Lib.hid (dgt_bd na s[j] (by omega) (by omega))
            have W1 : IntKind.u8.wrap ((s[j].toNat : Int) - 48) = (s[j].toNat : Int) - 48 := IntWalk.u8_in _ (by omega)
            have W2 : IntKind.i64.wrap ((s[j].toNat : Int) - 48) = (s[j].toNat : Int) - 48 := IntWalk.i64_in _ (by omega)
            have W3 : IntKind.i64.wrap (10 * na) = 10 * na := IntWalk.i64_in _ (by omega)
            have W4 : IntKind.i64.wrap (10 * na + ((s[j].toNat : Int) - 48)) = 10 * na + ((s[j].toNat : Int) - 48) := IntWalk.i64_in _ (by omega)
            clear h47
            go_wp2
            refine wp_region_still_tail 15 (by kernel_rfl) (by kernel_rfl) ?_
            simp only [List.take_succ_cons, List.take_zero, List.drop_succ_cons, List.drop_zero]
            repeat still_step
            refine wpStill_nil ?_
            go_wp2
            go_roundw
            case rel => exact ⟨j + 1, ⟨0, dgt na s[j], nb, nc⟩, by omega, by go_num, rfl, HS.out, by simp only; omega, by have := DG.out; simp only [PSok]; omega, row_set (i := 0) (row_drew HN'.out), row_set_other (row_drew HR.out) (by simp), (hb.drew).setCell (by simp) _⟩
            case measure => simp [intOf]; omega
          · have HS := Lib.hid (show pfold (s.data.toList.take (j + 1)) = some ⟨1, na, dgt nb s[j], nc⟩ by rw [HT.out, pfold_snoc, HFD.out, Option.bind_some, pstep, if_neg h47, if_pos ⟨d1, d2, d3⟩]; rfl)
            have DG := Lib.hid (dgt_bd nb s[j] (by omega) (by omega))
            have W1 : IntKind.u8.wrap ((s[j].toNat : Int) - 48) = (s[j].toNat : Int) - 48 := IntWalk.u8_in _ (by omega)
            have W2 : IntKind.i64.wrap ((s[j].toNat : Int) - 48) = (s[j].toNat : Int) - 48 := IntWalk.i64_in _ (by omega)
            have W3 : IntKind.i64.wrap (10 * nb) = 10 * nb := IntWalk.i64_in _ (by omega)
            have W4 : IntKind.i64.wrap (10 * nb + ((s[j].toNat : Int) - 48)) = 10 * nb + ((s[j].toNat : Int) - 48) := IntWalk.i64_in _ (by omega)
            clear h47
            go_wp2
            refine wp_region_still_tail 15 (by kernel_rfl) (by kernel_rfl) ?_
            simp only [List.take_succ_cons, List.take_zero, List.drop_succ_cons, List.drop_zero]
            repeat still_step
            refine wpStill_nil ?_
            go_wp2
            go_roundw
            case rel => exact ⟨j + 1, ⟨1, na, dgt nb s[j], nc⟩, by omega, by go_num, rfl, HS.out, by simp only; omega, by have := DG.out; simp only [PSok]; omega, row_set (i := 1) (row_drew HN'.out), row_set_other (row_drew HR.out) (by simp), (hb.drew).setCell (by simp) _⟩
            case measure => simp [intOf]; omega
          · have HS := Lib.hid (show pfold (s.data.toList.take (j + 1)) = some ⟨2, na, nb, dgt nc s[j]⟩ by rw [HT.out, pfold_snoc, HFD.out, Option.bind_some, pstep, if_neg h47, if_pos ⟨d1, d2, d3⟩]; rfl)
            have DG := Lib.hid (dgt_bd nc s[j] (by omega) (by omega))
            have W1 : IntKind.u8.wrap ((s[j].toNat : Int) - 48) = (s[j].toNat : Int) - 48 := IntWalk.u8_in _ (by omega)
            have W2 : IntKind.i64.wrap ((s[j].toNat : Int) - 48) = (s[j].toNat : Int) - 48 := IntWalk.i64_in _ (by omega)
            have W3 : IntKind.i64.wrap (10 * nc) = 10 * nc := IntWalk.i64_in _ (by omega)
            have W4 : IntKind.i64.wrap (10 * nc + ((s[j].toNat : Int) - 48)) = 10 * nc + ((s[j].toNat : Int) - 48) := IntWalk.i64_in _ (by omega)
            clear h47
            go_wp2
            refine wp_region_still_tail 15 (by kernel_rfl) (by kernel_rfl) ?_
            simp only [List.take_succ_cons, List.take_zero, List.drop_succ_cons, List.drop_zero]
            repeat still_step
            refine wpStill_nil ?_
            go_wp2
            go_roundw
            case rel => exact ⟨j + 1, ⟨2, na, nb, dgt nc s[j]⟩, by omega, by go_num, rfl, HS.out, by simp only; omega, by have := DG.out; simp only [PSok]; omega, row_set (i := 2) (row_drew HN'.out), row_set_other (row_drew HR.out) (by simp), (hb.drew).setCell (by simp) _⟩
            case measure => simp [intOf]; omega
        · have HE := Lib.hid (show pfold s.data.toList = none by
            have h1 : pfold (s.data.toList.take (j + 1)) = none := by rw [HT.out, pfold_snoc, HFD.out, Option.bind_some, pstep, if_neg h47, if_neg hd]
            rw [← List.take_append_drop (j + 1) s.data.toList]
            exact pfold_none _ _ h1)
          have HR := HR.out
          have rz := lt_of_block HR
          have r0 := cell_of_row wr _ 0 _ _ _ HR
          have r1 := cell_of_row wr _ 1 _ _ _ HR
          have r2 := cell_of_row wr _ 2 _ _ _ HR
          have rf0 := frozen_of_row wr _ 0 _ _ HR
          have rf1 := frozen_of_row wr _ 1 _ _ HR
          have rf2 := frozen_of_row wr _ 2 _ _ HR
          simp only [List.getElem?_toArray, List.getElem?_cons_zero, List.getElem?_cons_succ] at r0 r1 r2
          have HR' := Lib.hid HR
          clear HR
          by_cases d1 : 48 ≤ s[j].toNat
          case neg =>
            have D1 : decide ((48 : Int) ≤ (s[j].toNat : Int)) = false := by rw [decide_eq_false_iff_not]; omega
            clear hd
            go_wp2
            refine bodyPost_ret (v := .tuple #[.agg #[.int .i64 0, .int .i64 0, .int .i64 0], .int .i64 5]) ?_ rfl ⟨?_, ?_⟩
            · simp [results, Tryd.results28, go_sem, r0, r1, r2]
            · rw [presR_none s HE.out]
            · repeat' (first | exact Below.refl _ _ | refine Below.drew ?_ | refine Below.drewN' ?_ | refine Below.setCell ?_ (by first | omega | (simp; done) | exact Below.size (by assumption) | (simp; omega)) _ | refine Below.alloc ?_ (by first | omega | (simp; done) | exact Below.size (by assumption) | (simp; omega)) _ | refine Below.trans ?_ (Below.mono (by assumption) ?_) | (first | omega | (simp; done) | exact Below.size (by assumption) | (simp; omega)))
          by_cases d2 : s[j].toNat ≤ 57
          case neg =>
            have D1 : decide ((48 : Int) ≤ (s[j].toNat : Int)) = true := by rw [decide_eq_true_eq]; omega
            have D2 : decide ((s[j].toNat : Int) ≤ 57) = false := by rw [decide_eq_false_iff_not]; omega
            clear hd
            go_wp2
            refine bodyPost_ret (v := .tuple #[.agg #[.int .i64 0, .int .i64 0, .int .i64 0], .int .i64 5]) ?_ rfl ⟨?_, ?_⟩
            · simp [results, Tryd.results28, go_sem, r0, r1, r2]
            · rw [presR_none s HE.out]
            · repeat' (first | exact Below.refl _ _ | refine Below.drew ?_ | refine Below.drewN' ?_ | refine Below.setCell ?_ (by first | omega | (simp; done) | exact Below.size (by assumption) | (simp; omega)) _ | refine Below.alloc ?_ (by first | omega | (simp; done) | exact Below.size (by assumption) | (simp; omega)) _ | refine Below.trans ?_ (Below.mono (by assumption) ?_) | (first | omega | (simp; done) | exact Below.size (by assumption) | (simp; omega)))
          have d3 : ¬ k < 3 := fun h => hd ⟨d1, d2, h⟩
          have D1 : decide ((48 : Int) ≤ (s[j].toNat : Int)) = true := by rw [decide_eq_true_eq]; omega
          have D2 : decide ((s[j].toNat : Int) ≤ 57) = true := by rw [decide_eq_true_eq]; omega
          have D3 : decide ((k : Int) < 3) = false := by rw [decide_eq_false_iff_not]; omega
          clear hd
          go_wp2
          refine bodyPost_ret (v := .tuple #[.agg #[.int .i64 0, .int .i64 0, .int .i64 0], .int .i64 5]) ?_ rfl ⟨?_, ?_⟩
          · simp [results, Tryd.results28, go_sem, r0, r1, r2]
          · rw [presR_none s HE.out]
          · repeat' (first | exact Below.refl _ _ | refine Below.drew ?_ | refine Below.drewN' ?_ | refine Below.setCell ?_ (by first | omega | (simp; done) | exact Below.size (by assumption) | (simp; omega)) _ | refine Below.alloc ?_ (by first | omega | (simp; done) | exact Below.size (by assumption) | (simp; omega)) _ | refine Below.trans ?_ (Below.mono (by assumption) ?_) | (first | omega | (simp; done) | exact Below.size (by assumption) | (simp; omega)))
    · have hj' : j = s.size := by omega
      have HA := Lib.hid (show pfold s.data.toList = some ⟨k, na, nb, nc⟩ by
        have := HFD.out
        rwa [hj', List.take_of_length_le (by simp)] at this)
      clear hj' HFD
      have HN1 := HN.out
      have nz := lt_of_block HN1
      have n0 := cell_of_row wr _ 0 _ _ _ HN1
      have n1 := cell_of_row wr _ 1 _ _ _ HN1
      have n2 := cell_of_row wr _ 2 _ _ _ HN1
      simp only [List.getElem?_toArray, List.getElem?_cons_zero, List.getElem?_cons_succ] at n0 n1 n2
      have HN1' := Lib.hid HN1
      clear HN1
      cases hv : validB na nb nc
      · have LV := Lib.hid hv
        have HP := Lib.hid (presR_bad s _ HA.out (fun hb => by rw [hv] at hb; exact absurd hb.1 (by simp)))
        clear hv
        go_wp2
        go_region
        go_wp2_with fail
        refine (rtext_arg _ _ _ LV.out _).mono ?_; rintro e w5 ⟨rfl, hb5⟩
        have B5 := below_step ((hb.alloc hb.size (.cells #[.int .i64 na, .int .i64 nb, .int .i64 nc] 23)).drew) (Nat.le_refl _) hb5
        have HR5 := row_later hb5 (row_drew (row_past (o' := .cells #[.int .i64 na, .int .i64 nb, .int .i64 nc] 23) HR.out))
        have HT5 := row_later hb5 (row_drew (row_new wr (.cells #[.int .i64 na, .int .i64 nb, .int .i64 nc] 23)))
        clear n0 n1 n2 hb5
        have rz := lt_of_block HR5
        have r0 := cell_of_row w5 _ 0 _ _ _ HR5
        have r1 := cell_of_row w5 _ 1 _ _ _ HR5
        have r2 := cell_of_row w5 _ 2 _ _ _ HR5
        have rf0 := frozen_of_row w5 _ 0 _ _ HR5
        have rf1 := frozen_of_row w5 _ 1 _ _ HR5
        have rf2 := frozen_of_row w5 _ 2 _ _ HR5
        simp only [List.getElem?_toArray, List.getElem?_cons_zero, List.getElem?_cons_succ] at r0 r1 r2
        have HR5' := Lib.hid HR5
        clear HR5
        have tz := lt_of_block HT5
        have t0 := cell_of_row w5 _ 0 _ _ _ HT5
        have t1 := cell_of_row w5 _ 1 _ _ _ HT5
        have t2 := cell_of_row w5 _ 2 _ _ _ HT5
        simp only [List.getElem?_toArray, List.getElem?_cons_zero, List.getElem?_cons_succ] at t0 t1 t2
        have HT5' := Lib.hid HT5
        clear HT5
        go_wp2
        refine bodyPost_ret (v := .tuple #[.agg #[.int .i64 0, .int .i64 0, .int .i64 0], .int .i64 5]) ?_ rfl ⟨?_, ?_⟩
        · simp [results, Tryd.results28, go_sem, r0, r1, r2]
        · rw [HP.out]
        · repeat' (first | exact Below.refl _ _ | refine Below.drew ?_ | refine Below.drewN' ?_ | refine Below.setCell ?_ (by first | omega | (simp; done) | exact Below.size (by assumption) | (simp; omega)) _ | refine Below.alloc ?_ (by first | omega | (simp; done) | exact Below.size (by assumption) | (simp; omega)) _ | refine Below.trans ?_ (Below.mono (by assumption) ?_) | (first | omega | (simp; done) | exact Below.size (by assumption) | (simp; omega)))
      · have LV := Lib.hid hv
        by_cases hs : textB na nb nc = s
        · have HP := Lib.hid (presR_good s _ HA.out ⟨hv, hs⟩)
          have ES : ((textB na nb nc).toList == s.toList) = true := str_eq_true hs
          have ES2 : ((textB na nb nc).toList = s.toList) := by rw [hs]
          clear hv hs
          go_wp2
          go_region
          go_wp2_with fail
          refine (rtext_ok _ _ _ LV.out _).mono ?_; rintro e w5 ⟨rfl, hb5⟩
          have B5 := below_step ((hb.alloc hb.size (.cells #[.int .i64 na, .int .i64 nb, .int .i64 nc] 23)).drew) (Nat.le_refl _) hb5
          have HR5 := row_later hb5 (row_drew (row_past (o' := .cells #[.int .i64 na, .int .i64 nb, .int .i64 nc] 23) HR.out))
          have HT5 := row_later hb5 (row_drew (row_new wr (.cells #[.int .i64 na, .int .i64 nb, .int .i64 nc] 23)))
          clear n0 n1 n2 hb5
          have rz := lt_of_block HR5
          have r0 := cell_of_row w5 _ 0 _ _ _ HR5
          have r1 := cell_of_row w5 _ 1 _ _ _ HR5
          have r2 := cell_of_row w5 _ 2 _ _ _ HR5
          have rf0 := frozen_of_row w5 _ 0 _ _ HR5
          have rf1 := frozen_of_row w5 _ 1 _ _ HR5
          have rf2 := frozen_of_row w5 _ 2 _ _ HR5
          simp only [List.getElem?_toArray, List.getElem?_cons_zero, List.getElem?_cons_succ] at r0 r1 r2
          have HR5' := Lib.hid HR5
          clear HR5
          have tz := lt_of_block HT5
          have t0 := cell_of_row w5 _ 0 _ _ _ HT5
          have t1 := cell_of_row w5 _ 1 _ _ _ HT5
          have t2 := cell_of_row w5 _ 2 _ _ _ HT5
          simp only [List.getElem?_toArray, List.getElem?_cons_zero, List.getElem?_cons_succ] at t0 t1 t2
          have HT5' := Lib.hid HT5
          clear HT5
          go_wp2
          refine bodyPost_ret (v := .tuple #[.agg #[.int .i64 na, .int .i64 nb, .int .i64 nc], .int .i64 0]) ?_ rfl ⟨?_, ?_⟩
          · simp [results, Tryd.results28, go_sem, r0, r1, r2]
          · rw [HP.out]
          · repeat' (first | exact Below.refl _ _ | refine Below.drew ?_ | refine Below.drewN' ?_ | refine Below.setCell ?_ (by first | omega | (simp; done) | exact Below.size (by assumption) | (simp; omega)) _ | refine Below.alloc ?_ (by first | omega | (simp; done) | exact Below.size (by assumption) | (simp; omega)) _ | refine Below.trans ?_ (Below.mono (by assumption) ?_) | (first | omega | (simp; done) | exact Below.size (by assumption) | (simp; omega)))
        · have HP := Lib.hid (presR_bad s _ HA.out (fun hb => hs hb.2))
          have ES : ((textB na nb nc).toList == s.toList) = false := str_eq_false hs
          have ES2 : ¬ ((textB na nb nc).toList = s.toList) := by
            have := str_eq_false hs
            rw [beq_eq_false_iff_ne] at this
            exact this
          clear hv hs
          go_wp2
          go_region
          go_wp2_with fail
          refine (rtext_ok _ _ _ LV.out _).mono ?_; rintro e w5 ⟨rfl, hb5⟩
          have B5 := below_step ((hb.alloc hb.size (.cells #[.int .i64 na, .int .i64 nb, .int .i64 nc] 23)).drew) (Nat.le_refl _) hb5
          have HR5 := row_later hb5 (row_drew (row_past (o' := .cells #[.int .i64 na, .int .i64 nb, .int .i64 nc] 23) HR.out))
          have HT5 := row_later hb5 (row_drew (row_new wr (.cells #[.int .i64 na, .int .i64 nb, .int .i64 nc] 23)))
          clear n0 n1 n2 hb5
          have rz := lt_of_block HR5
          have r0 := cell_of_row w5 _ 0 _ _ _ HR5
          have r1 := cell_of_row w5 _ 1 _ _ _ HR5
          have r2 := cell_of_row w5 _ 2 _ _ _ HR5
          have rf0 := frozen_of_row w5 _ 0 _ _ HR5
          have rf1 := frozen_of_row w5 _ 1 _ _ HR5
          have rf2 := frozen_of_row w5 _ 2 _ _ HR5
          simp only [List.getElem?_toArray, List.getElem?_cons_zero, List.getElem?_cons_succ] at r0 r1 r2
          have HR5' := Lib.hid HR5
          clear HR5
          have tz := lt_of_block HT5
          have t0 := cell_of_row w5 _ 0 _ _ _ HT5
          have t1 := cell_of_row w5 _ 1 _ _ _ HT5
          have t2 := cell_of_row w5 _ 2 _ _ _ HT5
          simp only [List.getElem?_toArray, List.getElem?_cons_zero, List.getElem?_cons_succ] at t0 t1 t2
          have HT5' := Lib.hid HT5
          clear HT5
          go_wp2
          refine bodyPost_ret (v := .tuple #[.agg #[.int .i64 0, .int .i64 0, .int .i64 0], .int .i64 5]) ?_ rfl ⟨?_, ?_⟩
          · simp [results, Tryd.results28, go_sem, r0, r1, r2]
          · rw [HP.out]
          · repeat' (first | exact Below.refl _ _ | refine Below.drew ?_ | refine Below.drewN' ?_ | refine Below.setCell ?_ (by first | omega | (simp; done) | exact Below.size (by assumption) | (simp; omega)) _ | refine Below.alloc ?_ (by first | omega | (simp; done) | exact Below.size (by assumption) | (simp; omega)) _ | refine Below.trans ?_ (Below.mono (by assumption) ?_) | (first | omega | (simp; done) | exact Below.size (by assumption) | (simp; omega)))

theorem parse_both (s : ByteArray) (hs : s.size ≤ 1000000) : ∃ Z X Y E : Int,
    (∀ w, Env w → Calls Tryd.prog 11 #[.string s] w fun e w' => e = .returned (.tuple #[.agg #[.int .i64 Z, .int .i64 X, .int .i64 Y], .int .i64 E]) ∧ Below w.heap.size w w') ∧
    (∀ w, Calls Tryd.prog 28 #[.string s] w fun e w' => e = .returned (.tuple #[.agg #[.int .i64 Z, .int .i64 X, .int .i64 Y], .int .i64 E]) ∧ Below w.heap.size w w') := by
  by_cases h : ∃ z x y, validB z x y = true ∧ textB z x y = s
  · obtain ⟨z, x, y, hv, rfl⟩ := h
    refine ⟨z, x, y, 0, parse_ok z x y hv, fun w => (rparse_any _ hs w).mono ?_⟩
    rintro e w' ⟨he, hb⟩
    rw [presR_text z x y hv] at he
    exact ⟨he, hb⟩
  · have hn : ∀ z x y, validB z x y = true → textB z x y ≠ s := fun z x y hv he => h ⟨z, x, y, hv, he⟩
    refine ⟨0, 0, 0, 5, parse_bad s hs hn, fun w => (rparse_any _ hs w).mono ?_⟩
    rintro e w' ⟨he, hb⟩
    rw [presR_not s hn] at he
    exact ⟨he, hb⟩
end Go.Proofs.YtnilofeakdibhaaDoor
