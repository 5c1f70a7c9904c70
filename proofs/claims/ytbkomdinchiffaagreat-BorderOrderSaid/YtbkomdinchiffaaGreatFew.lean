/- The reference of layer 13: Few. -/
import Derived.Test.YtbkomdinchiffaaGreatNod
import Derived.Test.YtbkomdinchiffaaGreatObjMN
namespace Go.Proofs.YtbkomdinchiffaaGreat
open Go.RowKit

def FewMPost (l : List ObjD) (n : Nat) (w : World) (e : Ending) (w' : World) : Prop := (∃ r, e = .returned (.bool r) ∧ (r = true → l.length ≤ n ∧ ∀ o ∈ l, o.refs.length ≤ 12)) ∧ Below w.heap.size w w'
set_option maxRecDepth 100000 in
set_option maxHeartbeats 2000000 in
theorem few13_any (v : Value) (l : List ObjD) (n : Nat) (hn : n ≤ 1000) (w : World) (hv : ObjsIs w v l) :
    Calls Tryz.prog 11 #[.agg #[v], .int .i64 n] w (FewMPost l n w) := by
  obtain ⟨a, cap, rfl, hln, hc⟩ := hv
  obtain ⟨N, hN⟩ : ∃ N, l.length = N := ⟨_, rfl⟩
  rw [hN] at hc hln ⊢
  have HN := Lib.hid hN
  have HC := Lib.hid hc
  clear hN hc
  by_cases hbig : n < N
  · have hb1 : (n : Int) < N := by omega
    go_enter Tryz.func11, Tryz.ntmps11
    go_wp2
    go_ret
    exact ⟨⟨false, rfl, fun h => by cases h⟩, (Below.refl _ w).alloc (Nat.le_refl _) _⟩
  have hN' : N ≤ n := by omega
  have hb1 : ¬ (n : Int) < N := by omega
  have hb2 : decide ((n : Int) < N) = false := decide_eq_false hb1
  go_enter Tryz.func11, Tryz.ntmps11
  go_wp2_with fail
  have B1 : Below w.heap.size w (w.alloc (.cells #[.slice a N cap] 24)) := (Below.refl _ w).alloc (Nat.le_refl _) _
  have HM := row_new w (.cells #[.slice a N cap] 24)
  generalize hw1 : w.alloc (.cells #[.slice a N cap] 24) = w1
  rw [hw1] at B1 HM
  clear hw1
  have HMh := Lib.hid HM
  clear HM
  go_loopw [5] (fun i wr => ∃ k : Nat, k ≤ N ∧ i = .int .i64 k ∧ (∀ o ∈ l.take k, o.refs.length ≤ 12) ∧ Below w1.heap.size w1 wr) (fun i _ => N - (intOf i).toNat)
  case atStart => exact ⟨0, by omega, rfl, (fun o ho => by simp at ho), Below.refl _ _⟩
  case round =>
    obtain ⟨k, hk, rfl, hrs, hbr⟩ := hrel
    have HRS := Lib.hid hrs
    clear hrs
    by_cases hlt : k < N
    · obtain ⟨o, ho⟩ : ∃ o, l[k]? = some o := ⟨l[k]'(by rw [HN.out]; exact hlt), List.getElem?_eq_getElem _⟩
      obtain ⟨b, off, ha, hcell⟩ := HC.out (by omega)
      subst ha
      obtain ⟨vr, vt, c0, c1, c2, c3, c4, c5, hr, ht, hz⟩ := ((hcell k o ho).later B1).later hbr
      obtain ⟨ar, capr, evr, hrl, hrz, hrc⟩ := hr
      obtain ⟨at1, capt, evt, htl, htz, htc⟩ := ht
      obtain ⟨nr, hnr⟩ : ∃ n, o.refs.length = n := ⟨_, rfl⟩
      obtain ⟨nt, hnt⟩ : ∃ n, o.tags.length = n := ⟨_, rfl⟩
      rw [hnr] at evr hrl hrc
      rw [hnt] at evt htl htc
      subst evr evt
      have HNR := Lib.hid hnr
      have HOO := Lib.hid ho
      have HNT := Lib.hid hnt
      have HRC := Lib.hid hrc
      have HTC := Lib.hid htc
      have HTZ := Lib.hid htz
      have bz := lt_of_cell c0
      have HM2 := row_later hbr HMh.out
      clear hcell ho hnr hnt hrc htc htz hrz
      have mz := lt_of_block HM2
      have m0 := cell_of_row wr _ 0 _ _ _ HM2
      simp only [List.getElem?_toArray, List.getElem?_cons_zero] at m0
      have HM2' := Lib.hid HM2
      clear HM2
      by_cases r12 : nr ≤ 12
      case neg =>
        have r1 : (12 : Int) < nr := by omega
        go_wp2
        go_ret
        exact ⟨⟨false, rfl, fun h => by cases h⟩, below_step B1 (Nat.le_refl _) (hbr.alloc hbr.size _)⟩
      by_cases t20 : nt ≤ 20
      case neg =>
        have r1 : (20 : Int) < nt := by omega
        have r2 : ¬ (12 : Int) < nr := by omega
        go_wp2
        go_ret
        exact ⟨⟨false, rfl, fun h => by cases h⟩, below_step B1 (Nat.le_refl _) (hbr.alloc hbr.size _)⟩
      by_cases z60 : o.id.size ≤ 60
      case neg =>
        have r1 : (60 : Int) < o.id.size := by omega
        have r2 : ¬ (12 : Int) < nr := by omega
        have r3 : ¬ (20 : Int) < nt := by omega
        go_wp2
        go_ret
        exact ⟨⟨false, rfl, fun h => by cases h⟩, below_step B1 (Nat.le_refl _) (hbr.alloc hbr.size _)⟩
      have r1 : ¬ (60 : Int) < o.id.size := by omega
      have r2 : ¬ (12 : Int) < nr := by omega
      have r3 : ¬ (20 : Int) < nt := by omega
      have HRN := Lib.hid (show ∀ o ∈ l.take (k + 1), o.refs.length ≤ 12 from fun o' ho' => by
        obtain ⟨hk', e⟩ := List.getElem?_eq_some_iff.1 HOO.out
        rw [List.take_succ_eq_append_getElem hk', e] at ho'
        rcases List.mem_append.1 ho' with ho' | ho'
        · exact HRS.out o' ho'
        · rw [List.mem_singleton.1 ho', HNR.out]; exact r12)
      go_wp2_with fail
      have BA : Below w1.heap.size w1 (wr.alloc (.cells #[.string o.id, .int .i64 o.kind, .int .i64 o.x, .int .i64 o.y, .slice ar nr capr, .slice at1 nt capt] 59)) := hbr.alloc hbr.size _
      have BA' : Below wr.heap.size wr (wr.alloc (.cells #[.string o.id, .int .i64 o.kind, .int .i64 o.x, .int .i64 o.y, .slice ar nr capr, .slice at1 nt capt] 59)) := (Below.refl _ wr).alloc (Nat.le_refl _) _
      have HX := row_new wr (.cells #[.string o.id, .int .i64 o.kind, .int .i64 o.x, .int .i64 o.y, .slice ar nr capr, .slice at1 nt capt] 59)
      generalize hwa : wr.alloc (.cells #[.string o.id, .int .i64 o.kind, .int .i64 o.x, .int .i64 o.y, .slice ar nr capr, .slice at1 nt capt] 59) = wa
      rw [hwa] at BA BA' HX
      clear hwa c0 c1 c2 c3 c4 c5
      obtain ⟨Bx, hBx⟩ : ∃ Bx, wr.heap.size = Bx := ⟨_, rfl⟩
      rw [hBx] at HX ⊢
      have HXh := Lib.hid HX
      have hza := lt_of_block HX
      have HBx := Lib.hid hBx
      clear HX hBx m0 mz
      obtain ⟨wo, rfl⟩ : ∃ wo : World, wo = wr := ⟨_, rfl⟩
      go_loopw [7] (fun i w2 => ∃ q : Nat, q ≤ nr ∧ i = .int .i64 q ∧ Below wa.heap.size wa w2) (fun i _ => nr - (intOf i).toNat)
      case atStart => exact ⟨0, by omega, rfl, Below.refl _ _⟩
      case round =>
        obtain ⟨q, hq, rfl, hb2⟩ := hrel
        have HX2 := row_later hb2 HXh.out
        by_cases hqn : q < nr
        · obtain ⟨s, hs⟩ : ∃ s, o.refs[q]? = some s := ⟨o.refs[q]'(by rw [HNR.out]; exact hqn), List.getElem?_eq_getElem _⟩
          obtain ⟨br, offr, har, hcr⟩ := HRC.out (by omega)
          subst har
          have d0 : wr.cell? ⟨br, offr + q, none⟩ = some (.string s) := cell_later (below_step BA' (Nat.le_refl _) hb2) (hcr q s hs)
          clear hcr hs
          have xz := lt_of_block HX2
          have x0 := cell_of_row wr _ 0 _ _ _ HX2
          have x1 := cell_of_row wr _ 1 _ _ _ HX2
          have x2 := cell_of_row wr _ 2 _ _ _ HX2
          have x3 := cell_of_row wr _ 3 _ _ _ HX2
          have x4 := cell_of_row wr _ 4 _ _ _ HX2
          have x5 := cell_of_row wr _ 5 _ _ _ HX2
          simp only [List.getElem?_toArray, List.getElem?_cons_zero, List.getElem?_cons_succ] at x0 x1 x2 x3 x4 x5
          have HX2' := Lib.hid HX2
          clear HX2
          by_cases hz2 : (60 : Int) < s.size
          · go_wp2
            go_ret
            exact ⟨⟨false, rfl, fun h => by cases h⟩, below_step B1 (Nat.le_refl _) (below_step BA (Nat.le_refl _) hb2)⟩
          · go_wp2
            go_roundw
            case rel => exact ⟨q + 1, by omega, by go_num, hb2⟩
            case measure => simp [intOf]; omega
        · obtain rfl : q = nr := by omega
          have BA2 := below_step BA' (Nat.le_refl _) hb2
          have BAw := below_step BA (Nat.le_refl _) hb2
          have hza2 := lt_of_block HX2
          have HX2h := Lib.hid HX2
          have xz := lt_of_block HX2
          have x0 := cell_of_row wr _ 0 _ _ _ HX2
          have x1 := cell_of_row wr _ 1 _ _ _ HX2
          have x2 := cell_of_row wr _ 2 _ _ _ HX2
          have x3 := cell_of_row wr _ 3 _ _ _ HX2
          have x4 := cell_of_row wr _ 4 _ _ _ HX2
          have x5 := cell_of_row wr _ 5 _ _ _ HX2
          simp only [List.getElem?_toArray, List.getElem?_cons_zero, List.getElem?_cons_succ] at x0 x1 x2 x3 x4 x5
          have HX2' := Lib.hid HX2
          clear HX2
          go_wp2_with fail
          clear x0 x1 x2 x3 x4 x5 xz HX2'
          obtain ⟨w5, rfl⟩ : ∃ w5 : World, w5 = wr := ⟨_, rfl⟩
          go_loopw [8] (fun i w2 => ∃ q : Nat, q ≤ nt ∧ i = .int .i64 q ∧ Below w5.heap.size w5 w2) (fun i _ => nt - (intOf i).toNat)
          case atStart => exact ⟨0, by omega, rfl, Below.refl _ _⟩
          case round =>
            obtain ⟨m, hm, rfl, hb3⟩ := hrel
            have HX3 := row_later hb3 HX2h.out
            have BF := below_step B1 (Nat.le_refl _) (below_step BAw (Nat.le_refl _) hb3)
            have BG := below_step BAw (Nat.le_refl _) hb3
            by_cases hmn : m < nt
            · obtain ⟨s, hs⟩ : ∃ s, o.tags[m]? = some s := ⟨o.tags[m]'(by rw [HNT.out]; exact hmn), List.getElem?_eq_getElem _⟩
              obtain ⟨br, offr, har, hcr⟩ := HTC.out (by omega)
              subst har
              have hsz := HTZ.out s (List.mem_of_getElem? hs)
              have B5 := below_step BA2 (Nat.le_refl _) hb3
              have d0 : wr.cell? ⟨br, offr + m * 2, none⟩ = some (.string s.key) := cell_later B5 (hcr m s hs).1
              have d1 : wr.cell? ⟨br, offr + m * 2 + 1, none⟩ = some (.string s.val) := cell_later B5 (hcr m s hs).2
              have WS : IntKind.i64.wrap ((s.key.size : Int) + s.val.size) = (s.key.size : Int) + s.val.size := IntWalk.i64_in _ (by omega)
              clear hcr hs
              have xz := lt_of_block HX3
              have x0 := cell_of_row wr _ 0 _ _ _ HX3
              have x1 := cell_of_row wr _ 1 _ _ _ HX3
              have x2 := cell_of_row wr _ 2 _ _ _ HX3
              have x3 := cell_of_row wr _ 3 _ _ _ HX3
              have x4 := cell_of_row wr _ 4 _ _ _ HX3
              have x5 := cell_of_row wr _ 5 _ _ _ HX3
              simp only [List.getElem?_toArray, List.getElem?_cons_zero, List.getElem?_cons_succ] at x0 x1 x2 x3 x4 x5
              have HX3' := Lib.hid HX3
              clear HX3
              by_cases hz2 : (300 : Int) < (s.key.size : Int) + s.val.size
              · go_wp2_with fail
                go_quiet (fail)
                go_wp2
                go_ret
                exact ⟨⟨false, rfl, fun h => by cases h⟩, BF.drewN'⟩
              · go_wp2_with fail
                go_quiet (fail)
                go_wp2
                go_roundw
                case rel => exact ⟨m + 1, by omega, by go_num, hb3.drewN'⟩
                case measure => simp [intOf]; omega
            · obtain rfl : m = nt := by omega
              have xz := lt_of_block HX3
              have x0 := cell_of_row wr _ 0 _ _ _ HX3
              have x1 := cell_of_row wr _ 1 _ _ _ HX3
              have x2 := cell_of_row wr _ 2 _ _ _ HX3
              have x3 := cell_of_row wr _ 3 _ _ _ HX3
              have x4 := cell_of_row wr _ 4 _ _ _ HX3
              have x5 := cell_of_row wr _ 5 _ _ _ HX3
              simp only [List.getElem?_toArray, List.getElem?_cons_zero, List.getElem?_cons_succ] at x0 x1 x2 x3 x4 x5
              have HX3' := Lib.hid HX3
              clear HX3
              go_wp2
              go_roundw
              case rel => exact ⟨k + 1, by omega, by go_num, HRN.out, BG⟩
              case measure => simp [intOf]; omega
    · obtain rfl : k = N := by omega
      have HM2 := row_later hbr HMh.out
      have BF := below_step B1 (Nat.le_refl _) hbr
      clear B1 hbr HMh
      have mz := lt_of_block HM2
      have m0 := cell_of_row wr _ 0 _ _ _ HM2
      simp only [List.getElem?_toArray, List.getElem?_cons_zero] at m0
      have HM2' := Lib.hid HM2
      clear HM2
      go_wp2
      go_ret
      exact ⟨⟨true, rfl, fun _ => ⟨by rw [HN.out]; exact hN', by
        have h := HRS.out
        rw [List.take_of_length_le (by rw [HN.out]; exact Nat.le_refl _)] at h
        exact h⟩⟩, BF⟩
end Go.Proofs.YtbkomdinchiffaaGreat
