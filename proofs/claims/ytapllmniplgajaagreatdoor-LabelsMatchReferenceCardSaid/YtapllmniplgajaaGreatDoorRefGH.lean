/- The reference's Valid of maps (layers 12) and of tags (layer 9). The reference of layer 7 where labels need it: Level, Side, Valid, far, floor, Box and Pixel of the first tile. -/
import Derived.Test.YtapllmniplgajaaGreatDoorObjQ
import Derived.Test.YtapllmniplgajaaGreatDoorAtlP
import Derived.Test.YtapllmniplgajaaGreatDoorObjN
import Derived.BigQuiet
import Derived.Test.YtapllmniplgajaaGreatDoorPix
import Derived.StillTailTactics
namespace Go.Proofs.YtapllmniplgajaaGreatDoor
open Go.RowKit

def lastO (l : List ObjD) : Nat → ByteArray
  | 0 => ⟨#[]⟩
  | m + 1 => ((l[m]?).map (·.id)).getD ⟨#[]⟩
theorem obj_name {o : ObjD} (h : objOK o = true) : nameB o.id = true := by
  simp only [objOK, Bool.and_eq_true, decide_eq_true_eq] at h
  exact h.1.1.1.1.1.2
set_option maxRecDepth 100000 in
set_option maxHeartbeats 4000000 in
theorem rvalid12_any (v : Value) (l : List ObjD) (w : World) (hv : ObjsIs w v l) :
    Calls Tryz.prog 45 #[.agg #[v]] w fun e w' => e = .returned (.bool (mapOK l)) ∧ Below w.heap.size w w' := by
  have mixed : Tryz.prog.follows .mixedOrders = true := by kernel_rfl
  have HV := Lib.hid hv
  obtain ⟨a, cap, rfl, hn, hc⟩ := hv
  obtain ⟨N, hN⟩ : ∃ N, l.length = N := ⟨_, rfl⟩
  rw [hN] at hn hc HV ⊢
  have HN := Lib.hid hN
  have HC := Lib.hid hc
  clear hN hc
  by_cases h6 : 1000000 < N
  · have HE := Lib.hid (show mapOK l = false by rw [mapOK, HN.out]; simp; omega)
    go_enter Tryz.func45, Tryz.ntmps45
    go_wp2
    go_ret
    exact ⟨ret_bool HE.out.symm, (Below.refl _ _).alloc (Nat.le_refl _) _⟩
  have HL := Lib.hid (show decide (N ≤ 1000000) = true by rw [decide_eq_true_eq]; omega)
  go_enter Tryz.func45, Tryz.ntmps45
  go_wp2_with fail
  have B1 : Below w.heap.size w (w.alloc (.cells #[.slice a N cap] 35)) := (Below.refl _ w).alloc (Nat.le_refl _) _
  have HM := row_new w (.cells #[.slice a N cap] 35)
  generalize hw1 : w.alloc (.cells #[.slice a N cap] 35) = w1
  rw [hw1] at B1 HM
  clear hw1
  have HMh := Lib.hid HM
  have mz := lt_of_block HM
  have m0 := cell_of_row w1 _ 0 _ _ _ HM
  simp only [List.getElem?_toArray, List.getElem?_cons_zero] at m0
  have HM' := Lib.hid HM
  clear HM
  go_wp2
  clear m0 mz HM'
  go_loopw [3] (fun i wr => ∃ k : Nat, k ≤ N ∧ i = .int .i64 k ∧ objsFrom ⟨#[]⟩ l = objsFrom (lastO l k) (l.drop k) ∧ Below w1.heap.size w1 wr) (fun i _ => N - (intOf i).toNat)
  case atStart => exact ⟨0, by omega, rfl, rfl, Below.refl _ _⟩
  case round =>
    obtain ⟨k, hk, rfl, hT, hbr⟩ := hrel
    have HT := Lib.hid hT
    clear hT
    have HM2 := row_later hbr HMh.out
    have mz := lt_of_block HM2
    have m0 := cell_of_row wr _ 0 _ _ _ HM2
    simp only [List.getElem?_toArray, List.getElem?_cons_zero] at m0
    have HM2' := Lib.hid HM2
    clear HM2
    by_cases hlt : k < N
    · obtain ⟨o, ho⟩ : ∃ o, l[k]? = some o := ⟨l[k]'(by rw [HN.out]; exact hlt), List.getElem?_eq_getElem _⟩
      obtain ⟨b, off, ha, hcell⟩ := HC.out (by omega)
      subst ha
      have HCL := Lib.hid (fun i o hi => ((hcell i o hi).later B1).later hbr)
      obtain ⟨vr, vt, c0, c1, c2, c3, c4, c5, hr, ht, hz⟩ := HCL.out k o ho
      have HD := Lib.hid (objsFrom_drop (lastO l k) l k o ho)
      have HK := Lib.hid (show lastO l (k + 1) = o.id by simp [lastO, ho])
      have RV := Lib.hid (fun w' (hb : Below wr.heap.size wr w') => rvalidO_any o.id o.kind o.x o.y vr vt o.refs o.tags w' hz (hr.later hb) (ht.later hb))
      obtain ⟨ok, hok⟩ : ∃ z, z = objOK o := ⟨_, rfl⟩
      have RV := Lib.hid (show ∀ w' (hb : Below wr.heap.size wr w'), Calls Tryz.prog 72 #[.agg #[.string o.id, .int .i64 o.kind, .int .i64 o.x, .int .i64 o.y, vr, vt]] w' fun e w'' => e = .returned (.bool ok) ∧ Below w'.heap.size w' w'' by rw [hok]; exact RV.out)
      obtain ⟨ar, capr, evr, _⟩ := hr
      obtain ⟨at1, capt, evt, _⟩ := ht
      subst evr evt
      have d0 := cell_belowBy c0
      have d1 := cell_belowBy c1
      have d2 := cell_belowBy c2
      have d3 := cell_belowBy c3
      have d4 := cell_belowBy c4
      have d5 := cell_belowBy c5
      have dm := cell_belowBy m0
      clear hcell ho c0 c1 c2 c3 c4 c5 hz
      cases ok with
      | false =>
        have HE := Lib.hid (show mapOK l = false by unfold mapOK; rw [HT.out, HD.out, ← hok]; simp)
        clear hok
        go_wp2_with fail
        refine wp_region_quiet_below (by assumption) (by kernel_rfl) ?_
        repeat (go_big_quiet_step (first | (go_at_call 72; exact calls_belowBy (RV.out _ (BelowBy.below _)))))
        refine wpQuiet_nil ?_
        intro w6 hw'
        obtain ⟨⟨w7, hb7⟩, hw''⟩ := hw'
        subst hw''
        have B7 := below_step hbr (Nat.le_refl _) hb7
        go_wp2
        go_ret
        exact ⟨ret_bool HE.out.symm, below_step B1 (Nat.le_refl _) B7⟩
      | true =>
        have HO := Lib.hid hok.symm
        clear hok
        rcases k with _ | m
        · have HG := Lib.hid (show objsFrom ⟨#[]⟩ l = objsFrom (lastO l (0 + 1)) (l.drop (0 + 1)) by
            rw [HT.out, HD.out, HO.out, HK.out]
            have : ltB (lastO l 0) o.id = true := lt_empty (obj_name HO.out)
            rw [this]; simp)
          simp only [Nat.zero_mul, Nat.add_zero] at d0 d1 d2 d3 d4 d5
          go_wp2_with fail
          refine wp_region_quiet_below (by assumption) (by kernel_rfl) ?_
          repeat (go_big_quiet_step (first | (go_at_call 72; exact calls_belowBy (RV.out _ (BelowBy.below _)))))
          refine wpQuiet_nil ?_
          intro w6 hw'
          obtain ⟨⟨w7, hb7⟩, hw''⟩ := hw'
          subst hw''
          have B7 := below_step hbr (Nat.le_refl _) hb7
          go_wp2
          go_roundw
          case rel => exact ⟨0 + 1, by omega, by go_num, HG.out, B7⟩
          case measure => simp [intOf]; omega
        · obtain ⟨p, hp⟩ : ∃ p, l[m]? = some p := ⟨l[m]'(by rw [HN.out]; omega), List.getElem?_eq_getElem _⟩
          obtain ⟨vr', vt', p0, -, -, -, -, -, -, -, -⟩ := HCL.out m p hp
          have q0 := cell_belowBy p0
          have HKP := Lib.hid (show lastO l (m + 1) = p.id by simp [lastO, hp])
          have WM : IntKind.i64.wrap (((m + 1 : Nat) : Int) - 1) = (m : Int) := (IntWalk.i64_in _ (by omega)).trans (by omega)
          have WG : decide ((0 : Int) < ((m + 1 : Nat) : Int)) = true := by rw [decide_eq_true_eq]; omega
          clear hp p0
          cases hlt2 : ltB p.id o.id with
          | false =>
            have HE := Lib.hid (show mapOK l = false by unfold mapOK; rw [HT.out, HD.out, HKP.out, hlt2]; simp)
            have LQ : Op.bytesLess p.id.toList o.id.toList = false := hlt2
            clear hlt2
            go_wp2_with fail
            refine wp_region_quiet_below (by assumption) (by kernel_rfl) ?_
            repeat (go_big_quiet_step (first | (go_at_call 72; exact calls_belowBy (RV.out _ (BelowBy.below _)))))
            refine wpQuiet_nil ?_
            intro w6 hw'
            obtain ⟨⟨w7, hb7⟩, hw''⟩ := hw'
            subst hw''
            have B7 := below_step hbr (Nat.le_refl _) hb7
            go_wp2
            go_ret
            exact ⟨ret_bool HE.out.symm, below_step B1 (Nat.le_refl _) B7⟩
          | true =>
            have LQ : Op.bytesLess p.id.toList o.id.toList = true := hlt2
            have HG := Lib.hid (show objsFrom ⟨#[]⟩ l = objsFrom (lastO l (m + 1 + 1)) (l.drop (m + 1 + 1)) by
              rw [HT.out, HD.out, HO.out, HK.out, HKP.out, hlt2]; simp)
            clear hlt2
            go_wp2_with fail
            refine wp_region_quiet_below (by assumption) (by kernel_rfl) ?_
            repeat (go_big_quiet_step (first | (go_at_call 72; exact calls_belowBy (RV.out _ (BelowBy.below _)))))
            refine wpQuiet_nil ?_
            intro w6 hw'
            obtain ⟨⟨w7, hb7⟩, hw''⟩ := hw'
            subst hw''
            have B7 := below_step hbr (Nat.le_refl _) hb7
            go_wp2
            go_roundw
            case rel => exact ⟨m + 1 + 1, by omega, by go_num, HG.out, B7⟩
            case measure => simp [intOf]; omega
    · obtain rfl : k = N := by omega
      have HE := Lib.hid (show mapOK l = true by
        rw [mapOK, HT.out, HN.out, HL.out, List.drop_of_length_le (by rw [HN.out]; exact Nat.le_refl _)]
        simp [objsFrom])
      go_wp2
      go_ret
      exact ⟨ret_bool HE.out.symm, below_step B1 (Nat.le_refl _) hbr⟩


set_option maxRecDepth 100000 in
set_option maxHeartbeats 1000000 in
theorem rtags09_any (v : Value) (l : List TagD) (w : World) (h : TagRow w v l) :
    Calls Tryz.prog 74 #[v] w fun e w' => e = .returned (.bool (tagsOK l)) ∧ Below w.heap.size w w' := by
  obtain ⟨a, cap, rfl, hn, hsz, hc⟩ := h
  generalize hN : l.length = N at *
  have HN := Lib.hid hN
  have HZ := Lib.hid hsz
  have HC := Lib.hid hc
  clear hN hsz hc
  by_cases h6 : 60 < N
  · have HE := Lib.hid (show tagsOK l = false by rw [tagsOK, HN.out]; simp; omega)
    go_enter Tryz.func74, Tryz.ntmps74
    go_wp2
    go_ret
    exact ⟨ret_bool HE.out.symm, Below.refl _ _⟩
  have HL := Lib.hid (show decide (N ≤ 60) = true by rw [decide_eq_true_eq]; omega)
  go_enter Tryz.func74, Tryz.ntmps74
  go_wp2
  go_loopw [3] (fun i wr => ∃ k : Nat, k ≤ N ∧ i = .int .i64 k ∧ tagsFrom ⟨#[]⟩ l = tagsFrom (lastK l k) (l.drop k) ∧ Below w.heap.size w wr) (fun i _ => N - (intOf i).toNat)
  case atStart => exact ⟨0, by omega, rfl, rfl, Below.refl _ _⟩
  case round =>
    obtain ⟨k, hk, rfl, hT, hbr⟩ := hrel
    have HT := Lib.hid hT
    clear hT
    by_cases hlt : k < N
    · obtain ⟨t, ht⟩ : ∃ t, l[k]? = some t := ⟨l[k]'(by rw [HN.out]; exact hlt), List.getElem?_eq_getElem _⟩
      obtain ⟨b, off, ha, hcell⟩ := HC.out (by omega)
      subst ha
      obtain ⟨z1, z2⟩ := HZ.out t (List.mem_of_getElem? ht)
      have c0 := cell_later hbr (hcell k t ht).1
      have c1 := cell_later hbr (hcell k t ht).2
      have bz := lt_of_cell c0
      have HD := Lib.hid (tagsFrom_drop (lastK l k) l k t ht)
      have HK := Lib.hid (show lastK l (k + 1) = t.key by simp [lastK, ht])
      have RN := Lib.hid (fun w => rname_still t.key z1 w)
      have HCL := Lib.hid hcell
      clear hcell ht
      cases hnm : nameB t.key
      case false =>
        have HR := Lib.hid (show tagsFrom ⟨#[]⟩ l = false by rw [HT.out, HD.out, hnm]; rfl)
        rw [hnm] at RN
        clear hnm
        go_wp2
        go_quiet ((go_at_call 102; exact Calls.quiet_of_same (RN.out _)))
        go_wp2
        go_ret
        exact ⟨ret_bool (by rw [tagsOK, HR.out]; simp), hbr.drewN'⟩
      rw [hnm] at RN
      by_cases v0 : 0 < t.val.size
      case neg =>
        have HR := Lib.hid (show tagsFrom ⟨#[]⟩ l = false by rw [HT.out, HD.out]; simp [v0])
        have D1 : decide ((t.val.size : Int) < 1) = true := by rw [decide_eq_true_eq]; omega
        clear hnm
        go_wp2
        go_quiet ((go_at_call 102; exact Calls.quiet_of_same (RN.out _)))
        go_wp2
        go_ret
        exact ⟨ret_bool (by rw [tagsOK, HR.out]; simp), hbr.drewN'⟩
      have D1 : decide ((t.val.size : Int) < 1) = false := by rw [decide_eq_false_iff_not]; omega
      by_cases v1 : t.val.size ≤ 200
      case neg =>
        have HR := Lib.hid (show tagsFrom ⟨#[]⟩ l = false by rw [HT.out, HD.out]; simp [v1])
        have D2 : decide ((200 : Int) < t.val.size) = true := by rw [decide_eq_true_eq]; omega
        clear hnm
        go_wp2
        go_quiet ((go_at_call 102; exact Calls.quiet_of_same (RN.out _)))
        go_wp2
        go_ret
        exact ⟨ret_bool (by rw [tagsOK, HR.out]; simp), hbr.drewN'⟩
      have D2 : decide ((200 : Int) < t.val.size) = false := by rw [decide_eq_false_iff_not]; omega
      rcases k with _ | m
      · have HG := Lib.hid (show tagsFrom ⟨#[]⟩ l = tagsFrom (lastK l (0 + 1)) (l.drop (0 + 1)) by
          rw [HT.out, HD.out, hnm, HK.out]
          have : ltB (lastK l 0) t.key = true := lt_empty hnm
          rw [this]; simp [v0, v1])
        clear hnm
        simp only [Nat.zero_mul, Nat.add_zero] at c0 c1
        go_wp2
        go_quiet ((go_at_call 102; exact Calls.quiet_of_same (RN.out _)))
        go_wp2
        go_roundw
        case rel => exact ⟨0 + 1, by omega, by go_num, HG.out, hbr.drewN'⟩
        case measure => simp [intOf]; try omega
      · obtain ⟨p, hp⟩ : ∃ p, l[m]? = some p := ⟨l[m]'(by rw [HN.out]; omega), List.getElem?_eq_getElem _⟩
        have p0 := cell_later hbr (HCL.out m p hp).1
        have HKP := Lib.hid (show lastK l (m + 1) = p.key by simp [lastK, hp])
        have WM : IntKind.i64.wrap (((m + 1 : Nat) : Int) - 1) = (m : Int) := (IntWalk.i64_in _ (by omega)).trans (by omega)
        have WG : decide ((0 : Int) < ((m + 1 : Nat) : Int)) = true := by rw [decide_eq_true_eq]; omega
        clear hp
        cases hlt2 : ltB p.key t.key
        case false =>
          have HR := Lib.hid (show tagsFrom ⟨#[]⟩ l = false by rw [HT.out, HD.out, HKP.out, hlt2]; simp)
          have LQ : Op.bytesLess p.key.toList t.key.toList = false := hlt2
          clear hnm hlt2
          go_wp2
          go_quiet ((go_at_call 102; exact Calls.quiet_of_same (RN.out _)))
          go_wp2
          go_ret
          exact ⟨ret_bool (by rw [tagsOK, HR.out]; simp), hbr.drewN'⟩
        have LQ : Op.bytesLess p.key.toList t.key.toList = true := hlt2
        have HG := Lib.hid (show tagsFrom ⟨#[]⟩ l = tagsFrom (lastK l (m + 1 + 1)) (l.drop (m + 1 + 1)) by
          rw [HT.out, HD.out, hnm, HK.out, HKP.out, hlt2]; simp [v0, v1])
        clear hnm hlt2
        go_wp2
        go_quiet ((go_at_call 102; exact Calls.quiet_of_same (RN.out _)))
        go_wp2
        go_roundw
        case rel => exact ⟨m + 1 + 1, by omega, by go_num, HG.out, hbr.drewN'⟩
        case measure => simp [intOf]; try omega
    · obtain rfl : k = N := by omega
      have HE := Lib.hid (show tagsOK l = true by
        rw [tagsOK, HT.out, HN.out, HL.out, List.drop_of_length_le (by rw [HN.out]; exact Nat.le_refl _)]
        simp [tagsFrom])
      go_wp2
      go_ret
      exact ⟨ret_bool HE.out.symm, hbr⟩
end Go.Proofs.YtapllmniplgajaaGreatDoor

namespace Go.Proofs.YtapllmniplgajaaGreatDoor
open Go.RowKit

set_option maxHeartbeats 400000 in
theorem g7rlevel_any (z : Int) (w : World) :
    Calls Tryz.prog 128 #[.int .i64 z] w fun e w' => e = .returned (.bool (levelB z)) ∧ w = w' := by
  by_cases h0 : 0 ≤ z
  · by_cases h1 : z ≤ 17
    · have e : levelB z = true := by simp [levelB, h0, h1]
      rw [e]
      go_enter Tryz.func128, Tryz.ntmps128
      go_wp2
      go_ret
      exact ⟨rfl, rfl⟩
    · have e : levelB z = false := by simp [levelB, h0, h1]
      rw [e]
      go_enter Tryz.func128, Tryz.ntmps128
      go_wp2
      go_ret
      exact ⟨rfl, rfl⟩
  · have e : levelB z = false := by simp [levelB, h0]
    rw [e]
    go_enter Tryz.func128, Tryz.ntmps128
    go_wp2
    go_ret
    exact ⟨rfl, rfl⟩

theorem g7side_step (k : Nat) (h : k < 17) : side k / 2 = side (k + 1) := by
  have : ∀ z : Fin 17, side z.val / 2 = side (z.val + 1) := by decide
  exact this ⟨k, h⟩

set_option maxHeartbeats 400000 in
theorem g7rside_any (k : Nat) (hk : k ≤ 17) (w : World) :
    Calls Tryz.prog 78 #[.int .i64 k] w fun e w' => e = .returned (.int .i64 (side k)) ∧ w = w' := by
  go_enter Tryz.func78, Tryz.ntmps78
  go_wp2
  go_loop [3, 4] (fun n i => ∃ j : Nat, j ≤ k ∧ n = .int .i64 (side j) ∧ i = .int .i64 j) (fun _ i => k - (intOf i).toNat)
  case atStart => exact ⟨0, by omega, rfl, rfl⟩
  case round =>
    obtain ⟨j, hj, rfl, rfl⟩ := hrel
    have hb := side_bd j (by omega)
    by_cases hlt : j < k
    · have hs := Lib.hid (g7side_step j (by omega))
      go_wp2
      go_round
      case rel => exact ⟨j + 1, by omega, by rw [hs.out], by go_num⟩
      case measure => simp [intOf]; omega
    · obtain rfl : j = k := by omega
      go_wp2
      go_ret
      exact ⟨rfl, rfl⟩

theorem g7rside_still (k : Nat) (hk : k ≤ 17) (w : World) :
    Calls Tryz.prog 78 #[.int .i64 k] w fun e w' => e = .returned (.int .i64 (side k)) ∧ w' = w :=
  (g7rside_any k hk w).mono fun _ _ h => ⟨h.1, h.2.symm⟩
theorem g7grid_div (k : Nat) (h : k ≤ 17) : (1048576 : Int) / side k = 2 ^ k := by
  have : ∀ z : Fin 18, (1048576 : Int) / side z.val = 2 ^ z.val := by decide
  exact this ⟨k, by omega⟩


set_option maxHeartbeats 1000000 in
theorem g7rvalid_any (z x y : Int) (w : World) :
    Calls Tryz.prog 107 #[.agg #[.int .i64 z, .int .i64 x, .int .i64 y]] w fun e w' => e = .returned (.bool (validB z x y)) ∧ ∃ n, w' = (w.alloc (.cells #[.int .i64 z, .int .i64 x, .int .i64 y] 83)).drewN n := by
  have lv : ∀ w, Calls Tryz.prog 128 #[.int .i64 z] w fun e w' => e = .returned (.bool (levelB z)) ∧ w' = w := fun w => (g7rlevel_any z w).mono fun e w' h => ⟨h.1, h.2.symm⟩
  by_cases h0 : 0 ≤ z ∧ z ≤ 17
  · have hl : levelB z = true := by simp [levelB, h0]
    rw [hl] at lv
    obtain ⟨k, rfl⟩ := Int.eq_ofNat_of_zero_le h0.1
    have hk : k ≤ 17 := by omega
    have hp := pow_bd k hk
    have hb := side_bd k hk
    have hd := Lib.hid (g7grid_div k hk)
    clear hl h0
    by_cases hx : 0 ≤ x
    case neg =>
      have hx' : decide (0 ≤ x) = false := by simpa using hx
      go_enter Tryz.func107, Tryz.ntmps107
      go_wp2
      go_quiet ((first | (go_at_call 128; exact Calls.quiet_of_same (lv _)) | (go_at_call 78; exact Calls.quiet_of_same (g7rside_still k hk _))))
      go_wp2
      go_ret
      exact ⟨ret_bool (by simp only [validB, Int.toNat_natCast]; symm; rw [decide_eq_false_iff_not]; omega), _, rfl⟩
    have hx' : decide (0 ≤ x) = true := by simpa using hx
    by_cases hy : 0 ≤ y
    case neg =>
      have hy' : decide (0 ≤ y) = false := by simpa using hy
      go_enter Tryz.func107, Tryz.ntmps107
      go_wp2
      go_quiet ((first | (go_at_call 128; exact Calls.quiet_of_same (lv _)) | (go_at_call 78; exact Calls.quiet_of_same (g7rside_still k hk _))))
      go_wp2
      go_ret
      exact ⟨ret_bool (by simp only [validB, Int.toNat_natCast]; symm; rw [decide_eq_false_iff_not]; omega), _, rfl⟩
    have hy' : decide (0 ≤ y) = true := by simpa using hy
    by_cases hx2 : x < 1048576 / side k
    case neg =>
      have hx2' : decide (x < 1048576 / side k) = false := by simpa using hx2
      go_enter Tryz.func107, Tryz.ntmps107
      go_wp2
      go_quiet ((first | (go_at_call 128; exact Calls.quiet_of_same (lv _)) | (go_at_call 78; exact Calls.quiet_of_same (g7rside_still k hk _))))
      go_wp2
      go_ret
      rw [hd.out] at hx2
      exact ⟨ret_bool (by simp only [validB, Int.toNat_natCast]; symm; rw [decide_eq_false_iff_not]; omega), _, rfl⟩
    have hx2' : decide (x < 1048576 / side k) = true := by simpa using hx2
    go_enter Tryz.func107, Tryz.ntmps107
    go_wp2
    go_quiet ((first | (go_at_call 128; exact Calls.quiet_of_same (lv _)) | (go_at_call 78; exact Calls.quiet_of_same (g7rside_still k hk _))))
    go_wp2
    go_ret
    rw [hd.out] at hx2 ⊢
    exact ⟨ret_bool (by simp only [validB, Int.toNat_natCast]; rw [decide_eq_decide]; omega), _, rfl⟩
  · have hl : levelB z = false := by simp [levelB]; omega
    rw [hl] at lv
    have hv : validB z x y = false := by simp only [validB]; rw [decide_eq_false_iff_not]; omega
    clear hl h0
    go_enter Tryz.func107, Tryz.ntmps107
    go_wp2
    go_quiet ((go_at_call 128; exact Calls.quiet_of_same (lv _)))
    go_wp2
    go_ret
    exact ⟨ret_bool hv.symm, _, rfl⟩
theorem g7rvalid_below (z x y : Int) (w : World) :
    Calls Tryz.prog 107 #[.agg #[.int .i64 z, .int .i64 x, .int .i64 y]] w fun e w' => e = .returned (.bool (validB z x y)) ∧ Below w.heap.size w w' := by
  refine (g7rvalid_any z x y w).mono ?_
  rintro e w' ⟨he, n, rfl⟩
  exact ⟨he, ((Below.refl _ _).alloc (Nat.le_refl _) _).drewN'⟩

def farB (n : Int) : Bool := decide (n < -2097152 ∨ 2097152 < n)
set_option maxHeartbeats 400000 in
theorem g7far_any (n : Int) (w : World) :
    Calls Tryz.prog 77 #[.int .i64 n] w fun e w' => e = .returned (.bool (farB n)) ∧ w = w' := by
  by_cases h0 : n < -2097152
  · have e : farB n = true := by simp [farB, h0]
    rw [e]
    go_enter Tryz.func77, Tryz.ntmps77
    go_wp2
    go_ret
    exact ⟨rfl, rfl⟩
  · by_cases h1 : 2097152 < n
    · have e : farB n = true := by simp [farB, h1]
      rw [e]
      go_enter Tryz.func77, Tryz.ntmps77
      go_wp2
      go_ret
      exact ⟨rfl, rfl⟩
    · have e : farB n = false := by simp [farB, h0, h1]
      rw [e]
      go_enter Tryz.func77, Tryz.ntmps77
      go_wp2
      go_ret
      exact ⟨rfl, rfl⟩

theorem g7tdiv_floor (n b : Int) (hb : 0 < b) : (n < n.tdiv b * b → n / b = n.tdiv b - 1) ∧ (¬ n < n.tdiv b * b → n / b = n.tdiv b) ∧ -(b - 1) ≤ n - n.tdiv b * b ∧ n - n.tdiv b * b ≤ b - 1 := by
  have key : ∀ q r : Int, n.tdiv b = q → n = q * b + r → -(b-1) ≤ r → r ≤ b-1 → (n < n.tdiv b * b → n / b = n.tdiv b - 1) ∧ (¬ n < n.tdiv b * b → n / b = n.tdiv b) ∧ -(b - 1) ≤ n - n.tdiv b * b ∧ n - n.tdiv b * b ≤ b - 1 := by
    intro q r hq hn h1 h2
    rw [hq]
    refine ⟨fun h => ?_, fun h => ?_, by omega, by omega⟩
    · have e : n = b * (q - 1) + (b + r) := by rw [Int.mul_sub, Int.mul_one, Int.mul_comm b q]; omega
      rw [e, Int.mul_add_ediv_left _ _ (by omega), Int.ediv_eq_zero_of_lt (by omega) (by omega)]
      omega
    · have e : n = b * q + r := by rw [Int.mul_comm b q]; omega
      rw [e, Int.mul_add_ediv_left _ _ (by omega), Int.ediv_eq_zero_of_lt (by omega) (by omega)]
      omega
  rcases Int.lt_or_le n 0 with h | h
  · obtain ⟨m, rfl⟩ : ∃ m : Int, n = -m := ⟨-n, by omega⟩
    have h1 := Int.mul_ediv_add_emod m b
    have h2 := Int.emod_nonneg m (show b ≠ 0 by omega)
    have h3 := Int.emod_lt_of_pos m hb
    refine key (-(m / b)) (-(m % b)) ?_ ?_ (by omega) (by omega)
    · rw [Int.neg_tdiv, Int.tdiv_eq_ediv_of_nonneg (by omega)]
    · rw [Int.neg_mul, Int.mul_comm (m / b)]; omega
  · have h1 := Int.mul_ediv_add_emod n b
    have h2 := Int.emod_nonneg n (show b ≠ 0 by omega)
    have h3 := Int.emod_lt_of_pos n hb
    refine key (n / b) (n % b) (Int.tdiv_eq_ediv_of_nonneg h) ?_ (by omega) (by omega)
    rw [Int.mul_comm (n / b)]; omega
set_option maxHeartbeats 400000 in
theorem g7floor_any (n b : Int) (hn : -1073741824 ≤ n ∧ n ≤ 1073741824) (hb : 1 ≤ b ∧ b ≤ 1048576) (w : World) :
    Calls Tryz.prog 79 #[.int .i64 n, .int .i64 b] w fun e w' => e = .returned (.int .i64 (n / b)) ∧ w = w' := by
  obtain ⟨h1, h2, h3, h4⟩ := g7tdiv_floor n b (by omega)
  have H1 := Lib.hid h1
  have H2 := Lib.hid h2
  have WR : IntKind.i64.wrap (n.tdiv b * b) = n.tdiv b * b := IntWalk.i64_in _ (by omega)
  have hq : -1073741824 ≤ n.tdiv b ∧ n.tdiv b ≤ 1073741824 := by
    have h := Int.natAbs_tdiv n b
    have h' : (n.tdiv b).natAbs ≤ n.natAbs := by rw [h]; exact Nat.div_le_self _ _
    omega
  obtain ⟨hq1, hq2⟩ := hq
  clear h1 h2
  go_enter Tryz.func79, Tryz.ntmps79
  go_wp2
  · go_ret
    exact ⟨ret_int (H1.out (by assumption)).symm, rfl⟩
  · go_ret
    have hc : n.tdiv b * b ≤ n := by assumption
    exact ⟨ret_int (H2.out (by omega)).symm, rfl⟩
set_option maxHeartbeats 1000000 in
theorem g7rbox_ok (x y : Int) (k : Nat) (hk : k ≤ 17) (hx : 0 ≤ x ∧ x < 2 ^ k) (hy : 0 ≤ y ∧ y < 2 ^ k) (w : World) :
    Calls Tryz.prog 76 #[.agg #[.int .i64 k, .int .i64 x, .int .i64 y]] w fun e w' => e = .returned (.tuple #[.agg #[.int .i64 (x * side k), .int .i64 (y * side k), .int .i64 (x * side k + side k - 1), .int .i64 (y * side k + side k - 1)], .int .i64 0]) ∧ Below w.heap.size w w' := by
  have LV := Lib.hid (show validB k x y = true by simp only [validB, Int.toNat_natCast]; rw [decide_eq_true_eq]; omega)
  have hb := side_bd k hk
  have hmx := mul_side k hk x hx.1 hx.2
  have hmy := mul_side k hk y hy.1 hy.2
  clear hx hy
  go_enter Tryz.func76, Tryz.ntmps76
  go_wp2_with fail
  refine (g7rvalid_below _ _ _ _).mono ?_; rintro e w1 ⟨rfl, hb1⟩; rw [LV.out]
  have HA := row_later hb1 (row_past (row_new w _))
  have HR := row_later hb1 (row_new1 w _ _)
  have hs1 := hb1.size; simp at hs1
  have az := lt_of_block HA
  have a0 := cell_of_row w1 _ 0 _ _ _ HA
  have a1 := cell_of_row w1 _ 1 _ _ _ HA
  have a2 := cell_of_row w1 _ 2 _ _ _ HA
  simp only [List.getElem?_toArray, List.getElem?_cons_zero, List.getElem?_cons_succ] at a0 a1 a2
  have HA' := Lib.hid HA
  clear HA
  have rz := lt_of_block HR
  have r0 := cell_of_row w1 _ 0 _ _ _ HR
  have r1 := cell_of_row w1 _ 1 _ _ _ HR
  have r2 := cell_of_row w1 _ 2 _ _ _ HR
  have r3 := cell_of_row w1 _ 3 _ _ _ HR
  have rf0 := frozen_of_row w1 _ 0 _ _ HR
  have rf1 := frozen_of_row w1 _ 1 _ _ HR
  have rf2 := frozen_of_row w1 _ 2 _ _ HR
  have rf3 := frozen_of_row w1 _ 3 _ _ HR
  simp only [List.getElem?_toArray, List.getElem?_cons_zero, List.getElem?_cons_succ] at r0 r1 r2 r3
  have HR' := Lib.hid HR
  clear HR
  go_wp2_with fail
  refine (g7rside_still k hk _).mono ?_; rintro e w' ⟨rfl, rfl⟩
  go_wp2
  refine bodyPost_ret (v := .tuple #[.agg #[.int .i64 (x * side k), .int .i64 (y * side k), .int .i64 (x * side k + side k - 1), .int .i64 (y * side k + side k - 1)], .int .i64 0]) ?_ rfl ⟨rfl, ?_⟩
  · simp [results, Tryz.results76, go_sem, r0, r1, r2, r3]
  · repeat' (first | exact Below.refl _ _ | refine Below.drew ?_ | refine Below.drewN' ?_ | refine Below.setCell ?_ (by first | omega | (simp; done) | exact Below.size (by assumption) | (simp; omega)) _ | refine Below.alloc ?_ (by first | omega | (simp; done) | exact Below.size (by assumption) | (simp; omega)) _ | refine Below.trans ?_ (Below.mono (by assumption) ?_) | (first | omega | (simp; done) | exact Below.size (by assumption) | (simp; omega)))

theorem g7near_far (px py : Int) : nearB px py = (!farB px && !farB py) := by
  simp only [nearB, farB]
  rw [Bool.eq_iff_iff]
  simp
  omega


theorem g7side_two (k : Nat) (h : k ≤ 17) : (2 : Int) ^ (20 - k) = side k := by
  have : ∀ z : Fin 18, (2 : Int) ^ (20 - z.val) = side z.val := by decide
  exact this ⟨k, by omega⟩
theorem g7rfloor_still (n m b : Int) (e : m = n) (hn : -1073741824 ≤ n ∧ n ≤ 1073741824) (hb : 1 ≤ b ∧ b ≤ 1048576) (w : World) :
    Calls Tryz.prog 79 #[.int .i64 m, .int .i64 b] w fun e w' => e = .returned (.int .i64 (n / b)) ∧ w' = w := by
  subst e
  exact (g7floor_any _ b hn hb w).mono fun _ _ h => ⟨h.1, h.2.symm⟩

set_option maxRecDepth 100000 in
set_option maxHeartbeats 1000000 in
theorem g7rpixel_ok (x y px py : Int) (k : Nat) (hk : k ≤ 17) (hx : 0 ≤ x ∧ x < 2 ^ k) (hy : 0 ≤ y ∧ y < 2 ^ k) (hn : nearB px py = true) (w : World) :
    Calls Tryz.prog 47 #[.agg #[.int .i64 k, .int .i64 x, .int .i64 y], .agg #[.int .i64 px, .int .i64 py]] w fun e w' => e = .returned (.tuple #[.agg #[.int .i64 ((px - x * side k) * 256 / 2 ^ (20 - k)), .int .i64 ((py - y * side k) * 256 / 2 ^ (20 - k))], .int .i64 0]) ∧ Below w.heap.size w w' := by
  rw [g7side_two k hk]
  have hn' := hn
  rw [g7near_far] at hn'
  simp only [nearB, decide_eq_true_eq] at hn
  obtain ⟨hn1, hn2, hn3, hn4⟩ := hn
  have F1 := Lib.hid (show farB px = false by simp at hn'; exact hn'.1)
  have F2 := Lib.hid (show farB py = false by simp at hn'; exact hn'.2)
  clear hn'
  have hb := side_bd k hk
  have hmx := mul_side k hk x hx.1 hx.2
  have hmy := mul_side k hk y hy.1 hy.2
  go_enter Tryz.func47, Tryz.ntmps47
  go_wp2_with fail
  refine (g7rbox_ok _ _ _ hk hx hy _).mono ?_; rintro e w1 ⟨rfl, hb1⟩
  have HA := row_later hb1 (row_past (row_past (row_new w _)))
  have HP := row_later hb1 (row_past (row_new1 w _ _))
  have HR := row_later hb1 (row_new2 w _ _ _)
  have hs1 := hb1.size; simp at hs1
  have rz := lt_of_block HR
  have r0 := cell_of_row w1 _ 0 _ _ _ HR
  have r1 := cell_of_row w1 _ 1 _ _ _ HR
  have rf0 := frozen_of_row w1 _ 0 _ _ HR
  have rf1 := frozen_of_row w1 _ 1 _ _ HR
  simp only [List.getElem?_toArray, List.getElem?_cons_zero, List.getElem?_cons_succ] at r0 r1
  have HR' := Lib.hid HR
  clear HR
  have pz := lt_of_block HP
  have p0 := cell_of_row w1 _ 0 _ _ _ HP
  have p1 := cell_of_row w1 _ 1 _ _ _ HP
  simp only [List.getElem?_toArray, List.getElem?_cons_zero, List.getElem?_cons_succ] at p0 p1
  have HP' := Lib.hid HP
  clear HP
  have az := lt_of_block HA
  have a0 := cell_of_row w1 _ 0 _ _ _ HA
  have a1 := cell_of_row w1 _ 1 _ _ _ HA
  have a2 := cell_of_row w1 _ 2 _ _ _ HA
  simp only [List.getElem?_toArray, List.getElem?_cons_zero, List.getElem?_cons_succ] at a0 a1 a2
  have HA' := Lib.hid HA
  clear HA
  clear hx hy
  go_wp2_with fail
  refine (g7far_any _ _).mono ?_; rintro e w' ⟨rfl, rfl⟩
  rw [F1.out]
  go_wp2_with fail
  refine (g7far_any _ _).mono ?_; rintro e w' ⟨rfl, rfl⟩
  rw [F2.out]
  go_wp2_with fail
  refine (g7rside_still k hk _).mono ?_; rintro e w' ⟨rfl, rfl⟩
  go_wp2_with fail
  have hw1 : IntKind.i64.wrap (px - x * side k) = px - x * side k := IntWalk.i64_in _ (by omega)
  have hw2 : IntKind.i64.wrap (py - y * side k) = py - y * side k := IntWalk.i64_in _ (by omega)
  have hw3 : IntKind.i64.wrap ((px - x * side k) * 256) = (px - x * side k) * 256 := IntWalk.i64_in _ (by omega)
  have hw4 : IntKind.i64.wrap ((py - y * side k) * 256) = (py - y * side k) * 256 := IntWalk.i64_in _ (by omega)
  refine wp_region_still_tail 19 (by kernel_rfl) (by kernel_rfl) ?_
  generalize hW : World.mk _ _ _ _ _ = w3
  have hW3 : w3 = (w1.alloc _).drew := hW.symm
  clear hW
  have hb3 : Below w1.heap.size w1 w3 := by rw [hW3]; exact ((Below.refl _ _).alloc (Nat.le_refl _) _).drew
  have hs3 : w1.heap.size + 1 ≤ w3.heap.size := by rw [hW3]; simp [go_sem]
  have HB := (congrArg (fun u : World => u.heap[w1.heap.size]?) hW3).trans (row_drew (row_new w1 _))
  have HA := row_later hb3 HA'.out
  have HP := row_later hb3 HP'.out
  have HR := row_later hb3 HR'.out
  clear hW3 HA' HP' HR' a0 a1 a2 p0 p1 r0 r1 rf0 rf1
  have rz := lt_of_block HR
  have r0 := cell_of_row w3 _ 0 _ _ _ HR
  have r1 := cell_of_row w3 _ 1 _ _ _ HR
  have rf0 := frozen_of_row w3 _ 0 _ _ HR
  have rf1 := frozen_of_row w3 _ 1 _ _ HR
  simp only [List.getElem?_toArray, List.getElem?_cons_zero, List.getElem?_cons_succ] at r0 r1
  have HR' := Lib.hid HR
  clear HR
  have pz := lt_of_block HP
  have p0 := cell_of_row w3 _ 0 _ _ _ HP
  have p1 := cell_of_row w3 _ 1 _ _ _ HP
  simp only [List.getElem?_toArray, List.getElem?_cons_zero, List.getElem?_cons_succ] at p0 p1
  have HP' := Lib.hid HP
  clear HP
  have az := lt_of_block HA
  have a0 := cell_of_row w3 _ 0 _ _ _ HA
  have a1 := cell_of_row w3 _ 1 _ _ _ HA
  have a2 := cell_of_row w3 _ 2 _ _ _ HA
  simp only [List.getElem?_toArray, List.getElem?_cons_zero, List.getElem?_cons_succ] at a0 a1 a2
  have HA' := Lib.hid HA
  clear HA
  have bz := lt_of_block HB
  have b0 := cell_of_row w3 _ 0 _ _ _ HB
  have b1 := cell_of_row w3 _ 1 _ _ _ HB
  have b2 := cell_of_row w3 _ 2 _ _ _ HB
  have b3 := cell_of_row w3 _ 3 _ _ _ HB
  simp only [List.getElem?_toArray, List.getElem?_cons_zero, List.getElem?_cons_succ] at b0 b1 b2 b3
  have HB' := Lib.hid HB
  clear HB
  simp only [List.take_succ_cons, List.take_zero, List.drop_succ_cons, List.drop_zero]
  repeat still_step
  still_call (g7rfloor_still _ _ _ rfl ⟨by omega, by omega⟩ ⟨by omega, by omega⟩ _)
  repeat still_step
  still_call (g7rfloor_still _ _ _ rfl ⟨by omega, by omega⟩ ⟨by omega, by omega⟩ _)
  repeat still_step
  refine wpStill_nil ?_
  go_wp2
  refine bodyPost_ret (v := .tuple #[.agg #[.int .i64 ((px - x * side k) * 256 / side k), .int .i64 ((py - y * side k) * 256 / side k)], .int .i64 0]) ?_ rfl ⟨rfl, ?_⟩
  · simp [results, Tryz.results47, go_sem, r0, r1]
  · repeat' (first | exact Below.refl _ _ | refine Below.drew ?_ | refine Below.drewN' ?_ | refine Below.setCell ?_ (by first | omega | (simp; done) | exact Below.size (by assumption) | (simp; omega)) _ | refine Below.alloc ?_ (by first | omega | (simp; done) | exact Below.size (by assumption) | (simp; omega)) _ | refine Below.trans ?_ (Below.mono (by assumption) ?_) | (first | omega | (simp; done) | exact Below.size (by assumption) | (simp; omega)))

end Go.Proofs.YtapllmniplgajaaGreatDoor
