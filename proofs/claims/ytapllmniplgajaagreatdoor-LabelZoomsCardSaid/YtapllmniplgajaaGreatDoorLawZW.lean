/- LabelZooms: the walk. -/
import Derived.Test.YtapllmniplgajaaGreatDoorLawF
import Derived.Test.YtapllmniplgajaaGreatDoorLawG
import Derived.Test.YtapllmniplgajaaGreatDoorLawH
namespace Go.Proofs.YtapllmniplgajaaGreatDoor
open Go.RowKit Go.Sort

theorem labels_le (l : List ObjD) (z : Int) (langs : List ByteArray) : (labelsL l z langs).length ≤ l.length := by
  unfold labelsL
  split
  · rw [isort_length]; exact List.length_filterMap_le ..
  · exact Nat.zero_le _

set_option maxRecDepth 100000 in
set_option maxHeartbeats 4000000 in
theorem lzoom_any (v vl : Value) (l : List ObjD) (raw : Nat) (langs : List ByteArray) (w : World) (hraw : raw < 256) (hv : ObjsIs w v l) (hvl : StrRow w vl langs) (he : Env w) :
    Calls Tryz.prog 8 #[.agg #[v], .int .u8 raw, vl] w fun e w' => e = .returned (.bool true) ∧ Below w.heap.size w w' := by
  have HE := Lib.hid (fun w' hb => he.later (w' := w') hb)
  have HV := Lib.hid (fun w' hb => hv.later (w' := w') hb)
  have HVL := Lib.hid (fun w' hb => hvl.later (w' := w') hb)
  obtain ⟨a, cap, rfl, hln, -⟩ := hv
  obtain ⟨al, capl, rfl, hll, -⟩ := hvl
  clear he
  obtain ⟨N, hN⟩ : ∃ N, l.length = N := ⟨_, rfl⟩
  obtain ⟨M, hM⟩ : ∃ M, langs.length = M := ⟨_, rfl⟩
  rw [hN] at HV hln ⊢
  rw [hM] at HVL hll ⊢
  have HN := Lib.hid hN
  have HM := Lib.hid hM
  clear hN hM
  obtain ⟨k, hk⟩ : ∃ k, raw % 17 = k := ⟨_, rfl⟩
  have hk17 : k < 17 := by omega
  have RW : IntKind.i64.wrap (raw : Int) = (raw : Int) := IntWalk.i64_in _ (by omega)
  have RM : (raw : Int).tmod 17 = (k : Int) := by rw [← hk]; exact (Int.ofNat_tmod raw 17).symm
  have K1 : IntKind.i64.wrap ((k : Int) + 1) = (k : Int) + 1 := IntWalk.i64_in _ (by omega)
  clear hk
  go_enter Tryz.func8, Tryz.ntmps8
  go_wp2_with fail
  have HB1 := row_new w (.cells #[.slice a N cap] 35)
  have B1 : Below w.heap.size w (w.alloc (.cells #[.slice a N cap] 35)) := (Below.refl _ _).alloc (Nat.le_refl _) _
  refine (lhead_any _ (HE.out _ B1)).mono ?_
  rintro e w2 ⟨rfl, hb2⟩
  have HB2 := row_later hb2 HB1
  have HB2h := Lib.hid HB2
  have B2 := below_step B1 (Nat.le_refl _) hb2
  clear HB1 B1 hb2
  obtain ⟨Bm, hBm⟩ : ∃ Bm, w.heap.size = Bm := ⟨_, rfl⟩
  rw [hBm] at HB2 HB2h ⊢
  have HBM := Lib.hid hBm
  clear hBm
  have mz := lt_of_block HB2
  have m0 := cell_of_row w2 _ 0 _ _ _ HB2
  simp only [List.getElem?_toArray, List.getElem?_cons_zero] at m0
  have HB2' := Lib.hid HB2
  clear HB2
  go_wp2_with fail
  refine (few13_any _ l 30 (by decide) w2 (HV.out _ B2)).mono ?_
  rintro e w3 ⟨⟨r, rfl, hr⟩, hb3⟩
  have HB3 := row_later hb3 HB2h.out
  have HB3h := Lib.hid HB3
  have B3 := below_step B2 (Nat.le_refl _) hb3
  clear B2 hb3 HB2h m0 mz HB2'
  cases r
  · clear hr
    have mz := lt_of_block HB3
    have m0 := cell_of_row w3 _ 0 _ _ _ HB3
    simp only [List.getElem?_toArray, List.getElem?_cons_zero] at m0
    have HB3' := Lib.hid HB3
    clear HB3
    go_wp2
    go_ret
    exact ⟨rfl, B3⟩
  have h30 : l.length ≤ 30 := hr rfl
  clear hr HB3
  go_wp2_with fail
  refine (langs_any _ langs w3 (HVL.out _ B3)).mono ?_
  rintro e w4 ⟨⟨r, rfl, hr⟩, hb4⟩
  have HB4 := row_later hb4 HB3h.out
  have HB4h := Lib.hid HB4
  have B4 := below_step B3 (Nat.le_refl _) hb4
  clear B3 hb4 HB3h
  have mz := lt_of_block HB4
  have m0 := cell_of_row w4 _ 0 _ _ _ HB4
  simp only [List.getElem?_toArray, List.getElem?_cons_zero] at m0
  have HB4' := Lib.hid HB4
  clear HB4
  cases r
  · clear hr
    go_wp2
    go_ret
    exact ⟨rfl, B4⟩
  have h8 : langs.length ≤ 8 := hr rfl
  clear hr
  go_wp2_with fail
  refine (validM_any _ l w4 (HV.out _ B4)).mono ?_
  rintro e w5 ⟨rfl, hb5⟩
  have HB5 := row_later hb5 HB4h.out
  have HB5h := Lib.hid HB5
  have B5 := below_step B4 (Nat.le_refl _) hb5
  clear B4 hb5 HB4h m0 mz HB4'
  have mz := lt_of_block HB5
  have m0 := cell_of_row w5 _ 0 _ _ _ HB5
  simp only [List.getElem?_toArray, List.getElem?_cons_zero] at m0
  have HB5' := Lib.hid HB5
  clear HB5
  cases hok : mapOK l
  · clear hok
    go_wp2
    go_ret
    exact ⟨rfl, B5⟩
  have HZP := Lib.hid (zoom_plain l hok k hk17 langs)
  clear hok
  go_wp2_with fail
  refine (labels_any _ _ l k langs w5 (HV.out _ B5) (HVL.out _ B5) (by omega) (by omega) (HE.out _ B5)).mono ?_
  rintro e w6 ⟨v6, rfl, hL6, hb6⟩
  have HB6 := row_later hb6 HB5h.out
  have B6 := below_step B5 (Nat.le_refl _) hb6
  clear B5 hb6 HB5h m0 mz HB5'
  have mz := lt_of_block HB6
  have m0 := cell_of_row w6 _ 0 _ _ _ HB6
  simp only [List.getElem?_toArray, List.getElem?_cons_zero] at m0
  have HB6' := Lib.hid HB6
  clear HB6
  go_wp2_with fail
  have h1z : ((k : Int) + 1) = ((k + 1 : Nat) : Int) := by omega
  rw [h1z]
  refine (labels_any _ _ l ((k + 1 : Nat) : Int) langs w6 (HV.out _ B6) (HVL.out _ B6) (by omega) (by omega) (HE.out _ B6)).mono ?_
  rintro e w7 ⟨v7, rfl, hL7, hb7⟩
  have B7 := below_step B6 (Nat.le_refl _) hb7
  have hL6' := hL6.later hb7
  clear B6 hb7 m0 mz HB6' hL6
  clear h1z
  have hlA := labels_le l k langs
  have hlB := labels_le l ((k + 1 : Nat) : Int) langs
  generalize labelsL l (k : Int) langs = LA at hL6' HZP hlA
  generalize labelsL l ((k + 1 : Nat) : Int) langs = LB at hL7 HZP hlB
  have HLB := Lib.hid (fun w' hb => hL7.later (w' := w') hb)
  obtain ⟨aA, capA, rfl, hcA⟩ := hL6'
  obtain ⟨aB, capB, rfl, -⟩ := hL7
  obtain ⟨P, hP⟩ : ∃ P, LA.length = P := ⟨_, rfl⟩
  obtain ⟨Q, hQ⟩ : ∃ Q, LB.length = Q := ⟨_, rfl⟩
  rw [hP] at hcA HZP hlA ⊢
  rw [hQ] at HLB HZP hlB ⊢
  have HP := Lib.hid hP
  have HQ := Lib.hid hQ
  have HCA := Lib.hid hcA
  have hPQ := HZP.out.2
  have HZ := Lib.hid HZP.out.1
  have mixed : Tryz.prog.follows .mixedOrders = true := by kernel_rfl
  clear hP hQ hcA HZP
  go_wp2_with fail
  go_loopw [11] (fun i wr => ∃ j : Nat, j ≤ P ∧ i = .int .i64 j ∧ Below w7.heap.size w7 wr) (fun i _ => P - (intOf i).toNat)
  case atStart => exact ⟨0, by omega, rfl, Below.refl _ _⟩
  case round =>
    obtain ⟨j, hj, rfl, hbr⟩ := hrel
    by_cases hlt : j < P
    · obtain ⟨x, hx⟩ : ∃ x, LA[j]? = some x := ⟨LA[j]'(by rw [HP.out]; exact hlt), List.getElem?_eq_getElem _⟩
      obtain ⟨y, hf, e1, e2, e3, e4, e5⟩ := HZ.out x (List.mem_of_getElem? hx)
      obtain ⟨b, off, ha, hcell⟩ := HCA.out (by omega)
      subst ha
      have hcx := hcell j x hx
      obtain ⟨yi, yx, yy, yw, yh, yr⟩ := y
      obtain ⟨xi, xx, xy, xw, xh, xr⟩ := x
      simp only at e1 e2 e3 e4 e5 hf
      subst e1 e2 e3 e4 e5
      have c0 : wr.cell? ⟨b, off + j * 6, none⟩ = some (.string xi) := cell_later hbr (hcx 0 _ rfl)
      have HCX := Lib.hid hcx
      have FD : Calls Tryz.prog 27 #[.slice aB Q capB, .string xi] wr fun e w' => e = .returned (.tuple #[.agg #[.string yi, .int .i64 yx, .int .i64 yy, .int .i64 yw, .int .i64 yh, .int .i64 yr], .bool true]) ∧ Below wr.heap.size wr w' := by
        have := find_any _ LB xi wr (HLB.out _ hbr) (by rw [HQ.out]; omega)
        rw [hf] at this
        exact this
      clear hcell hx hcx hf
      go_wp2_with fail
      refine FD.mono ?_
      rintro e w8 ⟨rfl, hb8⟩
      have B8 := below_step hbr (Nat.le_refl _) hb8
      clear FD hb8 c0
      go_wp2_with fail
      have HX9 := row_new w8 (.cells #[.string yi, .int .i64 yx, .int .i64 yy, .int .i64 yw, .int .i64 yh, .int .i64 yr] 47)
      have B9 : Below w7.heap.size w7 (w8.alloc (.cells #[.string yi, .int .i64 yx, .int .i64 yy, .int .i64 yw, .int .i64 yh, .int .i64 yr] 47)) := B8.alloc B8.size _
      generalize hw9 : w8.alloc (.cells #[.string yi, .int .i64 yx, .int .i64 yy, .int .i64 yw, .int .i64 yh, .int .i64 yr] 47) = w9
      rw [hw9] at HX9 B9
      clear hw9
      have d1 := cell_belowBy (cell_later B9 (HCX.out 1 _ rfl))
      have d2 := cell_belowBy (cell_later B9 (HCX.out 2 _ rfl))
      have d3 := cell_belowBy (cell_later B9 (HCX.out 3 _ rfl))
      have d4 := cell_belowBy (cell_later B9 (HCX.out 4 _ rfl))
      have d5 := cell_belowBy (cell_later B9 (HCX.out 5 _ rfl))
      have pz := lt_of_block HX9
      have p0 := cell_of_row w9 _ 0 _ _ _ HX9
      have p1 := cell_of_row w9 _ 1 _ _ _ HX9
      have p2 := cell_of_row w9 _ 2 _ _ _ HX9
      have p3 := cell_of_row w9 _ 3 _ _ _ HX9
      have p4 := cell_of_row w9 _ 4 _ _ _ HX9
      have p5 := cell_of_row w9 _ 5 _ _ _ HX9
      simp only [List.getElem?_toArray, List.getElem?_cons_zero, List.getElem?_cons_succ] at p0 p1 p2 p3 p4 p5
      have HX9' := Lib.hid HX9
      clear HX9
      have q1 := cell_belowBy p1
      have q2 := cell_belowBy p2
      have q3 := cell_belowBy p3
      have q4 := cell_belowBy p4
      have q5 := cell_belowBy p5
      clear p0 p1 p2 p3 p4 p5
      refine wp_region_quiet_below (by assumption) (by kernel_rfl) ?_
      repeat (quiet_step (first | (go_at_call 28; exact calls_belowBy (half_any _ _))))
      refine wpQuiet_nil ?_
      intro w10 hw'
      obtain ⟨⟨w11, hb11⟩, hw''⟩ := hw'
      subst hw''
      have B11 := below_step B9 (Nat.le_refl _) hb11
      go_wp2
      go_roundw
      case rel => exact ⟨j + 1, by omega, by go_num, B11⟩
      case measure => simp [intOf]; omega
    · obtain rfl : j = P := by omega
      have hPQz : (j : Int) ≤ Q := by omega
      have hd : decide ((j : Int) ≤ Q) = true := decide_eq_true hPQz
      go_wp2
      go_ret
      exact ⟨rfl, below_step B7 (Nat.le_refl _) hbr⟩
end Go.Proofs.YtapllmniplgajaaGreatDoor
