/- LabelNames: the walk. -/
import Derived.Test.YtapllmniplgajaaGreatDoorLawN
import Derived.Test.YtapllmniplgajaaGreatDoorLawF
import Derived.Test.YtapllmniplgajaaGreatDoorLawG
import Derived.Test.YtapllmniplgajaaGreatDoorLawH
import Derived.Deep.CutBlock
import Derived.Deep.CutRange
import Derived.BigQuiet
namespace Go.Proofs.YtapllmniplgajaaGreatDoor
open Go.RowKit Go.Sort

theorem labels_le2 (l : List ObjD) (z : Int) (langs : List ByteArray) : (labelsL l z langs).length ≤ l.length := by
  unfold labelsL
  split
  · rw [isort_length]; exact List.length_filterMap_le ..
  · exact Nat.zero_le _
set_option maxRecDepth 100000 in
set_option maxHeartbeats 4000000 in
theorem lnames_any (v vl : Value) (l : List ObjD) (raw : Nat) (langs : List ByteArray) (w : World) (hraw : raw < 256) (hv : ObjsIs w v l) (hvl : StrRow w vl langs) (he : Env w) :
    Calls Tryz.prog 9 #[.agg #[v], .int .u8 raw, vl] w fun e w' => e = .returned (.bool true) ∧ Below w.heap.size w w' := by
  have HE := Lib.hid (fun w' hb => he.later (w' := w') hb)
  have HV := Lib.hid (fun w' hb => hv.later (w' := w') hb)
  have HVL := Lib.hid (fun w' hb => hvl.later (w' := w') hb)
  obtain ⟨a, cap, rfl, hln, -⟩ := hv
  obtain ⟨al, capl, rfl, hll, -⟩ := hvl
  clear he
  obtain ⟨N, hN⟩ : ∃ N, l.length = N := ⟨_, rfl⟩
  obtain ⟨M, hM⟩ : ∃ M, langs.length = M := ⟨_, rfl⟩
  rw [hN] at HV hln ⊢
  rw [hM] at HVL hll ⊢
  have HN := Lib.hid hN
  have HM := Lib.hid hM
  clear hN hM
  obtain ⟨k, hk⟩ : ∃ k, raw % 18 = k := ⟨_, rfl⟩
  have hk17 : k < 18 := by omega
  have RW : IntKind.i64.wrap (raw : Int) = (raw : Int) := IntWalk.i64_in _ (by omega)
  have RM : (raw : Int).tmod 18 = (k : Int) := by rw [← hk]; exact (Int.ofNat_tmod raw 18).symm
  clear hk
  go_enter Tryz.func9, Tryz.ntmps9
  go_wp2_with fail
  have HB1 := row_new w (.cells #[.slice a N cap] 35)
  have B1 : Below w.heap.size w (w.alloc (.cells #[.slice a N cap] 35)) := (Below.refl _ _).alloc (Nat.le_refl _) _
  refine (lhead_any _ (HE.out _ B1)).mono ?_
  rintro e w2 ⟨rfl, hb2⟩
  have HB2 := row_later hb2 HB1
  have HB2h := Lib.hid HB2
  have B2 := below_step B1 (Nat.le_refl _) hb2
  clear HB1 B1 hb2
  obtain ⟨Bm, hBm⟩ : ∃ Bm, w.heap.size = Bm := ⟨_, rfl⟩
  rw [hBm] at HB2 HB2h ⊢
  have HBM := Lib.hid hBm
  clear hBm
  have mz := lt_of_block HB2
  have m0 := cell_of_row w2 _ 0 _ _ _ HB2
  simp only [List.getElem?_toArray, List.getElem?_cons_zero] at m0
  have HB2' := Lib.hid HB2
  clear HB2
  go_wp2_with fail
  refine (few13_any _ l 30 (by decide) w2 (HV.out _ B2)).mono ?_
  rintro e w3 ⟨⟨r, rfl, hr⟩, hb3⟩
  have HB3 := row_later hb3 HB2h.out
  have HB3h := Lib.hid HB3
  have B3 := below_step B2 (Nat.le_refl _) hb3
  clear B2 hb3 HB2h m0 mz HB2'
  cases r
  · clear hr
    have mz := lt_of_block HB3
    have m0 := cell_of_row w3 _ 0 _ _ _ HB3
    simp only [List.getElem?_toArray, List.getElem?_cons_zero] at m0
    have HB3' := Lib.hid HB3
    clear HB3
    go_wp2
    go_ret
    exact ⟨rfl, B3⟩
  have h30 : l.length ≤ 30 := hr rfl
  clear hr HB3
  go_wp2_with fail
  refine (langs_any _ langs w3 (HVL.out _ B3)).mono ?_
  rintro e w4 ⟨⟨r, rfl, hr⟩, hb4⟩
  have HB4 := row_later hb4 HB3h.out
  have HB4h := Lib.hid HB4
  have B4 := below_step B3 (Nat.le_refl _) hb4
  clear B3 hb4 HB3h
  have mz := lt_of_block HB4
  have m0 := cell_of_row w4 _ 0 _ _ _ HB4
  simp only [List.getElem?_toArray, List.getElem?_cons_zero] at m0
  have HB4' := Lib.hid HB4
  clear HB4
  cases r
  · clear hr
    go_wp2
    go_ret
    exact ⟨rfl, B4⟩
  have h8 : langs.length ≤ 8 := hr rfl
  clear hr
  go_wp2_with fail
  refine (validM_any _ l w4 (HV.out _ B4)).mono ?_
  rintro e w5 ⟨rfl, hb5⟩
  have HB5 := row_later hb5 HB4h.out
  have HB5h := Lib.hid HB5
  have B5 := below_step B4 (Nat.le_refl _) hb5
  clear B4 hb5 HB4h m0 mz HB4'
  have mz := lt_of_block HB5
  have m0 := cell_of_row w5 _ 0 _ _ _ HB5
  simp only [List.getElem?_toArray, List.getElem?_cons_zero] at m0
  have HB5' := Lib.hid HB5
  clear HB5
  cases hok : mapOK l
  · clear hok
    go_wp2
    go_ret
    exact ⟨rfl, B5⟩
  have hz17 : k ≤ 17 := by omega
  have HCN := Lib.hid (labels_count hok k hz17 langs)
  have HFO := Lib.hid (fun j o ho => find_obj hok k hz17 langs (k := j) (o := o) ho)
  have HLI := Lib.hid (fun j o ho => lab1_iff hok (k := j) (o := o) ho k langs)
  have HLT := Lib.hid (fun i x y hx hy => labels_lt hok k hz17 langs i x y hx hy)
  have HLO := Lib.hid (fun x hx => labels_obj hok k hz17 langs x hx)
  have SD := Lib.hid (fun (v vr vt : Value) (o : ObjD) w' h1 h2 h3 h4 h5 => rsound_any v vr vt l o w' h1 h2 h3 hok h4 h5)
  have hlA := labels_le2 l k langs
  have HOK := Lib.hid (fun (o : ObjD) (h : o ∈ l) => obj_kind (map_obj hok h))
  clear hok
  go_wp2_with fail
  refine (labels_any _ _ l k langs w5 (HV.out _ B5) (HVL.out _ B5) (by omega) (by omega) (HE.out _ B5)).mono ?_
  rintro e w6 ⟨v6, rfl, hL6, hb6⟩
  have HB6 := Lib.hid (row_later hb6 HB5h.out)
  have B6 := below_step B5 (Nat.le_refl _) hb6
  clear B5 hb6 HB5h m0 mz HB5'
  have BD := Lib.hid (fun (vt vl : Value) tags w' h1 h2 => best_any vt vl tags langs w' (by omega) h1 h2)
  generalize hLA : labelsL l (k : Int) langs = LA at hL6 HCN HFO HLT HLO hlA
  have HLA6 := Lib.hid (fun w' hb => hL6.later (w' := w') hb)
  obtain ⟨aA, capA, rfl, hcA⟩ := hL6
  obtain ⟨P, hP⟩ : ∃ P, LA.length = P := ⟨_, rfl⟩
  rw [hP] at hcA HLA6 hlA HCN ⊢
  have HP := Lib.hid hP
  have HCA := Lib.hid hcA
  have mixed : Tryz.prog.follows .mixedOrders = true := by kernel_rfl
  clear hP hcA hLA
  go_wp2_with fail
  go_loopw [10, 11] (fun v10 i wr => ∃ j : Nat, j ≤ N ∧ i = .int .i64 j ∧ v10 = .int .i64 ((l.take j).filterMap (lab1 l k langs)).length ∧ Below w6.heap.size w6 wr) (fun _ i _ => N - (intOf i).toNat)
  case atStart => exact ⟨0, by omega, rfl, rfl, Below.refl _ _⟩
  case round =>
    obtain ⟨j, hj, rfl, rfl, hbr⟩ := hrel
    have BR := below_step B6 (Nat.le_refl _) hbr
    have HBr := row_later hbr HB6.out
    by_cases hlt : j < N
    · obtain ⟨o, ho⟩ : ∃ o, l[j]? = some o := ⟨l[j]'(by rw [HN.out]; exact hlt), List.getElem?_eq_getElem _⟩
      have mz := lt_of_block HBr
      have m0 := cell_of_row wr _ 0 _ _ _ HBr
      simp only [List.getElem?_toArray, List.getElem?_cons_zero] at m0
      have HBr' := Lib.hid HBr
      clear HBr
      have HO := Lib.hid ho
      obtain ⟨ao, capo, hva, -, hco⟩ := HV.out _ BR
      obtain ⟨b, off, ha, hcell⟩ := hco (by rw [HN.out]; omega)
      have hab : a = some ⟨b, off, none⟩ := by injection hva with e1 _ _; rw [e1, ha]
      subst hab
      obtain ⟨vr, vt, c0, c1, c2, c3, c4, c5, hr, ht, hz⟩ := hcell j o ho
      have HR := Lib.hid (fun w' hb => hr.later (w' := w') hb)
      have HT := Lib.hid (fun w' hb => ht.later (w' := w') hb)
      obtain ⟨ar, capr, evr, _⟩ := hr
      obtain ⟨at1, capt, evt, _⟩ := ht
      subst evr evt
      clear hva hco ha hcell ho ao capo
      go_wp2_with fail
      have BA : Below wr.heap.size wr (wr.alloc (.cells #[.string o.id, .int .i64 o.kind, .int .i64 o.x, .int .i64 o.y, .slice ar o.refs.length capr, .slice at1 o.tags.length capt] 59)) := (Below.refl _ wr).alloc (Nat.le_refl _) _
      have HX := row_new wr (.cells #[.string o.id, .int .i64 o.kind, .int .i64 o.x, .int .i64 o.y, .slice ar o.refs.length capr, .slice at1 o.tags.length capt] 59)
      generalize hwa : wr.alloc (.cells #[.string o.id, .int .i64 o.kind, .int .i64 o.x, .int .i64 o.y, .slice ar o.refs.length capr, .slice at1 o.tags.length capt] 59) = wa
      rw [hwa] at BA HX
      clear hwa c0 c1 c2 c3 c4 c5
      obtain ⟨Bx, hBx⟩ : ∃ Bx, wr.heap.size = Bx := ⟨_, rfl⟩
      rw [hBx] at HX ⊢
      have HBx := Lib.hid hBx
      clear hBx
      have BRA := below_step BR (Nat.le_refl _) BA
      refine (BD.out _ _ o.tags _ (HT.out _ BA) (HVL.out _ BRA)).mono ?_
      rintro e w8 ⟨rfl, hb8⟩
      have B8 := below_step BA (Nat.le_refl _) hb8
      have BW8 := below_step BR (Nat.le_refl _) B8
      have B68 := below_step hbr (Nat.le_refl _) B8
      have HX8 := row_later hb8 HX
      have HX8h := Lib.hid HX8
      have HB8 := row_later B68 HB6.out
      have HB8h := Lib.hid HB8
      obtain ⟨wt, hwt⟩ : ∃ z, z = wantB l k langs o := ⟨_, rfl⟩
      have HWT := Lib.hid hwt
      obtain ⟨best, hbest⟩ : ∃ z, z = (bestB o.tags langs).1 := ⟨_, rfl⟩
      rw [← hbest]
      have HBEST := Lib.hid hbest
      clear hwt hbest hb8 HX BA BRA m0 mz hz HBr'
      go_upto_region 12 with fail
      go_cut [15] from 41 to 117 (fun v15 wx => v15 = .bool wt ∧ Below w8.heap.size w8 wx)
      case first =>
        have xz := lt_of_block HX8
        have x0 := cell_of_row w8 _ 0 _ _ _ HX8
        have x1 := cell_of_row w8 _ 1 _ _ _ HX8
        have x2 := cell_of_row w8 _ 2 _ _ _ HX8
        have x3 := cell_of_row w8 _ 3 _ _ _ HX8
        have x4 := cell_of_row w8 _ 4 _ _ _ HX8
        have x5 := cell_of_row w8 _ 5 _ _ _ HX8
        simp only [List.getElem?_toArray, List.getElem?_cons_zero, List.getElem?_cons_succ] at x0 x1 x2 x3 x4 x5
        have HX8' := Lib.hid HX8
        clear HX8
        have mz := lt_of_block HB8
        have m0 := cell_of_row w8 _ 0 _ _ _ HB8
        simp only [List.getElem?_toArray, List.getElem?_cons_zero] at m0
        have HB8' := Lib.hid HB8
        clear HB8
        by_cases k3 : o.kind ≤ 3
        case neg =>
          have HW := Lib.hid (show wt = false by rw [HWT.out]; unfold wantB; rw [decide_eq_false k3]; rfl)
          have k3d : decide (o.kind ≤ 3) = false := decide_eq_false k3
          go_wp2
          go_meet
          case rel => exact ⟨by rw [HW.out], Below.refl _ _⟩
        have k3d : decide (o.kind ≤ 3) = true := decide_eq_true k3
        go_wp2_with fail
        refine (SD.out _ _ _ o _ (HV.out _ BW8) (HR.out _ B8) (HT.out _ B8) (by omega) (by omega)).mono ?_
        rintro e w9 ⟨rfl, hb9⟩
        cases hs : soundB l o
        · have HW := Lib.hid (show wt = false by rw [HWT.out]; unfold wantB; rw [hs]; simp)
          clear hs
          go_wp2
          go_meet
          case rel => exact ⟨by rw [HW.out], hb9⟩
        have HX9 := row_later hb9 HX8h.out
        clear x0 x1 x2 x3 x4 x5 xz HX8' m0 mz HB8'
        have xz := lt_of_block HX9
        have x0 := cell_of_row w9 _ 0 _ _ _ HX9
        have x1 := cell_of_row w9 _ 1 _ _ _ HX9
        have x2 := cell_of_row w9 _ 2 _ _ _ HX9
        have x3 := cell_of_row w9 _ 3 _ _ _ HX9
        have x4 := cell_of_row w9 _ 4 _ _ _ HX9
        have x5 := cell_of_row w9 _ 5 _ _ _ HX9
        simp only [List.getElem?_toArray, List.getElem?_cons_zero, List.getElem?_cons_succ] at x0 x1 x2 x3 x4 x5
        have HX9' := Lib.hid HX9
        clear HX9
        go_wp2_with fail
        refine (rlevel_any o.id o.kind o.x o.y _ _ o.refs o.tags _ (HR.out _ (below_step B8 (Nat.le_refl _) hb9)) (HT.out _ (below_step B8 (Nat.le_refl _) hb9))).mono ?_
        rintro e w10 ⟨rfl, hb10⟩
        have B10 := below_step hb9 (Nat.le_refl _) hb10
        obtain ⟨lv, hlv⟩ : ∃ z, z = levelO o.tags := ⟨_, rfl⟩
        rw [← hlv]
        by_cases hle : lv ≤ (k : Int)
        case neg =>
          have HW := Lib.hid (show wt = false by rw [HWT.out]; unfold wantB; rw [← hlv, decide_eq_false hle]; simp)
          have hled : decide (lv ≤ (k : Int)) = false := decide_eq_false hle
          clear hlv hs
          go_wp2
          go_meet
          case rel => exact ⟨by rw [HW.out], B10⟩
        have hled : decide (lv ≤ (k : Int)) = true := decide_eq_true hle
        by_cases hbz : best.size = 0
        · have HW := Lib.hid (show wt = false by rw [HWT.out]; unfold wantB; rw [← HBEST.out, hbz]; simp)
          have hb0 : best = ⟨#[]⟩ := by
            obtain ⟨⟨bl⟩⟩ := best
            have : bl = [] := List.length_eq_zero_iff.1 (by simpa [ByteArray.size] using hbz)
            rw [this]
          subst hb0
          clear hlv hs hbz
          go_wp2
          go_meet
          case rel => exact ⟨by rw [HW.out], B10⟩
        · have HW := Lib.hid (show wt = true by rw [HWT.out]; unfold wantB; rw [hs, ← hlv, ← HBEST.out, decide_eq_true k3, decide_eq_true hle, decide_eq_true hbz]; rfl)
          have ew1 : best.toList.isEmpty = false := str_not_empty (by omega)
          have ew0 : ¬ best.toList = [] := by
            intro e; rw [e] at ew1; simp at ew1
          clear hlv hs
          go_wp2
          go_meet
          case rel => exact ⟨by rw [HW.out], B10⟩
      case rest =>
        obtain ⟨rfl, hbc⟩ := hcut
        have HXc := row_later hbc HX8h.out
        have HXch := Lib.hid HXc
        have B6c := below_step B68 (Nat.le_refl _) hbc
        have xz := lt_of_block HXc
        have x0 := cell_of_row wc _ 0 _ _ _ HXc
        have x1 := cell_of_row wc _ 1 _ _ _ HXc
        have x2 := cell_of_row wc _ 2 _ _ _ HXc
        have x3 := cell_of_row wc _ 3 _ _ _ HXc
        have x4 := cell_of_row wc _ 4 _ _ _ HXc
        have x5 := cell_of_row wc _ 5 _ _ _ HXc
        simp only [List.getElem?_toArray, List.getElem?_cons_zero, List.getElem?_cons_succ] at x0 x1 x2 x3 x4 x5
        have HXc' := Lib.hid HXc
        clear HXc
        obtain ⟨fl, hfl⟩ : ∃ z, z = findL o.id LA := ⟨_, rfl⟩
        have hfl2 : fl = lab1 l k langs o := by rw [hfl]; exact HFO.out j o HO.out
        have FD : Calls Tryz.prog 27 #[.slice aA P capA, .string o.id] wc (FindPost fl wc) := by
          rw [hfl]; exact find_any _ LA o.id wc (HLA6.out _ B6c) (by rw [HP.out]; omega)
        have HFL := Lib.hid hfl2
        clear hfl hfl2
        go_wp2_with fail
        refine FD.mono ?_
        rintro e w9 ⟨rfl, hb9⟩
        have B9 := below_step B6c (Nat.le_refl _) hb9
        clear FD x0 x1 x2 x3 x4 x5 xz HXc'
        cases fl with
        | none =>
          have hw0 : wt = false := by
            rw [HWT.out, ← HLI.out j o HO.out, ← HFL.out]; rfl
          subst hw0
          have HG := Lib.hid (show ((l.take (j + 1)).filterMap (lab1 l k langs)).length = ((l.take j).filterMap (lab1 l k langs)).length by
            rw [labs_take l j o HO.out, ← HFL.out]; simp)
          simp only [Option.getD_none, Option.isSome_none]
          go_wp2_with fail
          go_quiet (fail)
          go_wp2
          go_roundw
          case rel => exact ⟨j + 1, by omega, by go_num, by rw [HG.out], (B9.alloc B9.size _).drewN'⟩
          case measure => simp [intOf]; omega
        | some x =>
          have hw1 : wt = true := by
            rw [HWT.out, ← HLI.out j o HO.out, ← HFL.out]; rfl
          subst hw1
          have HG := Lib.hid (show ((l.take (j + 1)).filterMap (lab1 l k langs)).length = ((l.take j).filterMap (lab1 l k langs)).length + 1 by
            rw [labs_take l j o HO.out, ← HFL.out]; simp)
          have hlen := List.length_filterMap_le (lab1 l k langs) (l.take j)
          rw [List.length_take] at hlen
          obtain ⟨p, -, h2, h3, hx⟩ := lab1_some HFL.out.symm
          have hbs : best.size ≤ 200 := by rw [HBEST.out]; exact best_size o.tags langs
          have hkb := HOK.out o (List.mem_of_getElem? HO.out)
          rw [← HBEST.out] at hx
          clear HFL h2 h3
          obtain ⟨px, hpx⟩ : ∃ z, z = pxZ k p.1 := ⟨_, rfl⟩
          obtain ⟨py, hpy⟩ : ∃ z, z = pxZ k p.2 := ⟨_, rfl⟩
          obtain ⟨lv, hlv⟩ : ∃ z, z = levelO o.tags := ⟨_, rfl⟩
          obtain ⟨ok, hokd⟩ : ∃ z, z = o.kind := ⟨_, rfl⟩
          have hlvb : 0 ≤ lv ∧ lv ≤ 17 := by rw [hlv]; exact lvlS_bd _
          rw [← hpx, ← hpy, ← hlv, ← hokd] at hx
          subst hx
          rw [← hokd] at hkb
          have LVC := Lib.hid (fun w' (hb : Below w8.heap.size w8 w') => by
            have := rlevel_any o.id o.kind o.x o.y _ _ o.refs o.tags w' (HR.out _ (below_step B8 (Nat.le_refl _) hb)) (HT.out _ (below_step B8 (Nat.le_refl _) hb))
            rw [← hlv, ← hokd] at this
            exact this)
          have HXk := HXch.out
          rw [← hokd] at HXk
          have W1 : IntKind.i64.wrap (6 * (best.size : Int)) = 6 * (best.size : Int) := IntWalk.i64_in _ (by omega)
          have W2 : IntKind.i64.wrap (10 * lv) = 10 * lv := IntWalk.i64_in _ (by omega)
          have W3 : IntKind.i64.wrap (10 * lv + ok) = 10 * lv + ok := IntWalk.i64_in _ (by omega)
          obtain ⟨cnt, hcnt⟩ : ∃ z, z = ((l.take j).filterMap (lab1 l k langs)).length := ⟨_, rfl⟩
          rw [← hcnt] at HG hlen ⊢
          have W4 : IntKind.i64.wrap ((cnt : Int) + 1) = (cnt : Int) + 1 := IntWalk.i64_in _ (by omega)
          clear hpx hpy hlv hokd hcnt
          simp only [Option.getD_some, Option.isSome_some]
          go_wp2_with fail
          have HL10 := row_new w9 (.cells #[.string o.id, .int .i64 px, .int .i64 py, .int .i64 (6 * (best.size : Int)), .int .i64 12, .int .i64 (10 * lv + ok)] 47)
          have BL : Below w9.heap.size w9 (w9.alloc (.cells #[.string o.id, .int .i64 px, .int .i64 py, .int .i64 (6 * (best.size : Int)), .int .i64 12, .int .i64 (10 * lv + ok)] 47)) := (Below.refl _ _).alloc (Nat.le_refl _) _
          generalize hw10 : w9.alloc (.cells #[.string o.id, .int .i64 px, .int .i64 py, .int .i64 (6 * (best.size : Int)), .int .i64 12, .int .i64 (10 * lv + ok)] 47) = w10
          rw [hw10] at HL10 BL
          clear hw10
          have B8c := below_step hbc (Nat.le_refl _) hb9
          have B810 := below_step B8c (Nat.le_refl _) BL
          have B610 := below_step B9 (Nat.le_refl _) BL
          have HX10 := row_later (below_step hb9 (Nat.le_refl _) BL) HXk
          have gz := lt_of_block HL10
          have g0 := cell_of_row w10 _ 0 _ _ _ HL10
          have g1 := cell_of_row w10 _ 1 _ _ _ HL10
          have g2 := cell_of_row w10 _ 2 _ _ _ HL10
          have g3 := cell_of_row w10 _ 3 _ _ _ HL10
          have g4 := cell_of_row w10 _ 4 _ _ _ HL10
          have g5 := cell_of_row w10 _ 5 _ _ _ HL10
          simp only [List.getElem?_toArray, List.getElem?_cons_zero, List.getElem?_cons_succ] at g0 g1 g2 g3 g4 g5
          have HL10' := Lib.hid HL10
          clear HL10
          have xz := lt_of_block HX10
          have x0 := cell_of_row w10 _ 0 _ _ _ HX10
          have x1 := cell_of_row w10 _ 1 _ _ _ HX10
          have x2 := cell_of_row w10 _ 2 _ _ _ HX10
          have x3 := cell_of_row w10 _ 3 _ _ _ HX10
          have x4 := cell_of_row w10 _ 4 _ _ _ HX10
          have x5 := cell_of_row w10 _ 5 _ _ _ HX10
          simp only [List.getElem?_toArray, List.getElem?_cons_zero, List.getElem?_cons_succ] at x0 x1 x2 x3 x4 x5
          have HX10' := Lib.hid HX10
          clear HX10
          have q2 := cell_belowBy g3
          have q3 := cell_belowBy g4
          have q4 := cell_belowBy g5
          have r0 := cell_belowBy x0
          have r1 := cell_belowBy x1
          have r2 := cell_belowBy x2
          have r3 := cell_belowBy x3
          have r4 := cell_belowBy x4
          have r5 := cell_belowBy x5
          clear g0 g1 g2 g3 g4 g5 x0 x1 x2 x3 x4 x5
          refine wp_region_quiet_below (by assumption) (by kernel_rfl) ?_
          repeat (go_big_quiet_step (first | (go_at_call 31; exact calls_belowBy (LVC.out _ (below_step B810 (Nat.le_refl _) (BelowBy.below _))))))
          refine wpQuiet_nil ?_
          intro w11 hw'
          obtain ⟨⟨w12, hb12⟩, hw''⟩ := hw'
          subst hw''
          have B12 := below_step B610 (Nat.le_refl _) hb12
          go_wp2
          go_roundw
          case rel => exact ⟨j + 1, by omega, by go_num, by rw [HG.out]; rfl, B12⟩
          case measure => simp [intOf]; omega
    · obtain rfl : j = N := by omega
      have HV10 : ((l.take j).filterMap (lab1 l k langs)).length = P := by
        rw [List.take_of_length_le (by rw [HN.out]; exact Nat.le_refl _), HCN.out]
      rw [HV10]
      clear HV10
      have HBRh := Lib.hid HBr
      have mz := lt_of_block HBr
      have m0 := cell_of_row wr _ 0 _ _ _ HBr
      simp only [List.getElem?_toArray, List.getElem?_cons_zero] at m0
      have HBr' := Lib.hid HBr
      clear HBr
      go_wp2_with fail
      clear m0 mz HBr'
      obtain ⟨wo, rfl⟩ : ∃ wo : World, wo = wr := ⟨_, rfl⟩
      go_loopw [18] (fun i wr => ∃ q : Nat, q ≤ P ∧ i = .int .i64 q ∧ Below w6.heap.size w6 wr) (fun i _ => P - (intOf i).toNat)
      case atStart => exact ⟨0, by omega, rfl, hbr⟩
      case round =>
        obtain ⟨q, hq, rfl, hbq⟩ := hrel
        have BQ := below_step B6 (Nat.le_refl _) hbq
        have HBq := row_later hbq HB6.out
        by_cases hqP : q < P
        · obtain ⟨x, hx⟩ : ∃ x, LA[q]? = some x := ⟨LA[q]'(by rw [HP.out]; exact hqP), List.getElem?_eq_getElem _⟩
          obtain ⟨b, off, ha, hcell⟩ := HCA.out (by omega)
          subst ha
          have hcx := hcell q x hx
          have HF := Lib.hid (HLO.out x (List.mem_of_getElem? hx))
          obtain ⟨ix, hix⟩ : ∃ z, z = idxO x.id l := ⟨_, rfl⟩
          rw [← hix] at HF
          have hix0 := HF.out
          have hixd : decide (ix < 0) = false := decide_eq_false (by omega)
          have FD := Lib.hid (fun w' (hb : Below w6.heap.size w6 w') => by
            have := rfind12_any _ l x.id w' (HV.out _ (below_step B6 (Nat.le_refl _) hb))
            rw [← hix] at this
            exact this)
          have mz := lt_of_block HBq
          have m0 := cell_of_row wr _ 0 _ _ _ HBq
          simp only [List.getElem?_toArray, List.getElem?_cons_zero] at m0
          have HBq' := Lib.hid HBq
          clear HBq
          have qm := cell_belowBy m0
          have d0 := cell_belowBy (cell_later hbq (hcx 0 _ rfl))
          have d5 := cell_belowBy (cell_later hbq (hcx 5 _ rfl))
          have d0' : ∀ p : BelowBy wr, p.at'.cell? ⟨b, off + q * 6, none⟩ = some (.string x.id) := d0
          clear d0 m0 hix
          cases q with
          | zero =>
            simp only [Nat.zero_mul, Nat.add_zero] at d0'
            go_wp2_with fail
            refine wp_region_quiet_below (by assumption) (by kernel_rfl) ?_
            repeat (go_big_quiet_step (first | (go_at_call 32; exact calls_belowBy (FD.out _ (below_step hbq (Nat.le_refl _) (BelowBy.below _))))))
            refine wpQuiet_nil ?_
            intro w11 hw'
            obtain ⟨⟨w12, hb12⟩, hw''⟩ := hw'
            subst hw''
            have B12 := below_step hbq (Nat.le_refl _) hb12
            go_wp2
            go_roundw
            case rel => exact ⟨0 + 1, by omega, by go_num, B12⟩
            case measure => simp [intOf]; omega
          | succ p =>
            obtain ⟨y, hy⟩ : ∃ y, LA[p]? = some y := ⟨LA[p]'(by rw [HP.out]; omega), List.getElem?_eq_getElem _⟩
            have hcy := hcell p y hy
            have e0 := cell_belowBy (cell_later hbq (hcy 0 _ rfl))
            have e0' : ∀ p' : BelowBy wr, p'.at'.cell? ⟨b, off + p * 6, none⟩ = some (.string y.id) := e0
            have e5 := cell_belowBy (cell_later hbq (hcy 5 _ rfl))
            have hlt := HLT.out p y x hy hx
            rw [cfL_lt] at hlt
            obtain ⟨yr, hyr⟩ : ∃ z, z = y.rank := ⟨_, rfl⟩
            obtain ⟨xr, hxr⟩ : ∃ z, z = x.rank := ⟨_, rfl⟩
            rw [← hyr, ← hxr] at hlt
            rw [← hyr] at e5
            rw [← hxr] at d5
            have J1 : IntKind.i64.wrap (((p + 1 : Nat) : Int) - 1) = (p : Int) := by rw [IntWalk.i64_in _ (by omega)]; omega
            have J2 : ((p + 1 : Nat) : Int) - 1 = (p : Int) := by omega
            clear e0 hyr hxr hcy hcx
            have lq : (p : Int) < P := by omega
            have lq1 : ((p + 1 : Nat) : Int) < P := by omega
            by_cases hr : yr < xr
            · have g1 : decide (xr < yr) = false := decide_eq_false (by omega)
              have g2 : (yr == xr) = false := by rw [beq_eq_false_iff_ne]; omega
              have g3 : ¬ yr = xr := by omega
              clear hlt
              go_wp2_with fail
              refine wp_region_quiet_below (by assumption) (by kernel_rfl) ?_
              repeat (go_big_quiet_step (first | (go_at_call 32; exact calls_belowBy (FD.out _ (below_step hbq (Nat.le_refl _) (BelowBy.below _))))))
              refine wpQuiet_nil ?_
              intro w11 hw'
              obtain ⟨⟨w12, hb12⟩, hw''⟩ := hw'
              subst hw''
              have B12 := below_step hbq (Nat.le_refl _) hb12
              go_wp2
              go_roundw
              case rel => exact ⟨p + 1 + 1, by omega, by go_num, B12⟩
              case measure => simp [intOf]; omega
            · have hr2 : yr = xr := by
                simp only [Bool.or_eq_true, Bool.and_eq_true, decide_eq_true_eq] at hlt
                rcases hlt with h | h
                · exact absurd h hr
                · exact h.1
              have g4 : Op.bytesLess y.id.toList x.id.toList = true := by
                simp only [Bool.or_eq_true, Bool.and_eq_true, decide_eq_true_eq] at hlt
                rcases hlt with h | h
                · exact absurd h hr
                · exact h.2
              subst hr2
              have g1 : decide (yr < yr) = false := decide_eq_false (by omega)
              clear hlt hr
              go_wp2_with fail
              refine wp_region_quiet_below (by assumption) (by kernel_rfl) ?_
              repeat (go_big_quiet_step (first | (go_at_call 32; exact calls_belowBy (FD.out _ (below_step hbq (Nat.le_refl _) (BelowBy.below _))))))
              refine wpQuiet_nil ?_
              intro w11 hw'
              obtain ⟨⟨w12, hb12⟩, hw''⟩ := hw'
              subst hw''
              have B12 := below_step hbq (Nat.le_refl _) hb12
              go_wp2
              go_roundw
              case rel => exact ⟨p + 1 + 1, by omega, by go_num, B12⟩
              case measure => simp [intOf]; omega
        · obtain rfl : q = P := by omega
          go_wp2
          go_ret
          exact ⟨rfl, BQ⟩
end Go.Proofs.YtapllmniplgajaaGreatDoor