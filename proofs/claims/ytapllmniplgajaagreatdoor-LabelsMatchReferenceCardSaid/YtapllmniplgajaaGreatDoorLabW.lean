/- Contract of label.Labels: the walk. -/
import Derived.Test.YtapllmniplgajaaGreatDoorLabs
namespace Go.Proofs.YtapllmniplgajaaGreatDoor
open Go.RowKit Go.Sort

def LabsPost (r : List LabD) (w : World) (e : Ending) (w' : World) : Prop := ∃ v', e = .returned v' ∧ LabRow w' v' r ∧ Below w.heap.size w w'

theorem cell_upon {w : World} {a : Addr} {v : Value} {o : Obj} (h : w.cell? a = some v) : (w.alloc o).cell? a = some v := cell_later ((Below.refl _ w).alloc (Nat.le_refl _) o) h
theorem pixel0 (px py : Int) (k : Nat) (hk : k ≤ 17) (hn : nearB px py = true) (w : World) :
    Calls Tryz.prog 44 #[.agg #[.int .i64 k, .int .i64 0, .int .i64 0], .agg #[.int .i64 px, .int .i64 py]] w fun e w' => e = .returned (.tuple #[.agg #[.int .i64 (pxZ k px), .int .i64 (pxZ k py)], .int .i64 0]) ∧ Below w.heap.size w w' := by
  have hp : (0 : Int) < 2 ^ k := Int.pow_pos (by omega)
  have := pixel_ok 0 0 px py k hk ⟨by omega, hp⟩ ⟨by omega, hp⟩ hn w
  simp only [Int.zero_mul, Int.sub_zero] at this
  exact this

theorem labels_bad (v vl : Value) (l : List ObjD) (z : Int) (langs : List ByteArray) (w : World) (hv : ObjsIs w v l) (hz : mapOK l = false ∨ z < 0 ∨ 17 < z) :
    Calls Tryz.prog 18 #[.agg #[v], .int .i64 z, vl] w (LabsPost (labelsL l z langs) w) := by
  have VD := Lib.hid (fun w' hb => validM_any v l w' (hv.later (w' := w') hb))
  obtain ⟨a, cap, rfl, _⟩ := hv
  have HR := Lib.hid (show labelsL l z langs = [] by
    unfold labelsL
    rcases hz with h | h | h
    · rw [h]; rfl
    · rw [decide_eq_false (by omega), Bool.and_false]; rfl
    · rw [decide_eq_false (by omega), Bool.and_false]; rfl)
  generalize labelsL l z langs = r at HR ⊢
  go_enter Tryz.func18, Tryz.ntmps18
  go_wp2_with fail
  have B1 : Below w.heap.size w (w.alloc (.cells #[.slice a l.length cap] 35)) := (Below.refl _ w).alloc (Nat.le_refl _) _
  refine (VD.out _ B1).mono ?_
  rintro e w2 ⟨rfl, hb2⟩
  have B2 := below_step B1 (Nat.le_refl _) hb2
  clear B1 hb2 VD
  cases hok : mapOK l
  · clear hz
    go_wp2
    go_ret
    exact ⟨_, rfl, by rw [HR.out]; exact row_nil _ _ _, B2⟩
  · rw [hok] at hz
    have hz2 : z < 0 ∨ 17 < z := by
      rcases hz with h | h
      · cases h
      · exact h
    clear hz hok
    rcases hz2 with h | h
    · go_wp2
      go_ret
      exact ⟨_, rfl, by rw [HR.out]; exact row_nil _ _ _, B2⟩
    · have h0 : ¬ z < 0 := by omega
      go_wp2
      go_ret
      exact ⟨_, rfl, by rw [HR.out]; exact row_nil _ _ _, B2⟩

set_option maxRecDepth 100000 in
set_option maxHeartbeats 4000000 in
theorem labels_good (v vl : Value) (l : List ObjD) (k : Nat) (langs : List ByteArray) (w : World) (hv : ObjsIs w v l) (hvl : StrRow w vl langs) (hl : l.length ≤ 40) (hla : langs.length ≤ 1000000) (he : Env w) (hk : k ≤ 17) (hok : mapOK l = true) :
    Calls Tryz.prog 18 #[.agg #[v], .int .i64 k, vl] w (LabsPost (labelsL l k langs) w) := by
  have VD := Lib.hid (fun w' hb => by have := validM_any v l w' (hv.later (w' := w') hb); rw [hok] at this; exact this)
  have HV := Lib.hid hv
  have HE := Lib.hid (fun w' hb => he.later (w' := w') hb)
  have BS := Lib.hid (fun (o : ObjD) (vt : Value) w' hb ht => best_any vt vl o.tags langs w' hla ht (hvl.later (w' := w') hb))
  have OKO := Lib.hid (fun (o : ObjD) (ho : o ∈ l) => obj_kind (map_obj hok ho))
  have HR := Lib.hid (show labelsL l k langs = isort (ltOf cfL) (l.filterMap (lab1 l k langs)) by
    unfold labelsL; rw [hok, decide_eq_true (by omega)]; rfl)
  have SD := Lib.hid (fun (vv : Value) (ls : List LabD) (w : World) h1 h2 => sorted_any vv ls w h1 h2)
  have hfl : (l.filterMap (lab1 l k langs)).length ≤ 40 := by have := List.length_filterMap_le (lab1 l k langs) l; omega
  generalize labelsL l k langs = r at HR ⊢
  obtain ⟨a, cap, rfl, hn, hc⟩ := hv
  obtain ⟨avl, cvl, rfl, _⟩ := hvl
  obtain ⟨i0, hi, hi0, hi1, hi2⟩ := info_parts infoLabel
  obtain ⟨N, hN⟩ : ∃ N, l.length = N := ⟨_, rfl⟩
  rw [hN] at hc hl hn VD HV ⊢
  have HN := Lib.hid hN
  have HC := Lib.hid hc
  have hkz : ¬ (k : Int) < 0 := by omega
  have hkz2 : ¬ (17 : Int) < (k : Int) := by omega
  clear hN hc hok he
  go_enter Tryz.func18, Tryz.ntmps18
  go_wp2_with fail
  have B1 : Below w.heap.size w (w.alloc (.cells #[.slice a N cap] 35)) := (Below.refl _ w).alloc (Nat.le_refl _) _
  have HM1 := row_new w (.cells #[.slice a N cap] 35)
  refine (VD.out _ B1).mono ?_
  rintro e w2 ⟨rfl, hb2⟩
  have B2 := below_step B1 (Nat.le_refl _) hb2
  have HM2 := row_later hb2 HM1
  have HMh := Lib.hid HM2
  clear B1 hb2 VD HM1
  have mz := lt_of_block HM2
  have m0 := cell_of_row w2 _ 0 _ _ _ HM2
  simp only [List.getElem?_toArray, List.getElem?_cons_zero] at m0
  have HM2' := Lib.hid HM2
  clear HM2
  go_wp2
  clear m0 mz HM2'
  go_loopw [7, 30] (fun v7 i wr => ∃ q : Nat, q ≤ N ∧ i = .int .i64 q ∧ wr.ownsRow w2.heap.size 47 6 v7 ((l.take q).filterMap (lab1 l k langs)).length (((l.take q).filterMap (lab1 l k langs)).flatMap encL) ∧ Below w2.heap.size w2 wr) (fun _ i _ => N - (intOf i).toNat)
  case atStart => exact ⟨0, by omega, rfl, ⟨rfl, Or.inl ⟨rfl, rfl⟩⟩, Below.refl _ _⟩
  case round =>
    obtain ⟨q, hq, rfl, hown, hbr⟩ := hrel
    have BR := below_step B2 (Nat.le_refl _) hbr
    by_cases hlt : q < N
    · obtain ⟨o, ho⟩ : ∃ o, l[q]? = some o := ⟨l[q]'(by rw [HN.out]; exact hlt), List.getElem?_eq_getElem _⟩
      obtain ⟨b, off, ha, hcell⟩ := HC.out (by omega)
      subst ha
      obtain ⟨vr, vt, c0, c1, c2, c3, c4, c5, hr, ht, hz⟩ := (hcell q o ho).later BR
      have hkind := OKO.out o (List.mem_of_getElem? ho)
      have HT := Lib.hid (labs_take l q o ho (lab1 l k langs))
      have AN := Lib.hid (fun (w' : World) (hb : Below w.heap.size w w') hr' ht' => anchor_any (.slice (some ⟨b, off, none⟩) N cap) vr vt l o w' (HV.out.later hb) hr' ht')
      have HR1 := Lib.hid hr
      have HT1 := Lib.hid ht
      obtain ⟨ar, capr, evr, _⟩ := hr
      obtain ⟨at1, capt, evt, _⟩ := ht
      subst evr evt
      have bz := lt_of_cell c0
      have hlen : ((l.take q).filterMap (lab1 l k langs)).length ≤ q := by
        have := List.length_filterMap_le (lab1 l k langs) (l.take q)
        rw [List.length_take] at this; omega
      generalize (l.take q).filterMap (lab1 l k langs) = out at hown HT hlen
      have HL1 := Lib.hid (show lab1 l k langs o = if (bestB o.tags langs).1.size = 0 then none else if (k : Int) < levelO o.tags then none else
        (anchorO l o).map fun p => ⟨o.id, pxZ k p.1, pxZ k p.2, 6 * (bestB o.tags langs).1.size, 12, 10 * levelO o.tags + o.kind⟩ from rfl)
      have hbsz := best_size o.tags langs
      have HNR := Lib.hid (anchor_near l o)
      have LV := Lib.hid (fun (vr vt : Value) w' hr' ht' he' => olevel_any o.id o.kind o.x o.y vr vt o.refs o.tags w' hr' ht' he')
      have lvb := lvlS_bd ((getB levelK o.tags).getD ⟨#[]⟩)
      rw [show lvlS ((getB levelK o.tags).getD ⟨#[]⟩) = levelO o.tags from rfl] at lvb
      clear hcell ho
      go_wp2_with fail
      have BA : Below wr.heap.size wr (wr.alloc (.cells #[.string o.id, .int .i64 o.kind, .int .i64 o.x, .int .i64 o.y, .slice ar o.refs.length capr, .slice at1 o.tags.length capt] 59)) := (Below.refl _ wr).alloc (Nat.le_refl _) _
      have HX := row_new wr (.cells #[.string o.id, .int .i64 o.kind, .int .i64 o.x, .int .i64 o.y, .slice ar o.refs.length capr, .slice at1 o.tags.length capt] 59)
      generalize hwa : wr.alloc (.cells #[.string o.id, .int .i64 o.kind, .int .i64 o.x, .int .i64 o.y, .slice ar o.refs.length capr, .slice at1 o.tags.length capt] 59) = wa
      rw [hwa] at BA HX
      obtain ⟨Bx, hBx⟩ : ∃ Bx, wr.heap.size = Bx := ⟨_, rfl⟩
      rw [hBx] at HX ⊢
      have HBX := Lib.hid (show wr.heap.size ≤ Bx by omega)
      have HOWN := Lib.hid hown
      have BRA := below_step BR (Nat.le_refl _) BA
      clear hwa c0 c1 c2 c3 c4 c5 hBx hown
      refine (BS.out o _ wa BRA (HT1.out.later BA)).mono ?_
      rintro e w3 ⟨rfl, hb3⟩
      have B3 := below_step BA (Nat.le_refl _) hb3
      have BR3 := below_step BR (Nat.le_refl _) B3
      have HX3h := Lib.hid (row_later hb3 HX)
      have HM3h := Lib.hid (row_later (below_step hbr (Nat.le_refl _) B3) HMh.out)
      clear BRA BA hb3 HX
      by_cases hb0 : (bestB o.tags langs).1.size = 0
      · have e0 : (bestB o.tags langs).1.toList = [] := str_nil hb0
        have e1 : (bestB o.tags langs).1.toList.isEmpty = true := by rw [e0]; rfl
        have HT2 := Lib.hid (show (l.take (q + 1)).filterMap (lab1 l k langs) = out by rw [HT.out, HL1.out, if_pos hb0]; simp)
        generalize (bestB o.tags langs).1 = s at e0 e1 ⊢
        generalize (bestB o.tags langs).2 = s2
        clear hb0 hbsz HT HL1
        have O3 := Lib.hid (own_later HOWN.out B3)
        have BB := below_step hbr (Nat.le_refl _) B3
        go_wp2
        go_roundw
        case rel => exact ⟨q + 1, by omega, by go_num, by rw [HT2.out]; exact O3.out, BB⟩
        case measure => simp [intOf]; omega
      · have e1 : (bestB o.tags langs).1.toList.isEmpty = false := str_not_empty (by omega)
        have e0 : ¬ (bestB o.tags langs).1.toList = [] := by
          intro h; rw [h] at e1; simp at e1
        have HL2 := Lib.hid (show lab1 l k langs o = if (k : Int) < levelO o.tags then none else
          (anchorO l o).map fun p => ⟨o.id, pxZ k p.1, pxZ k p.2, 6 * (bestB o.tags langs).1.size, 12, 10 * levelO o.tags + o.kind⟩ by rw [HL1.out, if_neg hb0])
        generalize (bestB o.tags langs).1 = s at e0 e1 hbsz HL2 hb0 ⊢
        generalize (bestB o.tags langs).2 = s2
        generalize levelO o.tags = lv at HL2 LV lvb
        clear HL1
        have HX3 := HX3h.out
        have xz := lt_of_block HX3
        have x0 := cell_of_row w3 _ 0 _ _ _ HX3
        have x1 := cell_of_row w3 _ 1 _ _ _ HX3
        have x2 := cell_of_row w3 _ 2 _ _ _ HX3
        have x3 := cell_of_row w3 _ 3 _ _ _ HX3
        have x4 := cell_of_row w3 _ 4 _ _ _ HX3
        have x5 := cell_of_row w3 _ 5 _ _ _ HX3
        simp only [List.getElem?_toArray, List.getElem?_cons_zero, List.getElem?_cons_succ] at x0 x1 x2 x3 x4 x5
        have HX3' := Lib.hid HX3
        clear HX3
        go_wp2_with fail
        refine (LV.out _ _ w3 (HR1.out.later B3) (HT1.out.later B3) (HE.out w3 BR3)).mono ?_
        rintro e w4 ⟨rfl, hb4⟩
        have B4 := below_step B3 (Nat.le_refl _) hb4
        have BR4 := below_step BR (Nat.le_refl _) B4
        have HX4h := Lib.hid (row_later hb4 HX3h.out)
        have HM4h := Lib.hid (row_later hb4 HM3h.out)
        clear x0 x1 x2 x3 x4 x5 xz HX3' HX3h HM3h hb4 B3 BR3
        by_cases hkl : (k : Int) < lv
        · have HT2 := Lib.hid (show (l.take (q + 1)).filterMap (lab1 l k langs) = out by rw [HT.out, HL2.out, if_pos hkl]; simp)
          clear HT HL2
          have O3 := Lib.hid (own_later HOWN.out B4)
          have BB := below_step hbr (Nat.le_refl _) B4
          go_wp2
          go_roundw
          case rel => exact ⟨q + 1, by omega, by go_num, by rw [HT2.out]; exact O3.out, BB⟩
          case measure => simp [intOf]; omega
        · have HL3 := Lib.hid (show lab1 l k langs o = (anchorO l o).map fun p => ⟨o.id, pxZ k p.1, pxZ k p.2, 6 * s.size, 12, 10 * lv + o.kind⟩ by rw [HL2.out, if_neg hkl])
          have HX4 := HX4h.out
          have HM4 := HM4h.out
          clear HL2
          have xz := lt_of_block HX4
          have x0 := cell_of_row w4 _ 0 _ _ _ HX4
          have x1 := cell_of_row w4 _ 1 _ _ _ HX4
          have x2 := cell_of_row w4 _ 2 _ _ _ HX4
          have x3 := cell_of_row w4 _ 3 _ _ _ HX4
          have x4 := cell_of_row w4 _ 4 _ _ _ HX4
          have x5 := cell_of_row w4 _ 5 _ _ _ HX4
          simp only [List.getElem?_toArray, List.getElem?_cons_zero, List.getElem?_cons_succ] at x0 x1 x2 x3 x4 x5
          have HX4' := Lib.hid HX4
          clear HX4
          have mz := lt_of_block HM4
          have m0 := cell_of_row w4 _ 0 _ _ _ HM4
          simp only [List.getElem?_toArray, List.getElem?_cons_zero] at m0
          have HM4' := Lib.hid HM4
          clear HM4
          go_wp2_with fail
          refine (show Calls _ _ _ _ _ from AN.out w4 BR4 (HR1.out.later B4) (HT1.out.later B4)).mono ?_
          rintro e w5 ⟨rfl, hb5⟩
          have B5 := below_step B4 (Nat.le_refl _) hb5
          have BR5 := below_step BR (Nat.le_refl _) B5
          have HX5h := Lib.hid (row_later hb5 HX4h.out)
          clear x0 x1 x2 x3 x4 x5 xz HX4' HX4h HM4h HM4' m0 mz hb5 B4 BR4
          cases han : anchorO l o with
          | none =>
            have HT2 := Lib.hid (show (l.take (q + 1)).filterMap (lab1 l k langs) = out by rw [HT.out, HL3.out, han]; simp)
            clear HT HL3
            have O3 := Lib.hid ((own_later HOWN.out B5).alloc (.cells #[.int .i64 0, .int .i64 0] 24))
            have BB := (below_step hbr (Nat.le_refl _) B5).alloc (Nat.le_trans hbr.size B5.size) (.cells #[.int .i64 0, .int .i64 0] 24)
            go_wp2
            go_roundw
            case rel => exact ⟨q + 1, by omega, by go_num, by rw [HT2.out]; exact O3.out, BB⟩
            case measure => simp [intOf]; omega
          | some p =>
            obtain ⟨px, py⟩ := p
            have hnear := HNR.out (px, py) han
            have HT2 := Lib.hid (show (l.take (q + 1)).filterMap (lab1 l k langs) = out ++ [⟨o.id, pxZ k px, pxZ k py, 6 * s.size, 12, 10 * lv + o.kind⟩] by rw [HT.out, HL3.out, han]; rfl)
            clear HT HL3 han
            have hkind' := hkind
            go_wp2_with fail
            refine (pixel0 px py k hk hnear _).mono ?_
            rintro e w6 ⟨rfl, hb6⟩
            have B6 := below_step (B5.alloc B5.size (.cells #[.int .i64 px, .int .i64 py] 24)) (by simp) hb6
            have BR6 := below_step BR (Nat.le_refl _) B6
            have HX6 := row_later (below_step ((Below.refl _ w5).alloc (Nat.le_refl _) (.cells #[.int .i64 px, .int .i64 py] 24)) (by simp) hb6) HX5h.out
            clear B5 BR5 HX5h hb6
            generalize pxZ k px = gx at HT2 ⊢
            generalize pxZ k py = gy at HT2 ⊢
            go_wp2_with fail
            have HP7 := row_new w6 (.cells #[.int .i64 gx, .int .i64 gy] 24)
            have HX7 := row_past (o' := .cells #[.int .i64 gx, .int .i64 gy] 24) HX6
            have B7 := B6.alloc B6.size (.cells #[.int .i64 gx, .int .i64 gy] 24)
            have BR7 := BR6.alloc BR6.size (.cells #[.int .i64 gx, .int .i64 gy] 24)
            generalize hw7 : w6.alloc (.cells #[.int .i64 gx, .int .i64 gy] 24) = w7
            rw [hw7] at HP7 HX7 B7 BR7
            obtain ⟨Bp, hBp⟩ : ∃ Bp, w6.heap.size = Bp := ⟨_, rfl⟩
            rw [hBp] at HP7 ⊢
            have HBP := Lib.hid (show wr.heap.size ≤ Bp by have := B6.size; omega)
            clear hw7 hBp B6 BR6 HX6
            have B7d := B7.drew
            have BR7d := BR7.drew
            have LV7 := Lib.hid (LV.out _ _ w7.drew (HR1.out.later B7d) (HT1.out.later B7d) (HE.out _ BR7d))
            have O7 := Lib.hid (own_later HOWN.out B7d)
            have hsz7 : w2.heap.size ≤ w7.drew.heap.size := Nat.le_trans hbr.size B7d.size
            have BB7 := Lib.hid (below_step hbr (Nat.le_refl _) B7d)
            have NE : Hid (∀ b : Nat, wr.heap.size ≤ b → some b ≠ u7.ownBlock) := Lib.hid (fun b hb e => by have := (HOWN.out.lt b e.symm).2; omega)
            have NX := Lib.hid (NE.out Bx HBX.out)
            have NP := Lib.hid (NE.out Bp HBP.out)
            clear NE
            have wm1 : IntKind.i64.wrap (6 * (s.size : Int)) = 6 * s.size := by rw [IntKind.wrap_i64]; omega
            have wm2 : IntKind.i64.wrap (10 * lv) = 10 * lv := by rw [IntKind.wrap_i64]; omega
            have wm3 : IntKind.i64.wrap (10 * lv + o.kind) = 10 * lv + o.kind := by rw [IntKind.wrap_i64]; omega
            clear AN BS HT1 HR1 HE LV
            have xz := lt_of_block HX7
            have x0 := cell_of_row w7 _ 0 _ _ _ HX7
            have x1 := cell_of_row w7 _ 1 _ _ _ HX7
            have x2 := cell_of_row w7 _ 2 _ _ _ HX7
            have x3 := cell_of_row w7 _ 3 _ _ _ HX7
            have x4 := cell_of_row w7 _ 4 _ _ _ HX7
            have x5 := cell_of_row w7 _ 5 _ _ _ HX7
            simp only [List.getElem?_toArray, List.getElem?_cons_zero, List.getElem?_cons_succ] at x0 x1 x2 x3 x4 x5
            have HX7' := Lib.hid HX7
            clear HX7
            have pz := lt_of_block HP7
            have p0 := cell_of_row w7 _ 0 _ _ _ HP7
            have p1 := cell_of_row w7 _ 1 _ _ _ HP7
            simp only [List.getElem?_toArray, List.getElem?_cons_zero, List.getElem?_cons_succ] at p0 p1
            have HP7' := Lib.hid HP7
            clear HP7
            go_region_held3 (fun w' => w'.cell? ⟨Bx, 0, none⟩ = some (.string o.id) ∧ w'.cell? ⟨Bx, 1, none⟩ = some (.int .i64 o.kind) ∧ w'.cell? ⟨Bx, 2, none⟩ = some (.int .i64 o.x) ∧ w'.cell? ⟨Bx, 3, none⟩ = some (.int .i64 o.y) ∧ w'.cell? ⟨Bx, 4, none⟩ = some (.slice ar o.refs.length capr) ∧ w'.cell? ⟨Bx, 5, none⟩ = some (.slice at1 o.tags.length capt) ∧ w'.cell? ⟨Bp, 0, none⟩ = some (.int .i64 gx) ∧ w'.cell? ⟨Bp, 1, none⟩ = some (.int .i64 gy))
              (first
                | exact ⟨x0, x1, x2, x3, x4, x5, p0, p1⟩
                | exact ⟨cell_later hb8 x0, cell_later hb8 x1, cell_later hb8 x2, cell_later hb8 x3, cell_later hb8 x4, cell_later hb8 x5, cell_later hb8 p0, cell_later hb8 p1⟩
                | exact ⟨cell_upon (cell_later hb8 x0), cell_upon (cell_later hb8 x1), cell_upon (cell_later hb8 x2), cell_upon (cell_later hb8 x3), cell_upon (cell_later hb8 x4), cell_upon (cell_later hb8 x5), cell_upon (cell_later hb8 p0), cell_upon (cell_later hb8 p1)⟩
                | exact ⟨hgrow.cell (cell_upon (cell_later hb8 x0)) NX.out, hgrow.cell (cell_upon (cell_later hb8 x1)) NX.out, hgrow.cell (cell_upon (cell_later hb8 x2)) NX.out, hgrow.cell (cell_upon (cell_later hb8 x3)) NX.out, hgrow.cell (cell_upon (cell_later hb8 x4)) NX.out, hgrow.cell (cell_upon (cell_later hb8 x5)) NX.out, hgrow.cell (cell_upon (cell_later hb8 p0)) NP.out, hgrow.cell (cell_upon (cell_later hb8 p1)) NP.out⟩
                | assumption)
              (first
                | (go_at_call 42; refine LV7.out.mono ?_; rintro e w8 ⟨rfl, hb8⟩)
                | (rw [if_pos (by rfl)]; refine wp_append_own _ _ _ 22 rfl w2.heap.size 47 i0 (.agg #[.string ⟨#[]⟩, .int .i64 0, .int .i64 0, .int .i64 0, .int .i64 0, .int .i64 0]) 6 56 Tryz.underlying22 hi hi0 hi1 hi2 rfl (by decide) _ _ _ rfl ((own_later O7.out hb8).alloc _) ⟨w8.heap.size, 0, none⟩ 1 1 (encL ⟨o.id, gx, gy, 6 * s.size, 12, 10 * lv + o.kind⟩) rfl rfl (cells_new _ _ _) (encL_one _) (by unfold maxLen; omega) (by omega) (by have := hb8.size; simp; omega) ?_; intro v' w9 hown hgrow _))
            have hsz8 : w2.heap.size ≤ w8.heap.size := Nat.le_trans hsz7 hb8.size
            have hb9 := appended (own_later O7.out hb8) hsz8 hgrow
            have HOW := Lib.hid (show w9.ownsRow w2.heap.size 47 6 v' ((l.take (q + 1)).filterMap (lab1 l k langs)).length (((l.take (q + 1)).filterMap (lab1 l k langs)).flatMap encL) by rw [HT2.out, List.length_append, List.flatMap_append]; simpa using hown)
            have B9 := (below_step BB7.out (Nat.le_refl _) hb8).trans hb9
            clear hown hgrow
            go_wp2
            go_roundw
            case rel => exact ⟨q + 1, by omega, by go_num, HOW.out, B9⟩
            case measure => simp [intOf]; omega
    · obtain rfl : q = N := by omega
      have htk : l.take q = l := List.take_of_length_le (by rw [HN.out]; exact Nat.le_refl _)
      rw [htk] at hown
      have HOW := Lib.hid (RowE.of_own encL_len rfl hown)
      clear hown
      go_wp2_with fail
      refine (SD.out _ _ _ hfl HOW.out).mono ?_
      rintro e w9 ⟨v', rfl, hrow, hb9⟩
      have HRW := Lib.hid hrow
      have B9 := below_step BR (Nat.le_refl _) hb9
      clear hrow
      go_wp2
      go_ret
      exact ⟨v', rfl, by rw [HR.out]; exact HRW.out, B9⟩

/-- The contract of label.Labels. -/
theorem labels_any (v vl : Value) (l : List ObjD) (z : Int) (langs : List ByteArray) (w : World) (hv : ObjsIs w v l) (hvl : StrRow w vl langs) (hl : l.length ≤ 40) (hla : langs.length ≤ 1000000) (he : Env w) :
    Calls Tryz.prog 18 #[.agg #[v], .int .i64 z, vl] w (LabsPost (labelsL l z langs) w) := by
  cases hok : mapOK l with
  | false => exact labels_bad v vl l z langs w hv (Or.inl hok)
  | true =>
    by_cases hz : z < 0 ∨ 17 < z
    · exact labels_bad v vl l z langs w hv (Or.inr hz)
    · obtain ⟨k, rfl⟩ := Int.eq_ofNat_of_zero_le (show 0 ≤ z by omega)
      exact labels_good v vl l k langs w hv hvl hl hla he (by omega) hok
end Go.Proofs.YtapllmniplgajaaGreatDoor
