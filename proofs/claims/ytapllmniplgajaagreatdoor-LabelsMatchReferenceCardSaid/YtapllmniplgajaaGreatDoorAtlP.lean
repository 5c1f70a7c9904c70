/- atlas.Points. -/
import Derived.Test.YtapllmniplgajaaGreatDoorAtlA
import Derived.Test.YtapllmniplgajaaGreatDoorLabL
namespace Go.Proofs.YtapllmniplgajaaGreatDoor
open Go.RowKit

def encPt (p : Int × Int) : List Value := [.int .i64 p.1, .int .i64 p.2]
theorem encPt_len (p : Int × Int) : (encPt p).length = 2 := rfl
theorem encPt_one (p : Int × Int) : ∀ v ∈ encPt p, v.oneCell' = true := by
  intro v hv
  simp only [encPt, List.mem_cons, List.not_mem_nil, or_false] at hv
  rcases hv with rfl | rfl <;> rfl
/-- The point of the node with a name. -/
def nodeAt (l : List ObjD) (r : ByteArray) : Option (Int × Int) :=
  match posO r l with
  | some k => match l[k]? with
    | some o => if o.kind = 1 then some (o.x, o.y) else none
    | none => none
  | none => none
/-- The points of an object of a map. -/
def ptsK (l : List ObjD) (o : ObjD) : List (Int × Int) × Int :=
  if o.kind = 1 then ([(o.x, o.y)], 0) else if o.kind = 2 ∨ o.kind = 3 then (if o.refs.all (fun r => (nodeAt l r).isSome) then (o.refs.filterMap (nodeAt l), 0) else ([], 14)) else ([], 13)
/-- The points of a node, way or area, and what is wrong. -/
def ptsO (l : List ObjD) (id : ByteArray) : List (Int × Int) × Int :=
  if mapOK l then
    match posO id l with
    | none => ([], 11)
    | some i => match l[i]? with
      | none => ([], 11)
      | some o => ptsK l o
  else ([], 1)
theorem ptsO_bad (l : List ObjD) (id : ByteArray) (h : mapOK l = false) : ptsO l id = ([], 1) := by unfold ptsO; rw [h]; rfl
theorem ptsO_none (l : List ObjD) (id : ByteArray) (h : mapOK l = true) (hp : posO id l = none) : ptsO l id = ([], 11) := by unfold ptsO; rw [h, hp]; rfl
theorem ptsO_some (l : List ObjD) (id : ByteArray) (h : mapOK l = true) (i : Nat) (hp : posO id l = some i) (o : ObjD) (ho : l[i]? = some o) : ptsO l id = ptsK l o := by unfold ptsO; rw [h, hp]; simp only [ho]; rfl
def PtsPost (r : List (Int × Int) × Int) (w : World) (e : Ending) (w' : World) : Prop := (∃ v, e = .returned (.tuple #[v, .int .i64 r.2]) ∧ RowE encPt 2 w' v r.1) ∧ Below w.heap.size w w'
theorem row_nil {α : Type} (enc : α → List Value) (k : Nat) (w : World) : RowE enc k w (.slice none 0 0) [] := ⟨none, 0, rfl, fun h => by simp at h⟩
theorem infoPoint : (Tryz.prog.info? 24).map (fun i => (i.zero, i.size, i.bytes)) = some (some (.agg #[.int .i64 0, .int .i64 0]), 2, 16) := by kernel_rfl
theorem refs_take (l : List ObjD) (refs : List ByteArray) (k : Nat) (r : ByteArray) (hr : refs[k]? = some r) (p : Int × Int) (hp : nodeAt l r = some p) : (refs.take (k + 1)).filterMap (nodeAt l) = (refs.take k).filterMap (nodeAt l) ++ [p] := by
  obtain ⟨hk, rfl⟩ := List.getElem?_eq_some_iff.1 hr
  rw [List.take_succ_eq_append_getElem hk, List.filterMap_append]; simp [hp]
theorem refs_bad (l : List ObjD) (refs : List ByteArray) (k : Nat) (r : ByteArray) (hr : refs[k]? = some r) (hp : nodeAt l r = none) : refs.all (fun r => (nodeAt l r).isSome) = false := by
  rw [List.all_eq_false]
  exact ⟨r, List.mem_of_getElem? hr, by simp [hp]⟩

theorem objs_ok : ∀ (l : List ObjD) (last : ByteArray), objsFrom last l = true → ∀ o ∈ l, objOK o = true
  | [], _, _, o, ho => by cases ho
  | x :: l, last, h, o, ho => by
    simp only [objsFrom, Bool.and_eq_true] at h
    rcases List.mem_cons.1 ho with rfl | ho
    · exact h.1.1
    · exact objs_ok l x.id h.2 o ho
theorem map_obj {l : List ObjD} (h : mapOK l = true) {o : ObjD} (ho : o ∈ l) : objOK o = true := by
  simp only [mapOK, Bool.and_eq_true] at h
  exact objs_ok l _ h.2 o ho
theorem obj_refs {o : ObjD} (h : objOK o = true) : o.refs.length ≤ 2000 := by
  simp only [objOK, Bool.and_eq_true, decide_eq_true_eq] at h
  exact h.1.1.2
theorem nodeAt_none (l : List ObjD) (r : ByteArray) (h : posO r l = none) : nodeAt l r = none := by unfold nodeAt; rw [h]
theorem nodeAt_some (l : List ObjD) (r : ByteArray) (k : Nat) (h : posO r l = some k) (o : ObjD) (ho : l[k]? = some o) : nodeAt l r = if o.kind = 1 then some (o.x, o.y) else none := by unfold nodeAt; rw [h]; simp only [ho]

set_option maxRecDepth 100000 in
set_option maxHeartbeats 4000000 in
theorem points_any (v : Value) (l : List ObjD) (id : ByteArray) (w : World) (hv : ObjsIs w v l) :
    Calls Tryz.prog 69 #[.agg #[v], .string id] w (PtsPost (ptsO l id) w) := by
  have VS := Lib.hid (fun B w' hb hB => validS_any v l B w' (hv.later (w' := w') hb) hB)
  have HV := Lib.hid hv
  obtain ⟨a, cap, rfl, hn, hc⟩ := hv
  have HC := Lib.hid hc
  have HPB := Lib.hid (ptsO_bad l id)
  have HPN := Lib.hid (ptsO_none l id)
  have HPS := Lib.hid (ptsO_some l id)
  obtain ⟨res, hres⟩ : ∃ res, ptsO l id = res := ⟨_, rfl⟩
  rw [hres] at HPB HPN HPS ⊢
  obtain ⟨i0, hi, hi0, hi1, hi2⟩ := info_parts infoPoint
  clear hc hres
  go_enter Tryz.func69, Tryz.ntmps69
  go_wp2_with fail
  have B1 : Below w.heap.size w ((w.alloc (.cells #[.slice a l.length cap] 35)).alloc (.cells #[.slice a l.length cap] 35)) := ((Below.refl _ w).alloc (Nat.le_refl _) _).alloc (by simp) _
  have HB1 := row_new1 w (.cells #[.slice a l.length cap] 35) (.cells #[.slice a l.length cap] 35)
  have HM1 := row_past (o' := .cells #[.slice a l.length cap] 35) (row_new w (.cells #[.slice a l.length cap] 35))
  generalize hw1 : (w.alloc (.cells #[.slice a l.length cap] 35)).alloc (.cells #[.slice a l.length cap] 35) = w1
  rw [hw1] at B1 HB1 HM1
  clear hw1
  refine (VS.out _ _ B1 (by rw [cell_of_row w1 _ 0 _ _ _ HB1]; rfl)).mono ?_
  rintro e w2 ⟨rfl, hb2⟩
  have B2 := below_step B1 (Nat.le_refl _) hb2
  have HM2 := row_later hb2 HM1
  clear HB1 HM1 B1 hb2 VS
  cases hok : mapOK l
  case false =>
    have HR := Lib.hid (HPB.out hok)
    clear hok
    go_wp2
    go_ret2
    exact ⟨⟨_, by rw [HR.out]; rfl, by rw [HR.out]; exact row_nil _ _ _⟩, B2⟩
  case true =>
    have HPN := Lib.hid (HPN.out hok)
    have HPS := Lib.hid (HPS.out hok)
    have MO := Lib.hid (fun (o : ObjD) (ho : o ∈ l) => obj_refs (map_obj hok ho))
    have AT := Lib.hid (fun (r : ByteArray) w' hb => at_map (.slice a l.length cap) l r w' (HV.out.later (w' := w') hb) hok)
    clear hok HPB
    have HM2h := Lib.hid HM2
    have mz := lt_of_block HM2
    have m0 := cell_of_row w2 _ 0 _ _ _ HM2
    simp only [List.getElem?_toArray, List.getElem?_cons_zero] at m0
    have HM2' := Lib.hid HM2
    clear HM2
    go_wp2_with fail
    refine (AT.out id w2 B2).mono ?_
    rintro e w3 ⟨⟨i, b, rfl, hb, hi'⟩, hb3⟩
    have B3 := below_step B2 (Nat.le_refl _) hb3
    have HM3 := row_later hb3 HM2h.out
    clear m0 mz HM2' HM2h B2 hb3
    cases hp : posO id l with
    | none =>
      rw [hp] at hb
      obtain rfl : b = false := hb
      have HR := Lib.hid (HPN.out hp)
      clear hp hi'
      go_wp2
      go_ret2
      exact ⟨⟨_, by rw [HR.out]; rfl, by rw [HR.out]; exact row_nil _ _ _⟩, B3⟩
    | some j =>
      rw [hp] at hb
      obtain rfl : b = true := hb
      obtain rfl : i = j := hi' j hp
      obtain ⟨o, ho, hoid⟩ := posO_some id l i hp
      clear hoid
      have HP2 := Lib.hid (show res = ptsK l o from HPS.out i hp o ho)
      have hrl := MO.out o (List.mem_of_getElem? ho)
      have hil : i < l.length := (List.getElem?_eq_some_iff.1 ho).1
      obtain ⟨bo, off, ha, hcell⟩ := HC.out (by omega)
      subst ha
      obtain ⟨vr, vt, c0, c1, c2, c3, c4, c5, hr, ht, hz⟩ := (hcell i o ho).later B3
      have HRF := Lib.hid hr
      obtain ⟨ar, capr, evr, _⟩ := hr
      obtain ⟨at1, capt, evt, _⟩ := ht
      subst evr evt
      have bz := lt_of_cell c0
      have HM3h := Lib.hid HM3
      clear hp hi' HPN HPS ho hcell
      have mz := lt_of_block HM3
      have m0 := cell_of_row w3 _ 0 _ _ _ HM3
      simp only [List.getElem?_toArray, List.getElem?_cons_zero] at m0
      have HM3' := Lib.hid HM3
      clear HM3
      by_cases k1 : o.kind = 1
      · have HR := Lib.hid (show res = ([(o.x, o.y)], 0) by rw [HP2.out]; unfold ptsK; rw [if_pos k1])
        have f1 : (o.kind == 1) = true := by rw [beq_iff_eq]; exact k1
        clear HP2 k1
        go_wp2
        go_ret2
        refine ⟨⟨_, by rw [HR.out]; rfl, ?_⟩, (B3.alloc B3.size _).alloc (by have := B3.size; simp; omega) _⟩
        rw [HR.out]
        refine ⟨_, _, rfl, fun _ => ⟨_, _, rfl, fun j x hx i u hu => ?_⟩⟩
        cases j with
        | succ j => simp at hx
        | zero =>
          obtain rfl : (o.x, o.y) = x := by simpa using hx
          have := row_new1 w3 (.cells #[.string o.id, .int .i64 o.kind, .int .i64 o.x, .int .i64 o.y, .slice ar o.refs.length capr, .slice at1 o.tags.length capt] 59) (.cells #[.int .i64 o.x, .int .i64 o.y] 24)
          have h2 := cell_of_row _ _ i _ _ _ this
          rw [show 0 + 0 * 2 + i = i by omega, h2]
          simpa [encPt] using hu
      · have f1 : (o.kind == 1) = false := by rw [beq_eq_false_iff_ne]; exact k1
        by_cases k23 : o.kind = 2 ∨ o.kind = 3
        · have HR := Lib.hid (show res = if o.refs.all (fun r => (nodeAt l r).isSome) then (o.refs.filterMap (nodeAt l), 0) else ([], 14) by rw [HP2.out]; unfold ptsK; rw [if_neg k1, if_pos k23])
          have BA : Below w.heap.size w (w3.alloc (.cells #[.string o.id, .int .i64 o.kind, .int .i64 o.x, .int .i64 o.y, .slice ar o.refs.length capr, .slice at1 o.tags.length capt] 59)) := B3.alloc B3.size _
          have HX := row_new w3 (.cells #[.string o.id, .int .i64 o.kind, .int .i64 o.x, .int .i64 o.y, .slice ar o.refs.length capr, .slice at1 o.tags.length capt] 59)
          have HMA := row_past (o' := .cells #[.string o.id, .int .i64 o.kind, .int .i64 o.x, .int .i64 o.y, .slice ar o.refs.length capr, .slice at1 o.tags.length capt] 59) HM3h.out
          have HRA := HRF.out.later ((Below.refl _ w3).alloc (Nat.le_refl _) (.cells #[.string o.id, .int .i64 o.kind, .int .i64 o.x, .int .i64 o.y, .slice ar o.refs.length capr, .slice at1 o.tags.length capt] 59))
          clear HP2 HRF
          rcases k23 with k2 | k3
          · have f2 : (o.kind == 2) = true := by rw [beq_iff_eq]; exact k2
            clear k1 k2
            go_wp2_with fail
            generalize hwa : w3.alloc (.cells #[.string o.id, .int .i64 o.kind, .int .i64 o.x, .int .i64 o.y, .slice ar o.refs.length capr, .slice at1 o.tags.length capt] 59) = wa
            rw [hwa] at BA HX HMA HRA
            clear hwa
            have HMAh := Lib.hid HMA
            have HXh := Lib.hid HX
            obtain ⟨ar', capr', evr2, hrn, _, hrc⟩ := HRA
            have hrc := (show 0 < o.refs.length → ∃ b off, ar = some ⟨b, off, none⟩ ∧ ∀ (i : Nat) (s : ByteArray), o.refs[i]? = some s → wa.cell? ⟨b, off + i, none⟩ = some (.string s) by injection evr2 with e1 _ _; subst e1; exact hrc)
            have HRC := Lib.hid hrc
            obtain ⟨Rn, hRn⟩ : ∃ Rn, o.refs.length = Rn := ⟨_, rfl⟩
            rw [hRn] at hrn hrl HX ⊢
            have HRN := Lib.hid hRn
            clear evr2 hrc hRn HMA m0 mz HM3' c0 c1 c2 c3 c4 c5
            have xz := lt_of_block HX
            have x0 := cell_of_row wa _ 0 _ _ _ HX
            have x1 := cell_of_row wa _ 1 _ _ _ HX
            have x2 := cell_of_row wa _ 2 _ _ _ HX
            have x3 := cell_of_row wa _ 3 _ _ _ HX
            have x4 := cell_of_row wa _ 4 _ _ _ HX
            have x5 := cell_of_row wa _ 5 _ _ _ HX
            simp only [List.getElem?_toArray, List.getElem?_cons_zero, List.getElem?_cons_succ] at x0 x1 x2 x3 x4 x5
            have HX' := Lib.hid HX
            clear HX
            go_wp2
            clear x0 x1 x2 x3 x4 x5 xz HX'
            have BW := below_step BA (Nat.le_refl _) (Below.refl wa.heap.size wa)
            go_loopw [9, 44] (fun v9 i wr => ∃ q : Nat, q ≤ Rn ∧ i = .int .i64 q ∧ Hid ((o.refs.take q).all (fun r => (nodeAt l r).isSome) = true) ∧ wr.ownsRow wa.heap.size 24 2 v9 ((o.refs.take q).filterMap (nodeAt l)).length (((o.refs.take q).filterMap (nodeAt l)).flatMap encPt) ∧ Below wa.heap.size wa wr) (fun _ i _ => Rn - (intOf i).toNat)
            case atStart => exact ⟨0, by omega, rfl, Lib.hid rfl, ⟨rfl, Or.inl ⟨rfl, rfl⟩⟩, Below.refl _ _⟩
            case round =>
              obtain ⟨q, hq, rfl, hA, hown, hbr⟩ := hrel
              have BR := below_step BA (Nat.le_refl _) hbr
              by_cases hlt : q < Rn
              · obtain ⟨r, hr⟩ : ∃ r, o.refs[q]? = some r := ⟨o.refs[q]'(by rw [HRN.out]; exact hlt), List.getElem?_eq_getElem _⟩
                obtain ⟨b2, off2, ha2, hcell2⟩ := HRC.out (by rw [HRN.out]; omega)
                subst ha2
                have r0 := cell_later hbr (hcell2 q r hr)
                have HMr := row_later hbr HMAh.out
                have HOWN := Lib.hid hown
                have HRR := Lib.hid hr
                have hlen : ((o.refs.take q).filterMap (nodeAt l)).length ≤ q := by
                  have := List.length_filterMap_le (nodeAt l) (o.refs.take q)
                  rw [List.length_take] at this; omega
                clear hcell2 hr hown
                have mz := lt_of_block HMr
                have m0 := cell_of_row wr _ 0 _ _ _ HMr
                simp only [List.getElem?_toArray, List.getElem?_cons_zero] at m0
                have HMr' := Lib.hid HMr
                clear HMr
                go_wp2_with fail
                refine (AT.out r wr BR).mono ?_
                rintro e w6 ⟨⟨k, bb, rfl, hbb, hki⟩, hb6⟩
                have B6 := below_step hbr (Nat.le_refl _) hb6
                have BR6 := below_step BR (Nat.le_refl _) hb6
                have HM6 := row_later B6 HMAh.out
                have HO6 := Lib.hid (own_later HOWN.out hb6)
                clear m0 mz HMr' r0 HOWN hb6 hbr BR
                cases hpr : posO r l with
                | none =>
                  rw [hpr] at hbb
                  obtain rfl : bb = false := hbb
                  have HE := Lib.hid (show res = ([], 14) by rw [HR.out, refs_bad l o.refs q r HRR.out (nodeAt_none l r hpr)]; rfl)
                  clear hpr hki
                  have mz := lt_of_block HM6
                  have m0 := cell_of_row w6 _ 0 _ _ _ HM6
                  simp only [List.getElem?_toArray, List.getElem?_cons_zero] at m0
                  have HM6' := Lib.hid HM6
                  clear HM6
                  go_wp2
                  go_ret2
                  exact ⟨⟨_, by rw [HE.out]; rfl, by rw [HE.out]; exact row_nil _ _ _⟩, BR6⟩
                | some kk =>
                  rw [hpr] at hbb
                  obtain rfl : bb = true := hbb
                  obtain rfl : k = kk := hki kk hpr
                  obtain ⟨o2, ho2, _⟩ := posO_some r l k hpr
                  have HN2 := Lib.hid (nodeAt_some l r k hpr o2 ho2)
                  have hkl : k < l.length := (List.getElem?_eq_some_iff.1 ho2).1
                  obtain ⟨bo2, off3, ha3, hcell3⟩ := HC.out (by omega)
                  obtain ⟨rfl, rfl⟩ : bo = bo2 ∧ off = off3 := by injection ha3 with a; injection a with a b; exact ⟨a, b⟩
                  obtain ⟨vr2, vt2, d0, d1, d2, d3, _⟩ := (hcell3 k o2 ho2).later BR6
                  clear hpr hki hcell3 ho2 ha3 d0
                  have bz6 := lt_of_cell d1
                  have mz := lt_of_block HM6
                  have m0 := cell_of_row w6 _ 0 _ _ _ HM6
                  simp only [List.getElem?_toArray, List.getElem?_cons_zero] at m0
                  have HM6' := Lib.hid HM6
                  clear HM6
                  by_cases kk1 : o2.kind = 1
                  · have HN3 := Lib.hid (show nodeAt l r = some (o2.x, o2.y) by rw [HN2.out, if_pos kk1])
                    have g1 : (o2.kind != 1) = false := by rw [kk1]; rfl
                    have HT := Lib.hid (refs_take l o.refs q r HRR.out (o2.x, o2.y) HN3.out)
                    have HA2 : Hid ((o.refs.take (q + 1)).all (fun r => (nodeAt l r).isSome) = true) := Lib.hid (by
                      obtain ⟨hk, e⟩ := List.getElem?_eq_some_iff.1 HRR.out
                      rw [List.take_succ_eq_append_getElem hk, List.all_append, hA.out, e]; simp [HN3.out])
                    have O6 := HO6.out
                    generalize (o.refs.take q).filterMap (nodeAt l) = out at O6 HT hlen
                    clear HN2 kk1 HO6
                    have hsz6 := B6.size
                    go_wp2_with (at_builtin; refine wpList_append_own _ rfl _ _ 104 rfl wa.heap.size 24 i0 (.agg #[.int .i64 0, .int .i64 0]) 2 16 Tryz.underlying104 hi hi0 hi1 hi2 rfl (by decide) _ _ _ rfl (O6.alloc _) ⟨w6.heap.size, 0, none⟩ 1 1 (encPt (o2.x, o2.y)) rfl rfl (cells_new _ _ _) (encPt_one _) (by unfold maxLen; omega) (by omega) (by simp; omega) ?_; intro v' w10 hown2 hgrow _; have hb10 := appended O6 hsz6 hgrow)
                    have HOW := Lib.hid (show w10.ownsRow wa.heap.size 24 2 v' ((o.refs.take (q + 1)).filterMap (nodeAt l)).length (((o.refs.take (q + 1)).filterMap (nodeAt l)).flatMap encPt) by rw [HT.out, List.length_append, List.flatMap_append]; simpa using hown2)
                    have B10 := B6.trans hb10
                    clear hown2 hgrow O6
                    go_roundw
                    case rel => exact ⟨q + 1, by omega, by go_num, HA2, HOW.out, B10⟩
                    case measure => simp [intOf]; omega
                  · have HN3 := Lib.hid (show nodeAt l r = none by rw [HN2.out, if_neg kk1])
                    have g1 : (o2.kind != 1) = true := by rw [bne_iff_ne]; exact kk1
                    have HE := Lib.hid (show res = ([], 14) by rw [HR.out, refs_bad l o.refs q r HRR.out HN3.out]; rfl)
                    clear HN2 kk1
                    go_wp2
                    go_ret2
                    exact ⟨⟨_, by rw [HE.out]; rfl, by rw [HE.out]; exact row_nil _ _ _⟩, BR6⟩
              · obtain rfl : q = Rn := by omega
                have htk : o.refs.take q = o.refs := List.take_of_length_le (by rw [HRN.out]; exact Nat.le_refl _)
                rw [htk] at hA hown
                have HE := Lib.hid (show res = (o.refs.filterMap (nodeAt l), 0) by rw [HR.out, hA.out]; rfl)
                have HOW := Lib.hid (RowE.of_own encPt_len rfl hown)
                clear hown
                go_wp2
                go_ret2
                exact ⟨⟨_, by rw [HE.out]; rfl, by rw [HE.out]; exact HOW.out⟩, BR⟩
          · have f2 : (o.kind == 2) = false := by rw [beq_eq_false_iff_ne]; omega
            have f3 : (o.kind == 3) = true := by rw [beq_iff_eq]; exact k3
            clear k1 k3
            go_wp2_with fail
            generalize hwa : w3.alloc (.cells #[.string o.id, .int .i64 o.kind, .int .i64 o.x, .int .i64 o.y, .slice ar o.refs.length capr, .slice at1 o.tags.length capt] 59) = wa
            rw [hwa] at BA HX HMA HRA
            clear hwa
            have HMAh := Lib.hid HMA
            have HXh := Lib.hid HX
            obtain ⟨ar', capr', evr2, hrn, _, hrc⟩ := HRA
            have hrc := (show 0 < o.refs.length → ∃ b off, ar = some ⟨b, off, none⟩ ∧ ∀ (i : Nat) (s : ByteArray), o.refs[i]? = some s → wa.cell? ⟨b, off + i, none⟩ = some (.string s) by injection evr2 with e1 _ _; subst e1; exact hrc)
            have HRC := Lib.hid hrc
            obtain ⟨Rn, hRn⟩ : ∃ Rn, o.refs.length = Rn := ⟨_, rfl⟩
            rw [hRn] at hrn hrl HX ⊢
            have HRN := Lib.hid hRn
            clear evr2 hrc hRn HMA m0 mz HM3' c0 c1 c2 c3 c4 c5
            have xz := lt_of_block HX
            have x0 := cell_of_row wa _ 0 _ _ _ HX
            have x1 := cell_of_row wa _ 1 _ _ _ HX
            have x2 := cell_of_row wa _ 2 _ _ _ HX
            have x3 := cell_of_row wa _ 3 _ _ _ HX
            have x4 := cell_of_row wa _ 4 _ _ _ HX
            have x5 := cell_of_row wa _ 5 _ _ _ HX
            simp only [List.getElem?_toArray, List.getElem?_cons_zero, List.getElem?_cons_succ] at x0 x1 x2 x3 x4 x5
            have HX' := Lib.hid HX
            clear HX
            go_wp2
            clear x0 x1 x2 x3 x4 x5 xz HX'
            have BW := below_step BA (Nat.le_refl _) (Below.refl wa.heap.size wa)
            go_loopw [9, 44] (fun v9 i wr => ∃ q : Nat, q ≤ Rn ∧ i = .int .i64 q ∧ Hid ((o.refs.take q).all (fun r => (nodeAt l r).isSome) = true) ∧ wr.ownsRow wa.heap.size 24 2 v9 ((o.refs.take q).filterMap (nodeAt l)).length (((o.refs.take q).filterMap (nodeAt l)).flatMap encPt) ∧ Below wa.heap.size wa wr) (fun _ i _ => Rn - (intOf i).toNat)
            case atStart => exact ⟨0, by omega, rfl, Lib.hid rfl, ⟨rfl, Or.inl ⟨rfl, rfl⟩⟩, Below.refl _ _⟩
            case round =>
              obtain ⟨q, hq, rfl, hA, hown, hbr⟩ := hrel
              have BR := below_step BA (Nat.le_refl _) hbr
              by_cases hlt : q < Rn
              · obtain ⟨r, hr⟩ : ∃ r, o.refs[q]? = some r := ⟨o.refs[q]'(by rw [HRN.out]; exact hlt), List.getElem?_eq_getElem _⟩
                obtain ⟨b2, off2, ha2, hcell2⟩ := HRC.out (by rw [HRN.out]; omega)
                subst ha2
                have r0 := cell_later hbr (hcell2 q r hr)
                have HMr := row_later hbr HMAh.out
                have HOWN := Lib.hid hown
                have HRR := Lib.hid hr
                have hlen : ((o.refs.take q).filterMap (nodeAt l)).length ≤ q := by
                  have := List.length_filterMap_le (nodeAt l) (o.refs.take q)
                  rw [List.length_take] at this; omega
                clear hcell2 hr hown
                have mz := lt_of_block HMr
                have m0 := cell_of_row wr _ 0 _ _ _ HMr
                simp only [List.getElem?_toArray, List.getElem?_cons_zero] at m0
                have HMr' := Lib.hid HMr
                clear HMr
                go_wp2_with fail
                refine (AT.out r wr BR).mono ?_
                rintro e w6 ⟨⟨k, bb, rfl, hbb, hki⟩, hb6⟩
                have B6 := below_step hbr (Nat.le_refl _) hb6
                have BR6 := below_step BR (Nat.le_refl _) hb6
                have HM6 := row_later B6 HMAh.out
                have HO6 := Lib.hid (own_later HOWN.out hb6)
                clear m0 mz HMr' r0 HOWN hb6 hbr BR
                cases hpr : posO r l with
                | none =>
                  rw [hpr] at hbb
                  obtain rfl : bb = false := hbb
                  have HE := Lib.hid (show res = ([], 14) by rw [HR.out, refs_bad l o.refs q r HRR.out (nodeAt_none l r hpr)]; rfl)
                  clear hpr hki
                  have mz := lt_of_block HM6
                  have m0 := cell_of_row w6 _ 0 _ _ _ HM6
                  simp only [List.getElem?_toArray, List.getElem?_cons_zero] at m0
                  have HM6' := Lib.hid HM6
                  clear HM6
                  go_wp2
                  go_ret2
                  exact ⟨⟨_, by rw [HE.out]; rfl, by rw [HE.out]; exact row_nil _ _ _⟩, BR6⟩
                | some kk =>
                  rw [hpr] at hbb
                  obtain rfl : bb = true := hbb
                  obtain rfl : k = kk := hki kk hpr
                  obtain ⟨o2, ho2, _⟩ := posO_some r l k hpr
                  have HN2 := Lib.hid (nodeAt_some l r k hpr o2 ho2)
                  have hkl : k < l.length := (List.getElem?_eq_some_iff.1 ho2).1
                  obtain ⟨bo2, off3, ha3, hcell3⟩ := HC.out (by omega)
                  obtain ⟨rfl, rfl⟩ : bo = bo2 ∧ off = off3 := by injection ha3 with a; injection a with a b; exact ⟨a, b⟩
                  obtain ⟨vr2, vt2, d0, d1, d2, d3, _⟩ := (hcell3 k o2 ho2).later BR6
                  clear hpr hki hcell3 ho2 ha3 d0
                  have bz6 := lt_of_cell d1
                  have mz := lt_of_block HM6
                  have m0 := cell_of_row w6 _ 0 _ _ _ HM6
                  simp only [List.getElem?_toArray, List.getElem?_cons_zero] at m0
                  have HM6' := Lib.hid HM6
                  clear HM6
                  by_cases kk1 : o2.kind = 1
                  · have HN3 := Lib.hid (show nodeAt l r = some (o2.x, o2.y) by rw [HN2.out, if_pos kk1])
                    have g1 : (o2.kind != 1) = false := by rw [kk1]; rfl
                    have HT := Lib.hid (refs_take l o.refs q r HRR.out (o2.x, o2.y) HN3.out)
                    have HA2 : Hid ((o.refs.take (q + 1)).all (fun r => (nodeAt l r).isSome) = true) := Lib.hid (by
                      obtain ⟨hk, e⟩ := List.getElem?_eq_some_iff.1 HRR.out
                      rw [List.take_succ_eq_append_getElem hk, List.all_append, hA.out, e]; simp [HN3.out])
                    have O6 := HO6.out
                    generalize (o.refs.take q).filterMap (nodeAt l) = out at O6 HT hlen
                    clear HN2 kk1 HO6
                    have hsz6 := B6.size
                    go_wp2_with (at_builtin; refine wpList_append_own _ rfl _ _ 104 rfl wa.heap.size 24 i0 (.agg #[.int .i64 0, .int .i64 0]) 2 16 Tryz.underlying104 hi hi0 hi1 hi2 rfl (by decide) _ _ _ rfl (O6.alloc _) ⟨w6.heap.size, 0, none⟩ 1 1 (encPt (o2.x, o2.y)) rfl rfl (cells_new _ _ _) (encPt_one _) (by unfold maxLen; omega) (by omega) (by simp; omega) ?_; intro v' w10 hown2 hgrow _; have hb10 := appended O6 hsz6 hgrow)
                    have HOW := Lib.hid (show w10.ownsRow wa.heap.size 24 2 v' ((o.refs.take (q + 1)).filterMap (nodeAt l)).length (((o.refs.take (q + 1)).filterMap (nodeAt l)).flatMap encPt) by rw [HT.out, List.length_append, List.flatMap_append]; simpa using hown2)
                    have B10 := B6.trans hb10
                    clear hown2 hgrow O6
                    go_roundw
                    case rel => exact ⟨q + 1, by omega, by go_num, HA2, HOW.out, B10⟩
                    case measure => simp [intOf]; omega
                  · have HN3 := Lib.hid (show nodeAt l r = none by rw [HN2.out, if_neg kk1])
                    have g1 : (o2.kind != 1) = true := by rw [bne_iff_ne]; exact kk1
                    have HE := Lib.hid (show res = ([], 14) by rw [HR.out, refs_bad l o.refs q r HRR.out HN3.out]; rfl)
                    clear HN2 kk1
                    go_wp2
                    go_ret2
                    exact ⟨⟨_, by rw [HE.out]; rfl, by rw [HE.out]; exact row_nil _ _ _⟩, BR6⟩
              · obtain rfl : q = Rn := by omega
                have htk : o.refs.take q = o.refs := List.take_of_length_le (by rw [HRN.out]; exact Nat.le_refl _)
                rw [htk] at hA hown
                have HE := Lib.hid (show res = (o.refs.filterMap (nodeAt l), 0) by rw [HR.out, hA.out]; rfl)
                have HOW := Lib.hid (RowE.of_own encPt_len rfl hown)
                clear hown
                go_wp2
                go_ret2
                exact ⟨⟨_, by rw [HE.out]; rfl, by rw [HE.out]; exact HOW.out⟩, BR⟩
        · have HR := Lib.hid (show res = ([], 13) by rw [HP2.out]; unfold ptsK; rw [if_neg k1, if_neg k23])
          have f2 : (o.kind == 2) = false := by rw [beq_eq_false_iff_ne]; omega
          have f3 : (o.kind == 3) = false := by rw [beq_eq_false_iff_ne]; omega
          clear HP2 k1 k23
          go_wp2
          go_ret2
          exact ⟨⟨_, by rw [HR.out]; rfl, by rw [HR.out]; exact row_nil _ _ _⟩, B3.alloc B3.size _⟩
end Go.Proofs.YtapllmniplgajaaGreatDoor
