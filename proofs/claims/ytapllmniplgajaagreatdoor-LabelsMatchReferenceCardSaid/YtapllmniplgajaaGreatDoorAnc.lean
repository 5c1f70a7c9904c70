/- label.anchor. -/
import Derived.Test.YtapllmniplgajaaGreatDoorAtlP
namespace Go.Proofs.YtapllmniplgajaaGreatDoor
open Go.RowKit

/-- The point of the label of an object of some kind with some points. -/
def anchorP (kind : Int) (ps : List (Int × Int)) : Option (Int × Int) :=
  if ps = [] then none else if kind = 3 then some ((ps.map (·.1)).sum / ps.length, (ps.map (·.2)).sum / ps.length) else ps[ps.length / 2]?
def anchorO (l : List ObjD) (o : ObjD) : Option (Int × Int) := if (ptsO l o.id).2 = 0 then anchorP o.kind (ptsO l o.id).1 else none
def AncPost (r : Option (Int × Int)) (w : World) (e : Ending) (w' : World) : Prop := e = .returned (.tuple #[.agg #[.int .i64 (r.getD (0, 0)).1, .int .i64 (r.getD (0, 0)).2], .bool r.isSome]) ∧ Below w.heap.size w w'

def onG (p : Int × Int) : Prop := 0 ≤ p.1 ∧ p.1 < 1048576 ∧ 0 ≤ p.2 ∧ p.2 < 1048576
theorem obj_on {o : ObjD} (h : objOK o = true) (hk : o.kind = 1) : onG (o.x, o.y) := by
  simp only [objOK, Bool.and_eq_true] at h
  have h2 := h.2
  rw [if_pos hk, Bool.and_eq_true] at h2
  have := of_decide_eq_true h2.2
  show 0 ≤ o.x ∧ o.x < 1048576 ∧ 0 ≤ o.y ∧ o.y < 1048576
  omega
theorem node_on {l : List ObjD} (hok : mapOK l = true) {r : ByteArray} {p : Int × Int} (h : nodeAt l r = some p) : onG p := by
  unfold nodeAt at h
  split at h
  · split at h
    · rename_i o ho
      split at h
      · rename_i hk
        injection h with h
        subst h
        exact obj_on (map_obj hok (List.mem_of_getElem? ho)) hk
      · cases h
    · cases h
  · cases h
theorem ptsK_on (l : List ObjD) (o : ObjD) (hok : mapOK l = true) (hob : objOK o = true) : (∀ p ∈ (ptsK l o).1, onG p) ∧ (ptsK l o).1.length ≤ 2000 := by
  unfold ptsK
  by_cases hk : o.kind = 1
  · rw [if_pos hk]
    refine ⟨fun p hp => ?_, by simp⟩
    obtain rfl : p = (o.x, o.y) := by simpa using hp
    exact obj_on hob hk
  · rw [if_neg hk]
    by_cases hk2 : o.kind = 2 ∨ o.kind = 3
    · rw [if_pos hk2]
      cases ha : o.refs.all (fun r => (nodeAt l r).isSome)
      · exact ⟨fun p hp => (by simp at hp), by simp⟩
      · refine ⟨fun p hp => ?_, ?_⟩
        · obtain ⟨r, _, e⟩ := List.mem_filterMap.1 (show p ∈ o.refs.filterMap (nodeAt l) from hp)
          exact node_on hok e
        · have h1 := List.length_filterMap_le (nodeAt l) o.refs
          have h2 := obj_refs hob
          show (o.refs.filterMap (nodeAt l)).length ≤ 2000
          omega
    · rw [if_neg hk2]; exact ⟨fun p hp => (by cases hp), by simp⟩
theorem pts_on (l : List ObjD) (id : ByteArray) : (∀ p ∈ (ptsO l id).1, onG p) ∧ (ptsO l id).1.length ≤ 2000 := by
  cases hok : mapOK l
  · rw [ptsO_bad l id hok]; exact ⟨fun p hp => (by cases hp), by simp⟩
  · cases hp : posO id l with
    | none => rw [ptsO_none l id hok hp]; exact ⟨fun p hp => (by cases hp), by simp⟩
    | some i =>
      obtain ⟨o, ho, _⟩ := posO_some id l i hp
      rw [ptsO_some l id hok i hp o ho]
      exact ptsK_on l o hok (map_obj hok (List.mem_of_getElem? ho))
theorem sum_bd : ∀ ps : List (Int × Int), (∀ p ∈ ps, onG p) → 0 ≤ (ps.map (·.1)).sum ∧ (ps.map (·.1)).sum ≤ 1048576 * ps.length ∧ 0 ≤ (ps.map (·.2)).sum ∧ (ps.map (·.2)).sum ≤ 1048576 * ps.length
  | [], _ => by simp
  | p :: ps, h => by
    have h1 := h p (List.mem_cons_self ..)
    have h2 := sum_bd ps (fun q hq => h q (List.mem_cons_of_mem _ hq))
    unfold onG at h1
    simp only [List.map_cons, List.sum_cons, List.length_cons]
    omega
theorem sum_take (ps : List (Int × Int)) (k : Nat) (p : Int × Int) (hp : ps[k]? = some p) : ((ps.take (k + 1)).map (·.1)).sum = ((ps.take k).map (·.1)).sum + p.1 ∧ ((ps.take (k + 1)).map (·.2)).sum = ((ps.take k).map (·.2)).sum + p.2 := by
  obtain ⟨hk, rfl⟩ := List.getElem?_eq_some_iff.1 hp
  rw [List.take_succ_eq_append_getElem hk, List.map_append, List.map_append, List.sum_append, List.sum_append]
  simp


set_option maxRecDepth 100000 in
set_option maxHeartbeats 4000000 in
theorem anchor_any (v vr vt : Value) (l : List ObjD) (o : ObjD) (w : World) (hv : ObjsIs w v l) (hr : StrRow w vr o.refs) (ht : TagRow w vt o.tags) :
    Calls Tryz.prog 43 #[.agg #[v], .agg #[.string o.id, .int .i64 o.kind, .int .i64 o.x, .int .i64 o.y, vr, vt]] w (AncPost (anchorO l o) w) := by
  have PT := Lib.hid (fun w' hb => points_any v l o.id w' (hv.later (w' := w') hb))
  have PO := Lib.hid (pts_on l o.id)
  have HA : Hid (anchorO l o = if (ptsO l o.id).2 = 0 then anchorP o.kind (ptsO l o.id).1 else none) := Lib.hid rfl
  generalize anchorO l o = res at HA ⊢
  generalize ptsO l o.id = pr at PT PO HA
  obtain ⟨ps, err⟩ := pr
  obtain ⟨a, cap, rfl, _⟩ := hv
  obtain ⟨ar, capr, rfl, _⟩ := hr
  obtain ⟨at1, capt, rfl, _⟩ := ht
  go_enter Tryz.func43, Tryz.ntmps43
  go_wp2_with fail
  have B1 : Below w.heap.size w (((w.alloc (.cells #[.slice a l.length cap] 35)).alloc (.cells #[.string o.id, .int .i64 o.kind, .int .i64 o.x, .int .i64 o.y, .slice ar o.refs.length capr, .slice at1 o.tags.length capt] 59)).alloc (.cells #[.int .i64 0, .int .i64 0] 24)) := (((Below.refl _ w).alloc (Nat.le_refl _) _).alloc (by simp) _).alloc (by simp; omega) _
  refine (PT.out _ B1).mono ?_
  rintro e w2 ⟨⟨vp, rfl, hrow⟩, hb2⟩
  have H4 := row_later hb2 (row_new2 w (.cells #[.slice a l.length cap] 35) (.cells #[.string o.id, .int .i64 o.kind, .int .i64 o.x, .int .i64 o.y, .slice ar o.refs.length capr, .slice at1 o.tags.length capt] 59) (.cells #[.int .i64 0, .int .i64 0] 24))
  have H3 := row_later hb2 (row_past (o' := .cells #[.int .i64 0, .int .i64 0] 24) (row_new1 w (.cells #[.slice a l.length cap] 35) (.cells #[.string o.id, .int .i64 o.kind, .int .i64 o.x, .int .i64 o.y, .slice ar o.refs.length capr, .slice at1 o.tags.length capt] 59)))
  have B2 := below_step B1 (Nat.le_refl _) hb2
  have hs2 : w.heap.size + 3 ≤ w2.heap.size := by have := hb2.size; simpa using this
  clear B1 hb2 PT
  have H4h := Lib.hid H4
  have H3h := Lib.hid H3
  obtain ⟨ap, capp, rfl, hpc⟩ := hrow
  have HPC := Lib.hid hpc
  simp only [] at PO HA HPC ⊢
  clear hpc
  have b4z := lt_of_block H4
  have b40 := cell_of_row w2 _ 0 _ _ _ H4
  have b41 := cell_of_row w2 _ 1 _ _ _ H4
  have b4f0 := frozen_of_row w2 _ 0 _ _ H4
  have b4f1 := frozen_of_row w2 _ 1 _ _ H4
  simp only [List.getElem?_toArray, List.getElem?_cons_zero, List.getElem?_cons_succ] at b40 b41
  have H4' := Lib.hid H4
  clear H4
  have b3z := lt_of_block H3
  have b30 := cell_of_row w2 _ 0 _ _ _ H3
  have b31 := cell_of_row w2 _ 1 _ _ _ H3
  have b32 := cell_of_row w2 _ 2 _ _ _ H3
  have b33 := cell_of_row w2 _ 3 _ _ _ H3
  have b34 := cell_of_row w2 _ 4 _ _ _ H3
  have b35 := cell_of_row w2 _ 5 _ _ _ H3
  simp only [List.getElem?_toArray, List.getElem?_cons_zero, List.getElem?_cons_succ] at b30 b31 b32 b33 b34 b35
  have H3' := Lib.hid H3
  clear H3
  by_cases he : err = 0
  · have e1 : (err != 0) = false := by rw [he]; rfl
    have PO2 := PO.out
    have HA2 := Lib.hid (show res = anchorP o.kind ps by rw [HA.out]; simp [he])
    clear HA PO
    by_cases hp0 : ps = []
    · have HR := Lib.hid (show res = none by rw [HA2.out]; unfold anchorP; rw [if_pos hp0])
      have n0 : ps.length = 0 := by rw [hp0]; rfl
      have n1 : ((ps.length : Int) == 0) = true := by rw [n0]; rfl
      clear hp0 HA2
      go_wp2
      refine bodyPost_ret (v := .tuple #[.agg #[.int .i64 0, .int .i64 0], .bool false]) ?_ rfl ⟨by rw [HR.out]; rfl, ?_⟩
      · simp [results, Tryz.results43, go_sem, b40, b41]
      · exact (B2.setCell (by simp; omega) _).setCell (by simp; omega) _
    · have hpos : 0 < ps.length := List.length_pos_iff.2 hp0
      have n1 : ((ps.length : Int) == 0) = false := by rw [beq_eq_false_iff_ne]; omega
      have nz : (ps.length : Int) ≠ 0 := by omega
      obtain ⟨bp, offp, hap, hcell⟩ := HPC.out hpos
      subst hap
      have hn2 := PO2.2
      by_cases k3 : o.kind = 3
      · have f3 : (o.kind != 3) = false := by rw [k3]; rfl
        have HR := Lib.hid (show res = some ((ps.map (·.1)).sum / ps.length, (ps.map (·.2)).sum / ps.length) by rw [HA2.out]; unfold anchorP; rw [if_neg hp0, if_pos k3])
        obtain ⟨n, hn⟩ : ∃ n, ps.length = n := ⟨_, rfl⟩
        have HN := Lib.hid hn
        have SB := sum_bd ps PO2.1
        have HON := Lib.hid PO2.1
        rw [hn] at hpos n1 nz hn2 HR SB ⊢
        have HCE := Lib.hid hcell
        clear hp0 k3 HA2 hcell HPC hn PO2
        go_wp2
        go_loopw [37] (fun i wr => ∃ q : Nat, q ≤ n ∧ i = .int .i64 q ∧ wr.heap[w2.heap.size]? = some (.cells #[.int .i64 ((ps.take q).map (·.1)).sum, .int .i64 ((ps.take q).map (·.2)).sum] 24 (0, 0)) ∧ Below w2.heap.size w2 wr) (fun i _ => n - (intOf i).toNat)
        case atStart => exact ⟨0, by omega, rfl, row_new w2 (.cells #[.int .i64 0, .int .i64 0] 24), (Below.refl _ _).alloc (Nat.le_refl _) _⟩
        case round =>
          obtain ⟨q, hq, rfl, hS, hbr⟩ := hrel
          by_cases hlt : q < n
          · obtain ⟨p, hp⟩ : ∃ p, ps[q]? = some p := ⟨ps[q]'(by rw [HN.out]; exact hlt), List.getElem?_eq_getElem _⟩
            have c0 : wr.cell? ⟨bp, offp + q * 2, none⟩ = some (.int .i64 p.1) := cell_later hbr (HCE.out q p hp 0 _ rfl)
            have c1 : wr.cell? ⟨bp, offp + q * 2 + 1, none⟩ = some (.int .i64 p.2) := cell_later hbr (HCE.out q p hp 1 _ rfl)
            have bz := lt_of_cell c0
            have HT := Lib.hid (sum_take ps q p hp)
            have hon := HON.out p (List.mem_of_getElem? hp)
            unfold onG at hon
            have hst := sum_bd (ps.take q) (fun x hx => HON.out x (List.mem_of_mem_take hx))
            rw [List.length_take] at hst
            clear hp
            generalize ((ps.take q).map (·.1)).sum = sx at hS HT hst
            generalize ((ps.take q).map (·.2)).sum = sy at hS HT hst
            have hS0 := Lib.hid hS
            have w1x : IntKind.i64.wrap (sx + p.1) = sx + p.1 := by rw [IntKind.wrap_i64]; omega
            have w1y : IntKind.i64.wrap (sy + p.2) = sy + p.2 := by rw [IntKind.wrap_i64]; omega
            have sz := lt_of_block hS
            have s0 := cell_of_row wr _ 0 _ _ _ hS
            have s1 := cell_of_row wr _ 1 _ _ _ hS
            have sf0 := frozen_of_row wr _ 0 _ _ hS
            have sf1 := frozen_of_row wr _ 1 _ _ hS
            simp only [List.getElem?_toArray, List.getElem?_cons_zero, List.getElem?_cons_succ] at s0 s1
            have hS' := Lib.hid hS
            clear hS
            go_wp2
            go_roundw
            case rel =>
              refine ⟨q + 1, by omega, by go_num, ?_, ?_⟩
              · rw [HT.out.1, HT.out.2]
                have r1 := row_past (o' := .cells #[.int .i64 p.1, .int .i64 p.2] 24) (row_set (i := 1) (v := .int .i64 (sy + p.2)) (row_set (i := 0) (v := .int .i64 (sx + p.1)) hS0.out))
                simpa using r1
              · exact ((hbr.setCell (Nat.le_refl _) _).setCell (Nat.le_refl _) _).alloc (by have := hbr.size; simp; omega) _
            case measure => simp [intOf]; omega
          · obtain rfl : q = n := by omega
            have htk : ps.take q = ps := List.take_of_length_le (by rw [HN.out]; exact Nat.le_refl _)
            rw [htk] at hS
            have H4r := row_later hbr H4h.out
            generalize (ps.map (·.1)).sum = sx at hS SB HR
            generalize (ps.map (·.2)).sum = sy at hS SB HR
            have tx : sx.tdiv q = sx / q := Int.tdiv_eq_ediv_of_nonneg (by omega)
            have ty : sy.tdiv q = sy / q := Int.tdiv_eq_ediv_of_nonneg (by omega)
            have dx0 : 0 ≤ sx / q := Int.ediv_nonneg (by omega) (by omega)
            have dy0 : 0 ≤ sy / q := Int.ediv_nonneg (by omega) (by omega)
            have dx1 : sx / q ≤ sx := Int.ediv_le_self _ (by omega)
            have dy1 : sy / q ≤ sy := Int.ediv_le_self _ (by omega)
            clear b40 b41 b4f0 b4f1 b4z H4'
            have sz := lt_of_block hS
            have s0 := cell_of_row wr _ 0 _ _ _ hS
            have s1 := cell_of_row wr _ 1 _ _ _ hS
            simp only [List.getElem?_toArray, List.getElem?_cons_zero, List.getElem?_cons_succ] at s0 s1
            have hS' := Lib.hid hS
            clear hS
            have b4z := lt_of_block H4r
            have b40 := cell_of_row wr _ 0 _ _ _ H4r
            have b41 := cell_of_row wr _ 1 _ _ _ H4r
            have b4f0 := frozen_of_row wr _ 0 _ _ H4r
            have b4f1 := frozen_of_row wr _ 1 _ _ H4r
            simp only [List.getElem?_toArray, List.getElem?_cons_zero, List.getElem?_cons_succ] at b40 b41
            have H4r' := Lib.hid H4r
            clear H4r
            have BR := below_step B2 (Nat.le_refl _) hbr
            go_wp2_with fail
            go_region
            go_wp2
            refine bodyPost_ret (v := .tuple #[.agg #[.int .i64 (sx / q), .int .i64 (sy / q)], .bool true]) ?_ rfl ⟨by rw [HR.out]; rfl, ?_⟩
            · simp [results, Tryz.results43, go_sem, b40, b41]
            · exact ((BR.setCell (by simp; omega) _).setCell (by simp; omega) _).drew
      · have f3 : (o.kind != 3) = true := by rw [bne_iff_ne]; exact k3
        obtain ⟨j, hj⟩ : ∃ j, j = ps.length / 2 := ⟨_, rfl⟩
        have hjl : j < ps.length := by omega
        obtain ⟨p, hp⟩ : ∃ p, ps[j]? = some p := ⟨ps[j]'hjl, List.getElem?_eq_getElem _⟩
        have HR := Lib.hid (show res = some p by rw [HA2.out]; unfold anchorP; rw [if_neg hp0, if_neg k3, ← hj, hp])
        have tj : (ps.length : Int).tdiv 2 = (j : Int) := by rw [Int.tdiv_eq_ediv_of_nonneg (by omega)]; omega
        have c0 : w2.cell? ⟨bp, offp + j * 2, none⟩ = some (.int .i64 p.1) := hcell j p hp 0 _ rfl
        have c1 : w2.cell? ⟨bp, offp + j * 2 + 1, none⟩ = some (.int .i64 p.2) := hcell j p hp 1 _ rfl
        have jz : (j : Int) < (ps.length : Int) := by omega
        clear hp0 k3 HA2 hcell HPC hp hj
        go_wp2
        refine bodyPost_ret (v := .tuple #[.agg #[.int .i64 p.1, .int .i64 p.2], .bool true]) ?_ rfl ⟨by rw [HR.out]; rfl, ?_⟩
        · simp [results, Tryz.results43, go_sem, b40, b41]
        · exact (B2.setCell (by simp; omega) _).setCell (by simp; omega) _
  · have e1 : (err != 0) = true := by rw [bne_iff_ne]; exact he
    have HR := Lib.hid (show res = none by rw [HA.out]; simp [he])
    clear HA PO he
    go_wp2
    refine bodyPost_ret (v := .tuple #[.agg #[.int .i64 0, .int .i64 0], .bool false]) ?_ rfl ⟨by rw [HR.out]; rfl, ?_⟩
    · simp [results, Tryz.results43, go_sem, b40, b41]
    · exact (B2.setCell (by simp; omega) _).setCell (by simp; omega) _
end Go.Proofs.YtapllmniplgajaaGreatDoor
