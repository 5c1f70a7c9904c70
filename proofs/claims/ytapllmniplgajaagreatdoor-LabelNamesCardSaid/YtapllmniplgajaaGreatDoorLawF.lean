/- Small functions of the laws on zoom levels and names. -/
import Derived.Test.YtapllmniplgajaaGreatDoorLawZ
import Derived.Test.YtapllmniplgajaaGreatDoorLawA
namespace Go.Proofs.YtapllmniplgajaaGreatDoor
open Go.RowKit Go.Sort

theorem half_any (n : Int) (w : World) : Calls Tryz.prog 28 #[.int .i64 n] w fun e w' => e = .returned (.int .i64 (n / 2)) ∧ Below w.heap.size w w' := by
  go_enter Tryz.func28, Tryz.ntmps28
  go_wp2
  go_ret
  exact ⟨rfl, Below.refl _ _⟩

def zeroLab : LabD := ⟨⟨#[]⟩, 0, 0, 0, 0, 0⟩
def FindPost (r : Option LabD) (w : World) (e : Ending) (w' : World) : Prop := e = .returned (.tuple #[.agg #[.string (r.getD zeroLab).id, .int .i64 (r.getD zeroLab).x, .int .i64 (r.getD zeroLab).y, .int .i64 (r.getD zeroLab).w, .int .i64 (r.getD zeroLab).h, .int .i64 (r.getD zeroLab).rank], .bool r.isSome]) ∧ Below w.heap.size w w'
theorem find_here (id : ByteArray) (l : List LabD) (k : Nat) (x : LabD) (hx : l[k]? = some x) (hn : ∀ (j : Nat) (y : LabD), j < k → l[j]? = some y → y.id ≠ id) (he : x.id = id) : findL id l = some x := by
  unfold findL
  rw [List.find?_eq_some_iff_getElem]
  obtain ⟨hk, rfl⟩ := List.getElem?_eq_some_iff.1 hx
  refine ⟨decide_eq_true he, k, hk, rfl, fun j hj => ?_⟩
  simpa using hn j _ hj (List.getElem?_eq_getElem (by omega))
theorem find_not (id : ByteArray) (l : List LabD) (hn : ∀ (j : Nat) (y : LabD), l[j]? = some y → y.id ≠ id) : findL id l = none := by
  unfold findL
  rw [List.find?_eq_none]
  intro x hx
  obtain ⟨j, hj, rfl⟩ := List.getElem_of_mem hx
  simpa using hn j _ (List.getElem?_eq_getElem hj)

set_option maxRecDepth 100000 in
set_option maxHeartbeats 2000000 in
theorem find_any (v : Value) (l : List LabD) (id : ByteArray) (w : World) (hv : LabRow w v l) (hl : l.length ≤ 4000) :
    Calls Tryz.prog 27 #[v, .string id] w (FindPost (findL id l) w) := by
  obtain ⟨a, cap, rfl, hc⟩ := hv
  obtain ⟨N, hN⟩ : ∃ N, l.length = N := ⟨_, rfl⟩
  rw [hN] at hc hl ⊢
  have HN := Lib.hid hN
  have HC := Lib.hid hc
  clear hN hc
  obtain ⟨res, hres⟩ : ∃ r, r = findL id l := ⟨_, rfl⟩
  rw [← hres]
  have HRES := Lib.hid hres
  clear hres
  go_enter Tryz.func27, Tryz.ntmps27
  go_wp2_with fail
  have B1 : Below w.heap.size w (w.alloc (.cells #[.string ⟨#[]⟩, .int .i64 0, .int .i64 0, .int .i64 0, .int .i64 0, .int .i64 0] 47)) := (Below.refl _ w).alloc (Nat.le_refl _) _
  have HO := row_new w (.cells #[.string ⟨#[]⟩, .int .i64 0, .int .i64 0, .int .i64 0, .int .i64 0, .int .i64 0] 47)
  generalize hw1 : w.alloc (.cells #[.string ⟨#[]⟩, .int .i64 0, .int .i64 0, .int .i64 0, .int .i64 0, .int .i64 0] 47) = w1
  rw [hw1] at B1 HO
  clear hw1
  obtain ⟨bx, hbx⟩ : ∃ bx, w.heap.size = bx := ⟨_, rfl⟩
  rw [hbx] at HO ⊢
  have HZ := Lib.hid hbx
  have HOh := Lib.hid HO
  have hz1 : bx < w1.heap.size := lt_of_block HO
  clear HO
  go_loopw [6] (fun i wr => ∃ k : Nat, k ≤ N ∧ i = .int .i64 k ∧ (∀ (j : Nat) (y : LabD), j < k → l[j]? = some y → y.id ≠ id) ∧ Below w1.heap.size w1 wr) (fun i _ => N - (intOf i).toNat)
  case atStart => exact ⟨0, by omega, rfl, (fun j y h _ => by omega), Below.refl _ _⟩
  case round =>
    obtain ⟨k, hk, rfl, hT, hbr⟩ := hrel
    have HT := Lib.hid hT
    clear hT
    have BR := below_step B1 (Nat.le_refl _) hbr
    have HOr := row_later hbr HOh.out
    by_cases hlt : k < N
    · obtain ⟨x, hx⟩ : ∃ x, l[k]? = some x := ⟨l[k]'(by rw [HN.out]; exact hlt), List.getElem?_eq_getElem _⟩
      obtain ⟨b, off, ha, hcell⟩ := HC.out (by omega)
      subst ha
      have HX := Lib.hid hx
      have HCX := Lib.hid (fun i u hu => hcell k x hx i u hu)
      have hbb : b < w.heap.size := lt_of_cell (hcell k x hx 0 _ rfl)
      clear hcell hx
      have c0 : wr.cell? ⟨b, off + k * 6, none⟩ = some (.string x.id) := cell_later BR (HCX.out 0 _ rfl)
      have c1 : wr.cell? ⟨b, off + k * 6 + 1, none⟩ = some (.int .i64 x.x) := cell_later BR (HCX.out 1 _ rfl)
      have c2 : wr.cell? ⟨b, off + k * 6 + 2, none⟩ = some (.int .i64 x.y) := cell_later BR (HCX.out 2 _ rfl)
      have c3 : wr.cell? ⟨b, off + k * 6 + 3, none⟩ = some (.int .i64 x.w) := cell_later BR (HCX.out 3 _ rfl)
      have c4 : wr.cell? ⟨b, off + k * 6 + 4, none⟩ = some (.int .i64 x.h) := cell_later BR (HCX.out 4 _ rfl)
      have c5 : wr.cell? ⟨b, off + k * 6 + 5, none⟩ = some (.int .i64 x.rank) := cell_later BR (HCX.out 5 _ rfl)
      by_cases hxy : x.id = id
      · have he : (x.id.toList == id.toList) = true := str_eq_true hxy
        have HR := Lib.hid (show res = some x by rw [HRES.out]; exact find_here id l k x HX.out HT.out hxy)
        clear hxy
        have pz := lt_of_block HOr
        have p0 := cell_of_row wr _ 0 _ _ _ HOr
        have p1 := cell_of_row wr _ 1 _ _ _ HOr
        have p2 := cell_of_row wr _ 2 _ _ _ HOr
        have p3 := cell_of_row wr _ 3 _ _ _ HOr
        have p4 := cell_of_row wr _ 4 _ _ _ HOr
        have p5 := cell_of_row wr _ 5 _ _ _ HOr
        have pf0 := frozen_of_row wr _ 0 _ _ HOr
        have pf1 := frozen_of_row wr _ 1 _ _ HOr
        have pf2 := frozen_of_row wr _ 2 _ _ HOr
        have pf3 := frozen_of_row wr _ 3 _ _ HOr
        have pf4 := frozen_of_row wr _ 4 _ _ HOr
        have pf5 := frozen_of_row wr _ 5 _ _ HOr
        simp only [List.getElem?_toArray, List.getElem?_cons_zero, List.getElem?_cons_succ] at p0 p1 p2 p3 p4 p5
        have HOr' := Lib.hid HOr
        clear HOr
        go_wp2
        refine bodyPost_ret (v := .tuple #[.agg #[.string x.id, .int .i64 x.x, .int .i64 x.y, .int .i64 x.w, .int .i64 x.h, .int .i64 x.rank], .bool true]) ?_ rfl ⟨by rw [HR.out]; rfl, ?_⟩
        · simp [results, Tryz.results27, go_sem, p0, p1, p2, p3, p4, p5]
        · exact (((((BR.setCell (Nat.le_of_eq hbx) _).setCell (Nat.le_of_eq hbx) _).setCell (Nat.le_of_eq hbx) _).setCell (Nat.le_of_eq hbx) _).setCell (Nat.le_of_eq hbx) _).setCell (Nat.le_of_eq hbx) _
      · have he : (x.id.toList == id.toList) = false := str_eq_false hxy
        have HG : Hid (∀ (j : Nat) (z : LabD), j < k + 1 → l[j]? = some z → z.id ≠ id) := Lib.hid (fun j z hj hz => by
          by_cases hjq : j = k
          · subst hjq
            rw [HX.out] at hz; cases hz; exact hxy
          · exact HT.out j z (by omega) hz)
        clear hxy c1 c2 c3 c4 c5
        go_wp2
        go_roundw
        case rel => exact ⟨k + 1, by omega, by go_num, HG.out, hbr⟩
        case measure => simp [intOf]; omega
    · obtain rfl : k = N := by omega
      have HR := Lib.hid (show res = none by
        rw [HRES.out]
        refine find_not id l fun j y hj => HT.out j y ?_ hj
        rw [← HN.out]; exact (List.getElem?_eq_some_iff.1 hj).1)
      have pz := lt_of_block HOr
      have p0 := cell_of_row wr _ 0 _ _ _ HOr
      have p1 := cell_of_row wr _ 1 _ _ _ HOr
      have p2 := cell_of_row wr _ 2 _ _ _ HOr
      have p3 := cell_of_row wr _ 3 _ _ _ HOr
      have p4 := cell_of_row wr _ 4 _ _ _ HOr
      have p5 := cell_of_row wr _ 5 _ _ _ HOr
      have pf0 := frozen_of_row wr _ 0 _ _ HOr
      have pf1 := frozen_of_row wr _ 1 _ _ HOr
      have pf2 := frozen_of_row wr _ 2 _ _ HOr
      have pf3 := frozen_of_row wr _ 3 _ _ HOr
      have pf4 := frozen_of_row wr _ 4 _ _ HOr
      have pf5 := frozen_of_row wr _ 5 _ _ HOr
      simp only [List.getElem?_toArray, List.getElem?_cons_zero, List.getElem?_cons_succ] at p0 p1 p2 p3 p4 p5
      have HOr' := Lib.hid HOr
      clear HOr
      go_wp2
      refine bodyPost_ret (v := .tuple #[.agg #[.string ⟨#[]⟩, .int .i64 0, .int .i64 0, .int .i64 0, .int .i64 0, .int .i64 0], .bool false]) ?_ rfl ⟨by rw [HR.out]; rfl, ?_⟩
      · simp [results, Tryz.results27, go_sem, p0, p1, p2, p3, p4, p5]
      · exact (((((BR.setCell (Nat.le_of_eq hbx) _).setCell (Nat.le_of_eq hbx) _).setCell (Nat.le_of_eq hbx) _).setCell (Nat.le_of_eq hbx) _).setCell (Nat.le_of_eq hbx) _).setCell (Nat.le_of_eq hbx) _
end Go.Proofs.YtapllmniplgajaaGreatDoor
