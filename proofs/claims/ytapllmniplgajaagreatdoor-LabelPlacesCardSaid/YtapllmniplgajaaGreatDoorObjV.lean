/- Contracts of package object: the closure of Valid. -/
import Derived.Test.YtapllmniplgajaaGreatDoorObjS
namespace Go.Proofs.YtapllmniplgajaaGreatDoor
open Go.RowKit

def lastS (pre : List ByteArray) : ByteArray := pre.getLast?.getD ⟨#[]⟩
/-- What the closure's captured variables hold behind some references. -/
structure VSt (w : World) (Bo Bl Bs Bm : Nat) (kind : Int) (pre : List ByteArray) : Prop where
  kindC : w.cell? ⟨Bo, 1, none⟩ = some (.int .i64 kind)
  lastC : w.heap[Bl]? = some (.cells #[.string (lastS pre)] 9 (0, 0))
  seenC : w.heap[Bs]? = some (.cells #[.map (some Bm)] 114 (0, 0))
  setC : SetIs w Bm pre
/-- May a text stand behind these references? -/
def okR (kind : Int) (pre : List ByteArray) (s : ByteArray) : Bool :=
  nameB s && !(decide (kind = 2) && decide (pre.getLast? = some s)) && !(decide (kind = 3) && pre.any fun p => decide (p = s))
theorem name_ne {s : ByteArray} (h : nameB s = true) : s ≠ ⟨#[]⟩ := by
  rintro rfl
  exact absurd h (by decide)
theorem okR_eq (kind : Int) (pre : List ByteArray) (s : ByteArray) :
    (!okR kind pre s) = (((decide (kind = 2) && decide (s = lastS pre)) || (decide (kind = 3) && pre.any fun p => decide (p = s))) || !nameB s) := by
  unfold okR lastS
  cases hn : nameB s
  · simp
  · have hne := name_ne hn
    have e : decide (pre.getLast? = some s) = decide (s = pre.getLast?.getD ⟨#[]⟩) := by
      rw [decide_eq_decide]
      cases pre.getLast? with
      | none => simp [hne]
      | some t => simp [eq_comm]
    rw [e]
    simp
theorem lastS_snoc (pre : List ByteArray) (s : ByteArray) : lastS (pre ++ [s]) = s := by simp [lastS]

theorem Below.grow1 {B : Nat} {w w' : World} {g : Nat} (hB : B ≤ w.heap.size) (hg : w.grownBy w' (some g)) (h : B ≤ g) : Below B w w' :=
  (Below.refl B w).grown hg hB (fun j ej => by cases ej; exact h)

theorem cell_same {w w' : World} {b o : Nat} (h : w'.heap[b]? = w.heap[b]?) : w'.cell? ⟨b, o, none⟩ = w.cell? ⟨b, o, none⟩ := by
  simp only [World.cell?, h]
theorem VSt.later {w w' : World} {Bo Bl Bs Bm : Nat} {kind : Int} {pre : List ByteArray} (h : VSt w Bo Bl Bs Bm kind pre) (hb : Below w.heap.size w w') : VSt w' Bo Bl Bs Bm kind pre :=
  ⟨cell_later hb h.kindC, row_later hb h.lastC, row_later hb h.seenC, h.setC.later (hb.block _ h.setC.lt)⟩
/-- All blocks but two stay as they are. -/
def KeptX (Bl Bm : Nat) (w w' : World) : Prop := ∀ b, b < w.heap.size → b ≠ Bl → b ≠ Bm → w'.heap[b]? = w.heap[b]?
theorem KeptX.refl (Bl Bm : Nat) (w : World) : KeptX Bl Bm w w := fun _ _ _ _ => rfl
theorem KeptX.trans {Bl Bm : Nat} {a b c : World} (h : KeptX Bl Bm a b) (hs : a.heap.size ≤ b.heap.size) (k : KeptX Bl Bm b c) : KeptX Bl Bm a c :=
  fun i hi h1 h2 => (k i (Nat.lt_of_lt_of_le hi hs) h1 h2).trans (h i hi h1 h2)
theorem KeptX.later {Bl Bm : Nat} {a b c : World} (h : KeptX Bl Bm a b) (hs : a.heap.size ≤ b.heap.size) (k : Below b.heap.size b c) : KeptX Bl Bm a c :=
  h.trans hs fun i hi _ _ => k.block i hi
set_option maxRecDepth 100000 in
set_option maxHeartbeats 1000000 in
theorem wrong_any (s : ByteArray) (hs : s.size ≤ 140737488355328) (kind : Int) (pre : List ByteArray) (hn : pre.length ≤ 4000) (Bo Bl Bs Bm B : Nat) (w : World)
    (h : VSt w Bo Bl Bs Bm kind pre) (hl : B ≤ Bl) (hm : B ≤ Bm) (hBw : B ≤ w.heap.size) (n1 : Bo ≠ Bm) (n2 : Bl ≠ Bm) (n3 : Bs ≠ Bm) (n4 : Bo ≠ Bl) (n5 : Bs ≠ Bl) :
    Calls Tryz.prog 83 #[.string s, .pointer (some ⟨Bo, 0, none⟩), .pointer (some ⟨Bl, 0, none⟩), .pointer (some ⟨Bs, 0, none⟩)] w fun e w' => e = .returned (.bool (!okR kind pre s)) ∧ VSt w' Bo Bl Bs Bm kind (pre ++ [s]) ∧ Below B w w' ∧ KeptX Bl Bm w w' := by
  obtain ⟨k0, HL, HS, HM⟩ := h
  have hlook := HM.look s (by unfold maxLen; omega)
  obtain ⟨w1, hput, HM1, hg⟩ := HM.put s (by unfold maxLen; omega) (by unfold maxLen; omega)
  have HL1 : w1.heap[Bl]? = _ := (hg.block Bl (lt_of_block HL) (by simpa using n2)).trans HL
  have HS1 : w1.heap[Bs]? = _ := (hg.block Bs (lt_of_block HS) (by simpa using n3)).trans HS
  have lz := lt_of_block HL
  have l0 := cell_of_row w _ 0 _ _ _ HL
  simp only [List.getElem?_toArray, List.getElem?_cons_zero] at l0
  have HL' := Lib.hid HL
  clear HL
  have mz := lt_of_block HS
  have m0 := cell_of_row w _ 0 _ _ _ HS
  simp only [List.getElem?_toArray, List.getElem?_cons_zero] at m0
  have HS' := Lib.hid HS
  clear HS
  have qz := lt_of_block HL1
  have q0 := cell_of_row w1 _ 0 _ _ _ HL1
  have qf0 := frozen_of_row w1 _ 0 _ _ HL1
  simp only [List.getElem?_toArray, List.getElem?_cons_zero] at q0
  have HL1' := Lib.hid HL1
  clear HL1
  have V2 := Lib.hid (show VSt (w1.setCell ⟨Bl, 0, none⟩ (.string s)) Bo Bl Bs Bm kind (pre ++ [s]) from
    ⟨(cell_same ((Below.heap_setCell _ ⟨Bl, 0, none⟩ _ _ (by simpa using n4)).trans (hg.block Bo (lt_of_cell k0) (by simpa using n1)))).trans k0,
      by rw [lastS_snoc]; exact row_set (i := 0) HL1'.out, row_set_other HS1 (by simpa using n5), HM1.later (Below.heap_setCell _ _ _ _ (by simpa using n2.symm))⟩)
  have B2 : Below B w (w1.setCell ⟨Bl, 0, none⟩ (.string s)) := (Below.grow1 hBw hg hm).setCell (p := ⟨Bl, 0, none⟩) hl _
  have X2 := Lib.hid (show KeptX Bl Bm w (w1.setCell ⟨Bl, 0, none⟩ (.string s)) from fun b hb e1 e2 => (Below.heap_setCell _ ⟨Bl, 0, none⟩ _ _ (by simpa using e1)).trans (hg.block b hb (by simpa using e2)))
  have OK := Lib.hid (okR_eq kind pre s)
  generalize hI : (pre.any fun p => decide (p = s)) = I at *
  clear hI HM HM1 hg HS1 hn
  by_cases e2 : kind = 2
  · subst e2
    by_cases e1 : s = lastS pre
    · have q1 : (s.toList == (lastS pre).toList) = true := str_eq_true e1
      have OK2 := Lib.hid (show (!okR 2 pre s) = true by rw [OK.out]; simp [e1])
      clear e1 OK
      go_enter Tryz.func83, Tryz.ntmps83
      go_wp2_with (go_at_call 81; refine (name_any s hs _).mono ?_; rintro e w3 ⟨rfl, hb3⟩)
      go_ret
      first | exact ⟨ret_bool OK2.out.symm, V2.out, B2, X2.out⟩ | exact ⟨ret_bool OK2.out.symm, V2.out.later hb3, below_step B2 hBw hb3, X2.out.later B2.size hb3⟩
    · have q1 : (s.toList == (lastS pre).toList) = false := str_eq_false e1
      have OK2 := Lib.hid (show (!okR 2 pre s) = !nameB s by rw [OK.out]; simp [e1])
      clear e1 OK
      go_enter Tryz.func83, Tryz.ntmps83
      go_wp2_with (go_at_call 81; refine (name_any s hs _).mono ?_; rintro e w3 ⟨rfl, hb3⟩)
      go_ret
      first | exact ⟨ret_bool OK2.out.symm, V2.out, B2, X2.out⟩ | exact ⟨ret_bool OK2.out.symm, V2.out.later hb3, below_step B2 hBw hb3, X2.out.later B2.size hb3⟩
  · have f2 : (kind == 2) = false := by rw [beq_eq_false_iff_ne]; exact e2
    by_cases e3 : kind = 3
    · subst e3
      cases I
      · have OK2 := Lib.hid (show (!okR 3 pre s) = !nameB s by rw [OK.out]; simp)
        clear OK
        go_enter Tryz.func83, Tryz.ntmps83
        go_wp2_with (go_at_call 81; refine (name_any s hs _).mono ?_; rintro e w3 ⟨rfl, hb3⟩)
        go_ret
        first | exact ⟨ret_bool OK2.out.symm, V2.out, B2, X2.out⟩ | exact ⟨ret_bool OK2.out.symm, V2.out.later hb3, below_step B2 hBw hb3, X2.out.later B2.size hb3⟩
      · have OK2 := Lib.hid (show (!okR 3 pre s) = true by rw [OK.out]; simp)
        clear OK
        go_enter Tryz.func83, Tryz.ntmps83
        go_wp2_with (go_at_call 81; refine (name_any s hs _).mono ?_; rintro e w3 ⟨rfl, hb3⟩)
        go_ret
        first | exact ⟨ret_bool OK2.out.symm, V2.out, B2, X2.out⟩ | exact ⟨ret_bool OK2.out.symm, V2.out.later hb3, below_step B2 hBw hb3, X2.out.later B2.size hb3⟩
    · have f3 : (kind == 3) = false := by rw [beq_eq_false_iff_ne]; exact e3
      have OK2 := Lib.hid (show (!okR kind pre s) = !nameB s by rw [OK.out]; simp [e2, e3])
      clear OK
      go_enter Tryz.func83, Tryz.ntmps83
      go_wp2_with (go_at_call 81; refine (name_any s hs _).mono ?_; rintro e w3 ⟨rfl, hb3⟩)
      go_ret
      first | exact ⟨ret_bool OK2.out.symm, V2.out, B2, X2.out⟩ | exact ⟨ret_bool OK2.out.symm, V2.out.later hb3, below_step B2 hBw hb3, X2.out.later B2.size hb3⟩
end Go.Proofs.YtapllmniplgajaaGreatDoor
