/- Contracts of package grid: Parse. -/
import Derived.Test.YtnilofeakdibhaaDoorGridF
namespace Go.Proofs.YtnilofeakdibhaaDoor
open Go.RowKit

/-- The pieces of a text between slashes. -/
def piecesB (s : ByteArray) : List ByteArray := Lib.splitB slashB 0 (Lib.countB s slashB) s

def ParsePost (s : ByteArray) (w : World) (e : Ending) (w' : World) : Prop :=
  (e = .returned (.tuple #[if validB (numAt (piecesB s) 0) (numAt (piecesB s) 1) (numAt (piecesB s) 2) = true ∧ textB (numAt (piecesB s) 0) (numAt (piecesB s) 1) (numAt (piecesB s) 2) = s then .agg #[.int .i64 (numAt (piecesB s) 0), .int .i64 (numAt (piecesB s) 1), .int .i64 (numAt (piecesB s) 2)] else .agg #[.int .i64 0, .int .i64 0, .int .i64 0],
    if validB (numAt (piecesB s) 0) (numAt (piecesB s) 1) (numAt (piecesB s) 2) = true ∧ textB (numAt (piecesB s) 0) (numAt (piecesB s) 1) (numAt (piecesB s) 2) = s then .int .i64 0 else .int .i64 5])) ∧ Below w.heap.size w w'

theorem splitB_mem (sep : ByteArray) (k : Nat) (s : ByteArray) : ∀ p ∈ Lib.splitB sep 0 k s, p.size ≤ s.size := by
  induction k generalizing s with
  | zero => intro p hp; simp [Lib.splitB] at hp; subst hp; exact Nat.le_refl _
  | succ k ih =>
    intro p hp
    unfold Lib.splitB at hp
    split at hp
    · simp at hp; subst hp; exact Nat.le_refl _
    · rcases List.mem_cons.1 hp with rfl | hp
      · simp only [ByteArray.size_extract]; omega
      · have := ih _ p hp
        simp only [ByteArray.size_extract] at this
        omega
theorem pieces_len (s : ByteArray) (h : s.size ≤ 1000000) : (piecesB s).length = Lib.countB s slashB + 1 ∧ (piecesB s).length ≤ 1000001 ∧ ∀ p ∈ piecesB s, p.size ≤ 1000000 := by
  have h1 : (piecesB s).length = Lib.countB s slashB + 1 := Lib.splitB_all slashB (by rw [slashB_size]; omega) 0 _ s rfl
  refine ⟨h1, ?_, fun p hp => Nat.le_trans (splitB_mem _ _ _ p hp) h⟩
  have := Lib.countB_le slashB (by rw [slashB_size]; omega) s.size s (Nat.le_refl _)
  omega

set_option maxHeartbeats 1000000 in
theorem parse_any (s : ByteArray) (hs : s.size ≤ 1000000) (w : World) (he : Env w) :
    Calls Tryd.prog 11 #[.string s] w (ParsePost s w) := by
  obtain ⟨hlen, hle, hps⟩ := pieces_len s hs
  have HE := Lib.hid he
  obtain ⟨m, hm⟩ := he.maxlen
  have HM := Lib.hid (cell_later (((Below.refl w.heap.size w).alloc (Nat.le_refl _) (.cells #[.int .i64 0, .int .i64 0, .int .i64 0] 23))) hm)
  clear he hm
  have HL := Lib.hid hlen
  clear hlen
  go_enter Tryd.func11, Tryd.ntmps11
  go_wp2_with fail
  refine (Tryd.strings_Split s slashB m _ (by omega) HM.out (by rw [slashB_size]; omega)).mono ?_
  rintro e w1 ⟨rfl, hw1⟩
  rw [← HL.out]
  obtain ⟨n, hn⟩ : ∃ n, (piecesB s).length = n + 1 := ⟨_, HL.out⟩
  have HN := Lib.hid hn
  rw [show (w.alloc (.cells #[.int .i64 0, .int .i64 0, .int .i64 0] 23)).heap.size = w.heap.size + 1 by simp]
  have HP : w1.heap[w.heap.size + 1]? = some (.cells ((piecesB s).map Value.string).toArray 9) := by rw [hw1]; exact row_new1 w _ _
  have HR : w1.heap[w.heap.size]? = some (.cells #[.int .i64 0, .int .i64 0, .int .i64 0] 23) := by rw [hw1]; exact row_past (row_new w _)
  have hb1 : Below w.heap.size w w1 := by rw [hw1]; exact ((Below.refl _ _).alloc (Nat.le_refl _) _).alloc (by simp) _
  have hs1 : w.heap.size + 2 ≤ w1.heap.size := by rw [hw1]; simp
  clear hw1 hn
  have HP' := Lib.hid HP; have HR' := Lib.hid HR; clear HP HR
  have H0 : Hid (Value.slice (some ⟨w.heap.size + 1, 0, none⟩) (piecesB s).length (piecesB s).length = wordsAt (w.heap.size + 1) (piecesB s).length 0) := by
    rw [HN.out, wordsAt, if_pos (by omega)]; exact rfl
  go_wp2_with fail
  have hbig : ∀ p ∈ piecesB s, p.size ≤ 281474976710656 := fun p hp => Nat.le_trans (hps p hp) (by omega)
  have hcnt : (piecesB s).length ≤ 4294967281 := by omega
  have B1 := hb1.alloc (Nat.le_of_lt (by omega)) (.cells #[.slice (some ⟨w.heap.size + 1, 0, none⟩) (piecesB s).length (piecesB s).length] 55)
  have C1 := row_new w1 (.cells #[.slice (some ⟨w.heap.size + 1, 0, none⟩) (piecesB s).length (piecesB s).length] 55)
  have C1 := C1.trans (show _ = some (Obj.cells #[wordsAt (w.heap.size + 1) (piecesB s).length 0] 55 (0, 0)) by rw [H0.out])
  refine (number_any w1.heap.size (w.heap.size + 1) (piecesB s) 0 hcnt hbig _ (HE.out.later B1) C1 (row_past HP'.out)).mono ?_
  rintro e w2 ⟨rfl, hk2, hc2⟩
  have HP2 := Lib.hid (hk2.row (row_past HP'.out) (by omega))
  have HR2 := Lib.hid (hk2.row (row_past HR'.out) (by omega))
  have B2 := hk2.below B1 (Nat.le_refl _) (by omega)
  have S2 := hk2.size; simp at S2
  have HC2 := Lib.hid hc2
  clear hk2 hc2 C1 B1 HP' HR' H0 HM
  go_wp2_with fail
  refine (number_any w1.heap.size (w.heap.size + 1) (piecesB s) 1 hcnt hbig _ (HE.out.later B2) HC2.out HP2.out).mono ?_
  rintro e w3 ⟨rfl, hk3, hc3⟩
  have HP3 := Lib.hid (hk3.row HP2.out (by omega))
  have HR3 := Lib.hid (hk3.row HR2.out (by omega))
  have B3 := hk3.below B2 (Nat.le_refl _) (by omega)
  have S3 := hk3.size
  have HC3 := Lib.hid hc3
  clear hk3 hc3 HP2 HR2 HC2
  go_wp2_with fail
  refine (number_any w1.heap.size (w.heap.size + 1) (piecesB s) 2 hcnt hbig _ (HE.out.later B3) HC3.out HP3.out).mono ?_
  rintro e w4 ⟨rfl, hk4, hc4⟩
  have HR4 := hk4.row HR3.out (by omega)
  have B4 := hk4.below B3 (Nat.le_refl _) (by omega)
  have S4 := hk4.size
  clear hk4 hc4 HP3 HR3 HC3 B2 B3
  have rz := lt_of_block HR4
  have r0 := cell_of_row w4 _ 0 _ _ _ HR4
  have r1 := cell_of_row w4 _ 1 _ _ _ HR4
  have r2 := cell_of_row w4 _ 2 _ _ _ HR4
  have rf0 := frozen_of_row w4 _ 0 _ _ HR4
  have rf1 := frozen_of_row w4 _ 1 _ _ HR4
  have rf2 := frozen_of_row w4 _ 2 _ _ HR4
  simp only [List.getElem?_toArray, List.getElem?_cons_zero, List.getElem?_cons_succ] at r0 r1 r2
  have HR4' := Lib.hid HR4
  clear HR4
  go_wp2_with fail
  have HE4 := Lib.hid (HE.out.later (B4.alloc (by omega) (.cells #[.int .i64 (numAt (piecesB s) 0), .int .i64 (numAt (piecesB s) 1), .int .i64 (numAt (piecesB s) 2)] 23)))
  have hb4 := row_new w4 (.cells #[.int .i64 (numAt (piecesB s) 0), .int .i64 (numAt (piecesB s) 1), .int .i64 (numAt (piecesB s) 2)] 23)
  have HT4 := Lib.hid hb4
  have HR4 := Lib.hid (row_past (o' := .cells #[.int .i64 (numAt (piecesB s) 0), .int .i64 (numAt (piecesB s) 1), .int .i64 (numAt (piecesB s) 2)] 23) HR4'.out)
  clear hb4 r0 r1 r2 rf0 rf1 rf2 HR4'
  by_cases hv : validB (numAt (piecesB s) 0) (numAt (piecesB s) 1) (numAt (piecesB s) 2) = true
  · have HV := Lib.hid hv
    clear hv
    by_cases hx : textB (numAt (piecesB s) 0) (numAt (piecesB s) 1) (numAt (piecesB s) 2) = s
    · have HX := Lib.hid (str_eq_true hx)
      have HF := Lib.hid (And.intro HV.out hx)
      clear hx
      refine (text_ok _ _ _ HV.out _ HE4.out).mono ?_
      rintro e w5 ⟨rfl, hb5⟩
      have S5 := hb5.size; simp at S5
      have HR5 := row_later hb5 HR4.out
      have rz := lt_of_block HR5
      have r0 := cell_of_row w5 _ 0 _ _ _ HR5
      have r1 := cell_of_row w5 _ 1 _ _ _ HR5
      have r2 := cell_of_row w5 _ 2 _ _ _ HR5
      have rf0 := frozen_of_row w5 _ 0 _ _ HR5
      have rf1 := frozen_of_row w5 _ 1 _ _ HR5
      have rf2 := frozen_of_row w5 _ 2 _ _ HR5
      simp only [List.getElem?_toArray, List.getElem?_cons_zero, List.getElem?_cons_succ] at r0 r1 r2
      have HR5' := Lib.hid HR5
      clear HR5
      have HT5 := row_later hb5 HT4.out
      have tz := lt_of_block HT5
      have t0 := cell_of_row w5 _ 0 _ _ _ HT5
      have t1 := cell_of_row w5 _ 1 _ _ _ HT5
      have t2 := cell_of_row w5 _ 2 _ _ _ HT5
      simp only [List.getElem?_toArray, List.getElem?_cons_zero, List.getElem?_cons_succ] at t0 t1 t2
      have HT5' := Lib.hid HT5
      clear HT5
      have hx := HX.out
      go_wp2
      refine bodyPost_ret (v := .tuple #[.agg #[.int .i64 (numAt (piecesB s) 0), .int .i64 (numAt (piecesB s) 1), .int .i64 (numAt (piecesB s) 2)], .int .i64 0]) ?_ rfl ⟨?_, ?_⟩
      · simp [results, Tryd.results11, go_sem, r0, r1, r2]
      · rw [if_pos HF.out, if_pos HF.out]
      · repeat' (first | exact Below.refl _ _ | refine Below.drew ?_ | refine Below.drewN' ?_ | refine Below.setCell ?_ (by first | omega | (simp; done) | exact Below.size (by assumption) | (simp; omega)) _ | refine Below.alloc ?_ (by first | omega | (simp; done) | exact Below.size (by assumption) | (simp; omega)) _ | refine Below.trans ?_ (Below.mono (by assumption) ?_) | (first | omega | (simp; done) | exact Below.size (by assumption) | (simp; omega)))
    · have HX := Lib.hid (str_eq_false hx)
      have HF := Lib.hid (fun h : validB (numAt (piecesB s) 0) (numAt (piecesB s) 1) (numAt (piecesB s) 2) = true ∧ textB (numAt (piecesB s) 0) (numAt (piecesB s) 1) (numAt (piecesB s) 2) = s => hx h.2)
      clear hx
      refine (text_ok _ _ _ HV.out _ HE4.out).mono ?_
      rintro e w5 ⟨rfl, hb5⟩
      have S5 := hb5.size; simp at S5
      have HR5 := row_later hb5 HR4.out
      have rz := lt_of_block HR5
      have r0 := cell_of_row w5 _ 0 _ _ _ HR5
      have r1 := cell_of_row w5 _ 1 _ _ _ HR5
      have r2 := cell_of_row w5 _ 2 _ _ _ HR5
      have rf0 := frozen_of_row w5 _ 0 _ _ HR5
      have rf1 := frozen_of_row w5 _ 1 _ _ HR5
      have rf2 := frozen_of_row w5 _ 2 _ _ HR5
      simp only [List.getElem?_toArray, List.getElem?_cons_zero, List.getElem?_cons_succ] at r0 r1 r2
      have HR5' := Lib.hid HR5
      clear HR5
      have hx := HX.out
      go_wp2
      refine bodyPost_ret (v := .tuple #[.agg #[.int .i64 0, .int .i64 0, .int .i64 0], .int .i64 5]) ?_ rfl ⟨?_, ?_⟩
      · simp [results, Tryd.results11, go_sem, r0, r1, r2]
      · rw [if_neg HF.out, if_neg HF.out]
      · repeat' (first | exact Below.refl _ _ | refine Below.drew ?_ | refine Below.drewN' ?_ | refine Below.setCell ?_ (by first | omega | (simp; done) | exact Below.size (by assumption) | (simp; omega)) _ | refine Below.alloc ?_ (by first | omega | (simp; done) | exact Below.size (by assumption) | (simp; omega)) _ | refine Below.trans ?_ (Below.mono (by assumption) ?_) | (first | omega | (simp; done) | exact Below.size (by assumption) | (simp; omega)))
  · have HV := Lib.hid (Bool.eq_false_iff.2 hv)
    have HF := Lib.hid (fun h : validB (numAt (piecesB s) 0) (numAt (piecesB s) 1) (numAt (piecesB s) 2) = true ∧ textB (numAt (piecesB s) 0) (numAt (piecesB s) 1) (numAt (piecesB s) 2) = s => hv h.1)
    clear hv
    refine (text_arg _ _ _ HV.out _).mono ?_
    rintro e w5 ⟨rfl, hb5⟩
    have S5 := hb5.size; simp at S5
    have HR5 := row_later hb5 HR4.out
    have rz := lt_of_block HR5
    have r0 := cell_of_row w5 _ 0 _ _ _ HR5
    have r1 := cell_of_row w5 _ 1 _ _ _ HR5
    have r2 := cell_of_row w5 _ 2 _ _ _ HR5
    have rf0 := frozen_of_row w5 _ 0 _ _ HR5
    have rf1 := frozen_of_row w5 _ 1 _ _ HR5
    have rf2 := frozen_of_row w5 _ 2 _ _ HR5
    simp only [List.getElem?_toArray, List.getElem?_cons_zero, List.getElem?_cons_succ] at r0 r1 r2
    have HR5' := Lib.hid HR5
    clear HR5
    go_wp2
    refine bodyPost_ret (v := .tuple #[.agg #[.int .i64 0, .int .i64 0, .int .i64 0], .int .i64 5]) ?_ rfl ⟨?_, ?_⟩
    · simp [results, Tryd.results11, go_sem, r0, r1, r2]
    · rw [if_neg HF.out, if_neg HF.out]
    · repeat' (first | exact Below.refl _ _ | refine Below.drew ?_ | refine Below.drewN' ?_ | refine Below.setCell ?_ (by first | omega | (simp; done) | exact Below.size (by assumption) | (simp; omega)) _ | refine Below.alloc ?_ (by first | omega | (simp; done) | exact Below.size (by assumption) | (simp; omega)) _ | refine Below.trans ?_ (Below.mono (by assumption) ?_) | (first | omega | (simp; done) | exact Below.size (by assumption) | (simp; omega)))
end Go.Proofs.YtnilofeakdibhaaDoor
