/- The reference's refs: an object's references. When an object is valid. -/
import Derived.Test.YtbkomdinchiffaaGreatObjSVX
namespace Go.Proofs.YtbkomdinchiffaaGreat
open Go.RowKit

def refsEnd (kind : Int) (n : Nat) : Bool :=
  if kind = 1 then decide (n = 0) else if kind = 2 then decide (2 ≤ n) else if kind = 3 then decide (3 ≤ n) else if kind = 4 then decide (1 ≤ n) else decide (n = 3)

theorem last_snoc {α : Type} (l : List α) (x : α) : (l ++ [x]).getLast? = some x := by simp

set_option maxRecDepth 100000 in
set_option maxHeartbeats 2000000 in
theorem rrefs_any (id : ByteArray) (kind x y : Int) (vr vt : Value) (l : List ByteArray) (w : World) (hv : StrRow w vr l) :
    Calls Tryz.prog 127 #[.agg #[.string id, .int .i64 kind, .int .i64 x, .int .i64 y, vr, vt]] w fun e w' => e = .returned (.bool (decide (l.length ≤ 2000) && refsFrom kind [] l && refsEnd kind l.length)) ∧ Below w.heap.size w w' := by
  obtain ⟨a, cap, rfl, hn, hsz, hc⟩ := hv
  generalize hN : l.length = N at *
  have HN := Lib.hid hN
  have HZ := Lib.hid hsz
  have HC := Lib.hid hc
  clear hN hsz hc
  by_cases h2 : 2000 < N
  · have HE := Lib.hid (show (decide (N ≤ 2000) && refsFrom kind [] l && refsEnd kind N) = false by rw [decide_eq_false (by omega)]; simp)
    rw [HE.out]
    go_enter Tryz.func127, Tryz.ntmps127
    go_wp2
    go_ret
    refine ⟨rfl, ?_⟩
    repeat' (first | exact Below.refl _ _ | refine Below.drew ?_ | refine Below.drewN' ?_ | refine Below.setCell ?_ (by first | omega | (simp; done) | exact Below.size (by assumption) | (simp; omega)) _ | refine Below.alloc ?_ (by first | omega | (simp; done) | exact Below.size (by assumption) | (simp; omega)) _ | refine Below.trans ?_ (Below.mono (by assumption) ?_) | (first | omega | (simp; done) | exact Below.size (by assumption) | (simp; omega)))
  have hle : decide (N ≤ 2000) = true := by rw [decide_eq_true_eq]; omega
  rw [hle, Bool.true_and]
  clear hle
  have hmm := @run_makeMap Tryz.prog
  go_enter Tryz.func127, Tryz.ntmps127
  go_wp2
  clear hmm
  have GO := Lib.hid (row_past (o' := .map #[] 0) (row_new w (.cells #[.string id, .int .i64 kind, .int .i64 x, .int .i64 y, .slice a N cap, vt] 59)))
  have HM := Lib.hid (SetIs.made (w.alloc (.cells #[.string id, .int .i64 kind, .int .i64 x, .int .i64 y, .slice a N cap, vt] 59)))
  have B0 : Below w.heap.size w ((w.alloc (.cells #[.string id, .int .i64 kind, .int .i64 x, .int .i64 y, .slice a N cap, vt] 59)).alloc (.map #[] 0)) := ((Below.refl _ _).alloc (Nat.le_refl _) _).alloc (by simp) _
  rw [show (w.alloc (.cells #[.string id, .int .i64 kind, .int .i64 x, .int .i64 y, .slice a N cap, vt] 59)).heap.size = w.heap.size + 1 by simp] at HM
  generalize hw1 : (w.alloc (.cells #[.string id, .int .i64 kind, .int .i64 x, .int .i64 y, .slice a N cap, vt] 59)).alloc (.map #[] 0) = w1
  rw [hw1] at GO HM B0
  clear hw1
  go_loopw [5] (fun i wr => ∃ k : Nat, k ≤ N ∧ i = .int .i64 k ∧ refsFrom kind [] l = refsFrom kind (l.take k) (l.drop k) ∧ wr.heap[w.heap.size]? = some (.cells #[.string id, .int .i64 kind, .int .i64 x, .int .i64 y, .slice a N cap, vt] 59 (0, 0)) ∧ SetIs wr (w.heap.size + 1) (l.take k) ∧ Below w.heap.size w wr) (fun i _ => N - (intOf i).toNat)
  case atStart => exact ⟨0, by omega, rfl, rfl, GO.out, HM.out, B0⟩
  case round =>
    obtain ⟨k, hk, rfl, hT, hO, hM, hbr⟩ := hrel
    have HT := Lib.hid hT
    have HMK := Lib.hid hM
    have GOK := Lib.hid hO
    clear hT hM
    by_cases hlt : k < N
    · obtain ⟨s, hs⟩ : ∃ s, l[k]? = some s := ⟨l[k]'(by rw [HN.out]; exact hlt), List.getElem?_eq_getElem _⟩
      obtain ⟨b, off, ha, hcell⟩ := HC.out (by omega)
      subst ha
      have z1 := HZ.out s (List.mem_of_getElem? hs)
      have c0 := cell_later hbr (hcell k s hs)
      have bz := lt_of_cell c0
      have HD := Lib.hid (refs_drop kind l k s hs)
      have HK := Lib.hid (show l.take (k + 1) = l.take k ++ [s] by obtain ⟨hk, rfl⟩ := List.getElem?_eq_some_iff.1 hs; rw [List.take_succ_eq_append_getElem hk])
      have hlen : (l.take k).length < maxLen := by rw [List.length_take, HN.out]; unfold maxLen; omega
      have HLE := Lib.hid hlen
      have HCL := Lib.hid hcell
      have hlook := fun n => (HMK.out.later (w' := wr.drewN n) rfl).look s (by unfold maxLen; omega)
      have RN := Lib.hid (fun w => rname_still s z1 w)
      generalize hI : ((l.take k).any fun p => decide (p = s)) = I at *
      have HI := Lib.hid hI
      clear hcell hs hlen hI
      have oz := lt_of_block hO
      have o0 := cell_of_row wr _ 0 _ _ _ hO
      have o1 := cell_of_row wr _ 1 _ _ _ hO
      have o2 := cell_of_row wr _ 2 _ _ _ hO
      have o3 := cell_of_row wr _ 3 _ _ _ hO
      have o4 := cell_of_row wr _ 4 _ _ _ hO
      have o5 := cell_of_row wr _ 5 _ _ _ hO
      simp only [List.getElem?_toArray, List.getElem?_cons_zero, List.getElem?_cons_succ] at o0 o1 o2 o3 o4 o5
      have hO' := Lib.hid hO
      clear hO
      clear hO'
      cases hnm : nameB s
      case false =>
        have HR := Lib.hid (show refsFrom kind [] l = false by rw [HT.out, HD.out, okR, hnm]; rfl)
        rw [hnm] at RN
        clear hnm
        go_wp2
        go_quiet ((go_at_call 124; exact Calls.quiet_of_same (RN.out _)))
        go_wp2
        go_ret
        exact ⟨ret_bool (by rw [HR.out]; simp), hbr.drewN'⟩
      rw [hnm] at RN
      by_cases e3 : kind = 3
      · have f2 : (kind == 2) = false := by rw [beq_eq_false_iff_ne]; omega
        have f3 : (kind == 3) = true := by rw [beq_iff_eq]; exact e3
        cases I
        · have HG := Lib.hid (show refsFrom kind [] l = refsFrom kind (l.take (k + 1)) (l.drop (k + 1)) by rw [HT.out, HD.out, okR, hnm, HI.out, e3]; simp)
          clear hnm e3
          go_wp2
          go_quiet ((go_at_call 124; exact Calls.quiet_of_same (RN.out _)))
          obtain ⟨w9, hput, HM9, hg⟩ := (HMK.out.later (w' := wr.drewN nq) rfl).put s (by unfold maxLen; omega) HLE.out
          have HP9 := Lib.hid HM9
          have HG9 := Lib.hid hg
          clear HM9 hg
          go_wp2
          go_roundw
          case rel => exact ⟨k + 1, by omega, by go_num, HG.out, (HG9.out.block _ (lt_of_block (row_drewN GOK.out)) (by simp)).trans (row_drewN GOK.out), by rw [HK.out]; exact HP9.out, (hbr.drewN' (n := nq)).trans (Below.grow1 (w := wr.drewN nq) hbr.size HG9.out (Nat.le_succ _))⟩
          case measure => simp [intOf]; omega
        · have HR := Lib.hid (show refsFrom kind [] l = false by rw [HT.out, HD.out, okR, hnm, HI.out, e3]; simp)
          clear hnm e3
          go_wp2
          go_quiet ((go_at_call 124; exact Calls.quiet_of_same (RN.out _)))
          go_wp2
          go_ret
          exact ⟨ret_bool (by rw [HR.out]; simp), hbr.drewN'⟩
      have f3 : (kind == 3) = false := by rw [beq_eq_false_iff_ne]; exact e3
      by_cases e2 : kind = 2
      · have f2 : (kind == 2) = true := by rw [beq_iff_eq]; exact e2
        rcases k with _ | m
        · have HG := Lib.hid (show refsFrom kind [] l = refsFrom kind (l.take (0 + 1)) (l.drop (0 + 1)) by rw [HT.out, HD.out, okR, hnm, e2]; simp)
          simp only [Nat.add_zero] at c0
          clear hnm e2 e3
          go_wp2
          go_quiet ((go_at_call 124; exact Calls.quiet_of_same (RN.out _)))
          obtain ⟨w9, hput, HM9, hg⟩ := (HMK.out.later (w' := wr.drewN nq) rfl).put s (by unfold maxLen; omega) HLE.out
          have HP9 := Lib.hid HM9
          have HG9 := Lib.hid hg
          clear HM9 hg
          go_wp2
          go_roundw
          case rel => exact ⟨0 + 1, by omega, by go_num, HG.out, (HG9.out.block _ (lt_of_block (row_drewN GOK.out)) (by simp)).trans (row_drewN GOK.out), by rw [HK.out]; exact HP9.out, (hbr.drewN' (n := nq)).trans (Below.grow1 (w := wr.drewN nq) hbr.size HG9.out (Nat.le_succ _))⟩
          case measure => simp [intOf]; omega
        · obtain ⟨p, hp⟩ : ∃ p, l[m]? = some p := ⟨l[m]'(by rw [HN.out]; omega), List.getElem?_eq_getElem _⟩
          have p0 := cell_later hbr (HCL.out m p hp)
          have HLP := Lib.hid (show (l.take (m + 1)).getLast? = some p by
            obtain ⟨hm, rfl⟩ := List.getElem?_eq_some_iff.1 hp
            rw [List.take_succ_eq_append_getElem hm]; exact last_snoc _ _)
          have WM : IntKind.i64.wrap (((m + 1 : Nat) : Int) - 1) = (m : Int) := (IntWalk.i64_in _ (by omega)).trans (by omega)
          have WG : decide ((0 : Int) < ((m + 1 : Nat) : Int)) = true := by rw [decide_eq_true_eq]; omega
          clear hp
          by_cases eq : p = s
          · have SE : (p.toList == s.toList) = true := str_eq_true eq
            have HR := Lib.hid (show refsFrom kind [] l = false by rw [HT.out, HD.out, okR, hnm, HLP.out, e2, eq]; simp)
            clear hnm e2 e3 eq
            go_wp2
            go_quiet ((go_at_call 124; exact Calls.quiet_of_same (RN.out _)))
            go_wp2
            go_ret
            exact ⟨ret_bool (by rw [HR.out]; simp), hbr.drewN'⟩
          · have SE : (p.toList == s.toList) = false := str_eq_false eq
            have HG := Lib.hid (show refsFrom kind [] l = refsFrom kind (l.take (m + 1 + 1)) (l.drop (m + 1 + 1)) by rw [HT.out, HD.out, okR, hnm, HLP.out, e2]; simp [eq])
            clear hnm e2 e3 eq
            go_wp2
            go_quiet ((go_at_call 124; exact Calls.quiet_of_same (RN.out _)))
            obtain ⟨w9, hput, HM9, hg⟩ := (HMK.out.later (w' := wr.drewN nq) rfl).put s (by unfold maxLen; omega) HLE.out
            have HP9 := Lib.hid HM9
            have HG9 := Lib.hid hg
            clear HM9 hg
            go_wp2
            go_roundw
            case rel => exact ⟨m + 1 + 1, by omega, by go_num, HG.out, (HG9.out.block _ (lt_of_block (row_drewN GOK.out)) (by simp)).trans (row_drewN GOK.out), by rw [HK.out]; exact HP9.out, (hbr.drewN' (n := nq)).trans (Below.grow1 (w := wr.drewN nq) hbr.size HG9.out (Nat.le_succ _))⟩
            case measure => simp [intOf]; omega
      have f2 : (kind == 2) = false := by rw [beq_eq_false_iff_ne]; exact e2
      have HG := Lib.hid (show refsFrom kind [] l = refsFrom kind (l.take (k + 1)) (l.drop (k + 1)) by rw [HT.out, HD.out, okR, hnm]; simp [e2, e3])
      clear hnm e2 e3
      go_wp2
      go_quiet ((go_at_call 124; exact Calls.quiet_of_same (RN.out _)))
      obtain ⟨w9, hput, HM9, hg⟩ := (HMK.out.later (w' := wr.drewN nq) rfl).put s (by unfold maxLen; omega) HLE.out
      have HP9 := Lib.hid HM9
      have HG9 := Lib.hid hg
      clear HM9 hg
      go_wp2
      go_roundw
      case rel => exact ⟨k + 1, by omega, by go_num, HG.out, (HG9.out.block _ (lt_of_block (row_drewN GOK.out)) (by simp)).trans (row_drewN GOK.out), by rw [HK.out]; exact HP9.out, (hbr.drewN' (n := nq)).trans (Below.grow1 (w := wr.drewN nq) hbr.size HG9.out (Nat.le_succ _))⟩
      case measure => simp [intOf]; omega
    · obtain rfl : k = N := by omega
      have HR := Lib.hid (show refsFrom kind [] l = true by rw [HT.out, List.drop_of_length_le (by rw [HN.out]; exact Nat.le_refl _)]; rfl)
      have oz := lt_of_block hO
      have o0 := cell_of_row wr _ 0 _ _ _ hO
      have o1 := cell_of_row wr _ 1 _ _ _ hO
      have o2 := cell_of_row wr _ 2 _ _ _ hO
      have o3 := cell_of_row wr _ 3 _ _ _ hO
      have o4 := cell_of_row wr _ 4 _ _ _ hO
      have o5 := cell_of_row wr _ 5 _ _ _ hO
      simp only [List.getElem?_toArray, List.getElem?_cons_zero, List.getElem?_cons_succ] at o0 o1 o2 o3 o4 o5
      have hO' := Lib.hid hO
      clear hO
      clear hO'
      by_cases e1 : kind = 1
      · subst e1
        go_wp2
        go_ret
        exact ⟨ret_bool (by rw [HR.out, Bool.true_and]; simp only [refsEnd]; rw [Bool.eq_iff_iff]; first | (simp; done) | (simp; omega)), hbr⟩
      have f1 : (kind == 1) = false := by rw [beq_eq_false_iff_ne]; exact e1
      by_cases e2 : kind = 2
      · subst e2
        go_wp2
        go_ret
        exact ⟨ret_bool (by rw [HR.out, Bool.true_and]; simp only [refsEnd]; rw [Bool.eq_iff_iff]; first | (simp; done) | (simp; omega)), hbr⟩
      have f2 : (kind == 2) = false := by rw [beq_eq_false_iff_ne]; exact e2
      by_cases e3 : kind = 3
      · subst e3
        go_wp2
        go_ret
        exact ⟨ret_bool (by rw [HR.out, Bool.true_and]; simp only [refsEnd]; rw [Bool.eq_iff_iff]; first | (simp; done) | (simp; omega)), hbr⟩
      have f3 : (kind == 3) = false := by rw [beq_eq_false_iff_ne]; exact e3
      by_cases e4 : kind = 4
      · subst e4
        go_wp2
        go_ret
        exact ⟨ret_bool (by rw [HR.out, Bool.true_and]; simp only [refsEnd]; rw [Bool.eq_iff_iff]; first | (simp; done) | (simp; omega)), hbr⟩
      have f4 : (kind == 4) = false := by rw [beq_eq_false_iff_ne]; exact e4
      have HE := Lib.hid (show refsEnd kind k = decide (k = 3) by rw [refsEnd, if_neg e1, if_neg e2, if_neg e3, if_neg e4])
      clear e1 e2 e3 e4
      go_wp2
      go_ret
      exact ⟨ret_bool (by rw [HR.out, Bool.true_and, HE.out, Bool.eq_iff_iff]; first | (simp; done) | (simp; omega)), hbr⟩
end Go.Proofs.YtbkomdinchiffaaGreat

namespace Go.Proofs.YtbkomdinchiffaaGreat
open Go.RowKit

/-- Is an object valid? -/
def objOK (o : ObjD) : Bool :=
  decide (1 ≤ o.kind ∧ o.kind ≤ 5) && nameB o.id && tagsOK o.tags && decide (leastK o.kind ≤ o.refs.length) && decide (o.refs.length ≤ 2000) && refsFrom o.kind [] o.refs &&
    (if o.kind = 1 then decide (o.refs.length = 0) && onB o.x o.y else if o.kind = 5 then decide (o.refs.length = 3) && decide (o.x = 0 ∧ o.y = 0) else decide (o.x = 0 ∧ o.y = 0))
/-- The reference's order of the same conditions. -/
theorem objOK_ref (o : ObjD) : objOK o = (nameB o.id && decide (1 ≤ o.kind ∧ o.kind ≤ 5) && (if o.kind = 1 then onB o.x o.y else decide (o.x = 0 ∧ o.y = 0)) && tagsOK o.tags && (decide (o.refs.length ≤ 2000) && refsFrom o.kind [] o.refs && refsEnd o.kind o.refs.length)) := by
  unfold objOK refsEnd leastK
  by_cases hk : 1 ≤ o.kind ∧ o.kind ≤ 5
  · cases nameB o.id <;> cases tagsOK o.tags <;> cases refsFrom o.kind [] o.refs <;> simp only [Bool.and_false, Bool.false_and, Bool.and_true, Bool.true_and, hk, and_self, decide_true]
    obtain h | h | h | h | h : o.kind = 1 ∨ o.kind = 2 ∨ o.kind = 3 ∨ o.kind = 4 ∨ o.kind = 5 := by omega
    all_goals
      simp only [h]
      rw [Bool.eq_iff_iff]
      cases onB o.x o.y <;> first | (simp; done) | (simp; omega)
  · simp [hk]
end Go.Proofs.YtbkomdinchiffaaGreat
