/- The tiles between two: the iterator 'square' and the function 'all' of package grid. -/
import Derived.Test.YtnilofeakdibhaaDoorGridC
import Derived.RangeFuncBox
import Derived.RangeFuncNested
import Derived.RangeFuncLeaves
import Derived.Shelf.Abstract
import Derived.OwnWalkIn
import Derived.TacticsInMore
import Derived.LoopNIn
import Derived.LoopIn
import Derived.Maps.AppendAt
namespace Go.Proofs.YtnilofeakdibhaaDoor
open Go.RowKit Go.Shelf

attribute [local go_sem] Oper.semAt_some

/-- The tiles of a part of a row. -/
def rowL (z fx y : Int) (n : Nat) : List (Int × Int × Int) := (List.range n).map fun (i : Nat) => (z, fx + i, y)
/-- The tiles of some rows of nx tiles each, row by row. -/
def sqL (z fx fy : Int) (nx m : Nat) : List (Int × Int × Int) := (List.range m).flatMap fun (j : Nat) => rowL z fx (fy + j) nx
def tileV (t : Int × Int × Int) : Value := .agg #[.int .i64 t.1, .int .i64 t.2.1, .int .i64 t.2.2]

theorem rowL_succ (z fx y : Int) (n : Nat) : rowL z fx y (n + 1) = rowL z fx y n ++ [(z, fx + n, y)] := by simp [rowL, List.range_succ]
theorem sqL_succ (z fx fy : Int) (nx m : Nat) : sqL z fx fy nx (m + 1) = sqL z fx fy nx m ++ rowL z fx (fy + m) nx := by simp [sqL, List.range_succ]
theorem rowL_len (z fx y : Int) (n : Nat) : (rowL z fx y n).length = n := by simp [rowL]
theorem sqL_len (z fx fy : Int) (nx m : Nat) : (sqL z fx fy nx m).length = m * nx := by
  induction m with
  | zero => simp [sqL]
  | succ m ih => rw [sqL_succ, List.length_append, ih, rowL_len, Nat.succ_mul]
theorem rowL_pre (z fx y : Int) (n k : Nat) (h : n ≤ k) : rowL z fx y n <+: rowL z fx y k := by
  obtain ⟨d, rfl⟩ : ∃ d, k = n + d := ⟨k - n, by omega⟩
  refine ⟨(List.range d).map fun (i : Nat) => (z, fx + (n + i : Nat), y), ?_⟩
  simp [rowL, List.range_add]
theorem sqL_pre (z fx fy : Int) (nx m k : Nat) (h : m ≤ k) : sqL z fx fy nx m <+: sqL z fx fy nx k := by
  obtain ⟨d, rfl⟩ : ∃ d, k = m + d := ⟨k - m, by omega⟩
  induction d with
  | zero => exact List.prefix_refl _
  | succ d ih => exact (ih (by omega)).trans (by rw [show m + (d + 1) = (m + d) + 1 by omega, sqL_succ]; exact List.prefix_append _ _)
theorem sq_pre (z fx fy : Int) (nx ny m i : Nat) (hm : m < ny) (hi : i ≤ nx) : sqL z fx fy nx m ++ rowL z fx (fy + m) i <+: sqL z fx fy nx ny := by
  refine List.IsPrefix.trans ?_ (sqL_pre z fx fy nx (m + 1) ny (by omega))
  rw [sqL_succ]
  exact List.prefix_append_right_inj _ |>.2 (rowL_pre _ _ _ _ _ hi)

/-- Two blocks stay as they are. -/
def KeepB (b1 b2 : Nat) (W W' : World) : Prop := W'.heap[b1]? = W.heap[b1]? ∧ W'.heap[b2]? = W.heap[b2]?
theorem KeepB.trans {b1 b2 : Nat} {A B C : World} (h : KeepB b1 b2 A B) (k : KeepB b1 b2 B C) : KeepB b1 b2 A C := ⟨k.1.trans h.1, k.2.trans h.2⟩
def SqPost (l : List (Int × Int × Int)) (J Jx : List (Int × Int × Int) → World → Prop) (e : Ending) (W' : World) : Prop :=
  (∃ v, e = .returned v) ∧ ((∃ ys, ys = l ∧ J ys W') ∨ (∃ pre, pre <+: l ∧ Jx pre W'))
theorem int_one (a : Int) (i : Nat) : Value.int .i64 (a + i + 1) = .int .i64 (a + ((i + 1 : Nat) : Int)) := by rw [show a + ((i + 1 : Nat) : Int) = a + i + 1 by omega]

set_option maxRecDepth 100000 in
set_option maxHeartbeats 2000000 in
/-- The iterator: for every loop body that keeps what lay below n₀. -/
theorem square1_in (F : Fence) (n : Nat) (h6 : F.fn 61) (hro : F.round = none) (hn : 1 ≤ n) (l b1 b2 : Nat) (z z2 fx fy : Int) (nx ny : Nat)
    (hz : 0 ≤ fx ∧ fx + nx ≤ 1048576) (hy : 0 ≤ fy ∧ fy + ny ≤ 1048576) (J Jx : List (Int × Int × Int) → World → Prop)
    (hY : ∀ pre x W, J pre W → pre.length < ny * nx → YieldAt F (n - 1) Tryd.prog l #[tileV x] W fun e W' =>
      (e = .returned (.bool true) ∧ J (pre ++ [x]) W' ∧ KeepB b1 b2 W W') ∨ (e = .returned (.bool false) ∧ Jx (pre ++ [x]) W'))
    (W : World) (hc1 : W.heap[b1]? = some (.cells #[.int .i64 z, .int .i64 fx, .int .i64 fy] 23 (0, 0))) (hc2 : W.heap[b2]? = some (.cells #[.int .i64 z2, .int .i64 (fx + nx - 1), .int .i64 (fy + ny - 1)] 23 (0, 0))) (h0 : J [] W) :
    CallsIn F n Tryd.prog 61 #[.func (.yield l) #[] #[], .pointer (some ⟨b1, 0, none⟩), .pointer (some ⟨b2, 0, none⟩)] W (SqPost (sqL z fx fy nx ny) J Jx) := by
  refine callsIn_of_wp Tryd.func61 rfl h6 ?_ hro
  simp only [Tryd.ntmps61, List.size_toArray, List.length_cons, List.length_nil, Nat.reduceAdd, Nat.reduceSub, Array.replicate_succ, Array.replicate_zero, List.push_toArray, List.append_toArray, List.nil_append, List.cons_append]
  have G1 := Lib.hid hc1
  have G2 := Lib.hid hc2
  have fz := lt_of_block hc1
  have f0 := cell_of_row W _ 0 _ _ _ hc1
  have f1 := cell_of_row W _ 1 _ _ _ hc1
  have f2 := cell_of_row W _ 2 _ _ _ hc1
  simp only [List.getElem?_toArray, List.getElem?_cons_zero, List.getElem?_cons_succ] at f0 f1 f2
  have hc1' := Lib.hid hc1
  clear hc1
  have tz := lt_of_block hc2
  have t0 := cell_of_row W _ 0 _ _ _ hc2
  have t1 := cell_of_row W _ 1 _ _ _ hc2
  have t2 := cell_of_row W _ 2 _ _ _ hc2
  simp only [List.getElem?_toArray, List.getElem?_cons_zero, List.getElem?_cons_succ] at t0 t1 t2
  have hc2' := Lib.hid hc2
  clear hc2
  clear hc1' hc2'
  gi_wp2
  clear f0 f1 f2 t0 t1 t2 fz tz
  gi_loopw [4, 5] (fun y x wr => ∃ j : Nat, j ≤ ny ∧ y = .int .i64 (fy + j) ∧ J (sqL z fx fy nx j) wr ∧ KeepB b1 b2 W wr) (fun y _ wr => (fy + ny - intOf y).toNat)
  case atStart => exact ⟨0, by omega, by simp, by simpa [sqL] using h0, rfl, rfl⟩
  case round =>
    obtain ⟨j, hj, rfl, hJ, hbr⟩ := hrel
    have hc1 := hbr.1.trans G1.out
    have hc2 := hbr.2.trans G2.out
    by_cases hlt : j < ny
    · have hd : fy + (j : Int) ≤ fy + ny - 1 := by omega
      have fz := lt_of_block hc1
      have f0 := cell_of_row wr _ 0 _ _ _ hc1
      have f1 := cell_of_row wr _ 1 _ _ _ hc1
      have f2 := cell_of_row wr _ 2 _ _ _ hc1
      simp only [List.getElem?_toArray, List.getElem?_cons_zero, List.getElem?_cons_succ] at f0 f1 f2
      have hc1' := Lib.hid hc1
      clear hc1
      have tz := lt_of_block hc2
      have t0 := cell_of_row wr _ 0 _ _ _ hc2
      have t1 := cell_of_row wr _ 1 _ _ _ hc2
      have t2 := cell_of_row wr _ 2 _ _ _ hc2
      simp only [List.getElem?_toArray, List.getElem?_cons_zero, List.getElem?_cons_succ] at t0 t1 t2
      have hc2' := Lib.hid hc2
      clear hc2
      clear hc1' hc2'
      gi_wp2
      clear f0 f1 f2 t0 t1 t2 fz tz
      gi_loopw [5] (fun x wi => ∃ i : Nat, i ≤ nx ∧ x = .int .i64 (fx + i) ∧ J (sqL z fx fy nx j ++ rowL z fx (fy + j) i) wi ∧ KeepB b1 b2 W wi) (fun x wi => (fx + nx - intOf x).toNat)
      case atStart => exact ⟨0, by omega, by simp, by simpa [rowL] using hJ, hbr⟩
      case round =>
        obtain ⟨i, hi, rfl, hJi, hbi⟩ := hrel
        have hc1 := hbi.1.trans G1.out
        have hc2 := hbi.2.trans G2.out
        by_cases hil : i < nx
        · have hlen : (sqL z fx fy nx j ++ rowL z fx (fy + j) i).length < ny * nx := by
            rw [List.length_append, sqL_len, rowL_len]
            have : (j + 1) * nx ≤ ny * nx := Nat.mul_le_mul_right nx (by omega)
            rw [Nat.succ_mul] at this
            omega
          obtain ⟨fn, tmps, assign, body, hy', hR⟩ := hY (sqL z fx fy nx j ++ rowL z fx (fy + j) i) (z, fx + i, fy + j) _ hJi hlen
          have hpre := sq_pre z fx fy nx ny j (i + 1) hlt (by omega)
          rw [rowL_succ, ← List.append_assoc] at hpre
          dsimp only [tileV] at hy'
          have HPRE := Lib.hid hpre
          have HJ := Lib.hid hJi
          clear hpre hlen hJi hJ
          have hd2 : fx + (i : Int) ≤ fx + nx - 1 := by omega
          have fz := lt_of_block hc1
          have f0 := cell_of_row _ _ 0 _ _ _ hc1
          have f1 := cell_of_row _ _ 1 _ _ _ hc1
          have f2 := cell_of_row _ _ 2 _ _ _ hc1
          simp only [List.getElem?_toArray, List.getElem?_cons_zero, List.getElem?_cons_succ] at f0 f1 f2
          have hc1' := Lib.hid hc1
          clear hc1
          have tz := lt_of_block hc2
          have t0 := cell_of_row _ _ 0 _ _ _ hc2
          have t1 := cell_of_row _ _ 1 _ _ _ hc2
          have t2 := cell_of_row _ _ 2 _ _ _ hc2
          simp only [List.getElem?_toArray, List.getElem?_cons_zero, List.getElem?_cons_succ] at t0 t1 t2
          have hc2' := Lib.hid hc2
          clear hc2
          clear hc1' hc2'
          gi_wp2
          refine hR.mono ?_
          rintro e W3 (⟨rfl, hJ3, hk3⟩ | ⟨rfl, hJx3⟩)
          · gi_wp2
            go_roundw
            case rel => first | exact ⟨i + 1, by omega, int_one fx i, by rw [rowL_succ, ← List.append_assoc]; exact hJ3, KeepB.trans hbi hk3⟩ | ((repeat apply Exists.intro); exact ⟨⟨i + 1, by omega, int_one fx i, by rw [rowL_succ, ← List.append_assoc]; exact hJ3, KeepB.trans hbi hk3⟩, rfl⟩)
            case measure => simp [intOf]; omega
          · gi_wp2
            refine bodyPost_ret (results_none rfl _ _ _) rfl ?_
            exact ⟨⟨_, rfl⟩, .inr ⟨_, HPRE.out, hJx3⟩⟩
        · have hi' := Lib.hid (show i = nx by omega)
          have hd2 : ¬ (fx + (i : Int) ≤ fx + nx - 1) := by omega
          have fz := lt_of_block hc1
          have f0 := cell_of_row _ _ 0 _ _ _ hc1
          have f1 := cell_of_row _ _ 1 _ _ _ hc1
          have f2 := cell_of_row _ _ 2 _ _ _ hc1
          simp only [List.getElem?_toArray, List.getElem?_cons_zero, List.getElem?_cons_succ] at f0 f1 f2
          have hc1' := Lib.hid hc1
          clear hc1
          have tz := lt_of_block hc2
          have t0 := cell_of_row _ _ 0 _ _ _ hc2
          have t1 := cell_of_row _ _ 1 _ _ _ hc2
          have t2 := cell_of_row _ _ 2 _ _ _ hc2
          simp only [List.getElem?_toArray, List.getElem?_cons_zero, List.getElem?_cons_succ] at t0 t1 t2
          have hc2' := Lib.hid hc2
          clear hc2
          clear hc1' hc2'
          gi_wp2
          go_roundw
          case rel => exact ⟨j + 1, by omega, int_one fy j, by rw [sqL_succ]; have e := hi'.out; subst e; exact hJi, hbi⟩
          case measure => simp [intOf]; omega
    · have hj' := Lib.hid (show j = ny by omega)
      have hd : ¬ (fy + (j : Int) ≤ fy + ny - 1) := by omega
      have fz := lt_of_block hc1
      have f0 := cell_of_row wr _ 0 _ _ _ hc1
      have f1 := cell_of_row wr _ 1 _ _ _ hc1
      have f2 := cell_of_row wr _ 2 _ _ _ hc1
      simp only [List.getElem?_toArray, List.getElem?_cons_zero, List.getElem?_cons_succ] at f0 f1 f2
      have hc1' := Lib.hid hc1
      clear hc1
      have tz := lt_of_block hc2
      have t0 := cell_of_row wr _ 0 _ _ _ hc2
      have t1 := cell_of_row wr _ 1 _ _ _ hc2
      have t2 := cell_of_row wr _ 2 _ _ _ hc2
      simp only [List.getElem?_toArray, List.getElem?_cons_zero, List.getElem?_cons_succ] at t0 t1 t2
      have hc2' := Lib.hid hc2
      clear hc2
      clear hc1' hc2'
      gi_wp2
      go_end0
      exact ⟨⟨_, rfl⟩, .inl ⟨_, by rw [← hj'.out], hJ⟩⟩

set_option maxHeartbeats 1000000 in
/-- square: the two tiles are boxed; the function value captures the boxes. -/
theorem square_in (F : Fence) (n : Nat) (h5 : F.fn 50) (hro : F.round = none) (z fx fy z2 tx ty : Int) (w : World) :
    CallsIn F n Tryd.prog 50 #[.agg #[.int .i64 z, .int .i64 fx, .int .i64 fy], .agg #[.int .i64 z2, .int .i64 tx, .int .i64 ty]] w fun e w' => e = .returned (.func (.func 61) #[] #[.pointer (some ⟨w.heap.size, 0, none⟩), .pointer (some ⟨w.heap.size + 1, 0, none⟩)]) ∧
      w' = (w.alloc (.cells #[.int .i64 z, .int .i64 fx, .int .i64 fy] 23)).alloc (.cells #[.int .i64 z2, .int .i64 tx, .int .i64 ty] 23) := by
  refine callsIn_of_wp Tryd.func50 rfl h5 ?_ hro
  simp only [Tryd.ntmps50, List.size_toArray, List.length_cons, List.length_nil, Nat.reduceAdd, Nat.reduceSub, Array.replicate_succ, Array.replicate_zero, List.push_toArray, List.append_toArray, List.nil_append, List.cons_append]
  gi_wp2
  go_ret
  exact ⟨rfl, rfl⟩

theorem square_stops (F : Fence) (n : Nat) (h6 : F.fn 61) (hro : F.round = none) (hn : 1 ≤ n) (b1 b2 : Nat) (z z2 fx fy : Int) (nx ny : Nat)
    (hz : 0 ≤ fx ∧ fx + nx ≤ 1048576) (hy : 0 ≤ fy ∧ fy + ny ≤ 1048576) (w : World)
    (hc1 : w.heap[b1]? = some (.cells #[.int .i64 z, .int .i64 fx, .int .i64 fy] 23 (0, 0))) (hc2 : w.heap[b2]? = some (.cells #[.int .i64 z2, .int .i64 (fx + nx - 1), .int .i64 (fy + ny - 1)] 23 (0, 0))) :
    SeqStopsK F n Tryd.prog 61 #[.pointer (some ⟨b1, 0, none⟩), .pointer (some ⟨b2, 0, none⟩)] (fun x : Int × Int × Int => #[tileV x]) (KeepB b1 b2) (fun ys => ys = sqL z fx fy nx ny) (fun pre => pre <+: sqL z fx fy nx ny) (ny * nx) w := fun l J Jx W hW _ _ hY h0 =>
  square1_in F n h6 hro hn l b1 b2 z z2 fx fy nx ny hz hy J Jx hY W (row_later hW hc1) (row_later hW hc2) h0
end Go.Proofs.YtnilofeakdibhaaDoor
