/-  -/
import Derived.Test.YtibpaaajghbkoaaGreatUAt
import Derived.Test.YtibpaaajghbkoaaGreatUAl
import Derived.RangeFuncBox
import Derived.RangeFuncNested
import Derived.RangeFuncBound
import Derived.RangeFuncCalls
import Derived.RangeFuncLeaves
import Derived.Shelf.Abstract
import Derived.OwnWalkIn
import Derived.TacticsInMore
import Derived.LoopNIn
import Derived.LoopIn
namespace Go.Proofs.YtibpaaajghbkoaaGreat
open Go.RowKit Go.Shelf
attribute [local go_sem] Oper.semAt_some
theorem cell_low {w W : World} {b o : Nat} {v : Value} (h : w.cell? ⟨b, o, none⟩ = some v) (hk : ∀ k, k < w.heap.size → W.heap[k]? = w.heap[k]?) : W.cell? ⟨b, o, none⟩ = some v := by
 have hb := lt_of_cell h
 rw [← h]
 simp only [World.cell?, hk b hb]
theorem grown_none {w w' : World} (h : Below w.heap.size w w') : w.grownBy w' none := ⟨h.os, h.tape, h.output, h.size, fun k hk _ => h.block k hk⟩
def KpN (n1 : Nat) (W W' : World) : Prop := (∀ k, k < n1 → W'.heap[k]? = W.heap[k]?) ∧ W.heap.size ≤ W'.heap.size
theorem KpN.trans {n1 : Nat} {A B C : World} (h : KpN n1 A B) (k : KpN n1 B C) : KpN n1 A C := ⟨fun i hi => (k.1 i hi).trans (h.1 i hi), Nat.le_trans h.2 k.2⟩
theorem cells_kept {A B : World} {row : Option Nat} {k : Nat} {o : Obj} (ho : o.isCells = true) (hg : A.grownBy B row) (hr : ∀ r, row = some r → ∃ o : Obj, A.heap[r]? = some o ∧ o.isCells = false) (h : A.heap[k]? = some o) : B.heap[k]? = some o :=
 (hg.block k (lt_of_block h) (by intro e; obtain ⟨o', h1, h2⟩ := hr k e.symm; rw [h] at h1; cases h1; rw [ho] at h2; cases h2)).trans h
def VaPost {α : Type} (L : List α) (J Jx : List α → World → Prop) (e : Ending) (W' : World) : Prop :=
 (∃ v, e = .returned v) ∧ ((∃ ys, ys = L ∧ J ys W') ∨ (∃ pre, pre <+: L ∧ Jx pre W'))
theorem take_snoc' {α : Type} {L : List α} {k : Nat} {x : α} (h : L[k]? = some x) : L.take (k + 1) = L.take k ++ [x] := by
 obtain ⟨hk, e⟩ := List.getElem?_eq_some_iff.1 h
 rw [List.take_succ_eq_append_getElem hk, e]
theorem valC_any (a : Option Addr) (n c : Nat) (w : World) : Calls Tryz.prog 113 #[.slice a n c] w fun e w' => e = .returned (.func (.func 161) #[] #[.pointer (some ⟨w.heap.size, 0, none⟩)]) ∧ w' = w.alloc (.cells #[.slice a n c] 163) := by
 go_enter Tryz.func113, Tryz.ntmps113
 go_wp2
 go_ret
 exact ⟨rfl, rfl⟩
set_option maxRecDepth 100000 in
set_option maxHeartbeats 2000000 in
theorem valC1_any {α : Type} (f : α → CaM) (n : Nat) (hn : 1 ≤ n) (l Bn : Nat) (vt : Value) (L : List α) (w : World) (hv : RowE encCa 10 w vt (L.map f)) (hL : L.length ≤ 2000000000) (J Jx : List α → World → Prop)
  (W : World) (hJ : AbidesFrom W.heap.size J)
  (hY : ∀ pre x W1, J pre W1 → pre.length < L.length → YieldAt Fence.wide (n - 1) Tryz.prog l #[.agg (encCa (f x)).toArray] W1 fun e W' =>
   (e = .returned (.bool true) ∧ J (pre ++ [x]) W' ∧ KpN w.heap.size W1 W') ∨ (e = .returned (.bool false) ∧ Jx (pre ++ [x]) W'))
  (hlow : ∀ k, k < w.heap.size → W.heap[k]? = w.heap[k]?) (hsz : w.heap.size ≤ W.heap.size) (hBn : W.heap[Bn]? = some (.cells #[vt] 163 (0, 0))) (h0 : J [] W) :
  CallsIn Fence.wide n Tryz.prog 161 #[.func (.yield l) #[] #[], .pointer (some ⟨Bn, 0, none⟩)] W (VaPost L J Jx) := by
 obtain ⟨a, cap, rfl, hc⟩ := hv
 rw [List.length_map] at hc hBn
 generalize hN : L.length = N at *
 have HN := Lib.hid hN
 have HC := Lib.hid hc
 clear hN hc
 refine callsIn_of_wp Tryz.func161 rfl trivial ?_ rfl
 simp only [Tryz.ntmps161, List.size_toArray, List.length_cons, List.length_nil, Nat.reduceAdd, Nat.reduceSub, Array.replicate_succ, Array.replicate_zero, List.push_toArray, List.append_toArray, List.nil_append, List.cons_append]
 obtain ⟨fz, f0⟩ := rk1 hBn
 have hBn' := Lib.hid hBn
 clear hBn
 gi_wp2
 clear f0 fz hBn'
 gi_loopw [7] (fun i wr => ∃ k : Nat, k ≤ N ∧ i = .int .i64 k ∧ J (L.take k) wr ∧ (∀ j, j < w.heap.size → wr.heap[j]? = w.heap[j]?) ∧ W.heap.size ≤ wr.heap.size) (fun i _ => N - (intOf i).toNat)
 case atStart => exact ⟨0, by omega, rfl, by simpa using h0, hlow, Nat.le_refl _⟩
 case round =>
  obtain ⟨k, hk, rfl, hJk, hlk, hsk⟩ := hrel
  by_cases hlt : k < N
  ·obtain ⟨x, hx⟩ : ∃ x, L[k]? = some x := ⟨L[k]'(by rw [HN.out]; exact hlt), List.getElem?_eq_getElem _⟩
   obtain ⟨b, off, ha, hcell⟩ := HC.out (by omega)
   subst ha
   have c0q := cell_low (hcell k (f x) (by rw [List.getElem?_map, hx]; rfl) 0 _ rfl) hlk
   have c1 := cell_low (hcell k (f x) (by rw [List.getElem?_map, hx]; rfl) 1 _ rfl) hlk
   have c2 := cell_low (hcell k (f x) (by rw [List.getElem?_map, hx]; rfl) 2 _ rfl) hlk
   have c3 := cell_low (hcell k (f x) (by rw [List.getElem?_map, hx]; rfl) 3 _ rfl) hlk
   have c4 := cell_low (hcell k (f x) (by rw [List.getElem?_map, hx]; rfl) 4 _ rfl) hlk
   have c5 := cell_low (hcell k (f x) (by rw [List.getElem?_map, hx]; rfl) 5 _ rfl) hlk
   have c6 := cell_low (hcell k (f x) (by rw [List.getElem?_map, hx]; rfl) 6 _ rfl) hlk
   have c7 := cell_low (hcell k (f x) (by rw [List.getElem?_map, hx]; rfl) 7 _ rfl) hlk
   have c8 := cell_low (hcell k (f x) (by rw [List.getElem?_map, hx]; rfl) 8 _ rfl) hlk
   have c9 := cell_low (hcell k (f x) (by rw [List.getElem?_map, hx]; rfl) 9 _ rfl) hlk
   have c0 : wr.cell? ⟨b, off + k * 10, none⟩ = some (.string (f x).1.1) := c0q
   clear c0q
   have HT := Lib.hid (take_snoc' hx)
   have hlen : (L.take k).length = k := by rw [List.length_take, HN.out]; omega
   have BA : Below wr.heap.size wr (wr.alloc (.cells #[.string (f x).1.1, .int .i64 (f x).1.2.1, .string (f x).1.2.2.1, .string (f x).1.2.2.2, .int .i64 (f x).2.1.1, .int .i64 (f x).2.1.2, .int .i64 (f x).2.2.1.1, .int .i64 (f x).2.2.1.2, .int .i64 (f x).2.2.2.1, .int .i64 (f x).2.2.2.2] 115)) := (Below.refl _ wr).alloc (Nat.le_refl _) _
   have HX3 := row_new wr (.cells #[.string (f x).1.1, .int .i64 (f x).1.2.1, .string (f x).1.2.2.1, .string (f x).1.2.2.2, .int .i64 (f x).2.1.1, .int .i64 (f x).2.1.2, .int .i64 (f x).2.2.1.1, .int .i64 (f x).2.2.1.2, .int .i64 (f x).2.2.2.1, .int .i64 (f x).2.2.2.2] 115)
   have HJ3 := Lib.hid (hJ _ _ _ none hJk (grown_none BA) (fun r e => by cases e))
   have HL3 := Lib.hid (show ∀ j, j < w.heap.size → (wr.alloc (.cells #[.string (f x).1.1, .int .i64 (f x).1.2.1, .string (f x).1.2.2.1, .string (f x).1.2.2.2, .int .i64 (f x).2.1.1, .int .i64 (f x).2.1.2, .int .i64 (f x).2.2.1.1, .int .i64 (f x).2.2.1.2, .int .i64 (f x).2.2.2.1, .int .i64 (f x).2.2.2.2] 115)).heap[j]? = w.heap[j]? from fun j hj => (BA.block j (by omega)).trans (hlk j hj))
   have hs3 := Nat.le_trans hsk BA.size
   obtain ⟨fn, tmps, assign, body, hy', hR⟩ := hY (L.take k) x (wr.alloc (.cells #[.string (f x).1.1, .int .i64 (f x).1.2.1, .string (f x).1.2.2.1, .string (f x).1.2.2.2, .int .i64 (f x).2.1.1, .int .i64 (f x).2.1.2, .int .i64 (f x).2.2.1.1, .int .i64 (f x).2.2.1.2, .int .i64 (f x).2.2.2.1, .int .i64 (f x).2.2.2.2] 115)) HJ3.out (by omega)
   simp only [encCa] at hy'
   have HPRE := Lib.hid (show L.take k ++ [x] <+: L by rw [← HT.out]; exact List.take_prefix _ _)
   have HR := Lib.hid hR
   clear hcell hx hJk hlk BA HX3 hR
   gi_wp2
   refine HR.out.mono ?_
   rintro e W4 (⟨rfl, hJ4, hk4⟩ | ⟨rfl, hJx4⟩)
   ·have HJ4 := Lib.hid hJ4
    have HL4 := Lib.hid (show (∀ j, j < w.heap.size → W4.heap[j]? = w.heap[j]?) from fun j hj => (hk4.1 j hj).trans (HL3.out j hj))
    have hs4 := Nat.le_trans hs3 hk4.2
    clear hJ4 hk4
    gi_wp2
    go_roundw
    case rel => first | exact ⟨k + 1, by omega, by go_num, by rw [HT.out]; exact HJ4.out, HL4.out, hs4⟩ | ((repeat apply Exists.intro); exact ⟨⟨k + 1, by omega, by go_num, by rw [HT.out]; exact HJ4.out, HL4.out, hs4⟩, rfl⟩)
    case measure => simp [intOf]; omega
   ·gi_wp2
    refine bodyPost_ret (results_none rfl _ _ _) rfl ?_
    exact ⟨⟨_, rfl⟩, .inr ⟨_, HPRE.out, hJx4⟩⟩
  ·obtain rfl : k = N := by omega
   have HE := Lib.hid (show L = L.take k by rw [List.take_of_length_le (by rw [HN.out]; exact Nat.le_refl _)])
   gi_wp2
   go_end0
   exact ⟨⟨_, rfl⟩, .inl ⟨_, HE.out.symm, hJk⟩⟩
theorem valC_stops {α : Type} (f : α → CaM) (n : Nat) (hn : 1 ≤ n) (Bn : Nat) (vt : Value) (L : List α) (w w0 : World) (hv : RowE encCa 10 w vt (L.map f)) (hL : L.length ≤ 2000000000) (hlow : ∀ k, k < w.heap.size → w0.heap[k]? = w.heap[k]?) (hsz : w.heap.size ≤ w0.heap.size)
  (hBn : w0.heap[Bn]? = some (.cells #[vt] 163 (0, 0))) :
  SeqStopsK Fence.wide n Tryz.prog 161 #[.pointer (some ⟨Bn, 0, none⟩)] (fun x => #[.agg (encCa (f x)).toArray]) (KpN w.heap.size) (fun ys => ys = L) (fun pre => pre <+: L) L.length w0 := fun l J Jx W hW hJ _ hY h0 =>
 valC1_any f n hn l Bn vt L w hv hL J Jx W hJ hY (fun k hk => (hW.block k (by omega)).trans (hlow k hk)) (Nat.le_trans hsz hW.size) (row_later hW hBn) h0
theorem valP_any (a : Option Addr) (n c : Nat) (w : World) : Calls Tryz.prog 165 #[.slice a n c] w fun e w' => e = .returned (.func (.func 230) #[] #[.pointer (some ⟨w.heap.size, 0, none⟩)]) ∧ w' = w.alloc (.cells #[.slice a n c] 50) := by
 go_enter Tryz.func165, Tryz.ntmps165
 go_wp2
 go_ret
 exact ⟨rfl, rfl⟩
set_option maxRecDepth 100000 in
set_option maxHeartbeats 2000000 in
theorem valP1_any (n : Nat) (hn : 1 ≤ n) (l Bn : Nat) (vt : Value) (L : List Pt) (w : World) (hv : RowE encPt 2 w vt L) (hL : L.length ≤ 2000000000) (J Jx : List Pt → World → Prop)
  (W : World) (hJ : AbidesFrom W.heap.size J)
  (hY : ∀ pre x W1, J pre W1 → pre.length < L.length → YieldAt Fence.wide (n - 1) Tryz.prog l #[.agg (encPt x).toArray] W1 fun e W' =>
   (e = .returned (.bool true) ∧ J (pre ++ [x]) W' ∧ KpN w.heap.size W1 W') ∨ (e = .returned (.bool false) ∧ Jx (pre ++ [x]) W'))
  (hlow : ∀ k, k < w.heap.size → W.heap[k]? = w.heap[k]?) (hsz : w.heap.size ≤ W.heap.size) (hBn : W.heap[Bn]? = some (.cells #[vt] 50 (0, 0))) (h0 : J [] W) :
  CallsIn Fence.wide n Tryz.prog 230 #[.func (.yield l) #[] #[], .pointer (some ⟨Bn, 0, none⟩)] W (VaPost L J Jx) := by
 obtain ⟨a, cap, rfl, hc⟩ := hv
 generalize hN : L.length = N at *
 have HN := Lib.hid hN
 have HC := Lib.hid hc
 clear hN hc
 refine callsIn_of_wp Tryz.func230 rfl trivial ?_ rfl
 simp only [Tryz.ntmps230, List.size_toArray, List.length_cons, List.length_nil, Nat.reduceAdd, Nat.reduceSub, Array.replicate_succ, Array.replicate_zero, List.push_toArray, List.append_toArray, List.nil_append, List.cons_append]
 obtain ⟨fz, f0⟩ := rk1 hBn
 have hBn' := Lib.hid hBn
 clear hBn
 gi_wp2
 clear f0 fz hBn'
 gi_loopw [7] (fun i wr => ∃ k : Nat, k ≤ N ∧ i = .int .i64 k ∧ J (L.take k) wr ∧ (∀ j, j < w.heap.size → wr.heap[j]? = w.heap[j]?) ∧ W.heap.size ≤ wr.heap.size) (fun i _ => N - (intOf i).toNat)
 case atStart => exact ⟨0, by omega, rfl, by simpa using h0, hlow, Nat.le_refl _⟩
 case round =>
  obtain ⟨k, hk, rfl, hJk, hlk, hsk⟩ := hrel
  by_cases hlt : k < N
  ·obtain ⟨x, hx⟩ : ∃ x, L[k]? = some x := ⟨L[k]'(by rw [HN.out]; exact hlt), List.getElem?_eq_getElem _⟩
   obtain ⟨b, off, ha, hcell⟩ := HC.out (by omega)
   subst ha
   have c0q := cell_low (hcell k x hx 0 _ rfl) hlk
   have c1 := cell_low (hcell k x hx 1 _ rfl) hlk
   have c0 : wr.cell? ⟨b, off + k * 2, none⟩ = some (.int .i64 x.1) := c0q
   clear c0q
   have HT := Lib.hid (take_snoc' hx)
   have hlen : (L.take k).length = k := by rw [List.length_take, HN.out]; omega
   have BA : Below wr.heap.size wr (wr.alloc (.cells #[.int .i64 x.1, .int .i64 x.2] 33)) := (Below.refl _ wr).alloc (Nat.le_refl _) _
   have HX3 := row_new wr (.cells #[.int .i64 x.1, .int .i64 x.2] 33)
   have HJ3 := Lib.hid (hJ _ _ _ none hJk (grown_none BA) (fun r e => by cases e))
   have HL3 := Lib.hid (show ∀ j, j < w.heap.size → (wr.alloc (.cells #[.int .i64 x.1, .int .i64 x.2] 33)).heap[j]? = w.heap[j]? from fun j hj => (BA.block j (by omega)).trans (hlk j hj))
   have hs3 := Nat.le_trans hsk BA.size
   obtain ⟨fn, tmps, assign, body, hy', hR⟩ := hY (L.take k) x (wr.alloc (.cells #[.int .i64 x.1, .int .i64 x.2] 33)) HJ3.out (by omega)
   simp only [encPt] at hy'
   have HPRE := Lib.hid (show L.take k ++ [x] <+: L by rw [← HT.out]; exact List.take_prefix _ _)
   have HR := Lib.hid hR
   clear hcell hx hJk hlk BA HX3 hR
   gi_wp2
   refine HR.out.mono ?_
   rintro e W4 (⟨rfl, hJ4, hk4⟩ | ⟨rfl, hJx4⟩)
   ·have HJ4 := Lib.hid hJ4
    have HL4 := Lib.hid (show (∀ j, j < w.heap.size → W4.heap[j]? = w.heap[j]?) from fun j hj => (hk4.1 j hj).trans (HL3.out j hj))
    have hs4 := Nat.le_trans hs3 hk4.2
    clear hJ4 hk4
    gi_wp2
    go_roundw
    case rel => first | exact ⟨k + 1, by omega, by go_num, by rw [HT.out]; exact HJ4.out, HL4.out, hs4⟩ | ((repeat apply Exists.intro); exact ⟨⟨k + 1, by omega, by go_num, by rw [HT.out]; exact HJ4.out, HL4.out, hs4⟩, rfl⟩)
    case measure => simp [intOf]; omega
   ·gi_wp2
    refine bodyPost_ret (results_none rfl _ _ _) rfl ?_
    exact ⟨⟨_, rfl⟩, .inr ⟨_, HPRE.out, hJx4⟩⟩
  ·obtain rfl : k = N := by omega
   have HE := Lib.hid (show L = L.take k by rw [List.take_of_length_le (by rw [HN.out]; exact Nat.le_refl _)])
   gi_wp2
   go_end0
   exact ⟨⟨_, rfl⟩, .inl ⟨_, HE.out.symm, hJk⟩⟩
theorem valP_stops (n : Nat) (hn : 1 ≤ n) (Bn : Nat) (vt : Value) (L : List Pt) (w w0 : World) (hv : RowE encPt 2 w vt L) (hL : L.length ≤ 2000000000) (hlow : ∀ k, k < w.heap.size → w0.heap[k]? = w.heap[k]?) (hsz : w.heap.size ≤ w0.heap.size)
  (hBn : w0.heap[Bn]? = some (.cells #[vt] 50 (0, 0))) :
  SeqStopsK Fence.wide n Tryz.prog 230 #[.pointer (some ⟨Bn, 0, none⟩)] (fun x => #[.agg (encPt x).toArray]) (KpN w.heap.size) (fun ys => ys = L) (fun pre => pre <+: L) L.length w0 := fun l J Jx W hW hJ _ hY h0 =>
 valP1_any n hn l Bn vt L w hv hL J Jx W hJ hY (fun k hk => (hW.block k (by omega)).trans (hlow k hk)) (Nat.le_trans hsz hW.size) (row_later hW hBn) h0
end Go.Proofs.YtibpaaajghbkoaaGreat
