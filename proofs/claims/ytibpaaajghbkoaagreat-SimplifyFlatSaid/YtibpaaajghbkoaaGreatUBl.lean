/-  -/
import Derived.Test.YtibpaaajghbkoaaGreatUBk
import Derived.Test.YtibpaaajghbkoaaGreatUAw
import Derived.Test.YtibpaaajghbkoaaGreatUAk
import Derived.Stop.RegionWithIn
namespace Go.Proofs.YtibpaaajghbkoaaGreat
open Go.RowKit Go.Shelf
attribute [local go_sem] Oper.semAt_some
def pAt (L : List Pt) (i : Nat) : Pt := L[i]?.getD (0, 0)
def sidesL (L : List Pt) : List (Nat × Sg) := (List.range L.length).map fun i => (i, (pAt L i, pAt L ((i + 1) % L.length)))
theorem sidesL_len (L : List Pt) : (sidesL L).length = L.length := by unfold sidesL; simp
theorem sidesL_at {L : List Pt} {k : Nat} (h : k < L.length) : (sidesL L)[k]? = some (k, (pAt L k, pAt L ((k + 1) % L.length))) := by
 unfold sidesL
 rw [List.getElem?_map, List.getElem?_range h]; rfl
theorem pAt_some {L : List Pt} {k : Nat} (h : k < L.length) : L[k]? = some (pAt L k) := by
 unfold pAt; rw [List.getElem?_eq_getElem h]; rfl
def KpB (n1 B : Nat) (W W' : World) : Prop := KpN n1 W W' ∧ W'.heap[B]? = W.heap[B]?
theorem KpB.trans {n1 B : Nat} {W1 W2 W3 : World} (h : KpB n1 B W1 W2) (k : KpB n1 B W2 W3) : KpB n1 B W1 W3 := ⟨h.1.trans k.1, k.2.trans h.2⟩
theorem yes_no {e : Ending} {A B : Prop} (h : (e = .returned (.bool true) ∧ A) ∨ (e = .returned (.bool false) ∧ B)) : ∃ bb : Bool, e = .returned (.bool bb) ∧ ((bb = true ∧ A) ∨ (bb = false ∧ B)) := by
 rcases h with ⟨h1, h2⟩ | ⟨h1, h2⟩
 ·exact ⟨true, h1, .inl ⟨rfl, h2⟩⟩
 ·exact ⟨false, h1, .inr ⟨rfl, h2⟩⟩
abbrev encSi (x : Nat × Sg) : Array Value := #[.int .i64 x.1, .agg (encSg x.2).toArray]
set_option maxRecDepth 100000 in
set_option maxHeartbeats 4000000 in
theorem sides1_any {α : Type} (f : α → Nat × Sg) (n : Nat) (hn : 1 ≤ n) (l Bn : Nat) (vt : Value) (L : List Pt) (S : List α) (hS : S.map f = sidesL L) (w : World) (hv : RowE encPt 2 w vt L) (hL : L.length ≤ 2000) (J Jx : List α → World → Prop)
  (W : World) (hJ : AbidesFrom W.heap.size J)
  (hY : ∀ pre x W1, J pre W1 → pre.length < L.length → YieldAt Fence.wide (n - 1) Tryz.prog l (encSi (f x)) W1 fun e W' =>
   (e = .returned (.bool true) ∧ J (pre ++ [x]) W' ∧ KpB w.heap.size Bn W1 W') ∨ (e = .returned (.bool false) ∧ Jx (pre ++ [x]) W'))
  (hlow : ∀ k, k < w.heap.size → W.heap[k]? = w.heap[k]?) (hsz : w.heap.size ≤ W.heap.size) (hBn : W.heap[Bn]? = some (.cells #[vt] 50 (0, 0))) (h0 : J [] W) :
  CallsIn Fence.wide n Tryz.prog 98 #[.func (.yield l) #[] #[], .pointer (some ⟨Bn, 0, none⟩)] W (VaPost S J Jx) := by
 obtain ⟨a, cap, rfl, hc⟩ := hv
 obtain ⟨N, hN⟩ : ∃ N, L.length = N := ⟨_, rfl⟩
 have hSL : S.length = L.length := by rw [← sidesL_len L, ← hS, List.length_map]
 have HSA := Lib.hid (show ∀ k, k < L.length → ∃ x, S[k]? = some x ∧ f x = (k, (pAt L k, pAt L ((k + 1) % L.length))) from fun k h => by
  have h1 := sidesL_at (L := L) h
  rw [← hS, List.getElem?_map] at h1
  exact Option.map_eq_some_iff.1 h1)
 have HPA := Lib.hid (fun k (h : k < L.length) => pAt_some (L := L) h)
 rw [hN] at hc hL hY hBn hSL HSA HPA
 have HN := Lib.hid hN
 have HC := Lib.hid hc
 have hBW := hBn
 have HBN := Lib.hid hBn
 have HSL := Lib.hid hSL
 clear hN hc hBn hS hSL
 refine callsIn_of_wp Tryz.func98 rfl trivial ?_ rfl
 simp only [Tryz.ntmps98, List.size_toArray, List.length_cons, List.length_nil, Nat.reduceAdd, Nat.reduceSub, Array.replicate_succ, Array.replicate_zero, List.push_toArray, List.append_toArray, List.nil_append, List.cons_append]
 obtain ⟨fz, f0⟩ := rk1 hBW
 have hBW' := Lib.hid hBW
 clear hBW
 gi_wp2
 clear f0 fz hBW'
 gi_loopw [7] (fun i wr => ∃ k : Nat, k ≤ N ∧ i = .int .i64 k ∧ J (S.take k) wr ∧ (∀ j, j < w.heap.size → wr.heap[j]? = w.heap[j]?) ∧ W.heap.size ≤ wr.heap.size ∧ wr.heap[Bn]? = W.heap[Bn]?) (fun i _ => N - (intOf i).toNat)
 case atStart => exact ⟨0, by omega, rfl, by simpa using h0, hlow, Nat.le_refl _, rfl⟩
 case round =>
  obtain ⟨k, hk, rfl, hJk, hlk, hsk, hbk⟩ := hrel
  by_cases hlt : k < N
  ·obtain ⟨nx, hnx⟩ : ∃ nx, (k + 1) % N = nx := ⟨_, rfl⟩
   have hnl : nx < N := by rw [← hnx]; exact Nat.mod_lt _ (by omega)
   obtain ⟨x, hsx, hfx⟩ := HSA.out k hlt
   rw [hnx] at hfx
   obtain ⟨p, hp⟩ : ∃ p, pAt L k = p := ⟨_, rfl⟩
   obtain ⟨q, hq⟩ : ∃ q, pAt L nx = q := ⟨_, rfl⟩
   have hp1 := HPA.out k hlt
   have hq1 := HPA.out nx hnl
   rw [hp] at hp1 hfx
   rw [hq] at hq1 hfx
   have m1 : ((k : Int) + 1).tmod (N : Int) = (nx : Int) := by rw [← hnx, Int.natCast_emod, Int.tmod_eq_emod_of_nonneg (by omega)]; rfl
   obtain ⟨b, off, ha, hcell⟩ := HC.out (by omega)
   subst ha
   have c0q := cell_low (hcell k p hp1 0 _ rfl) hlk
   have c1 := cell_low (hcell k p hp1 1 _ rfl) hlk
   have c0 : wr.cell? ⟨b, off + k * 2, none⟩ = some (.int .i64 p.1) := c0q
   have d0q := cell_low (hcell nx q hq1 0 _ rfl) hlk
   have d1 := cell_low (hcell nx q hq1 1 _ rfl) hlk
   have d0 : wr.cell? ⟨b, off + nx * 2, none⟩ = some (.int .i64 q.1) := d0q
   clear c0q d0q
   have HT := Lib.hid (take_snoc' hsx)
   have hlen : (S.take k).length = k := by rw [List.length_take, HSL.out]; omega
   have BA : Below wr.heap.size wr (wr.alloc (.cells #[.int .i64 p.1, .int .i64 p.2] 33)) := (Below.refl _ wr).alloc (Nat.le_refl _) _
   have HX3 := row_new wr (.cells #[.int .i64 p.1, .int .i64 p.2] 33)
   have HBX := row_past (o' := .cells #[.int .i64 p.1, .int .i64 p.2] 33) (hbk.trans HBN.out)
   have e0 := cell_later BA d0
   have e1 := cell_later BA d1
   have hs3 := Nat.le_trans hsk BA.size
   clear d0 d1 hcell hp1 hq1 hp hq hnx
   gi_wp2
   generalize hW3 : wr.alloc (.cells #[.int .i64 p.1, .int .i64 p.2] 33) = W3
   rw [hW3] at BA HX3 HBX e0 e1 hs3
   clear hW3 c0 c1
   obtain ⟨xz, x0, x1⟩ := rk2 HX3
   have HX3' := Lib.hid HX3
   clear HX3
   have HB3 := Lib.hid (show W3.drew.heap[Bn]? = W.heap[Bn]? from HBX.trans HBN.out.symm)
   obtain ⟨yz, y0⟩ := rk1 HBX
   have HBX' := Lib.hid HBX
   clear HBX
   have BD : Below wr.heap.size wr W3.drew := BA.drew
   have HJ3 := Lib.hid (hJ _ _ _ none hJk (grown_none BD) (fun r e => by cases e))
   have HL3 := Lib.hid (show ∀ j, j < w.heap.size → W3.drew.heap[j]? = w.heap[j]? from fun j hj => (BD.block j (by omega)).trans (hlk j hj))
   obtain ⟨fn, tmps, assign, body, hy', hR⟩ := hY (S.take k) x _ HJ3.out (by omega)
   rw [hfx] at hy'
   have hy9 : (Instr.yield l #[.int .i64 k, .agg #[.int .i64 p.1, .int .i64 p.2, .int .i64 q.1, .int .i64 q.2]]).run Tryz.prog W3.drew = .ok (.round l fn tmps assign body) W3.drew := hy'
   have HPRE := Lib.hid (show S.take k ++ [x] <+: S by rw [← HT.out]; exact List.take_prefix _ _)
   have HR := Lib.hid hR
   have jb : (0 : Int) ≤ (nx : Int) := by omega
   have jb2 : (nx : Int) < (N : Int) := by omega
   have jw : IntKind.i64.wrap ((k : Int) + 1) = (k : Int) + 1 := IntWalk.i64_in _ (by omega)
   have jw2 : IntKind.i64.wrap (nx : Int) = (nx : Int) := IntWalk.i64_in _ (by omega)
   clear hJk hlk hR BA BD
   gi_region_with (refine HR.out.mono ?_; intro e W4 hd0; obtain ⟨bb, rfl, hd⟩ := yes_no hd0; clear hd0)
   all_goals
    rcases hd with ⟨rfl, hJ4, hk4⟩ | ⟨rfl, hJx4⟩
    ·have HJ4 := Lib.hid hJ4
     have HL4 := Lib.hid (show (∀ j, j < w.heap.size → W4.heap[j]? = w.heap[j]?) from fun j hj => (hk4.1.1 j hj).trans (HL3.out j hj))
     have hs4 := Nat.le_trans (show W.heap.size ≤ W3.drew.heap.size from hs3) hk4.1.2
     have hb4 : W4.heap[Bn]? = W.heap[Bn]? := hk4.2.trans HB3.out
     clear hJ4 hk4
     gi_wp2
     go_roundw
     case rel => first | exact ⟨k + 1, by omega, by go_num, by rw [HT.out]; exact HJ4.out, HL4.out, hs4, hb4⟩ | ((repeat apply Exists.intro); exact ⟨⟨k + 1, by omega, by go_num, by rw [HT.out]; exact HJ4.out, HL4.out, hs4, hb4⟩, rfl⟩)
     case measure => simp [intOf]; omega
    ·gi_wp2
     refine bodyPost_ret (results_none rfl _ _ _) rfl ?_
     exact ⟨⟨_, rfl⟩, .inr ⟨_, HPRE.out, hJx4⟩⟩
  ·obtain rfl : k = N := by omega
   have HE := Lib.hid (show S = S.take k by rw [List.take_of_length_le (by rw [HSL.out]; exact Nat.le_refl _)])
   gi_wp2
   go_end0
   exact ⟨⟨_, rfl⟩, .inl ⟨_, HE.out.symm, hJk⟩⟩
theorem sides_stops {α : Type} (f : α → Nat × Sg) (n : Nat) (hn : 1 ≤ n) (Bn : Nat) (vt : Value) (L : List Pt) (S : List α) (hS : S.map f = sidesL L) (w w0 : World) (hv : RowE encPt 2 w vt L) (hL : L.length ≤ 2000) (hlow : ∀ k, k < w.heap.size → w0.heap[k]? = w.heap[k]?) (hsz : w.heap.size ≤ w0.heap.size)
  (hBn : w0.heap[Bn]? = some (.cells #[vt] 50 (0, 0))) :
  SeqStopsK Fence.wide n Tryz.prog 98 #[.pointer (some ⟨Bn, 0, none⟩)] (fun x => encSi (f x)) (KpB w.heap.size Bn) (fun ys => ys = S) (fun pre => pre <+: S) L.length w0 := fun l J Jx W hW hJ _ hY h0 =>
 sides1_any f n hn l Bn vt L S hS w hv hL J Jx W hJ hY (fun k hk => (hW.block k (by omega)).trans (hlow k hk)) (Nat.le_trans hsz hW.size) (row_later hW hBn) h0
theorem sides_any (a : Option Addr) (n c : Nat) (w : World) : Calls Tryz.prog 54 #[.slice a n c] w fun e w' => e = .returned (.func (.func 98) #[] #[.pointer (some ⟨w.heap.size, 0, none⟩)]) ∧ w' = w.alloc (.cells #[.slice a n c] 50) := by
 go_enter Tryz.func54, Tryz.ntmps54
 go_wp2
 go_ret
 exact ⟨rfl, rfl⟩
end Go.Proofs.YtibpaaajghbkoaaGreat
