/- The iterator name.names. -/
import Derived.Test.YtapllmniplgajaaGreatDoorNamA
import Derived.Test.YtapllmniplgajaaGreatDoorObjT
import Derived.RangeFuncBox
import Derived.RangeFuncNested
import Derived.RangeFuncBound
import Derived.RangeFuncCalls
import Derived.RangeFuncLeaves
import Derived.Shelf.Abstract
import Derived.OwnWalkIn
import Derived.TacticsInMore
import Derived.LoopNIn
import Derived.LoopIn
namespace Go.Proofs.YtapllmniplgajaaGreatDoor
open Go.RowKit Go.Shelf

attribute [local go_sem] Oper.semAt_some

/-- The name tags of a list with their languages. -/
def namesL (l : List TagD) : List (ByteArray × TagD) := l.filterMap fun t => (langB t.key).map fun s => (s, t)
def pairV (p : ByteArray × TagD) : Array Value := #[.string p.1, .agg #[.string p.2.key, .string p.2.val]]
theorem namesL_take (l : List TagD) (k : Nat) (t : TagD) (ht : l[k]? = some t) : namesL (l.take (k + 1)) = namesL (l.take k) ++ (match langB t.key with | some s => [(s, t)] | none => []) := by
  obtain ⟨hk, rfl⟩ := List.getElem?_eq_some_iff.1 ht
  unfold namesL
  rw [List.take_succ_eq_append_getElem hk, List.filterMap_append]
  cases h : langB l[k].key <;> simp [h]
theorem namesL_len (l : List TagD) : (namesL l).length ≤ l.length := List.length_filterMap_le _ _
theorem namesL_pre (l : List TagD) (k : Nat) : namesL (l.take k) <+: namesL l := by
  conv => rhs; rw [← List.take_append_drop k l]
  unfold namesL
  rw [List.filterMap_append]
  exact List.prefix_append _ _
theorem cell_low {w W : World} {b o : Nat} {v : Value} (h : w.cell? ⟨b, o, none⟩ = some v) (hk : ∀ k, k < w.heap.size → W.heap[k]? = w.heap[k]?) : W.cell? ⟨b, o, none⟩ = some v := by
  have hb := lt_of_cell h
  rw [← h]
  simp only [World.cell?, hk b hb]
theorem grown_none {w w' : World} (h : Below w.heap.size w w') : w.grownBy w' none := ⟨h.os, h.tape, h.output, h.size, fun k hk _ => h.block k hk⟩
/-- What a round keeps. -/
def KpN (n1 : Nat) (W W' : World) : Prop := (∀ k, k < n1 → W'.heap[k]? = W.heap[k]?) ∧ W.heap.size ≤ W'.heap.size
theorem KpN.trans {n1 : Nat} {A B C : World} (h : KpN n1 A B) (k : KpN n1 B C) : KpN n1 A C := ⟨fun i hi => (k.1 i hi).trans (h.1 i hi), Nat.le_trans h.2 k.2⟩
def NmPost (l : List (ByteArray × TagD)) (J Jx : List (ByteArray × TagD) → World → Prop) (e : Ending) (W' : World) : Prop :=
  (∃ v, e = .returned v) ∧ ((∃ ys, ys = l ∧ J ys W') ∨ (∃ pre, pre <+: l ∧ Jx pre W'))

set_option maxRecDepth 100000 in
set_option maxHeartbeats 2000000 in
/-- The iterator: for every loop body that keeps what lay below the caller's own blocks. -/
theorem names1_any (n : Nat) (hn : 1 ≤ n) (l Bn : Nat) (vt : Value) (tags : List TagD) (w : World) (hv : TagRow w vt tags) (hnm : ∀ t ∈ tags, nameB t.key = true) (J Jx : List (ByteArray × TagD) → World → Prop)
    (W : World) (hJ : AbidesFrom W.heap.size J)
    (hY : ∀ pre x W1, J pre W1 → pre.length < tags.length → YieldAt Fence.wide (n - 1) Tryz.prog l (pairV x) W1 fun e W' =>
      (e = .returned (.bool true) ∧ J (pre ++ [x]) W' ∧ KpN w.heap.size W1 W') ∨ (e = .returned (.bool false) ∧ Jx (pre ++ [x]) W'))
    (hlow : ∀ k, k < w.heap.size → W.heap[k]? = w.heap[k]?) (hsz : w.heap.size ≤ W.heap.size) (hBn : W.heap[Bn]? = some (.cells #[vt] 57 (0, 0))) (h0 : J [] W) :
    CallsIn Fence.wide n Tryz.prog 86 #[.func (.yield l) #[] #[], .pointer (some ⟨Bn, 0, none⟩)] W (NmPost (namesL tags) J Jx) := by
  obtain ⟨a, cap, rfl, hn0, hsz0, hc⟩ := hv
  generalize hN : tags.length = N at *
  have HN := Lib.hid hN
  have HC := Lib.hid hc
  have HNM := Lib.hid hnm
  clear hN hc hnm hsz0
  refine callsIn_of_wp Tryz.func86 rfl trivial ?_ rfl
  simp only [Tryz.ntmps86, List.size_toArray, List.length_cons, List.length_nil, Nat.reduceAdd, Nat.reduceSub, Array.replicate_succ, Array.replicate_zero, List.push_toArray, List.append_toArray, List.nil_append, List.cons_append]
  have fz := lt_of_block hBn
  have f0 := cell_of_row W _ 0 _ _ _ hBn
  simp only [List.getElem?_toArray, List.getElem?_cons_zero] at f0
  have hBn' := Lib.hid hBn
  clear hBn
  gi_wp2
  clear f0 fz hBn'
  gi_loopw [9] (fun i wr => ∃ k : Nat, k ≤ N ∧ i = .int .i64 k ∧ J (namesL (tags.take k)) wr ∧ (∀ j, j < w.heap.size → wr.heap[j]? = w.heap[j]?) ∧ W.heap.size ≤ wr.heap.size) (fun i _ => N - (intOf i).toNat)
  case atStart => exact ⟨0, by omega, rfl, by simpa [namesL] using h0, hlow, Nat.le_refl _⟩
  case round =>
    obtain ⟨k, hk, rfl, hJk, hlk, hsk⟩ := hrel
    by_cases hlt : k < N
    · obtain ⟨t, ht⟩ : ∃ t, tags[k]? = some t := ⟨tags[k]'(by rw [HN.out]; exact hlt), List.getElem?_eq_getElem _⟩
      obtain ⟨b, off, ha, hcell⟩ := HC.out (by omega)
      subst ha
      have c0 := cell_low (hcell k t ht).1 hlk
      have c1 := cell_low (hcell k t ht).2 hlk
      have hnt := HNM.out t (List.mem_of_getElem? ht)
      have HT := Lib.hid (namesL_take tags k t ht)
      have hlen : (namesL (tags.take k)).length ≤ k := by
        have := namesL_len (tags.take k)
        rw [List.length_take] at this; omega
      have LG := Lib.hid (fun w => language_any t.key hnt w)
      have HJK := Lib.hid hJk
      have HLK := Lib.hid hlk
      clear hcell ht hnt hJk hlk
      gi_wp2
      refine ⟨trivial, (callsIn_wide.2 (LG.out _)).mono ?_⟩
      rintro e W3 ⟨⟨s, bo, rfl, hbo, hs⟩, hb3⟩
      have BA : Below wr.heap.size wr (wr.alloc (.cells #[.string t.key, .string t.val] 69)) := (Below.refl _ wr).alloc (Nat.le_refl _) _
      have HX3 := row_later hb3 (row_new wr (.cells #[.string t.key, .string t.val] 69))
      have B3 := below_step BA (Nat.le_refl _) hb3
      have HJ3 := Lib.hid (hJ _ _ _ none HJK.out (grown_none B3) (fun r e => by cases e))
      have HL3 := Lib.hid (show ∀ j, j < w.heap.size → W3.heap[j]? = w.heap[j]? from fun j hj => (B3.block j (by omega)).trans (HLK.out j hj))
      have hs3 := Nat.le_trans hsk B3.size
      clear BA hb3 B3 c0 c1
      cases hl : langB t.key with
      | none =>
        have HT2 := Lib.hid (show namesL (tags.take (k + 1)) = namesL (tags.take k) by rw [HT.out, hl]; simp)
        rw [hl] at hbo
        obtain rfl : bo = false := hbo
        clear hl hs HX3
        gi_wp2
        refine ⟨fun _ h => (by cases h), ?_⟩
        gi_wp2
        go_roundw
        case rel => exact ⟨k + 1, by omega, by go_num, by rw [HT2.out]; exact HJ3.out, HL3.out, hs3⟩
        case measure => simp [intOf]; omega
      | some own =>
        have HT2 := Lib.hid (show namesL (tags.take (k + 1)) = namesL (tags.take k) ++ [(own, t)] by rw [HT.out, hl])
        rw [hl] at hbo
        obtain rfl : bo = true := hbo
        obtain rfl : s = own := hs own hl
        clear hl hs
        obtain ⟨fn, tmps, assign, body, hy', hR⟩ := hY (namesL (tags.take k)) (s, t) W3 HJ3.out (by omega)
        dsimp only [pairV] at hy'
        have HPRE := Lib.hid (show namesL (tags.take k) ++ [(s, t)] <+: namesL tags by rw [← HT2.out]; exact namesL_pre tags (k + 1))
        have xz := lt_of_block HX3
        have x0 := cell_of_row W3 _ 0 _ _ _ HX3
        have x1 := cell_of_row W3 _ 1 _ _ _ HX3
        simp only [List.getElem?_toArray, List.getElem?_cons_zero, List.getElem?_cons_succ] at x0 x1
        have HX3' := Lib.hid HX3
        clear HX3
        clear HX3'
        gi_wp2
        refine hR.mono ?_
        rintro e W4 (⟨rfl, hJ4, hk4⟩ | ⟨rfl, hJx4⟩)
        · have HJ4 := Lib.hid hJ4
          have HL4 := Lib.hid (show (∀ j, j < w.heap.size → W4.heap[j]? = w.heap[j]?) from fun j hj => (hk4.1 j hj).trans (HL3.out j hj))
          have hs4 := Nat.le_trans hs3 hk4.2
          clear hJ4 hk4
          gi_wp2
          go_roundw
          case rel => first | exact ⟨k + 1, by omega, by go_num, by rw [HT2.out]; exact HJ4.out, HL4.out, hs4⟩ | ((repeat apply Exists.intro); exact ⟨⟨k + 1, by omega, by go_num, by rw [HT2.out]; exact HJ4.out, HL4.out, hs4⟩, rfl⟩)
          case measure => simp [intOf]; omega
        · gi_wp2
          refine bodyPost_ret (results_none rfl _ _ _) rfl ?_
          exact ⟨⟨_, rfl⟩, .inr ⟨_, HPRE.out, hJx4⟩⟩
    · obtain rfl : k = N := by omega
      have HE := Lib.hid (show namesL tags = namesL (tags.take k) by rw [List.take_of_length_le (by rw [HN.out]; exact Nat.le_refl _)])
      gi_wp2
      go_end0
      exact ⟨⟨_, rfl⟩, .inl ⟨_, HE.out.symm, hJk⟩⟩
end Go.Proofs.YtapllmniplgajaaGreatDoor
