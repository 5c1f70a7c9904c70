/- Contracts of package grid: the closure of Parse. -/
import Derived.Test.YtnilofeakdibhaaDoorGridE
namespace Go.Proofs.YtnilofeakdibhaaDoor
open Go.RowKit Go.Shelf

/-- The number that a piece of a text stands for; -1 if it is none. -/
def numOf (s : ByteArray) : Int := match Lib.atoiAll s.data.toList with
  | .ok v => v
  | _ => -1
/-- The slice of the pieces that are left. -/
def wordsAt (g n k : Nat) : Value := if k < n then .slice (some ⟨g, k, none⟩) (n - k) (n - k) else .slice (some ⟨g, n - 1, none⟩) 0 0
def numAt (ps : List ByteArray) (k : Nat) : Int := if h : k < ps.length then numOf ps[k] else -1

theorem below_bytes {w : World} {c t : _} : Below w.heap.size w (Lib.bytesWorld w c t) := by
  unfold Lib.bytesWorld
  refine Below.trans (b := w.drew.alloc (.cells (Lib.bytesCells w c t) c)) ((Below.refl _ _).drew.alloc (Nat.le_refl _) _) ⟨rfl, rfl, rfl, ?_, fun j hj => ?_⟩
  · simp [World.freeze]
  · simp only [World.freeze]
    rw [if_neg (by omega)]
    simp only [Array.getElem?_modify]
    rw [if_neg (by omega)]

theorem atoi_any (s : ByteArray) (hs : s.size ≤ 281474976710656) (w : World) (he : Env w) :
    Calls Tryd.prog 33 #[.string s] w fun e w' => (∃ v er, e = .returned (.tuple #[.int .i64 v, er]) ∧ ((er = .nilIface ∧ numOf s = v) ∨ ∃ p, er = .iface 84 p ∧ numOf s = -1)) ∧ Below w.heap.size w w' := by
  rcases h : Lib.atoiAll s.data.toList with v | - | -
  · refine (Tryd.strconv_Atoi_ok s (by omega) v h w).mono ?_
    rintro e w' ⟨rfl, hw⟩
    refine ⟨⟨_, _, rfl, Or.inl ⟨rfl, by simp [numOf, h]⟩⟩, ?_⟩
    rcases hw with rfl | ⟨t, rfl⟩
    · exact Below.refl _ _
    · exact below_bytes
  · obtain ⟨tp, p, hv⟩ := he.synt
    refine (Any.strconv_Atoi_syntax_var Tryd.laysC172 s hs h tp p w hv).mono ?_
    rintro e w' ⟨N, rfl, -, -, hb⟩
    exact ⟨⟨_, _, rfl, Or.inr ⟨_, rfl, by simp [numOf, h]⟩⟩, hb⟩
  · obtain ⟨tp, p, hv⟩ := he.rng
    refine (Tryd.strconv_Atoi_range_var s hs h tp p w hv).mono ?_
    rintro e w' ⟨N, rfl, -, -, hb⟩
    exact ⟨⟨_, _, rfl, Or.inr ⟨_, rfl, by simp [numOf, h]⟩⟩, hb⟩

def NumPost (b : Nat) (v : Int) (ws : Value) (w : World) (e : Ending) (w' : World) : Prop :=
  e = .returned (.int .i64 v) ∧ ∃ w1, Below w.heap.size w w1 ∧ w' = w1.setCell ⟨b, 0, none⟩ ws

set_option maxHeartbeats 400000 in
theorem number_none (b g n : Nat) (k : Nat) (hk : n ≤ k) (w : World) (hc : w.cell? ⟨b, 0, none⟩ = some (wordsAt g n k)) :
    Calls Tryd.prog 32 #[.pointer (some ⟨b, 0, none⟩)] w fun e w' => e = .returned (.int .i64 (-1)) ∧ w = w' := by
  rw [wordsAt, if_neg (by omega)] at hc
  go_enter Tryd.func32, Tryd.ntmps32
  go_wp2
  go_ret
  exact ⟨rfl, rfl⟩

set_option maxHeartbeats 400000 in
theorem number_some (b g n : Nat) (k : Nat) (hk : k < n) (hm : n ≤ 4294967281) (s : ByteArray) (hs : s.size ≤ 281474976710656) (w : World) (he : Env w) (hc : w.cell? ⟨b, 0, none⟩ = some (wordsAt g n k)) (hf : w.frozen? ⟨b, 0, none⟩ = false)
    (hg : w.cell? ⟨g, k, none⟩ = some (.string s)) :
    Calls Tryd.prog 32 #[.pointer (some ⟨b, 0, none⟩)] w (NumPost b (numOf s) (wordsAt g n (k + 1)) w) := by
  rw [wordsAt, if_pos hk] at hc
  obtain ⟨m, rfl⟩ : ∃ m, n = k + (m + 1) := ⟨n - k - 1, by omega⟩
  rw [show k + (m + 1) - k = m + 1 by omega] at hc
  have hne : (((m : Int) + 1) == 0) = false := by simp; omega
  have HE := Lib.hid he
  have HA := Lib.hid (fun w1 (hb : Below w.heap.size w w1) => And.intro (cell_later hb hc) ((hb.frozen (p := ⟨b, 0, none⟩) (block_lt_of_cell hc)).trans hf))
  clear he
  have hb0 := block_lt_of_cell hc
  have key : ∀ ws : Value, (m = 0 → ws = .slice (some ⟨g, k, none⟩) 0 0) → (0 < m → ws = .slice (some ⟨g, k + 1, none⟩) m m) →
      Calls Tryd.prog 32 #[.pointer (some ⟨b, 0, none⟩)] w (NumPost b (numOf s) ws w) := by
    intro ws h0 h1
    by_cases hm0 : m = 0
    · have hws := h0 hm0
      subst hm0
      subst hws
      clear h0 h1
      go_enter Tryd.func32, Tryd.ntmps32
      go_wp2_with fail
      refine (atoi_any s hs _ HE.out).mono ?_
      rintro e w1 ⟨⟨v, er, rfl, hv⟩, hb1⟩
      obtain ⟨c1, f1⟩ := HA.out w1 hb1
      clear hc hf hg
      rcases hv with ⟨rfl, rfl⟩ | ⟨p, rfl, hv⟩
      · go_wp2
        go_ret
        exact ⟨rfl, w1, hb1, rfl⟩
      · have HV := Lib.hid hv
        clear hv
        go_wp2
        go_ret
        exact ⟨by rw [HV.out]; rfl, w1, hb1, rfl⟩
    · have hws := h1 (by omega)
      subst hws
      clear h0 h1
      go_enter Tryd.func32, Tryd.ntmps32
      go_wp2_with fail
      refine (atoi_any s hs _ HE.out).mono ?_
      rintro e w1 ⟨⟨v, er, rfl, hv⟩, hb1⟩
      obtain ⟨c1, f1⟩ := HA.out w1 hb1
      clear hc hf hg
      rcases hv with ⟨rfl, rfl⟩ | ⟨p, rfl, hv⟩
      · go_wp2
        go_ret
        exact ⟨rfl, w1, hb1, rfl⟩
      · have HV := Lib.hid hv
        clear hv
        go_wp2
        go_ret
        exact ⟨by rw [HV.out]; rfl, w1, hb1, rfl⟩
  refine key _ (fun h => ?_) (fun h => ?_)
  · rw [wordsAt, if_neg (by omega)]; subst h; rfl
  · rw [wordsAt, if_pos (by omega), show k + (m + 1) - (k + 1) = m by omega]

/-- Only block b of what was there may have changed. -/
structure Kept (b : Nat) (w w' : World) : Prop where
  os : w'.os = w.os
  tape : w'.tape = w.tape
  output : w'.output = w.output
  size : w.heap.size ≤ w'.heap.size
  block : ∀ k, k < w.heap.size → k ≠ b → w'.heap[k]? = w.heap[k]?
theorem Kept.below {b B : Nat} {a w w' : World} (h : Kept b w w') (hb : Below B a w) (hB : B ≤ a.heap.size) (hBb : B ≤ b) : Below B a w' :=
  hb.trans ⟨h.os, h.tape, h.output, h.size, fun k hk => h.block k (Nat.lt_of_lt_of_le hk (Nat.le_trans hB hb.size)) (by omega)⟩
theorem Kept.row {b g : Nat} {w w' : World} (h : Kept b w w') {o : Obj} (hg : w.heap[g]? = some o) (hne : g ≠ b) : w'.heap[g]? = some o :=
  (h.block g (lt_of_block hg) hne).trans hg

def NumAny (b g : Nat) (ps : List ByteArray) (k : Nat) (w : World) (e : Ending) (w' : World) : Prop :=
  e = .returned (.int .i64 (numAt ps k)) ∧ Kept b w w' ∧ w'.heap[b]? = some (.cells #[wordsAt g ps.length (k + 1)] 55 (0, 0))

theorem number_any (b g : Nat) (ps : List ByteArray) (k : Nat) (hm : ps.length ≤ 4294967281) (hs : ∀ s ∈ ps, s.size ≤ 281474976710656) (w : World) (he : Env w)
    (hc : w.heap[b]? = some (.cells #[wordsAt g ps.length k] 55 (0, 0))) (hg : w.heap[g]? = some (.cells (ps.map Value.string).toArray 9 (0, 0))) :
    Calls Tryd.prog 32 #[.pointer (some ⟨b, 0, none⟩)] w (NumAny b g ps k w) := by
  have c0 := cell_of_row w b 0 _ _ _ hc
  have f0 := frozen_of_row w b 0 _ _ hc
  simp only [List.getElem?_toArray, List.getElem?_cons_zero] at c0
  by_cases hk : k < ps.length
  · have g0 := cell_of_row w g k _ _ _ hg
    have g1 : w.cell? ⟨g, k, none⟩ = some (.string ps[k]) := by rw [g0]; simp [hk]
    refine (number_some b g ps.length k hk hm ps[k] (hs _ (List.getElem_mem hk)) w he c0 f0 g1).mono ?_
    rintro e w' ⟨rfl, w1, hb1, rfl⟩
    refine ⟨by rw [numAt, dif_pos hk], ⟨hb1.os, hb1.tape, hb1.output, by simpa [World.setCell] using hb1.size, fun j hj hjb => ?_⟩, ?_⟩
    · rw [Below.heap_setCell _ _ _ _ hjb]; exact hb1.block j hj
    · have := heap_setCell_same w1 b 0 _ _ (wordsAt g ps.length (k + 1)) (row_later hb1 hc)
      simpa using this
  · refine (number_none b g ps.length k (by omega) w c0).mono ?_
    rintro e w' ⟨rfl, rfl⟩
    refine ⟨by rw [numAt, dif_neg hk], ⟨rfl, rfl, rfl, Nat.le_refl _, fun _ _ _ => rfl⟩, ?_⟩
    rw [hc]
    rw [wordsAt, wordsAt, if_neg hk, if_neg (by omega)]
end Go.Proofs.YtnilofeakdibhaaDoor
