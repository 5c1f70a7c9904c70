/- Contract of name.language, at keys that are names. The iterator name.names. -/
import Derived.Test.YtapllmniplgajaaGreatDoorObjP
import Derived.Test.YtapllmniplgajaaGreatDoorShelf
import Derived.Test.YtapllmniplgajaaGreatDoorKit
import Derived.Laws.RangeString
import Derived.Laws.RangeAny
import Derived.Test.YtapllmniplgajaaGreatDoorObjT
import Derived.RangeFuncBox
import Derived.RangeFuncNested
import Derived.RangeFuncBound
import Derived.RangeFuncCalls
import Derived.RangeFuncLeaves
import Derived.Shelf.Abstract
import Derived.OwnWalkIn
import Derived.TacticsInMore
import Derived.LoopNIn
import Derived.LoopIn
namespace Go.Proofs.YtapllmniplgajaaGreatDoor
open Go.RowKit

def lowL (l : List UInt8) : Bool := l.all fun c => decide (97 ≤ c.toNat ∧ c.toNat ≤ 122)
/-- What follows the prefix of a key. -/
def restB (key : ByteArray) : ByteArray := ⟨(Lib.trimPrefix key.data.toList [110, 97, 109, 101, 95]).toArray⟩
/-- The language of a key, where it is the key of a name. -/
def langB (key : ByteArray) : Option ByteArray :=
  if key = ⟨#[110, 97, 109, 101]⟩ then some ⟨#[]⟩
  else if Lib.hasPrefix key.data.toList [110, 97, 109, 101, 95] && lowL (restB key).data.toList && decide (0 < (restB key).size) && decide ((restB key).size ≤ 8) then some (restB key) else none

theorem letter_ascii (c : UInt8) (h : letterC c = true) : c.toNat < 128 := by
  unfold letterC at h; rw [decide_eq_true_eq] at h; omega
theorem word_ascii (c : UInt8) (h : wordC c = true) : c.toNat < 128 := by
  unfold wordC at h
  rw [Bool.or_eq_true, Bool.or_eq_true] at h
  rcases h with (h | h) | h
  · exact letter_ascii c h
  · unfold digitC at h; rw [decide_eq_true_eq] at h; omega
  · rw [decide_eq_true_eq] at h; omega
theorem name_ascii (key : ByteArray) (h : nameB key = true) : ∀ b ∈ key.data.toList, b.toNat < 128 := by
  unfold nameB nameL at h
  rw [Bool.and_eq_true] at h
  have h2 := h.2
  intro b hb
  cases hk : key.data.toList with
  | nil => rw [hk] at hb; cases hb
  | cons c r =>
    rw [hk] at hb h2
    simp only [preOK, Bool.and_eq_true] at h2
    rcases List.mem_cons.1 hb with rfl | hb
    · exact letter_ascii _ h2.1
    · exact word_ascii _ (List.all_eq_true.1 h2.2 b hb)
theorem rest_sub (key : ByteArray) : ∀ b ∈ (restB key).data.toList, b ∈ key.data.toList := by
  intro b hb
  unfold restB Lib.trimPrefix at hb
  simp only [] at hb
  split at hb
  · exact List.mem_of_mem_drop hb
  · exact hb
theorem low_take (l : List UInt8) (k : Nat) (c : UInt8) (hc : l[k]? = some c) : lowL (l.take (k + 1)) = (lowL (l.take k) && decide (97 ≤ c.toNat ∧ c.toNat ≤ 122)) := by
  obtain ⟨hk, rfl⟩ := List.getElem?_eq_some_iff.1 hc
  unfold lowL
  rw [List.take_succ_eq_append_getElem hk, List.all_append]; simp

def LangPost (key : ByteArray) (w : World) (e : Ending) (w' : World) : Prop := (∃ s b, e = .returned (.tuple #[.string s, .bool b]) ∧ b = (langB key).isSome ∧ ∀ l, langB key = some l → s = l) ∧ Below w.heap.size w w'
set_option maxRecDepth 100000 in
set_option maxHeartbeats 2000000 in
theorem language_any (key : ByteArray) (hn : nameB key = true) (w : World) :
    Calls Tryz.prog 87 #[.string key] w (LangPost key w) := by
  by_cases hk : key = ⟨#[110, 97, 109, 101]⟩
  · have HL := Lib.hid (show langB key = some ⟨#[]⟩ by unfold langB; rw [if_pos hk])
    have e1 : (key.toList == (⟨#[110, 97, 109, 101]⟩ : ByteArray).toList) = true := str_eq_true hk
    have e2 := e1
    rw [show (⟨#[110, 97, 109, 101]⟩ : ByteArray).toList = [110, 97, 109, 101] by rw [ByteArray.toList_eq]] at e1
    clear hk hn
    go_enter Tryz.func87, Tryz.ntmps87
    go_wp2
    go_ret2
    exact ⟨⟨_, _, rfl, by rw [HL.out]; rfl, fun l h => by rw [HL.out] at h; injection h⟩, Below.refl _ _⟩
  · have HA := Lib.hid (fun b hb => name_ascii key hn b (rest_sub key b hb))
    have HL := Lib.hid (show langB key = if Lib.hasPrefix key.data.toList [110, 97, 109, 101, 95] && lowL (restB key).data.toList && decide (0 < (restB key).size) && decide ((restB key).size ≤ 8) then some (restB key) else none by unfold langB; rw [if_neg hk])
    have e1 : (key.toList == (⟨#[110, 97, 109, 101]⟩ : ByteArray).toList) = false := str_eq_false hk
    have e2 := e1
    rw [show (⟨#[110, 97, 109, 101]⟩ : ByteArray).toList = [110, 97, 109, 101] by rw [ByteArray.toList_eq]] at e1
    have CP := Lib.hid (show ∀ w, Calls Tryz.prog 110 #[.string key, .string ⟨#[110, 97, 109, 101, 95]⟩] w fun e w' => e = .returned (.tuple #[.string (restB key), .bool (Lib.hasPrefix key.data.toList [110, 97, 109, 101, 95])]) ∧ w' = w from fun w => Tryz.strings_CutPrefix key ⟨#[110, 97, 109, 101, 95]⟩ w)
    clear hk hn
    generalize restB key = r at HA HL CP
    generalize Lib.hasPrefix key.data.toList [110, 97, 109, 101, 95] = b0 at HL CP
    go_enter Tryz.func87, Tryz.ntmps87
    go_wp2_with fail
    refine (CP.out _).mono ?_
    rintro e w1 ⟨rfl, rfl⟩
    go_wp2
    go_loopw [5] (fun s wr => ∃ (pos : Nat) (b : Bool), s = .bool b ∧ pos ≤ r.size ∧ wr = w1.iter r pos ∧ b = (b0 && lowL (r.data.toList.take pos))) (fun _ wr => r.size - wr.iterPos w1.heap.size)
    case atStart => exact ⟨0, b0, rfl, by omega, rfl, by simp [lowL]⟩
    case round =>
      obtain ⟨pos, b, rfl, hpos, rfl, hb⟩ := hrel
      by_cases hp : pos < r.size
      · have hmem : r[pos]'hp ∈ r.data.toList := by
          have : r[pos]'hp = r.data[pos]'hp := rfl
          rw [this]; simp
        have ha := HA.out _ hmem
        have hnx : ∀ ty, (Instr.next (.pointer (some ⟨w1.heap.size, 0, none⟩)) true ty).run Tryz.prog (w1.iter r pos) = _ := fun ty => run_next_ascii w1 r pos ty hp ha
        have hget : r.data.toList[pos]? = some (r[pos]'hp) := by
          rw [List.getElem?_eq_getElem (by simpa using hp)]; rfl
        have HB := Lib.hid (show (b0 && lowL (r.data.toList.take (pos + 1))) = (b && decide (97 ≤ (r[pos]'hp).toNat ∧ (r[pos]'hp).toNat ≤ 122)) by rw [low_take _ _ _ hget, ← Bool.and_assoc, ← hb])
        clear hmem hget hb
        generalize hc : (r[pos]'hp).toNat = c at hnx HB ha
        clear hc
        cases b
        · go_wp2
          go_roundw
          case rel => exact ⟨pos + 1, false, rfl, by omega, rfl, by rw [HB.out]; rfl⟩
          case measure => simp; omega
        · by_cases h1 : 97 ≤ c
          · have h1z : (97 : Int) ≤ (c : Int) := by omega
            by_cases h2 : c ≤ 122
            · have h2z : (c : Int) ≤ 122 := by omega
              go_wp2
              go_roundw
              case rel => exact ⟨pos + 1, true, rfl, by omega, rfl, by rw [HB.out]; simp [h1, h2]⟩
              case measure => simp; omega
            · have h2z : ¬ (c : Int) ≤ 122 := by omega
              go_wp2
              go_roundw
              case rel => exact ⟨pos + 1, false, rfl, by omega, rfl, by rw [HB.out]; simp [h2]⟩
              case measure => simp; omega
          · have h1z : ¬ (97 : Int) ≤ (c : Int) := by omega
            go_wp2
            go_roundw
            case rel => exact ⟨pos + 1, false, rfl, by omega, rfl, by rw [HB.out]; simp [h1]⟩
            case measure => simp; omega
      · have hnx : ∀ ty, (Instr.next (.pointer (some ⟨w1.heap.size, 0, none⟩)) true ty).run Tryz.prog (w1.iter r pos) = _ := fun ty => run_next_end w1 r pos ty hp
        have hlen : r.data.toList.length = r.size := by rw [Array.length_toList]; rfl
        have hfull : r.data.toList.take pos = r.data.toList := List.take_of_length_le (by omega)
        rw [hfull] at hb
        have BE : Below w1.heap.size w1 (w1.iter r pos) := (Below.refl _ _).alloc (Nat.le_refl _) _
        have HR := Lib.hid (show langB key = if b && decide (0 < r.size) && decide (r.size ≤ 8) then some r else none by rw [HL.out, ← hb])
        clear hb hfull
        cases b
        · go_wp2
          go_ret2
          exact ⟨⟨_, _, rfl, by rw [HR.out]; rfl, fun l h => by rw [HR.out] at h; cases h⟩, BE⟩
        · by_cases h1 : 0 < r.size
          · have h1z : (0 : Int) < (r.size : Int) := by omega
            by_cases h2 : r.size ≤ 8
            · have h2z : (r.size : Int) ≤ 8 := by omega
              have HR2 := Lib.hid (show langB key = some r by rw [HR.out]; simp [h1, h2])
              go_wp2
              go_ret2
              exact ⟨⟨_, _, rfl, by rw [HR2.out]; simp, fun l h => by rw [HR2.out] at h; injection h⟩, BE⟩
            · have h2z : ¬ (r.size : Int) ≤ 8 := by omega
              have HR2 := Lib.hid (show langB key = none by rw [HR.out]; simp [h2])
              go_wp2
              go_ret2
              exact ⟨⟨_, _, rfl, by rw [HR2.out]; simp, fun l h => by rw [HR2.out] at h; cases h⟩, BE⟩
          · have h1z : ¬ (0 : Int) < (r.size : Int) := by omega
            have HR2 := Lib.hid (show langB key = none by rw [HR.out]; simp [h1])
            go_wp2
            go_ret2
            exact ⟨⟨_, _, rfl, by rw [HR2.out]; simp, fun l h => by rw [HR2.out] at h; cases h⟩, BE⟩
end Go.Proofs.YtapllmniplgajaaGreatDoor

namespace Go.Proofs.YtapllmniplgajaaGreatDoor
open Go.RowKit Go.Shelf

attribute [local go_sem] Oper.semAt_some

/-- The name tags of a list with their languages. -/
def namesL (l : List TagD) : List (ByteArray × TagD) := l.filterMap fun t => (langB t.key).map fun s => (s, t)
def pairV (p : ByteArray × TagD) : Array Value := #[.string p.1, .agg #[.string p.2.key, .string p.2.val]]
theorem namesL_take (l : List TagD) (k : Nat) (t : TagD) (ht : l[k]? = some t) : namesL (l.take (k + 1)) = namesL (l.take k) ++ (match langB t.key with | some s => [(s, t)] | none => []) := by
  obtain ⟨hk, rfl⟩ := List.getElem?_eq_some_iff.1 ht
  unfold namesL
  rw [List.take_succ_eq_append_getElem hk, List.filterMap_append]
  cases h : langB l[k].key <;> simp [h]
theorem namesL_len (l : List TagD) : (namesL l).length ≤ l.length := List.length_filterMap_le _ _
theorem namesL_pre (l : List TagD) (k : Nat) : namesL (l.take k) <+: namesL l := by
  conv => rhs; rw [← List.take_append_drop k l]
  unfold namesL
  rw [List.filterMap_append]
  exact List.prefix_append _ _
theorem cell_low {w W : World} {b o : Nat} {v : Value} (h : w.cell? ⟨b, o, none⟩ = some v) (hk : ∀ k, k < w.heap.size → W.heap[k]? = w.heap[k]?) : W.cell? ⟨b, o, none⟩ = some v := by
  have hb := lt_of_cell h
  rw [← h]
  simp only [World.cell?, hk b hb]
theorem grown_none {w w' : World} (h : Below w.heap.size w w') : w.grownBy w' none := ⟨h.os, h.tape, h.output, h.size, fun k hk _ => h.block k hk⟩
/-- What a round keeps. -/
def KpN (n1 : Nat) (W W' : World) : Prop := (∀ k, k < n1 → W'.heap[k]? = W.heap[k]?) ∧ W.heap.size ≤ W'.heap.size
theorem KpN.trans {n1 : Nat} {A B C : World} (h : KpN n1 A B) (k : KpN n1 B C) : KpN n1 A C := ⟨fun i hi => (k.1 i hi).trans (h.1 i hi), Nat.le_trans h.2 k.2⟩
def NmPost (l : List (ByteArray × TagD)) (J Jx : List (ByteArray × TagD) → World → Prop) (e : Ending) (W' : World) : Prop :=
  (∃ v, e = .returned v) ∧ ((∃ ys, ys = l ∧ J ys W') ∨ (∃ pre, pre <+: l ∧ Jx pre W'))

set_option maxRecDepth 100000 in
set_option maxHeartbeats 2000000 in
/-- The iterator: for every loop body that keeps what lay below the caller's own blocks. -/
theorem names1_any (n : Nat) (hn : 1 ≤ n) (l Bn : Nat) (vt : Value) (tags : List TagD) (w : World) (hv : TagRow w vt tags) (hnm : ∀ t ∈ tags, nameB t.key = true) (J Jx : List (ByteArray × TagD) → World → Prop)
    (W : World) (hJ : AbidesFrom W.heap.size J)
    (hY : ∀ pre x W1, J pre W1 → pre.length < tags.length → YieldAt Fence.wide (n - 1) Tryz.prog l (pairV x) W1 fun e W' =>
      (e = .returned (.bool true) ∧ J (pre ++ [x]) W' ∧ KpN w.heap.size W1 W') ∨ (e = .returned (.bool false) ∧ Jx (pre ++ [x]) W'))
    (hlow : ∀ k, k < w.heap.size → W.heap[k]? = w.heap[k]?) (hsz : w.heap.size ≤ W.heap.size) (hBn : W.heap[Bn]? = some (.cells #[vt] 57 (0, 0))) (h0 : J [] W) :
    CallsIn Fence.wide n Tryz.prog 86 #[.func (.yield l) #[] #[], .pointer (some ⟨Bn, 0, none⟩)] W (NmPost (namesL tags) J Jx) := by
  obtain ⟨a, cap, rfl, hn0, hsz0, hc⟩ := hv
  generalize hN : tags.length = N at *
  have HN := Lib.hid hN
  have HC := Lib.hid hc
  have HNM := Lib.hid hnm
  clear hN hc hnm hsz0
  refine callsIn_of_wp Tryz.func86 rfl trivial ?_ rfl
  simp only [Tryz.ntmps86, List.size_toArray, List.length_cons, List.length_nil, Nat.reduceAdd, Nat.reduceSub, Array.replicate_succ, Array.replicate_zero, List.push_toArray, List.append_toArray, List.nil_append, List.cons_append]
  have fz := lt_of_block hBn
  have f0 := cell_of_row W _ 0 _ _ _ hBn
  simp only [List.getElem?_toArray, List.getElem?_cons_zero] at f0
  have hBn' := Lib.hid hBn
  clear hBn
  gi_wp2
  clear f0 fz hBn'
  gi_loopw [9] (fun i wr => ∃ k : Nat, k ≤ N ∧ i = .int .i64 k ∧ J (namesL (tags.take k)) wr ∧ (∀ j, j < w.heap.size → wr.heap[j]? = w.heap[j]?) ∧ W.heap.size ≤ wr.heap.size) (fun i _ => N - (intOf i).toNat)
  case atStart => exact ⟨0, by omega, rfl, by simpa [namesL] using h0, hlow, Nat.le_refl _⟩
  case round =>
    obtain ⟨k, hk, rfl, hJk, hlk, hsk⟩ := hrel
    by_cases hlt : k < N
    · obtain ⟨t, ht⟩ : ∃ t, tags[k]? = some t := ⟨tags[k]'(by rw [HN.out]; exact hlt), List.getElem?_eq_getElem _⟩
      obtain ⟨b, off, ha, hcell⟩ := HC.out (by omega)
      subst ha
      have c0 := cell_low (hcell k t ht).1 hlk
      have c1 := cell_low (hcell k t ht).2 hlk
      have hnt := HNM.out t (List.mem_of_getElem? ht)
      have HT := Lib.hid (namesL_take tags k t ht)
      have hlen : (namesL (tags.take k)).length ≤ k := by
        have := namesL_len (tags.take k)
        rw [List.length_take] at this; omega
      have LG := Lib.hid (fun w => language_any t.key hnt w)
      have HJK := Lib.hid hJk
      have HLK := Lib.hid hlk
      clear hcell ht hnt hJk hlk
      gi_wp2
      refine ⟨trivial, (callsIn_wide.2 (LG.out _)).mono ?_⟩
      rintro e W3 ⟨⟨s, bo, rfl, hbo, hs⟩, hb3⟩
      have BA : Below wr.heap.size wr (wr.alloc (.cells #[.string t.key, .string t.val] 69)) := (Below.refl _ wr).alloc (Nat.le_refl _) _
      have HX3 := row_later hb3 (row_new wr (.cells #[.string t.key, .string t.val] 69))
      have B3 := below_step BA (Nat.le_refl _) hb3
      have HJ3 := Lib.hid (hJ _ _ _ none HJK.out (grown_none B3) (fun r e => by cases e))
      have HL3 := Lib.hid (show ∀ j, j < w.heap.size → W3.heap[j]? = w.heap[j]? from fun j hj => (B3.block j (by omega)).trans (HLK.out j hj))
      have hs3 := Nat.le_trans hsk B3.size
      clear BA hb3 B3 c0 c1
      cases hl : langB t.key with
      | none =>
        have HT2 := Lib.hid (show namesL (tags.take (k + 1)) = namesL (tags.take k) by rw [HT.out, hl]; simp)
        rw [hl] at hbo
        obtain rfl : bo = false := hbo
        clear hl hs HX3
        gi_wp2
        refine ⟨fun _ h => (by cases h), ?_⟩
        gi_wp2
        go_roundw
        case rel => exact ⟨k + 1, by omega, by go_num, by rw [HT2.out]; exact HJ3.out, HL3.out, hs3⟩
        case measure => simp [intOf]; omega
      | some own =>
        have HT2 := Lib.hid (show namesL (tags.take (k + 1)) = namesL (tags.take k) ++ [(own, t)] by rw [HT.out, hl])
        rw [hl] at hbo
        obtain rfl : bo = true := hbo
        obtain rfl : s = own := hs own hl
        clear hl hs
        obtain ⟨fn, tmps, assign, body, hy', hR⟩ := hY (namesL (tags.take k)) (s, t) W3 HJ3.out (by omega)
        dsimp only [pairV] at hy'
        have HPRE := Lib.hid (show namesL (tags.take k) ++ [(s, t)] <+: namesL tags by rw [← HT2.out]; exact namesL_pre tags (k + 1))
        have xz := lt_of_block HX3
        have x0 := cell_of_row W3 _ 0 _ _ _ HX3
        have x1 := cell_of_row W3 _ 1 _ _ _ HX3
        simp only [List.getElem?_toArray, List.getElem?_cons_zero, List.getElem?_cons_succ] at x0 x1
        have HX3' := Lib.hid HX3
        clear HX3
        clear HX3'
        gi_wp2
        refine hR.mono ?_
        rintro e W4 (⟨rfl, hJ4, hk4⟩ | ⟨rfl, hJx4⟩)
        · have HJ4 := Lib.hid hJ4
          have HL4 := Lib.hid (show (∀ j, j < w.heap.size → W4.heap[j]? = w.heap[j]?) from fun j hj => (hk4.1 j hj).trans (HL3.out j hj))
          have hs4 := Nat.le_trans hs3 hk4.2
          clear hJ4 hk4
          gi_wp2
          go_roundw
          case rel => first | exact ⟨k + 1, by omega, by go_num, by rw [HT2.out]; exact HJ4.out, HL4.out, hs4⟩ | ((repeat apply Exists.intro); exact ⟨⟨k + 1, by omega, by go_num, by rw [HT2.out]; exact HJ4.out, HL4.out, hs4⟩, rfl⟩)
          case measure => simp [intOf]; omega
        · gi_wp2
          refine bodyPost_ret (results_none rfl _ _ _) rfl ?_
          exact ⟨⟨_, rfl⟩, .inr ⟨_, HPRE.out, hJx4⟩⟩
    · obtain rfl : k = N := by omega
      have HE := Lib.hid (show namesL tags = namesL (tags.take k) by rw [List.take_of_length_le (by rw [HN.out]; exact Nat.le_refl _)])
      gi_wp2
      go_end0
      exact ⟨⟨_, rfl⟩, .inl ⟨_, HE.out.symm, hJk⟩⟩
end Go.Proofs.YtapllmniplgajaaGreatDoor
