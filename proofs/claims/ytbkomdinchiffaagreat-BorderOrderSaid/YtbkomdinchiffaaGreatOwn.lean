/- A cell of an element of a row of one's own is written over. -/
import Derived.Test.YtbkomdinchiffaaGreatSrcAB
import Derived.Test.YtbkomdinchiffaaGreatBorT
namespace Go.Proofs.YtbkomdinchiffaaGreat
open Go.RowKit

section
variable {α : Type} {enc : α → List Value} {k : Nat}
theorem own_field (hk : ∀ x, (enc x).length = k) {w : World} {base n g cap : Nat} {e : TypeId} {l : List α} (h : w.ownsRow base e k (.slice (some ⟨g, 0, none⟩) n cap) n (l.flatMap enc)) (hn : n = l.length) {j : Nat} {x x' : α} (hx : l[j]? = some x) {o : Nat} {vs : List Value}
    (hle : o + vs.length ≤ k) (he : ∀ r, r < k → (enc x')[r]? = if o ≤ r ∧ r < o + vs.length then vs[r - o]? else (enc x)[r]?) :
    (w.setCells g (j * k + o) vs).ownsRow base e k (.slice (some ⟨g, 0, none⟩) n cap) n ((l.set j x').flatMap enc) ∧ w.grownBy (w.setCells g (j * k + o) vs) (some g) := by
  subst hn
  refine ⟨⟨by rw [flat_length enc k hk, List.length_set], ?_⟩, setCells_grown _ _ _⟩
  obtain ⟨hlen, h2⟩ := h
  have hjl : j < l.length := (List.getElem?_eq_some_iff.1 hx).1
  rcases h2 with ⟨h2, _⟩ | ⟨g', cap', cur, hv, hb, hc, h3, h4, h5, h6⟩
  · cases h2
  · injection hv with e1 e2 e3
    injection e1 with e1
    injection e1 with e1
    subst e1 e3
    have hjk : j * k + k ≤ l.length * k := by
      have := Nat.mul_le_mul_right k (Nat.succ_le_of_lt hjl)
      rw [Nat.succ_mul] at this; exact this
    have hlc : l.length * k ≤ cur.size := by rw [h5]; exact Nat.mul_le_mul_right k h3
    refine Or.inr ⟨_, _, splice cur (j * k + o) vs, rfl, hb, setCells_block vs _ w cur hc, h3, h4, by rw [size_splice]; exact h5, ?_⟩
    apply List.ext_getElem?
    intro i
    rw [List.getElem?_take]
    by_cases hi : i < l.length * k
    · rw [if_pos hi, Array.getElem?_toList, splice_get vs cur _ (by omega)]
      have hk0 : 0 < k := by
        rcases Nat.eq_zero_or_pos k with h | h
        · rw [h, Nat.mul_zero] at hi; omega
        · exact h
      obtain ⟨q, r, hr, rfl⟩ : ∃ q r, r < k ∧ i = q * k + r := ⟨i / k, i % k, Nat.mod_lt _ hk0, by rw [Nat.mul_comm, Nat.div_add_mod]⟩
      have hq : q < l.length := by
        rcases Nat.lt_or_ge q l.length with h | h
        · exact h
        · have := Nat.mul_le_mul_right k h; omega
      have hold : cur[q * k + r]? = (enc l[q])[r]? := by
        have h7 := flat_get enc k hk l q r _ (List.getElem?_eq_getElem hq) hr
        rw [← h6, List.getElem?_take, if_pos hi, Array.getElem?_toList] at h7
        exact h7
      by_cases hqj : q = j
      · subst hqj
        have hxq : l[q] = x := by rw [List.getElem?_eq_getElem hq] at hx; exact Option.some.inj hx
        have hnew := flat_get enc k hk (l.set q x') q r x' (by rw [List.getElem?_set_self hq]) hr
        rw [hnew, he r hr, hold, hxq]
        by_cases hc2 : o ≤ r ∧ r < o + vs.length
        · rw [if_pos hc2, if_pos ⟨by omega, by omega⟩]
          congr 1; omega
        · rw [if_neg hc2, if_neg (fun c => hc2 ⟨by omega, by omega⟩)]
      · have hnew := flat_get enc k hk (l.set j x') q r l[q] (by rw [List.getElem?_set_ne (fun e => hqj e.symm)]; exact List.getElem?_eq_getElem hq) hr
        rw [hnew, hold]
        have hout : ¬ (j * k + o ≤ q * k + r ∧ q * k + r < j * k + o + vs.length) := by
          rintro ⟨c1, c2⟩
          rcases Nat.lt_or_gt_of_ne hqj with h | h
          · have h8 := Nat.mul_le_mul_right k (Nat.succ_le_of_lt h)
            rw [Nat.succ_mul] at h8; omega
          · have h8 := Nat.mul_le_mul_right k (Nat.succ_le_of_lt h)
            rw [Nat.succ_mul] at h8; omega
        rw [if_neg hout]
    · rw [if_neg hi]
      symm
      rw [List.getElem?_eq_none_iff, flat_length enc k hk, List.length_set]
      omega
theorem own_set (hk : ∀ x, (enc x).length = k) {w : World} {base n g cap : Nat} {e : TypeId} {l : List α} (h : w.ownsRow base e k (.slice (some ⟨g, 0, none⟩) n cap) n (l.flatMap enc)) (hn : n = l.length) {j : Nat} (hj : j < l.length) (x' : α) :
    (w.setCells g (j * k) (enc x')).ownsRow base e k (.slice (some ⟨g, 0, none⟩) n cap) n ((l.set j x').flatMap enc) ∧ w.grownBy (w.setCells g (j * k) (enc x')) (some g) := by
  have := own_field hk h hn (List.getElem?_eq_getElem hj) (x' := x') (o := 0) (vs := enc x') (by rw [hk]; omega) (fun r hr => by
    rw [if_pos ⟨Nat.zero_le _, by rw [hk]; omega⟩, Nat.sub_zero])
  simpa using this
end
end Go.Proofs.YtbkomdinchiffaaGreat
