/-     -/
import Derived.Test.YtibpaaajghbkoaaGreatUAi
namespace Go.Proofs.YtibpaaajghbkoaaGreat
theorem mul_pp {a b : Int} (h : 0 < a) (k : 0 < b) : 0 < a * b := Int.mul_pos h k
theorem mul_nn {a b : Int} (h : a < 0) (k : b < 0) : 0 < a * b := Int.mul_pos_of_neg_of_neg h k
theorem mul_np {a b : Int} (h : a < 0) (k : 0 < b) : a * b < 0 := Int.mul_neg_of_neg_of_pos h k
theorem mul_pn {a b : Int} (h : 0 < a) (k : b < 0) : a * b < 0 := Int.mul_neg_of_pos_of_neg h k
theorem mul_le {a b : Int} (h : 0 ≤ a) (k : 0 ≤ b) : 0 ≤ a * b := Int.mul_nonneg h k
theorem mul_nle {a b : Int} (h : a ≤ 0) (k : 0 ≤ b) : a * b ≤ 0 := Int.mul_nonpos_of_nonpos_of_nonneg h k
theorem mul_lne {a b : Int} (h : 0 ≤ a) (k : b ≤ 0) : a * b ≤ 0 := Int.mul_nonpos_of_nonneg_of_nonpos h k
theorem mul_nnle {a b : Int} (h : a ≤ 0) (k : b ≤ 0) : 0 ≤ a * b := Int.mul_nonneg_of_nonpos_of_nonpos h k
theorem sign_core {ap bp gp aq bq gq : Int} (h1 : gp < 0) (h2 : 0 < gq) (ha : gp * bq < bp * gq) (hb : gp * aq < ap * gq) (hout : aq < 0 ∨ bq < 0) :
  (ap * bq < bp * aq ∧ bp * bq < 0) ∨ (bp * aq < ap * bq ∧ ap * aq < 0) ∨ (ap * bq = bp * aq ∧ ((0 < bp ∧ bq < 0) ∨ (0 < ap ∧ aq < 0))) := by
 rcases Int.lt_trichotomy (ap * bq) (bp * aq) with hn | hn | hn
 ·refine Or.inl ⟨hn, ?_⟩
  rcases Int.lt_trichotomy bq 0 with k | k | k
  ·have := mul_nn h1 k
   have hbp : 0 < bp := by
    rcases Int.lt_trichotomy bp 0 with c | c | c
    ·have := mul_np c h2; omega
    ·subst c; omega
    ·exact c
   exact mul_pn hbp k
  ·subst k
   have haq : aq < 0 := by omega
   have := mul_nn h1 haq
   have hap : 0 < ap := by
    rcases Int.lt_trichotomy ap 0 with c | c | c
    ·have := mul_np c h2; omega
    ·subst c; omega
    ·exact c
   have h3 : 0 < bp * aq := by omega
   have hbp : bp < 0 := by
    rcases Int.lt_trichotomy bp 0 with c | c | c
    ·exact c
    ·subst c; omega
    ·have := mul_pn c haq; omega
   have := mul_np hbp h2
   omega
  ·have haq : aq < 0 := by omega
   have := mul_nn h1 haq
   have hap : 0 < ap := by
    rcases Int.lt_trichotomy ap 0 with c | c | c
    ·have := mul_np c h2; omega
    ·subst c; omega
    ·exact c
   have h4 := mul_pp hap k
   have hbp : bp < 0 := by
    rcases Int.lt_trichotomy bp 0 with c | c | c
    ·exact c
    ·subst c; omega
    ·have := mul_pn c haq; omega
   exact mul_np hbp k
 ·refine Or.inr (Or.inr ⟨hn, ?_⟩)
  rcases hout with k | k
  ·right
   have := mul_nn h1 k
   refine ⟨?_, k⟩
   rcases Int.lt_trichotomy ap 0 with c | c | c
   ·have := mul_np c h2; omega
   ·subst c; omega
   ·exact c
  ·left
   have := mul_nn h1 k
   refine ⟨?_, k⟩
   rcases Int.lt_trichotomy bp 0 with c | c | c
   ·have := mul_np c h2; omega
   ·subst c; omega
   ·exact c
 ·refine Or.inr (Or.inl ⟨hn, ?_⟩)
  rcases Int.lt_trichotomy aq 0 with k | k | k
  ·have := mul_nn h1 k
   have hap : 0 < ap := by
    rcases Int.lt_trichotomy ap 0 with c | c | c
    ·have := mul_np c h2; omega
    ·subst c; omega
    ·exact c
   exact mul_pn hap k
  ·subst k
   have hbq : bq < 0 := by omega
   have := mul_nn h1 hbq
   have hbp : 0 < bp := by
    rcases Int.lt_trichotomy bp 0 with c | c | c
    ·have := mul_np c h2; omega
    ·subst c; omega
    ·exact c
   have h3 : 0 < ap * bq := by omega
   have hap : ap < 0 := by
    rcases Int.lt_trichotomy ap 0 with c | c | c
    ·exact c
    ·subst c; omega
    ·have := mul_pn c hbq; omega
   have := mul_np hap h2
   omega
  ·have hbq : bq < 0 := by omega
   have := mul_nn h1 hbq
   have hbp : 0 < bp := by
    rcases Int.lt_trichotomy bp 0 with c | c | c
    ·have := mul_np c h2; omega
    ·subst c; omega
    ·exact c
   have h4 := mul_pp hbp k
   have hap : ap < 0 := by
    rcases Int.lt_trichotomy ap 0 with c | c | c
    ·exact c
    ·subst c; omega
    ·have := mul_pn c hbq; omega
   exact mul_np hap k
theorem bary (a b n p q : Pt) : crs a b n * crs p q a = crs n a p * crs a b q - crs a b p * crs n a q ∧ crs a b n * crs p q b = crs a b p * crs b n q - crs b n p * crs a b q ∧ crs a b n * crs p q n = crs b n p * crs n a q - crs n a p * crs b n q := by
 unfold crs; refine ⟨?_, ?_, ?_⟩ <;> grind
theorem line_box {u v w x y : Int} (hu : 0 < u) (hv : v < 0) (h : u * x = v * y) (hx : x = w) : (0 ≤ x ∧ y ≤ 0) ∨ (x ≤ 0 ∧ 0 ≤ y) := by
 rcases Int.lt_trichotomy x 0 with c | c | c
 ·have := mul_pn hu c
  rcases Int.lt_trichotomy y 0 with d | d | d
  ·have := mul_nn hv d; omega
  ·omega
  ·omega
 ·subst c
  rcases Int.lt_trichotomy y 0 with d | d | d
  ·have := mul_nn hv d; omega
  ·omega
  ·have := mul_np hv d; omega
 ·have := mul_pp hu c
  rcases Int.lt_trichotomy y 0 with d | d | d
  ·omega
  ·omega
  ·have := mul_np hv d; omega
theorem on_sides {a n p q : Pt} (hw : crs p q n = 0) (h : crs n a p * crs n a q < 0) : onR (p, q) n = true := by
 have e1 : crs n a p * (q.1 - n.1) = crs n a q * (p.1 - n.1) := by
  have : crs n a p * (q.1 - n.1) - crs n a q * (p.1 - n.1) = (a.1 - n.1) * crs p q n ∨ crs n a p * (q.1 - n.1) - crs n a q * (p.1 - n.1) = -(a.1 - n.1) * crs p q n := by unfold crs; grind
  rw [hw] at this; omega
 have e2 : crs n a p * (q.2 - n.2) = crs n a q * (p.2 - n.2) := by
  have : crs n a p * (q.2 - n.2) - crs n a q * (p.2 - n.2) = (a.2 - n.2) * crs p q n ∨ crs n a p * (q.2 - n.2) - crs n a q * (p.2 - n.2) = -(a.2 - n.2) * crs p q n := by unfold crs; grind
  rw [hw] at this; omega
 have hs : (0 < crs n a p ∧ crs n a q < 0) ∨ (crs n a p < 0 ∧ 0 < crs n a q) := by
  rcases Int.lt_trichotomy (crs n a p) 0 with c | c | c <;> rcases Int.lt_trichotomy (crs n a q) 0 with d | d | d
  ·have := mul_nn c d; omega
  ·rw [d] at h; omega
  ·exact Or.inr ⟨c, d⟩
  ·rw [c] at h; omega
  ·rw [c] at h; omega
  ·rw [c] at h; omega
  ·exact Or.inl ⟨c, d⟩
  ·rw [d] at h; omega
  ·have := mul_pp c d; omega
 have hb : ((0 ≤ q.1 - n.1 ∧ p.1 - n.1 ≤ 0) ∨ (q.1 - n.1 ≤ 0 ∧ 0 ≤ p.1 - n.1)) ∧ ((0 ≤ q.2 - n.2 ∧ p.2 - n.2 ≤ 0) ∨ (q.2 - n.2 ≤ 0 ∧ 0 ≤ p.2 - n.2)) := by
  rcases hs with ⟨c, d⟩ | ⟨c, d⟩
  ·exact ⟨line_box c d e1 rfl, line_box c d e2 rfl⟩
  ·have f1 := line_box (u := crs n a q) (v := crs n a p) d c e1.symm rfl
   have f2 := line_box (u := crs n a q) (v := crs n a p) d c e2.symm rfl
   exact ⟨by omega, by omega⟩
 unfold onR
 rw [Bool.and_eq_true, decide_eq_true_eq, decide_eq_true_eq]
 refine ⟨?_, hw⟩
 simp only
 omega
theorem prod_neg {x y : Int} (h : x * y < 0) : (0 < x ∧ y < 0) ∨ (x < 0 ∧ 0 < y) := by
 rcases Int.lt_trichotomy x 0 with c | c | c <;> rcases Int.lt_trichotomy y 0 with d | d | d
 ·have := mul_nn c d; omega
 ·rw [d] at h; omega
 ·exact Or.inr ⟨c, d⟩
 ·rw [c] at h; omega
 ·rw [c] at h; omega
 ·rw [c] at h; omega
 ·exact Or.inl ⟨c, d⟩
 ·rw [d] at h; omega
 ·have := mul_pp c d; omega
theorem neg_prod {x y : Int} : -x * -y = x * y := by grind
theorem cross_pos {a b n p q : Pt} (hd : 0 < crs a b n) (hp : crs a b p < 0) (hq : 0 < crs a b q) (hpq : crs p q a * crs p q b < 0) (hout : crs b n q < 0 ∨ crs n a q < 0) :
  (crs a n p * crs a n q < 0 ∧ crs p q a * crs p q n < 0) ∨ (crs n b p * crs n b q < 0 ∧ crs p q n * crs p q b < 0) ∨ onR (p, q) n = true := by
 obtain ⟨i1, i2, i3⟩ := bary a b n p q
 have s1 := crs_sum a b n p
 have s2 := crs_sum a b n q
 have hAB : crs a b n * crs p q a - crs a b n * crs p q b = crs a b n * (crs a b q - crs a b p) := by
  rw [i1, i2]
  have e1 : crs b n p = crs a b n - crs a b p - crs n a p := by omega
  have e2 : crs b n q = crs a b n - crs a b q - crs n a q := by omega
  rw [e1, e2]; grind
 have hpos := mul_pp hd (show 0 < crs a b q - crs a b p by omega)
 rcases prod_neg hpq with ⟨u, v⟩ | ⟨u, v⟩
 ·have u' := mul_pp hd u
  have v' := mul_pn hd v
  rcases sign_core hp hq (bp := crs n a p) (bq := crs n a q) (ap := crs b n p) (aq := crs b n q) (by omega) (by omega) hout with ⟨c1, c2⟩ | ⟨c1, c2⟩ | ⟨c1, c2⟩
  ·left
   have hw : crs p q n < 0 := by
    rcases Int.lt_trichotomy (crs p q n) 0 with c | c | c
    ·exact c
    ·rw [c] at i3; omega
    ·have := mul_pp hd c; omega
   exact ⟨by rw [crs_swap n a p, crs_swap n a q, neg_prod]; exact c2, mul_pn u hw⟩
  ·right; left
   have hw : 0 < crs p q n := by
    rcases Int.lt_trichotomy (crs p q n) 0 with c | c | c
    ·have := mul_pn hd c; omega
    ·rw [c] at i3; omega
    ·exact c
   exact ⟨by rw [crs_swap b n p, crs_swap b n q, neg_prod]; exact c2, mul_pn hw v⟩
  ·right; right
   have hw : crs p q n = 0 := by
    have : crs a b n * crs p q n = 0 := by omega
    exact (Int.mul_eq_zero.1 this).resolve_left (by omega)
   rcases c2 with ⟨c, d⟩ | ⟨c, d⟩
   ·exact on_sides (a := a) hw (mul_pn c d)
   ·refine on_sides (a := b) hw ?_
    rw [crs_swap b n p, crs_swap b n q, neg_prod]
    exact mul_pn c d
 ·have u' := mul_pn hd u
  have v' := mul_pp hd v
  omega
theorem cross_tri {a b n p q : Pt} (hd : 0 < crs a b n) (hg : crs a b p * crs a b q < 0) (hpq : crs p q a * crs p q b < 0) (hp : ¬ (0 ≤ crs a b p ∧ 0 ≤ crs b n p ∧ 0 ≤ crs n a p)) (hq : ¬ (0 ≤ crs a b q ∧ 0 ≤ crs b n q ∧ 0 ≤ crs n a q)) :
  (crs a n p * crs a n q < 0 ∧ crs p q a * crs p q n < 0) ∨ (crs n b p * crs n b q < 0 ∧ crs p q n * crs p q b < 0) ∨ onR (p, q) n = true := by
 rcases prod_neg hg with ⟨h1, h2⟩ | ⟨h1, h2⟩
 ·have := cross_pos (p := q) (q := p) hd h2 h1 (by rw [crs_swap p q a, crs_swap p q b, neg_prod]; exact hpq) (by omega)
  rw [crs_swap p q a, crs_swap p q b, crs_swap p q n, neg_prod, neg_prod, Int.mul_comm (crs a n q), Int.mul_comm (crs n b q)] at this
  rw [← onR_swap] at this
  exact this
 ·exact cross_pos hd h1 h2 hpq (by omega)
theorem crossT_any {a b n p q : Pt} (hd : crs a b n ≠ 0) (hg : crs a b p * crs a b q < 0) (hpq : crs p q a * crs p q b < 0) (hp : hasT n a b p = false) (hq : hasT n a b q = false) :
  (crs a n p * crs a n q < 0 ∧ crs p q a * crs p q n < 0) ∨ (crs n b p * crs n b q < 0 ∧ crs p q n * crs p q b < 0) ∨ onR (p, q) n = true := by
 have hc : crs n a b = crs a b n := by unfold crs; grind
 have ht : ∀ x, hasT n a b x = false → ¬ (0 ≤ crs a b x ∧ 0 ≤ crs b n x ∧ 0 ≤ crs n a x) ∧ ¬ (crs a b x ≤ 0 ∧ crs b n x ≤ 0 ∧ crs n a x ≤ 0) := fun x hx => by
  have h1 : ∀ n : Int, (0 ≤ sgn n ↔ 0 ≤ n) ∧ (sgn n ≤ 0 ↔ n ≤ 0) := fun n => by unfold sgn; split <;> (try split) <;> omega
  unfold hasT at hx
  rw [if_pos (by rw [hc]; exact hd)] at hx
  simp only [Bool.or_eq_false_iff, decide_eq_false_iff_not] at hx
  rw [(h1 _).1, (h1 _).1, (h1 _).1, (h1 _).2, (h1 _).2, (h1 _).2] at hx
  omega
 obtain ⟨p1, p2⟩ := ht p hp
 obtain ⟨q1, q2⟩ := ht q hq
 rcases Int.lt_or_gt_of_ne hd with h | h
 ·have e1 := crs_swap a b n
  have := cross_tri (a := b) (b := a) (n := n) (p := p) (q := q) (by omega) (by rw [crs_swap a b p, crs_swap a b q, neg_prod]; exact hg) (by rw [Int.mul_comm]; exact hpq) (by
   have e2 := crs_swap a b p; have e3 := crs_swap n a p; have e4 := crs_swap b n p; omega) (by
   have e2 := crs_swap a b q; have e3 := crs_swap n a q; have e4 := crs_swap b n q; omega)
  rcases this with ⟨c1, c2⟩ | ⟨c1, c2⟩ | c
  ·refine Or.inr (Or.inl ⟨?_, by rw [Int.mul_comm]; exact c2⟩)
   rw [crs_swap b n p, crs_swap b n q, neg_prod]; exact c1
  ·refine Or.inl ⟨?_, by rw [Int.mul_comm]; exact c2⟩
   rw [crs_swap n a p, crs_swap n a q, neg_prod]; exact c1
  ·exact Or.inr (Or.inr c)
 ·exact cross_tri h hg hpq p1 q1
end Go.Proofs.YtibpaaajghbkoaaGreat

namespace Go.Proofs.YtibpaaajghbkoaaGreat
theorem meets_none {s t : Sg} (hs : nearS s = true) (ht : nearS t = true) : meetsR s t = 0 ↔ (∀ x, (x = s.1 ∨ x = s.2 ∨ x = t.1 ∨ x = t.2) → ¬ (onR s x = true ∧ onR t x = true)) ∧ ¬ (crs s.1 s.2 t.1 * crs s.1 s.2 t.2 < 0 ∧ crs t.1 t.2 s.1 * crs t.1 t.2 s.2 < 0) := by
 have hmem := @mem_common s t
 unfold meetsR
 rw [hs, ht]
 simp only [Bool.and_self, Bool.not_true, Bool.false_eq_true, if_false]
 constructor
 ·intro h
  split at h
  ·omega
  ·cases hc : commonR s t with
   |nil =>
    rw [hc] at h hmem
    refine ⟨fun x hx hb => ?_, fun hp => ?_⟩
    ·have := hmem.2 ⟨hx, hb⟩
     cases this
    ·simp only [pickR] at h
     rw [if_pos ⟨sgn_neg.2 hp.1, sgn_neg.2 hp.2⟩] at h
     omega
   |cons e l =>
    rw [hc] at h
    cases l with
    |nil => simp only [pickR] at h; split at h <;> omega
    |cons e' l => simp only [pickR] at h; omega
 ·rintro ⟨h1, h2⟩
  have hne : ¬ (s = t ∨ (s.1 = t.2 ∧ s.2 = t.1)) := by
   rintro (e | ⟨e1, e2⟩)
   ·exact h1 s.1 (Or.inl rfl) ⟨(onR_ends s).1, by rw [← e]; exact (onR_ends s).1⟩
   ·exact h1 s.1 (Or.inl rfl) ⟨(onR_ends s).1, by rw [e1]; exact (onR_ends t).2⟩
  rw [if_neg hne, common_nil (fun x hx => by
   obtain ⟨a, b⟩ := hmem.1 hx
   exact h1 x a b)]
  simp only [pickR]
  rw [if_neg]
  rintro ⟨a, b⟩
  exact h2 ⟨sgn_neg.1 a, sgn_neg.1 b⟩
theorem on_in {n a b p : Pt} (hn : nearQ n = true) (ha : nearQ a = true) (hb : nearQ b = true) (hp : nearQ p = true) (hne : a ≠ b) (h : onR (a, b) p = true) : hasT n a b p = true := by
 by_cases h0 : crs n a b = 0
 ·rw [has_in hn ha hb hp]
  unfold inR
  have hz : sizeT n a b = 0 := by unfold sizeT; omega
  rw [if_pos hz, h]; simp
 ·obtain ⟨hbox, hc⟩ := (onR_iff (a, b) p).1 h
  simp only [] at hbox hc
  have e1 : (b.1 - a.1) * crs n a p = (p.1 - a.1) * crs n a b := by
   have : (b.1 - a.1) * crs n a p - (p.1 - a.1) * crs n a b = (a.1 - n.1) * crs a b p ∨ (b.1 - a.1) * crs n a p - (p.1 - a.1) * crs n a b = -(a.1 - n.1) * crs a b p := by unfold crs; grind
   rw [hc] at this; omega
  have e2 : (b.2 - a.2) * crs n a p = (p.2 - a.2) * crs n a b := by
   have : (b.2 - a.2) * crs n a p - (p.2 - a.2) * crs n a b = (a.2 - n.2) * crs a b p ∨ (b.2 - a.2) * crs n a p - (p.2 - a.2) * crs n a b = -(a.2 - n.2) * crs a b p := by unfold crs; grind
   rw [hc] at this; omega
  have hsum := crs_sum n a b p
  have e3 : (b.1 - a.1) * crs b n p = (b.1 - p.1) * crs n a b := by
   have : crs b n p = crs n a b - crs n a p := by omega
   rw [this, Int.mul_sub, e1]; grind
  have e4 : (b.2 - a.2) * crs b n p = (b.2 - p.2) * crs n a b := by
   have : crs b n p = crs n a b - crs n a p := by omega
   rw [this, Int.mul_sub, e2]; grind
  have h1 : ∀ n : Int, (0 ≤ sgn n ↔ 0 ≤ n) ∧ (sgn n ≤ 0 ↔ n ≤ 0) := fun n => by unfold sgn; split <;> (try split) <;> omega
  have quo : ∀ (v w x d : Int), v * x = w * d → v ≠ 0 → btw v w → (0 < d → 0 ≤ x) ∧ (d < 0 → x ≤ 0) := fun v w x d e hv hb => by
   unfold btw at hb
   constructor
   ·intro hd
    rcases Int.lt_trichotomy x 0 with c | c | c
    ·rcases Int.lt_or_gt_of_ne hv with k | k
     ·have := mul_nn k c
      have := mul_nle (show w ≤ 0 by omega) (show 0 ≤ d by omega)
      omega
     ·have := mul_pn k c
      have := mul_le (show 0 ≤ w by omega) (show 0 ≤ d by omega)
      omega
    ·omega
    ·omega
   ·intro hd
    rcases Int.lt_trichotomy x 0 with c | c | c
    ·omega
    ·omega
    ·rcases Int.lt_or_gt_of_ne hv with k | k
     ·have := mul_np k c
      have := mul_nnle (show w ≤ 0 by omega) (show d ≤ 0 by omega)
      omega
     ·have := mul_pp k c
      have := mul_lne (show 0 ≤ w by omega) (show d ≤ 0 by omega)
      omega
  have hboth : ((0 < crs n a b → 0 ≤ crs n a p) ∧ (crs n a b < 0 → crs n a p ≤ 0)) ∧ ((0 < crs n a b → 0 ≤ crs b n p) ∧ (crs n a b < 0 → crs b n p ≤ 0)) := by
   by_cases hx : b.1 - a.1 = 0
   ·have hy : b.2 - a.2 ≠ 0 := fun c => hne (Prod.ext (by omega) (by omega))
    exact ⟨quo _ _ _ _ e2 hy hbox.2, quo _ _ _ _ e4 hy (by unfold btw at *; omega)⟩
   ·exact ⟨quo _ _ _ _ e1 hx hbox.1, quo _ _ _ _ e3 hx (by unfold btw at *; omega)⟩
  unfold hasT
  rw [if_pos h0, Bool.or_eq_true, decide_eq_true_eq, decide_eq_true_eq, (h1 _).1, (h1 _).1, (h1 _).1, (h1 _).2, (h1 _).2, (h1 _).2]
  rcases Int.lt_or_gt_of_ne h0 with k | k
  ·exact Or.inr ⟨hboth.1.2 k, by omega, hboth.2.2 k⟩
  ·exact Or.inl ⟨hboth.1.1 k, by omega, hboth.2.1 k⟩
theorem meets_end {a n b : Pt} (hs : nearS (a, n) = true) (ht : nearS (n, b) = true) (h : meetsR (a, n) (n, b) = 1) (han : a ≠ n) (hbn : b ≠ n) : onR (n, b) a = false ∧ onR (a, n) b = false := by
 have hmem := @mem_common (a, n) (n, b)
 have hn : n ∈ commonR (a, n) (n, b) := hmem.2 ⟨Or.inr (Or.inl rfl), (onR_ends (a, n)).2, (onR_ends (n, b)).1⟩
 have one : ∀ x, x ∈ commonR (a, n) (n, b) → x = n := fun x hx => by
  by_cases hxn : x = n
  ·exact hxn
  ·obtain ⟨y, z, l, e⟩ := common_two hn hx (fun c => hxn c.symm)
   unfold meetsR at h
   rw [hs, ht, e] at h
   simp only [Bool.and_self, Bool.not_true, Bool.false_eq_true, if_false, pickR] at h
   split at h <;> omega
 constructor
 ·rw [Bool.eq_false_iff]
  intro c
  exact han (one a (hmem.2 ⟨Or.inl rfl, (onR_ends (a, n)).1, c⟩))
 ·rw [Bool.eq_false_iff]
  intro c
  exact hbn (one b (hmem.2 ⟨Or.inr (Or.inr (Or.inr rfl)), c, (onR_ends (n, b)).2⟩))
theorem crs_odd (a b n : Pt) : crs n b a = -crs a b n ∧ crs a n b = -crs a b n := by unfold crs; constructor <;> grind
theorem new_none {a b n p q : Pt} (na : nearQ a = true) (nb : nearQ b = true) (nn : nearQ n = true) (np : nearQ p = true) (nq : nearQ q = true) (hab : a ≠ b) (han : a ≠ n) (hbn : b ≠ n)
  (h1 : meetsR (a, n) (p, q) = 0) (h2 : meetsR (n, b) (p, q) = 0) (h3 : meetsR (a, n) (n, b) = 1) (hp : hasT n a b p = false) (hq : hasT n a b q = false) : meetsR (a, b) (p, q) = 0 := by
 have sab : nearS (a, b) = true := by unfold nearS; simp [na, nb]
 have san : nearS (a, n) = true := by unfold nearS; simp [na, nn]
 have snb : nearS (n, b) = true := by unfold nearS; simp [nn, nb]
 have spq : nearS (p, q) = true := by unfold nearS; simp [np, nq]
 obtain ⟨c1, d1⟩ := (meets_none san spq).1 h1
 obtain ⟨c2, d2⟩ := (meets_none snb spq).1 h2
 have hn : onR (p, q) n ≠ true := fun c => c1 n (Or.inr (Or.inl rfl)) ⟨(onR_ends (a, n)).2, c⟩
 refine (meets_none sab spq).2 ⟨?_, ?_⟩
 ·rintro x (rfl | rfl | rfl | rfl) ⟨e1, e2⟩
  ·exact c1 _ (Or.inl rfl) ⟨(onR_ends (_, n)).1, e2⟩
  ·exact c2 _ (Or.inr (Or.inl rfl)) ⟨(onR_ends (n, _)).2, e2⟩
  ·rw [on_in nn na nb np hab e1] at hp; cases hp
  ·rw [on_in nn na nb nq hab e1] at hq; cases hq
 ·rintro ⟨g1, g2⟩
  simp only [] at g1 g2 d1 d2
  by_cases hd : crs a b n = 0
  ·
   obtain ⟨f1, f2⟩ := meets_end san snb h3 han hbn
   have hz : crs n b a = 0 ∧ crs a n b = 0 := by have := crs_odd a b n; rw [hd] at this; exact this
   have hk1 := on_key (p := a) nn nb na
   have hk2 := on_key (p := b) na nn nb
   rw [f1] at hk1
   rw [f2] at hk2
   rw [hz.1] at hk1
   rw [hz.2] at hk2
   have hbet : onR (a, b) n = true := (on_key na nb nn).2 ⟨hd, by simp at hk1 hk2; omega⟩
   obtain ⟨hbox, -⟩ := (onR_iff (a, b) n).1 hbet
   simp only [] at hbox
   have han1 : ¬ (n.1 - a.1 = 0 ∧ n.2 - a.2 = 0) := fun c => han (Prod.ext (by omega) (by omega))
   have hbn1 : ¬ (n.1 - b.1 = 0 ∧ n.2 - b.2 = 0) := fun c => hbn (Prod.ext (by omega) (by omega))
   have part : ∀ x, ((b.1 - a.1) * crs a n x = (n.1 - a.1) * crs a b x ∧ (b.2 - a.2) * crs a n x = (n.2 - a.2) * crs a b x) ∧ ((b.1 - a.1) * crs n b x = (b.1 - n.1) * crs a b x ∧ (b.2 - a.2) * crs n b x = (b.2 - n.2) * crs a b x) := fun x => by
    unfold crs at *
    refine ⟨⟨?_, ?_⟩, ?_, ?_⟩ <;> grind
   have pos : ∀ (v w x d : Int), v * x = w * d → btw v w → w ≠ 0 → (0 < d → 0 < x) ∧ (d < 0 → x < 0) := fun v w x d e hb hw => by
    unfold btw at hb
    constructor
    ·intro hd
     rcases Int.lt_trichotomy x 0 with c | c | c
     ·rcases Int.lt_or_gt_of_ne hw with k | k
      ·have := mul_nn (show v < 0 by omega) c
       have := mul_np k hd; omega
      ·have := mul_pn (show 0 < v by omega) c
       have := mul_pp k hd; omega
     ·subst c
      rcases Int.lt_or_gt_of_ne hw with k | k
      ·have := mul_np k hd; omega
      ·have := mul_pp k hd; omega
     ·exact c
    ·intro hd
     rcases Int.lt_trichotomy x 0 with c | c | c
     ·exact c
     ·subst c
      rcases Int.lt_or_gt_of_ne hw with k | k
      ·have := mul_nn k hd; omega
      ·have := mul_pn k hd; omega
     ·rcases Int.lt_or_gt_of_ne hw with k | k
      ·have := mul_np (show v < 0 by omega) c
       have := mul_nn k hd; omega
      ·have := mul_pp (show 0 < v by omega) c
       have := mul_pn k hd; omega
   have sg1 : ∀ x, (0 < crs a b x → 0 < crs a n x) ∧ (crs a b x < 0 → crs a n x < 0) := fun x => by
    by_cases hx : n.1 - a.1 = 0
    ·exact pos _ _ _ _ (part x).1.2 hbox.2 (fun c => han1 ⟨hx, c⟩)
    ·exact pos _ _ _ _ (part x).1.1 hbox.1 hx
   have sg2 : ∀ x, (0 < crs a b x → 0 < crs n b x) ∧ (crs a b x < 0 → crs n b x < 0) := fun x => by
    by_cases hx : b.1 - n.1 = 0
    ·exact pos _ _ _ _ (part x).2.2 (by unfold btw at *; omega) (fun c => hbn1 ⟨by omega, by omega⟩)
    ·exact pos _ _ _ _ (part x).2.1 (by unfold btw at *; omega) hx
   have hw : crs p q n ≠ 0 := fun c => by
    have : crs n a p * crs n a q < 0 := by
     rw [crs_swap a n p, crs_swap a n q, neg_prod]
     rcases prod_neg g1 with ⟨u, v⟩ | ⟨u, v⟩
     ·exact mul_pn ((sg1 p).1 u) ((sg1 q).2 v)
     ·exact mul_np ((sg1 p).2 u) ((sg1 q).1 v)
    exact hn (on_sides c this)
   have m1 : crs a n p * crs a n q < 0 := by
    rcases prod_neg g1 with ⟨u, v⟩ | ⟨u, v⟩
    ·exact mul_pn ((sg1 p).1 u) ((sg1 q).2 v)
    ·exact mul_np ((sg1 p).2 u) ((sg1 q).1 v)
   have m2 : crs n b p * crs n b q < 0 := by
    rcases prod_neg g1 with ⟨u, v⟩ | ⟨u, v⟩
    ·exact mul_pn ((sg2 p).1 u) ((sg2 q).2 v)
    ·exact mul_np ((sg2 p).2 u) ((sg2 q).1 v)
   rcases prod_neg g2 with ⟨u, v⟩ | ⟨u, v⟩
   ·rcases Int.lt_or_gt_of_ne hw with k | k
    ·exact d1 ⟨m1, mul_pn u k⟩
    ·exact d2 ⟨m2, mul_pn k v⟩
   ·rcases Int.lt_or_gt_of_ne hw with k | k
    ·exact d2 ⟨m2, mul_np k v⟩
    ·exact d1 ⟨m1, mul_np u k⟩
  ·rcases crossT_any hd g1 g2 hp hq with h | h | h
   ·exact d1 h
   ·exact d2 h
   ·exact hn h
end Go.Proofs.YtibpaaajghbkoaaGreat

namespace Go.Proofs.YtibpaaajghbkoaaGreat
theorem gone_kind {m : List ObjD} {D : List ByteArray} (h : GoneM m D) {o : ObjD} (ho : o ∈ m) (hd : o.id ∈ D) : o.kind = 1 ∧ o.tags = [] := by
 obtain ⟨⟨z, hz, ez, hk, ht⟩, _⟩ := h.gone _ hd
 rw [obj_unique h.okm hz ho ez] at hk ht
 exact ⟨hk, ht⟩
theorem pos_gone {m : List ObjD} {D : List ByteArray} {r : ByteArray} (hd : r ∈ D) : posO r (dropsP m D) = none :=
 pos_no r _ fun j y hy e => by
  obtain ⟨o, _, hD, rfl⟩ := mem_drops.1 (List.mem_of_getElem? hy)
  exact hD (e ▸ hd)
theorem pos_left {m : List ObjD} {D : List ByteArray} (h : GoneM m D) {o : ObjD} (ho : o ∈ m) (hd : o.id ∉ D) : ∃ k, posO o.id (dropsP m D) = some k ∧ (dropsP m D)[k]? = some { o with refs := o.refs.filter fun r => decide (r ∉ D) } := by
 have hx : ({ o with refs := o.refs.filter fun r => decide (r ∉ D) } : ObjD) ∈ dropsP m D := mem_drops.2 ⟨o, ho, hd, rfl⟩
 obtain ⟨k, hk⟩ := List.getElem?_of_mem hx
 have := pos_self h.ok hk
 exact ⟨k, this, hk⟩
theorem node_left {m : List ObjD} {D : List ByteArray} (h : GoneM m D) {r : ByteArray} (hr : r ∉ D) : nodeAt (dropsP m D) r = nodeAt m r := by
 have e : ∀ q, nodeAt (dropsP m D) r = some q ↔ nodeAt m r = some q := fun q => by
  rw [nodeAt_iff h.ok, nodeAt_iff h.okm]
  constructor
  ·rintro ⟨o, ho, e1, e2, e3⟩
   obtain ⟨o0, ho0, _, rfl⟩ := mem_drops.1 ho
   exact ⟨o0, ho0, e1, e2, e3⟩
  ·rintro ⟨o, ho, rfl, e2, e3⟩
   exact ⟨_, mem_drops.2 ⟨o, ho, hr, rfl⟩, rfl, e2, e3⟩
 cases h1 : nodeAt (dropsP m D) r with
 |none =>
  cases h2 : nodeAt m r with
  |none => rfl
  |some q => rw [(e q).2 h2] at h1; cases h1
 |some q => exact ((e q).1 h1).symm
theorem gone_node {m : List ObjD} {D : List ByteArray} (h : GoneM m D) {d : ByteArray} (hd : d ∈ D) : (nodeAt m d).isSome = true := by
 obtain ⟨⟨o, ho, e, hk, _⟩, _⟩ := h.gone d hd
 rw [(nodeAt_iff h.okm (q := (o.x, o.y))).2 ⟨o, ho, e, hk, rfl⟩]; rfl
theorem isb_left {m : List ObjD} {D : List ByteArray} (h : GoneM m D) (o : ObjD) : isB (dropsP m D) { o with refs := o.refs.filter fun r => decide (r ∉ D) } = isB m o := by
 unfold isB
 show (decide (o.kind = 2 ∨ o.kind = 3) && _) = _
 congr 1
 unfold soundB
 rw [Bool.eq_iff_iff, List.all_eq_true, List.all_eq_true]
 constructor
 ·intro ha r hr
  by_cases hd : r ∈ D
  ·exact gone_node h hd
  ·have := ha r (List.mem_filter.2 ⟨hr, decide_eq_true hd⟩)
   rwa [node_left h hd] at this
 ·intro ha r hr
  obtain ⟨h1, h2⟩ := List.mem_filter.1 hr
  rw [node_left h (of_decide_eq_true h2)]
  exact ha r h1
theorem follow_left {f : ByteArray → Bool} : ∀ {refs : List ByteArray} {i : Nat} {a b : ByteArray}, refs[i]? = some a → refs[i + 1]? = some b → f a = true → f b = true → ∃ j, (refs.filter f)[j]? = some a ∧ (refs.filter f)[j + 1]? = some b
 |[], i, a, b, h, _, _, _ => by simp at h
 |[x], i, a, b, _, h2, _, _ => by simp at h2
 |x :: y :: l, i, a, b, h, h2, ha, hb => by
  cases i with
  |zero =>
   have e : x = a := by simpa using h
   have e2 : y = b := by simpa using h2
   subst e e2
   exact ⟨0, by simp [ha], by simp [ha, hb]⟩
  |succ i =>
   obtain ⟨j, h3, h4⟩ := follow_left (refs := y :: l) (i := i) (by simpa using h) (by simpa using h2) ha hb
   by_cases hx : f x = true
   ·refine ⟨j + 1, ?_, ?_⟩ <;> rw [List.filter_cons, if_pos hx]
    ·simpa using h3
    ·simpa using h4
   ·refine ⟨j, ?_, ?_⟩ <;> rw [List.filter_cons, if_neg hx]
    ·exact h3
    ·exact h4
theorem ref_some {o : ObjD} {i : Nat} {a : ByteArray} (h : o.refs[i]? = some a) : refAt o i = a := by unfold refAt; rw [h]; rfl
theorem sides_left {o : ObjD} {D : List ByteArray} {k : KeyD} (hs : k ∈ sidesP o) (h1 : k.1 ∉ D) (h2 : k.2 ∉ D) : k ∈ sidesP { o with refs := o.refs.filter fun r => decide (r ∉ D) } := by
 unfold sidesP at hs
 obtain ⟨i, hi, rfl⟩ := List.mem_map.1 hs
 rw [List.mem_range] at hi
 have hlt : i < o.refs.length := by unfold sideN at hi; split at hi <;> omega
 have hlt2 : (i + 1) % o.refs.length < o.refs.length := Nat.mod_lt _ (by omega)
 have e1 := refAt_eq hlt
 have e2 := refAt_eq hlt2
 have hab : refAt o i ∉ D ∧ refAt o ((i + 1) % o.refs.length) ∉ D := by
  unfold sideAt at h1 h2
  rcases key2_or (refAt o i) (refAt o ((i + 1) % o.refs.length)) with e | e <;> rw [e] at h1 h2
  ·exact ⟨h1, h2⟩
  ·exact ⟨h2, h1⟩
 unfold sidesP
 rw [List.mem_map]
 show ∃ a, a ∈ List.range (sideN { o with refs := o.refs.filter fun r => decide (r ∉ D) }) ∧ _
 have key : ∃ j j', (o.refs.filter fun r => decide (r ∉ D))[j]? = some (refAt o i) ∧ (o.refs.filter fun r => decide (r ∉ D))[j']? = some (refAt o ((i + 1) % o.refs.length)) ∧ j' = (j + 1) % (o.refs.filter fun r => decide (r ∉ D)).length ∧ (o.kind = 2 → j + 1 < (o.refs.filter fun r => decide (r ∉ D)).length) := by
  rcases Nat.lt_or_ge (i + 1) o.refs.length with hl | hl
  ·rw [Nat.mod_eq_of_lt hl] at e2 hab ⊢
   obtain ⟨j, h3, h4⟩ := follow_left (f := fun r => decide (r ∉ D)) e1 e2 (decide_eq_true hab.1) (decide_eq_true hab.2)
   have hj := (List.getElem?_eq_some_iff.1 h4).1
   exact ⟨j, j + 1, h3, h4, (Nat.mod_eq_of_lt hj).symm, fun _ => hj⟩
  ·have hin : i + 1 = o.refs.length := by omega
   have hkk : o.kind ≠ 2 := fun c => by
    unfold sideN at hi
    rw [if_pos c] at hi; omega
   have hne : o.refs ≠ [] := fun c => by rw [c] at hlt; simp at hlt
   rw [hin, Nat.mod_self] at e2 hab ⊢
   have hh : (o.refs.filter fun r => decide (r ∉ D)).head? = some (refAt o 0) := head_filter (by rw [List.head?_eq_getElem?]; exact e2) (decide_eq_true hab.2)
   have ht : (o.refs.filter fun r => decide (r ∉ D)).getLast? = some (refAt o i) := last_filter (by rw [List.getLast?_eq_getElem?, show o.refs.length - 1 = i by omega]; exact e1) (decide_eq_true hab.1)
   rw [List.head?_eq_getElem?] at hh
   rw [List.getLast?_eq_getElem?] at ht
   have hpos := (List.getElem?_eq_some_iff.1 hh).1
   refine ⟨(o.refs.filter fun r => decide (r ∉ D)).length - 1, 0, ht, hh, ?_, fun c => absurd c hkk⟩
   rw [show (o.refs.filter fun r => decide (r ∉ D)).length - 1 + 1 = (o.refs.filter fun r => decide (r ∉ D)).length by omega, Nat.mod_self]
 obtain ⟨j, j', h3, h4, h5, h6⟩ := key
 have hj := (List.getElem?_eq_some_iff.1 h3).1
 refine ⟨j, List.mem_range.2 ?_, ?_⟩
 ·unfold sideN
  split
  ·rename_i hk2
   have := h6 hk2
   show j < (o.refs.filter fun r => decide (r ∉ D)).length - 1
   omega
  ·exact hj
 ·unfold sideAt
  rw [ref_some (o := { o with refs := o.refs.filter fun r => decide (r ∉ D) }) h3]
  show key2 _ (refAt { o with refs := o.refs.filter fun r => decide (r ∉ D) } ((j + 1) % (o.refs.filter fun r => decide (r ∉ D)).length)) = _
  rw [← h5, ref_some (o := { o with refs := o.refs.filter fun r => decide (r ∉ D) }) h4]
end Go.Proofs.YtibpaaajghbkoaaGreat

namespace Go.Proofs.YtibpaaajghbkoaaGreat
theorem sides_adj {o : ObjD} (hk : o.kind = 2 ∨ o.kind = 3) (hl : 2 ≤ o.refs.length) {k : KeyD} : k ∈ sidesP o ↔ (∃ C D u v, o.refs = C ++ u :: v :: D ∧ k = key2 u v) ∨ (o.kind = 3 ∧ ∃ u v, o.refs.getLast? = some u ∧ o.refs.head? = some v ∧ k = key2 u v) := by
 unfold sidesP
 rw [List.mem_map]
 constructor
 ·rintro ⟨i, hi, rfl⟩
  rw [List.mem_range] at hi
  have hlt : i < o.refs.length := by unfold sideN at hi; split at hi <;> omega
  have e1 := refAt_eq hlt
  rcases Nat.lt_or_ge (i + 1) o.refs.length with h | h
  ·left
   have e2 := refAt_eq h
   refine ⟨o.refs.take i, o.refs.drop (i + 2), refAt o i, refAt o (i + 1), ?_, ?_⟩
   ·conv => lhs; rw [← List.take_append_drop i o.refs]
    rw [List.drop_eq_getElem_cons hlt, List.drop_eq_getElem_cons h]
    rw [List.getElem?_eq_getElem hlt] at e1
    rw [List.getElem?_eq_getElem h] at e2
    rw [Option.some.inj e1, Option.some.inj e2]
   ·unfold sideAt; rw [Nat.mod_eq_of_lt h]
  ·right
   have hin : i + 1 = o.refs.length := by omega
   refine ⟨?_, refAt o i, refAt o 0, ?_, ?_, ?_⟩
   ·rcases hk with hk | hk
    ·unfold sideN at hi; rw [if_pos hk] at hi; omega
    ·exact hk
   ·rw [List.getLast?_eq_getElem?, show o.refs.length - 1 = i by omega]; exact e1
   ·rw [List.head?_eq_getElem?]; exact refAt_eq (by omega)
   ·unfold sideAt; rw [hin, Nat.mod_self]
 ·rintro (⟨C, D, u, v, e, rfl⟩ | ⟨h3, u, v, e1, e2, rfl⟩)
  ·have hlen : o.refs.length = C.length + (D.length + 2) := by rw [e]; simp
   have g1 : o.refs[C.length]? = some u := by rw [e, List.getElem?_append_right (Nat.le_refl _), Nat.sub_self]; rfl
   have g2 : o.refs[C.length + 1]? = some v := by rw [e, List.getElem?_append_right (by omega), show C.length + 1 - C.length = 1 by omega]; rfl
   refine ⟨C.length, List.mem_range.2 (by unfold sideN; split <;> omega), ?_⟩
   unfold sideAt
   rw [Nat.mod_eq_of_lt (by omega), ref_some g1, ref_some g2]
  ·rw [List.getLast?_eq_getElem?] at e1
   rw [List.head?_eq_getElem?] at e2
   refine ⟨o.refs.length - 1, List.mem_range.2 (by unfold sideN; rw [if_neg (by omega)]; omega), ?_⟩
   unfold sideAt
   rw [show o.refs.length - 1 + 1 = o.refs.length by omega, Nat.mod_self, ref_some e1, ref_some e2]
theorem nbr_ends {o : ObjD} {id : ByteArray} {p : KeyD} (hok : objOK o = true) (hid : id ∈ o.refs) (h : nbrO o id = some p) :
  ∃ A B a b, o.refs = A ++ id :: B ∧ id ∉ A ∧ id ∉ B ∧ p = key2 a b ∧ a ≠ b ∧ (A.getLast? = some a ∨ (A = [] ∧ o.kind = 3 ∧ B.getLast? = some a)) ∧ (B.head? = some b ∨ (B = [] ∧ o.kind = 3 ∧ A.head? = some b)) := by
 obtain ⟨hkind, A, B, hs, hA, hB, h2, h3⟩ := nbr_parts hok hid h
 obtain ⟨hl, hs', hA'⟩ := refs_split hid
 have hidx : idxR id o.refs = A.length := by
  have h1 : (o.refs.take (idxR id o.refs)).length = idxR id o.refs := by rw [List.length_take]; omega
  have hne : ∀ (A A' B B' : List ByteArray), A ++ id :: B = A' ++ id :: B' → id ∉ A → id ∉ A' → A.length = A'.length := by
   intro A
   induction A with
   |nil =>
    intro A' B B' e _ hA'
    cases A' with
    |nil => rfl
    |cons x A' =>
     have : id = x := by simpa using (List.cons.inj e).1
     exact absurd (by simp [this]) hA'
   |cons y A ih =>
    intro A' B B' e hA hA'
    cases A' with
    |nil =>
     have : y = id := by simpa using (List.cons.inj e).1
     exact absurd (by simp [this]) hA
    |cons x A' =>
     have := ih A' B B' (List.cons.inj e).2 (fun c => hA (List.mem_cons_of_mem _ c)) (fun c => hA' (List.mem_cons_of_mem _ c))
     simp [this]
  have := hne _ _ _ _ (hs'.symm.trans hs) hA' hA
  omega
 have hlen : o.refs.length = A.length + B.length + 1 := by rw [hs]; simp; omega
 have get : ∀ i, o.refs[i]? = if i < A.length then A[i]? else if i = A.length then some id else B[i - A.length - 1]? := fun i => by
  rw [hs]
  by_cases h1 : i < A.length
  ·rw [if_pos h1, List.getElem?_append_left h1]
  ·rw [if_neg h1, List.getElem?_append_right (by omega)]
   by_cases h2 : i = A.length
   ·rw [if_pos h2, h2, Nat.sub_self]; rfl
   ·rw [if_neg h2, show i - A.length = (i - A.length - 1) + 1 by omega, List.getElem?_cons_succ]; rfl
 unfold nbrO at h
 split at h
 ·rename_i hc
  split at h
  ·cases h
  ·rename_i hne
   injection h with h
   subst h
   rw [hidx] at hne ⊢
   refine ⟨A, B, _, _, hs, hA, hB, rfl, hne, ?_, ?_⟩
   ·by_cases hA0 : A = []
    ·right
     have hk3 : o.kind = 3 := by
      rcases hkind with hk | hk
      ·exact absurd hA0 (h2 hk).1
      ·exact hk
     have h4 := h3 hk3
     subst hA0
     refine ⟨rfl, hk3, ?_⟩
     simp only [List.length_nil, Nat.zero_add] at hlen ⊢
     rw [Nat.mod_eq_of_lt (by omega), List.getLast?_eq_getElem?]
     have g := get (o.refs.length - 1)
     simp only [List.length_nil, Nat.not_lt_zero, if_false] at g
     rw [if_neg (by omega)] at g
     have g2 := refAt_eq (o := o) (i := o.refs.length - 1) (by omega)
     rw [show B.length - 1 = o.refs.length - 1 - 0 - 1 by omega, ← g]
     exact g2
    ·left
     have hpos := List.length_pos_iff.2 hA0
     rw [show A.length + o.refs.length - 1 = (A.length - 1) + o.refs.length by omega, Nat.add_mod_right, Nat.mod_eq_of_lt (by omega), List.getLast?_eq_getElem?]
     have g := get (A.length - 1)
     rw [if_pos (by omega)] at g
     rw [← g]
     exact refAt_eq (by omega)
   ·by_cases hB0 : B = []
    ·right
     have hk3 : o.kind = 3 := by
      rcases hkind with hk | hk
      ·exact absurd hB0 (h2 hk).2.1
      ·exact hk
     have h4 := h3 hk3
     subst hB0
     refine ⟨rfl, hk3, ?_⟩
     simp only [List.length_nil, Nat.add_zero] at hlen
     rw [← hlen, Nat.mod_self, List.head?_eq_getElem?]
     have g := get 0
     rw [if_pos (by omega)] at g
     rw [← g]
     exact refAt_eq (by omega)
    ·left
     have hpos := List.length_pos_iff.2 hB0
     rw [Nat.mod_eq_of_lt (by omega), List.head?_eq_getElem?]
     have g := get (A.length + 1)
     rw [if_neg (by omega), if_neg (by omega), show A.length + 1 - A.length - 1 = 0 by omega] at g
     rw [← g]
     exact refAt_eq (by omega)
 ·cases h
theorem last_split {α : Type} {A : List α} {a : α} (h : A.getLast? = some a) : ∃ A', A = A' ++ [a] := by
 cases A with
 |nil => cases h
 |cons x A =>
  have hne : x :: A ≠ [] := by simp
  rw [List.getLast?_eq_some_getLast hne] at h
  injection h with h
  exact ⟨(x :: A).dropLast, by rw [← h]; exact (List.dropLast_concat_getLast hne).symm⟩
theorem head_split {α : Type} {A : List α} {a : α} (h : A.head? = some a) : ∃ A', A = a :: A' := by
 cases A with
 |nil => cases h
 |cons x A => injection h with h; exact ⟨A, by rw [h]⟩
theorem sides_less {o : ObjD} {n : ByteArray} {p : KeyD} (hok : objOK o = true) (hid : n ∈ o.refs) (h : nbrO o n = some p) :
  (∀ k ∈ sidesP (lessO n o), k ∈ sidesP o ∨ k = p) ∧ key2 p.1 n ∈ sidesP o ∧ key2 n p.2 ∈ sidesP o ∧ p ∈ sidesP (lessO n o) ∧ p.1 ≠ p.2 ∧ p.1 ≠ n ∧ p.2 ≠ n ∧ p.1 ∈ o.refs ∧ p.2 ∈ o.refs ∧ ∃ a b, p = key2 a b := by
 have hkind := (nbr_parts hok hid h).1
 obtain ⟨A, B, a, b, hs, hA, hB, rfl, hne, ha, hb⟩ := nbr_ends hok hid h
 have hlok := less_ok hok hid h
 have hR : (lessO n o).refs = A ++ B := by show lessR n o.refs = _; rw [hs, less_split hA hB]
 have two : ∀ x : ObjD, objOK x = true → (x.kind = 2 ∨ x.kind = 3) → 2 ≤ x.refs.length := fun x hx hk => by
  simp only [objOK, Bool.and_eq_true, decide_eq_true_eq] at hx
  have h4 := hx.1.1.1.2
  rcases hk with hk | hk
  ·rw [hk] at h4; unfold leastK at h4; simp at h4; omega
  ·rw [hk] at h4; unfold leastK at h4; simp at h4; omega
 have l1 := two o hok hkind
 have l2 := two _ hlok (show (lessO n o).kind = 2 ∨ (lessO n o).kind = 3 from hkind)
 have kan : key2 a n ∈ sidesP o := by
  rw [sides_adj hkind l1]
  rcases ha with ha | ⟨hA0, hk3, ha⟩
  ·obtain ⟨A', rfl⟩ := last_split ha
   exact Or.inl ⟨A', B, a, n, by rw [hs]; simp, rfl⟩
  ·subst hA0
   obtain ⟨B', rfl⟩ := last_split ha
   refine Or.inr ⟨hk3, a, n, ?_, ?_, rfl⟩
   ·rw [hs]; exact last_snoc (n :: B') a
   ·rw [hs]; rfl
 have knb : key2 n b ∈ sidesP o := by
  rw [sides_adj hkind l1]
  rcases hb with hb | ⟨hB0, hk3, hb⟩
  ·obtain ⟨B', rfl⟩ := head_split hb
   exact Or.inl ⟨A, B', n, b, hs, rfl⟩
  ·subst hB0
   obtain ⟨A', rfl⟩ := head_split hb
   refine Or.inr ⟨hk3, n, b, ?_, ?_, rfl⟩
   ·rw [hs]; exact last_snoc (b :: A') n
   ·rw [hs]; rfl
 have kab : key2 a b ∈ sidesP (lessO n o) := by
  rw [sides_adj (show (lessO n o).kind = 2 ∨ (lessO n o).kind = 3 from hkind) l2, hR]
  rcases ha with ha | ⟨hA0, hk3, ha⟩
  ·rcases hb with hb | ⟨hB0, hk3, hb⟩
   ·obtain ⟨A', rfl⟩ := last_split ha
    obtain ⟨B', rfl⟩ := head_split hb
    exact Or.inl ⟨A', B', a, b, by simp, rfl⟩
   ·subst hB0
    exact Or.inr ⟨hk3, a, b, by rw [List.append_nil]; exact ha, by rw [List.append_nil]; exact hb, rfl⟩
  ·subst hA0
   rcases hb with hb | ⟨hB0, _, hb⟩
   ·exact Or.inr ⟨hk3, a, b, ha, hb, rfl⟩
   ·subst hB0; cases hb
 have han : a ≠ n := fun e => by
  subst e
  rcases ha with ha | ⟨_, _, ha⟩
  ·exact hA (List.mem_of_getLast? ha)
  ·exact hB (List.mem_of_getLast? ha)
 have hbn : b ≠ n := fun e => by
  subst e
  rcases hb with hb | ⟨_, _, hb⟩
  ·exact hB (List.mem_of_head? hb)
  ·exact hA (List.mem_of_head? hb)
 have har : a ∈ o.refs := sides_refs kan (key2_cases.2 (Or.inl rfl))
 have hbr : b ∈ o.refs := sides_refs knb (key2_cases.2 (Or.inr rfl))
 refine ⟨fun k hk => ?_, ?_⟩
 ·rw [sides_adj (show (lessO n o).kind = 2 ∨ (lessO n o).kind = 3 from hkind) l2, hR] at hk
  rw [sides_adj hkind l1]
  rcases hk with ⟨C, D, u, v, e, rfl⟩ | ⟨hk3, u, v, e1, e2, rfl⟩
  ·rcases List.append_eq_append_iff.1 e with ⟨E, rfl, e'⟩ | ⟨E, rfl, e'⟩
   ·exact Or.inl (Or.inl ⟨A ++ n :: E, D, u, v, by rw [hs, e']; simp, rfl⟩)
   ·cases E with
    |nil =>
     simp only [List.nil_append] at e'
     refine Or.inl (Or.inl ⟨C ++ [n], D, u, v, by rw [hs, ← e']; simp, rfl⟩)
    |cons x E =>
     simp only [List.cons_append] at e'
     obtain ⟨e3, e4⟩ := List.cons.inj e'
     clear e'
     subst e3
     cases E with
     |nil =>
      simp only [List.nil_append] at e4
      right
      have h1 : a = u := by
       rcases ha with ha | ⟨h0, _, _⟩
       ·simpa using ha.symm
       ·simp at h0
      have h2 : b = v := by
       rcases hb with hb | ⟨h0, _, _⟩
       ·rw [← e4] at hb; simpa using hb.symm
       ·rw [← e4] at h0; cases h0
      rw [h1, h2]
     |cons y E =>
      simp only [List.cons_append] at e4
      obtain ⟨e5, e6⟩ := List.cons.inj e4
      clear e4
      subst e5
      exact Or.inl (Or.inl ⟨C, E ++ n :: B, u, v, by rw [hs]; simp, rfl⟩)
  ·have hk3' : o.kind = 3 := hk3
   rcases ha with ha | ⟨hA0, _, ha⟩
   ·rcases hb with hb | ⟨hB0, _, hb⟩
    ·left; right
     obtain ⟨A', rfl⟩ := last_split ha
     obtain ⟨B', rfl⟩ := head_split hb
     refine ⟨hk3', u, v, ?_, ?_, rfl⟩
     ·rw [← e1, hs]
      rw [List.getLast?_append (l := A' ++ [a]) (l' := n :: b :: B'), List.getLast?_append (l := A' ++ [a]) (l' := b :: B'), List.getLast?_cons_cons]
     ·rw [← e2, hs]; simp
    ·right
     subst hB0
     rw [List.append_nil] at e1 e2
     rw [ha] at e1
     rw [hb] at e2
     injection e1 with e1; injection e2 with e2
     rw [e1, e2]
   ·right
    subst hA0
    rcases hb with hb | ⟨hB0, _, hb⟩
    ·rw [List.nil_append] at e1 e2
     rw [ha] at e1
     rw [hb] at e2
     injection e1 with e1; injection e2 with e2
     rw [e1, e2]
    ·subst hB0; cases hb
 ·rcases key2_or a b with e | e <;> rw [e] at kab ⊢ <;> simp only
  ·exact ⟨kan, knb, kab, hne, han, hbn, har, hbr, a, b, e.symm⟩
  ·exact ⟨by rw [key2_comm]; exact knb, by rw [key2_comm]; exact kan, kab, fun c => hne c.symm, hbn, han, hbr, har, b, a, by rw [key2_comm]; exact e.symm⟩
end Go.Proofs.YtibpaaajghbkoaaGreat
