/-  -/

namespace Go.Proofs.YtibpaaajghbkoaaGreat
theorem pos_of_mul {x K : Int} (hK : 0 < K) (h : 0 ≤ x * K) : 0 ≤ x := by
 rcases Int.lt_or_le x 0 with hx | hx
 ·have := Int.mul_neg_of_neg_of_pos hx hK; omega
 ·exact hx
theorem le_of_mul {x y K : Int} (hK : 0 < K) (h : x * K ≤ y * K) : x ≤ y := by
 have : 0 ≤ (y - x) * K := by rw [Int.sub_mul]; omega
 have := pos_of_mul hK this; omega
def btw (v w : Int) : Prop := (0 ≤ w ∧ w ≤ v) ∨ (v ≤ w ∧ w ≤ 0)
theorem btw_scale {V W k K : Int} (hK : 0 < K) (h0 : 0 ≤ k) (h1 : k ≤ K) (h : V * k = W * K) : btw V W := by
 have key : ∀ V W : Int, 0 ≤ V → V * k = W * K → 0 ≤ W ∧ W ≤ V := fun V W hv h => by
  constructor
  ·refine pos_of_mul hK ?_
   rw [← h]; exact Int.mul_nonneg hv h0
  ·refine le_of_mul hK ?_
   rw [← h]; exact Int.mul_le_mul_of_nonneg_left h1 hv
 rcases Int.lt_or_le V 0 with hv | hv
 ·have := key (-V) (-W) (by omega) (by grind)
  right; omega
 ·exact Or.inl (key V W hv h)
theorem btw_unscale {V W k K : Int} (hK : 0 < K) (hV : V ≠ 0) (hb : btw V W) (h : V * k = W * K) : 0 ≤ k ∧ k ≤ K := by
 have key : ∀ V W : Int, 0 < V → 0 ≤ W → W ≤ V → V * k = W * K → 0 ≤ k ∧ k ≤ K := fun V W hv h0 h1 h => by
  constructor
  ·refine pos_of_mul hv ?_
   rw [Int.mul_comm, h]; exact Int.mul_nonneg h0 (by omega)
  ·refine le_of_mul hv ?_
   rw [Int.mul_comm k, h, Int.mul_comm K]; exact Int.mul_le_mul_of_nonneg_right h1 (by omega)
 rcases hb with ⟨h0, h1⟩ | ⟨h0, h1⟩
 ·exact key V W (by omega) h0 h1 h
 ·exact key (-V) (-W) (by omega) (by omega) (by omega) (by grind)
theorem on_iff_pos (Vx Vy Wx Wy Ux Uy : Int) (h : Vx * Wy - Vy * Wx = 0) (hK : 0 < Ux * Vy - Uy * Vx) :
  (btw Vx Wx ∧ btw Vy Wy) ↔ (0 ≤ Ux * Wy - Uy * Wx ∧ Ux * Wy - Uy * Wx ≤ Ux * Vy - Uy * Vx) := by
 have e1 : Vx * (Ux * Wy - Uy * Wx) = Wx * (Ux * Vy - Uy * Vx) := by grind
 have e2 : Vy * (Ux * Wy - Uy * Wx) = Wy * (Ux * Vy - Uy * Vx) := by grind
 generalize Ux * Wy - Uy * Wx = k at *
 constructor
 ·rintro ⟨b1, b2⟩
  by_cases hx : Vx = 0
  ·have hy : Vy ≠ 0 := by
    intro hy; rw [hx, hy] at hK; simp at hK
   exact btw_unscale hK hy b2 e2
  ·exact btw_unscale hK hx b1 e1
 ·rintro ⟨h0, h1⟩
  exact ⟨btw_scale hK h0 h1 e1, btw_scale hK h0 h1 e2⟩
theorem on_iff (Vx Vy Wx Wy Ux Uy : Int) (h : Vx * Wy - Vy * Wx = 0) (hK : Ux * Vy - Uy * Vx ≠ 0) :
  (btw Vx Wx ∧ btw Vy Wy) ↔ (Ux * Wy - Uy * Wx) * ((Ux * Vy - Uy * Vx) - (Ux * Wy - Uy * Wx)) ≥ 0 := by
 have hs : ∀ k K : Int, 0 < K → (k * (K - k) ≥ 0 ↔ 0 ≤ k ∧ k ≤ K) := fun k K hK => by
  constructor
  ·intro h
   rcases Int.lt_or_le k 0 with h1 | h1
   ·have := Int.mul_neg_of_neg_of_pos h1 (show 0 < K - k by omega); omega
   ·rcases Int.lt_or_le K k with h2 | h2
    ·have := Int.mul_neg_of_pos_of_neg (show 0 < k by omega) (show K - k < 0 by omega); omega
    ·omega
  ·rintro ⟨h1, h2⟩
   exact Int.mul_nonneg h1 (by omega)
 rcases Int.lt_or_gt_of_ne hK with h1 | h1
 ·rw [on_iff_pos Vx Vy Wx Wy (-Ux) (-Uy) h (by grind)]
  have := hs (-Ux * Wy - -Uy * Wx) (-Ux * Vy - -Uy * Vx) (by grind)
  rw [← this]
  have e : (-Ux * Wy - -Uy * Wx) * (-Ux * Vy - -Uy * Vx - (-Ux * Wy - -Uy * Wx)) = (Ux * Wy - Uy * Wx) * ((Ux * Vy - Uy * Vx) - (Ux * Wy - Uy * Wx)) := by grind
  rw [e]
 ·rw [on_iff_pos Vx Vy Wx Wy Ux Uy h h1, hs _ _ h1]
abbrev Pt := Int × Int
abbrev Sg := Pt × Pt
def crs (a b c : Pt) : Int := (b.1 - a.1) * (c.2 - a.2) - (b.2 - a.2) * (c.1 - a.1)
def sgn (n : Int) : Int := if n < 0 then -1 else if 0 < n then 1 else 0
def lexC (a b : Pt) : Int := if a.1 < b.1 then -1 else if b.1 < a.1 then 1 else if a.2 < b.2 then -1 else if b.2 < a.2 then 1 else 0
def nearQ (p : Pt) : Bool := decide (-2097152 ≤ p.1 ∧ p.1 ≤ 2097152 ∧ -2097152 ≤ p.2 ∧ p.2 ≤ 2097152)
def nearS (s : Sg) : Bool := nearQ s.1 && nearQ s.2
def srtS (s : Sg) : Sg := if 0 < lexC s.1 s.2 then (s.2, s.1) else s
def onQ (s : Sg) (p : Pt) : Bool :=
 decide (crs (srtS s).1 (srtS s).2 p = 0) && decide (lexC (srtS s).1 p ≤ 0) && decide (lexC p (srtS s).2 ≤ 0) && (decide ((srtS s).1 ≠ (srtS s).2) || decide (p = (srtS s).1))
def lineQ (s t : Sg) : Int :=
 let p := if t.1 = t.2 then (t, s) else (s, t)
 if p.1.1 = p.1.2 then
  if !onQ p.2 p.1.1 then 0 else if p.1.1 = p.2.1 ∨ p.1.1 = p.2.2 then 1 else 2
 else
  let low := if 0 < lexC p.2.1 p.1.1 then p.2.1 else p.1.1
  let high := if lexC p.2.2 p.1.2 < 0 then p.2.2 else p.1.2
  if lexC low high = -1 then 5 else if lexC low high = 0 then 1 else 0
def meetsQ (s t : Sg) : Int :=
 if !(nearS s && nearS t) then 0 else
 let s := srtS s
 let t := srtS t
 if s = t then 4
 else if s.1 = s.2 ∨ t.1 = t.2 ∨ (crs s.1 s.2 t.1 = 0 ∧ crs s.1 s.2 t.2 = 0) then lineQ s t
 else
  let a := sgn (crs s.1 s.2 t.1)
  let b := sgn (crs s.1 s.2 t.2)
  let c := sgn (crs t.1 t.2 s.1)
  let d := sgn (crs t.1 t.2 s.2)
  if 0 < a * b ∨ 0 < c * d then 0 else if a * b < 0 ∧ c * d < 0 then 3 else if a * b = 0 ∧ c * d = 0 then 1 else 2
def onR (s : Sg) (p : Pt) : Bool :=
 decide (min s.1.1 s.2.1 ≤ p.1 ∧ p.1 ≤ max s.1.1 s.2.1 ∧ min s.1.2 s.2.2 ≤ p.2 ∧ p.2 ≤ max s.1.2 s.2.2) && decide (crs s.1 s.2 p = 0)
def addC (s t : Sg) (l : List Pt) (e : Pt) : List Pt := if decide (e ∈ l) then l else if onR s e && onR t e then l ++ [e] else l
def commonR (s t : Sg) : List Pt := [s.1, s.2, t.1, t.2].foldl (addC s t) []
def endR (s : Sg) (p : Pt) : Bool := decide (p = s.1 ∨ p = s.2)
def pickR (l : List Pt) (A : Int) (f : Pt → Int) : Int :=
 match l with
 |[] => A
 |[e] => f e
 |_ => 5
def meetsR (s t : Sg) : Int :=
 if !(nearS s && nearS t) then 0 else if s = t ∨ (s.1 = t.2 ∧ s.2 = t.1) then 4 else
 pickR (commonR s t) (if sgn (crs s.1 s.2 t.1) * sgn (crs s.1 s.2 t.2) < 0 ∧ sgn (crs t.1 t.2 s.1) * sgn (crs t.1 t.2 s.2) < 0 then 3 else 0) (fun e => if endR s e && endR t e then 1 else 2)
theorem sgn_neg {x y : Int} : sgn x * sgn y < 0 ↔ x * y < 0 := by
 unfold sgn
 rcases Int.lt_trichotomy x 0 with h | h | h <;> rcases Int.lt_trichotomy y 0 with k | k | k
 ·have := Int.mul_pos_of_neg_of_neg h k; simp [h, k]; omega
 ·subst k; simp
 ·have := Int.mul_neg_of_neg_of_pos h k; simp [h, k, show ¬ y < 0 by omega]; omega
 ·subst h; simp
 ·subst h; simp
 ·subst h; simp
 ·have := Int.mul_neg_of_pos_of_neg h k; simp [h, k, show ¬ x < 0 by omega]; omega
 ·subst k; simp
 ·have := Int.mul_pos h k; simp [h, k, show ¬ x < 0 by omega, show ¬ y < 0 by omega]; omega
theorem sgn_zero {x : Int} : sgn x = 0 ↔ x = 0 := by unfold sgn; split <;> (try split) <;> omega
theorem sgn_pos {x : Int} : 0 < sgn x ↔ 0 < x := by unfold sgn; split <;> (try split) <;> omega
theorem sgn_lt {x : Int} : sgn x < 0 ↔ x < 0 := by unfold sgn; split <;> (try split) <;> omega
theorem sgn_m1 {x : Int} (h : x < 0) : sgn x = -1 := by unfold sgn; rw [if_pos h]
theorem sgn_p1 {x : Int} (h : 0 < x) : sgn x = 1 := by unfold sgn; rw [if_neg (by omega), if_pos h]
theorem sgn_mul_zero {x y : Int} : sgn x * sgn y = 0 ↔ x = 0 ∨ y = 0 := by rw [Int.mul_eq_zero, sgn_zero, sgn_zero]
theorem lexC_zero {a b : Pt} : lexC a b = 0 ↔ a = b := by
 obtain ⟨a1, a2⟩ := a; obtain ⟨b1, b2⟩ := b
 unfold lexC; simp only [Prod.mk.injEq]
 split <;> (try split) <;> (try split) <;> (try split) <;> omega
def keyP (p : Pt) : Int := p.1 * 8388608 + p.2
theorem near_bd {p : Pt} (h : nearQ p = true) : -2097152 ≤ p.1 ∧ p.1 ≤ 2097152 ∧ -2097152 ≤ p.2 ∧ p.2 ≤ 2097152 := of_decide_eq_true h
theorem lexC_key {a b : Pt} (ha : nearQ a = true) (hb : nearQ b = true) : lexC a b = sgn (keyP a - keyP b) := by
 have h1 := near_bd ha; have h2 := near_bd hb
 unfold lexC sgn keyP
 split <;> (try split) <;> (try split) <;> (try split) <;> (try split) <;> (try split) <;> omega
theorem keyP_inj {a b : Pt} (ha : nearQ a = true) (hb : nearQ b = true) (h : keyP a = keyP b) : a = b := by
 rw [← lexC_zero, lexC_key ha hb, sgn_zero]; omega
theorem mem_add {s t : Sg} {l : List Pt} {e x : Pt} : x ∈ addC s t l e ↔ x ∈ l ∨ (x = e ∧ onR s e = true ∧ onR t e = true) := by
 unfold addC
 by_cases h : e ∈ l
 ·simp only [h, decide_true, if_true]
  constructor
  ·exact Or.inl
  ·rintro (h1 | ⟨rfl, _⟩)
   ·exact h1
   ·exact h
 ·simp only [h, decide_false, Bool.false_eq_true, if_false]
  cases h1 : onR s e <;> cases h2 : onR t e <;> simp
theorem mem_common {s t : Sg} {x : Pt} : x ∈ commonR s t ↔ (x = s.1 ∨ x = s.2 ∨ x = t.1 ∨ x = t.2) ∧ onR s x = true ∧ onR t x = true := by
 unfold commonR
 simp only [List.foldl_cons, List.foldl_nil, mem_add, List.not_mem_nil, false_or]
 constructor
 ·rintro (((⟨rfl, h⟩ | ⟨rfl, h⟩) | ⟨rfl, h⟩) | ⟨rfl, h⟩) <;> simp [h]
 ·rintro ⟨rfl | rfl | rfl | rfl, h⟩ <;> simp [h]
theorem nodup_add {s t : Sg} {l : List Pt} {e : Pt} (h : l.Nodup) : (addC s t l e).Nodup := by
 unfold addC
 by_cases h1 : e ∈ l
 ·simp [h1, h]
 ·simp only [h1, decide_false, Bool.false_eq_true, if_false]
  split
  ·rw [List.nodup_append]
   refine ⟨h, by simp, fun a ha b hb => ?_⟩
   rw [List.mem_singleton.1 hb]
   intro e'; exact h1 (e' ▸ ha)
  ·exact h
theorem nodup_common (s t : Sg) : (commonR s t).Nodup := by
 unfold commonR
 simp only [List.foldl_cons, List.foldl_nil]
 exact nodup_add (nodup_add (nodup_add (nodup_add List.nodup_nil)))
theorem common_nil {s t : Sg} (h : ∀ x, x ∉ commonR s t) : commonR s t = [] := List.eq_nil_iff_forall_not_mem.2 h
theorem common_one {s t : Sg} {c : Pt} (h : c ∈ commonR s t) (h1 : ∀ x ∈ commonR s t, x = c) : commonR s t = [c] := by
 have hn := nodup_common s t
 generalize commonR s t = l at *
 match l, hn with
 |[], _ => cases h
 |[x], _ => rw [h1 x (List.mem_cons_self ..)]
 |x :: y :: l, hn =>
  have e1 := h1 x (List.mem_cons_self ..)
  have e2 := h1 y (List.mem_cons_of_mem _ (List.mem_cons_self ..))
  simp [e1, e2] at hn
theorem common_two {s t : Sg} {c d : Pt} (h : c ∈ commonR s t) (h1 : d ∈ commonR s t) (hne : c ≠ d) : ∃ x y l, commonR s t = x :: y :: l := by
 generalize commonR s t = l at *
 match l with
 |[] => cases h
 |[x] => exact absurd ((List.mem_singleton.1 h).trans (List.mem_singleton.1 h1).symm) hne
 |x :: y :: l => exact ⟨x, y, l, rfl⟩
theorem onR_iff (s : Sg) (p : Pt) : onR s p = true ↔ (btw (s.2.1 - s.1.1) (p.1 - s.1.1) ∧ btw (s.2.2 - s.1.2) (p.2 - s.1.2)) ∧ crs s.1 s.2 p = 0 := by
 unfold onR btw
 rw [Bool.and_eq_true, decide_eq_true_eq, decide_eq_true_eq]
 constructor
 ·rintro ⟨h, h2⟩; exact ⟨by omega, h2⟩
 ·rintro ⟨h, h2⟩; exact ⟨by omega, h2⟩
theorem onR_ends (s : Sg) : onR s s.1 = true ∧ onR s s.2 = true := by
 rw [onR_iff, onR_iff]
 unfold btw crs
 refine ⟨⟨by omega, by simp⟩, ⟨by omega, by rw [Int.mul_comm]; omega⟩⟩
theorem onR_swap (s : Sg) (p : Pt) : onR (s.2, s.1) p = onR s p := by
 rw [Bool.eq_iff_iff, onR_iff, onR_iff]
 simp only [btw, crs]
 constructor
 ·rintro ⟨h, h2⟩; exact ⟨by omega, by grind⟩
 ·rintro ⟨h, h2⟩; exact ⟨by omega, by grind⟩
theorem crs_swap (a b c : Pt) : crs b a c = - crs a b c := by unfold crs; grind
theorem pick_eq {l l' : List Pt} (hn : l.Nodup) (hn' : l'.Nodup) (h : ∀ x, x ∈ l ↔ x ∈ l') (A : Int) (f : Pt → Int) : pickR l A f = pickR l' A f := by
 rcases l with _ | ⟨x, _ | ⟨z, l⟩⟩ <;> rcases l' with _ | ⟨y, _ | ⟨u, l'⟩⟩
 ·rfl
 ·exact absurd ((h y).2 (List.mem_cons_self ..)) (by simp)
 ·exact absurd ((h y).2 (List.mem_cons_self ..)) (by simp)
 ·exact absurd ((h x).1 (List.mem_cons_self ..)) (by simp)
 ·rw [List.mem_singleton.1 ((h x).1 (List.mem_cons_self ..))]
 ·have e1 := List.mem_singleton.1 ((h y).2 (List.mem_cons_self ..))
  have e2 := List.mem_singleton.1 ((h u).2 (List.mem_cons_of_mem _ (List.mem_cons_self ..)))
  rw [e1, e2] at hn'; simp at hn'
 ·exact absurd ((h x).1 (List.mem_cons_self ..)) (by simp)
 ·have e1 := List.mem_singleton.1 ((h x).1 (List.mem_cons_self ..))
  have e2 := List.mem_singleton.1 ((h z).1 (List.mem_cons_of_mem _ (List.mem_cons_self ..)))
  rw [e1, e2] at hn; simp at hn
 ·rfl
theorem meetsR_congr {s t s' t' : Sg} (hm : ∀ x, x ∈ commonR s t ↔ x ∈ commonR s' t') (hn : (nearS s && nearS t) = (nearS s' && nearS t')) (hs : (s = t ∨ (s.1 = t.2 ∧ s.2 = t.1)) ↔ (s' = t' ∨ (s'.1 = t'.2 ∧ s'.2 = t'.1)))
  (he : ∀ x, (endR s x && endR t x) = (endR s' x && endR t' x))
  (hc : (sgn (crs s.1 s.2 t.1) * sgn (crs s.1 s.2 t.2) < 0 ∧ sgn (crs t.1 t.2 s.1) * sgn (crs t.1 t.2 s.2) < 0) ↔ (sgn (crs s'.1 s'.2 t'.1) * sgn (crs s'.1 s'.2 t'.2) < 0 ∧ sgn (crs t'.1 t'.2 s'.1) * sgn (crs t'.1 t'.2 s'.2) < 0)) :
  meetsR s t = meetsR s' t' := by
 unfold meetsR
 rw [hn]
 split
 ·rfl
 ·by_cases h1 : s = t ∨ (s.1 = t.2 ∧ s.2 = t.1)
  ·rw [if_pos h1, if_pos (hs.1 h1)]
  ·rw [if_neg h1, if_neg (fun h => h1 (hs.2 h)), pick_eq (nodup_common s t) (nodup_common s' t') hm]
   simp only [he, hc]
theorem meetsR_comm (s t : Sg) : meetsR t s = meetsR s t := by
 refine meetsR_congr (fun x => ?_) (Bool.and_comm ..) ?_ (fun x => Bool.and_comm ..) ⟨fun h => ⟨h.2, h.1⟩, fun h => ⟨h.2, h.1⟩⟩
 ·rw [mem_common, mem_common]
  constructor <;> (rintro ⟨h, h1, h2⟩; exact ⟨by rcases h with h | h | h | h <;> simp [h], h2, h1⟩)
 ·constructor <;> (rintro (rfl | ⟨h1, h2⟩); exact Or.inl rfl; exact Or.inr ⟨h2.symm, h1.symm⟩)
theorem meetsR_swap (s t : Sg) : meetsR (s.2, s.1) t = meetsR s t := by
 refine meetsR_congr (fun x => ?_) ?_ ?_ (fun x => ?_) ?_
 ·rw [mem_common, mem_common, onR_swap]
  constructor <;> (rintro ⟨h, h1⟩; exact ⟨by rcases h with h | h | h | h <;> simp [h], h1⟩)
 ·simp only [nearS]; rw [Bool.and_comm (nearQ s.2)]
 ·obtain ⟨s1, s2⟩ := s
  obtain ⟨t1, t2⟩ := t
  simp only [Prod.mk.injEq]
  constructor <;> (rintro (⟨h1, h2⟩ | ⟨h1, h2⟩); exact Or.inr ⟨h2, h1⟩; exact Or.inl ⟨h2, h1⟩)
 ·congr 1
  simp only [endR, decide_eq_decide]; exact Or.comm
 ·simp only [sgn_neg]
  rw [crs_swap s.1 s.2 t.1, crs_swap s.1 s.2 t.2, Int.neg_mul_neg, Int.mul_comm (crs t.1 t.2 s.2)]
theorem meetsR_srt (s t : Sg) : meetsR (srtS s) t = meetsR s t := by
 unfold srtS
 split
 ·exact meetsR_swap s t
 ·rfl
theorem meetsR_srt2 (s t : Sg) : meetsR (srtS s) (srtS t) = meetsR s t := by rw [meetsR_srt, meetsR_comm, meetsR_srt, meetsR_comm]
theorem srtS_near (s : Sg) : nearS (srtS s) = nearS s := by
 unfold srtS; split
 ·simp only [nearS]; rw [Bool.and_comm]
 ·rfl
theorem lexC_anti (a b : Pt) : lexC b a = - lexC a b := by
 unfold lexC; split <;> (try split) <;> (try split) <;> (try split) <;> omega
theorem srtS_le (s : Sg) : lexC (srtS s).1 (srtS s).2 ≤ 0 := by
 unfold srtS; split
 ·have := lexC_anti s.1 s.2
  show lexC s.2 s.1 ≤ 0
  omega
 ·omega
theorem on_lex {A B p : Pt} (hAB : lexC A B ≤ 0) (hne : A ≠ B) (hc : crs A B p = 0) : (btw (B.1 - A.1) (p.1 - A.1) ∧ btw (B.2 - A.2) (p.2 - A.2)) ↔ (lexC A p ≤ 0 ∧ lexC p B ≤ 0) := by
 obtain ⟨a1, a2⟩ := A; obtain ⟨b1, b2⟩ := B; obtain ⟨p1, p2⟩ := p
 unfold crs at hc
 simp only [lexC, Prod.mk.injEq, ne_eq] at *
 generalize hV : b1 - a1 = V at *
 generalize hU : b2 - a2 = U at *
 generalize hW : p1 - a1 = W at *
 generalize hY : p2 - a2 = Y at *
 have k1 : (if a1 < b1 then (-1 : Int) else if b1 < a1 then 1 else if a2 < b2 then -1 else if b2 < a2 then 1 else 0) ≤ 0 → 0 < V ∨ (V = 0 ∧ 0 ≤ U) := by
  split <;> (try split) <;> (try split) <;> (try split) <;> omega
 have k2 : ((if a1 < p1 then (-1 : Int) else if p1 < a1 then 1 else if a2 < p2 then -1 else if p2 < a2 then 1 else 0) ≤ 0) ↔ (0 < W ∨ (W = 0 ∧ 0 ≤ Y)) := by
  split <;> (try split) <;> (try split) <;> (try split) <;> omega
 have k3 : ((if p1 < b1 then (-1 : Int) else if b1 < p1 then 1 else if p2 < b2 then -1 else if b2 < p2 then 1 else 0) ≤ 0) ↔ (W < V ∨ (W = V ∧ Y ≤ U)) := by
  split <;> (try split) <;> (try split) <;> (try split) <;> omega
 rw [k2, k3]
 have hc' : U * W = Y * V := by grind
 rcases k1 hAB with hv | ⟨hv, hu⟩
 ·constructor
  ·rintro ⟨h1, h2⟩
   unfold btw at h1
   have w0 : 0 ≤ W ∧ W ≤ V := by omega
   refine ⟨?_, ?_⟩
   ·rcases Int.lt_or_eq_of_le w0.1 with h | h
    ·exact Or.inl h
    ·refine Or.inr ⟨h.symm, ?_⟩
     rw [← h, Int.mul_zero] at hc'
     have : Y = 0 := (Int.mul_eq_zero.1 hc'.symm).resolve_right (by omega)
     omega
   ·rcases Int.lt_or_eq_of_le w0.2 with h | h
    ·exact Or.inl h
    ·refine Or.inr ⟨h, ?_⟩
     rw [h] at hc'
     have := Int.eq_of_mul_eq_mul_right (show V ≠ 0 by omega) hc'
     omega
  ·rintro ⟨h1, h2⟩
   have w0 : 0 ≤ W ∧ W ≤ V := by omega
   exact ⟨Or.inl w0, btw_scale hv w0.1 w0.2 hc'⟩
 ·subst hv
  have hU0 : U ≠ 0 := by
   intro h
   apply hne
   omega
  rw [Int.mul_zero] at hc'
  have hW0 : W = 0 := (Int.mul_eq_zero.1 hc').resolve_left hU0
  unfold btw
  omega
theorem onQ_srt {s : Sg} {p : Pt} : onQ s p = onR s p := by
 have hsw : onR s p = onR (srtS s) p := by
  unfold srtS; split
  ·exact (onR_swap s p).symm
  ·rfl
 rw [hsw, Bool.eq_iff_iff, onR_iff]
 unfold onQ
 have hle := srtS_le s
 generalize srtS s = s' at hle ⊢
 obtain ⟨A, B⟩ := s'
 simp only [Bool.and_eq_true, Bool.or_eq_true, decide_eq_true_eq] at hle ⊢
 by_cases hne : A = B
 ·subst hne
  constructor
  ·rintro ⟨⟨⟨h1, h2⟩, h3⟩, h4⟩
   rcases h4 with h4 | h4
   ·exact absurd rfl h4
   ·subst h4
    exact ⟨⟨by unfold btw; omega, by unfold btw; omega⟩, h1⟩
  ·rintro ⟨⟨h1, h2⟩, h3⟩
   unfold btw at h1 h2
   have : p = A := by
    obtain ⟨p1, p2⟩ := p; obtain ⟨a1, a2⟩ := A
    simp only [Prod.mk.injEq] at *
    omega
   subst this
   exact ⟨⟨⟨h3, by rw [lexC_zero.2 rfl]; omega⟩, by rw [lexC_zero.2 rfl]; omega⟩, Or.inr rfl⟩
 ·constructor
  ·rintro ⟨⟨⟨h1, h2⟩, h3⟩, _⟩
   exact ⟨(on_lex hle hne h1).2 ⟨h2, h3⟩, h1⟩
  ·rintro ⟨h1, h2⟩
   obtain ⟨h3, h4⟩ := (on_lex hle hne h2).1 h1
   exact ⟨⟨⟨h2, h3⟩, h4⟩, Or.inl hne⟩
theorem onR_point (P x : Pt) : onR (P, P) x = true ↔ x = P := by
 rw [onR_iff]
 unfold btw crs
 obtain ⟨p1, p2⟩ := P; obtain ⟨x1, x2⟩ := x
 simp only [Prod.mk.injEq]
 constructor
 ·rintro ⟨h, _⟩; omega
 ·rintro ⟨rfl, rfl⟩; exact ⟨by omega, by grind⟩
theorem meetsR_point (s : Sg) (P : Pt) (hn : (nearS s && nearS (P, P)) = true) (hne : ¬ (s = (P, P) ∨ (s.1 = P ∧ s.2 = P))) :
  meetsR s (P, P) = if !onR s P then 0 else if P = s.1 ∨ P = s.2 then 1 else 2 := by
 unfold meetsR
 rw [hn]
 simp only [Bool.not_true, Bool.false_eq_true, if_false]
 rw [if_neg hne]
 cases ho : onR s P with
 |false =>
  have h0 : commonR s (P, P) = [] := common_nil fun x hx => by
   rw [mem_common] at hx
   obtain ⟨-, h1, h2⟩ := hx
   rw [onR_point] at h2
   subst h2
   rw [ho] at h1; cases h1
  rw [h0]
  simp only [pickR, Bool.not_false, if_true]
  rw [if_neg]
  rintro ⟨-, h⟩
  rw [sgn_neg] at h
  have e : ∀ c : Pt, crs P P c = 0 := fun c => by unfold crs; grind
  rw [e, e] at h
  omega
 |true =>
  have h1 : commonR s (P, P) = [P] := common_one (c := P) (mem_common.2 ⟨by simp, ho, (onR_point P P).2 rfl⟩) fun x hx => (onR_point P x).1 (mem_common.1 hx).2.2
  rw [h1]
  simp only [pickR, endR, Bool.not_true, Bool.false_eq_true, if_false]
  by_cases h : P = s.1 ∨ P = s.2
  ·simp [h]
  ·simp [h]
theorem meetsR_line {s t : Sg} (hn : (nearS s && nearS t) = true) (hs : lexC s.1 s.2 ≤ 0) (ht : lexC t.1 t.2 ≤ 0) (hne : s ≠ t) (hs2 : s.1 ≠ s.2) (ht2 : t.1 ≠ t.2) (ha : crs s.1 s.2 t.1 = 0) (hb : crs s.1 s.2 t.2 = 0) (low high : Pt)
  (hl : low = if 0 < lexC t.1 s.1 then t.1 else s.1) (hh : high = if lexC t.2 s.2 < 0 then t.2 else s.2) :
  meetsR s t = if lexC low high = -1 then 5 else if lexC low high = 0 then 1 else 0 := by
 have hnn := hn
 simp only [nearS, Bool.and_eq_true] at hnn
 obtain ⟨⟨n1, n2⟩, n3, n4⟩ := hnn
 obtain ⟨c0, d0⟩ : crs t.1 t.2 s.1 = 0 ∧ crs t.1 t.2 s.2 = 0 := by
  obtain ⟨⟨a1, a2⟩, ⟨b1, b2⟩⟩ := s
  obtain ⟨⟨c1, c2⟩, ⟨d1, d2⟩⟩ := t
  simp only [crs, ne_eq, Prod.mk.injEq] at *
  by_cases hx : b1 - a1 = 0
  ·have hy : b2 - a2 ≠ 0 := by omega
   constructor
   ·refine Int.eq_of_mul_eq_mul_left hy ?_; grind
   ·refine Int.eq_of_mul_eq_mul_left hy ?_; grind
  ·constructor
   ·refine Int.eq_of_mul_eq_mul_left hx ?_; grind
   ·refine Int.eq_of_mul_eq_mul_left hx ?_; grind
 have os : ∀ p : Pt, nearQ p = true → crs s.1 s.2 p = 0 → (onR s p = true ↔ keyP s.1 ≤ keyP p ∧ keyP p ≤ keyP s.2) := fun p np hp => by
  rw [onR_iff, on_lex hs hs2 hp, lexC_key n1 np, lexC_key np n2]
  simp only [hp, and_true]
  have q1 := @sgn_pos (keyP s.1 - keyP p)
  have q2 := @sgn_pos (keyP p - keyP s.2)
  omega
 have ot : ∀ p : Pt, nearQ p = true → crs t.1 t.2 p = 0 → (onR t p = true ↔ keyP t.1 ≤ keyP p ∧ keyP p ≤ keyP t.2) := fun p np hp => by
  rw [onR_iff, on_lex ht ht2 hp, lexC_key n3 np, lexC_key np n4]
  simp only [hp, and_true]
  have q1 := @sgn_pos (keyP t.1 - keyP p)
  have q2 := @sgn_pos (keyP p - keyP t.2)
  omega
 have z1 : crs s.1 s.2 s.1 = 0 := by unfold crs; grind
 have z2 : crs s.1 s.2 s.2 = 0 := by unfold crs; grind
 have z3 : crs t.1 t.2 t.1 = 0 := by unfold crs; grind
 have z4 : crs t.1 t.2 t.2 = 0 := by unfold crs; grind
 have ks : keyP s.1 < keyP s.2 := by
  rw [lexC_key n1 n2] at hs
  have : keyP s.1 ≠ keyP s.2 := fun h => hs2 (keyP_inj n1 n2 h)
  unfold sgn at hs
  split at hs
  ·omega
  ·split at hs <;> omega
 have kt : keyP t.1 < keyP t.2 := by
  rw [lexC_key n3 n4] at ht
  have : keyP t.1 ≠ keyP t.2 := fun h => ht2 (keyP_inj n3 n4 h)
  unfold sgn at ht
  split at ht
  ·omega
  ·split at ht <;> omega
 have hmem : ∀ p : Pt, (p = s.1 ∨ p = s.2 ∨ p = t.1 ∨ p = t.2) → (p ∈ commonR s t ↔ (keyP s.1 ≤ keyP p ∧ keyP p ≤ keyP s.2) ∧ (keyP t.1 ≤ keyP p ∧ keyP p ≤ keyP t.2)) := fun p hp => by
  rw [mem_common]
  have np : nearQ p = true := by rcases hp with rfl | rfl | rfl | rfl <;> assumption
  have q1 : crs s.1 s.2 p = 0 := by rcases hp with rfl | rfl | rfl | rfl <;> assumption
  have q2 : crs t.1 t.2 p = 0 := by rcases hp with rfl | rfl | rfl | rfl <;> assumption
  rw [os p np q1, ot p np q2]
  exact ⟨fun h => h.2, fun h => ⟨hp, h⟩⟩
 have hmem2 : ∀ p : Pt, p ∈ commonR s t → (keyP s.1 ≤ keyP p ∧ keyP p ≤ keyP s.2) ∧ (keyP t.1 ≤ keyP p ∧ keyP p ≤ keyP t.2) := fun p hp => (hmem p (mem_common.1 hp).1).1 hp
 have hnear2 : ∀ p : Pt, p ∈ commonR s t → nearQ p = true := fun p hp => by
  rcases (mem_common.1 hp).1 with rfl | rfl | rfl | rfl <;> assumption
 have kl : keyP low = max (keyP s.1) (keyP t.1) ∧ (low = s.1 ∨ low = t.1) := by
  rw [hl, lexC_key n3 n1]
  by_cases h : 0 < keyP t.1 - keyP s.1
  ·rw [if_pos (sgn_pos.2 h)]
   exact ⟨by omega, Or.inr rfl⟩
  ·rw [if_neg (fun h' => h (sgn_pos.1 h'))]
   exact ⟨by omega, Or.inl rfl⟩
 have kh : keyP high = min (keyP s.2) (keyP t.2) ∧ (high = s.2 ∨ high = t.2) := by
  rw [hh, lexC_key n4 n2]
  by_cases h : keyP t.2 - keyP s.2 < 0
  ·rw [if_pos (sgn_lt.2 h)]
   exact ⟨by omega, Or.inr rfl⟩
  ·rw [if_neg (fun h' => h (sgn_lt.1 h'))]
   exact ⟨by omega, Or.inl rfl⟩
 have nl : nearQ low = true := by rcases kl.2 with rfl | rfl <;> assumption
 have nh : nearQ high = true := by rcases kh.2 with rfl | rfl <;> assumption
 have hsame : ¬ (s = t ∨ (s.1 = t.2 ∧ s.2 = t.1)) := by
  rintro (h | ⟨h1, h2⟩)
  ·exact hne h
  ·rw [h1, h2] at ks; omega
 unfold meetsR
 rw [hn]
 simp only [Bool.not_true, Bool.false_eq_true, if_false]
 rw [if_neg hsame]
 have hlow : low ∈ commonR s t ↔ keyP low ≤ keyP high := by
  rw [hmem low (by rcases kl.2 with h | h <;> simp [h])]; omega
 have hhigh : high ∈ commonR s t ↔ keyP low ≤ keyP high := by
  rw [hmem high (by rcases kh.2 with h | h <;> simp [h])]; omega
 rw [lexC_key nl nh]
 rcases Int.lt_trichotomy (keyP low) (keyP high) with h | h | h
 ·obtain ⟨x, y, l, e⟩ := common_two (hlow.2 (by omega)) (hhigh.2 (by omega)) (fun e => by rw [e] at h; omega)
  have c1 : sgn (keyP low - keyP high) = -1 := sgn_m1 (by omega)
  rw [e, if_pos c1]
  rfl
 ·have e := common_one (hlow.2 (by omega)) (fun x hx => keyP_inj (hnear2 x hx) nl (by have := hmem2 x hx; omega))
  have hlh : low = high := keyP_inj nl nh h
  have c1 : sgn (keyP low - keyP high) = 0 := sgn_zero.2 (by omega)
  rw [e, c1, if_neg (show ¬ (0 : Int) = -1 by omega), if_pos rfl]
  simp only [pickR, endR]
  have e1 : low = s.1 ∨ low = s.2 := by
   rcases kl.2 with k | k
   ·exact Or.inl k
   ·rcases kh.2 with k' | k'
    ·exact Or.inr (hlh.trans k')
    ·rw [← hlh] at k'; rw [k] at k'; exact absurd k' ht2
  have e2 : low = t.1 ∨ low = t.2 := by
   rcases kl.2 with k | k
   ·rcases kh.2 with k' | k'
    ·rw [← hlh] at k'; rw [k] at k'; exact absurd k' hs2
    ·exact Or.inr (hlh.trans k')
   ·exact Or.inl k
  simp [e1, e2]
 ·have e : commonR s t = [] := common_nil fun x hx => by have := hmem2 x hx; omega
  have c1 : sgn (keyP low - keyP high) = 1 := sgn_p1 (by omega)
  rw [e, c1, if_neg (show ¬ (1 : Int) = -1 by omega), if_neg (show ¬ (1 : Int) = 0 by omega)]
  simp only [pickR]
  rw [if_neg]
  rintro ⟨h1, -⟩
  rw [ha, sgn_neg] at h1
  omega
theorem sgn_mul_pos {x y : Int} : 0 < sgn x * sgn y ↔ 0 < x * y := by
 have h1 := @sgn_neg x y
 have h2 := @sgn_mul_zero x y
 have h3 := @Int.mul_eq_zero x y
 omega
theorem on_ends {s t : Sg} (hK : (t.2.1 - t.1.1) * (s.2.2 - s.1.2) - (t.2.2 - t.1.2) * (s.2.1 - s.1.1) ≠ 0) :
  (onR s t.1 = true ↔ crs s.1 s.2 t.1 = 0 ∧ crs t.1 t.2 s.1 * crs t.1 t.2 s.2 ≤ 0) ∧ (onR s t.2 = true ↔ crs s.1 s.2 t.2 = 0 ∧ crs t.1 t.2 s.1 * crs t.1 t.2 s.2 ≤ 0) := by
 have key : ∀ q : Pt, crs t.1 t.2 q = 0 → (onR s q = true ↔ crs s.1 s.2 q = 0 ∧ crs t.1 t.2 s.1 * crs t.1 t.2 s.2 ≤ 0) := fun q hq => by
  rw [onR_iff, and_comm]
  refine and_congr_right fun h => ?_
  rw [on_iff _ _ _ _ (t.2.1 - t.1.1) (t.2.2 - t.1.2) h hK]
  have e : ((t.2.1 - t.1.1) * (q.2 - s.1.2) - (t.2.2 - t.1.2) * (q.1 - s.1.1)) * ((t.2.1 - t.1.1) * (s.2.2 - s.1.2) - (t.2.2 - t.1.2) * (s.2.1 - s.1.1) - ((t.2.1 - t.1.1) * (q.2 - s.1.2) - (t.2.2 - t.1.2) * (q.1 - s.1.1))) = -(crs t.1 t.2 s.1 * crs t.1 t.2 s.2) := by
   unfold crs at *
   grind
  rw [e]; omega
 exact ⟨key t.1 (by unfold crs; grind), key t.2 (by unfold crs; grind)⟩
theorem pt_ext {p q : Pt} (h1 : p.1 - q.1 = 0) (h2 : p.2 - q.2 = 0) : p = q := by
 obtain ⟨p1, p2⟩ := p; obtain ⟨q1, q2⟩ := q
 simp only [Prod.mk.injEq] at *; omega
theorem meetsR_cross {s t : Sg} (hn : (nearS s && nearS t) = true) (ht2 : t.1 ≠ t.2) (hnc : ¬ (crs s.1 s.2 t.1 = 0 ∧ crs s.1 s.2 t.2 = 0)) :
  meetsR s t = (let a := sgn (crs s.1 s.2 t.1); let b := sgn (crs s.1 s.2 t.2); let c := sgn (crs t.1 t.2 s.1); let d := sgn (crs t.1 t.2 s.2)
   if 0 < a * b ∨ 0 < c * d then 0 else if a * b < 0 ∧ c * d < 0 then 3 else if a * b = 0 ∧ c * d = 0 then 1 else 2) := by
 have hnn := hn
 have hsame : ¬ (s = t ∨ (s.1 = t.2 ∧ s.2 = t.1)) := by
  rintro (rfl | ⟨h1, h2⟩)
  ·exact hnc ⟨by unfold crs; grind, by unfold crs; grind⟩
  ·exact hnc ⟨by rw [← h2]; unfold crs; grind, by rw [← h1]; unfold crs; grind⟩
 have hm : meetsR s t = pickR (commonR s t) (if sgn (crs s.1 s.2 t.1) * sgn (crs s.1 s.2 t.2) < 0 ∧ sgn (crs t.1 t.2 s.1) * sgn (crs t.1 t.2 s.2) < 0 then 3 else 0) (fun e => if endR s e && endR t e then 1 else 2) := by
  unfold meetsR
  rw [hn]
  simp only [Bool.not_true, Bool.false_eq_true, if_false]
  rw [if_neg hsame]
 rw [hm]
 simp only [sgn_mul_pos, sgn_neg, sgn_mul_zero]
 by_cases hK : (t.2.1 - t.1.1) * (s.2.2 - s.1.2) - (t.2.2 - t.1.2) * (s.2.1 - s.1.1) = 0
 ·
  have hab : crs s.1 s.2 t.1 = crs s.1 s.2 t.2 := by unfold crs; grind
  have ha : crs s.1 s.2 t.1 ≠ 0 := fun h => hnc ⟨h, by rw [← hab]; exact h⟩
  have hcd : crs t.1 t.2 s.1 = crs t.1 t.2 s.2 := by unfold crs; grind
  have hc : crs t.1 t.2 s.1 ≠ 0 := fun h => by
   apply ha
   unfold crs at *
   by_cases hx : t.2.1 - t.1.1 = 0
   ·have hy : t.2.2 - t.1.2 ≠ 0 := fun hy => ht2 (pt_ext (by omega) (by omega))
    refine Int.eq_of_mul_eq_mul_left hy ?_; grind
   ·refine Int.eq_of_mul_eq_mul_left hx ?_; grind
  have e : commonR s t = [] := common_nil fun x hx => by
   obtain ⟨hx, h1, h2⟩ := mem_common.1 hx
   rw [onR_iff] at h1 h2
   rcases hx with rfl | rfl | rfl | rfl
   ·exact hc h2.2
   ·rw [← hcd] at h2; exact hc h2.2
   ·exact ha h1.2
   ·rw [← hab] at h1; exact ha h1.2
  have hp : 0 < crs s.1 s.2 t.1 * crs s.1 s.2 t.2 := by
   rw [← hab]
   rcases Int.lt_or_gt_of_ne ha with h | h
   ·exact Int.mul_pos_of_neg_of_neg h h
   ·exact Int.mul_pos h h
  rw [e, if_pos (Or.inl hp)]
  simp only [pickR]
  rw [if_neg (by omega)]
 ·have hK2 : (s.2.1 - s.1.1) * (t.2.2 - t.1.2) - (s.2.2 - s.1.2) * (t.2.1 - t.1.1) ≠ 0 := by
   intro h; apply hK; grind
  obtain ⟨u3, u4⟩ := on_ends (s := s) (t := t) hK
  obtain ⟨u1, u2⟩ := on_ends (s := t) (t := s) hK2
  have hcd0 : ¬ (crs t.1 t.2 s.1 = 0 ∧ crs t.1 t.2 s.2 = 0) := by
   rintro ⟨h1, h2⟩
   apply hK
   unfold crs at *
   grind
  have same : ∀ P R : Pt, crs s.1 s.2 P = 0 → crs t.1 t.2 P = 0 → crs s.1 s.2 R = 0 → crs t.1 t.2 R = 0 → P = R := fun P R h1 h2 h3 h4 => by
   refine pt_ext ?_ ?_
   ·refine Int.eq_of_mul_eq_mul_left hK ?_
    unfold crs at *; grind
   ·refine Int.eq_of_mul_eq_mul_left hK ?_
    unfold crs at *; grind
  have z1 : crs s.1 s.2 s.1 = 0 := by unfold crs; grind
  have z2 : crs s.1 s.2 s.2 = 0 := by unfold crs; grind
  have z3 : crs t.1 t.2 t.1 = 0 := by unfold crs; grind
  have z4 : crs t.1 t.2 t.2 = 0 := by unfold crs; grind
  have o1 := onR_ends s
  have o2 := onR_ends t
  have hboth : ∀ x, x ∈ commonR s t → crs s.1 s.2 x = 0 ∧ crs t.1 t.2 x = 0 := fun x hx => by
   obtain ⟨_, h1, h2⟩ := mem_common.1 hx
   rw [onR_iff] at h1 h2
   exact ⟨h1.2, h2.2⟩
  generalize ha : crs s.1 s.2 t.1 = a at *
  generalize hb : crs s.1 s.2 t.2 = b at *
  generalize hc : crs t.1 t.2 s.1 = c at *
  generalize hd : crs t.1 t.2 s.2 = d at *
  have hmem : ∀ x, x ∈ commonR s t → (x = s.1 ∧ c = 0 ∧ a * b ≤ 0) ∨ (x = s.2 ∧ d = 0 ∧ a * b ≤ 0) ∨ (x = t.1 ∧ a = 0 ∧ c * d ≤ 0) ∨ (x = t.2 ∧ b = 0 ∧ c * d ≤ 0) := fun x hx => by
   obtain ⟨hx, h1, h2⟩ := mem_common.1 hx
   rcases hx with rfl | rfl | rfl | rfl
   ·exact Or.inl ⟨rfl, u1.1 h2⟩
   ·exact Or.inr (Or.inl ⟨rfl, u2.1 h2⟩)
   ·exact Or.inr (Or.inr (Or.inl ⟨rfl, u3.1 h1⟩))
   ·exact Or.inr (Or.inr (Or.inr ⟨rfl, u4.1 h1⟩))
  have ab0 := @Int.mul_eq_zero a b
  have cd0 := @Int.mul_eq_zero c d
  by_cases h1 : 0 < a * b ∨ 0 < c * d
  ·have e : commonR s t = [] := common_nil fun x hx => by
    have hb' := hboth x hx
    rcases hmem x hx with ⟨rfl, h⟩ | ⟨rfl, h⟩ | ⟨rfl, h⟩ | ⟨rfl, h⟩ <;> omega
   rw [e, if_pos h1]
   simp only [pickR]
   rw [if_neg (by omega)]
  ·rw [if_neg h1]
   by_cases h2 : a * b < 0 ∧ c * d < 0
   ·have e : commonR s t = [] := common_nil fun x hx => by
     rcases hmem x hx with ⟨rfl, h⟩ | ⟨rfl, h⟩ | ⟨rfl, h⟩ | ⟨rfl, h⟩ <;> omega
    rw [e, if_pos h2]
    simp only [pickR]
    rw [if_pos h2]
   ·rw [if_neg h2]
    obtain ⟨P, hP, hPt, hPs⟩ : ∃ P, P ∈ commonR s t ∧ ((a = 0 ∨ b = 0) → P = t.1 ∨ P = t.2) ∧ ((c = 0 ∨ d = 0) → P = s.1 ∨ P = s.2) := by
     by_cases hz : a = 0 ∨ b = 0
     ·obtain ⟨P, hP, hm⟩ : ∃ P, (P = t.1 ∨ P = t.2) ∧ P ∈ commonR s t := by
       rcases hz with h | h
       ·exact ⟨t.1, Or.inl rfl, mem_common.2 ⟨by simp, u3.2 ⟨h, by omega⟩, o2.1⟩⟩
       ·exact ⟨t.2, Or.inr rfl, mem_common.2 ⟨by simp, u4.2 ⟨h, by omega⟩, o2.2⟩⟩
      refine ⟨P, hm, fun _ => hP, fun hz2 => ?_⟩
      have hb' := hboth P hm
      rcases hz2 with h | h
      ·exact Or.inl (same P s.1 hb'.1 hb'.2 z1 (hc.trans h))
      ·exact Or.inr (same P s.2 hb'.1 hb'.2 z2 (hd.trans h))
     ·have hz2 : c = 0 ∨ d = 0 := by omega
      rcases hz2 with h | h
      ·exact ⟨s.1, mem_common.2 ⟨by simp, o1.1, u1.2 ⟨h, by omega⟩⟩, fun h' => absurd h' hz, fun _ => Or.inl rfl⟩
      ·exact ⟨s.2, mem_common.2 ⟨by simp, o1.2, u2.2 ⟨h, by omega⟩⟩, fun h' => absurd h' hz, fun _ => Or.inr rfl⟩
    have hPb := hboth P hP
    have e := common_one hP fun x hx => same x P (hboth x hx).1 (hboth x hx).2 hPb.1 hPb.2
    rw [e]
    simp only [pickR]
    by_cases h3 : (a = 0 ∨ b = 0) ∧ (c = 0 ∨ d = 0)
    ·rw [if_pos h3]
     have e1 : endR s P = true := decide_eq_true (hPs h3.2)
     have e2 : endR t P = true := decide_eq_true (hPt h3.1)
     rw [e1, e2, if_neg h2]; rfl
    ·rw [if_neg h3]
     have e3 : (endR s P && endR t P) = false := by
      rw [Bool.and_eq_false_iff]
      by_cases hz : a = 0 ∨ b = 0
      ·left
       refine decide_eq_false fun h => ?_
       apply h3
       refine ⟨hz, ?_⟩
       rcases h with h | h
       ·left; rw [← hc, ← h]; exact hPb.2
       ·right; rw [← hd, ← h]; exact hPb.2
      ·right
       refine decide_eq_false fun h => ?_
       apply hz
       rcases h with h | h
       ·left; rw [← ha, ← h]; exact hPb.1
       ·right; rw [← hb, ← h]; exact hPb.1
     rw [e3, if_neg h2]; rfl
theorem meetsQ_eq (s t : Sg) : meetsQ s t = meetsR s t := by
 unfold meetsQ
 cases hn : nearS s && nearS t with
 |false =>
  unfold meetsR; rw [hn]; rfl
 |true =>
  simp only [Bool.not_true, Bool.false_eq_true, if_false]
  rw [← meetsR_srt2]
  have hls := srtS_le s
  have hlt := srtS_le t
  have hn' : (nearS (srtS s) && nearS (srtS t)) = true := by rw [srtS_near, srtS_near]; exact hn
  generalize srtS s = s at *
  generalize srtS t = t at *
  by_cases hst : s = t
  ·subst hst
   unfold meetsR
   rw [hn', if_pos rfl]
   simp
  rw [if_neg hst]
  by_cases hd : s.1 = s.2 ∨ t.1 = t.2
  ·rw [if_pos (by rcases hd with h | h <;> simp [h])]
   unfold lineQ
   by_cases ht : t.1 = t.2
   ·simp only [ht, if_true, onQ_srt]
    obtain ⟨t1, t2⟩ := t
    simp only at ht
    subst ht
    have e := meetsR_point s t1 hn' (by
     rintro (h | ⟨h1, h2⟩)
     ·exact hst h
     ·exact hst (by rw [Prod.ext_iff]; exact ⟨h1, h2⟩))
    exact e.symm
   ·have hs : s.1 = s.2 := hd.resolve_right ht
    simp only [ht, if_false, hs, if_true, onQ_srt]
    obtain ⟨s1, s2⟩ := s
    simp only at hs
    subst hs
    have e := meetsR_point t s1 (by rw [Bool.and_comm]; exact hn') (by
     rintro (h | ⟨h1, h2⟩)
     ·exact hst h.symm
     ·exact hst (by rw [Prod.ext_iff]; exact ⟨h1.symm, h2.symm⟩))
    rw [← meetsR_comm]
    exact e.symm
  ·have hs2 : s.1 ≠ s.2 := fun h => hd (Or.inl h)
   have ht2 : t.1 ≠ t.2 := fun h => hd (Or.inr h)
   by_cases hc : crs s.1 s.2 t.1 = 0 ∧ crs s.1 s.2 t.2 = 0
   ·rw [if_pos (Or.inr (Or.inr hc))]
    unfold lineQ
    simp only [ht2, if_false, hs2]
    exact (meetsR_line hn' hls hlt hst hs2 ht2 hc.1 hc.2 _ _ rfl rfl).symm
   ·rw [if_neg (by rintro (h | h | h); exact hs2 h; exact ht2 h; exact hc h)]
    exact (meetsR_cross hn' ht2 hc).symm
theorem meets_box {s t : Sg} (h : meetsR s t ≠ 0) : (min s.1.1 s.2.1 ≤ max t.1.1 t.2.1 ∧ min t.1.1 t.2.1 ≤ max s.1.1 s.2.1) ∧ (min s.1.2 s.2.2 ≤ max t.1.2 t.2.2 ∧ min t.1.2 t.2.2 ≤ max s.1.2 s.2.2) := by
 have onb : ∀ (s : Sg) (x : Pt), onR s x = true → min s.1.1 s.2.1 ≤ x.1 ∧ x.1 ≤ max s.1.1 s.2.1 ∧ min s.1.2 s.2.2 ≤ x.2 ∧ x.2 ≤ max s.1.2 s.2.2 := fun s x hx => by
  unfold onR at hx
  rw [Bool.and_eq_true, decide_eq_true_eq] at hx
  exact hx.1
 unfold meetsR at h
 split at h
 ·exact absurd rfl h
 split at h
 ·rename_i hs
  rcases hs with rfl | ⟨h1, h2⟩
  ·omega
  ·rw [h1, h2]; omega
 by_cases hc : ∃ x, x ∈ commonR s t
 ·obtain ⟨x, hx⟩ := hc
  obtain ⟨_, h1, h2⟩ := mem_common.1 hx
  have := onb s x h1
  have := onb t x h2
  omega
 ·have e : commonR s t = [] := common_nil fun x hx => hc ⟨x, hx⟩
  rw [e] at h
  simp only [pickR, sgn_neg] at h
  split at h
  ·rename_i hx
   have cross : ∀ (p q u v a b c d : Int), a * b < 0 → c * d < 0 → (a - b) + (c - d) = 0 → b * p - a * q + d * u - c * v = 0 → min p q ≤ max u v ∧ min u v ≤ max p q := by
    intro p q u v a b c d h1 h2 h3 h4
    have signs : (a < 0 ∧ 0 < b ∧ 0 < c ∧ d < 0) ∨ (0 < a ∧ b < 0 ∧ c < 0 ∧ 0 < d) := by
     have sp : ∀ x y : Int, x * y < 0 → (x < 0 ∧ 0 < y) ∨ (0 < x ∧ y < 0) := fun x y h => by
      rcases Int.lt_trichotomy x 0 with hx | hx | hx
      ·rcases Int.lt_or_le 0 y with hy | hy
       ·exact Or.inl ⟨hx, hy⟩
       ·have := Int.mul_nonneg_of_nonpos_of_nonpos (show x ≤ 0 by omega) hy; omega
      ·subst hx; simp at h
      ·rcases Int.lt_or_le y 0 with hy | hy
       ·exact Or.inr ⟨hx, hy⟩
       ·have := Int.mul_nonneg (show 0 ≤ x by omega) hy; omega
     have := sp a b h1
     have := sp c d h2
     omega
    have wt : ∀ (a b c d : Int), a < 0 → 0 < b → 0 < c → d < 0 → (a - b) + (c - d) = 0 → b * p - a * q + d * u - c * v = 0 → min p q ≤ max u v ∧ min u v ≤ max p q := by
     intro a b c d ha hb hc hd h3 h4
     have lo : ∀ (M x y : Int), M ≤ x → M ≤ y → M * (b - a) ≤ b * x - a * y := fun M x y hx hy => by
      have e1 := Int.mul_le_mul_of_nonneg_left hx (show 0 ≤ b by omega)
      have e2 := Int.mul_le_mul_of_nonneg_left hy (show 0 ≤ -a by omega)
      grind
     have hi : ∀ (M x y : Int), x ≤ M → y ≤ M → b * x - a * y ≤ M * (b - a) := fun M x y hx hy => by
      have e1 := Int.mul_le_mul_of_nonneg_left hx (show 0 ≤ b by omega)
      have e2 := Int.mul_le_mul_of_nonneg_left hy (show 0 ≤ -a by omega)
      grind
     have lo2 : ∀ (M x y : Int), M ≤ x → M ≤ y → M * (c - d) ≤ c * y - d * x := fun M x y hx hy => by
      have e1 := Int.mul_le_mul_of_nonneg_left hy (show 0 ≤ c by omega)
      have e2 := Int.mul_le_mul_of_nonneg_left hx (show 0 ≤ -d by omega)
      grind
     have hi2 : ∀ (M x y : Int), x ≤ M → y ≤ M → c * y - d * x ≤ M * (c - d) := fun M x y hx hy => by
      have e1 := Int.mul_le_mul_of_nonneg_left hy (show 0 ≤ c by omega)
      have e2 := Int.mul_le_mul_of_nonneg_left hx (show 0 ≤ -d by omega)
      grind
     have eq1 : b - a = c - d := by omega
     have l1 := lo (min p q) p q (by omega) (by omega)
     have l2 := hi2 (max u v) u v (by omega) (by omega)
     have l3 := lo2 (min u v) u v (by omega) (by omega)
     have l4 := hi (max p q) p q (by omega) (by omega)
     rw [eq1] at l1 l4
     have k : 0 < c - d := by omega
     constructor
     ·exact le_of_mul k (by omega)
     ·exact le_of_mul k (by omega)
    rcases signs with ⟨s1, s2, s3, s4⟩ | ⟨s1, s2, s3, s4⟩
    ·exact wt a b c d s1 s2 s3 s4 h3 h4
    ·exact wt (-a) (-b) (-c) (-d) (by omega) (by omega) (by omega) (by omega) (by omega) (by grind)
   have X := cross t.1.1 t.2.1 s.1.1 s.2.1 _ _ _ _ hx.1 hx.2 (by unfold crs; grind) (by unfold crs; grind)
   have Y := cross t.1.2 t.2.2 s.1.2 s.2.2 _ _ _ _ hx.1 hx.2 (by unfold crs; grind) (by unfold crs; grind)
   exact ⟨⟨X.2, X.1⟩, ⟨Y.2, Y.1⟩⟩
  ·exact absurd rfl h
end Go.Proofs.YtibpaaajghbkoaaGreat
