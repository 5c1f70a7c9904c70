/- border: compare, the order of lines, slices.Contains at texts. -/
import Derived.Test.YtbkomdinchiffaaGreatBorIJ
import Derived.Test.YtbkomdinchiffaaGreatCmp
import Derived.Test.YtbkomdinchiffaaGreatBorS
import Derived.Test.YtbkomdinchiffaaGreatGrp
import Derived.Test.YtbkomdinchiffaaGreatSort
namespace Go.Proofs.YtbkomdinchiffaaGreat
open Go.RowKit Go.Maps Go.ChangeMaps Go.Sort

/-- How two pairs compare. -/
def cmpK (p q : KeyD) : Int := if cmpS p.1 q.1 = 0 then cmpS p.2 q.2 else cmpS p.1 q.1
theorem cmpS_neg {a b : ByteArray} : cmpS a b < 0 ↔ ltB a b = true := by
  unfold cmpS
  cases ltB a b with
  | true => simp
  | false => cases ltB b a <;> simp
theorem cmpS_zero {a b : ByteArray} : cmpS a b = 0 ↔ a = b := by
  unfold cmpS
  cases h : ltB a b with
  | true => simp; intro e; subst e; rw [ltB_irrefl] at h; cases h
  | false =>
    cases h2 : ltB b a with
    | true => simp; intro e; subst e; rw [ltB_irrefl] at h2; cases h2
    | false => simp; exact ltB_total h h2
theorem cmpK_lt (p q : KeyD) : decide (cmpK p q < 0) = ltK p q := by
  rw [Bool.eq_iff_iff, decide_eq_true_eq]
  unfold cmpK ltK
  rw [Bool.or_eq_true, Bool.and_eq_true, decide_eq_true_eq]
  by_cases h : cmpS p.1 q.1 = 0
  · rw [if_pos h, cmpS_neg]
    have e := cmpS_zero.1 h
    rw [e, ltB_irrefl]; simp
  · rw [if_neg h, cmpS_neg]
    have : p.1 ≠ q.1 := fun e => h (cmpS_zero.2 e)
    simp [this]

set_option maxRecDepth 100000 in
set_option maxHeartbeats 2000000 in
theorem compare_any (p q : KeyD) (B c : Nat) (w : World) (h0 : w.cell? ⟨B, 0, none⟩ = some (.string p.1)) (h1 : w.cell? ⟨B, 1, none⟩ = some (.string q.1)) (h2 : w.cell? ⟨B, 2, none⟩ = some (.string p.2)) (h3 : w.cell? ⟨B, 3, none⟩ = some (.string q.2)) :
    Calls Tryz.prog 68 #[.slice (some ⟨B, 0, none⟩) 4 c] w fun e w' => e = .returned (.int .i64 (cmpK p q)) ∧ Grew w w' := by
  have C1 := Lib.hid (fun w => cmpS_any p.1 q.1 w)
  have C2 := Lib.hid (fun w => cmpS_any p.2 q.2 w)
  have HQ := Lib.hid (show cmpK p q = if cmpS p.1 q.1 = 0 then cmpS p.2 q.2 else cmpS p.1 q.1 from rfl)
  generalize cmpK p q = r at HQ ⊢
  generalize cmpS p.1 q.1 = c1 at C1 HQ
  generalize cmpS p.2 q.2 = c2 at C2 HQ
  obtain ⟨p1, p2⟩ := p
  obtain ⟨q1, q2⟩ := q
  simp only [] at h0 h1 h2 h3 C1 C2
  have hB := lt_of_cell h0
  have n1 : IntKind.i64.wrap (0 + 1) = 1 := rfl
  have n2 : IntKind.i64.wrap (2 + 1) = 3 := rfl
  by_cases z1 : c1 = 0
  case neg =>
    have z1d : (c1 != 0) = true := by rw [bne_iff_ne]; exact z1
    have HE := Lib.hid (show r = c1 by rw [HQ.out, if_neg z1])
    clear z1
    go_enter Tryz.func68, Tryz.ntmps68
    go_wp2
    refine wp_loop_rounds 2 ?_
    rw [rounds_succ]
    go_wp2
    go_quiet ((go_at_call 73; exact Calls.quiet_of_same (C1.out _)))
    go_wp2
    go_ret
    exact ⟨by rw [HE.out] <;> rfl, (Grew.refl w).drewN _⟩
  have z1d : (c1 != 0) = false := by rw [z1]; rfl
  have HE1 := Lib.hid (show r = c2 by rw [HQ.out, if_pos z1])
  clear z1
  go_enter Tryz.func68, Tryz.ntmps68
  go_wp2
  refine wp_loop_rounds 3 ?_
  rw [rounds_succ]
  go_wp2
  go_quiet ((go_at_call 73; exact Calls.quiet_of_same (C1.out _)))
  have G1 := (Grew.refl w).drewN nq
  have k2 := cell_later G1.below h2
  have k3 := cell_later G1.below h3
  have hs1 := G1.below.size
  generalize hw1 : w.drewN nq = w1
  rw [hw1] at G1 k2 k3 hs1
  clear hw1 h0 h1 h2 h3
  go_wp2
  rw [rounds_succ]
  go_wp2
  by_cases z2 : c2 = 0
  · have z2d : (c2 != 0) = false := by rw [z2]; rfl
    have HE := Lib.hid (show r = 0 by rw [HE1.out, z2])
    clear z2
    go_quiet ((go_at_call 73; exact Calls.quiet_of_same (C2.out _)))
    go_wp2
    rw [rounds_succ]
    go_wp2
    go_ret
    exact ⟨by rw [HE.out] <;> rfl, G1.drewN _⟩
  · have z2d : (c2 != 0) = true := by rw [bne_iff_ne]; exact z2
    clear z2
    go_quiet ((go_at_call 73; exact Calls.quiet_of_same (C2.out _)))
    go_wp2
    go_ret
    exact ⟨by rw [HE1.out] <;> rfl, G1.drewN _⟩

/-- A border in memory: its pair of nodes, and the slice of its owners. -/
abbrev LineM := KeyD × (Option Addr × Nat × Nat)
def encLn (x : LineM) : List Value := [.string x.1.1, .string x.1.2, .slice x.2.1 x.2.2.1 x.2.2.2]
theorem encLn_len (x : LineM) : (encLn x).length = 3 := rfl
theorem encLn_one (x : LineM) : ∀ v ∈ encLn x, v.oneCell' = true := by
  intro v hv
  simp only [encLn, List.mem_cons, List.not_mem_nil, or_false] at hv
  rcases hv with rfl | rfl | rfl <;> rfl
def cfLn (x y : LineM) : Int := cmpK x.1 y.1
theorem cfLn_lt (x y : LineM) : ltOf cfLn x y = ltK x.1 y.1 := cmpK_lt x.1 y.1
theorem ltK_swo : SWO ltK where
  irrefl := ltK_irrefl
  trans := fun x y z h h2 => ltK_trans h h2
  ntrans := fun x y z h h2 => by
    cases h3 : ltK x z with
    | false => rfl
    | true =>
      cases h4 : ltK z y with
      | true => have := ltK_trans h3 h4; rw [h] at this; cases this
      | false => rw [ltK_total h2 h4] at h; rw [h] at h3; cases h3
theorem swoLn : SWO (ltOf cfLn) where
  irrefl := fun x => by rw [cfLn_lt]; exact ltK_irrefl _
  trans := fun x y z h h2 => by rw [cfLn_lt] at *; exact ltK_trans h h2
  ntrans := fun x y z h h2 => by rw [cfLn_lt] at *; exact ltK_swo.ntrans _ _ _ h h2

set_option maxHeartbeats 1000000 in
theorem lnc_any (x y : LineM) (w : World) :
    Calls Tryz.prog 67 #[.agg (encLn x).toArray, .agg (encLn y).toArray] w fun e w' => e = .returned (.int .i64 (cfLn x y)) ∧ Grew w w' := by
  have C1 := Lib.hid (fun B c w h0 h1 h2 h3 => compare_any x.1 y.1 B c w h0 h1 h2 h3)
  have HQ := Lib.hid (show cfLn x y = cmpK x.1 y.1 from rfl)
  generalize cfLn x y = r at HQ ⊢
  rw [← HQ.out] at C1
  obtain ⟨⟨x1, x2⟩, xa, xn, xc⟩ := x
  obtain ⟨⟨y1, y2⟩, ya, yn, yc⟩ := y
  simp only [encLn] at C1 ⊢
  clear HQ
  go_enter Tryz.func67, Tryz.ntmps67
  go_wp2_with fail
  have G1 : Grew w (((w.alloc (.cells #[.string x1, .string x2, .slice xa xn xc] 82)).alloc (.cells #[.string y1, .string y2, .slice ya yn yc] 82)).alloc (.cells #[.string x1, .string y1, .string x2, .string y2] 9)) := (((Grew.refl w).alloc _).alloc _).alloc _
  have H3 := row_new2 w (.cells #[.string x1, .string x2, .slice xa xn xc] 82) (.cells #[.string y1, .string y2, .slice ya yn yc] 82) (.cells #[.string x1, .string y1, .string x2, .string y2] 9)
  generalize hw1 : ((w.alloc (.cells #[.string x1, .string x2, .slice xa xn xc] 82)).alloc (.cells #[.string y1, .string y2, .slice ya yn yc] 82)).alloc (.cells #[.string x1, .string y1, .string x2, .string y2] 9) = w1
  rw [hw1] at G1 H3
  clear hw1
  have H3 := Lib.hid H3
  have kz := lt_of_block H3.out
  have k0 := cell_of_row w1 _ 0 _ _ _ H3.out
  have k1 := cell_of_row w1 _ 1 _ _ _ H3.out
  have k2 := cell_of_row w1 _ 2 _ _ _ H3.out
  have k3 := cell_of_row w1 _ 3 _ _ _ H3.out
  simp only [List.getElem?_toArray, List.getElem?_cons_zero, List.getElem?_cons_succ] at k0 k1 k2 k3
  refine (C1.out _ _ _ k0 k1 k2 k3).mono ?_
  rintro e w2 ⟨rfl, G2⟩
  have G3 := G1.trans G2
  clear G1 G2 C1
  go_wp2
  go_ret
  exact ⟨rfl, G3⟩

/-- slices.Contains at texts. -/
theorem contains_any (v : Value) (ids : List ByteArray) (x : ByteArray) (w : World) (h : StrRow w v ids) :
    Calls Tryz.prog 36 #[v, .string x] w fun e w' => e = .returned (.bool (decide (x ∈ ids))) ∧ w' = w := by
  obtain ⟨a, cap, rfl, hn, hz, hc⟩ := h
  rcases Nat.eq_zero_or_pos ids.length with h0 | h0
  · have := Tryz.slices_Contains_string_empty a cap x w
    rw [h0]
    refine this.mono ?_
    rintro e w' ⟨rfl, rfl⟩
    have : ids = [] := List.length_eq_zero_iff.1 h0
    subst this
    exact ⟨by simp, rfl⟩
  · obtain ⟨b, off, rfl, hcell⟩ := hc h0
    have := Tryz.slices_Contains_string b off ids.length cap ids x w (Nat.le_refl _) (by omega) (fun j hj => by
      have := hcell j (ids[j]) (List.getElem?_eq_getElem hj)
      rw [this]
      simp [List.getD, List.getElem?_eq_getElem hj])
    refine this.mono ?_
    rintro e w' ⟨rfl, rfl⟩
    refine ⟨?_, rfl⟩
    rw [List.take_of_length_le (Nat.le_refl _)]
    congr 2
    rw [Bool.eq_iff_iff, decide_eq_true_eq]
    exact Lib.containsS_iff _ _
end Go.Proofs.YtbkomdinchiffaaGreat
