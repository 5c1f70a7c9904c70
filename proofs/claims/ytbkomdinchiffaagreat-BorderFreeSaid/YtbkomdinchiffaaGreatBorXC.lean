/- border.Check: its small functions. -/
import Derived.Test.YtbkomdinchiffaaGreatBorW
import Derived.Great.Walk
namespace Go.Proofs.YtbkomdinchiffaaGreat
open Go.RowKit Go.Sort Go.Maps

/-- slices.Compare at texts. -/
def cmpL : List ByteArray → List ByteArray → Int
  | [], [] => 0
  | [], _ :: _ => -1
  | _ :: _, [] => 1
  | a :: p, b :: q => if cmpS a b = 0 then cmpL p q else cmpS a b
theorem cmpL_drop {s t : List ByteArray} {i : Nat} {a b : ByteArray} (ha : s[i]? = some a) (hb : t[i]? = some b) : cmpL (s.drop i) (t.drop i) = if cmpS a b = 0 then cmpL (s.drop (i + 1)) (t.drop (i + 1)) else cmpS a b := by
  obtain ⟨h1, e1⟩ := List.getElem?_eq_some_iff.1 ha
  obtain ⟨h2, e2⟩ := List.getElem?_eq_some_iff.1 hb
  rw [List.drop_eq_getElem_cons h1, List.drop_eq_getElem_cons h2, e1, e2, cmpL]
theorem cmpL_nil {t : List ByteArray} : cmpL [] t = if t.length = 0 then 0 else -1 := by cases t <;> simp [cmpL]
theorem cmpL_over {s : List ByteArray} (h : 0 < s.length) : cmpL s [] = 1 := by 
  cases s with
  | nil => simp at h
  | cons a s => rfl

set_option maxRecDepth 100000 in
set_option maxHeartbeats 2000000 in
theorem compareL_any (v1 v2 : Value) (s t : List ByteArray) (w : World) (h1 : StrRow w v1 s) (h2 : StrRow w v2 t) :
    Calls Tryz.prog 41 #[v1, v2] w fun e w' => e = .returned (.int .i64 (cmpL s t)) ∧ w' = w := by
  obtain ⟨a1, c1, rfl, n1, z1, hc1⟩ := h1
  obtain ⟨a2, c2, rfl, n2, z2, hc2⟩ := h2
  have HC1 := Lib.hid hc1
  have HC2 := Lib.hid hc2
  obtain ⟨N1, hN1⟩ : ∃ N, s.length = N := ⟨_, rfl⟩
  obtain ⟨N2, hN2⟩ : ∃ N, t.length = N := ⟨_, rfl⟩
  rw [hN1] at n1 ⊢
  rw [hN2] at n2 ⊢
  have H1 := Lib.hid hN1
  have H2 := Lib.hid hN2
  obtain ⟨res, hres⟩ : ∃ r, r = cmpL s t := ⟨_, rfl⟩
  have HR := Lib.hid hres
  rw [← hres]
  clear hc1 hc2 z1 z2 hN1 hN2 hres
  go_enter Tryz.func41, Tryz.ntmps41
  go_wp2_with fail
  go_loopw [11] (fun i wr => ∃ k : Nat, i = .int .i64 k ∧ k ≤ N1 ∧ k ≤ N2 ∧ cmpL (s.drop k) (t.drop k) = res ∧ wr = w) (fun i _ => N1 - (intOf i).toNat)
  case atStart => exact ⟨0, rfl, by omega, by omega, by rw [HR.out]; rfl, rfl⟩
  case round =>
    obtain ⟨k, rfl, hk1, hk2, hres, rfl⟩ := hrel
    have HE := Lib.hid hres
    clear hres
    by_cases l1 : k < N1
    · obtain ⟨x, hx⟩ : ∃ x, s[k]? = some x := ⟨s[k]'(by rw [H1.out]; exact l1), List.getElem?_eq_getElem _⟩
      obtain ⟨b1, o1, ha1, hcell1⟩ := HC1.out (by rw [H1.out]; omega)
      subst ha1
      have d1 := hcell1 k x hx
      have bz1 := lt_of_cell d1
      have HX := Lib.hid hx
      clear hcell1 hx
      by_cases l2 : k < N2
      · obtain ⟨y, hy⟩ : ∃ y, t[k]? = some y := ⟨t[k]'(by rw [H2.out]; exact l2), List.getElem?_eq_getElem _⟩
        obtain ⟨b2, o2, ha2, hcell2⟩ := HC2.out (by rw [H2.out]; omega)
        subst ha2
        have d2 := hcell2 k y hy
        have bz2 := lt_of_cell d2
        have HD := Lib.hid (cmpL_drop HX.out hy)
        have CC := Lib.hid (cmpS_any x y)
        obtain ⟨c, hc⟩ : ∃ c, c = cmpS x y := ⟨_, rfl⟩
        rw [← hc] at HD CC
        clear hcell2 hy hc
        go_wp2_with fail
        refine (CC.out _).mono ?_
        rintro e w2 ⟨rfl, rfl⟩
        obtain ⟨z, hz⟩ : ∃ z, (c != 0) = z := ⟨_, rfl⟩
        cases z with
        | true =>
          have hc0 : c ≠ 0 := by rw [bne_iff_ne] at hz; exact hz
          have HV := Lib.hid (show c = res by rw [← HE.out, HD.out, if_neg hc0])
          clear hc0
          go_wp2
          go_ret
          exact ⟨by rw [HV.out] <;> rfl, by first | rfl | trivial⟩
        | false =>
          have hc0 : c = 0 := by simpa using hz
          have HV := Lib.hid (show cmpL (s.drop (k + 1)) (t.drop (k + 1)) = res by rw [← HE.out, HD.out, if_pos hc0])
          clear hc0
          go_wp2
          go_roundw
          case rel => exact ⟨k + 1, by go_num, by omega, by omega, HV.out, by first | rfl | trivial⟩
          case measure => simp [intOf]; omega
      · obtain rfl : k = N2 := by omega
        have HV := Lib.hid (show res = 1 by
          rw [← HE.out, List.drop_of_length_le (l := t) (by rw [H2.out]; exact Nat.le_refl _)]
          exact cmpL_over (by rw [List.length_drop, H1.out]; omega))
        go_wp2
        go_ret
        exact ⟨by rw [HV.out] <;> rfl, by first | rfl | trivial⟩
    · obtain rfl : k = N1 := by omega
      have HV := Lib.hid (show res = if N2 ≤ k then 0 else -1 by
        rw [← HE.out, List.drop_of_length_le (l := s) (by rw [H1.out]; exact Nat.le_refl _), cmpL_nil, List.length_drop, H2.out]
        by_cases h : N2 ≤ k
        · rw [if_pos h, if_pos (by omega)]
        · rw [if_neg h, if_neg (by omega)])
      by_cases l2 : k < N2
      · have HV2 := Lib.hid (show res = -1 by rw [HV.out, if_neg (by omega)])
        go_wp2
        go_ret
        exact ⟨by rw [HV2.out] <;> rfl, by first | rfl | trivial⟩
      · have HV2 := Lib.hid (show res = 0 by rw [HV.out, if_pos (by omega)])
        go_wp2
        go_ret
        exact ⟨by rw [HV2.out] <;> rfl, by first | rfl | trivial⟩

/-- The pairs that are noted. -/
abbrev evB (b : Bool) : Value := .bool b
def NotesAt (w : World) (b : Nat) (N : List KeyD) : Prop := MapAt Tryz.prog 50 keyV evB w b (N.map fun k => (k, true))
def noteK (k : KeyD) (N : List KeyD) : List KeyD := if k ∈ N then N else N ++ [k]
theorem aput_note (k : KeyD) : ∀ N : List KeyD, aput k true (N.map fun k => (k, true)) = (noteK k N).map fun k => (k, true)
  | [] => rfl
  | x :: N => by
    have ih := aput_note k N
    rw [List.map_cons, aput]
    by_cases e : x = k
    · subst e
      simp [noteK]
    · have e' : ¬ k = x := fun c => e c.symm
      simp only [e, if_false]
      rw [ih]
      unfold noteK
      by_cases hm : k ∈ N
      · simp [hm]
      · simp [hm, e']
theorem note_mem {k x : KeyD} {N : List KeyD} : x ∈ noteK k N ↔ x = k ∨ x ∈ N := by
  unfold noteK
  split
  · rename_i h
    constructor
    · exact Or.inr
    · rintro (rfl | h'); exact h; exact h'
  · simp [or_comm]
theorem NotesAt.on {w w' : World} {b : Nat} {N : List KeyD} (h : NotesAt w b N) (hb : Below w.heap.size w w') : NotesAt w' b N := MapAt.on h hb

set_option maxRecDepth 100000 in
set_option maxHeartbeats 1000000 in
theorem note_any (a b : ByteArray) (Bc Bb : Nat) (N : List KeyD) (w : World) (ha : a.size ≤ 140737488355328) (hb : b.size ≤ 140737488355328) (hc : w.heap[Bc]? = some (.cells #[.map (some Bb)] 47)) (hn : NotesAt w Bb N) (hl : N.length < maxLen) :
    Calls Tryz.prog 34 #[.string a, .string b, .pointer (some ⟨Bc, 0, none⟩)] w fun e w' => e = .returned (.tuple #[]) ∧ NotesAt w' Bb (noteK (key2 a b) N) ∧ w.grownBy w' (some Bb) := by
  have hmin := run_minB Tryz.prog
  have hmax' := run_maxB Tryz.prog
  have hc' := Lib.hid hc
  clear hc
  have pz := lt_of_block hc'.out
  have p0 := cell_of_row w _ 0 _ _ _ hc'.out
  simp only [List.getElem?_toArray, List.getElem?_cons_zero] at p0
  obtain ⟨w9, hr9, hf9, hg9⟩ := MapAt.put hn keyK keyV_inj Tryz.underlying47 (by rw [List.length_map]; exact hl) (key2 a b) (keyV_ok (k := key2 a b) (by unfold key2 minB; simp only; split; exact hb; exact ha) (by unfold key2 maxB; simp only; split; exact hb; exact ha)) true
  have HF := Lib.hid (show NotesAt w9 Bb (noteK (key2 a b) N) by unfold NotesAt; rw [← aput_note]; exact hf9)
  have HG := Lib.hid hg9
  simp only [keyV, key2, evB] at hr9
  clear hn hl hf9 hg9 ha hb
  go_enter Tryz.func34, Tryz.ntmps34
  go_wp2
  refine Go.Great.bodyPost_end0 rfl rfl ?_
  exact ⟨rfl, HF.out, HG.out⟩

/-- slices.Compact at the two texts of a pair. -/
theorem compact_pair (x y : List UInt8) : Lib.compact [x, y] = if x = y then [x] else [x, y] := by
  unfold Lib.compact Lib.compactUpTo
  by_cases h : x = y
  · subst h
    have e : (List.range 2).filter (Lib.keeps #[x, x]) = [0] := by simp [List.range, List.range.loop, Lib.keeps]
    simp only [List.length_cons, List.length_nil, Nat.zero_add, Nat.reduceAdd]
    rw [e]; simp
  · have e : (List.range 2).filter (Lib.keeps #[x, y]) = [0, 1] := by simp [List.range, List.range.loop, Lib.keeps]; exact fun c => h c.symm
    simp only [List.length_cons, List.length_nil, Nat.zero_add, Nat.reduceAdd]
    rw [e, if_neg h]; simp

theorem compact_any (k : KeyD) (B : Nat) (w : World) (h1 : k.1.size ≤ 140737488355328) (h2 : k.2.size ≤ 140737488355328) (h : w.heap[B]? = some (.cells #[.string k.1, .string k.2] 50 (0, 0))) :
    Calls Tryz.prog 38 #[.slice (some ⟨B, 0, none⟩) 2 2] w fun e w' => ∃ n : Nat, e = .returned (.slice (some ⟨B, 0, none⟩) n 2) ∧ StrRow w' (.slice (some ⟨B, 0, none⟩) n 2) (idsK k) ∧ w.grownBy w' (some B) := by
  obtain ⟨x, y⟩ := k
  simp only [] at h h1 h2
  have hS : Lib.strsOf (fun i => if i = 0 then x else y) 2 = [x.data.toList, y.data.toList] := rfl
  refine (Tryz.slices_Compact_string_cells B 0 2 2 (fun i => if i = 0 then x else y) w (by omega) (by omega) (fun i hi => ?_) (fun j _ => frozen_of_row w _ _ _ _ h)).mono ?_
  · have hh := cell_of_row w _ (0 + i) _ _ _ h
    rw [hh]
    rcases (show i = 0 ∨ i = 1 by omega) with rfl | rfl <;> rfl
  · rintro e w' ⟨rfl, q, rfl⟩
    rw [hS, compact_pair]
    have hd : (w.drewN q).heap[B]? = some (.cells #[.string x, .string y] 50 (0, 0)) := h
    have hg : w.grownBy (w.drewN q) (some B) := grown_of_below ((Below.refl _ _).drewN') _
    have hxy : x.data.toList = y.data.toList ↔ x = y := ⟨fun e => by cases x; cases y; simp at e; rw [e], fun e => by rw [e]⟩
    by_cases e : x = y
    · subst e
      rw [if_pos rfl]
      refine ⟨1, rfl, ?_, hg.trans (setCells_grown _ _ _)⟩
      have hb := setCells_block (([x.data.toList] ++ List.replicate (2 - [x.data.toList].length) []).map encStr) 0 _ _ hd
      refine ⟨some ⟨B, 0, none⟩, 2, by simp [idsK], by simp [idsK], by simp [idsK]; exact h1, fun _ => ⟨B, 0, rfl, fun i s hs => ?_⟩⟩
      simp only [idsK, if_true] at hs
      have hi : i = 0 := by have := (List.getElem?_eq_some_iff.1 hs).1; simp at this; exact this
      subst hi
      simp at hs
      subst hs
      rw [cell_of_row _ _ (0 + 0) _ _ _ hb]
      rfl
    · rw [if_neg (fun c => e (hxy.1 c))]
      refine ⟨2, rfl, ?_, hg.trans (setCells_grown _ _ _)⟩
      have hb := setCells_block (([x.data.toList, y.data.toList] ++ List.replicate (2 - [x.data.toList, y.data.toList].length) []).map encStr) 0 _ _ hd
      refine ⟨some ⟨B, 0, none⟩, 2, by simp [idsK, e], by simp [idsK, e], by simp [idsK, e]; exact ⟨h1, h2⟩, fun _ => ⟨B, 0, rfl, fun i s hs => ?_⟩⟩
      simp only [idsK, e, if_false] at hs
      have hi : i = 0 ∨ i = 1 := by have := (List.getElem?_eq_some_iff.1 hs).1; simp at this; omega
      rw [cell_of_row _ _ (0 + i) _ _ _ hb]
      rcases hi with rfl | rfl
      · simp at hs; subst hs; rfl
      · simp at hs; subst hs; rfl

/-- Violations in memory. -/
def encVi (x : LineM) : List Value := [.string ⟨#[]⟩, .int .i64 2, .slice x.2.1 x.2.2.1 x.2.2.2]
theorem encVi_len (x : LineM) : (encVi x).length = 3 := rfl
theorem encVi_one (x : LineM) : ∀ v ∈ encVi x, v.oneCell' = true := by
  intro v hv
  simp only [encVi, List.mem_cons, List.not_mem_nil, or_false] at hv
  rcases hv with rfl | rfl | rfl <;> rfl
/-- A pair in order. -/
def OrdK (k : KeyD) : Prop := ltB k.2 k.1 = false
theorem cmpS_one {a b : ByteArray} (h : ltB a b = true) : cmpS a b = -1 ∧ cmpS b a = 1 := by
  unfold cmpS
  have : ltB b a = false := by
    cases h2 : ltB b a with
    | false => rfl
    | true => have := ltB_trans h h2; rw [ltB_irrefl] at this; cases this
  rw [h, this]; exact ⟨rfl, rfl⟩
theorem ids_cmp {a b : KeyD} (ha : OrdK a) (hb : OrdK b) : cmpL (idsK a) (idsK b) = cmpK a b := by
  obtain ⟨p, s⟩ := a
  obtain ⟨q, r⟩ := b
  unfold OrdK at ha hb
  simp only [] at ha hb
  have z : ∀ x, cmpS x x = 0 := fun x => cmpS_zero.2 rfl
  unfold idsK cmpK
  by_cases e1 : p = s
  · subst e1
    by_cases e2 : q = r
    · subst e2
      simp only [if_true]
      simp only [cmpL]
      by_cases h : cmpS p q = 0 <;> simp [h]
    · simp only [if_true, e2, if_false]
      simp only [cmpL]
      by_cases h : cmpS p q = 0
      · have := cmpS_zero.1 h
        subst this
        have : ltB p r = true := by
          cases h2 : ltB p r with
          | true => rfl
          | false => exact absurd (ltB_total h2 hb) e2
        simp [h, (cmpS_one this).1]
      · simp [h]
  · by_cases e2 : q = r
    · subst e2
      simp only [if_true, e1, if_false]
      simp only [cmpL]
      by_cases h : cmpS p q = 0
      · have := cmpS_zero.1 h
        subst this
        have : ltB p s = true := by
          cases h2 : ltB p s with
          | true => rfl
          | false => exact absurd (ltB_total h2 ha) e1
        simp [h, (cmpS_one this).2]
      · simp [h]
    · simp only [e1, e2, if_false]
      simp only [cmpL]
      by_cases h : cmpS p q = 0
      · by_cases h2 : cmpS s r = 0 <;> simp [h, h2]
      · simp [h]

set_option maxHeartbeats 1000000 in
theorem vic_any (x y : LineM) (w : World) (hx : StrRow w (.slice x.2.1 x.2.2.1 x.2.2.2) (idsK x.1)) (hy : StrRow w (.slice y.2.1 y.2.2.1 y.2.2.2) (idsK y.1)) (ox : OrdK x.1) (oy : OrdK y.1) :
    Calls Tryz.prog 40 #[.agg (encVi x).toArray, .agg (encVi y).toArray] w fun e w' => e = .returned (.int .i64 (cfLn x y)) ∧ Grew w w' := by
  have C1 := Lib.hid (fun W hb => compareL_any _ _ _ _ W (hx.later (w' := W) hb) (hy.later hb))
  rw [show cfLn x y = cmpL (idsK x.1) (idsK y.1) from (ids_cmp ox oy).symm]
  generalize cmpL (idsK x.1) (idsK y.1) = r at C1 ⊢
  clear ox oy hx hy
  obtain ⟨⟨x1, x2⟩, xa, xn, xc⟩ := x
  obtain ⟨⟨y1, y2⟩, ya, yn, yc⟩ := y
  simp only [encVi] at C1 ⊢
  go_enter Tryz.func40, Tryz.ntmps40
  go_wp2_with fail
  have G1 : Grew w ((w.alloc (.cells #[.string ⟨#[]⟩, .int .i64 2, .slice xa xn xc] 43)).alloc (.cells #[.string ⟨#[]⟩, .int .i64 2, .slice ya yn yc] 43)) := ((Grew.refl w).alloc _).alloc _
  refine (C1.out _ G1.below).mono ?_
  rintro e w2 ⟨rfl, rfl⟩
  go_wp2
  go_ret
  exact ⟨rfl, G1⟩
end Go.Proofs.YtbkomdinchiffaaGreat
