/- border.Check: its small functions. border.Check: what is noted. No program in sight. Equality of pairs of texts. border.Check: the rows of violations, and their order. -/
import Derived.Test.YtbkomdinchiffaaGreatBorW
import Derived.Great.Walk
namespace Go.Proofs.YtbkomdinchiffaaGreat
open Go.RowKit Go.Sort Go.Maps

/-- slices.Compare at texts. -/
def cmpL : List ByteArray → List ByteArray → Int
  | [], [] => 0
  | [], _ :: _ => -1
  | _ :: _, [] => 1
  | a :: p, b :: q => if cmpS a b = 0 then cmpL p q else cmpS a b
theorem cmpL_drop {s t : List ByteArray} {i : Nat} {a b : ByteArray} (ha : s[i]? = some a) (hb : t[i]? = some b) : cmpL (s.drop i) (t.drop i) = if cmpS a b = 0 then cmpL (s.drop (i + 1)) (t.drop (i + 1)) else cmpS a b := by
  obtain ⟨h1, e1⟩ := List.getElem?_eq_some_iff.1 ha
  obtain ⟨h2, e2⟩ := List.getElem?_eq_some_iff.1 hb
  rw [List.drop_eq_getElem_cons h1, List.drop_eq_getElem_cons h2, e1, e2, cmpL]
theorem cmpL_nil {t : List ByteArray} : cmpL [] t = if t.length = 0 then 0 else -1 := by cases t <;> simp [cmpL]
theorem cmpL_over {s : List ByteArray} (h : 0 < s.length) : cmpL s [] = 1 := by 
  cases s with
  | nil => simp at h
  | cons a s => rfl

set_option maxRecDepth 100000 in
set_option maxHeartbeats 2000000 in
theorem compareL_any (v1 v2 : Value) (s t : List ByteArray) (w : World) (h1 : StrRow w v1 s) (h2 : StrRow w v2 t) :
    Calls Tryz.prog 41 #[v1, v2] w fun e w' => e = .returned (.int .i64 (cmpL s t)) ∧ w' = w := by
  obtain ⟨a1, c1, rfl, n1, z1, hc1⟩ := h1
  obtain ⟨a2, c2, rfl, n2, z2, hc2⟩ := h2
  have HC1 := Lib.hid hc1
  have HC2 := Lib.hid hc2
  obtain ⟨N1, hN1⟩ : ∃ N, s.length = N := ⟨_, rfl⟩
  obtain ⟨N2, hN2⟩ : ∃ N, t.length = N := ⟨_, rfl⟩
  rw [hN1] at n1 ⊢
  rw [hN2] at n2 ⊢
  have H1 := Lib.hid hN1
  have H2 := Lib.hid hN2
  obtain ⟨res, hres⟩ : ∃ r, r = cmpL s t := ⟨_, rfl⟩
  have HR := Lib.hid hres
  rw [← hres]
  clear hc1 hc2 z1 z2 hN1 hN2 hres
  go_enter Tryz.func41, Tryz.ntmps41
  go_wp2_with fail
  go_loopw [11] (fun i wr => ∃ k : Nat, i = .int .i64 k ∧ k ≤ N1 ∧ k ≤ N2 ∧ cmpL (s.drop k) (t.drop k) = res ∧ wr = w) (fun i _ => N1 - (intOf i).toNat)
  case atStart => exact ⟨0, rfl, by omega, by omega, by rw [HR.out]; rfl, rfl⟩
  case round =>
    obtain ⟨k, rfl, hk1, hk2, hres, rfl⟩ := hrel
    have HE := Lib.hid hres
    clear hres
    by_cases l1 : k < N1
    · obtain ⟨x, hx⟩ : ∃ x, s[k]? = some x := ⟨s[k]'(by rw [H1.out]; exact l1), List.getElem?_eq_getElem _⟩
      obtain ⟨b1, o1, ha1, hcell1⟩ := HC1.out (by rw [H1.out]; omega)
      subst ha1
      have d1 := hcell1 k x hx
      have bz1 := lt_of_cell d1
      have HX := Lib.hid hx
      clear hcell1 hx
      by_cases l2 : k < N2
      · obtain ⟨y, hy⟩ : ∃ y, t[k]? = some y := ⟨t[k]'(by rw [H2.out]; exact l2), List.getElem?_eq_getElem _⟩
        obtain ⟨b2, o2, ha2, hcell2⟩ := HC2.out (by rw [H2.out]; omega)
        subst ha2
        have d2 := hcell2 k y hy
        have bz2 := lt_of_cell d2
        have HD := Lib.hid (cmpL_drop HX.out hy)
        have CC := Lib.hid (cmpS_any x y)
        obtain ⟨c, hc⟩ : ∃ c, c = cmpS x y := ⟨_, rfl⟩
        rw [← hc] at HD CC
        clear hcell2 hy hc
        go_wp2_with fail
        refine (CC.out _).mono ?_
        rintro e w2 ⟨rfl, rfl⟩
        obtain ⟨z, hz⟩ : ∃ z, (c != 0) = z := ⟨_, rfl⟩
        cases z with
        | true =>
          have hc0 : c ≠ 0 := by rw [bne_iff_ne] at hz; exact hz
          have HV := Lib.hid (show c = res by rw [← HE.out, HD.out, if_neg hc0])
          clear hc0
          go_wp2
          go_ret
          exact ⟨by rw [HV.out] <;> rfl, by first | rfl | trivial⟩
        | false =>
          have hc0 : c = 0 := by simpa using hz
          have HV := Lib.hid (show cmpL (s.drop (k + 1)) (t.drop (k + 1)) = res by rw [← HE.out, HD.out, if_pos hc0])
          clear hc0
          go_wp2
          go_roundw
          case rel => exact ⟨k + 1, by go_num, by omega, by omega, HV.out, by first | rfl | trivial⟩
          case measure => simp [intOf]; omega
      · obtain rfl : k = N2 := by omega
        have HV := Lib.hid (show res = 1 by
          rw [← HE.out, List.drop_of_length_le (l := t) (by rw [H2.out]; exact Nat.le_refl _)]
          exact cmpL_over (by rw [List.length_drop, H1.out]; omega))
        go_wp2
        go_ret
        exact ⟨by rw [HV.out] <;> rfl, by first | rfl | trivial⟩
    · obtain rfl : k = N1 := by omega
      have HV := Lib.hid (show res = if N2 ≤ k then 0 else -1 by
        rw [← HE.out, List.drop_of_length_le (l := s) (by rw [H1.out]; exact Nat.le_refl _), cmpL_nil, List.length_drop, H2.out]
        by_cases h : N2 ≤ k
        · rw [if_pos h, if_pos (by omega)]
        · rw [if_neg h, if_neg (by omega)])
      by_cases l2 : k < N2
      · have HV2 := Lib.hid (show res = -1 by rw [HV.out, if_neg (by omega)])
        go_wp2
        go_ret
        exact ⟨by rw [HV2.out] <;> rfl, by first | rfl | trivial⟩
      · have HV2 := Lib.hid (show res = 0 by rw [HV.out, if_pos (by omega)])
        go_wp2
        go_ret
        exact ⟨by rw [HV2.out] <;> rfl, by first | rfl | trivial⟩

/-- The pairs that are noted. -/
abbrev evB (b : Bool) : Value := .bool b
def NotesAt (w : World) (b : Nat) (N : List KeyD) : Prop := MapAt Tryz.prog 50 keyV evB w b (N.map fun k => (k, true))
def noteK (k : KeyD) (N : List KeyD) : List KeyD := if k ∈ N then N else N ++ [k]
theorem aput_note (k : KeyD) : ∀ N : List KeyD, aput k true (N.map fun k => (k, true)) = (noteK k N).map fun k => (k, true)
  | [] => rfl
  | x :: N => by
    have ih := aput_note k N
    rw [List.map_cons, aput]
    by_cases e : x = k
    · subst e
      simp [noteK]
    · have e' : ¬ k = x := fun c => e c.symm
      simp only [e, if_false]
      rw [ih]
      unfold noteK
      by_cases hm : k ∈ N
      · simp [hm]
      · simp [hm, e']
theorem note_mem {k x : KeyD} {N : List KeyD} : x ∈ noteK k N ↔ x = k ∨ x ∈ N := by
  unfold noteK
  split
  · rename_i h
    constructor
    · exact Or.inr
    · rintro (rfl | h'); exact h; exact h'
  · simp [or_comm]
theorem NotesAt.on {w w' : World} {b : Nat} {N : List KeyD} (h : NotesAt w b N) (hb : Below w.heap.size w w') : NotesAt w' b N := MapAt.on h hb

set_option maxRecDepth 100000 in
set_option maxHeartbeats 1000000 in
theorem note_any (a b : ByteArray) (Bc Bb : Nat) (N : List KeyD) (w : World) (ha : a.size ≤ 140737488355328) (hb : b.size ≤ 140737488355328) (hc : w.heap[Bc]? = some (.cells #[.map (some Bb)] 47)) (hn : NotesAt w Bb N) (hl : N.length < maxLen) :
    Calls Tryz.prog 34 #[.string a, .string b, .pointer (some ⟨Bc, 0, none⟩)] w fun e w' => e = .returned (.tuple #[]) ∧ NotesAt w' Bb (noteK (key2 a b) N) ∧ w.grownBy w' (some Bb) := by
  have hmin := run_minB Tryz.prog
  have hmax' := run_maxB Tryz.prog
  have hc' := Lib.hid hc
  clear hc
  have pz := lt_of_block hc'.out
  have p0 := cell_of_row w _ 0 _ _ _ hc'.out
  simp only [List.getElem?_toArray, List.getElem?_cons_zero] at p0
  obtain ⟨w9, hr9, hf9, hg9⟩ := MapAt.put hn keyK keyV_inj Tryz.underlying47 (by rw [List.length_map]; exact hl) (key2 a b) (keyV_ok (k := key2 a b) (by unfold key2 minB; simp only; split; exact hb; exact ha) (by unfold key2 maxB; simp only; split; exact hb; exact ha)) true
  have HF := Lib.hid (show NotesAt w9 Bb (noteK (key2 a b) N) by unfold NotesAt; rw [← aput_note]; exact hf9)
  have HG := Lib.hid hg9
  simp only [keyV, key2, evB] at hr9
  clear hn hl hf9 hg9 ha hb
  go_enter Tryz.func34, Tryz.ntmps34
  go_wp2
  refine Go.Great.bodyPost_end0 rfl rfl ?_
  exact ⟨rfl, HF.out, HG.out⟩

/-- slices.Compact at the two texts of a pair. -/
theorem compact_pair (x y : List UInt8) : Lib.compact [x, y] = if x = y then [x] else [x, y] := by
  unfold Lib.compact Lib.compactUpTo
  by_cases h : x = y
  · subst h
    have e : (List.range 2).filter (Lib.keeps #[x, x]) = [0] := by simp [List.range, List.range.loop, Lib.keeps]
    simp only [List.length_cons, List.length_nil, Nat.zero_add, Nat.reduceAdd]
    rw [e]; simp
  · have e : (List.range 2).filter (Lib.keeps #[x, y]) = [0, 1] := by simp [List.range, List.range.loop, Lib.keeps]; exact fun c => h c.symm
    simp only [List.length_cons, List.length_nil, Nat.zero_add, Nat.reduceAdd]
    rw [e, if_neg h]; simp

theorem compact_any (k : KeyD) (B : Nat) (w : World) (h1 : k.1.size ≤ 140737488355328) (h2 : k.2.size ≤ 140737488355328) (h : w.heap[B]? = some (.cells #[.string k.1, .string k.2] 50 (0, 0))) :
    Calls Tryz.prog 38 #[.slice (some ⟨B, 0, none⟩) 2 2] w fun e w' => ∃ n : Nat, e = .returned (.slice (some ⟨B, 0, none⟩) n 2) ∧ StrRow w' (.slice (some ⟨B, 0, none⟩) n 2) (idsK k) ∧ w.grownBy w' (some B) := by
  obtain ⟨x, y⟩ := k
  simp only [] at h h1 h2
  have hS : Lib.strsOf (fun i => if i = 0 then x else y) 2 = [x.data.toList, y.data.toList] := rfl
  refine (Tryz.slices_Compact_string_cells B 0 2 2 (fun i => if i = 0 then x else y) w (by omega) (by omega) (fun i hi => ?_) (fun j _ => frozen_of_row w _ _ _ _ h)).mono ?_
  · have hh := cell_of_row w _ (0 + i) _ _ _ h
    rw [hh]
    rcases (show i = 0 ∨ i = 1 by omega) with rfl | rfl <;> rfl
  · rintro e w' ⟨rfl, q, rfl⟩
    rw [hS, compact_pair]
    have hd : (w.drewN q).heap[B]? = some (.cells #[.string x, .string y] 50 (0, 0)) := h
    have hg : w.grownBy (w.drewN q) (some B) := grown_of_below ((Below.refl _ _).drewN') _
    have hxy : x.data.toList = y.data.toList ↔ x = y := ⟨fun e => by cases x; cases y; simp at e; rw [e], fun e => by rw [e]⟩
    by_cases e : x = y
    · subst e
      rw [if_pos rfl]
      refine ⟨1, rfl, ?_, hg.trans (setCells_grown _ _ _)⟩
      have hb := setCells_block (([x.data.toList] ++ List.replicate (2 - [x.data.toList].length) []).map encStr) 0 _ _ hd
      refine ⟨some ⟨B, 0, none⟩, 2, by simp [idsK], by simp [idsK], by simp [idsK]; exact h1, fun _ => ⟨B, 0, rfl, fun i s hs => ?_⟩⟩
      simp only [idsK, if_true] at hs
      have hi : i = 0 := by have := (List.getElem?_eq_some_iff.1 hs).1; simp at this; exact this
      subst hi
      simp at hs
      subst hs
      rw [cell_of_row _ _ (0 + 0) _ _ _ hb]
      rfl
    · rw [if_neg (fun c => e (hxy.1 c))]
      refine ⟨2, rfl, ?_, hg.trans (setCells_grown _ _ _)⟩
      have hb := setCells_block (([x.data.toList, y.data.toList] ++ List.replicate (2 - [x.data.toList, y.data.toList].length) []).map encStr) 0 _ _ hd
      refine ⟨some ⟨B, 0, none⟩, 2, by simp [idsK, e], by simp [idsK, e], by simp [idsK, e]; exact ⟨h1, h2⟩, fun _ => ⟨B, 0, rfl, fun i s hs => ?_⟩⟩
      simp only [idsK, e, if_false] at hs
      have hi : i = 0 ∨ i = 1 := by have := (List.getElem?_eq_some_iff.1 hs).1; simp at this; omega
      rw [cell_of_row _ _ (0 + i) _ _ _ hb]
      rcases hi with rfl | rfl
      · simp at hs; subst hs; rfl
      · simp at hs; subst hs; rfl

/-- Violations in memory. -/
def encVi (x : LineM) : List Value := [.string ⟨#[]⟩, .int .i64 2, .slice x.2.1 x.2.2.1 x.2.2.2]
theorem encVi_len (x : LineM) : (encVi x).length = 3 := rfl
theorem encVi_one (x : LineM) : ∀ v ∈ encVi x, v.oneCell' = true := by
  intro v hv
  simp only [encVi, List.mem_cons, List.not_mem_nil, or_false] at hv
  rcases hv with rfl | rfl | rfl <;> rfl
/-- A pair in order. -/
def OrdK (k : KeyD) : Prop := ltB k.2 k.1 = false
theorem cmpS_one {a b : ByteArray} (h : ltB a b = true) : cmpS a b = -1 ∧ cmpS b a = 1 := by
  unfold cmpS
  have : ltB b a = false := by
    cases h2 : ltB b a with
    | false => rfl
    | true => have := ltB_trans h h2; rw [ltB_irrefl] at this; cases this
  rw [h, this]; exact ⟨rfl, rfl⟩
theorem ids_cmp {a b : KeyD} (ha : OrdK a) (hb : OrdK b) : cmpL (idsK a) (idsK b) = cmpK a b := by
  obtain ⟨p, s⟩ := a
  obtain ⟨q, r⟩ := b
  unfold OrdK at ha hb
  simp only [] at ha hb
  have z : ∀ x, cmpS x x = 0 := fun x => cmpS_zero.2 rfl
  unfold idsK cmpK
  by_cases e1 : p = s
  · subst e1
    by_cases e2 : q = r
    · subst e2
      simp only [if_true]
      simp only [cmpL]
      by_cases h : cmpS p q = 0 <;> simp [h]
    · simp only [if_true, e2, if_false]
      simp only [cmpL]
      by_cases h : cmpS p q = 0
      · have := cmpS_zero.1 h
        subst this
        have : ltB p r = true := by
          cases h2 : ltB p r with
          | true => rfl
          | false => exact absurd (ltB_total h2 hb) e2
        simp [h, (cmpS_one this).1]
      · simp [h]
  · by_cases e2 : q = r
    · subst e2
      simp only [if_true, e1, if_false]
      simp only [cmpL]
      by_cases h : cmpS p q = 0
      · have := cmpS_zero.1 h
        subst this
        have : ltB p s = true := by
          cases h2 : ltB p s with
          | true => rfl
          | false => exact absurd (ltB_total h2 ha) e1
        simp [h, (cmpS_one this).2]
      · simp [h]
    · simp only [e1, e2, if_false]
      simp only [cmpL]
      by_cases h : cmpS p q = 0
      · by_cases h2 : cmpS s r = 0 <;> simp [h, h2]
      · simp [h]

set_option maxHeartbeats 1000000 in
theorem vic_any (x y : LineM) (w : World) (hx : StrRow w (.slice x.2.1 x.2.2.1 x.2.2.2) (idsK x.1)) (hy : StrRow w (.slice y.2.1 y.2.2.1 y.2.2.2) (idsK y.1)) (ox : OrdK x.1) (oy : OrdK y.1) :
    Calls Tryz.prog 40 #[.agg (encVi x).toArray, .agg (encVi y).toArray] w fun e w' => e = .returned (.int .i64 (cfLn x y)) ∧ Grew w w' := by
  have C1 := Lib.hid (fun W hb => compareL_any _ _ _ _ W (hx.later (w' := W) hb) (hy.later hb))
  rw [show cfLn x y = cmpL (idsK x.1) (idsK y.1) from (ids_cmp ox oy).symm]
  generalize cmpL (idsK x.1) (idsK y.1) = r at C1 ⊢
  clear ox oy hx hy
  obtain ⟨⟨x1, x2⟩, xa, xn, xc⟩ := x
  obtain ⟨⟨y1, y2⟩, ya, yn, yc⟩ := y
  simp only [encVi] at C1 ⊢
  go_enter Tryz.func40, Tryz.ntmps40
  go_wp2_with fail
  have G1 : Grew w ((w.alloc (.cells #[.string ⟨#[]⟩, .int .i64 2, .slice xa xn xc] 43)).alloc (.cells #[.string ⟨#[]⟩, .int .i64 2, .slice ya yn yc] 43)) := ((Grew.refl w).alloc _).alloc _
  refine (C1.out _ G1.below).mono ?_
  rintro e w2 ⟨rfl, rfl⟩
  go_wp2
  go_ret
  exact ⟨rfl, G1⟩
end Go.Proofs.YtbkomdinchiffaaGreat

namespace Go.Proofs.YtbkomdinchiffaaGreat

def ndsK (ks : List KeyD) : List ByteArray := ks.flatMap fun k => [k.1, k.2]
/-- The groups of nodes by their points. -/
def AtInv (l : List ObjD) (ds : List ByteArray) (f : Pt → List ByteArray) : Prop := ∀ q, (f q).length ≤ ds.length ∧ ∀ id, id ∈ f q ↔ id ∈ ds ∧ ptO l id = q
def BadInv (l : List ObjD) (ds : List ByteArray) (N : List KeyD) : Prop := ∀ key, key ∈ N ↔ ∃ a ∈ ds, ∃ b ∈ ds, a ≠ b ∧ ptO l a = ptO l b ∧ key = key2 a b
theorem AtInv.nil (l : List ObjD) : AtInv l [] fun _ => [] := fun q => ⟨Nat.le_refl _, fun id => by simp⟩
theorem BadInv.nil (l : List ObjD) : BadInv l [] [] := fun key => by simp
theorem mem_snoc {α : Type} {x y : α} {l : List α} (hx : x ∈ l) : y ∈ l ++ [x] ↔ y ∈ l := by
  rw [List.mem_append, List.mem_singleton]
  exact ⟨fun h => h.elim id fun e => e ▸ hx, Or.inl⟩
theorem AtInv.old {l : List ObjD} {ds : List ByteArray} {f : Pt → List ByteArray} {id : ByteArray} (h : AtInv l ds f) (hid : id ∈ f (ptO l id)) : AtInv l (ds ++ [id]) f := fun q => by
  have hm := ((h _).2 id).1 hid
  refine ⟨Nat.le_trans (h q).1 (by simp), fun x => ?_⟩
  rw [(h q).2 x, mem_snoc hm.1]
theorem BadInv.old {l : List ObjD} {ds : List ByteArray} {N : List KeyD} {id : ByteArray} (h : BadInv l ds N) (hid : id ∈ ds) : BadInv l (ds ++ [id]) N := fun key => by
  rw [h key]
  constructor
  · rintro ⟨a, ha, b, hb, h⟩; exact ⟨a, List.mem_append_left _ ha, b, List.mem_append_left _ hb, h⟩
  · rintro ⟨a, ha, b, hb, h⟩; exact ⟨a, (mem_snoc hid).1 ha, b, (mem_snoc hid).1 hb, h⟩
theorem AtInv.new {l : List ObjD} {ds : List ByteArray} {f g : Pt → List ByteArray} {id : ByteArray} (h : AtInv l ds f) (hg : ∀ q, g q = if q = ptO l id then f q ++ [id] else f q) : AtInv l (ds ++ [id]) g := fun q => by
  rw [hg q]
  by_cases e : q = ptO l id
  · rw [if_pos e]
    refine ⟨by have := (h q).1; simp; exact this, fun x => ?_⟩
    rw [List.mem_append, List.mem_append, (h q).2 x, List.mem_singleton]
    constructor
    · rintro (⟨a, b⟩ | rfl)
      · exact ⟨Or.inl a, b⟩
      · exact ⟨Or.inr rfl, e.symm⟩
    · rintro ⟨a | rfl, b⟩
      · exact Or.inl ⟨a, b⟩
      · exact Or.inr rfl
  · rw [if_neg e]
    refine ⟨Nat.le_trans (h q).1 (by simp), fun x => ?_⟩
    rw [(h q).2 x, List.mem_append, List.mem_singleton]
    constructor
    · rintro ⟨a, b⟩; exact ⟨Or.inl a, b⟩
    · rintro ⟨a | rfl, b⟩
      · exact ⟨a, b⟩
      · exact absurd b.symm e
/-- What the nodes of one group add. -/
def NoteInv (N0 N : List KeyD) (G : List ByteArray) (id : ByteArray) : Prop := ∀ key, key ∈ N ↔ key ∈ N0 ∨ ∃ o ∈ G, key = key2 o id
theorem NoteInv.nil (N0 : List KeyD) (id : ByteArray) : NoteInv N0 N0 [] id := fun key => by simp
theorem NoteInv.step {N0 N : List KeyD} {G : List ByteArray} {id o : ByteArray} {r : Nat} (h : NoteInv N0 N (G.take r) id) (ho : G[r]? = some o) : NoteInv N0 (noteK (key2 o id) N) (G.take (r + 1)) id := fun key => by
  obtain ⟨hk, e⟩ := List.getElem?_eq_some_iff.1 ho
  rw [note_mem, h key, List.take_succ_eq_append_getElem hk, e]
  constructor
  · rintro (h | h | ⟨x, hx, h⟩)
    · exact Or.inr ⟨o, by simp, h⟩
    · exact Or.inl h
    · exact Or.inr ⟨x, List.mem_append_left _ hx, h⟩
  · rintro (h | ⟨x, hx, h⟩)
    · exact Or.inr (Or.inl h)
    · rcases List.mem_append.1 hx with hx | hx
      · exact Or.inr (Or.inr ⟨x, hx, h⟩)
      · rw [List.mem_singleton.1 hx] at h; exact Or.inl h
theorem BadInv.new {l : List ObjD} {ds : List ByteArray} {f : Pt → List ByteArray} {N N' : List KeyD} {id : ByteArray} (h : BadInv l ds N) (hf : AtInv l ds f) (hid : id ∉ f (ptO l id)) (hn : NoteInv N N' (f (ptO l id)) id) : BadInv l (ds ++ [id]) N' := fun key => by
  have hid' : id ∉ ds := fun c => hid (((hf _).2 id).2 ⟨c, rfl⟩)
  rw [hn key, h key]
  constructor
  · rintro (⟨a, ha, b, hb, h⟩ | ⟨o, ho, h⟩)
    · exact ⟨a, List.mem_append_left _ ha, b, List.mem_append_left _ hb, h⟩
    · obtain ⟨h1, h2⟩ := ((hf _).2 o).1 ho
      exact ⟨o, List.mem_append_left _ h1, id, by simp, fun c => hid' (c ▸ h1), h2, h⟩
  · rintro ⟨a, ha, b, hb, h1, h2, h3⟩
    rcases List.mem_append.1 ha with ha | ha <;> rcases List.mem_append.1 hb with hb | hb
    · exact Or.inl ⟨a, ha, b, hb, h1, h2, h3⟩
    · rw [List.mem_singleton.1 hb] at h2 h3
      exact Or.inr ⟨a, ((hf _).2 a).2 ⟨ha, h2⟩, h3⟩
    · rw [List.mem_singleton.1 ha] at h2 h3
      exact Or.inr ⟨b, ((hf _).2 b).2 ⟨hb, h2.symm⟩, by rw [h3, key2_comm]⟩
    · rw [List.mem_singleton.1 ha, List.mem_singleton.1 hb] at h1
      exact absurd rfl h1

/-- The owners of two borders that meet as they must not. -/
def Crs (l : List ObjD) (p : FdD) (key : KeyD) : Prop := ∃ a b, (keysP l)[p.1.1.toNat]? = some a ∧ (keysP l)[p.1.2.toNat]? = some b ∧ a ≠ b ∧ ¬ (p.2 = 1 ∧ comK a b = true) ∧ ∃ x ∈ ownF l l a, ∃ y ∈ ownF l l b, key = key2 x y
def CrsInv (l : List ObjD) (N0 N : List KeyD) (done : List FdD) : Prop := ∀ key, key ∈ N ↔ key ∈ N0 ∨ ∃ p ∈ done, Crs l p key
theorem CrsInv.nil (l : List ObjD) (N0 : List KeyD) : CrsInv l N0 N0 [] := fun key => by simp
theorem CrsInv.skip {l : List ObjD} {N0 N : List KeyD} {done : List FdD} {p : FdD} (h : CrsInv l N0 N done) (hp : ∀ key, ¬ Crs l p key) : CrsInv l N0 N (done ++ [p]) := fun key => by
  rw [h key]
  constructor
  · rintro (h | ⟨x, hx, h⟩)
    · exact Or.inl h
    · exact Or.inr ⟨x, List.mem_append_left _ hx, h⟩
  · rintro (h | ⟨x, hx, h⟩)
    · exact Or.inl h
    · rcases List.mem_append.1 hx with hx | hx
      · exact Or.inr ⟨x, hx, h⟩
      · rw [List.mem_singleton.1 hx] at h; exact absurd h (hp key)
/-- Within one pair of borders: the first r owners of one are done, and s of the other with the next. -/
def OwnInv (N0 N : List KeyD) (X Y : List ByteArray) : Prop := ∀ key, key ∈ N ↔ key ∈ N0 ∨ ∃ x ∈ X, ∃ y ∈ Y, key = key2 x y
def OneInv (N0 N : List KeyD) (x : ByteArray) (Y : List ByteArray) : Prop := ∀ key, key ∈ N ↔ key ∈ N0 ∨ ∃ y ∈ Y, key = key2 x y
theorem OwnInv.nil (N0 : List KeyD) (Y : List ByteArray) : OwnInv N0 N0 [] Y := fun key => by simp
theorem OneInv.nil (N0 : List KeyD) (x : ByteArray) : OneInv N0 N0 x [] := fun key => by simp
theorem OneInv.step {N0 N : List KeyD} {x y : ByteArray} {Y : List ByteArray} {s : Nat} (h : OneInv N0 N x (Y.take s)) (hy : Y[s]? = some y) : OneInv N0 (noteK (key2 x y) N) x (Y.take (s + 1)) := fun key => by
  obtain ⟨hk, e⟩ := List.getElem?_eq_some_iff.1 hy
  rw [note_mem, h key, List.take_succ_eq_append_getElem hk, e]
  constructor
  · rintro (h | h | ⟨z, hz, h⟩)
    · exact Or.inr ⟨y, by simp, h⟩
    · exact Or.inl h
    · exact Or.inr ⟨z, List.mem_append_left _ hz, h⟩
  · rintro (h | ⟨z, hz, h⟩)
    · exact Or.inr (Or.inl h)
    · rcases List.mem_append.1 hz with hz | hz
      · exact Or.inr (Or.inr ⟨z, hz, h⟩)
      · rw [List.mem_singleton.1 hz] at h; exact Or.inl h
theorem OwnInv.step {N0 N N' : List KeyD} {x : ByteArray} {X Y : List ByteArray} {r : Nat} (h : OwnInv N0 N (X.take r) Y) (hx : X[r]? = some x) (h1 : OneInv N N' x Y) : OwnInv N0 N' (X.take (r + 1)) Y := fun key => by
  obtain ⟨hk, e⟩ := List.getElem?_eq_some_iff.1 hx
  rw [h1 key, h key, List.take_succ_eq_append_getElem hk, e]
  constructor
  · rintro ((h | ⟨z, hz, h⟩) | h)
    · exact Or.inl h
    · exact Or.inr ⟨z, List.mem_append_left _ hz, h⟩
    · exact Or.inr ⟨x, by simp, h⟩
  · rintro (h | ⟨z, hz, h⟩)
    · exact Or.inl (Or.inl h)
    · rcases List.mem_append.1 hz with hz | hz
      · exact Or.inl (Or.inr ⟨z, hz, h⟩)
      · rw [List.mem_singleton.1 hz] at h; exact Or.inr h
theorem CrsInv.step {l : List ObjD} {N0 N N' : List KeyD} {done : List FdD} {p : FdD} {a b : KeyD} (h : CrsInv l N0 N done) (ha : (keysP l)[p.1.1.toNat]? = some a) (hb : (keysP l)[p.1.2.toNat]? = some b) (hne : a ≠ b) (hc : ¬ (p.2 = 1 ∧ comK a b = true)) (ho : OwnInv N N' (ownF l l a) (ownF l l b)) : CrsInv l N0 N' (done ++ [p]) := fun key => by
  rw [ho key, h key]
  constructor
  · rintro ((h | ⟨x, hx, h⟩) | h)
    · exact Or.inl h
    · exact Or.inr ⟨x, List.mem_append_left _ hx, h⟩
    · exact Or.inr ⟨p, by simp, a, b, ha, hb, hne, hc, h⟩
  · rintro (h | ⟨x, hx, h⟩)
    · exact Or.inl (Or.inl h)
    · rcases List.mem_append.1 hx with hx | hx
      · exact Or.inl (Or.inr ⟨x, hx, h⟩)
      · rw [List.mem_singleton.1 hx] at h
        obtain ⟨a', b', ha', hb', _, _, h⟩ := h
        rw [ha] at ha'
        rw [hb] at hb'
        cases ha'; cases hb'
        exact Or.inr h

/-- The pairs that are noted are of the map's own Ids, and in order. -/
def GoodN (l : List ObjD) (N : List KeyD) : Prop := N.Nodup ∧ ∀ key ∈ N, OrdK key ∧ key.1 ∈ l.map (·.id) ∧ key.2 ∈ l.map (·.id)
theorem GoodN.nil (l : List ObjD) : GoodN l [] := ⟨List.nodup_nil, by simp⟩
theorem GoodN.note {l : List ObjD} {N : List KeyD} (h : GoodN l N) {a b : ByteArray} (ha : a ∈ l.map (·.id)) (hb : b ∈ l.map (·.id)) : GoodN l (noteK (key2 a b) N) := by
  refine ⟨?_, fun key hk => ?_⟩
  · unfold noteK
    split
    · exact h.1
    · rename_i hm
      rw [List.nodup_append]
      exact ⟨h.1, by simp, fun x hx y hy e => hm (by rw [← List.mem_singleton.1 hy, ← e]; exact hx)⟩
  · rcases note_mem.1 hk with rfl | hk
    · refine ⟨key2_le a b, ?_⟩
      rcases key2_or a b with e | e <;> rw [e]
      · exact ⟨ha, hb⟩
      · exact ⟨hb, ha⟩
    · exact h.2 key hk
theorem nodup_len {α : Type} [DecidableEq α] : ∀ {L M : List α}, L.Nodup → (∀ x ∈ L, x ∈ M) → L.length ≤ M.length
  | [], M, _, _ => Nat.zero_le _
  | x :: L, M, hn, hs => by
    rw [List.nodup_cons] at hn
    have hx := hs x (List.mem_cons_self ..)
    have ih := nodup_len (M := M.erase x) hn.2 fun y hy => (List.mem_erase_of_ne (a := y) (b := x) (fun e => hn.1 (by rw [← e]; exact hy))).2 (hs y (List.mem_cons_of_mem _ hy))
    rw [List.length_erase_of_mem hx] at ih
    have := List.length_pos_of_mem hx
    simp; omega
theorem GoodN.len {l : List ObjD} {N : List KeyD} (h : GoodN l N) : N.length ≤ l.length * l.length := by
  have hp : ∀ (A B : List ByteArray), (A.flatMap fun a => B.map fun b => (a, b)).length = A.length * B.length := by
    intro A B
    induction A with
    | nil => simp
    | cons a A ih => rw [List.flatMap_cons, List.length_append, ih, List.length_map, List.length_cons, Nat.succ_mul, Nat.add_comm]
  have := nodup_len h.1 (M := (l.map (·.id)).flatMap fun a => (l.map (·.id)).map fun b => (a, b)) fun key hk => by
    obtain ⟨_, h1, h2⟩ := h.2 key hk
    exact List.mem_flatMap.2 ⟨_, h1, List.mem_map.2 ⟨_, h2, rfl⟩⟩
  rw [hp, List.length_map] at this
  exact this
/-- All that is noted. -/
theorem noted_all {l : List ObjD} {N0 N : List KeyD} {F : List FdD} (h0 : BadInv l (ndsK (keysP l)) N0) (h : CrsInv l N0 N F)
    (hF : ∀ p : FdD, p ∈ F ↔ ∃ (i j : Nat) (s t : Sg), i < j ∧ ((keysP l).map (segB l))[i]? = some s ∧ ((keysP l).map (segB l))[j]? = some t ∧ p = (((i : Int), (j : Int)), meetsQ s t) ∧ meetsQ s t ≠ 0) (key : KeyD) : key ∈ N ↔ key ∈ badP l := by
  rw [h key, h0 key, bad_mem]
  have hn : ndsK (keysP l) = nodesP l := by
    unfold ndsK nodesP bordersP
    rw [List.flatMap_map]
  rw [hn]
  refine or_congr Iff.rfl ?_
  constructor
  · rintro ⟨p, hp, a, b, ha, hb, hne, hc, x, hx, y, hy, e⟩
    obtain ⟨i, j, s, t, hij, hs, ht, rfl, hm⟩ := (hF p).1 hp
    simp only [Int.toNat_natCast] at ha hb
    rw [List.getElem?_map, ha] at hs
    rw [List.getElem?_map, hb] at ht
    injection hs with hs
    injection ht with ht
    subst hs ht
    refine ⟨(a, ownF l l a), borders_mem.2 ⟨List.mem_of_getElem? ha, rfl⟩, (b, ownF l l b), borders_mem.2 ⟨List.mem_of_getElem? hb, rfl⟩, hne, ?_, x, hx, y, hy, e⟩
    rw [meetsQ_eq] at hm hc
    simp only [crossB]
    rw [decide_eq_true hm, Bool.true_and]
    cases hcm : comK a b with
    | false => simp
    | true =>
      have : meetsR (segB l a) (segB l b) ≠ 1 := fun c => hc ⟨c, hcm⟩
      simp [this]
  · rintro ⟨p, hp, q, hq, hne, hc, x, hx, y, hy, e⟩
    obtain ⟨hp1, hp2⟩ := borders_mem.1 hp
    obtain ⟨hq1, hq2⟩ := borders_mem.1 hq
    rw [hp2] at hx
    rw [hq2] at hy
    obtain ⟨i, hi⟩ := List.getElem?_of_mem hp1
    obtain ⟨j, hj⟩ := List.getElem?_of_mem hq1
    have key : ∀ (a b : KeyD) (i j : Nat), i < j → (keysP l)[i]? = some a → (keysP l)[j]? = some b → crossB l a b = true → (((i : Int), (j : Int)), meetsQ (segB l a) (segB l b)) ∈ F ∧ ¬ (meetsQ (segB l a) (segB l b) = 1 ∧ comK a b = true) := by
      intro a b i j hij ha hb hc
      unfold crossB at hc
      rw [Bool.and_eq_true, decide_eq_true_eq, Bool.not_eq_true'] at hc
      rw [meetsQ_eq]
      refine ⟨(hF _).2 ⟨i, j, segB l a, segB l b, hij, by rw [List.getElem?_map, ha]; rfl, by rw [List.getElem?_map, hb]; rfl, by rw [meetsQ_eq], by rw [meetsQ_eq]; exact hc.1⟩, fun ⟨c1, c2⟩ => ?_⟩
      have := hc.2
      rw [c2, c1] at this
      simp at this
    rcases Nat.lt_trichotomy i j with hij | rfl | hij
    · obtain ⟨h1, h2⟩ := key p.1 q.1 i j hij hi hj hc
      exact ⟨_, h1, p.1, q.1, by simpa using hi, by simpa using hj, hne, h2, x, hx, y, hy, e⟩
    · rw [hi] at hj; injection hj with hj; exact absurd hj hne
    · obtain ⟨h1, h2⟩ := key q.1 p.1 j i hij hj hi (by rw [crossB_symm]; exact hc)
      exact ⟨_, h1, q.1, p.1, by simpa using hj, by simpa using hi, fun c => hne c.symm, h2, y, hy, x, hx, by rw [e, key2_comm]⟩
end Go.Proofs.YtbkomdinchiffaaGreat

namespace Go.Proofs.YtbkomdinchiffaaGreat
open Go.RowKit Go.Maps

theorem pair_lits (k : KeyD) (h1 : k.1.size ≤ 140737488355328) (h2 : k.2.size ≤ 140737488355328) : ∃ (D : Nat), Tryz.prog.keyLits D 50 (keyV k).cells.toList = some [.string k.1.data.toList, .string k.2.data.toList] ∧ (keyV k).formed Tryz.prog 50 = true := by
  obtain ⟨m, hm⟩ := typesS2
  have a1 : k.1.size ≤ maxLen := by unfold maxLen; omega
  have a2 : k.2.size ≤ maxLen := by unfold maxLen; omega
  refine ⟨m + 2, ?_, by simp [Value.formed, Tryz.underlying50, cells50]⟩
  unfold Program.keyLits
  simp only [Tryz.underlying50, Value.cells]
  rw [if_pos (by rw [cells50]; rfl), show List.range 2 = [0, 1] from rfl, List.mapM_cons, List.mapM_cons, List.mapM_nil]
  simp [cells9, Program.keyLits, Tryz.underlying9, a1, a2]
set_option maxRecDepth 100000 in
theorem eql_key (a b : KeyD) (w : World) (a1 : a.1.size ≤ 140737488355328) (a2 : a.2.size ≤ 140737488355328) (b1 : b.1.size ≤ 140737488355328) (b2 : b.2.size ≤ 140737488355328) :
    (binOp .eql 50 (.agg #[.string a.1, .string a.2]) (.agg #[.string b.1, .string b.2])).run Tryz.prog w = .ok (.bool (decide (a = b))) w := by
  obtain ⟨D, hD, fD⟩ := pair_lits a a1 a2
  obtain ⟨D', hD', fD'⟩ := pair_lits b b1 b2
  obtain ⟨r, hr, hiff⟩ := run_equalIn_deep 9997 3 50 keyT50 w D D' (keyV a) (keyV b) _ _ fD fD' hD hD'
  simp only [Nat.reduceAdd] at hr
  simp only [run_eql_struct]
  rw [hr]
  simp only [Result.andThen]
  congr 2
  rw [Bool.eq_iff_iff, hiff, decide_eq_true_eq]
  simp only [List.cons.injEq, Lit.string.injEq, and_true]
  have hb : ∀ x y : ByteArray, x.data.toList = y.data.toList ↔ x = y := fun x y => ⟨fun e => by cases x; cases y; simp at e; rw [e], fun e => by rw [e]⟩
  rw [hb, hb, Prod.ext_iff]
end Go.Proofs.YtbkomdinchiffaaGreat

namespace Go.Proofs.YtbkomdinchiffaaGreat
open Go.RowKit Go.Sort Go.Maps Go.ChangeMaps

theorem cell_row_same {w w' : World} {g i : Nat} (h : w'.heap[g]? = w.heap[g]?) : w'.cell? ⟨g, i, none⟩ = w.cell? ⟨g, i, none⟩ := by
  simp only [World.cell?, h]
/-- A violation whose Ids lie in a block of their own, apart from the list's. -/
def VR (lo : Nat) (w : World) (v : Value) (x : LineM) : Prop :=
  OrdK x.1 ∧ ∃ g n c, x.2 = (some ⟨g, 0, none⟩, n, c) ∧ StrRow w (.slice (some ⟨g, 0, none⟩) n c) (idsK x.1) ∧ v.ownBlock ≠ some g ∧ lo < g ∧ g < w.heap.size
theorem StrRow.same {w w' : World} {g n c : Nat} {ids : List ByteArray} (h : StrRow w (.slice (some ⟨g, 0, none⟩) n c) ids) (hg : w'.heap[g]? = w.heap[g]?) : StrRow w' (.slice (some ⟨g, 0, none⟩) n c) ids := by
  obtain ⟨a, cap, e, h1, h2, h3⟩ := h
  injection e with e1 e2 e3
  subst e1 e2 e3
  refine ⟨_, _, rfl, h1, h2, fun hl => ?_⟩
  obtain ⟨b, off, hb, h4⟩ := h3 hl
  injection hb with hb
  injection hb with e1 e2 e3
  subst e1 e2
  exact ⟨_, _, rfl, fun i s hs => by rw [cell_row_same hg]; exact h4 i s hs⟩
theorem VR.kept {lo : Nat} {w w' : World} {v : Value} {x : LineM} {row : Option Nat} (h : VR lo w v x) (hg : w.grownBy w' row) (hr : row = v.ownBlock ∨ row = none ∨ row = some lo) : VR lo w' v x := by
  obtain ⟨h0, g, n, c, h1, h2, h3, h4, h5⟩ := h
  have hne : some g ≠ row := fun e => by
    rcases hr with hr | hr | hr
    · exact h3 (hr.symm.trans e.symm)
    · rw [hr] at e; cases e
    · rw [hr] at e; injection e with e; omega
  exact ⟨h0, g, n, c, h1, h2.same (hg.block g h5 hne), h3, h4, Nat.lt_of_lt_of_le h5 hg.size⟩
theorem VR.on {lo : Nat} {w w' : World} {v : Value} {x : LineM} (h : VR lo w v x) (hb : Below w.heap.size w w') : VR lo w' v x := by
  obtain ⟨h0, g, n, c, h1, h2, h3, h4, h5⟩ := h
  exact ⟨h0, g, n, c, h1, h2.same (hb.block g h5), h3, h4, Nat.lt_of_lt_of_le h5 hb.size⟩
/-- .. at the block of a new list. -/
theorem VR.at {lo : Nat} {w w0 : World} {v v' : Value} {x : LineM} (h : VR lo w v x) (hs : VR lo w0 v x) (hl : v'.ownBlock = v.ownBlock ∨ v'.ownBlock = some w0.heap.size) : VR lo w v' x := by
  obtain ⟨h0, g, n, c, h1, h2, h3, h4, h5⟩ := h
  obtain ⟨_, g', n', c', h1', _, _, _, h5'⟩ := hs
  rw [h1] at h1'
  injection h1' with e _
  injection e with e
  injection e with e _
  subst e
  refine ⟨h0, g, n, c, h1, h2, fun e => ?_, h4, h5⟩
  rcases hl with hl | hl
  · exact h3 (hl.symm.trans e)
  · rw [hl] at e; injection e with e; omega
theorem VR.row {lo : Nat} {w : World} {v : Value} {x : LineM} (h : VR lo w v x) : StrRow w (.slice x.2.1 x.2.2.1 x.2.2.2) (idsK x.1) := by
  obtain ⟨h0, g, n, c, h1, h2, h3, h4, h5⟩ := h
  rw [h1]; exact h2
theorem vios_sort {lo : Nat} {w : World} {base n : Nat} {v : Value} {L : List LineM} (hn : n = L.length) (hsz : n < 4611686018427387904) (hown : w.ownsRow base 43 3 v n (L.flatMap encVi)) (hv : ∀ x ∈ L, VR lo w v x) (h0 : L = [] → v = .slice none 0 0) :
    Calls Tryz.prog 39 #[v, .func (.func 40) #[] #[]] w fun e w' => e = .returned (.tuple #[]) ∧ ∃ L' : List LineM, L'.Perm L ∧ L'.Pairwise (fun x y => ltOf cfLn y x = false) ∧ w'.ownsRow base 43 3 v n (L'.flatMap encVi) ∧ w.grownBy w' v.ownBlock := by
  subst hn
  cases hL : L with
  | nil =>
    have hv0 := h0 hL
    subst hv0
    rw [hL] at hown
    refine (AnyF.slices_SortFunc_none Tryz.sort_viol none 0 (.func (.func 40) #[] #[]) w).mono ?_
    rintro en w' ⟨rfl, rfl⟩
    exact ⟨rfl, [], List.Perm.refl _, List.Pairwise.nil, hown, World.grownBy.refl _ _⟩
  | cons x0 L0 =>
  rw [← hL]
  haveI : Inhabited {x : LineM // VR lo w v x} := ⟨⟨x0, hv x0 (by rw [hL]; exact List.mem_cons_self ..)⟩⟩
  clear hL
  have hflat : ∀ M : List {x : LineM // VR lo w v x}, M.flatMap (fun x => encVi x.1) = (M.map (·.1)).flatMap encVi := fun M => by rw [List.flatMap_map]
  have hat : (L.attachWith _ hv).map (·.1) = L := by simp [List.attach_map_subtype_val]
  have hH : w.ownsRow base 43 3 v L.length ((L.attachWith _ hv).flatMap fun x => encVi x.1) := by rw [hflat, hat]; exact hown
  have HS := sort_own (α := {x : LineM // VR lo w v x}) Tryz.sort_viol 3 Tryz.isAgg43 Tryz.sizeOf43 (fun x => encVi x.1) (fun _ => rfl) (fun x => encVi_one x.1) (fun x y => cfLn x.1 y.1)
    { irrefl := fun x => swoLn.irrefl x.1, trans := fun x y z h h2 => swoLn.trans x.1 y.1 z.1 h h2, ntrans := fun x y z h h2 => swoLn.ntrans x.1 y.1 z.1 h h2 }
    40 #[] (enters_of Tryz.func40 (by kernel_rfl) rfl) (by simp) hsz (fun W hg x y => vic_any x.1 y.1 W (x.2.kept hg (Or.inl rfl)).row (y.2.kept hg (Or.inl rfl)).row x.2.1 y.2.1) hH
  refine HS.mono ?_
  rintro e w' ⟨rfl, M, hp, hso, ho, hg⟩
  refine ⟨rfl, M.map (·.1), ?_, ?_, by rw [← hflat]; exact ho, hg⟩
  · have := hp.map (·.1)
    rwa [hat] at this
  · rw [List.pairwise_map]; exact hso
/-- The order of what was noted. -/
theorem vios_sorted {l : List ObjD} {N : List KeyD} (hk : ∀ key, key ∈ N ↔ key ∈ badP l) (hn : N.Nodup) {L : List LineM} (hL : (L.map (·.1)).Perm N) (hso : L.Pairwise (fun x y => ltOf cfLn y x = false)) : L.map (·.1) = checkP l := by
  refine sortK_ext ?_ (setK_sorted _) fun x => by rw [hL.mem_iff, hk]; exact mem_setK.symm
  have hn' := hL.nodup_iff.2 hn
  unfold SortK
  rw [List.pairwise_map]
  rw [List.nodup_iff_pairwise_ne, List.pairwise_map] at hn'
  refine (hso.and hn').imp fun {a b} h => ?_
  have h1 := h.1
  rw [cfLn_lt] at h1
  cases h2 : ltK a.1 b.1 with
  | true => rfl
  | false => exact absurd (ltK_total h2 h1) h.2
end Go.Proofs.YtbkomdinchiffaaGreat
