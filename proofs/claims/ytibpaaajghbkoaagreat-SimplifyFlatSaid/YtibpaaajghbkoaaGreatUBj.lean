/-  -/
import Derived.Test.YtibpaaajghbkoaaGreatUBh
import Derived.Test.YtibpaaajghbkoaaGreatUBi
import Derived.Test.YtibpaaajghbkoaaGreatUBe
import Derived.Test.YtibpaaajghbkoaaGreatUAu
import Derived.Test.YtibpaaajghbkoaaGreatUAk
namespace Go.Proofs.YtibpaaajghbkoaaGreat
open Go.RowKit Go.Sort
theorem bn_eq {a b : Int} (h : a = b) : (a != b) = false := by rw [h]; simp
theorem bn_ne {a b : Int} (h : ¬ a = b) : (a != b) = true := by rw [bne_iff_ne]; exact h
theorem bq_ne {a b : Int} (h : ¬ a = b) : (a == b) = false := by rw [beq_eq_false_iff_ne]; exact h
theorem kinds_ok {l : List ObjD} (h : mapOK l = true) {o : ObjD} (ho : o ∈ l) : (o.kind = 1 ∧ o.refs = []) ∨ (o.kind = 2 ∨ o.kind = 3) ∨ (o.kind = 4 ∨ o.kind = 5) := by
 have h1 := map_obj h ho
 simp only [objOK, Bool.and_eq_true, decide_eq_true_eq] at h1
 obtain ⟨⟨⟨⟨⟨⟨h2, _⟩, _⟩, _⟩, _⟩, _⟩, h3⟩ := h1
 by_cases hk : o.kind = 1
 ·rw [if_pos hk] at h3
  simp only [Bool.and_eq_true, decide_eq_true_eq] at h3
  exact Or.inl ⟨hk, List.length_eq_zero_iff.1 h3.1⟩
 ·omega
theorem nodeIs_at {l : List ObjD} (h : mapOK l = true) (r : ByteArray) : (nodeAt l r).isSome = true ↔ ∃ x, atO l r = some x ∧ x.kind = 1 := by
 constructor
 ·intro hs
  obtain ⟨q, hq⟩ := Option.isSome_iff_exists.1 hs
  obtain ⟨x, hx, rfl, hk, _⟩ := (nodeAt_iff h).1 hq
  exact ⟨x, at_some h hx, hk⟩
 ·rintro ⟨x, hx, hk⟩
  obtain ⟨h1, h2⟩ := at_node hx
  rw [(nodeAt_iff h).2 ⟨x, h1, h2, hk, rfl⟩]; rfl
theorem fit_lines {l : List ObjD} (h : mapOK l = true) {o : ObjD} (hk : o.kind = 2 ∨ o.kind = 3) : fitO l o = o.refs.all fun r => (nodeAt l r).isSome := by
 have hw : ∀ i, wantK o i = 1 := fun i => by unfold wantK; rw [if_neg (by omega)]
 rw [Bool.eq_iff_iff, fit_iff, List.all_eq_true]
 constructor
 ·intro hf r hr
  obtain ⟨i, hi⟩ := List.getElem?_of_mem hr
  obtain ⟨x, hx, hk⟩ := hf i r hi
  exact (nodeIs_at h r).2 ⟨x, hx, by rw [hk, hw]⟩
 ·intro hf i r hr
  obtain ⟨x, hx, hk⟩ := (nodeIs_at h r).1 (hf r (List.mem_of_getElem? hr))
  exact ⟨x, hx, by rw [hk, hw]⟩
theorem pts_at {l : List ObjD} (h : mapOK l = true) {r : ByteArray} {x : ObjD} (hx : atO l r = some x) : ptsO l r = ptsK l x := by
 unfold atO at hx
 cases hp : posO r l with
 |none => rw [hp] at hx; cases hx
 |some i => rw [hp] at hx; exact ptsO_some l r h i hp x hx
theorem pts_cases {l : List ObjD} (h : mapOK l = true) {o : ObjD} (ho : o ∈ l) : ((ptsK l o).2 = 14 ∧ fitP l = false) ∨ ((ptsK l o).2 = 0 ∧ fitO l o = true) ∨ ((ptsK l o).2 = 13 ∧ (o.kind = 4 ∨ o.kind = 5)) := by
 unfold ptsK
 rcases kinds_ok h ho with ⟨hk, hr⟩ | hk | hk
 ·rw [if_pos hk]
  exact Or.inr (Or.inl ⟨rfl, fit_iff.2 fun i r hi => by rw [hr] at hi; cases hi⟩)
 ·rw [if_neg (by omega), if_pos hk, ← fit_lines h hk]
  cases hf : fitO l o with
  |true => exact Or.inr (Or.inl ⟨rfl, rfl⟩)
  |false =>
   refine Or.inl ⟨rfl, ?_⟩
   cases hp : fitP l with
   |false => rfl
   |true => rw [(fit_parts.1 hp).2.2 o ho] at hf; cases hf
 ·rw [if_neg (by omega), if_neg (by omega)]
  exact Or.inr (Or.inr ⟨rfl, hk⟩)
theorem find_at {l : List ObjD} {r : ByteArray} : (findI r l = -1 ∧ atO l r = none) ∨ ∃ (j : Nat) (x : ObjD), findI r l = (j : Int) ∧ l[j]? = some x ∧ atO l r = some x := by
 unfold findI atO
 cases hp : posO r l with
 |none => exact Or.inl ⟨rfl, rfl⟩
 |some j =>
  obtain ⟨x, hx, _⟩ := posO_some r l j hp
  exact Or.inr ⟨j, x, rfl, hx, by simpa using hx⟩
theorem want_cases {o : ObjD} (hk : o.kind = 4 ∨ o.kind = 5) (j : Nat) : ((o.kind == 5) = false ∧ True ∧ wantK o j = 2) ∨ ((o.kind == 5) = true ∧ ((j : Int) == 1) = true ∧ wantK o j = 1) ∨ ((o.kind == 5) = true ∧ ((j : Int) == 1) = false ∧ wantK o j = 2) := by
 unfold wantK
 rcases hk with hk | hk
 ·exact Or.inl ⟨by rw [hk]; rfl, trivial, if_pos (Or.inl hk)⟩
 ·by_cases h1 : j = 1
  ·exact Or.inr (Or.inl ⟨by rw [hk]; rfl, by rw [h1]; rfl, if_neg (by omega)⟩)
  ·exact Or.inr (Or.inr ⟨by rw [hk]; rfl, bq_ne (by omega), if_pos (Or.inr ⟨hk, h1⟩)⟩)
theorem points_err (v : Value) (l : List ObjD) (id : ByteArray) (w : World) (hv : ObjsIs w v l) (hok : mapOK l = true) {o : ObjD} (hat : atO l id = some o) {c : Int} (hc : (ptsK l o).2 = c) :
  Calls Tryz.prog 24 #[.agg #[v], .string id] w fun e w' => (∃ v', e = .returned (.tuple #[v', .int .i64 c])) ∧ Below w.heap.size w w' := by
 refine (points_any v l id w hv).mono ?_
 rintro e w' ⟨⟨v', rfl, _⟩, hb⟩
 exact ⟨⟨v', by rw [pts_at hok hat, hc]⟩, hb⟩
set_option maxRecDepth 100000 in
set_option maxHeartbeats 4000000 in
theorem fitL_any (v : Value) (l : List ObjD) (w : World) (hv : ObjsIs w v l) (hl : l.length ≤ 1000) (hkl : (keysP l).length ≤ 20000) :
  Calls Tryz.prog 16 #[.agg #[v]] w fun e w' => e = .returned (.bool (fitP l)) ∧ Below w.heap.size w w' := by
 have VD := Lib.hid (fun w' hb => validM_any v l w' (hv.later (w' := w') hb))
 have CK := Lib.hid (fun hok w' hb => check_any v l w' (hv.later (w' := w') hb) hok hl hkl)
 have PT := Lib.hid (fun hok id o (hat : atO l id = some o) c (hc : (ptsK l o).2 = c) w' hb => points_err v l id w' (hv.later (w' := w') hb) hok hat hc)
 have FD := Lib.hid (fun id w' hb => findO_any v l id w' (hv.later (w' := w') hb) (by omega))
 obtain ⟨a, cap, rfl, hn, hc⟩ := hv
 obtain ⟨N, hN⟩ : ∃ N, l.length = N := ⟨_, rfl⟩
 rw [hN] at hn hc hl VD CK PT FD ⊢
 have HN := Lib.hid hN
 have HC := Lib.hid hc
 have B1 : Below w.heap.size w (w.alloc (.cells #[.slice a N cap] 24)) := (Below.refl _ _).alloc (Nat.le_refl _) _
 have H1 := row_new w (.cells #[.slice a N cap] 24)
 clear hc hN hkl
 cases hok : mapOK l with
 |false =>
  have V1 := Lib.hid (VD.out _ B1)
  rw [hok] at V1
  have HF := Lib.hid (show fitP l = false by unfold fitP; rw [hok]; rfl)
  clear hok
  go_enter Tryz.func16, Tryz.ntmps16
  go_wp2_with fail
  refine V1.out.mono ?_
  rintro e w2 ⟨rfl, hb⟩
  have B2 := below_step B1 (Nat.le_refl _) hb
  go_wp2
  go_ret
  exact ⟨by rw [HF.out] <;> rfl, B2⟩
 |true =>
  have V1 := Lib.hid (VD.out _ B1)
  rw [hok] at V1
  have HOK := Lib.hid hok
  clear hok
  go_enter Tryz.func16, Tryz.ntmps16
  go_wp2_with fail
  generalize hw1 : w.alloc (.cells #[.slice a N cap] 24) = w1
  rw [hw1] at V1 B1 H1
  clear hw1
  refine V1.out.mono ?_
  rintro e w2 ⟨rfl, hb⟩
  have B2 := below_step B1 (Nat.le_refl _) hb
  have H2 := Lib.hid (row_later hb H1)
  clear hb V1 H1
  obtain ⟨mz, m0⟩ := rk1 H2.out
  go_wp2_with fail
  refine (CK.out HOK.out _ B2).mono ?_
  rintro e w3 ⟨v3, rfl, hva, hb⟩
  have B3 := below_step B2 (Nat.le_refl _) hb
  have H3 := Lib.hid (row_later hb H2.out)
  obtain ⟨L3, hr3, hl3, _⟩ := hva
  obtain ⟨a3, c3, hv3, _⟩ := hr3
  subst hv3
  have h3l : L3.length = (checkP l).length := by rw [← hl3, List.length_map]
  rw [h3l]
  clear hb B2 CK VD hl3 h3l H2 B1
  clear m0 mz
  by_cases hck : (checkP l).length = 0
  ·have d1 : decide ((0 : Int) < ((checkP l).length : Int)) = false := decide_eq_false (by omega)
   have d2 : decide (0 < (checkP l).length) = false := decide_eq_false (by omega)
   have HCK := Lib.hid (List.length_eq_zero_iff.1 hck)
   clear hck
   obtain ⟨mz, m0⟩ := rk1 H3.out
   go_wp2_with fail
   clear m0 mz
   go_loopw [3] (fun i wr => ∃ k : Nat, i = .int .i64 k ∧ k ≤ N ∧ (∀ q ∈ l.take k, fitO l q = true) ∧ Below w3.heap.size w3 wr) (fun i _ => N - (intOf i).toNat)
   case atStart => exact ⟨0, rfl, Nat.zero_le _, (fun q hq => by simp at hq), Below.refl _ _⟩
   case round =>
    obtain ⟨k, rfl, hk, hfit, hbr⟩ := hrel
    obtain ⟨wq, rfl⟩ : ∃ z : World, z = wr := ⟨_, rfl⟩
    have HFIT := Lib.hid hfit
    have BQ := below_step B3 (Nat.le_refl _) hbr
    have HQ := Lib.hid (row_later hbr H3.out)
    clear hfit
    by_cases hlt : k < N
    ·obtain ⟨o, ho⟩ : ∃ o, l[k]? = some o := ⟨l[k]'(by rw [HN.out]; exact hlt), List.getElem?_eq_getElem _⟩
     obtain ⟨b, off, ha, hcell⟩ := HC.out (by omega)
     subst ha
     obtain ⟨vr, vt, c0, c1, c2, c3, c4, c5, hsr, htr, hz⟩ := (hcell k o ho).later BQ
     obtain ⟨ar, capr, rfl, hrl, _, hrc⟩ := hsr
     obtain ⟨at1, capt, rfl, _⟩ := htr
     have HO := Lib.hid ho
     have HRC := Lib.hid hrc
     have bz := lt_of_cell c0
     have BX : Below wq.heap.size wq (wq.alloc (.cells #[.string o.id, .int .i64 o.kind, .int .i64 o.x, .int .i64 o.y, .slice ar o.refs.length capr, .slice at1 o.tags.length capt] 36)) := (Below.refl _ _).alloc (Nat.le_refl _) _
     have HX := row_new wq (.cells #[.string o.id, .int .i64 o.kind, .int .i64 o.x, .int .i64 o.y, .slice ar o.refs.length capr, .slice at1 o.tags.length capt] 36)
     have HAT := Lib.hid (show atO l o.id = some o from at_some HOK.out (List.mem_of_getElem? ho))
     clear hcell ho hrc
     obtain ⟨mz, m0⟩ := rk1 HQ.out
     go_upto_region 7 with fail
     clear m0 mz
     generalize hwx : wq.alloc (.cells #[.string o.id, .int .i64 o.kind, .int .i64 o.x, .int .i64 o.y, .slice ar o.refs.length capr, .slice at1 o.tags.length capt] 36) = wx
     rw [hwx] at BX HX
     obtain ⟨b7, hb7⟩ : ∃ z, z = wq.heap.size := ⟨_, rfl⟩
     rw [← hb7] at HX ⊢
     have HX := Lib.hid HX
     have HMX := Lib.hid (row_later BX HQ.out)
     have BWX := below_step BQ (Nat.le_refl _) BX
     have BX3 := below_step hbr (Nat.le_refl _) BX
     clear hwx c0 c1 c2 c3 c4 c5 bz hb7 HQ hbr BQ
     obtain ⟨xz, x0, x1, x2, x3, x4, x5⟩ := rk6 HX.out
     obtain ⟨mz, m0⟩ := rk1 HMX.out
     have key := pts_cases HOK.out (List.mem_of_getElem? HO.out)
     rcases key with ⟨he, hF⟩ | ⟨he, hF⟩ | ⟨he, hkk⟩
     ·have P1 := Lib.hid (PT.out HOK.out _ _ HAT.out _ he wx BWX)
      have HF := Lib.hid hF
      clear he hF
      go_wp2_with fail
      refine P1.out.mono ?_
      rintro e w5 ⟨⟨v5, rfl⟩, hb⟩
      have B5 := below_step BWX (Nat.le_refl _) hb
      clear P1 hb
      go_wp2
      go_ret
      exact ⟨by rw [HF.out] <;> rfl, B5⟩
     ·have P1 := Lib.hid (PT.out HOK.out _ _ HAT.out _ he wx BWX)
      have HF := Lib.hid hF
      clear he hF
      go_wp2_with fail
      refine P1.out.mono ?_
      rintro e w5 ⟨⟨v5, rfl⟩, hb⟩
      have B5 := below_step BWX (Nat.le_refl _) hb
      have BX5 := below_step BX3 (Nat.le_refl _) hb
      have H5 := Lib.hid (row_later hb HX.out)
      clear P1 hb
      clear x0 x1 x2 x3 x4 x5 xz
      clear m0 mz
      go_wp2_with fail
      go_loopw [7] (fun i wi => i = .int .i64 0 ∧ Below w5.heap.size w5 wi) (fun i _ => 0)
      case atStart => exact ⟨rfl, Below.refl _ _⟩
      case round =>
       obtain ⟨rfl, hbi⟩ := hrel
       obtain ⟨wi, rfl⟩ : ∃ z : World, z = wr := ⟨_, rfl⟩
       have H6 := Lib.hid (row_later hbi H5.out)
       have BI := below_step BX5 (Nat.le_refl _) hbi
       obtain ⟨xz, x0, x1, x2, x3, x4, x5⟩ := rk6 H6.out
       have HNX := Lib.hid (show ∀ q ∈ l.take (k + 1), fitO l q = true from fun q hq => by
        rw [take_snoc' HO.out] at hq
        rcases List.mem_append.1 hq with h | h
        ·exact HFIT.out q h
        ·rw [List.mem_singleton.1 h]; exact HF.out)
       by_cases hz0 : 0 < o.refs.length
       all_goals
        go_wp2
        go_roundw
        case rel => exact ⟨k + 1, by go_num, by omega, HNX.out, BI⟩
        case measure => simp [intOf]; omega
     ·have P1 := Lib.hid (PT.out HOK.out _ _ HAT.out _ he wx BWX)
      have HKK := Lib.hid hkk
      clear he hkk
      go_wp2_with fail
      refine P1.out.mono ?_
      rintro e w5 ⟨⟨v5, rfl⟩, hb⟩
      have B5 := below_step BWX (Nat.le_refl _) hb
      have BX5 := below_step BX3 (Nat.le_refl _) hb
      have H5 := Lib.hid (row_later hb HX.out)
      have HM5 := Lib.hid (row_later hb HMX.out)
      have BXq := below_step BX (Nat.le_refl _) hb
      clear P1 hb
      clear x0 x1 x2 x3 x4 x5 xz
      clear m0 mz
      go_wp2_with fail
      go_loopw [7] (fun i wi => ∃ j : Nat, i = .int .i64 j ∧ j ≤ o.refs.length ∧ (∀ (q : Nat) (r : ByteArray), q < j → o.refs[q]? = some r → ∃ x, atO l r = some x ∧ x.kind = wantK o q) ∧ Below w5.heap.size w5 wi) (fun i _ => o.refs.length - (intOf i).toNat)
      case atStart => exact ⟨0, rfl, Nat.zero_le _, (fun q r h => absurd h (Nat.not_lt_zero q)), Below.refl _ _⟩
      case round =>
       obtain ⟨j, rfl, hj, hfi, hbi⟩ := hrel
       obtain ⟨wi, rfl⟩ : ∃ z : World, z = wr := ⟨_, rfl⟩
       have H6 := Lib.hid (row_later hbi H5.out)
       have HM6 := Lib.hid (row_later hbi HM5.out)
       have BI := below_step B5 (Nat.le_refl _) hbi
       have BI3 := below_step BX5 (Nat.le_refl _) hbi
       have HFI := Lib.hid hfi
       clear hfi
       by_cases hlt3 : j < o.refs.length
       ·obtain ⟨s, hs⟩ : ∃ s, o.refs[j]? = some s := ⟨o.refs[j], List.getElem?_eq_getElem hlt3⟩
        obtain ⟨b8, off8, ha8, hcell8⟩ := HRC.out (by omega)
        subst ha8
        have r0 := cell_later (below_step BXq (Nat.le_refl _) hbi) (hcell8 j s hs)
        have HS := Lib.hid hs
        obtain ⟨n, hfn⟩ : ∃ n, findI s l = n := ⟨_, rfl⟩
        have F1 := FD.out s
        rw [hfn] at F1
        have F1 := Lib.hid F1
        have HFN := Lib.hid hfn
        clear hcell8 hs hfn
        obtain ⟨xz, x0, x1, x2, x3, x4, x5⟩ := rk6 H6.out
        obtain ⟨mz, m0⟩ := rk1 HM6.out
        go_upto_region 13 with fail
        go_region_held3 (fun w' => w'.cell? ⟨b7, 4, none⟩ = some (.slice (some ⟨b8, off8, none⟩) o.refs.length capr) ∧ w'.cell? ⟨w.heap.size, 0, none⟩ = some (.slice (some ⟨b, off, none⟩) N cap) ∧ w'.cell? ⟨b8, off8 + j, none⟩ = some (.string s) ∧ Below wi.heap.size wi w')
         (first
          |exact ⟨x4, m0, r0, (Below.refl _ _).drew⟩
          |(have hq := ‹_ ∧ _ ∧ _ ∧ Below wi.heap.size wi _›; exact ⟨cell_later hb hq.1, cell_later hb hq.2.1, cell_later hb hq.2.2.1, below_step hq.2.2.2 (Nat.le_refl _) hb⟩)
          |assumption)
         (first
          |(go_at_call 17; refine (F1.out _ (below_step BI (Nat.le_refl _) (‹_ ∧ _ ∧ _ ∧ Below wi.heap.size wi _›).2.2.2)).mono ?_; rintro e wa ⟨rfl, hb⟩))
        obtain ⟨-, -, r1, hbA⟩ := ‹_ ∧ _ ∧ _ ∧ Below wi.heap.size wi _›
        clear x0 x1 x2 x3 x4 x5 xz
        clear m0 mz
        have H7 := Lib.hid (row_later hbA H6.out)
        have HM7 := Lib.hid (row_later hbA HM6.out)
        have BA := below_step BI (Nat.le_refl _) hbA
        have BA3 := below_step BI3 (Nat.le_refl _) hbA
        have HBA := Lib.hid hbA
        clear F1 r0 H6 HM6 hbA
        rcases want_cases HKK.out j with ⟨k5, j1, hw⟩ | ⟨k5, j1, hw⟩ | ⟨k5, j1, hw⟩
        all_goals
         have HW := Lib.hid hw
         clear hw
         rcases find_at (l := l) (r := s) with ⟨hf, hno⟩ | ⟨jx, x, hf, hx, hat⟩
         ·rw [HFN.out] at hf
          subst hf
          have HF := Lib.hid (show fitP l = false from fit_not (List.mem_of_getElem? HO.out) HS.out (fun z hz' => by rw [hno] at hz'; cases hz'))
          clear hno
          obtain ⟨xz, x0, x1, x2, x3, x4, x5⟩ := rk6 H7.out
          go_wp2
          go_ret
          exact ⟨by rw [HF.out] <;> rfl, BA⟩
         ·rw [HFN.out] at hf
          subst hf
          have hjN : jx < N := by
           have := (List.getElem?_eq_some_iff.1 hx).1
           rw [HN.out] at this
           exact this
          obtain ⟨bo2, off3, ha3, hcell3⟩ := HC.out (by omega)
          obtain ⟨rfl, rfl⟩ : b = bo2 ∧ off = off3 := by injection ha3 with a; injection a with a b; exact ⟨a, b⟩
          obtain ⟨_, _, _, e1, _⟩ := (hcell3 jx x hx).later BA
          have g1 : decide ((jx : Int) < 0) = false := decide_eq_false (by omega)
          have g2 : decide ((jx : Int) ≥ (N : Int)) = false := decide_eq_false (by omega)
          have HX2 := Lib.hid (List.mem_of_getElem? hx)
          have HAT2 := Lib.hid hat
          have ez := lt_of_cell e1
          clear ha3 hcell3 hx hat
          obtain ⟨xz, x0, x1, x2, x3, x4, x5⟩ := rk6 H7.out
          obtain ⟨mz, m0⟩ := rk1 HM7.out
          by_cases hkx : x.kind = wantK o j
          ·have hkw := hkx
           rw [HW.out] at hkw
           have hyb := bn_eq hkw
           have HKX := Lib.hid hkx
           clear hkx
           have key2 := pts_cases HOK.out HX2.out
           rcases key2 with ⟨he, hF⟩ | ⟨he, hF⟩ | ⟨he, hk4⟩
           ·have P2 := Lib.hid (PT.out HOK.out _ _ HAT2.out _ he)
            have HF := Lib.hid hF
            clear he hF hkw
            go_upto_region 19 with fail
            go_region_held3 (fun w' => w'.cell? ⟨b7, 4, none⟩ = some (.slice (some ⟨b8, off8, none⟩) o.refs.length capr) ∧ w'.cell? ⟨w.heap.size, 0, none⟩ = some (.slice (some ⟨b, off, none⟩) N cap) ∧ w'.cell? ⟨b8, off8 + j, none⟩ = some (.string s) ∧ Below wa.heap.size wa w')
             (first
              |exact ⟨x4, m0, r1, (Below.refl _ _).drew⟩
              |(have hq := ‹_ ∧ _ ∧ _ ∧ Below wa.heap.size wa _›; exact ⟨cell_later hb hq.1, cell_later hb hq.2.1, cell_later hb hq.2.2.1, below_step hq.2.2.2 (Nat.le_refl _) hb⟩)
              |assumption)
             (first
              |(go_at_call 24; refine (P2.out _ (below_step BA (Nat.le_refl _) (‹_ ∧ _ ∧ _ ∧ Below wa.heap.size wa _›).2.2.2)).mono ?_; rintro e wb ⟨⟨v9, rfl⟩, hb⟩))
            obtain ⟨-, -, -, hbB⟩ := ‹_ ∧ _ ∧ _ ∧ Below wa.heap.size wa _›
            have BB := below_step BA (Nat.le_refl _) hbB
            clear x0 x1 x2 x3 x4 x5 xz
            clear m0 mz
            go_wp2
            go_ret
            exact ⟨by rw [HF.out] <;> rfl, BB⟩
           ·have P2 := Lib.hid (PT.out HOK.out _ _ HAT2.out _ he)
            clear he hF hkw
            go_upto_region 19 with fail
            go_region_held3 (fun w' => w'.cell? ⟨b7, 4, none⟩ = some (.slice (some ⟨b8, off8, none⟩) o.refs.length capr) ∧ w'.cell? ⟨w.heap.size, 0, none⟩ = some (.slice (some ⟨b, off, none⟩) N cap) ∧ w'.cell? ⟨b8, off8 + j, none⟩ = some (.string s) ∧ Below wa.heap.size wa w')
             (first
              |exact ⟨x4, m0, r1, (Below.refl _ _).drew⟩
              |(have hq := ‹_ ∧ _ ∧ _ ∧ Below wa.heap.size wa _›; exact ⟨cell_later hb hq.1, cell_later hb hq.2.1, cell_later hb hq.2.2.1, below_step hq.2.2.2 (Nat.le_refl _) hb⟩)
              |assumption)
             (first
              |(go_at_call 24; refine (P2.out _ (below_step BA (Nat.le_refl _) (‹_ ∧ _ ∧ _ ∧ Below wa.heap.size wa _›).2.2.2)).mono ?_; rintro e wb ⟨⟨v9, rfl⟩, hb⟩))
            obtain ⟨-, -, -, hbB⟩ := ‹_ ∧ _ ∧ _ ∧ Below wa.heap.size wa _›
            have BB := below_step BA (Nat.le_refl _) hbB
            clear x0 x1 x2 x3 x4 x5 xz
            clear m0 mz
            have HFJ := Lib.hid (show ∀ (q : Nat) (r : ByteArray), q < j + 1 → o.refs[q]? = some r → ∃ x, atO l r = some x ∧ x.kind = wantK o q from fun q r hq hr => by
             by_cases hqi : q = j
             ·subst hqi
              rw [HS.out] at hr
              injection hr with hr
              subst hr
              exact ⟨x, HAT2.out, HKX.out⟩
             ·exact HFI.out q r (by omega) hr)
            have BB5 := Lib.hid (below_step (below_step hbi (Nat.le_refl _) HBA.out) (Nat.le_refl _) hbB)
            go_wp2
            go_roundw
            case rel => exact ⟨j + 1, by go_num, by omega, HFJ.out, BB5.out⟩
            case measure => simp [intOf]; omega
           ·omega
          ·have hkw := hkx
           rw [HW.out] at hkw
           have hyb := bn_ne hkw
           have HF := Lib.hid (show fitP l = false from fit_not (List.mem_of_getElem? HO.out) HS.out (fun z hz' => by
            rw [HAT2.out] at hz'
            injection hz' with hz'
            rw [← hz']
            exact hkx))
           clear hkx
           go_wp2
           go_ret
           exact ⟨by rw [HF.out] <;> rfl, BA⟩
       ·obtain rfl : j = o.refs.length := by omega
        have HNX := Lib.hid (show ∀ q ∈ l.take (k + 1), fitO l q = true from fun q hq => by
         rw [take_snoc' HO.out] at hq
         rcases List.mem_append.1 hq with h | h
         ·exact HFIT.out q h
         ·rw [List.mem_singleton.1 h]
          exact fit_iff.2 fun q r hr => HFI.out q r (List.getElem?_eq_some_iff.1 hr).1 hr)
        obtain ⟨xz, x0, x1, x2, x3, x4, x5⟩ := rk6 H6.out
        go_wp2
        go_roundw
        case rel => exact ⟨k + 1, by go_num, by omega, HNX.out, BI3⟩
        case measure => simp [intOf]; omega
    ·obtain rfl : k = N := by omega
     have htk : l.take k = l := List.take_of_length_le (by rw [HN.out]; exact Nat.le_refl _)
     have HF := Lib.hid (show fitP l = true from fit_parts.2 ⟨HOK.out, HCK.out, fun q hq => HFIT.out q (by rw [htk]; exact hq)⟩)
     obtain ⟨mz, m0⟩ := rk1 HQ.out
     go_wp2
     go_ret
     exact ⟨by rw [HF.out] <;> rfl, BQ⟩
  ·have d1 : decide ((0 : Int) < ((checkP l).length : Int)) = true := decide_eq_true (by omega)
   have d2 : decide (0 < (checkP l).length) = true := decide_eq_true (by omega)
   have HF := Lib.hid (show fitP l = false by
    cases hf : fitP l with
    |false => rfl
    |true => exact absurd (by rw [(fit_parts.1 hf).2.1]; rfl) hck)
   clear hck
   go_wp2
   go_ret
   exact ⟨by rw [HF.out] <;> rfl, B3⟩
end Go.Proofs.YtibpaaajghbkoaaGreat
