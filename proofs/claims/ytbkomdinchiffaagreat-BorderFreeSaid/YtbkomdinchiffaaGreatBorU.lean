/- slices.IndexFunc and DeleteFunc at items of the sweep. -/
import Derived.Test.YtbkomdinchiffaaGreatBorQ
namespace Go.Proofs.YtbkomdinchiffaaGreat
open Go.RowKit Go.Sort

/-- Is an item left of another one? -/
def leftI (y x : ItD) : Bool := decide (xhi x.2 < xlo y.2)
/-- Cells that hold a list of items, point by point. -/
def Holds9 (X : Array Value) (l : List ItD) (from' : Nat) : Prop := ∀ (a : Nat) (x : ItD) (t : Nat) (u : Value), from' ≤ a → l[a]? = some x → (encIt x)[t]? = some u → X[a * 9 + t]? = some u
theorem enc9_lt {x : ItD} {t : Nat} {u : Value} (h : (encIt x)[t]? = some u) : t < 9 := (List.getElem?_eq_some_iff.1 h).1
theorem Holds9.flat {X : Array Value} {l : List ItD} (h : Holds9 X l 0) : X.toList.take (l.length * 9) = l.flatMap encIt := by
  apply List.ext_getElem?
  intro i
  rw [List.getElem?_take]
  by_cases hi : i < l.length * 9
  · have hk : i / 9 < l.length := by omega
    have e : i / 9 * 9 + i % 9 = i := by omega
    have h1 := flat_get encIt 9 encIt_len l (i / 9) (i % 9) l[i / 9] (List.getElem?_eq_getElem hk) (by omega)
    rw [e] at h1
    have hu : (encIt l[i / 9])[i % 9]? = some ((encIt l[i / 9])[i % 9]'(by rw [encIt_len]; omega)) := List.getElem?_eq_getElem _
    have h2 := h (i / 9) _ (i % 9) _ (Nat.zero_le _) (List.getElem?_eq_getElem hk) hu
    rw [e] at h2
    rw [if_pos hi, h1, hu, Array.getElem?_toList, h2]
  · rw [if_neg hi, List.getElem?_eq_none (by rw [flat_length encIt 9 encIt_len]; omega)]
theorem Holds9.of_flat {X : Array Value} {l : List ItD} (h : X.toList.take (l.length * 9) = l.flatMap encIt) : Holds9 X l 0 := by
  intro a x t u _ hx hu
  have ht := enc9_lt hu
  have ha := (List.getElem?_eq_some_iff.1 hx).1
  have h1 := flat_get encIt 9 encIt_len l a t x hx ht
  rw [← h, List.getElem?_take, if_pos (by omega), Array.getElem?_toList, hu] at h1
  exact h1
theorem Holds9.mono {X : Array Value} {l : List ItD} {i j : Nat} (h : Holds9 X l i) (hij : i ≤ j) : Holds9 X l j := fun a x t u ha => h a x t u (Nat.le_trans hij ha)
theorem Holds9.splice_after {X : Array Value} {l : List ItD} {i j : Nat} {x : ItD} (h : Holds9 X l j) (hij : i < j) (hs : i * 9 + 9 ≤ X.size) : Holds9 (splice X (i * 9) (encIt x)) l j := by
  intro a y t u ha hy hu
  rw [splice_get _ _ _ (by rw [encIt_len]; exact hs), encIt_len, if_neg (by omega)]
  exact h a y t u ha hy hu
theorem Holds9.splice_snoc {X : Array Value} {l : List ItD} {x : ItD} (h : Holds9 X l 0) (hs : l.length * 9 + 9 ≤ X.size) : Holds9 (splice X (l.length * 9) (encIt x)) (l ++ [x]) 0 := by
  intro a y t u ha hy hu
  have ht := enc9_lt hu
  rw [splice_get _ _ _ (by rw [encIt_len]; exact hs), encIt_len]
  by_cases hal : a < l.length
  · rw [if_neg (by omega)]
    rw [List.getElem?_append_left hal] at hy
    exact h a y t u ha hy hu
  · rw [List.getElem?_append_right (by omega)] at hy
    have e : a = l.length := by
      have := (List.getElem?_eq_some_iff.1 hy).1
      simp at this; omega
    subst e
    simp at hy
    subst hy
    rw [if_pos ⟨by omega, by omega⟩, show l.length * 9 + t - l.length * 9 = t by omega]
    exact hu

def IdxI (A : List ItD) (y : ItD) (w : World) (e : Ending) (w' : World) : Prop :=
  (∃ n : Int, e = .returned (.int .i64 n) ∧ ((n = -1 ∧ ∀ x ∈ A, leftI y x = false) ∨ ∃ (i : Nat) (x : ItD), n = (i : Int) ∧ A[i]? = some x ∧ leftI y x = true ∧ ∀ z ∈ A.take i, leftI y z = false)) ∧ Below w.heap.size w w'
set_option maxRecDepth 100000 in
set_option maxHeartbeats 2000000 in
theorem idxI_any (v : Value) (A : List ItD) (y : ItD) (Ba : Nat) (w : World) (hv : RowE encIt 9 w v A) (hl : A.length ≤ 20000) (hs : w.heap[Ba]? = some (.cells (encIt y).toArray 156)) :
    Calls Tryz.prog 146 #[v, .func (.func 108) #[] #[.pointer (some ⟨Ba, 0, none⟩)]] w (IdxI A y w) := by
  have FR := Lib.hid (fun x W (hb : Below w.heap.size w W) => it2_any x y Ba W (row_later hb hs))
  obtain ⟨a, cap, rfl, hc⟩ := hv
  obtain ⟨N, hN⟩ : ∃ N, A.length = N := ⟨_, rfl⟩
  rw [hN] at hc hl ⊢
  have HN := Lib.hid hN
  have HC := Lib.hid hc
  clear hN hc hs
  go_enter Tryz.func146, Tryz.ntmps146
  go_wp2
  go_loopw [8] (fun i wr => ∃ k : Nat, k ≤ N ∧ i = .int .i64 k ∧ (∀ t ∈ A.take k, leftI y t = false) ∧ Below w.heap.size w wr) (fun i _ => N - (intOf i).toNat)
  case atStart => exact ⟨0, by omega, rfl, by simp, Below.refl _ _⟩
  case round =>
    obtain ⟨k, hk, rfl, hT, hbr⟩ := hrel
    have HT := Lib.hid hT
    have hzr := hbr.size
    clear hT
    by_cases hlt : k < N
    · obtain ⟨x, hx⟩ : ∃ x, A[k]? = some x := ⟨A[k]'(by rw [HN.out]; exact hlt), List.getElem?_eq_getElem _⟩
      obtain ⟨b, off, ha, hcell⟩ := HC.out (by omega)
      subst ha
      have d0' := cell_later hbr (hcell k x hx 0 _ rfl)
      have d0 : wr.cell? ⟨b, off + k * 9, none⟩ = some (.int .i64 x.1) := d0'
      have d1 := cell_later hbr (hcell k x hx 1 _ rfl)
      have d2 := cell_later hbr (hcell k x hx 2 _ rfl)
      have d3 := cell_later hbr (hcell k x hx 3 _ rfl)
      have d4 := cell_later hbr (hcell k x hx 4 _ rfl)
      have d5 := cell_later hbr (hcell k x hx 5 _ rfl)
      have d6 := cell_later hbr (hcell k x hx 6 _ rfl)
      have d7 := cell_later hbr (hcell k x hx 7 _ rfl)
      have d8 := cell_later hbr (hcell k x hx 8 _ rfl)
      have HX := Lib.hid hx
      have F1 := Lib.hid (FR.out x wr hbr)
      have bz := lt_of_cell d0
      clear hcell d0' hx
      have F2 := Lib.hid (show Calls Tryz.prog 108 #[.agg (encIt x).toArray, .pointer (some ⟨Ba, 0, none⟩)] wr fun e w' => e = .returned (.bool (leftI y x)) ∧ Below wr.heap.size wr w' from F1.out)
      obtain ⟨bd, hbd⟩ : ∃ z, z = leftI y x := ⟨_, rfl⟩
      rw [← hbd] at F2
      have HBD := Lib.hid hbd
      clear hbd F1
      simp only [encIt] at F2
      go_wp2_with fail
      refine F2.out.mono ?_
      rintro e w2 ⟨rfl, hb2⟩
      have B2 := below_step hbr (Nat.le_refl _) hb2
      clear d0 d1 d2 d3 d4 d5 d6 d7 d8 hb2 F2
      cases bd with
      | true =>
        have HE := Lib.hid (show IdxI A y w (.returned (.int .i64 k)) w2 from ⟨⟨_, rfl, Or.inr ⟨k, x, rfl, HX.out, HBD.out.symm, HT.out⟩⟩, B2⟩)
        go_wp2
        go_ret
        exact HE.out
      | false =>
        have HG := Lib.hid (show ∀ t ∈ A.take (k + 1), leftI y t = false by
          obtain ⟨hk', e⟩ := List.getElem?_eq_some_iff.1 HX.out
          rw [List.take_succ_eq_append_getElem hk', e]
          intro t ht
          rcases List.mem_append.1 ht with h | h
          · exact HT.out t h
          · rw [List.mem_singleton.1 h]; exact HBD.out.symm)
        go_wp2
        go_roundw
        case rel => exact ⟨k + 1, by omega, by go_num, HG.out, B2⟩
        case measure => simp [intOf]; omega
    · obtain rfl : k = N := by omega
      have HE := Lib.hid (show IdxI A y w (.returned (.int .i64 (-1))) wr from ⟨⟨_, rfl, Or.inl ⟨rfl, by
        have := HT.out
        rw [List.take_of_length_le (by rw [HN.out]; exact Nat.le_refl _)] at this
        exact this⟩⟩, hbr⟩)
      go_wp2
      go_ret
      exact HE.out

def DelPost (A : List ItD) (y : ItD) (base : Nat) (v : Value) (w : World) (e : Ending) (w' : World) : Prop :=
  ∃ v', e = .returned v' ∧ w'.ownsRow base 156 9 v' (A.filter fun x => !leftI y x).length ((A.filter fun x => !leftI y x).flatMap encIt) ∧ w.grownBy w' v.ownBlock ∧ v'.ownBlock = v.ownBlock
theorem filter_snoc {A : List ItD} {p : ItD → Bool} {j : Nat} {x : ItD} (hx : A[j]? = some x) : (A.take (j + 1)).filter p = (A.take j).filter p ++ if p x then [x] else [] := by
  obtain ⟨hk, e⟩ := List.getElem?_eq_some_iff.1 hx
  rw [List.take_succ_eq_append_getElem hk, e, List.filter_append]
  cases h : p x <;> simp [h]
theorem take_get {α : Type} {l : List α} {n i : Nat} {x : α} (h : (l.take n)[i]? = some x) : l[i]? = some x := by
  rw [List.getElem?_take] at h
  split at h
  · exact h
  · cases h
theorem zero9 (n : Nat) : ∀ v ∈ (Builtin.zeroCells (Value.agg #[.int .i64 0, .int .i64 0, .int .i64 0, .int .i64 0, .int .i64 0, .int .i64 0, .int .i64 0, .int .i64 0, .int .i64 0]).cells n).toList, v.oneCell' = true := by
  intro v hv
  have key : ∀ k, k < 9 → ((#[.int .i64 0, .int .i64 0, .int .i64 0, .int .i64 0, .int .i64 0, .int .i64 0, .int .i64 0, .int .i64 0, .int .i64 0] : Array Value)[k]!).oneCell' = true := by
    intro k hk
    match k, hk with
    | 0, _ | 1, _ | 2, _ | 3, _ | 4, _ | 5, _ | 6, _ | 7, _ | 8, _ => rfl
  simp only [Builtin.zeroCells, Value.cells, Array.toList_map, List.mem_map] at hv
  obtain ⟨i, _, rfl⟩ := hv
  exact key _ (Nat.mod_lt _ (by decide))
theorem zeroIt (w : World) : (zeroValue 156).run Tryz.prog w = .ok (.agg #[.int .i64 0, .int .i64 0, .int .i64 0, .int .i64 0, .int .i64 0, .int .i64 0, .int .i64 0, .int .i64 0, .int .i64 0]) w := by kernel_rfl

set_option maxRecDepth 100000 in
set_option maxHeartbeats 4000000 in
theorem delI_any (v : Value) (A : List ItD) (y : ItD) (Ba base : Nat) (w : World) (hv : w.ownsRow base 156 9 v A.length (A.flatMap encIt)) (hl : A.length ≤ 20000) (hs : w.heap[Ba]? = some (.cells (encIt y).toArray 156)) (hne : v.ownBlock ≠ some Ba) :
    Calls Tryz.prog 107 #[v, .func (.func 108) #[] #[.pointer (some ⟨Ba, 0, none⟩)]] w (DelPost A y base v w) := by
  have IX := Lib.hid (idxI_any v A y Ba w (RowE.of_own encIt_len rfl hv) hl hs)
  have FR := Lib.hid (fun x W (hb : W.heap[Ba]? = some (.cells (encIt y).toArray 156)) => (show Calls Tryz.prog 108 #[.agg (encIt x).toArray, .pointer (some ⟨Ba, 0, none⟩)] W fun e w' => e = .returned (.bool (leftI y x)) ∧ Below W.heap.size W w' from it2_any x y Ba W hb))
  have HV := Lib.hid hv
  obtain ⟨a, n0, cap, hva⟩ : ∃ a n0 cap, v = .slice a n0 cap := ⟨_, _, _, own_parts hv⟩
  subst hva
  go_enter Tryz.func107, Tryz.ntmps107
  go_wp2_with fail
  refine IX.out.mono ?_
  rintro e w2 ⟨⟨n, rfl, hn⟩, hb⟩
  clear IX
  rcases hn with ⟨rfl, hall⟩ | ⟨i0, x0, rfl, hx0, hl0, hbef⟩
  · have HF := Lib.hid (show (A.filter fun x => !leftI y x) = A from List.filter_eq_self.2 fun x hx => by rw [hall x hx]; rfl)
    have HE := Lib.hid (show DelPost A y base (.slice a n0 cap) w (.returned (.slice a n0 cap)) w2 from ⟨_, rfl, by rw [HF.out]; exact own_later HV.out hb, (World.grownBy.refl w none).trans ⟨hb.os, hb.tape, hb.output, hb.size, fun k hk _ => hb.block k hk⟩ |>.but _, rfl⟩)
    clear hall hb hv hs
    go_wp2
    go_ret
    exact HE.out
  · rcases HV.out.2 with ⟨h1, h2⟩ | ⟨g, cap', cur, h1, hb0, hc, hn1, hcm, hsz, hfl⟩
    · have := (List.getElem?_eq_some_iff.1 hx0).1; omega
    injection h1 with e1 e2 e3
    subst e1 e2 e3
    obtain ⟨N, hN⟩ : ∃ N, A.length = N := ⟨_, rfl⟩
    have hi0 : i0 < N := by rw [← hN]; exact (List.getElem?_eq_some_iff.1 hx0).1
    have hgB : g ≠ Ba := fun e => hne (by simp [Value.ownBlock, e])
    have HA0 := Holds9.of_flat hfl
    have h0 : (A.take (i0 + 1)).filter (fun x => !leftI y x) = A.take i0 := by
      rw [filter_snoc hx0, hl0, List.filter_eq_self.2 fun x hx => by rw [hbef x hx]; rfl]; simp
    have HS0 := Lib.hid (show i0 = ((A.take (i0 + 1)).filter fun x => !leftI y x).length ∧ Holds9 cur ((A.take (i0 + 1)).filter fun x => !leftI y x) 0 ∧ Holds9 cur A (i0 + 1) from ⟨by rw [h0, List.length_take]; omega, by
      rw [h0]
      exact fun a x t u ha hx hu => HA0 a x t u ha (take_get hx) hu, HA0.mono (Nat.zero_le _)⟩)
    have HC2 := Lib.hid (row_later hb hc)
    have HBa := Lib.hid (row_later hb (show w.heap[Ba]? = some (.cells (encIt y).toArray 156) from by assumption))
    have HBB := Lib.hid hb
    have HFL := Lib.hid (And.intro hb0 (And.intro hn1 (And.intro hcm hsz)))
    have HNN := Lib.hid hN
    rw [hN] at hl hn1 ⊢
    have hm1 : ((i0 : Int) == -1) = false := by rw [beq_eq_false_iff_ne]; omega
    clear hN hfl HA0 h0 hx0 hl0 hbef hc hb hv HV
    go_wp2_with fail
    go_loopw [5, 6] (fun v5 v6 wr => ∃ (i j : Nat) (X : Array Value), v5 = .int .i64 i ∧ v6 = .int .i64 j ∧ i < j ∧ j ≤ N ∧ wr.heap[g]? = some (.cells X 156 (0, 0)) ∧ X.size = cap * 9 ∧ (i = ((A.take j).filter fun x => !leftI y x).length ∧ Holds9 X ((A.take j).filter fun x => !leftI y x) 0 ∧ Holds9 X A j) ∧ w2.grownBy wr (some g)) (fun _ v6 _ => N - (intOf v6).toNat)
    case atStart => exact ⟨i0, i0 + 1, cur, rfl, by go_num, by omega, by omega, HC2.out, HFL.out.2.2.2, HS0.out, World.grownBy.refl _ _⟩
    case round =>
      obtain ⟨i, j, X, rfl, rfl, hij, hjN, hX, hXs, hst, hgr⟩ := hrel
      have HXg := Lib.hid hX
      have HST := Lib.hid hst
      have HGR := Lib.hid hgr
      have hzr := hgr.size
      have HBr := Lib.hid (row_grown hgr HBa.out (fun e => hgB (by injection e with e; exact e.symm)))
      clear hX hst hgr
      by_cases hlt : j < N
      · obtain ⟨x, hx⟩ : ∃ x, A[j]? = some x := ⟨A[j]'(by rw [HNN.out]; exact hlt), List.getElem?_eq_getElem _⟩
        have x0 := cell_of_row wr _ (j * 9 + 0) _ _ _ HXg.out
        have x1 := cell_of_row wr _ (j * 9 + 1) _ _ _ HXg.out
        have x2 := cell_of_row wr _ (j * 9 + 2) _ _ _ HXg.out
        have x3 := cell_of_row wr _ (j * 9 + 3) _ _ _ HXg.out
        have x4 := cell_of_row wr _ (j * 9 + 4) _ _ _ HXg.out
        have x5 := cell_of_row wr _ (j * 9 + 5) _ _ _ HXg.out
        have x6 := cell_of_row wr _ (j * 9 + 6) _ _ _ HXg.out
        have x7 := cell_of_row wr _ (j * 9 + 7) _ _ _ HXg.out
        have x8 := cell_of_row wr _ (j * 9 + 8) _ _ _ HXg.out
        rw [show X[j * 9 + 0]? = some (.int .i64 x.1) from HST.out.2.2 j x 0 _ (Nat.le_refl _) hx rfl] at x0
        rw [show X[j * 9 + 1]? = some (.int .i64 x.2.1.1) from HST.out.2.2 j x 1 _ (Nat.le_refl _) hx rfl] at x1
        rw [show X[j * 9 + 2]? = some (.int .i64 x.2.1.2) from HST.out.2.2 j x 2 _ (Nat.le_refl _) hx rfl] at x2
        rw [show X[j * 9 + 3]? = some (.int .i64 x.2.2.1) from HST.out.2.2 j x 3 _ (Nat.le_refl _) hx rfl] at x3
        rw [show X[j * 9 + 4]? = some (.int .i64 x.2.2.2) from HST.out.2.2 j x 4 _ (Nat.le_refl _) hx rfl] at x4
        rw [show X[j * 9 + 5]? = some (.int .i64 (xlo x.2)) from HST.out.2.2 j x 5 _ (Nat.le_refl _) hx rfl] at x5
        rw [show X[j * 9 + 6]? = some (.int .i64 (xhi x.2)) from HST.out.2.2 j x 6 _ (Nat.le_refl _) hx rfl] at x6
        rw [show X[j * 9 + 7]? = some (.int .i64 (ylo x.2)) from HST.out.2.2 j x 7 _ (Nat.le_refl _) hx rfl] at x7
        rw [show X[j * 9 + 8]? = some (.int .i64 (yhi x.2)) from HST.out.2.2 j x 8 _ (Nat.le_refl _) hx rfl] at x8
        have x0' : wr.cell? ⟨g, j * 9, none⟩ = some (.int .i64 x.1) := x0
        have gz := lt_of_block HXg.out
        have HJX := Lib.hid hx
        have F1 := Lib.hid (fun W hb => FR.out x W hb)
        have HFS := Lib.hid (filter_snoc (p := fun x => !leftI y x) hx)
        clear hx x0
        obtain ⟨bd, hbd⟩ : ∃ z, z = leftI y x := ⟨_, rfl⟩
        rw [← hbd] at F1 HFS
        clear hbd
        have HEN := Lib.hid (show (encIt x).toArray = #[.int .i64 x.1, .int .i64 x.2.1.1, .int .i64 x.2.1.2, .int .i64 x.2.2.1, .int .i64 x.2.2.2, .int .i64 (xlo x.2), .int .i64 (xhi x.2), .int .i64 (ylo x.2), .int .i64 (yhi x.2)] from rfl)
        rw [HEN.out] at F1
        go_wp2_with fail
        have BX : Below wr.heap.size wr (wr.alloc (.cells #[.int .i64 x.1, .int .i64 x.2.1.1, .int .i64 x.2.1.2, .int .i64 x.2.2.1, .int .i64 x.2.2.2, .int .i64 (xlo x.2), .int .i64 (xhi x.2), .int .i64 (ylo x.2), .int .i64 (yhi x.2)] 156)) := (by repeat' (first | exact Below.refl _ _ | refine Below.drew ?_ | refine Below.drewN' ?_ | refine Below.setCell ?_ (by first | omega | (simp; done) | exact Below.size (by assumption) | (simp; omega)) _ | refine Below.alloc ?_ (by first | omega | (simp; done) | exact Below.size (by assumption) | (simp; omega)) _ | refine Below.trans ?_ (Below.mono (by assumption) ?_) | (first | omega | (simp; done) | exact Below.size (by assumption) | (simp; omega))))
        have HV4 := row_new wr (.cells #[.int .i64 x.1, .int .i64 x.2.1.1, .int .i64 x.2.1.2, .int .i64 x.2.2.1, .int .i64 x.2.2.2, .int .i64 (xlo x.2), .int .i64 (xhi x.2), .int .i64 (ylo x.2), .int .i64 (yhi x.2)] 156)
        generalize hw4 : wr.alloc (.cells #[.int .i64 x.1, .int .i64 x.2.1.1, .int .i64 x.2.1.2, .int .i64 x.2.2.1, .int .i64 x.2.2.2, .int .i64 (xlo x.2), .int .i64 (xhi x.2), .int .i64 (ylo x.2), .int .i64 (yhi x.2)] 156) = w4
        rw [hw4] at BX HV4
        have hz4 : w4.heap.size = wr.heap.size + 1 := by rw [← hw4]; simp
        clear hw4
        refine (F1.out _ (row_later BX HBr.out)).mono ?_
        rintro e w5 ⟨rfl, hb5⟩
        have B5 := below_step BX (Nat.le_refl _) hb5
        have HX5 := Lib.hid (row_later B5 HXg.out)
        have HV5 := Lib.hid (row_later hb5 HV4)
        have hz5 := hb5.size
        have G5 := Lib.hid (HGR.out.trans ⟨B5.os, B5.tape, B5.output, B5.size, fun k hk _ => B5.block k hk⟩)
        clear hb5 BX HV4 B5 x1 x2 x3 x4 x5 x6 x7 x8 x0'
        cases bd with
        | true =>
          have HF2 := Lib.hid (show ((A.take (j + 1)).filter fun x => !leftI y x) = (A.take j).filter fun x => !leftI y x by rw [HFS.out]; simp)
          have HS2 := Lib.hid (show i = ((A.take (j + 1)).filter fun x => !leftI y x).length ∧ Holds9 X ((A.take (j + 1)).filter fun x => !leftI y x) 0 ∧ Holds9 X A (j + 1) from by
            rw [HF2.out]; exact ⟨HST.out.1, HST.out.2.1, HST.out.2.2.mono (Nat.le_succ _)⟩)
          go_wp2
          go_roundw
          case rel => exact ⟨i, j + 1, X, rfl, by go_num, by omega, by omega, HX5.out, hXs, HS2.out, G5.out⟩
          case measure => simp [intOf]; omega
        | false =>
          have HF2 := Lib.hid (show ((A.take (j + 1)).filter fun x => !leftI y x) = ((A.take j).filter fun x => !leftI y x) ++ [x] by rw [HFS.out]; simp)
          have hcap : N ≤ cap := by have := HFL.out.2.1; rw [HNN.out] at this; exact this
          have hi9 : i * 9 + 9 ≤ X.size := by omega
          obtain ⟨u0', hu0⟩ : ∃ u, X[i * 9 + 0]? = some u := ⟨_, Array.getElem?_eq_getElem (by omega)⟩
          have s0 := (cell_of_row w5 _ (i * 9 + 0) _ _ _ HX5.out).trans hu0
          obtain ⟨u1', hu1⟩ : ∃ u, X[i * 9 + 1]? = some u := ⟨_, Array.getElem?_eq_getElem (by omega)⟩
          have s1 := (cell_of_row w5 _ (i * 9 + 1) _ _ _ HX5.out).trans hu1
          obtain ⟨u2', hu2⟩ : ∃ u, X[i * 9 + 2]? = some u := ⟨_, Array.getElem?_eq_getElem (by omega)⟩
          have s2 := (cell_of_row w5 _ (i * 9 + 2) _ _ _ HX5.out).trans hu2
          obtain ⟨u3', hu3⟩ : ∃ u, X[i * 9 + 3]? = some u := ⟨_, Array.getElem?_eq_getElem (by omega)⟩
          have s3 := (cell_of_row w5 _ (i * 9 + 3) _ _ _ HX5.out).trans hu3
          obtain ⟨u4', hu4⟩ : ∃ u, X[i * 9 + 4]? = some u := ⟨_, Array.getElem?_eq_getElem (by omega)⟩
          have s4 := (cell_of_row w5 _ (i * 9 + 4) _ _ _ HX5.out).trans hu4
          obtain ⟨u5', hu5⟩ : ∃ u, X[i * 9 + 5]? = some u := ⟨_, Array.getElem?_eq_getElem (by omega)⟩
          have s5 := (cell_of_row w5 _ (i * 9 + 5) _ _ _ HX5.out).trans hu5
          obtain ⟨u6', hu6⟩ : ∃ u, X[i * 9 + 6]? = some u := ⟨_, Array.getElem?_eq_getElem (by omega)⟩
          have s6 := (cell_of_row w5 _ (i * 9 + 6) _ _ _ HX5.out).trans hu6
          obtain ⟨u7', hu7⟩ : ∃ u, X[i * 9 + 7]? = some u := ⟨_, Array.getElem?_eq_getElem (by omega)⟩
          have s7 := (cell_of_row w5 _ (i * 9 + 7) _ _ _ HX5.out).trans hu7
          obtain ⟨u8', hu8⟩ : ∃ u, X[i * 9 + 8]? = some u := ⟨_, Array.getElem?_eq_getElem (by omega)⟩
          have s8 := (cell_of_row w5 _ (i * 9 + 8) _ _ _ HX5.out).trans hu8
          have f0 := frozen_of_row w5 _ (i * 9 + 0) _ _ HX5.out
          have f1 := frozen_of_row w5 _ (i * 9 + 1) _ _ HX5.out
          have f2 := frozen_of_row w5 _ (i * 9 + 2) _ _ HX5.out
          have f3 := frozen_of_row w5 _ (i * 9 + 3) _ _ HX5.out
          have f4 := frozen_of_row w5 _ (i * 9 + 4) _ _ HX5.out
          have f5 := frozen_of_row w5 _ (i * 9 + 5) _ _ HX5.out
          have f6 := frozen_of_row w5 _ (i * 9 + 6) _ _ HX5.out
          have f7 := frozen_of_row w5 _ (i * 9 + 7) _ _ HX5.out
          have f8 := frozen_of_row w5 _ (i * 9 + 8) _ _ HX5.out
          have s0' : w5.cell? ⟨g, i * 9, none⟩ = some u0' := s0
          have f0' : w5.frozen? ⟨g, i * 9, none⟩ = false := f0
          clear hu0 hu1 hu2 hu3 hu4 hu5 hu6 hu7 hu8 s0 f0 hi9
          have bz := lt_of_block HV5.out
          have b0 := cell_of_row w5 _ 0 _ _ _ HV5.out
          have b1 := cell_of_row w5 _ 1 _ _ _ HV5.out
          have b2 := cell_of_row w5 _ 2 _ _ _ HV5.out
          have b3 := cell_of_row w5 _ 3 _ _ _ HV5.out
          have b4 := cell_of_row w5 _ 4 _ _ _ HV5.out
          have b5 := cell_of_row w5 _ 5 _ _ _ HV5.out
          have b6 := cell_of_row w5 _ 6 _ _ _ HV5.out
          have b7 := cell_of_row w5 _ 7 _ _ _ HV5.out
          have b8 := cell_of_row w5 _ 8 _ _ _ HV5.out
          simp only [List.getElem?_toArray, List.getElem?_cons_zero, List.getElem?_cons_succ] at b0 b1 b2 b3 b4 b5 b6 b7 b8
          go_wp2_with fail
          have hcs : ((((((((w5.setCell ⟨g, i * 9, none⟩ (.int .i64 x.1)).setCell ⟨g, i * 9 + 1, none⟩ (.int .i64 x.2.1.1)).setCell ⟨g, i * 9 + 2, none⟩ (.int .i64 x.2.1.2)).setCell ⟨g, i * 9 + 3, none⟩ (.int .i64 x.2.2.1)).setCell ⟨g, i * 9 + 4, none⟩ (.int .i64 x.2.2.2)).setCell ⟨g, i * 9 + 5, none⟩ (.int .i64 (xlo x.2))).setCell ⟨g, i * 9 + 6, none⟩ (.int .i64 (xhi x.2))).setCell ⟨g, i * 9 + 7, none⟩ (.int .i64 (ylo x.2))).setCell ⟨g, i * 9 + 8, none⟩ (.int .i64 (yhi x.2)) = w5.setCells g (i * 9) (encIt x) := rfl
          have HX6 := Lib.hid (setCells_block (encIt x) (i * 9) w5 X HX5.out)
          have G6 := Lib.hid (G5.out.trans (setCells_grown (g := g) (encIt x) (i * 9) w5))
          have hi9 : i * 9 + 9 ≤ X.size := by omega
          have HS2 := Lib.hid (show i + 1 = ((A.take (j + 1)).filter fun x => !leftI y x).length ∧ Holds9 (splice X (i * 9) (encIt x)) ((A.take (j + 1)).filter fun x => !leftI y x) 0 ∧ Holds9 (splice X (i * 9) (encIt x)) A (j + 1) from by
            rw [HF2.out, List.length_append, ← HST.out.1]
            refine ⟨rfl, ?_, (HST.out.2.2.splice_after hij hi9).mono (Nat.le_succ _)⟩
            have h := HST.out.2.1.splice_snoc (x := x) (by rw [← HST.out.1]; exact hi9)
            rw [← HST.out.1] at h
            exact h)
          have hss := size_splice (encIt x) X (i * 9)
          have hsz2 : (splice X (i * 9) (encIt x)).size = cap * 9 := by rw [hss]; exact hXs
          go_roundw
          case rel =>
            rw [hcs]
            exact ⟨i + 1, j + 1, splice X (i * 9) (encIt x), by go_num, by go_num, by omega, by omega, HX6.out, hsz2, HS2.out, G6.out⟩
          case measure => simp [intOf]; omega
      · obtain rfl : j = N := by omega
        have hcl := fun ty => run_clear (P := Tryz.prog) (ty := ty) (c := cap - i) (n := j - i) (o := i * 9) Tryz.underlying151 (zeroIt wr) HXg.out (by simp only [Value.cells]; show _ + _ * 9 ≤ _; have := HFL.out.2.1; rw [HNN.out] at this; omega) (by omega) (zero9 _)
        obtain ⟨Y, hY⟩ : ∃ Y, Y = (X.toList.take (i * 9) ++ (Builtin.zeroCells (Value.agg #[.int .i64 0, .int .i64 0, .int .i64 0, .int .i64 0, .int .i64 0, .int .i64 0, .int .i64 0, .int .i64 0, .int .i64 0]).cells (j - i)).toList ++ X.toList.drop (i * 9 + (j - i) * (Value.agg #[.int .i64 0, .int .i64 0, .int .i64 0, .int .i64 0, .int .i64 0, .int .i64 0, .int .i64 0, .int .i64 0, .int .i64 0]).cells.size)).toArray := ⟨_, rfl⟩
        rw [← hY] at hcl
        have hle : i * 9 + (j - i) * 9 ≤ X.size := by have := HFL.out.2.1; rw [HNN.out] at this; omega
        have hYs : Y.size = cap * 9 := by
          rw [hY, List.size_toArray, List.length_append, List.length_append, zeroCells_size, List.length_take, List.length_drop]
          show min (i * 9) _ + (j - i) * 9 + (_ - (i * 9 + (j - i) * 9)) = _
          rw [Array.length_toList]; omega
        have hYt : Y.toList.take (i * 9) = ((A.take j).filter fun x => !leftI y x).flatMap encIt := by
          have h2 := HST.out.2.1.flat
          rw [← HST.out.1] at h2
          rw [hY, List.append_assoc, ← h2]
          have hl9 : (X.toList.take (i * 9)).length = i * 9 := by rw [List.length_take, Array.length_toList]; omega
          rw [List.take_append_of_le_length (by omega), List.take_of_length_le (by omega)]
        have hA : A.take j = A := List.take_of_length_le (by rw [HNN.out]; exact Nat.le_refl _)
        have hi := HST.out.1
        rw [hA] at hYt hi
        have hg3 : (wr.setRow g Y).heap[g]? = some (.cells Y 156 (0, 0)) := setRow_heap wr g X _ _ _ HXg.out
        have hgr3 : wr.grownBy (wr.setRow g Y) (some g) := ⟨rfl, rfl, rfl, by simp, fun k hk hne' => setRow_other _ _ _ _ (fun e => hne' (by rw [e]))⟩
        have HE := Lib.hid (show DelPost A y base (.slice (some ⟨g, 0, none⟩) j cap) w (.returned (.slice (some ⟨g, 0, none⟩) i cap)) (wr.setRow g Y) from ⟨_, rfl, ⟨by rw [flat_length encIt 9 encIt_len], Or.inr ⟨g, cap, Y, by rw [← hi], HFL.out.1, hg3, by rw [← hi]; have := HFL.out.2.1; rw [HNN.out] at this; omega, HFL.out.2.2.1, hYs, by rw [← hi]; exact hYt⟩⟩,
          ((show w.grownBy w2 (some g) from ⟨HBB.out.os, HBB.out.tape, HBB.out.output, HBB.out.size, fun k hk _ => HBB.out.block k hk⟩).trans HGR.out).trans hgr3, rfl⟩)
        clear hYs hYt hA hi hg3 hgr3 hY hle
        go_wp2
        go_ret
        exact HE.out
end Go.Proofs.YtbkomdinchiffaaGreat
