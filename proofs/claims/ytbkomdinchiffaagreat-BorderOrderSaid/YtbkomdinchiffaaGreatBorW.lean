/- border.meets, for lists that are not divided. -/
import Derived.Test.YtbkomdinchiffaaGreatBorVPV
namespace Go.Proofs.YtbkomdinchiffaaGreat
open Go.RowKit Go.Sort Go.Maps

def encNt (i : Nat) : List Value := [.int .i64 i]
theorem encNt_len (x : Nat) : (encNt x).length = 1 := rfl
theorem encNt_one (x : Nat) : ∀ v ∈ encNt x, v.oneCell' = true := by
  intro v hv
  simp only [encNt, List.mem_cons, List.not_mem_nil, or_false] at hv
  subst hv; rfl
def mn3 (a b c : Int) : Int := min (min a b) c
def mx3 (a b c : Int) : Int := max (max a b) c
theorem run_min3 (P : Program) (w : World) (ts : Array TypeId) (t : TypeId) (a b c : Int) : (Builtin.min_ ts t #[.int .i64 a, .int .i64 b, .int .i64 c]).run P w = .ok (.int .i64 (mn3 a b c)) w := by
  have e : ∀ x y : Int, (if y < x then y else x) = min x y := fun x y => by split <;> omega
  simp [Builtin.min_, Builtin.min2, mn3, e]
theorem run_max3 (P : Program) (w : World) (ts : Array TypeId) (t : TypeId) (a b c : Int) : (Builtin.max_ ts t #[.int .i64 a, .int .i64 b, .int .i64 c]).run P w = .ok (.int .i64 (mx3 a b c)) w := by
  have e : ∀ x y : Int, (if x < y then y else x) = max x y := fun x y => by split <;> omega
  simp [Builtin.max_, Builtin.max2, mx3, e]
theorem run_min2 (P : Program) (W : World) (ts : Array TypeId) (t : TypeId) (a b : Int) : (Builtin.min_ ts t #[.int .i64 a, .int .i64 b]).run P W = .ok (.int .i64 (min a b)) W := by
  have e : (if b < a then b else a) = min a b := by split <;> omega
  simp [Builtin.min_, Builtin.min2, e]
theorem run_max2 (P : Program) (W : World) (ts : Array TypeId) (t : TypeId) (a b : Int) : (Builtin.max_ ts t #[.int .i64 a, .int .i64 b]).run P W = .ok (.int .i64 (max a b)) W := by
  have e : (if a < b then b else a) = max a b := by split <;> omega
  simp [Builtin.max_, Builtin.max2, e]
/-- Cells lie apart from a map. -/
theorem MapAt.apart {κ ν : Type} {P : Program} {t : TypeId} {ek : κ → Value} {ev : ν → Value} {w : World} {b : Nat} {l : List (κ × ν)} (h : MapAt P t ek ev w b l) {g o : Nat} {v : Value} (hc : w.cell? ⟨g, o, none⟩ = some v) : g ≠ b := by
  rintro rfl
  obtain ⟨es, clock, h1, _⟩ := h
  simp [World.cell?, h1] at hc
theorem cell_grown {w w' : World} {row : Option Nat} (hg : w.grownBy w' row) {g o : Nat} {v : Value} (hc : w.cell? ⟨g, o, none⟩ = some v) (hne : some g ≠ row) : w'.cell? ⟨g, o, none⟩ = some v := by
  have hb := hg.block g (lt_of_cell hc) hne
  unfold World.cell? at hc ⊢
  rw [hb]; exact hc
theorem StableW.mapAt {κ ν : Type} (P : Program) (t : TypeId) (ek : κ → Value) (ev : ν → Value) (b : Nat) (l : List (κ × ν)) : StableW fun W => MapAt P t ek ev W b l := fun _ _ h h2 => h.on h2
theorem wf_nat {n : Nat} (h : n ≤ 20000) : (Lit.int .i64 (n : Int)).wf = true := by
  simp [Lit.wf, IntKind.min, IntKind.max, IntKind.bits, IntKind.signed]
  omega

/-- What is found, as the map holds it. -/
abbrev FdD := (Int × Int) × Int
def toFd (m : MtD) : FdD := (((m.1 : Int), (m.2.1 : Int)), m.2.2)
abbrev evI (k : Int) : Value := .int .i64 k
abbrev FoundAt (w : World) (b : Nat) (F : List FdD) : Prop := MapAt Tryz.prog 92 intK evI w b F
theorem fd_put {M : List MtD} (hdet : ∀ m ∈ M, ∀ m' ∈ M, m.1 = m'.1 → m.2.1 = m'.2.1 → m.2.2 = m'.2.2) {q : Nat} {m : MtD} (hm : M[q]? = some m) {F : List FdD} (hF : ∀ p, p ∈ F ↔ ∃ m ∈ M.take q, p = toFd m) (p : FdD) :
    p ∈ aput (toFd m).1 (toFd m).2 F ↔ ∃ m ∈ M.take (q + 1), p = toFd m := by
  obtain ⟨hk, e⟩ := List.getElem?_eq_some_iff.1 hm
  have hmM : m ∈ M := List.mem_of_getElem? hm
  rw [List.take_succ_eq_append_getElem hk, e]
  constructor
  · intro h
    rcases mem_aput h with rfl | h
    · exact ⟨m, by simp, rfl⟩
    · obtain ⟨m', h1, h2⟩ := (hF p).1 h
      exact ⟨m', List.mem_append_left _ h1, h2⟩
  · rintro ⟨m', h1, rfl⟩
    rcases List.mem_append.1 h1 with h1 | h1
    · by_cases hk' : (toFd m').1 = (toFd m).1
      · have e2 : m'.2.2 = m.2.2 := by
          simp only [toFd, Prod.mk.injEq] at hk'
          exact hdet m' (List.mem_of_mem_take h1) m hmM (by omega) (by omega)
        have : toFd m' = ((toFd m).1, (toFd m).2) := Prod.ext hk' e2
        rw [this]; exact mem_aput_self _ _ _
      · exact mem_aput_other ((hF _).2 ⟨m', h1, rfl⟩) hk'
    · simp only [List.mem_cons, List.not_mem_nil, or_false] at h1
      subst h1
      exact mem_aput_self _ _ _
def MeetsPost (S : List Sg) (Bf : Nat) (w : World) (e : Ending) (w' : World) : Prop :=
  ∃ F : List FdD, e = .returned (.tuple #[]) ∧ FoundAt w' Bf F ∧ w.grownBy w' (some Bf) ∧ ∀ p : FdD, p ∈ F ↔ ∃ (i j : Nat) (s t : Sg), i < j ∧ S[i]? = some s ∧ S[j]? = some t ∧ p = (((i : Int), (j : Int)), meetsQ s t) ∧ meetsQ s t ≠ 0

set_option maxRecDepth 100000 in
set_option maxHeartbeats 4000000 in
theorem meets_any (v vI : Value) (Bf : Nat) (S : List Sg) (w : World) (hv : RowE encSg 4 w v S) (hI : RowE encNt 1 w vI (List.range S.length)) (hf : FoundAt w Bf []) (hl : S.length ≤ 20000) :
    Calls Tryz.prog 37 #[v, vI, .map (some Bf)] w (MeetsPost S Bf w) := by
  have mixed : Tryz.prog.follows .mixedOrders = true := by kernel_rfl
  obtain ⟨a, cap, rfl, hc⟩ := hv
  obtain ⟨aI, capI, rfl, hcI⟩ := hI
  obtain ⟨N, hN⟩ : ∃ N, S.length = N := ⟨_, rfl⟩
  rw [hN] at hc hl hcI ⊢
  rw [List.length_range] at hcI ⊢
  have HN := Lib.hid hN
  have HC := Lib.hid hc
  have HCI := Lib.hid hcI
  have HF0 := Lib.hid hf
  obtain ⟨i0, hi, hi0, hi1, hi2⟩ := info_parts infoSg
  have hbf := hf.lt
  clear hN hc hcI hf
  go_enter Tryz.func37, Tryz.ntmps37
  go_wp2_with fail
  go_loopw [6, 7, 8, 28] (fun v6 v7 v8 i wr => ∃ (k : Nat) (lo hi : Int), i = .int .i64 k ∧ v7 = .int .i64 lo ∧ v8 = .int .i64 hi ∧ k ≤ N ∧ wr.ownsRow w.heap.size 39 4 v6 k ((S.take k).flatMap encSg) ∧ Below w.heap.size w wr) (fun _ _ _ i _ => N - (intOf i).toNat)
  case atStart => exact ⟨0, 0, 0, rfl, rfl, rfl, by omega, World.ownsRow_nil _ _ _ _, Below.refl _ _⟩
  case round =>
    obtain ⟨k, lo, hi', rfl, rfl, rfl, hk, hown, hbr⟩ := hrel
    have HOWN := Lib.hid hown
    have HBR := Lib.hid hbr
    have hzr := hbr.size
    clear hown
    by_cases hlt : k < N
    · obtain ⟨s, hs⟩ : ∃ s, S[k]? = some s := ⟨S[k]'(by rw [HN.out]; exact hlt), List.getElem?_eq_getElem _⟩
      obtain ⟨b, off, ha, hcell⟩ := HC.out (by omega)
      subst ha
      obtain ⟨b2, off2, ha2, hcell2⟩ := HCI.out (by omega)
      subst ha2
      have d0' := cell_later hbr (hcell k s hs 0 _ rfl)
      have d0 : wr.cell? ⟨b, off + k * 4, none⟩ = some (.int .i64 s.1.1) := d0'
      have d1 := cell_later hbr (hcell k s hs 1 _ rfl)
      have d2 := cell_later hbr (hcell k s hs 2 _ rfl)
      have d3 := cell_later hbr (hcell k s hs 3 _ rfl)
      have n0' := cell_later hbr (hcell2 k k (by rw [List.getElem?_range hlt]) 0 _ rfl)
      have n0 : wr.cell? ⟨b2, off2 + k, none⟩ = some (.int .i64 k) := by simpa using n0'
      have HTK := Lib.hid (show (S.take (k + 1)).flatMap encSg = (S.take k).flatMap encSg ++ encSg s by
        obtain ⟨hk', e⟩ := List.getElem?_eq_some_iff.1 hs
        rw [List.take_succ_eq_append_getElem hk', e, List.flatMap_append]; simp)
      have bz := lt_of_cell d0
      have bz2 := lt_of_cell n0
      clear hcell hcell2 d0' n0' hs
      obtain ⟨⟨x1, x2⟩, ⟨x3, x4⟩⟩ := s
      simp only [] at d0 d1 d2 d3 HTK
      obtain ⟨z0, e0⟩ : ∃ z, ((k : Int) == 0) = z := ⟨_, rfl⟩
      cases z0 with
      | true =>
        have HX0 := Lib.hid (row_new wr (.cells #[.int .i64 x1, .int .i64 x2, .int .i64 x3, .int .i64 x4] 39))
        go_wp2_with (at_builtin; refine wpList_append_own _ rfl _ _ 27 rfl w.heap.size 39 i0 (.agg #[.int .i64 0, .int .i64 0, .int .i64 0, .int .i64 0]) 4 32 Tryz.underlying27 hi hi0 hi1 hi2 rfl (by decide) _ _ _ rfl ((HOWN.out.alloc _).alloc _) ⟨wr.heap.size + 1, 0, none⟩ 1 1 (encSg ((x1, x2), (x3, x4))) rfl rfl (cells_new1 _ _ _ _) (encSg_one _) (by unfold maxLen; omega) (by omega) (by simp; omega) ?_; intro v' w6 hown6 hgrow6 _)
        have B6 := Lib.hid (((HBR.out.alloc hzr _).alloc (by simp; omega) _).grown hgrow6 (by simp; omega) (fun j hj => (own_block HOWN.out j hj).1))
        have O6 := Lib.hid (show w6.ownsRow w.heap.size 39 4 v' (k + 1) ((S.take (k + 1)).flatMap encSg) by
          rw [HTK.out]; simpa using hown6)
        have HX6 := Lib.hid (row_grown hgrow6 (row_past HX0.out) (fun e => by have := (own_block HOWN.out _ e.symm).2; omega))
        have hz6 : wr.heap.size + 2 ≤ w6.heap.size := by have := hgrow6.size; simp at this; omega
        clear hown6 hgrow6 d0 d1 d2 d3 n0 HX0 bz bz2
        obtain ⟨Bx, hBx⟩ : ∃ z, z = wr.heap.size := ⟨_, rfl⟩
        rw [← hBx] at HX6 hz6 ⊢
        clear hBx
        have yz := lt_of_block HX6.out
        have y0 := cell_of_row w6 _ 0 _ _ _ HX6.out
        have y1 := cell_of_row w6 _ 1 _ _ _ HX6.out
        have y2 := cell_of_row w6 _ 2 _ _ _ HX6.out
        have y3 := cell_of_row w6 _ 3 _ _ _ HX6.out
        simp only [List.getElem?_toArray, List.getElem?_cons_zero, List.getElem?_cons_succ] at y0 y1 y2 y3
        have hmn := fun W ts t => run_min2 Tryz.prog W ts t x1 x3
        have hmx := fun W ts t => run_max2 Tryz.prog W ts t x1 x3
        have hmn3 := fun W ts t c => run_min3 Tryz.prog W ts t c x1 x3
        have hmx3 := fun W ts t c => run_max3 Tryz.prog W ts t c x1 x3
        clear HBR hbr HOWN HTK
        go_quiet (fail)
        clear y0 y1 y2 y3 yz
        have BQ : Below w6.heap.size w6 (w6.drewN nq) := (Below.refl _ _).drewN'
        generalize hw7 : w6.drewN nq = w7
        rw [hw7] at BQ
        have HX7 := Lib.hid (row_later BQ HX6.out)
        have B7 := Lib.hid (B6.out.trans (BQ.mono B6.out.size))
        have O7 := Lib.hid (own_later O6.out BQ)
        clear hw7 BQ
        have yz := lt_of_block HX7.out
        have y0 := cell_of_row w7 _ 0 _ _ _ HX7.out
        have y1 := cell_of_row w7 _ 1 _ _ _ HX7.out
        have y2 := cell_of_row w7 _ 2 _ _ _ HX7.out
        have y3 := cell_of_row w7 _ 3 _ _ _ HX7.out
        simp only [List.getElem?_toArray, List.getElem?_cons_zero, List.getElem?_cons_succ] at y0 y1 y2 y3
        go_wp2_with fail
        go_quiet (fail)
        clear y0 y1 y2 y3 yz
        have BQ : Below w7.heap.size w7 (w7.drewN nq) := (Below.refl _ _).drewN'
        generalize hw8 : w7.drewN nq = w8
        rw [hw8] at BQ
        have B8 := Lib.hid (B7.out.trans (BQ.mono B7.out.size))
        have O8 := Lib.hid (own_later O7.out BQ)
        clear hw8 BQ
        go_wp2
        go_roundw
        case rel => exact ⟨k + 1, _, _, by go_num, rfl, rfl, by omega, O8.out, B8.out⟩
        case measure => simp [intOf]; omega
      | false =>
        have HX0 := Lib.hid (row_new wr (.cells #[.int .i64 x1, .int .i64 x2, .int .i64 x3, .int .i64 x4] 39))
        go_wp2_with (at_builtin; refine wpList_append_own _ rfl _ _ 27 rfl w.heap.size 39 i0 (.agg #[.int .i64 0, .int .i64 0, .int .i64 0, .int .i64 0]) 4 32 Tryz.underlying27 hi hi0 hi1 hi2 rfl (by decide) _ _ _ rfl ((HOWN.out.alloc _).alloc _) ⟨wr.heap.size + 1, 0, none⟩ 1 1 (encSg ((x1, x2), (x3, x4))) rfl rfl (cells_new1 _ _ _ _) (encSg_one _) (by unfold maxLen; omega) (by omega) (by simp; omega) ?_; intro v' w6 hown6 hgrow6 _)
        have B6 := Lib.hid (((HBR.out.alloc hzr _).alloc (by simp; omega) _).grown hgrow6 (by simp; omega) (fun j hj => (own_block HOWN.out j hj).1))
        have O6 := Lib.hid (show w6.ownsRow w.heap.size 39 4 v' (k + 1) ((S.take (k + 1)).flatMap encSg) by
          rw [HTK.out]; simpa using hown6)
        have HX6 := Lib.hid (row_grown hgrow6 (row_past HX0.out) (fun e => by have := (own_block HOWN.out _ e.symm).2; omega))
        have hz6 : wr.heap.size + 2 ≤ w6.heap.size := by have := hgrow6.size; simp at this; omega
        clear hown6 hgrow6 d0 d1 d2 d3 n0 HX0 bz bz2
        obtain ⟨Bx, hBx⟩ : ∃ z, z = wr.heap.size := ⟨_, rfl⟩
        rw [← hBx] at HX6 hz6 ⊢
        clear hBx
        have yz := lt_of_block HX6.out
        have y0 := cell_of_row w6 _ 0 _ _ _ HX6.out
        have y1 := cell_of_row w6 _ 1 _ _ _ HX6.out
        have y2 := cell_of_row w6 _ 2 _ _ _ HX6.out
        have y3 := cell_of_row w6 _ 3 _ _ _ HX6.out
        simp only [List.getElem?_toArray, List.getElem?_cons_zero, List.getElem?_cons_succ] at y0 y1 y2 y3
        have hmn := fun W ts t => run_min2 Tryz.prog W ts t x1 x3
        have hmx := fun W ts t => run_max2 Tryz.prog W ts t x1 x3
        have hmn3 := fun W ts t c => run_min3 Tryz.prog W ts t c x1 x3
        have hmx3 := fun W ts t c => run_max3 Tryz.prog W ts t c x1 x3
        clear HBR hbr HOWN HTK
        go_quiet (fail)
        clear y0 y1 y2 y3 yz
        have BQ : Below w6.heap.size w6 (w6.drewN nq) := (Below.refl _ _).drewN'
        generalize hw8 : w6.drewN nq = w8
        rw [hw8] at BQ
        have B8 := Lib.hid (B6.out.trans (BQ.mono B6.out.size))
        have O8 := Lib.hid (own_later O6.out BQ)
        clear hw8 BQ
        go_wp2
        go_roundw
        case rel => exact ⟨k + 1, _, _, by go_num, rfl, rfl, by omega, O8.out, B8.out⟩
        case measure => simp [intOf]; omega
    · obtain rfl : k = N := by omega
      have HR := Lib.hid (show RowE encSg 4 wr u6 S by
        have h := HOWN.out
        rw [List.take_of_length_le (by rw [HN.out]; exact Nat.le_refl _)] at h
        exact RowE.of_own encSg_len HN.out.symm h)
      have e0 : decide ((k : Int) ≤ 20000) = true := decide_eq_true (by omega)
      obtain ⟨u, capu, hu, hcu⟩ := HR.out
      rw [HN.out] at hu
      subst hu
      have HRR := Lib.hid (all_any' (.slice u k capu) S wr (by have := HR.out; exact this) (by rw [HN.out]; exact hl))
      clear HR hcu HOWN
      go_wp2_with fail
      refine HRR.out.mono ?_
      rintro e w5 ⟨vM, M, rfl, hM, hMl, hMm, hb5⟩
      rw [HN.out] at hMl
      have hMl2 : M.length ≤ 400000000 := Nat.le_trans hMl (Nat.le_trans (Nat.mul_le_mul hl hl) (by omega))
      have B5 := Lib.hid (hbr.trans (hb5.mono hzr))
      have HF5 := Lib.hid (HF0.out.on B5.out)
      have HMM := Lib.hid hMm
      have HDET := Lib.hid (show ∀ m ∈ M, ∀ m' ∈ M, m.1 = m'.1 → m.2.1 = m'.2.1 → m.2.2 = m'.2.2 from fun m h1 m' h2 e1 e2 => by
        obtain ⟨s, t, _, hs, ht, hk, _⟩ := (hMm m).1 h1
        obtain ⟨s', t', _, hs', ht', hk', _⟩ := (hMm m').1 h2
        rw [← e1, hs] at hs'
        rw [← e2, ht] at ht'
        injection hs' with hs'
        injection ht' with ht'
        rw [hk, hk', hs', ht'])
      have HLT := Lib.hid (show ∀ m ∈ M, m.1 < k ∧ m.2.1 < k from fun m h1 => by
        obtain ⟨s, t, _, hs, ht, hk, _⟩ := (hMm m).1 h1
        have a1 := (List.getElem?_eq_some_iff.1 hs).1
        have a2 := (List.getElem?_eq_some_iff.1 ht).1
        rw [HN.out] at a1 a2
        exact ⟨a1, a2⟩)
      obtain ⟨aM, capM, rfl, hcM⟩ := hM
      have HCM := Lib.hid hcM
      obtain ⟨Z, hZ⟩ : ∃ Z, M.length = Z := ⟨_, rfl⟩
      have HZ := Lib.hid hZ
      rw [hZ] at hMl2 hMl ⊢
      clear hMm hb5 hcM hZ HRR
      obtain ⟨wo, rfl⟩ : ∃ wo : World, wo = wr := ⟨_, rfl⟩
      go_wp2_with fail
      go_loopw [84] (fun i wr => ∃ (q : Nat) (F : List FdD), i = .int .i64 q ∧ q ≤ Z ∧ FoundAt wr Bf F ∧ F.length ≤ q ∧ (∀ p, p ∈ F ↔ ∃ m ∈ M.take q, p = toFd m) ∧ w5.grownBy wr (some Bf)) (fun i _ => Z - (intOf i).toNat)
      case atStart => exact ⟨0, [], rfl, by omega, HF5.out, by simp, by simp, World.grownBy.refl _ _⟩
      case round =>
        obtain ⟨q, F, rfl, hq, hF, hFl, hFm, hgr⟩ := hrel
        have HFQ := Lib.hid hF
        have HFM := Lib.hid hFm
        have HGR := Lib.hid hgr
        clear hF hFm hgr
        by_cases hlt : q < Z
        · obtain ⟨m, hm⟩ : ∃ m, M[q]? = some m := ⟨M[q]'(by rw [HZ.out]; exact hlt), List.getElem?_eq_getElem _⟩
          obtain ⟨b, off, ha, hcell⟩ := HCM.out (by rw [HZ.out]; omega)
          subst ha
          have HNB := Lib.hid (HF5.out.apart (hcell q m hm 0 _ rfl))
          have d0' := cell_grown HGR.out (hcell q m hm 0 _ rfl) (fun e => HNB.out (by injection e))
          have d1 := cell_grown HGR.out (hcell q m hm 1 _ rfl) (fun e => HNB.out (by injection e))
          have d2 := cell_grown HGR.out (hcell q m hm 2 _ rfl) (fun e => HNB.out (by injection e))
          have d0 : wr.cell? ⟨b, off + q * 3, none⟩ = some (.int .i64 m.1) := d0'
          obtain ⟨m1, m2⟩ := HLT.out m (List.mem_of_getElem? hm)
          have HM := Lib.hid hm
          obtain ⟨b2, off2, ha2, hcell2⟩ := HCI.out (by omega)
          subst ha2
          have HLC := Lib.hid (show ∀ (x : Nat) W, x < k → wr.grownBy W (some Bf) → W.cell? ⟨b2, off2 + x, none⟩ = some (.int .i64 x) from fun x W hx hW => by
            have h := hcell2 x x (by rw [List.getElem?_range hx]) 0 _ rfl
            have h5 := cell_later B5.out h
            have h6 := cell_grown HGR.out h5 (fun e => HF5.out.apart h5 (by injection e))
            have h7 := cell_grown hW h6 (fun e => HFQ.out.apart h6 (by injection e))
            simpa using h7)
          have bz := lt_of_cell d0
          clear hcell hcell2 d0' hm
          obtain ⟨ma, mb, mk⟩ := m
          simp only [] at d0 d1 d2 m1 m2
          go_wp2_with fail
          have BX : Below wr.heap.size wr (wr.alloc (.cells #[.int .i64 ma, .int .i64 mb, .int .i64 mk] 125)) := (by repeat' (first | exact Below.refl _ _ | refine Below.drew ?_ | refine Below.drewN' ?_ | refine Below.setCell ?_ (by first | omega | (simp; done) | exact Below.size (by assumption) | (simp; omega)) _ | refine Below.alloc ?_ (by first | omega | (simp; done) | exact Below.size (by assumption) | (simp; omega)) _ | refine Below.trans ?_ (Below.mono (by assumption) ?_) | (first | omega | (simp; done) | exact Below.size (by assumption) | (simp; omega))))
          have HX := row_new wr (.cells #[.int .i64 ma, .int .i64 mb, .int .i64 mk] 125)
          generalize hw7 : wr.alloc (.cells #[.int .i64 ma, .int .i64 mb, .int .i64 mk] 125) = w7
          rw [hw7] at BX HX
          obtain ⟨Bx, hBx⟩ : ∃ z, z = wr.heap.size := ⟨_, rfl⟩
          rw [← hBx] at HX ⊢
          have hxf : Bx ≠ Bf := by have := HFQ.out.lt; omega
          have HX7 := Lib.hid HX
          have G7 := Lib.hid (grown_of_below BX (some Bf))
          have F7 := Lib.hid (HFQ.out.on BX)
          have HFL := Lib.hid hFl
          have i1 : (0 : Int) ≤ (ma : Int) := by omega
          have i2 : (ma : Int) < (k : Int) := by omega
          have i3 : ((ma : Int)).toNat = ma := by omega
          have i4 : (0 : Int) ≤ (mb : Int) := by omega
          have i5 : (mb : Int) < (k : Int) := by omega
          have i6 : ((mb : Int)).toNat = mb := by omega
          clear hw7 hBx d0 d1 d2 bz BX HX hFl
          refine wp_region_mix 14 (fun W => wr.grownBy W (some Bf) ∧ W.heap[Bx]? = some (.cells #[.int .i64 ma, .int .i64 mb, .int .i64 mk] 125)) (fun W => Below w7.heap.size w7 W) mixed (by kernel_rfl) (by kernel_rfl) (by kernel_rfl) (StableW.below _ _ (Nat.le_refl _)) (fun W hW => ⟨G7.out.trans (grown_of_below hW _), row_later hW HX7.out⟩) (Below.refl _ _).drew ?_
          apply Exists.intro
          refine ⟨fun W hW => ?_, ?_⟩
          · obtain ⟨hW1, HX⟩ := hW
            have HXh := Lib.hid HX
            have xz := lt_of_block HXh.out
            have x0 := cell_of_row W _ 0 _ _ _ HXh.out
            have x1 := cell_of_row W _ 1 _ _ _ HXh.out
            have x2 := cell_of_row W _ 2 _ _ _ HXh.out
            simp only [List.getElem?_toArray, List.getElem?_cons_zero, List.getElem?_cons_succ] at x0 x1 x2
            have qx0 := cell_belowBy x0
            have qx1 := cell_belowBy x1
            have qx2 := cell_belowBy x2
            clear x0 x1 x2
            have l1 := cell_belowBy (HLC.out ma W m1 hW1)
            have l2 := cell_belowBy (HLC.out mb W m2 hW1)
            have bz2 := lt_of_cell (HLC.out ma W m1 hW1)
            clear HX
            simp only [List.take_succ_cons, List.take_zero]
            repeat (go_big_quiet_step (fail))
            exact wpQuiet_nil rfl
          · simp only [List.drop_succ_cons, List.drop_zero]
            refine tailM_step (ι := Unit) (fun _ => undef) (fun _ W => (wr.grownBy W (some Bf) ∧ W.heap[Bx]? = some (.cells #[.int .i64 ma, .int .i64 mb, .int .i64 mk] 125)) ∧ FoundAt W Bf (aput (toFd (ma, mb, mk)).1 (toFd (ma, mb, mk)).2 F)) rfl (fun _ => ((StableW.grown _ _).and (StableW.row _ _)).and (StableW.mapAt _ _ _ _ _ _)) (fun _ _ h => h.1) (fun W hS K hK => ?_) (fun _ => ?_)
            · obtain ⟨w9, hr9, hf9, hg9⟩ := (F7.out.on hS).put keyN2 intK_inj Tryz.underlying90 (by unfold maxLen; have := HFL.out; omega) ((ma : Int), (mb : Int)) (intK_ok (wf_nat (by omega)) (wf_nat (by omega))) mk
              have HX9 := row_grown hg9 (row_later hS HX7.out) (fun e => hxf (by injection e))
              have G9 := (G7.out.trans (grown_of_below hS (some Bf))).trans hg9
              have HK := hK () w9 ⟨⟨G9, HX9⟩, hf9⟩
              clear hK
              go_simp
              exact HK
            simp only [Act.put]
            refine tailM_nil fun W hW => ?_
            obtain ⟨⟨hW1, -⟩, hW2⟩ := hW
            have HW1 := Lib.hid (HGR.out.trans hW1)
            have HW2 := Lib.hid hW2
            clear hW1 hW2
            go_wp2
            go_roundw
            case rel => exact ⟨q + 1, _, by go_num, by omega, HW2.out, Nat.le_trans (aput_length _ _ _) (by have := HFL.out; omega), fd_put HDET.out HM.out HFM.out, HW1.out⟩
            case measure => simp [intOf]; omega
        · obtain rfl : q = Z := by omega
          go_wp2
          (try simp only [Exit.inBlock, Exit.then])
          refine bodyPost_ret (results_none rfl _ _ _) rfl ?_
          refine ⟨F, rfl, HFQ.out, (grown_of_below B5.out (some Bf)).trans HGR.out, fun p => ?_⟩
          rw [HFM.out p, List.take_of_length_le (by rw [HZ.out]; exact Nat.le_refl _)]
          constructor
          · rintro ⟨m, hm, rfl⟩
            obtain ⟨s, t, h1, h2, h3, h4, h5⟩ := (HMM.out m).1 hm
            exact ⟨m.1, m.2.1, s, t, h1, h2, h3, by rw [← h4]; rfl, by rw [← h4]; exact h5⟩
          · rintro ⟨i, j, s, t, h1, h2, h3, rfl, h5⟩
            exact ⟨(i, j, meetsQ s t), (HMM.out _).2 ⟨s, t, h1, h2, h3, rfl, h5⟩, rfl⟩
end Go.Proofs.YtbkomdinchiffaaGreat
