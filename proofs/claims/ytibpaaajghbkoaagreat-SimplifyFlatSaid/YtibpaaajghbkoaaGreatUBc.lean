/-   -/
import Derived.Test.YtibpaaajghbkoaaGreatUBb
import Derived.Great.Walk
namespace Go.Proofs.YtibpaaajghbkoaaGreat
open Go.RowKit Go.Sort Go.Maps
def encNt (i : Nat) : List Value := [.int .i64 i]
theorem encNt_len (x : Nat) : (encNt x).length = 1 := rfl
theorem encNt_one (x : Nat) : ∀ v ∈ encNt x, v.oneCell' = true := by
 intro v hv
 simp only [encNt, List.mem_cons, List.not_mem_nil, or_false] at hv
 subst hv; rfl
def mn3 (a b c : Int) : Int := min (min a b) c
def mx3 (a b c : Int) : Int := max (max a b) c
theorem run_min3 (P : Program) (w : World) (ts : Array TypeId) (t : TypeId) (a b c : Int) : (Builtin.min_ ts t #[.int .i64 a, .int .i64 b, .int .i64 c]).run P w = .ok (.int .i64 (mn3 a b c)) w := by
 have e : ∀ x y : Int, (if y < x then y else x) = min x y := fun x y => by split <;> omega
 simp [Builtin.min_, Builtin.min2, mn3, e]
theorem run_max3 (P : Program) (w : World) (ts : Array TypeId) (t : TypeId) (a b c : Int) : (Builtin.max_ ts t #[.int .i64 a, .int .i64 b, .int .i64 c]).run P w = .ok (.int .i64 (mx3 a b c)) w := by
 have e : ∀ x y : Int, (if x < y then y else x) = max x y := fun x y => by split <;> omega
 simp [Builtin.max_, Builtin.max2, mx3, e]
theorem run_min2 (P : Program) (W : World) (ts : Array TypeId) (t : TypeId) (a b : Int) : (Builtin.min_ ts t #[.int .i64 a, .int .i64 b]).run P W = .ok (.int .i64 (min a b)) W := by
 have e : (if b < a then b else a) = min a b := by split <;> omega
 simp [Builtin.min_, Builtin.min2, e]
theorem run_max2 (P : Program) (W : World) (ts : Array TypeId) (t : TypeId) (a b : Int) : (Builtin.max_ ts t #[.int .i64 a, .int .i64 b]).run P W = .ok (.int .i64 (max a b)) W := by
 have e : (if a < b then b else a) = max a b := by split <;> omega
 simp [Builtin.max_, Builtin.max2, e]
theorem MapAt.apart {κ ν : Type} {P : Program} {t : TypeId} {ek : κ → Value} {ev : ν → Value} {w : World} {b : Nat} {l : List (κ × ν)} (h : MapAt P t ek ev w b l) {g o : Nat} {v : Value} (hc : w.cell? ⟨g, o, none⟩ = some v) : g ≠ b := by
 rintro rfl
 obtain ⟨es, clock, h1, _⟩ := h
 simp [World.cell?, h1] at hc
theorem cell_grown {w w' : World} {row : Option Nat} (hg : w.grownBy w' row) {g o : Nat} {v : Value} (hc : w.cell? ⟨g, o, none⟩ = some v) (hne : some g ≠ row) : w'.cell? ⟨g, o, none⟩ = some v := by
 have hb := hg.block g (lt_of_cell hc) hne
 unfold World.cell? at hc ⊢
 rw [hb]; exact hc
theorem StableW.mapAt {κ ν : Type} (P : Program) (t : TypeId) (ek : κ → Value) (ev : ν → Value) (b : Nat) (l : List (κ × ν)) : StableW fun W => MapAt P t ek ev W b l := fun _ _ h h2 => h.on h2
theorem wf_nat {n : Nat} (h : n ≤ 20000) : (Lit.int .i64 (n : Int)).wf = true := by
 simp [Lit.wf, IntKind.min, IntKind.max, IntKind.bits, IntKind.signed]
 omega
abbrev FdD := (Int × Int) × Int
def toFd (m : MtD) : FdD := (((m.1 : Int), (m.2.1 : Int)), m.2.2)
abbrev evI (k : Int) : Value := .int .i64 k
abbrev FoundAt (w : World) (b : Nat) (F : List FdD) : Prop := MapAt Tryz.prog 130 intK evI w b F
theorem fd_put {M : List MtD} (hdet : ∀ m ∈ M, ∀ m' ∈ M, m.1 = m'.1 → m.2.1 = m'.2.1 → m.2.2 = m'.2.2) {q : Nat} {m : MtD} (hm : M[q]? = some m) {F : List FdD} (hF : ∀ p, p ∈ F ↔ ∃ m ∈ M.take q, p = toFd m) (p : FdD) :
  p ∈ aput (toFd m).1 (toFd m).2 F ↔ ∃ m ∈ M.take (q + 1), p = toFd m := by
 obtain ⟨hk, e⟩ := List.getElem?_eq_some_iff.1 hm
 have hmM : m ∈ M := List.mem_of_getElem? hm
 rw [List.take_succ_eq_append_getElem hk, e]
 constructor
 ·intro h
  rcases mem_aput h with rfl | h
  ·exact ⟨m, by simp, rfl⟩
  ·obtain ⟨m', h1, h2⟩ := (hF p).1 h
   exact ⟨m', List.mem_append_left _ h1, h2⟩
 ·rintro ⟨m', h1, rfl⟩
  rcases List.mem_append.1 h1 with h1 | h1
  ·by_cases hk' : (toFd m').1 = (toFd m).1
   ·have e2 : m'.2.2 = m.2.2 := by
     simp only [toFd, Prod.mk.injEq] at hk'
     exact hdet m' (List.mem_of_mem_take h1) m hmM (by omega) (by omega)
    have : toFd m' = ((toFd m).1, (toFd m).2) := Prod.ext hk' e2
    rw [this]; exact mem_aput_self _ _ _
   ·exact mem_aput_other ((hF _).2 ⟨m', h1, rfl⟩) hk'
  ·simp only [List.mem_cons, List.not_mem_nil, or_false] at h1
   subst h1
   exact mem_aput_self _ _ _
def MeetsPost (S : List Sg) (Bf : Nat) (w : World) (e : Ending) (w' : World) : Prop :=
 ∃ F : List FdD, e = .returned (.tuple #[]) ∧ FoundAt w' Bf F ∧ w.grownBy w' (some Bf) ∧ ∀ p : FdD, p ∈ F ↔ ∃ (i j : Nat) (s t : Sg), i < j ∧ S[i]? = some s ∧ S[j]? = some t ∧ p = (((i : Int), (j : Int)), meetsQ s t) ∧ meetsQ s t ≠ 0
set_option maxRecDepth 100000 in
set_option maxHeartbeats 4000000 in
theorem meets_any (v vI : Value) (Bf : Nat) (S : List Sg) (w : World) (hv : RowE encSg 4 w v S) (hI : RowE encNt 1 w vI (List.range S.length)) (hf : FoundAt w Bf []) (hl : S.length ≤ 20000) :
  Calls Tryz.prog 76 #[v, vI, .map (some Bf)] w (MeetsPost S Bf w) := by
 have mixed : Tryz.prog.follows .mixedOrders = true := by kernel_rfl
 obtain ⟨a, cap, rfl, hc⟩ := hv
 obtain ⟨aI, capI, rfl, hcI⟩ := hI
 obtain ⟨N, hN⟩ : ∃ N, S.length = N := ⟨_, rfl⟩
 rw [hN] at hc hl hcI ⊢
 rw [List.length_range] at hcI ⊢
 have HN := Lib.hid hN
 have HC := Lib.hid hc
 have HCI := Lib.hid hcI
 have HF0 := Lib.hid hf
 obtain ⟨i0, hi, hi0, hi1, hi2⟩ := info_parts infoSg
 have hbf := hf.lt
 clear hN hc hcI hf
 go_enter Tryz.func76, Tryz.ntmps76
 go_wp2_with fail
 go_loopw [6, 7, 8, 28] (fun v6 v7 v8 i wr => ∃ (k : Nat) (lo hi : Int), i = .int .i64 k ∧ v7 = .int .i64 lo ∧ v8 = .int .i64 hi ∧ k ≤ N ∧ wr.ownsRow w.heap.size 48 4 v6 k ((S.take k).flatMap encSg) ∧ Below w.heap.size w wr) (fun _ _ _ i _ => N - (intOf i).toNat)
 case atStart => exact ⟨0, 0, 0, rfl, rfl, rfl, by omega, World.ownsRow_nil _ _ _ _, Below.refl _ _⟩
 case round =>
  obtain ⟨k, lo, hi', rfl, rfl, rfl, hk, hown, hbr⟩ := hrel
  have HOWN := Lib.hid hown
  have HBR := Lib.hid hbr
  have hzr := hbr.size
  clear hown
  by_cases hlt : k < N
  ·obtain ⟨s, hs⟩ : ∃ s, S[k]? = some s := ⟨S[k]'(by rw [HN.out]; exact hlt), List.getElem?_eq_getElem _⟩
   obtain ⟨b, off, ha, hcell⟩ := HC.out (by omega)
   subst ha
   obtain ⟨b2, off2, ha2, hcell2⟩ := HCI.out (by omega)
   subst ha2
   have d0' := cell_later hbr (hcell k s hs 0 _ rfl)
   have d0 : wr.cell? ⟨b, off + k * 4, none⟩ = some (.int .i64 s.1.1) := d0'
   have d1 := cell_later hbr (hcell k s hs 1 _ rfl)
   have d2 := cell_later hbr (hcell k s hs 2 _ rfl)
   have d3 := cell_later hbr (hcell k s hs 3 _ rfl)
   have n0' := cell_later hbr (hcell2 k k (by rw [List.getElem?_range hlt]) 0 _ rfl)
   have n0 : wr.cell? ⟨b2, off2 + k, none⟩ = some (.int .i64 k) := by simpa using n0'
   have HTK := Lib.hid (show (S.take (k + 1)).flatMap encSg = (S.take k).flatMap encSg ++ encSg s by
    obtain ⟨hk', e⟩ := List.getElem?_eq_some_iff.1 hs
    rw [List.take_succ_eq_append_getElem hk', e, List.flatMap_append]; simp)
   have bz := lt_of_cell d0
   have bz2 := lt_of_cell n0
   clear hcell hcell2 d0' n0' hs
   obtain ⟨⟨x1, x2⟩, ⟨x3, x4⟩⟩ := s
   simp only [] at d0 d1 d2 d3 HTK
   obtain ⟨z0, e0⟩ : ∃ z, ((k : Int) == 0) = z := ⟨_, rfl⟩
   cases z0 with
   |true =>
    have HX0 := Lib.hid (row_new wr (.cells #[.int .i64 x1, .int .i64 x2, .int .i64 x3, .int .i64 x4] 48))
    go_wp2_with (at_builtin; refine wpList_append_own _ rfl _ _ 43 rfl w.heap.size 48 i0 (.agg #[.int .i64 0, .int .i64 0, .int .i64 0, .int .i64 0]) 4 32 Tryz.underlying43 hi hi0 hi1 hi2 rfl (by decide) _ _ _ rfl ((HOWN.out.alloc _).alloc _) ⟨wr.heap.size + 1, 0, none⟩ 1 1 (encSg ((x1, x2), (x3, x4))) rfl rfl (cells_new1 _ _ _ _) (encSg_one _) (by unfold maxLen; omega) (by omega) (by simp; omega) ?_; intro v' w6 hown6 hgrow6 _)
    have B6 := Lib.hid (((HBR.out.alloc hzr _).alloc (by simp; omega) _).grown hgrow6 (by simp; omega) (fun j hj => (own_block HOWN.out j hj).1))
    have O6 := Lib.hid (show w6.ownsRow w.heap.size 48 4 v' (k + 1) ((S.take (k + 1)).flatMap encSg) by
     rw [HTK.out]; simpa using hown6)
    have HX6 := Lib.hid (row_grown hgrow6 (row_past HX0.out) (fun e => by have := (own_block HOWN.out _ e.symm).2; omega))
    have hz6 : wr.heap.size + 2 ≤ w6.heap.size := by have := hgrow6.size; simp at this; omega
    clear hown6 hgrow6 d0 d1 d2 d3 n0 HX0 bz bz2
    obtain ⟨Bx, hBx⟩ : ∃ z, z = wr.heap.size := ⟨_, rfl⟩
    rw [← hBx] at HX6 hz6 ⊢
    clear hBx
    obtain ⟨yz, y0, y1, y2, y3⟩ := rk4 HX6.out
    have hmn := fun W ts t => run_min2 Tryz.prog W ts t x1 x3
    have hmx := fun W ts t => run_max2 Tryz.prog W ts t x1 x3
    have hmn3 := fun W ts t c => run_min3 Tryz.prog W ts t c x1 x3
    have hmx3 := fun W ts t c => run_max3 Tryz.prog W ts t c x1 x3
    clear HBR hbr HOWN HTK
    go_quiet (fail)
    clear y0 y1 y2 y3 yz
    have BQ : Below w6.heap.size w6 (w6.drewN nq) := (Below.refl _ _).drewN'
    generalize hw7 : w6.drewN nq = w7
    rw [hw7] at BQ
    have HX7 := Lib.hid (row_later BQ HX6.out)
    have B7 := Lib.hid (B6.out.trans (BQ.mono B6.out.size))
    have O7 := Lib.hid (own_later O6.out BQ)
    clear hw7 BQ
    obtain ⟨yz, y0, y1, y2, y3⟩ := rk4 HX7.out
    go_wp2_with fail
    go_quiet (fail)
    clear y0 y1 y2 y3 yz
    have BQ : Below w7.heap.size w7 (w7.drewN nq) := (Below.refl _ _).drewN'
    generalize hw8 : w7.drewN nq = w8
    rw [hw8] at BQ
    have B8 := Lib.hid (B7.out.trans (BQ.mono B7.out.size))
    have O8 := Lib.hid (own_later O7.out BQ)
    clear hw8 BQ
    go_wp2
    go_roundw
    case rel => exact ⟨k + 1, _, _, by go_num, rfl, rfl, by omega, O8.out, B8.out⟩
    case measure => simp [intOf]; omega
   |false =>
    have HX0 := Lib.hid (row_new wr (.cells #[.int .i64 x1, .int .i64 x2, .int .i64 x3, .int .i64 x4] 48))
    go_wp2_with (at_builtin; refine wpList_append_own _ rfl _ _ 43 rfl w.heap.size 48 i0 (.agg #[.int .i64 0, .int .i64 0, .int .i64 0, .int .i64 0]) 4 32 Tryz.underlying43 hi hi0 hi1 hi2 rfl (by decide) _ _ _ rfl ((HOWN.out.alloc _).alloc _) ⟨wr.heap.size + 1, 0, none⟩ 1 1 (encSg ((x1, x2), (x3, x4))) rfl rfl (cells_new1 _ _ _ _) (encSg_one _) (by unfold maxLen; omega) (by omega) (by simp; omega) ?_; intro v' w6 hown6 hgrow6 _)
    have B6 := Lib.hid (((HBR.out.alloc hzr _).alloc (by simp; omega) _).grown hgrow6 (by simp; omega) (fun j hj => (own_block HOWN.out j hj).1))
    have O6 := Lib.hid (show w6.ownsRow w.heap.size 48 4 v' (k + 1) ((S.take (k + 1)).flatMap encSg) by
     rw [HTK.out]; simpa using hown6)
    have HX6 := Lib.hid (row_grown hgrow6 (row_past HX0.out) (fun e => by have := (own_block HOWN.out _ e.symm).2; omega))
    have hz6 : wr.heap.size + 2 ≤ w6.heap.size := by have := hgrow6.size; simp at this; omega
    clear hown6 hgrow6 d0 d1 d2 d3 n0 HX0 bz bz2
    obtain ⟨Bx, hBx⟩ : ∃ z, z = wr.heap.size := ⟨_, rfl⟩
    rw [← hBx] at HX6 hz6 ⊢
    clear hBx
    obtain ⟨yz, y0, y1, y2, y3⟩ := rk4 HX6.out
    have hmn := fun W ts t => run_min2 Tryz.prog W ts t x1 x3
    have hmx := fun W ts t => run_max2 Tryz.prog W ts t x1 x3
    have hmn3 := fun W ts t c => run_min3 Tryz.prog W ts t c x1 x3
    have hmx3 := fun W ts t c => run_max3 Tryz.prog W ts t c x1 x3
    clear HBR hbr HOWN HTK
    go_quiet (fail)
    clear y0 y1 y2 y3 yz
    have BQ : Below w6.heap.size w6 (w6.drewN nq) := (Below.refl _ _).drewN'
    generalize hw8 : w6.drewN nq = w8
    rw [hw8] at BQ
    have B8 := Lib.hid (B6.out.trans (BQ.mono B6.out.size))
    have O8 := Lib.hid (own_later O6.out BQ)
    clear hw8 BQ
    go_wp2
    go_roundw
    case rel => exact ⟨k + 1, _, _, by go_num, rfl, rfl, by omega, O8.out, B8.out⟩
    case measure => simp [intOf]; omega
  ·obtain rfl : k = N := by omega
   have HR := Lib.hid (show RowE encSg 4 wr u6 S by
    have h := HOWN.out
    rw [List.take_of_length_le (by rw [HN.out]; exact Nat.le_refl _)] at h
    exact RowE.of_own encSg_len HN.out.symm h)
   have e0 : decide ((k : Int) ≤ 20000) = true := decide_eq_true (by omega)
   obtain ⟨u, capu, hu, hcu⟩ := HR.out
   rw [HN.out] at hu
   subst hu
   have HRR := Lib.hid (all_any' (.slice u k capu) S wr (by have := HR.out; exact this) (by rw [HN.out]; exact hl))
   clear HR hcu HOWN
   go_wp2_with fail
   refine HRR.out.mono ?_
   rintro e w5 ⟨vM, M, rfl, hM, hMl, hMm, hb5⟩
   rw [HN.out] at hMl
   have hMl2 : M.length ≤ 400000000 := Nat.le_trans hMl (Nat.le_trans (Nat.mul_le_mul hl hl) (by omega))
   have B5 := Lib.hid (hbr.trans (hb5.mono hzr))
   have HF5 := Lib.hid (HF0.out.on B5.out)
   have HMM := Lib.hid hMm
   have HDET := Lib.hid (show ∀ m ∈ M, ∀ m' ∈ M, m.1 = m'.1 → m.2.1 = m'.2.1 → m.2.2 = m'.2.2 from fun m h1 m' h2 e1 e2 => by
    obtain ⟨s, t, _, hs, ht, hk, _⟩ := (hMm m).1 h1
    obtain ⟨s', t', _, hs', ht', hk', _⟩ := (hMm m').1 h2
    rw [← e1, hs] at hs'
    rw [← e2, ht] at ht'
    injection hs' with hs'
    injection ht' with ht'
    rw [hk, hk', hs', ht'])
   have HLT := Lib.hid (show ∀ m ∈ M, m.1 < k ∧ m.2.1 < k from fun m h1 => by
    obtain ⟨s, t, _, hs, ht, hk, _⟩ := (hMm m).1 h1
    have a1 := (List.getElem?_eq_some_iff.1 hs).1
    have a2 := (List.getElem?_eq_some_iff.1 ht).1
    rw [HN.out] at a1 a2
    exact ⟨a1, a2⟩)
   obtain ⟨aM, capM, rfl, hcM⟩ := hM
   have HCM := Lib.hid hcM
   obtain ⟨Z, hZ⟩ : ∃ Z, M.length = Z := ⟨_, rfl⟩
   have HZ := Lib.hid hZ
   rw [hZ] at hMl2 hMl ⊢
   clear hMm hb5 hcM hZ HRR
   obtain ⟨wo, rfl⟩ : ∃ wo : World, wo = wr := ⟨_, rfl⟩
   go_wp2_with fail
   go_loopw [84] (fun i wr => ∃ (q : Nat) (F : List FdD), i = .int .i64 q ∧ q ≤ Z ∧ FoundAt wr Bf F ∧ F.length ≤ q ∧ (∀ p, p ∈ F ↔ ∃ m ∈ M.take q, p = toFd m) ∧ w5.grownBy wr (some Bf)) (fun i _ => Z - (intOf i).toNat)
   case atStart => exact ⟨0, [], rfl, by omega, HF5.out, by simp, by simp, World.grownBy.refl _ _⟩
   case round =>
    obtain ⟨q, F, rfl, hq, hF, hFl, hFm, hgr⟩ := hrel
    have HFQ := Lib.hid hF
    have HFM := Lib.hid hFm
    have HGR := Lib.hid hgr
    clear hF hFm hgr
    by_cases hlt : q < Z
    ·obtain ⟨m, hm⟩ : ∃ m, M[q]? = some m := ⟨M[q]'(by rw [HZ.out]; exact hlt), List.getElem?_eq_getElem _⟩
     obtain ⟨b, off, ha, hcell⟩ := HCM.out (by rw [HZ.out]; omega)
     subst ha
     have HNB := Lib.hid (HF5.out.apart (hcell q m hm 0 _ rfl))
     have d0' := cell_grown HGR.out (hcell q m hm 0 _ rfl) (fun e => HNB.out (by injection e))
     have d1 := cell_grown HGR.out (hcell q m hm 1 _ rfl) (fun e => HNB.out (by injection e))
     have d2 := cell_grown HGR.out (hcell q m hm 2 _ rfl) (fun e => HNB.out (by injection e))
     have d0 : wr.cell? ⟨b, off + q * 3, none⟩ = some (.int .i64 m.1) := d0'
     obtain ⟨m1, m2⟩ := HLT.out m (List.mem_of_getElem? hm)
     have HM := Lib.hid hm
     obtain ⟨b2, off2, ha2, hcell2⟩ := HCI.out (by omega)
     subst ha2
     have HLC := Lib.hid (show ∀ (x : Nat) W, x < k → wr.grownBy W (some Bf) → W.cell? ⟨b2, off2 + x, none⟩ = some (.int .i64 x) from fun x W hx hW => by
      have h := hcell2 x x (by rw [List.getElem?_range hx]) 0 _ rfl
      have h5 := cell_later B5.out h
      have h6 := cell_grown HGR.out h5 (fun e => HF5.out.apart h5 (by injection e))
      have h7 := cell_grown hW h6 (fun e => HFQ.out.apart h6 (by injection e))
      simpa using h7)
     have bz := lt_of_cell d0
     clear hcell hcell2 d0' hm
     obtain ⟨ma, mb, mk⟩ := m
     simp only [] at d0 d1 d2 m1 m2
     go_wp2_with fail
     have BX : Below wr.heap.size wr (wr.alloc (.cells #[.int .i64 ma, .int .i64 mb, .int .i64 mk] 188)) := (Below.refl _ _).alloc (Nat.le_refl _) _
     have HX := row_new wr (.cells #[.int .i64 ma, .int .i64 mb, .int .i64 mk] 188)
     generalize hw7 : wr.alloc (.cells #[.int .i64 ma, .int .i64 mb, .int .i64 mk] 188) = w7
     rw [hw7] at BX HX
     obtain ⟨Bx, hBx⟩ : ∃ z, z = wr.heap.size := ⟨_, rfl⟩
     rw [← hBx] at HX ⊢
     have hxf : Bx ≠ Bf := by have := HFQ.out.lt; omega
     have HX7 := Lib.hid HX
     have G7 := Lib.hid (grown_of_below BX (some Bf))
     have F7 := Lib.hid (HFQ.out.on BX)
     have HFL := Lib.hid hFl
     have i1 : (0 : Int) ≤ (ma : Int) := by omega
     have i2 : (ma : Int) < (k : Int) := by omega
     have i3 : ((ma : Int)).toNat = ma := by omega
     have i4 : (0 : Int) ≤ (mb : Int) := by omega
     have i5 : (mb : Int) < (k : Int) := by omega
     have i6 : ((mb : Int)).toNat = mb := by omega
     clear hw7 hBx d0 d1 d2 bz BX HX hFl
     refine wp_region_mix 14 (fun W => wr.grownBy W (some Bf) ∧ W.heap[Bx]? = some (.cells #[.int .i64 ma, .int .i64 mb, .int .i64 mk] 188)) (fun W => Below w7.heap.size w7 W) mixed (by kernel_rfl) (by kernel_rfl) (by kernel_rfl) (StableW.below _ _ (Nat.le_refl _)) (fun W hW => ⟨G7.out.trans (grown_of_below hW _), row_later hW HX7.out⟩) (Below.refl _ _).drew ?_
     apply Exists.intro
     refine ⟨fun W hW => ?_, ?_⟩
     ·obtain ⟨hW1, HX⟩ := hW
      have HXh := Lib.hid HX
      obtain ⟨xz, x0, x1, x2⟩ := rk3 HXh.out
      have qx0 := cell_belowBy x0
      have qx1 := cell_belowBy x1
      have qx2 := cell_belowBy x2
      clear x0 x1 x2
      have l1 := cell_belowBy (HLC.out ma W m1 hW1)
      have l2 := cell_belowBy (HLC.out mb W m2 hW1)
      have bz2 := lt_of_cell (HLC.out ma W m1 hW1)
      clear HX
      simp only [List.take_succ_cons, List.take_zero]
      repeat (go_big_quiet_step (fail))
      exact wpQuiet_nil rfl
     ·simp only [List.drop_succ_cons, List.drop_zero]
      refine tailM_step (ι := Unit) (fun _ => undef) (fun _ W => (wr.grownBy W (some Bf) ∧ W.heap[Bx]? = some (.cells #[.int .i64 ma, .int .i64 mb, .int .i64 mk] 188)) ∧ FoundAt W Bf (aput (toFd (ma, mb, mk)).1 (toFd (ma, mb, mk)).2 F)) rfl (fun _ => ((StableW.grown _ _).and (StableW.row _ _)).and (StableW.mapAt _ _ _ _ _ _)) (fun _ _ h => h.1) (fun W hS K hK => ?_) (fun _ => ?_)
      ·obtain ⟨w9, hr9, hf9, hg9⟩ := (F7.out.on hS).put keyN2 intK_inj Tryz.underlying128 (by unfold maxLen; have := HFL.out; omega) ((ma : Int), (mb : Int)) (intK_ok (wf_nat (by omega)) (wf_nat (by omega))) mk
       have HX9 := row_grown hg9 (row_later hS HX7.out) (fun e => hxf (by injection e))
       have G9 := (G7.out.trans (grown_of_below hS (some Bf))).trans hg9
       have HK := hK () w9 ⟨⟨G9, HX9⟩, hf9⟩
       clear hK
       go_simp
       exact HK
      simp only [Act.put]
      refine tailM_nil fun W hW => ?_
      obtain ⟨⟨hW1, -⟩, hW2⟩ := hW
      have HW1 := Lib.hid (HGR.out.trans hW1)
      have HW2 := Lib.hid hW2
      clear hW1 hW2
      go_wp2
      go_roundw
      case rel => exact ⟨q + 1, _, by go_num, by omega, HW2.out, Nat.le_trans (aput_length _ _ _) (by have := HFL.out; omega), fd_put HDET.out HM.out HFM.out, HW1.out⟩
      case measure => simp [intOf]; omega
    ·obtain rfl : q = Z := by omega
     go_wp2
     (try simp only [Exit.inBlock, Exit.then])
     refine bodyPost_ret (results_none rfl _ _ _) rfl ?_
     refine ⟨F, rfl, HFQ.out, (grown_of_below B5.out (some Bf)).trans HGR.out, fun p => ?_⟩
     rw [HFM.out p, List.take_of_length_le (by rw [HZ.out]; exact Nat.le_refl _)]
     constructor
     ·rintro ⟨m, hm, rfl⟩
      obtain ⟨s, t, h1, h2, h3, h4, h5⟩ := (HMM.out m).1 hm
      exact ⟨m.1, m.2.1, s, t, h1, h2, h3, by rw [← h4]; rfl, by rw [← h4]; exact h5⟩
     ·rintro ⟨i, j, s, t, h1, h2, h3, rfl, h5⟩
      exact ⟨(i, j, meetsQ s t), (HMM.out _).2 ⟨s, t, h1, h2, h3, rfl, h5⟩, rfl⟩
end Go.Proofs.YtibpaaajghbkoaaGreat

namespace Go.Proofs.YtibpaaajghbkoaaGreat
open Go.RowKit Go.Sort Go.Maps
def cmpL : List ByteArray → List ByteArray → Int
 |[], [] => 0
 |[], _ :: _ => -1
 |_ :: _, [] => 1
 |a :: p, b :: q => if cmpS a b = 0 then cmpL p q else cmpS a b
theorem cmpL_drop {s t : List ByteArray} {i : Nat} {a b : ByteArray} (ha : s[i]? = some a) (hb : t[i]? = some b) : cmpL (s.drop i) (t.drop i) = if cmpS a b = 0 then cmpL (s.drop (i + 1)) (t.drop (i + 1)) else cmpS a b := by
 obtain ⟨h1, e1⟩ := List.getElem?_eq_some_iff.1 ha
 obtain ⟨h2, e2⟩ := List.getElem?_eq_some_iff.1 hb
 rw [List.drop_eq_getElem_cons h1, List.drop_eq_getElem_cons h2, e1, e2, cmpL]
theorem cmpL_nil {t : List ByteArray} : cmpL [] t = if t.length = 0 then 0 else -1 := by cases t <;> simp [cmpL]
theorem cmpL_over {s : List ByteArray} (h : 0 < s.length) : cmpL s [] = 1 := by
 cases s with
 |nil => simp at h
 |cons a s => rfl
set_option maxRecDepth 100000 in
set_option maxHeartbeats 2000000 in
theorem compareL_any (v1 v2 : Value) (s t : List ByteArray) (w : World) (h1 : StrRow w v1 s) (h2 : StrRow w v2 t) :
  Calls Tryz.prog 80 #[v1, v2] w fun e w' => e = .returned (.int .i64 (cmpL s t)) ∧ w' = w := by
 obtain ⟨a1, c1, rfl, n1, z1, hc1⟩ := h1
 obtain ⟨a2, c2, rfl, n2, z2, hc2⟩ := h2
 have HC1 := Lib.hid hc1
 have HC2 := Lib.hid hc2
 obtain ⟨N1, hN1⟩ : ∃ N, s.length = N := ⟨_, rfl⟩
 obtain ⟨N2, hN2⟩ : ∃ N, t.length = N := ⟨_, rfl⟩
 rw [hN1] at n1 ⊢
 rw [hN2] at n2 ⊢
 have H1 := Lib.hid hN1
 have H2 := Lib.hid hN2
 obtain ⟨res, hres⟩ : ∃ r, r = cmpL s t := ⟨_, rfl⟩
 have HR := Lib.hid hres
 rw [← hres]
 clear hc1 hc2 z1 z2 hN1 hN2 hres
 go_enter Tryz.func80, Tryz.ntmps80
 go_wp2_with fail
 go_loopw [11] (fun i wr => ∃ k : Nat, i = .int .i64 k ∧ k ≤ N1 ∧ k ≤ N2 ∧ cmpL (s.drop k) (t.drop k) = res ∧ wr = w) (fun i _ => N1 - (intOf i).toNat)
 case atStart => exact ⟨0, rfl, by omega, by omega, by rw [HR.out]; rfl, rfl⟩
 case round =>
  obtain ⟨k, rfl, hk1, hk2, hres, rfl⟩ := hrel
  have HE := Lib.hid hres
  clear hres
  by_cases l1 : k < N1
  ·obtain ⟨x, hx⟩ : ∃ x, s[k]? = some x := ⟨s[k]'(by rw [H1.out]; exact l1), List.getElem?_eq_getElem _⟩
   obtain ⟨b1, o1, ha1, hcell1⟩ := HC1.out (by rw [H1.out]; omega)
   subst ha1
   have d1 := hcell1 k x hx
   have bz1 := lt_of_cell d1
   have HX := Lib.hid hx
   clear hcell1 hx
   by_cases l2 : k < N2
   ·obtain ⟨y, hy⟩ : ∃ y, t[k]? = some y := ⟨t[k]'(by rw [H2.out]; exact l2), List.getElem?_eq_getElem _⟩
    obtain ⟨b2, o2, ha2, hcell2⟩ := HC2.out (by rw [H2.out]; omega)
    subst ha2
    have d2 := hcell2 k y hy
    have bz2 := lt_of_cell d2
    have HD := Lib.hid (cmpL_drop HX.out hy)
    have CC := Lib.hid (cmpS_any x y)
    obtain ⟨c, hc⟩ : ∃ c, c = cmpS x y := ⟨_, rfl⟩
    rw [← hc] at HD CC
    clear hcell2 hy hc
    go_wp2_with fail
    refine (CC.out _).mono ?_
    rintro e w2 ⟨rfl, rfl⟩
    obtain ⟨z, hz⟩ : ∃ z, (c != 0) = z := ⟨_, rfl⟩
    cases z with
    |true =>
     have hc0 : c ≠ 0 := by rw [bne_iff_ne] at hz; exact hz
     have HV := Lib.hid (show c = res by rw [← HE.out, HD.out, if_neg hc0])
     clear hc0
     go_wp2
     go_ret
     exact ⟨by rw [HV.out] <;> rfl, by first | rfl | trivial⟩
    |false =>
     have hc0 : c = 0 := by simpa using hz
     have HV := Lib.hid (show cmpL (s.drop (k + 1)) (t.drop (k + 1)) = res by rw [← HE.out, HD.out, if_pos hc0])
     clear hc0
     go_wp2
     go_roundw
     case rel => exact ⟨k + 1, by go_num, by omega, by omega, HV.out, by first | rfl | trivial⟩
     case measure => simp [intOf]; omega
   ·obtain rfl : k = N2 := by omega
    have HV := Lib.hid (show res = 1 by
     rw [← HE.out, List.drop_of_length_le (l := t) (by rw [H2.out]; exact Nat.le_refl _)]
     exact cmpL_over (by rw [List.length_drop, H1.out]; omega))
    go_wp2
    go_ret
    exact ⟨by rw [HV.out] <;> rfl, by first | rfl | trivial⟩
  ·obtain rfl : k = N1 := by omega
   have HV := Lib.hid (show res = if N2 ≤ k then 0 else -1 by
    rw [← HE.out, List.drop_of_length_le (l := s) (by rw [H1.out]; exact Nat.le_refl _), cmpL_nil, List.length_drop, H2.out]
    by_cases h : N2 ≤ k
    ·rw [if_pos h, if_pos (by omega)]
    ·rw [if_neg h, if_neg (by omega)])
   by_cases l2 : k < N2
   ·have HV2 := Lib.hid (show res = -1 by rw [HV.out, if_neg (by omega)])
    go_wp2
    go_ret
    exact ⟨by rw [HV2.out] <;> rfl, by first | rfl | trivial⟩
   ·have HV2 := Lib.hid (show res = 0 by rw [HV.out, if_pos (by omega)])
    go_wp2
    go_ret
    exact ⟨by rw [HV2.out] <;> rfl, by first | rfl | trivial⟩
abbrev evB (b : Bool) : Value := .bool b
def NotesAt (w : World) (b : Nat) (N : List KeyD) : Prop := MapAt Tryz.prog 83 keyV evB w b (N.map fun k => (k, true))
def noteK (k : KeyD) (N : List KeyD) : List KeyD := if k ∈ N then N else N ++ [k]
theorem aput_note (k : KeyD) : ∀ N : List KeyD, aput k true (N.map fun k => (k, true)) = (noteK k N).map fun k => (k, true)
 |[] => rfl
 |x :: N => by
  have ih := aput_note k N
  rw [List.map_cons, aput]
  by_cases e : x = k
  ·subst e
   simp [noteK]
  ·have e' : ¬ k = x := fun c => e c.symm
   simp only [e, if_false]
   rw [ih]
   unfold noteK
   by_cases hm : k ∈ N
   ·simp [hm]
   ·simp [hm, e']
theorem note_mem {k x : KeyD} {N : List KeyD} : x ∈ noteK k N ↔ x = k ∨ x ∈ N := by
 unfold noteK
 split
 ·rename_i h
  constructor
  ·exact Or.inr
  ·rintro (rfl | h'); exact h; exact h'
 ·simp [or_comm]
theorem NotesAt.on {w w' : World} {b : Nat} {N : List KeyD} (h : NotesAt w b N) (hb : Below w.heap.size w w') : NotesAt w' b N := MapAt.on h hb
set_option maxRecDepth 100000 in
set_option maxHeartbeats 1000000 in
theorem note_any (a b : ByteArray) (Bc Bb : Nat) (N : List KeyD) (w : World) (ha : a.size ≤ 140737488355328) (hb : b.size ≤ 140737488355328) (hc : w.heap[Bc]? = some (.cells #[.map (some Bb)] 123)) (hn : NotesAt w Bb N) (hl : N.length < maxLen) :
  Calls Tryz.prog 74 #[.string a, .string b, .pointer (some ⟨Bc, 0, none⟩)] w fun e w' => e = .returned (.tuple #[]) ∧ NotesAt w' Bb (noteK (key2 a b) N) ∧ w.grownBy w' (some Bb) := by
 have hmin := run_minB Tryz.prog
 have hmax' := run_maxB Tryz.prog
 have hc' := Lib.hid hc
 clear hc
 obtain ⟨pz, p0⟩ := rk1 hc'.out
 obtain ⟨w9, hr9, hf9, hg9⟩ := MapAt.put hn keyK keyV_inj Tryz.underlying123 (by rw [List.length_map]; exact hl) (key2 a b) (keyV_ok (k := key2 a b) (by unfold key2 minB; simp only; split; exact hb; exact ha) (by unfold key2 maxB; simp only; split; exact hb; exact ha)) true
 have HF := Lib.hid (show NotesAt w9 Bb (noteK (key2 a b) N) by unfold NotesAt; rw [← aput_note]; exact hf9)
 have HG := Lib.hid hg9
 simp only [keyV, key2, evB] at hr9
 clear hn hl hf9 hg9 ha hb
 go_enter Tryz.func74, Tryz.ntmps74
 go_wp2
 refine Go.Great.bodyPost_end0 rfl rfl ?_
 exact ⟨rfl, HF.out, HG.out⟩
theorem compact_pair (x y : List UInt8) : Lib.compact [x, y] = if x = y then [x] else [x, y] := by
 unfold Lib.compact Lib.compactUpTo
 by_cases h : x = y
 ·subst h
  have e : (List.range 2).filter (Lib.keeps #[x, x]) = [0] := by simp [List.range, List.range.loop, Lib.keeps]
  simp only [List.length_cons, List.length_nil, Nat.zero_add, Nat.reduceAdd]
  rw [e]; simp
 ·have e : (List.range 2).filter (Lib.keeps #[x, y]) = [0, 1] := by simp [List.range, List.range.loop, Lib.keeps]; exact fun c => h c.symm
  simp only [List.length_cons, List.length_nil, Nat.zero_add, Nat.reduceAdd]
  rw [e, if_neg h]; simp
theorem compact_any (k : KeyD) (B : Nat) (w : World) (h1 : k.1.size ≤ 140737488355328) (h2 : k.2.size ≤ 140737488355328) (h : w.heap[B]? = some (.cells #[.string k.1, .string k.2] 83 (0, 0))) :
  Calls Tryz.prog 77 #[.slice (some ⟨B, 0, none⟩) 2 2] w fun e w' => ∃ n : Nat, e = .returned (.slice (some ⟨B, 0, none⟩) n 2) ∧ StrRow w' (.slice (some ⟨B, 0, none⟩) n 2) (idsK k) ∧ w.grownBy w' (some B) := by
 obtain ⟨x, y⟩ := k
 simp only [] at h h1 h2
 have hS : Lib.strsOf (fun i => if i = 0 then x else y) 2 = [x.data.toList, y.data.toList] := rfl
 refine (Tryz.slices_Compact_string_cells B 0 2 2 (fun i => if i = 0 then x else y) w (by omega) (by omega) (fun i hi => ?_) (fun j _ => frozen_of_row w _ _ _ _ h)).mono ?_
 ·have hh := cell_of_row w _ (0 + i) _ _ _ h
  rw [hh]
  rcases (show i = 0 ∨ i = 1 by omega) with rfl | rfl <;> rfl
 ·rintro e w' ⟨rfl, q, rfl⟩
  rw [hS, compact_pair]
  have hd : (w.drewN q).heap[B]? = some (.cells #[.string x, .string y] 83 (0, 0)) := h
  have hg : w.grownBy (w.drewN q) (some B) := grown_of_below ((Below.refl _ _).drewN') _
  have hxy : x.data.toList = y.data.toList ↔ x = y := ⟨fun e => by cases x; cases y; simp at e; rw [e], fun e => by rw [e]⟩
  by_cases e : x = y
  ·subst e
   rw [if_pos rfl]
   refine ⟨1, rfl, ?_, hg.trans (setCells_grown _ _ _)⟩
   have hb := setCells_block (([x.data.toList] ++ List.replicate (2 - [x.data.toList].length) []).map encStr) 0 _ _ hd
   refine ⟨some ⟨B, 0, none⟩, 2, by simp [idsK], by simp [idsK], by simp [idsK]; exact h1, fun _ => ⟨B, 0, rfl, fun i s hs => ?_⟩⟩
   simp only [idsK, if_true] at hs
   have hi : i = 0 := by have := (List.getElem?_eq_some_iff.1 hs).1; simp at this; exact this
   subst hi
   simp at hs
   subst hs
   rw [cell_of_row _ _ (0 + 0) _ _ _ hb]
   rfl
  ·rw [if_neg (fun c => e (hxy.1 c))]
   refine ⟨2, rfl, ?_, hg.trans (setCells_grown _ _ _)⟩
   have hb := setCells_block (([x.data.toList, y.data.toList] ++ List.replicate (2 - [x.data.toList, y.data.toList].length) []).map encStr) 0 _ _ hd
   refine ⟨some ⟨B, 0, none⟩, 2, by simp [idsK, e], by simp [idsK, e], by simp [idsK, e]; exact ⟨h1, h2⟩, fun _ => ⟨B, 0, rfl, fun i s hs => ?_⟩⟩
   simp only [idsK, e, if_false] at hs
   have hi : i = 0 ∨ i = 1 := by have := (List.getElem?_eq_some_iff.1 hs).1; simp at this; omega
   rw [cell_of_row _ _ (0 + i) _ _ _ hb]
   rcases hi with rfl | rfl
   ·simp at hs; subst hs; rfl
   ·simp at hs; subst hs; rfl
def encVi (x : LineM) : List Value := [.string ⟨#[]⟩, .int .i64 2, .slice x.2.1 x.2.2.1 x.2.2.2]
theorem encVi_len (x : LineM) : (encVi x).length = 3 := rfl
theorem encVi_one (x : LineM) : ∀ v ∈ encVi x, v.oneCell' = true := by
 intro v hv
 simp only [encVi, List.mem_cons, List.not_mem_nil, or_false] at hv
 rcases hv with rfl | rfl | rfl <;> rfl
def OrdK (k : KeyD) : Prop := ltB k.2 k.1 = false
theorem cmpS_one {a b : ByteArray} (h : ltB a b = true) : cmpS a b = -1 ∧ cmpS b a = 1 := by
 unfold cmpS
 have : ltB b a = false := by
  cases h2 : ltB b a with
  |false => rfl
  |true => have := ltB_trans h h2; rw [ltB_irrefl] at this; cases this
 rw [h, this]; exact ⟨rfl, rfl⟩
theorem ids_cmp {a b : KeyD} (ha : OrdK a) (hb : OrdK b) : cmpL (idsK a) (idsK b) = cmpK a b := by
 obtain ⟨p, s⟩ := a
 obtain ⟨q, r⟩ := b
 unfold OrdK at ha hb
 simp only [] at ha hb
 have z : ∀ x, cmpS x x = 0 := fun x => cmpS_zero.2 rfl
 unfold idsK cmpK
 by_cases e1 : p = s
 ·subst e1
  by_cases e2 : q = r
  ·subst e2
   simp only [if_true]
   simp only [cmpL]
   by_cases h : cmpS p q = 0 <;> simp [h]
  ·simp only [if_true, e2, if_false]
   simp only [cmpL]
   by_cases h : cmpS p q = 0
   ·have := cmpS_zero.1 h
    subst this
    have : ltB p r = true := by
     cases h2 : ltB p r with
     |true => rfl
     |false => exact absurd (ltB_total h2 hb) e2
    simp [h, (cmpS_one this).1]
   ·simp [h]
 ·by_cases e2 : q = r
  ·subst e2
   simp only [if_true, e1, if_false]
   simp only [cmpL]
   by_cases h : cmpS p q = 0
   ·have := cmpS_zero.1 h
    subst this
    have : ltB p s = true := by
     cases h2 : ltB p s with
     |true => rfl
     |false => exact absurd (ltB_total h2 ha) e1
    simp [h, (cmpS_one this).2]
   ·simp [h]
  ·simp only [e1, e2, if_false]
   simp only [cmpL]
   by_cases h : cmpS p q = 0
   ·by_cases h2 : cmpS s r = 0 <;> simp [h, h2]
   ·simp [h]
set_option maxHeartbeats 1000000 in
theorem vic_any (x y : LineM) (w : World) (hx : StrRow w (.slice x.2.1 x.2.2.1 x.2.2.2) (idsK x.1)) (hy : StrRow w (.slice y.2.1 y.2.2.1 y.2.2.2) (idsK y.1)) (ox : OrdK x.1) (oy : OrdK y.1) :
  Calls Tryz.prog 79 #[.agg (encVi x).toArray, .agg (encVi y).toArray] w fun e w' => e = .returned (.int .i64 (cfLn x y)) ∧ Grew w w' := by
 have C1 := Lib.hid (fun W hb => compareL_any _ _ _ _ W (hx.later (w' := W) hb) (hy.later hb))
 rw [show cfLn x y = cmpL (idsK x.1) (idsK y.1) from (ids_cmp ox oy).symm]
 generalize cmpL (idsK x.1) (idsK y.1) = r at C1 ⊢
 clear ox oy hx hy
 obtain ⟨⟨x1, x2⟩, xa, xn, xc⟩ := x
 obtain ⟨⟨y1, y2⟩, ya, yn, yc⟩ := y
 simp only [encVi] at C1 ⊢
 go_enter Tryz.func79, Tryz.ntmps79
 go_wp2_with fail
 have G1 : Grew w ((w.alloc (.cells #[.string ⟨#[]⟩, .int .i64 2, .slice xa xn xc] 102)).alloc (.cells #[.string ⟨#[]⟩, .int .i64 2, .slice ya yn yc] 102)) := ((Grew.refl w).alloc _).alloc _
 refine (C1.out _ G1.below).mono ?_
 rintro e w2 ⟨rfl, rfl⟩
 go_wp2
 go_ret
 exact ⟨rfl, G1⟩
end Go.Proofs.YtibpaaajghbkoaaGreat
