/-  -/
import Derived.Test.YtibpaaajghbkoaaGreatUBa
import Derived.Test.YtibpaaajghbkoaaGreatUAp
namespace Go.Proofs.YtibpaaajghbkoaaGreat
open Go.RowKit Go.Sort
theorem StableW.grown (w : World) (row : Option Nat) : StableW fun W => w.grownBy W row := fun _ _ h h2 => h.trans ⟨h2.os, h2.tape, h2.output, h2.size, fun k hk _ => h2.block k hk⟩
theorem grown_of_below {w w' : World} (h : Below w.heap.size w w') (row : Option Nat) : w.grownBy w' row := ⟨h.os, h.tape, h.output, h.size, fun k hk _ => h.block k hk⟩
theorem infoIt : (Tryz.prog.info? 230).map (fun i => (i.zero, i.size, i.bytes)) = some (some (.agg #[.int .i64 0, .int .i64 0, .int .i64 0, .int .i64 0, .int .i64 0, .int .i64 0, .int .i64 0, .int .i64 0, .int .i64 0]), 9, 72) := by kernel_rfl
theorem infoMt : (Tryz.prog.info? 188).map (fun i => (i.zero, i.size, i.bytes)) = some (some (.agg #[.int .i64 0, .int .i64 0, .int .i64 0]), 3, 24) := by kernel_rfl
theorem own_block_slice {w : World} {base size n m cap : Nat} {e : TypeId} {g : Nat} {xs : List Value} (h : w.ownsRow base e size (.slice (some ⟨g, 0, none⟩) n cap) m xs) : ∃ cur, w.heap[g]? = some (.cells cur e (0, 0)) ∧ cur.size = cap * size ∧ n = m := by
 rcases h.2 with ⟨h0, _⟩ | ⟨g', cap', cur, hv, hb, hc, h1, h2, h3, h4⟩
 ·cases h0
 ·injection hv with a b c
  injection a with a
  injection a with a
  subst a b c
  exact ⟨cur, hc, h3, rfl⟩
theorem itT_list : ∀ l : List ItD, (∀ x ∈ l, x.1 ≤ 20000) → ∃ L : List ItT, L.map (·.1) = l
 |[], _ => ⟨[], rfl⟩
 |x :: l, h => by
  obtain ⟨L, hL⟩ := itT_list l fun y hy => h y (List.mem_cons_of_mem _ hy)
  exact ⟨⟨x, h x (List.mem_cons_self ..)⟩ :: L, by rw [List.map_cons, hL]⟩
theorem mtT_list : ∀ l : List MtD, (∀ x ∈ l, x.1 ≤ 20000 ∧ x.2.1 ≤ 20000) → ∃ L : List MtT, L.map (·.1) = l
 |[], _ => ⟨[], rfl⟩
 |x :: l, h => by
  obtain ⟨L, hL⟩ := mtT_list l fun y hy => h y (List.mem_cons_of_mem _ hy)
  exact ⟨⟨x, h x (List.mem_cons_self ..)⟩ :: L, by rw [List.map_cons, hL]⟩
theorem own_apart {w : World} {b1 b2 e1 e2 s1 s2 n1 n2 : Nat} {v1 v2 : Value} {x1 x2 : List Value} (h1 : w.ownsRow b1 e1 s1 v1 n1 x1) (h2 : w.ownsRow b2 e2 s2 v2 n2 x2) (hne : e1 ≠ e2) : v1.ownBlock = none ∨ v1.ownBlock ≠ v2.ownBlock := by
 rcases h1.2 with ⟨rfl, _⟩ | ⟨g, cap, cur, rfl, _, h3, _⟩
 ·exact Or.inl rfl
 ·rcases h2.2 with ⟨rfl, _⟩ | ⟨g', cap', cur', rfl, _, h4, _⟩
  ·exact Or.inr (by simp [Value.ownBlock])
  ·right
   intro c
   simp only [Value.ownBlock, Option.some.injEq] at c
   subst c
   rw [h3] at h4
   injection h4 with h4
   injection h4 with _ h5 _
   exact hne h5
theorem run_minN (P : Program) (W : World) (ts : Array TypeId) (t : TypeId) (x y : Nat) : (Builtin.min_ ts t #[.int .i64 x, .int .i64 y]).run P W = .ok (.int .i64 ((min x y : Nat) : Int)) W := by
 have e : ((min x y : Nat) : Int) = if (y : Int) < (x : Int) then (y : Int) else (x : Int) := by split <;> omega
 rw [e]
 simp [Builtin.min_, Builtin.min2]
theorem run_maxN (P : Program) (W : World) (ts : Array TypeId) (t : TypeId) (x y : Nat) : (Builtin.max_ ts t #[.int .i64 x, .int .i64 y]).run P W = .ok (.int .i64 ((max x y : Nat) : Int)) W := by
 have e : ((max x y : Nat) : Int) = if (x : Int) < (y : Int) then (y : Int) else (x : Int) := by split <;> omega
 rw [e]
 simp [Builtin.max_, Builtin.max2]
theorem fm_take {F : List ItD} {f : ItD → Option MtD} {q : Nat} {y : ItD} (hy : F[q]? = some y) : (F.take (q + 1)).filterMap f = (F.take q).filterMap f ++ (f y).toList := by
 obtain ⟨hk', e⟩ := List.getElem?_eq_some_iff.1 hy
 rw [List.take_succ_eq_append_getElem hk', e, List.filterMap_append]
 have h : List.filterMap f [y] = (f y).toList := by cases h : f y <;> simp [h]
 rw [h]
def AllPost (S : List Sg) (w : World) (e : Ending) (w' : World) : Prop :=
 ∃ (v : Value) (M : List MtD), e = .returned (.tuple #[v, .int .i64 0]) ∧ RowE encMt 3 w' v M ∧ M.length ≤ S.length * S.length ∧ (∀ m : MtD, m ∈ M ↔ ∃ s t, m.1 < m.2.1 ∧ S[m.1]? = some s ∧ S[m.2.1]? = some t ∧ m.2.2 = meetsQ s t ∧ m.2.2 ≠ 0) ∧ Below w.heap.size w w'
set_option maxRecDepth 100000 in
set_option maxHeartbeats 8000000 in
theorem all_any' (v : Value) (S : List Sg) (w : World) (hv : RowE encSg 4 w v S) (hl : S.length ≤ 20000) :
  Calls Tryz.prog 135 #[v] w (AllPost S w) := by
 have mixed : Tryz.prog.follows .mixedOrders = true := by kernel_rfl
 obtain ⟨a, cap, rfl, hc⟩ := hv
 obtain ⟨N, hN⟩ : ∃ N, S.length = N := ⟨_, rfl⟩
 rw [hN] at hc hl ⊢
 have HN := Lib.hid hN
 have HC := Lib.hid hc
 obtain ⟨j0, hj, hj0, hj1, hj2⟩ := info_parts infoIt
 obtain ⟨i0, hi, hi0, hi1, hi2⟩ := info_parts infoMt
 have hgt : decide ((N : Int) > 20000) = false := decide_eq_false (by omega)
 clear hN hc
 go_enter Tryz.func135, Tryz.ntmps135
 go_wp2_with (at_make; refine wpList_make_full _ rfl _ _ 225 rfl w.heap.size 230 j0 (.agg #[.int .i64 0, .int .i64 0, .int .i64 0, .int .i64 0, .int .i64 0, .int .i64 0, .int .i64 0, .int .i64 0, .int .i64 0]) 9 Tryz.underlying225 hj hj0 hj1 .i64 .i64 N N N rfl rfl rfl rfl (by rw [hj2]; omega) (by unfold maxLen; omega) (Nat.le_refl _) ?_; intro wm hownm hgm; have HOM := Lib.hid hownm; have BM := (Below.refl w.heap.size w).grown hgm (Nat.le_refl _) (fun j hj => by cases hj); clear hownm hgm)
 obtain ⟨g, hg⟩ : ∃ g, g = w.heap.size := ⟨_, rfl⟩
 rw [← hg]
 obtain ⟨cur, hcur, hcs, -⟩ := own_block_slice HOM.out
 rw [← hg] at hcur
 have HCUR := Lib.hid hcur
 have hzm := BM.size
 have hgm : g < wm.heap.size := lt_of_block hcur
 have HG := Lib.hid hg
 have HX0 := Lib.hid (show Holds9 cur ((itemsP S).take 0) 0 from fun a x t u _ hx => (by simp at hx))
 have hbase : w.heap.size ≤ g := by omega
 clear HOM hcur hg
 go_loopw [22] (fun i wr => ∃ (k : Nat) (X : Array Value), i = .int .i64 k ∧ k ≤ N ∧ wr.heap[g]? = some (.cells X 230 (0, 0)) ∧ X.size = N * 9 ∧ Holds9 X ((itemsP S).take k) 0 ∧ wm.grownBy wr (some g)) (fun i _ => N - (intOf i).toNat)
 case atStart => exact ⟨0, cur, rfl, by omega, HCUR.out, hcs, HX0.out, World.grownBy.refl _ _⟩
 case round =>
  obtain ⟨k, X, rfl, hk, hX, hXs, hH, hgr⟩ := hrel
  have HXg := Lib.hid hX
  have HHX := Lib.hid hH
  have HGR := Lib.hid hgr
  have hzr := hgr.size
  have BR := BM.grown hgr (by omega) (fun j hj => by injection hj with hj; omega)
  clear hX hH hgr
  by_cases hlt : k < N
  ·obtain ⟨s, hs⟩ : ∃ s, S[k]? = some s := ⟨S[k]'(by rw [HN.out]; exact hlt), List.getElem?_eq_getElem _⟩
   obtain ⟨b, off, ha, hcell⟩ := HC.out (by omega)
   subst ha
   have d0' := cell_later BR (hcell k s hs 0 _ rfl)
   have d0 : wr.cell? ⟨b, off + k * 4, none⟩ = some (.int .i64 s.1.1) := d0'
   have d1 := cell_later BR (hcell k s hs 1 _ rfl)
   have d2 := cell_later BR (hcell k s hs 2 _ rfl)
   have d3 := cell_later BR (hcell k s hs 3 _ rfl)
   have HIT := Lib.hid (itemsP_get hs)
   have bz := lt_of_cell d0
   clear hcell d0' hs
   obtain ⟨⟨x1, x2⟩, ⟨x3, x4⟩⟩ := s
   simp only [] at d0 d1 d2 d3
   go_wp2_with fail
   have BX : Below wr.heap.size wr (wr.alloc (.cells #[.int .i64 x1, .int .i64 x2, .int .i64 x3, .int .i64 x4] 48)) := (Below.refl _ _).alloc (Nat.le_refl _) _
   have HX := row_new wr (.cells #[.int .i64 x1, .int .i64 x2, .int .i64 x3, .int .i64 x4] 48)
   generalize hw3 : wr.alloc (.cells #[.int .i64 x1, .int .i64 x2, .int .i64 x3, .int .i64 x4] 48) = w3
   rw [hw3] at BX HX
   have hz3 : w3.heap.size = wr.heap.size + 1 := by rw [← hw3]; simp
   obtain ⟨Bx, hBx⟩ : ∃ z, z = wr.heap.size := ⟨_, rfl⟩
   rw [← hBx] at HX hz3 ⊢
   have HX3 := Lib.hid HX
   have HXg3 := Lib.hid (row_later BX HXg.out)
   have G3 := Lib.hid (grown_of_below BX (some g))
   have hgx : Bx ≠ g := by have := lt_of_block HXg.out; omega
   clear hw3 hBx d0 d1 d2 d3 bz BX HX
   have b0 : (0 : Int) ≤ (k : Int) := by omega
   have b1 : (k : Int) < (N : Int) := by omega
   have b2 : ((k : Int)).toNat = k := by omega
   refine wp_region_mix 20 (fun W => wr.grownBy W (some g) ∧ W.heap[Bx]? = some (.cells #[.int .i64 x1, .int .i64 x2, .int .i64 x3, .int .i64 x4] 48)) (fun W => Below w3.heap.size w3 W) mixed (by kernel_rfl) (by kernel_rfl) (by kernel_rfl) (StableW.below _ _ (Nat.le_refl _)) (fun W hW => ⟨G3.out.trans (grown_of_below hW _), row_later hW HX3.out⟩) (Below.refl _ _).drew ?_
   apply Exists.intro
   refine ⟨fun W hW => ?_, ?_⟩
   ·obtain ⟨hW1, HX⟩ := hW
    have HXh := Lib.hid HX
    obtain ⟨xz, x0, x1, x2, x3⟩ := rk4 HXh.out
    have qx0 := cell_belowBy x0
    have qx1 := cell_belowBy x1
    have qx2 := cell_belowBy x2
    have qx3 := cell_belowBy x3
    clear x0 x1 x2 x3
    clear HX
    simp only [List.take_succ_cons, List.take_zero]
    repeat (go_big_quiet_step ((go_at_call 180; exact calls_belowBy (swof_any _ _ _))))
    exact wpQuiet_nil rfl
   ·simp only [List.drop_succ_cons, List.drop_zero]
    refine tailM_step (ι := Unit) (fun _ => undef) (fun _ W => (wr.grownBy W (some g) ∧ W.heap[Bx]? = some (.cells #[.int .i64 x1, .int .i64 x2, .int .i64 x3, .int .i64 x4] 48)) ∧ W.heap[g]? = some (.cells (splice X (k * 9) (encIt (k, ((x1, x2), x3, x4)))) 230 (0, 0))) rfl (fun _ => ((StableW.grown _ _).and (StableW.row _ _)).and (StableW.row _ _)) (fun _ _ h => h.1) (fun W hS K hK => ?_) (fun _ => ?_)
    ·have HXW := Lib.hid (row_later hS HXg3.out)
     have HBW := Lib.hid (row_later hS HX3.out)
     have hgW := lt_of_block HXW.out
     have G4 := Lib.hid (G3.out.trans (grown_of_below hS (some g)))
     have hi9 : k * 9 + 9 ≤ X.size := by omega
     obtain ⟨u0', hu0⟩ : ∃ u, X[k * 9 + 0]? = some u := ⟨_, Array.getElem?_eq_getElem (by omega)⟩
     have s0 := (cell_of_row W _ (k * 9 + 0) _ _ _ HXW.out).trans hu0
     have f0 := frozen_of_row W _ (k * 9 + 0) _ _ HXW.out
     obtain ⟨u1', hu1⟩ : ∃ u, X[k * 9 + 1]? = some u := ⟨_, Array.getElem?_eq_getElem (by omega)⟩
     have s1 := (cell_of_row W _ (k * 9 + 1) _ _ _ HXW.out).trans hu1
     have f1 := frozen_of_row W _ (k * 9 + 1) _ _ HXW.out
     obtain ⟨u2', hu2⟩ : ∃ u, X[k * 9 + 2]? = some u := ⟨_, Array.getElem?_eq_getElem (by omega)⟩
     have s2 := (cell_of_row W _ (k * 9 + 2) _ _ _ HXW.out).trans hu2
     have f2 := frozen_of_row W _ (k * 9 + 2) _ _ HXW.out
     obtain ⟨u3', hu3⟩ : ∃ u, X[k * 9 + 3]? = some u := ⟨_, Array.getElem?_eq_getElem (by omega)⟩
     have s3 := (cell_of_row W _ (k * 9 + 3) _ _ _ HXW.out).trans hu3
     have f3 := frozen_of_row W _ (k * 9 + 3) _ _ HXW.out
     obtain ⟨u4', hu4⟩ : ∃ u, X[k * 9 + 4]? = some u := ⟨_, Array.getElem?_eq_getElem (by omega)⟩
     have s4 := (cell_of_row W _ (k * 9 + 4) _ _ _ HXW.out).trans hu4
     have f4 := frozen_of_row W _ (k * 9 + 4) _ _ HXW.out
     obtain ⟨u5', hu5⟩ : ∃ u, X[k * 9 + 5]? = some u := ⟨_, Array.getElem?_eq_getElem (by omega)⟩
     have s5 := (cell_of_row W _ (k * 9 + 5) _ _ _ HXW.out).trans hu5
     have f5 := frozen_of_row W _ (k * 9 + 5) _ _ HXW.out
     obtain ⟨u6', hu6⟩ : ∃ u, X[k * 9 + 6]? = some u := ⟨_, Array.getElem?_eq_getElem (by omega)⟩
     have s6 := (cell_of_row W _ (k * 9 + 6) _ _ _ HXW.out).trans hu6
     have f6 := frozen_of_row W _ (k * 9 + 6) _ _ HXW.out
     obtain ⟨u7', hu7⟩ : ∃ u, X[k * 9 + 7]? = some u := ⟨_, Array.getElem?_eq_getElem (by omega)⟩
     have s7 := (cell_of_row W _ (k * 9 + 7) _ _ _ HXW.out).trans hu7
     have f7 := frozen_of_row W _ (k * 9 + 7) _ _ HXW.out
     obtain ⟨u8', hu8⟩ : ∃ u, X[k * 9 + 8]? = some u := ⟨_, Array.getElem?_eq_getElem (by omega)⟩
     have s8 := (cell_of_row W _ (k * 9 + 8) _ _ _ HXW.out).trans hu8
     have f8 := frozen_of_row W _ (k * 9 + 8) _ _ HXW.out
     have s0' : W.cell? ⟨g, k * 9, none⟩ = some u0' := s0
     have f0' : W.frozen? ⟨g, k * 9, none⟩ = false := f0
     clear hu0 hu1 hu2 hu3 hu4 hu5 hu6 hu7 hu8 s0 f0
     have hcs' : ((((((((W.setCell ⟨g, k * 9, none⟩ (.int .i64 k)).setCell ⟨g, k * 9 + 1, none⟩ (.int .i64 x1)).setCell ⟨g, k * 9 + 2, none⟩ (.int .i64 x2)).setCell ⟨g, k * 9 + 3, none⟩ (.int .i64 x3)).setCell ⟨g, k * 9 + 4, none⟩ (.int .i64 x4)).setCell ⟨g, k * 9 + 5, none⟩ (.int .i64 (min x1 x3))).setCell ⟨g, k * 9 + 6, none⟩ (.int .i64 (max x1 x3))).setCell ⟨g, k * 9 + 7, none⟩ (.int .i64 (min x2 x4))).setCell ⟨g, k * 9 + 8, none⟩ (.int .i64 (max x2 x4)) = W.setCells g (k * 9) (encIt (k, ((x1, x2), x3, x4))) := rfl
     have H1 := Lib.hid (setCells_block (encIt (k, ((x1, x2), x3, x4))) (k * 9) W X HXW.out)
     have H2 := Lib.hid (row_grown (setCells_grown (g := g) (encIt (k, ((x1, x2), x3, x4))) (k * 9) W) HBW.out (fun e => hgx (by injection e)))
     have H3 := Lib.hid (G4.out.trans (setCells_grown (g := g) (encIt (k, ((x1, x2), x3, x4))) (k * 9) W))
     rw [← hcs'] at H1 H2 H3
     clear hcs'
     go_simp
     exact hK () _ ⟨⟨H3.out, H2.out⟩, H1.out⟩
    simp only [Act.put]
    refine tailM_nil fun W hW => ?_
    obtain ⟨⟨hW1, -⟩, hW2⟩ := hW
    have HW1 := Lib.hid (HGR.out.trans hW1)
    have HW2 := Lib.hid hW2
    have HS2 := Lib.hid (show Holds9 (splice X (k * 9) (encIt (k, ((x1, x2), x3, x4)))) ((itemsP S).take (k + 1)) 0 by
     obtain ⟨hk', e⟩ := List.getElem?_eq_some_iff.1 HIT.out
     rw [List.take_succ_eq_append_getElem hk', e]
     have hlen : ((itemsP S).take k).length = k := by rw [List.length_take]; omega
     have h := HHX.out.splice_snoc (x := (k, ((x1, x2), x3, x4))) (by rw [hlen]; omega)
     rw [hlen] at h
     exact h)
    have hsz2 : (splice X (k * 9) (encIt (k, ((x1, x2), x3, x4)))).size = N * 9 := by rw [size_splice]; exact hXs
    clear hW1 hW2
    go_wp2
    go_roundw
    case rel => exact ⟨k + 1, _, by go_num, by omega, HW2.out, hsz2, HS2.out, HW1.out⟩
    case measure => simp [intOf]; omega
  ·obtain rfl : k = N := by omega
   have hlenI : (itemsP S).length = k := by unfold itemsP; rw [List.length_map, List.length_range, HN.out]
   obtain ⟨L, hL⟩ := itT_list (itemsP S) (fun x hx => by have := (List.getElem?_eq_some_iff.1 (itemsP_mem.1 hx)).1; rw [HN.out] at this; omega)
   have hLl : L.length = k := by rw [← hlenI, ← hL, List.length_map]
   have HL := Lib.hid hL
   have HLL := Lib.hid hLl
   have hfm : ∀ L : List ItT, L.flatMap (fun x => encIt x.1) = (L.map (·.1)).flatMap encIt := fun L => by rw [List.flatMap_map]
   have HFM := Lib.hid hfm
   have HOW := Lib.hid (show wr.ownsRow w.heap.size 230 9 (.slice (some ⟨g, 0, none⟩) k k) k (L.flatMap fun x => encIt x.1) by
    rw [hfm, hL]
    have h := HHX.out
    rw [List.take_of_length_le (by omega)] at h
    have h2 := h.flat
    rw [hlenI] at h2
    exact ⟨by rw [flat_length encIt 9 encIt_len, hlenI], Or.inr ⟨g, k, X, rfl, hbase, HXg.out, Nat.le_refl _, by unfold maxLen; omega, hXs, h2⟩⟩)
   clear hlenI hL hLl hfm HC
   go_wp2_with fail
   have HS := sort_own (α := ItT) Tryz.sort_item 9 Tryz.isAgg230 Tryz.sizeOf230 (fun x => encIt x.1) (fun x => encIt_len x.1) (fun x => encIt_one x.1) (fun x y : ItT => cfIt x.1 y.1) swoIt 182 #[] (enters_of Tryz.func182 (by kernel_rfl) rfl) HLL.out.symm (by omega) (fun W _ x y => itc_any x y W) HOW.out
   refine HS.mono ?_
   rintro e w6 ⟨rfl, L', hL', hso, hown6, hg6⟩
   obtain ⟨Q, hQ⟩ : ∃ Q : List ItD, Q = L'.map (·.1) := ⟨_, rfl⟩
   have HQp := Lib.hid (show Q.Perm (itemsP S) by rw [hQ, ← HL.out]; exact hL'.map _)
   have HQs := Lib.hid (show SortI Q by
    rw [hQ]
    unfold SortI
    rw [List.pairwise_map]
    refine hso.imp fun {a b} h => ?_
    unfold ltOf at h
    rw [decide_eq_false_iff_not, cfIt_neg] at h
    omega)
   have hQl : Q.length = k := by rw [hQ, List.length_map, hL'.length_eq, HLL.out]
   have hrow : RowE encIt 9 w6 (.slice (some ⟨g, 0, none⟩) k k) Q := by
    have h := hown6
    rw [HFM.out, ← hQ] at h
    exact RowE.of_own encIt_len hQl.symm h
   obtain ⟨ai, capi, hvi, hci⟩ := hrow
   have HCI := Lib.hid hci
   have HQL := Lib.hid hQl
   injection hvi with e1 e2 e3
   subst e1
   have B6 := Lib.hid (BR.grown hg6 (by omega) (fun j hj => by simp only [Value.ownBlock, Option.some.injEq] at hj; omega))
   have hw6 := B6.out.size
   clear e2 e3 hci hown6 hg6 hso hL' hQ HS HOW HL HLL HFM hQl
   go_wp2_with fail
   go_loopw [7, 8, 52] (fun v7 v8 i wr => ∃ p : Nat, i = .int .i64 p ∧ p ≤ k ∧ wr.ownsRow w6.heap.size 188 3 v7 (sweepP Q p).2.length ((sweepP Q p).2.flatMap encMt) ∧ wr.ownsRow w6.heap.size 230 9 v8 (sweepP Q p).1.length ((sweepP Q p).1.flatMap encIt) ∧ Below w6.heap.size w6 wr) (fun _ _ i _ => k - (intOf i).toNat)
   case atStart => exact ⟨0, rfl, by omega, World.ownsRow_nil _ _ _ _, World.ownsRow_nil _ _ _ _, Below.refl _ _⟩
   case round =>
    obtain ⟨p, rfl, hp, hout, hact, hbr⟩ := hrel
    have HOUT := Lib.hid hout
    have HACT := Lib.hid hact
    have hzr2 := hbr.size
    obtain ⟨hsl1, hsl2⟩ := sweep_lens Q p
    clear hout hact
    by_cases hlt2 : p < k
    ·obtain ⟨x, hx⟩ : ∃ x, Q[p]? = some x := ⟨Q[p]'(by rw [HQL.out]; exact hlt2), List.getElem?_eq_getElem _⟩
     obtain ⟨b, off, ha, hcell⟩ := HCI.out (by rw [HQL.out]; omega)
     injection ha with ha
     injection ha with hb1 hb2
     subst hb1 hb2
     have d0' := cell_later hbr (hcell p x hx 0 _ rfl)
     have d1 := cell_later hbr (hcell p x hx 1 _ rfl)
     have d2 := cell_later hbr (hcell p x hx 2 _ rfl)
     have d3 := cell_later hbr (hcell p x hx 3 _ rfl)
     have d4 := cell_later hbr (hcell p x hx 4 _ rfl)
     have d5 := cell_later hbr (hcell p x hx 5 _ rfl)
     have d6 := cell_later hbr (hcell p x hx 6 _ rfl)
     have d7 := cell_later hbr (hcell p x hx 7 _ rfl)
     have d8 := cell_later hbr (hcell p x hx 8 _ rfl)
     have d0 : wr.cell? ⟨g, p * 9, none⟩ = some (.int .i64 x.1) := by simpa using d0'
     simp only [Nat.zero_add] at d1 d2 d3 d4 d5 d6 d7 d8
     have HSX := Lib.hid (sweepP_succ hx)
     have hx1 : x.1 < k := by
      have := (List.getElem?_eq_some_iff.1 (itemsP_mem.1 (HQp.out.mem_iff.1 (List.mem_of_getElem? hx)))).1
      rw [HN.out] at this; exact this
     obtain ⟨A, hA⟩ : ∃ A, A = (sweepP Q p).1 := ⟨_, rfl⟩
     obtain ⟨M, hM⟩ : ∃ M, M = (sweepP Q p).2 := ⟨_, rfl⟩
     rw [← hA, ← hM] at HSX
     rw [← hA] at HACT hsl1
     rw [← hM] at HOUT hsl2
     have bz := lt_of_cell d0
     have HBR := Lib.hid hbr
     clear hcell d0' hx hA hM hbr
     go_wp2_with fail
     have BX : Below wr.heap.size wr (wr.alloc (.cells #[.int .i64 x.1, .int .i64 x.2.1.1, .int .i64 x.2.1.2, .int .i64 x.2.2.1, .int .i64 x.2.2.2, .int .i64 (xlo x.2), .int .i64 (xhi x.2), .int .i64 (ylo x.2), .int .i64 (yhi x.2)] 230)) := (Below.refl _ _).alloc (Nat.le_refl _) _
     have HX := row_new wr (.cells #[.int .i64 x.1, .int .i64 x.2.1.1, .int .i64 x.2.1.2, .int .i64 x.2.2.1, .int .i64 x.2.2.2, .int .i64 (xlo x.2), .int .i64 (xhi x.2), .int .i64 (ylo x.2), .int .i64 (yhi x.2)] 230)
     generalize hw3 : wr.alloc (.cells #[.int .i64 x.1, .int .i64 x.2.1.1, .int .i64 x.2.1.2, .int .i64 x.2.2.1, .int .i64 x.2.2.2, .int .i64 (xlo x.2), .int .i64 (xhi x.2), .int .i64 (ylo x.2), .int .i64 (yhi x.2)] 230) = w3
     rw [hw3] at BX HX
     have hz3 : w3.heap.size = wr.heap.size + 1 := by rw [← hw3]; simp
     obtain ⟨Ba, hBa⟩ : ∃ z, z = wr.heap.size := ⟨_, rfl⟩
     rw [← hBa] at HX hz3 ⊢
     have A3 := own_later HACT.out BX
     have O3 := Lib.hid (own_later HOUT.out BX)
     have hna : u8.ownBlock ≠ some Ba := fun e => by have := (HACT.out.lt Ba e).2; omega
     have hno : u7.ownBlock ≠ some Ba := fun e => by have := (HOUT.out.lt Ba e).2; omega
     have HNO := Lib.hid hno
     have HNA := Lib.hid hna
     have HAP := Lib.hid (own_apart O3.out A3 (by decide))
     have HX3 := Lib.hid HX
     have BW3 := Lib.hid (HBR.out.trans (BX.mono (by omega)))
     have DL := Lib.hid (delI_any u8 A x Ba w6.heap.size w3 A3 (by omega) HX hna)
     clear hw3 d0 d1 d2 d3 d4 d5 d6 d7 d8 bz BX HX A3 hna hno hBa
     refine DL.out.mono ?_
     rintro e w5 ⟨v8, rfl, hown8, hg8, hb8⟩
     have BW5 := Lib.hid (BW3.out.grown hg8 (by have := BW3.out.size; omega) (fun j hj => (own_block HACT.out j hj).1))
     have O5 := Lib.hid (O3.out.kept hg8 HAP.out)
     have HX5 := Lib.hid (row_grown hg8 HX3.out (fun e => HNA.out e.symm))
     obtain ⟨F, hF⟩ : ∃ F, F = keepA x A := ⟨_, rfl⟩
     have hown8' : w5.ownsRow w6.heap.size 230 9 v8 F.length (F.flatMap encIt) := by rw [hF]; exact hown8
     have HF := Lib.hid hF
     rw [← hF] at HSX
     have hFl : F.length ≤ p := by rw [hF]; exact Nat.le_trans (List.length_filter_le _ _) hsl1
     have HF5 := Lib.hid hown8'
     obtain ⟨aF, cF, hvF, -⟩ := RowE.of_own encIt_len rfl hown8'
     have HAP5 := Lib.hid (own_apart O5.out HF5.out (by decide))
     have hz5 := BW5.out.size
     have HPP := Lib.hid (show p * p + p ≤ 400020000 by
      have h1 := Nat.mul_le_mul (show p ≤ 20000 by omega) (show p ≤ 20000 by omega)
      omega)
     subst hvF
     clear hown8 hown8' hg8 hb8 hF DL HX3 BW3 O3 HNA HAP
     go_wp2_with fail
     go_loopw [7, 61] (fun v7 i wr => ∃ q : Nat, i = .int .i64 q ∧ q ≤ F.length ∧ wr.ownsRow w6.heap.size 188 3 v7 (M ++ (F.take q).filterMap (foundM x)).length ((M ++ (F.take q).filterMap (foundM x)).flatMap encMt) ∧ wr.ownsRow w6.heap.size 230 9 (.slice aF F.length cF) F.length (F.flatMap encIt) ∧ wr.heap[Ba]? = some (.cells #[.int .i64 x.1, .int .i64 x.2.1.1, .int .i64 x.2.1.2, .int .i64 x.2.2.1, .int .i64 x.2.2.2, .int .i64 (xlo x.2), .int .i64 (xhi x.2), .int .i64 (ylo x.2), .int .i64 (yhi x.2)] 230) ∧ Below w6.heap.size w6 wr) (fun _ i _ => F.length - (intOf i).toNat)
     case atStart => exact ⟨0, rfl, Nat.zero_le _, by simpa using O5.out, HF5.out, HX5.out, BW5.out⟩
     case round =>
      obtain ⟨q, rfl, hq, hout, hfr, hxr, hbr⟩ := hrel
      have HOq := Lib.hid hout
      have HFq := Lib.hid hfr
      have HXq := Lib.hid hxr
      have HBq := Lib.hid hbr
      have hzq := hbr.size
      have hMl : (M ++ (F.take q).filterMap (foundM x)).length ≤ p * p + q := by
       have h1 := List.length_filterMap_le (foundM x) (F.take q)
       rw [List.length_take] at h1
       rw [List.length_append]; omega
      have HML := Lib.hid hMl
      clear hout hfr hxr hbr hMl
      by_cases hlt3 : q < F.length
      ·obtain ⟨y, hy⟩ : ∃ y, F[q]? = some y := ⟨F[q]'hlt3, List.getElem?_eq_getElem _⟩
       obtain ⟨ao, co, hvo, hco⟩ := RowE.of_own encIt_len rfl HFq.out
       injection hvo with e1 e2 e3
       subst e1 e3
       obtain ⟨bF, oF, hab, hcell⟩ := hco (by omega)
       subst hab
       have d0' := hcell q y hy 0 _ rfl
       have d1 := hcell q y hy 1 _ rfl
       have d2 := hcell q y hy 2 _ rfl
       have d3 := hcell q y hy 3 _ rfl
       have d4 := hcell q y hy 4 _ rfl
       have d5 := hcell q y hy 5 _ rfl
       have d6 := hcell q y hy 6 _ rfl
       have d7 := hcell q y hy 7 _ rfl
       have d8 := hcell q y hy 8 _ rfl
       have d0 : wr.cell? ⟨bF, oF + q * 9, none⟩ = some (.int .i64 y.1) := d0'
       have bz := lt_of_cell d0
       have HTK := Lib.hid (show (F.take (q + 1)).filterMap (foundM x) = (F.take q).filterMap (foundM x) ++ (foundM x y).toList from fm_take hy)
       clear hcell d0' hy e2 hco
       have hxq := Lib.hid HXq.out
       have xz := lt_of_block hxq.out
       have x0 := cell_of_row wr _ 0 _ _ _ hxq.out
       have x1 := cell_of_row wr _ 1 _ _ _ hxq.out
       have x2 := cell_of_row wr _ 2 _ _ _ hxq.out
       have x3 := cell_of_row wr _ 3 _ _ _ hxq.out
       have x4 := cell_of_row wr _ 4 _ _ _ hxq.out
       have x5 := cell_of_row wr _ 5 _ _ _ hxq.out
       have x6 := cell_of_row wr _ 6 _ _ _ hxq.out
       have x7 := cell_of_row wr _ 7 _ _ _ hxq.out
       have x8 := cell_of_row wr _ 8 _ _ _ hxq.out
       simp only [List.getElem?_toArray, List.getElem?_cons_zero, List.getElem?_cons_succ] at x0 x1 x2 x3 x4 x5 x6 x7 x8
       go_wp2_with fail
       have BY : Below wr.heap.size wr (wr.alloc (.cells #[.int .i64 y.1, .int .i64 y.2.1.1, .int .i64 y.2.1.2, .int .i64 y.2.2.1, .int .i64 y.2.2.2, .int .i64 (xlo y.2), .int .i64 (xhi y.2), .int .i64 (ylo y.2), .int .i64 (yhi y.2)] 230)) := (Below.refl _ _).alloc (Nat.le_refl _) _
       have HY := row_new wr (.cells #[.int .i64 y.1, .int .i64 y.2.1.1, .int .i64 y.2.1.2, .int .i64 y.2.2.1, .int .i64 y.2.2.2, .int .i64 (xlo y.2), .int .i64 (xhi y.2), .int .i64 (ylo y.2), .int .i64 (yhi y.2)] 230)
       generalize hw7 : wr.alloc (.cells #[.int .i64 y.1, .int .i64 y.2.1.1, .int .i64 y.2.1.2, .int .i64 y.2.2.1, .int .i64 y.2.2.2, .int .i64 (xlo y.2), .int .i64 (xhi y.2), .int .i64 (ylo y.2), .int .i64 (yhi y.2)] 230) = w7
       rw [hw7] at BY HY
       have hz7 : w7.heap.size = wr.heap.size + 1 := by rw [← hw7]; simp
       clear hw7 d0 d1 d2 d3 d4 d5 d6 d7 d8
       clear x0 x1 x2 x3 x4 x5 x6 x7 x8 xz
       refine (swmeets_any _ _ _ _ _).mono ?_
       rintro e w8 ⟨rfl, hb8⟩
       have B8 := below_step BY (Nat.le_refl _) hb8
       have HX8 := Lib.hid (row_later B8 HXq.out)
       have HY8 := Lib.hid (row_later hb8 HY)
       have HO8 := Lib.hid (own_later HOq.out B8)
       have HF8 := Lib.hid (own_later HFq.out B8)
       have HB8 := Lib.hid (HBq.out.trans (B8.mono (by omega)))
       have hz8 : w7.heap.size ≤ w8.heap.size := hb8.size
       have HFM := Lib.hid (show foundM x y = if yMeet x y = true then (if meetsQ x.2 y.2 = 0 then none else some (pairM x y)) else none from rfl)
       obtain ⟨ym, hym⟩ : ∃ z, z = yMeet x y := ⟨_, rfl⟩
       have hym' := hym
       unfold yMeet at hym'
       rw [← hym']
       rw [← hym] at HFM
       clear hym hym' hb8 BY HY B8 bz
       cases ym with
       |false =>
        have HT2 := Lib.hid (show (F.take (q + 1)).filterMap (foundM x) = (F.take q).filterMap (foundM x) by rw [HTK.out, HFM.out]; simp)
        have O9 := HO8.out
        rw [← HT2.out] at O9
        have HO9 := Lib.hid O9
        clear O9
        go_wp2
        go_roundw
        case rel => exact ⟨q + 1, by go_num, by omega, HO9.out, HF8.out, HX8.out, HB8.out⟩
        case measure => simp [intOf]; omega
       |true =>
        have xz := lt_of_block HX8.out
        have x0 := cell_of_row w8 _ 0 _ _ _ HX8.out
        have x1 := cell_of_row w8 _ 1 _ _ _ HX8.out
        have x2 := cell_of_row w8 _ 2 _ _ _ HX8.out
        have x3 := cell_of_row w8 _ 3 _ _ _ HX8.out
        have x4 := cell_of_row w8 _ 4 _ _ _ HX8.out
        have x5 := cell_of_row w8 _ 5 _ _ _ HX8.out
        have x6 := cell_of_row w8 _ 6 _ _ _ HX8.out
        have x7 := cell_of_row w8 _ 7 _ _ _ HX8.out
        have x8 := cell_of_row w8 _ 8 _ _ _ HX8.out
        simp only [List.getElem?_toArray, List.getElem?_cons_zero, List.getElem?_cons_succ] at x0 x1 x2 x3 x4 x5 x6 x7 x8
        have yz := lt_of_block HY8.out
        have y0 := cell_of_row w8 _ 0 _ _ _ HY8.out
        have y1 := cell_of_row w8 _ 1 _ _ _ HY8.out
        have y2 := cell_of_row w8 _ 2 _ _ _ HY8.out
        have y3 := cell_of_row w8 _ 3 _ _ _ HY8.out
        have y4 := cell_of_row w8 _ 4 _ _ _ HY8.out
        have y5 := cell_of_row w8 _ 5 _ _ _ HY8.out
        have y6 := cell_of_row w8 _ 6 _ _ _ HY8.out
        have y7 := cell_of_row w8 _ 7 _ _ _ HY8.out
        have y8 := cell_of_row w8 _ 8 _ _ _ HY8.out
        simp only [List.getElem?_toArray, List.getElem?_cons_zero, List.getElem?_cons_succ] at y0 y1 y2 y3 y4 y5 y6 y7 y8
        go_wp2_with fail
        have GM := Lib.hid (gmeets_any x.2 y.2 w8)
        obtain ⟨kd, hkd⟩ : ∃ z, z = meetsQ x.2 y.2 := ⟨_, rfl⟩
        rw [← hkd] at GM HFM
        have HPM := Lib.hid (show pairM x y = (min x.1 y.1, max x.1 y.1, kd) by rw [hkd]; rfl)
        clear hkd
        refine GM.out.mono ?_
        rintro e w9 ⟨rfl, hb9⟩
        have HX9 := Lib.hid (row_later hb9 HX8.out)
        have HY9 := Lib.hid (row_later hb9 HY8.out)
        have HO9 := Lib.hid (own_later HO8.out hb9)
        have HF9 := Lib.hid (own_later HF8.out hb9)
        have hzz9 := hb9.size
        have HB9 := Lib.hid (HB8.out.trans (hb9.mono (by omega)))
        clear x0 x1 x2 x3 x4 x5 x6 x7 x8 xz
        clear y0 y1 y2 y3 y4 y5 y6 y7 y8 yz
        clear hb9 GM
        by_cases hk0 : kd = 0
        ·have hk0d : (kd != 0) = false := by rw [hk0]; rfl
         have HT2 := Lib.hid (show (F.take (q + 1)).filterMap (foundM x) = (F.take q).filterMap (foundM x) by rw [HTK.out, HFM.out]; simp [hk0])
         have O9 := HO9.out
         rw [← HT2.out] at O9
         have HO9' := Lib.hid O9
         clear O9 hk0
         go_wp2
         go_roundw
         case rel => exact ⟨q + 1, by go_num, by omega, HO9'.out, HF9.out, HX9.out, HB9.out⟩
         case measure => simp [intOf]; omega
        ·have hk0d : (kd != 0) = true := by rw [bne_iff_ne]; exact hk0
         have HT2 := Lib.hid (show (M ++ (F.take (q + 1)).filterMap (foundM x)) = (M ++ (F.take q).filterMap (foundM x)) ++ [(min x.1 y.1, max x.1 y.1, kd)] by rw [HTK.out, HFM.out, HPM.out]; simp [hk0])
         have hmn := fun W ts t => run_minN Tryz.prog W ts t x.1 y.1
         have hmx := fun W ts t => run_maxN Tryz.prog W ts t x.1 y.1
         obtain ⟨mn, hmn1⟩ : ∃ z, z = min x.1 y.1 := ⟨_, rfl⟩
         obtain ⟨mx, hmx1⟩ : ∃ z, z = max x.1 y.1 := ⟨_, rfl⟩
         rw [← hmn1] at hmn HT2
         rw [← hmx1] at hmx HT2
         have hml : (M ++ (F.take q).filterMap (foundM x)).length ≤ 400020000 := by have := HML.out; have := HPP.out; omega
         obtain ⟨M2, hM2⟩ : ∃ z, z = M ++ (F.take q).filterMap (foundM x) := ⟨_, rfl⟩
         rw [← hM2] at hml HO9 HT2
         clear hM2
         clear hk0 hmn1 hmx1
         have xz := lt_of_block HX9.out
         have x0 := cell_of_row w9 _ 0 _ _ _ HX9.out
         have x1 := cell_of_row w9 _ 1 _ _ _ HX9.out
         have x2 := cell_of_row w9 _ 2 _ _ _ HX9.out
         have x3 := cell_of_row w9 _ 3 _ _ _ HX9.out
         have x4 := cell_of_row w9 _ 4 _ _ _ HX9.out
         have x5 := cell_of_row w9 _ 5 _ _ _ HX9.out
         have x6 := cell_of_row w9 _ 6 _ _ _ HX9.out
         have x7 := cell_of_row w9 _ 7 _ _ _ HX9.out
         have x8 := cell_of_row w9 _ 8 _ _ _ HX9.out
         simp only [List.getElem?_toArray, List.getElem?_cons_zero, List.getElem?_cons_succ] at x0 x1 x2 x3 x4 x5 x6 x7 x8
         have yz := lt_of_block HY9.out
         have y0 := cell_of_row w9 _ 0 _ _ _ HY9.out
         have y1 := cell_of_row w9 _ 1 _ _ _ HY9.out
         have y2 := cell_of_row w9 _ 2 _ _ _ HY9.out
         have y3 := cell_of_row w9 _ 3 _ _ _ HY9.out
         have y4 := cell_of_row w9 _ 4 _ _ _ HY9.out
         have y5 := cell_of_row w9 _ 5 _ _ _ HY9.out
         have y6 := cell_of_row w9 _ 6 _ _ _ HY9.out
         have y7 := cell_of_row w9 _ 7 _ _ _ HY9.out
         have y8 := cell_of_row w9 _ 8 _ _ _ HY9.out
         simp only [List.getElem?_toArray, List.getElem?_cons_zero, List.getElem?_cons_succ] at y0 y1 y2 y3 y4 y5 y6 y7 y8
         go_wp2_with (at_builtin; refine wpList_append_own _ rfl _ _ 184 rfl w6.heap.size 188 i0 (.agg #[.int .i64 0, .int .i64 0, .int .i64 0]) 3 24 Tryz.underlying184 hi hi0 hi1 hi2 rfl (by decide) _ _ _ rfl (HO9.out.alloc _) ⟨w9.heap.size, 0, none⟩ 1 1 (encMt (mn, mx, kd)) rfl rfl (cells_new _ _ _) (encMt_one _) (by unfold maxLen; omega) (by omega) (by simp; omega) ?_; intro v' w10 hown10 hgrow10 _)
         have B10 := Lib.hid ((HB9.out.alloc (by omega) _).grown hgrow10 (by simp; omega) (fun j hj => (own_block HO9.out j hj).1))
         have HAP9 := own_apart HF9.out HO9.out (by decide)
         have hnb : u7.ownBlock ≠ some Ba := fun e => by
          rcases HO9.out.2 with ⟨h0, _⟩ | ⟨g', cap', cur', h0, _, h3, _⟩
          ·rw [h0] at e; cases e
          ·rw [h0] at e
           simp only [Value.ownBlock, Option.some.injEq] at e
           subst e
           rw [h3] at HX9
           have := HX9.out
           injection this with this
           injection this with _ h5 _
           exact absurd h5 (by decide)
         have HX10 := Lib.hid (row_grown hgrow10 (row_past HX9.out) (fun e => hnb e.symm))
         have HF10 := Lib.hid ((HF9.out.alloc _).kept hgrow10 HAP9)
         have HO10 := Lib.hid (show w10.ownsRow w6.heap.size 188 3 v' (M ++ (F.take (q + 1)).filterMap (foundM x)).length ((M ++ (F.take (q + 1)).filterMap (foundM x)).flatMap encMt) by
          rw [HT2.out, List.length_append, List.flatMap_append]
          simpa using hown10)
         clear hown10 hgrow10 HAP9 hnb
         go_roundw
         case rel => exact ⟨q + 1, by go_num, by omega, HO10.out, HF10.out, HX10.out, B10.out⟩
         case measure => simp [intOf]; omega
      ·obtain rfl : q = F.length := by omega
       have HT2 := Lib.hid (show (F.take F.length).filterMap (foundM x) = F.filterMap (foundM x) by rw [List.take_length])
       have hxq := Lib.hid HXq.out
       have xz := lt_of_block hxq.out
       have x0 := cell_of_row wr _ 0 _ _ _ hxq.out
       have x1 := cell_of_row wr _ 1 _ _ _ hxq.out
       have x2 := cell_of_row wr _ 2 _ _ _ hxq.out
       have x3 := cell_of_row wr _ 3 _ _ _ hxq.out
       have x4 := cell_of_row wr _ 4 _ _ _ hxq.out
       have x5 := cell_of_row wr _ 5 _ _ _ hxq.out
       have x6 := cell_of_row wr _ 6 _ _ _ hxq.out
       have x7 := cell_of_row wr _ 7 _ _ _ hxq.out
       have x8 := cell_of_row wr _ 8 _ _ _ hxq.out
       simp only [List.getElem?_toArray, List.getElem?_cons_zero, List.getElem?_cons_succ] at x0 x1 x2 x3 x4 x5 x6 x7 x8
       go_wp2_with (at_builtin; refine wpList_append_own _ rfl _ _ 225 rfl w6.heap.size 230 j0 (.agg #[.int .i64 0, .int .i64 0, .int .i64 0, .int .i64 0, .int .i64 0, .int .i64 0, .int .i64 0, .int .i64 0, .int .i64 0]) 9 72 Tryz.underlying225 hj hj0 hj1 hj2 rfl (by decide) _ _ _ rfl (HFq.out.alloc _) ⟨wr.heap.size, 0, none⟩ 1 1 (encIt x) rfl rfl (cells_new _ _ _) (encIt_one _) (by unfold maxLen; omega) (by omega) (by simp; omega) ?_; intro v' w10 hown10 hgrow10 _)
       have B10 := Lib.hid ((HBq.out.alloc hzq _).grown hgrow10 (by simp; omega) (fun j hj => (own_block HFq.out j hj).1))
       have HAP9 := own_apart HOq.out HFq.out (by decide)
       have HO10 := Lib.hid (show w10.ownsRow w6.heap.size 188 3 u7 (sweepP Q (p + 1)).2.length ((sweepP Q (p + 1)).2.flatMap encMt) by
        rw [HSX.out]
        have h := (HOq.out.alloc (.cells (encIt x).toArray 230)).kept hgrow10 HAP9
        rw [HT2.out] at h
        exact h)
       have HF10 := Lib.hid (show w10.ownsRow w6.heap.size 230 9 v' (sweepP Q (p + 1)).1.length ((sweepP Q (p + 1)).1.flatMap encIt) by
        rw [HSX.out, List.length_append, List.flatMap_append]
        simpa using hown10)
       clear hown10 hgrow10 HAP9
       go_roundw
       case rel => exact ⟨p + 1, by go_num, by omega, HO10.out, HF10.out, B10.out⟩
       case measure => simp [intOf]; omega
    ·obtain rfl : p = k := by omega
     obtain ⟨M, hM⟩ : ∃ M, M = (sweepP Q p).2 := ⟨_, rfl⟩
     rw [← hM] at HOUT hsl2
     have hfd : ∀ m : MtD, m ∈ M ↔ ∃ s t, m.1 < m.2.1 ∧ S[m.1]? = some s ∧ S[m.2.1]? = some t ∧ m.2.2 = meetsQ s t ∧ m.2.2 ≠ 0 := fun m => by
      have h := sweep_found HQp.out HQs.out m
      rw [HQL.out, ← hM] at h
      exact h
     have HFD := Lib.hid hfd
     clear hfd
     obtain ⟨L2, hL2⟩ := mtT_list M (fun m hm => by
      obtain ⟨s, t, h1, h2, h3, _⟩ := (HFD.out m).1 hm
      have e1 := (List.getElem?_eq_some_iff.1 h2).1
      have e2 := (List.getElem?_eq_some_iff.1 h3).1
      rw [HN.out] at e1 e2; omega)
     have hLl : L2.length = M.length := by rw [← hL2, List.length_map]
     have HL2 := Lib.hid hL2
     have HLL := Lib.hid hLl
     have HO2 := Lib.hid (show wr.ownsRow w6.heap.size 188 3 u7 M.length (L2.flatMap fun x => encMt x.1) by
      rw [show (L2.flatMap fun x : MtT => encMt x.1) = (L2.map (·.1)).flatMap encMt by rw [List.flatMap_map], hL2]
      exact HOUT.out)
     have hpp := Nat.mul_le_mul (show p ≤ 20000 by omega) (show p ≤ 20000 by omega)
     have HB2 := Lib.hid hbr
     have HSL := Lib.hid hsl2
     clear hM hL2 hLl hbr
     go_wp2_with fail
     have HS := sort_own (α := MtT) Tryz.sort_meet 3 Tryz.isAgg188 Tryz.sizeOf188 (fun x => encMt x.1) (fun x => encMt_len x.1) (fun x => encMt_one x.1) (fun x y : MtT => cfMt x.1 y.1) swoMt 187 #[] (enters_of Tryz.func187 (by kernel_rfl) rfl) HLL.out.symm (by omega) (fun W _ x y => mtc_any x y W) HO2.out
     refine HS.mono ?_
     rintro e w7 ⟨rfl, L3, hL3, hso3, hown7, hg7⟩
     have HPP := Lib.hid (show AllPost S w (.returned (.tuple #[u7, .int .i64 0])) w7 from by
      refine ⟨u7, L3.map (·.1), rfl, ?_, ?_, fun m => ?_, ?_⟩
      ·have h := hown7
       rw [show (L3.flatMap fun x : MtT => encMt x.1) = (L3.map (·.1)).flatMap encMt by rw [List.flatMap_map]] at h
       exact RowE.of_own encMt_len (by rw [List.length_map, hL3.length_eq, HLL.out]) h
      ·rw [List.length_map, hL3.length_eq, HLL.out, HN.out]; exact HSL.out
      ·rw [← HFD.out m, ← HL2.out]
       exact (hL3.map (·.1)).mem_iff
      ·exact B6.out.trans ((HB2.out.grown hg7 (by have := HB2.out.size; omega) (fun j hj => (own_block HO2.out j hj).1)).mono (by omega)))
     clear hL3 hso3 hown7 hg7 HS
     go_wp2
     go_ret2
     exact HPP.out
end Go.Proofs.YtibpaaajghbkoaaGreat
