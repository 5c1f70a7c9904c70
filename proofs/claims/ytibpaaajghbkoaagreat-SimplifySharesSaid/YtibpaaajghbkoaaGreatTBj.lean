/-    -/
import Derived.Test.YtibpaaajghbkoaaGreatTAm
import Derived.Test.YtibpaaajghbkoaaGreatTAn
import Derived.Test.YtibpaaajghbkoaaGreatTAu
import Derived.Test.YtibpaaajghbkoaaGreatTAp
import Derived.Maps.AppendAt
import Derived.Test.YtibpaaajghbkoaaGreatTAi
import Derived.Test.YtibpaaajghbkoaaGreatTBf
import Derived.Test.YtibpaaajghbkoaaGreatTBd
namespace Go.Proofs.YtibpaaajghbkoaaGreat
open Go.RowKit Go.Sort
set_option maxRecDepth 100000 in
set_option maxHeartbeats 2000000 in
theorem first_grew (v : Value) (l : List Pt) (w : World) (hl : l.length ≤ 1000) (hv : RowE encPt 2 w v l) :
  Calls Tryz.prog 91 #[v] w fun e w' => e = .returned (.int .i64 (firstC l)) ∧ Grew w w' := by
 obtain ⟨a, cap, rfl, hc⟩ := hv
 obtain ⟨N, hN⟩ : ∃ N, l.length = N := ⟨_, rfl⟩
 rw [hN] at hl hc ⊢
 have HN := Lib.hid hN
 have HC := Lib.hid hc
 obtain ⟨res, hres⟩ : ∃ z, firstC l = z := ⟨_, rfl⟩
 rw [hres]
 have HR := Lib.hid hres
 have CP := Lib.hid (fun x y w => Tryz.cmp_Compare_int x y w)
 clear hN hc hres
 go_enter Tryz.func91, Tryz.ntmps91
 go_wp2
 go_loopw [8] (fun i wr => ∃ k : Nat, k ≤ N ∧ i = .int .i64 k ∧ Hid (firstC (l.drop k) = res) ∧ Grew w wr) (fun i _ => N - (intOf i).toNat)
 case atStart => exact ⟨0, by omega, rfl, HR, Grew.refl _⟩
 case round =>
  obtain ⟨k, hk, rfl, hT, hgr⟩ := hrel
  have hbr := hgr.below
  have hsz := hbr.size
  by_cases hlt : k < N
  ·obtain ⟨p, hp⟩ : ∃ p, l[k]? = some p := ⟨l[k]'(by rw [HN.out]; exact hlt), List.getElem?_eq_getElem _⟩
   obtain ⟨b, off, ha, hcell⟩ := HC.out (by omega)
   subst ha
   have c0 := cell_later hbr (hcell k p hp 0 _ rfl)
   have c1 := cell_later hbr (hcell k p hp 1 _ rfl)
   have c0' : wr.cell? ⟨b, off + k * 2, none⟩ = some (.int .i64 p.1) := c0
   have HD := Lib.hid (firstC_drop l k p hp)
   obtain ⟨x, y⟩ := p
   simp only [] at c0' c1 HD
   clear c0 hcell hp
   go_wp2_with fail
   refine (CP.out x y _).mono ?_
   rintro e w2 ⟨rfl, rfl⟩
   obtain ⟨c, hcv⟩ : ∃ z, z = Lib.compareInt x y := ⟨_, rfl⟩
   rw [← hcv] at HD ⊢
   clear hcv
   by_cases h0 : c = 0
   ·subst h0
    have HG : Hid (firstC (l.drop (k + 1)) = res) := Lib.hid (by rw [← hT.out, HD.out, if_pos rfl])
    go_wp2
    go_roundw
    case rel => exact ⟨k + 1, by omega, by go_num, HG, hgr.alloc _⟩
    case measure => simp [intOf]; omega
   ·have h0d : (c != 0) = true := by rw [bne_iff_ne]; exact h0
    have HE := Lib.hid (show res = c by rw [← hT.out, HD.out, if_neg h0])
    go_wp2
    go_ret
    exact ⟨by rw [HE.out] <;> rfl, hgr.alloc _⟩
  ·obtain rfl : k = N := by omega
   have HE := Lib.hid (show res = 0 by rw [← hT.out, List.drop_of_length_le (by rw [HN.out]; exact Nat.le_refl _)]; rfl)
   go_wp2
   go_ret
   exact ⟨by rw [HE.out] <;> rfl, hgr⟩
set_option maxHeartbeats 1000000 in
theorem gcomp_grew (p q : Pt) (w : World) :
  Calls Tryz.prog 51 #[ptV p, ptV q] w fun e w' => e = .returned (.int .i64 (lexC p q)) ∧ Grew w w' := by
 have FR := Lib.hid (fun (v : Value) w' hv => by
  have := first_grew v [(p.1, q.1), (p.2, q.2)] w' (by simp) hv
  rw [lexC_first] at this
  exact this)
 generalize lexC p q = n at FR ⊢
 obtain ⟨px, py⟩ := p
 obtain ⟨qx, qy⟩ := q
 simp only [] at FR ⊢
 go_enter Tryz.func51, Tryz.ntmps51
 go_wp2_with fail
 refine (FR.out _ _ (RowE.of_block (l := [(px, qx), (py, qy)]) encPt_len rfl (row_new2 w (.cells #[.int .i64 px, .int .i64 py] 33) (.cells #[.int .i64 qx, .int .i64 qy] 33) (.cells #[.int .i64 px, .int .i64 qx, .int .i64 py, .int .i64 qy] 130)) 2 rfl)).mono ?_
 rintro e w2 ⟨rfl, hg⟩
 have B2 := ((((Grew.refl w).alloc _).alloc _).alloc _).trans hg
 go_wp2
 go_ret
 exact ⟨rfl, B2⟩
abbrev triV (a b c : Pt) : Value := .agg #[.int .i64 a.1, .int .i64 a.2, .int .i64 b.1, .int .i64 b.2, .int .i64 c.1, .int .i64 c.2]
set_option maxRecDepth 100000 in
set_option maxHeartbeats 2000000 in
theorem twice_any (a b c : Pt) (ha : nearQ a = true) (hb : nearQ b = true) (hc : nearQ c = true) (w : World) :
  Calls Tryz.prog 110 #[triV a b c] w fun e w' => e = .returned (.int .i64 (crs a b c)) ∧ Below w.heap.size w w' := by
 have s1 := near_diff ha hb
 have s2 := near_diff ha hc
 have h1 := mul_bd (show -4194304 ≤ b.1 - a.1 ∧ b.1 - a.1 ≤ 4194304 from ⟨s1.1, s1.2.1⟩) (show -4194304 ≤ c.2 - a.2 ∧ c.2 - a.2 ≤ 4194304 from ⟨s2.2.2.1, s2.2.2.2⟩)
 have h2 := mul_bd (show -4194304 ≤ b.2 - a.2 ∧ b.2 - a.2 ≤ 4194304 from ⟨s1.2.2.1, s1.2.2.2⟩) (show -4194304 ≤ c.1 - a.1 ∧ c.1 - a.1 ≤ 4194304 from ⟨s2.1, s2.2.1⟩)
 have HC := Lib.hid (show (b.1 - a.1) * (c.2 - a.2) - (b.2 - a.2) * (c.1 - a.1) = crs a b c from rfl)
 generalize crs a b c = n at HC ⊢
 have hq1 := near_bd ha
 have hq2 := near_bd hb
 have hq3 := near_bd hc
 obtain ⟨ax, ay⟩ := a
 obtain ⟨bx, by1⟩ := b
 obtain ⟨cx, cy⟩ := c
 simp only [] at h1 h2 HC hq1 hq2 hq3 ⊢
 have d1 : IntKind.i64.wrap (bx - ax) = bx - ax := IntWalk.i64_in _ (by omega)
 have d2 : IntKind.i64.wrap (cy - ay) = cy - ay := IntWalk.i64_in _ (by omega)
 have d3 : IntKind.i64.wrap (by1 - ay) = by1 - ay := IntWalk.i64_in _ (by omega)
 have d4 : IntKind.i64.wrap (cx - ax) = cx - ax := IntWalk.i64_in _ (by omega)
 have w1 : IntKind.i64.wrap ((bx - ax) * (cy - ay)) = (bx - ax) * (cy - ay) := IntWalk.i64_in _ (by omega)
 have w2 : IntKind.i64.wrap ((by1 - ay) * (cx - ax)) = (by1 - ay) * (cx - ax) := IntWalk.i64_in _ (by omega)
 have w3 : IntKind.i64.wrap ((bx - ax) * (cy - ay) - (by1 - ay) * (cx - ax)) = (bx - ax) * (cy - ay) - (by1 - ay) * (cx - ax) := IntWalk.i64_in _ (by omega)
 clear ha hb hc h1 h2 s1 s2 hq1 hq2 hq3
 go_enter Tryz.func110, Tryz.ntmps110
 go_wp2
 go_ret
 exact ⟨by rw [← HC.out] <;> rfl, (by repeat' (first | exact Below.refl _ _ | refine Below.drew ?_ | refine Below.drewN' ?_ | refine Below.setCell ?_ (by first | omega | (simp; done) | exact Below.size (by assumption) | (simp; omega)) _ | refine Below.alloc ?_ (by first | omega | (simp; done) | exact Below.size (by assumption) | (simp; omega)) _ | refine Below.trans ?_ (Below.mono (by assumption) ?_) | (first | omega | (simp; done) | exact Below.size (by assumption) | (simp; omega))))⟩
end Go.Proofs.YtibpaaajghbkoaaGreat

namespace Go.Proofs.YtibpaaajghbkoaaGreat
open Go.RowKit Go.Shelf Go.Sort
attribute [local go_sem] Oper.semAt_some
theorem infoPtS : (Tryz.prog.info? 33).map (fun i => (i.zero, i.size, i.bytes)) = some (some (.agg #[.int .i64 0, .int .i64 0]), 2, 16) := by kernel_rfl
set_option maxRecDepth 100000 in
set_option maxHeartbeats 2000000 in
theorem appSeq_any (Bn : Nat) (L : List Pt) (vt : Value) (w : World) (hL : L.length ≤ 1000) (hv : RowE encPt 2 w vt L) (hBn : w.heap[Bn]? = some (.cells #[vt] 50 (0, 0))) :
  Calls Tryz.prog 255 #[.slice none 0 0, .func (.func 230) #[] #[.pointer (some ⟨Bn, 0, none⟩)]] w fun e w' =>
   ∃ v, e = .returned v ∧ w'.ownsRow w.heap.size 33 2 v L.length (L.flatMap encPt) ∧ Below w.heap.size w w' := by
 obtain ⟨i0, hi, hz0, hz1, hz2⟩ := info_parts infoPtS
 refine (callsIn_wide (n := 5)).1 ?_
 refine callsIn_of_wp_marks Tryz.func255 rfl trivial ?_ rfl
 simp only [Tryz.ntmps255, List.size_toArray, List.length_cons, List.length_nil, Nat.reduceAdd, Nat.reduceSub, Array.replicate_succ, Array.replicate_zero, List.push_toArray, List.append_toArray, List.nil_append, List.cons_append]
 have hB0 : Below w.heap.size w (w.alloc (.cells #[.slice none 0 0] 50)) := (Below.refl _ w).alloc (Nat.le_refl _) _
 have bO := Boxed.new w 50 (.slice none 0 0)
 have ST := Lib.hid (valP_stops 4 (by omega) Bn vt L w (w.alloc (.cells #[.slice none 0 0] 50)) hv (by omega) (fun k hk => hB0.block k hk) hB0.size (row_past hBn))
 have hzW : (w.alloc (.cells #[.slice none 0 0] 50)).heap.size = w.heap.size + 1 := by simp
 gi_wp2
 generalize hW0 : w.alloc (.cells #[.slice none 0 0] 50) = W0 at *
 clear hW0 hv hBn
 refine wpIn_rangeFunc_ownH rfl (by omega) (gf := 230) (lb := #[.pointer (some ⟨Bn, 0, none⟩)]) rfl trivial (enters_of Tryz.func230 (by kernel_rfl) rfl)
  ST.out KpN.trans
  (fun W l o o' hl _ _ _ => ⟨fun k hk => World.putObj_heap_other (by omega), (grownBy_putObj' W l o').size⟩) (Below.refl _ _) (fun _ => rfl)
  (fun pre W => ((∃ v, Boxed W w.heap.size 50 v ∧ W.ownsRow w.heap.size 33 2 v pre.length (pre.flatMap encPt) ∧ True) ∧ Below w.heap.size w W) ∧ W0.heap.size ≤ W.heap.size)
  (fun _ _ _ => False)
  (OwnFrom.and (OwnFrom.and (Own.from (holdsRow_own w.heap.size w.heap.size 50 33 2 (fun pre : List Pt => pre.length) (fun pre => pre.flatMap encPt) (fun _ _ => True)) _) (ownFrom_below (Nat.le_refl _) (by omega))) (fun _ _ _ _ hs hg _ => Nat.le_trans hs hg.size))
  (fun _ _ _ _ _ hs _ _ => hs)
  ⟨⟨⟨_, bO, World.ownsRow_nil _ _ _ _, trivial⟩, hB0⟩, Nat.le_refl _⟩
  (fun x a' W => ∃ Bx, W.heap[Bx]? = some (.cells #[.int .i64 x.1, .int .i64 x.2] 33 (0, 0)) ∧ W0.heap.size ≤ Bx ∧ a' = { tmps := #[.slice none 0 0, .func (.func 230) #[] #[.pointer (some ⟨Bn, 0, none⟩)], .pointer (some ⟨w.heap.size, 0, none⟩), undef, .slice none 0 0, .pointer (some ⟨Bx, 0, none⟩), .func (.func 230) #[] #[.pointer (some ⟨Bn, 0, none⟩)], .agg #[.int .i64 x.1, .int .i64 x.2], undef, undef, undef, undef, undef], defers := [] })
  (fun x a' _ X Y row hs hg hr => by obtain ⟨Bx, h2, h3⟩ := hs; exact ⟨Bx, cells_kept rfl hg (fun r e => (hr r e).2) h2, h3⟩)
  ?assign ?body ?done ?stop
 case assign =>
  rintro l pre x W K ⟨⟨⟨v, hv, hrow, _⟩, hB⟩, hsz⟩ hK
  simp only [encPt] at *
  gi_wp2
  exact hK _ _ ((KeepsOthers.alloc _ _).from _) ⟨fun k hk => Below.heap_alloc _ _ _ (by omega), by simp⟩ ⟨⟨⟨v, hv.alloc _, hrow.alloc _, trivial⟩, hB.alloc (by omega) _⟩, by simp; omega⟩ ⟨W.heap.size, row_new _ _, hsz, rfl⟩
 case body =>
  rintro l pre x a' W hl2 ⟨r, hr⟩ ⟨⟨⟨v, hv, hrow, _⟩, hB⟩, hsz⟩ ⟨Bx, hX, hBx, rfl⟩ hlt
  have hc := hv.cell
  obtain ⟨xcz, xc0, xc1⟩ := rk2 hX
  have hX' := Lib.hid hX
  clear hX
  have hXa := row_past (o' := .cells #[.int .i64 x.1, .int .i64 x.2] 33) hX'.out
  clear hX'
  gi_wp2_with (gi_at_builtin; refine wpListIn_append_own _ rfl _ _ 50 rfl w.heap.size 33 i0 (.agg #[.int .i64 0, .int .i64 0]) 2 16 Tryz.underlying50 hi hz0 hz1 hz2 rfl (by decide) _ _ _ rfl (hrow.alloc _) ⟨W.heap.size, 0, none⟩ 1 1 (encPt x) rfl rfl (cells_new W (encPt x) 33) (encPt_one x) (by unfold maxLen; omega) (by omega) (by have := hB.size; simp; omega) ?_; intro v' w1 hown' hgrow _; obtain ⟨g', cap', rfl⟩ := ownsRow_succ hown'; obtain ⟨hv1, hv2, hr2, hk2, hb2⟩ := hv.appended (by decide) hrow hB.size (Nat.le_refl _) hown' hgrow; have hc1 := hv1.cell; have hf1 := hv1.frozen)
  have hk3 : KpN w.heap.size W (w1.setCell ⟨w.heap.size, 0, none⟩ (.slice (some ⟨g', 0, none⟩) (pre.length + 1) cap')) := ⟨fun k hk => hb2.block k hk, hb2.size⟩
  exact ⟨hk2.from _, hk3, ⟨⟨_, hv2, by rw [List.flatMap_append]; simpa using hr2, trivial⟩, hB.trans hb2⟩, Nat.le_trans hsz hb2.size⟩
 case done =>
  rintro D ys W hD rfl ⟨⟨⟨v, hv, hrow, _⟩, hB⟩, hsz⟩ hK
  have hc := hv.cell
  gi_wp2
  refine ⟨by simp, .inl ⟨_, _, rfl, run_takeDeferred hK, ?_⟩⟩
  exact ⟨_, results_tmp rfl _ _ _, v, rfl, ownsRow_putObj hrow _ hK rfl, hB.trans (belowK_b (w := w) (Nat.le_refl _) W D _ _ (by omega) hK rfl rfl)⟩
 case stop =>
  rintro D c pre W _ _ h _
  exact h.elim
theorem collect_any (Bn : Nat) (L : List Pt) (vt : Value) (w : World) (hL : L.length ≤ 1000) (hv : RowE encPt 2 w vt L) (hBn : w.heap[Bn]? = some (.cells #[vt] 50 (0, 0))) :
  Calls Tryz.prog 228 #[.func (.func 230) #[] #[.pointer (some ⟨Bn, 0, none⟩)]] w fun e w' =>
   ∃ v, e = .returned v ∧ w'.ownsRow w.heap.size 33 2 v L.length (L.flatMap encPt) ∧ Below w.heap.size w w' := by
 have AS := Lib.hid (appSeq_any Bn L vt w hL hv hBn)
 go_enter Tryz.func228, Tryz.ntmps228
 go_wp2_with fail
 refine AS.out.mono ?_
 rintro e w2 ⟨v, rfl, hown, hb⟩
 have HO := Lib.hid hown
 go_wp2
 go_ret
 exact ⟨v, rfl, HO.out, hb⟩
theorem swoPt : SWO (ltOf lexC) where
 irrefl := fun x => by
  show decide (lexC x x < 0) = false
  unfold lexC; simp
 trans := fun x y z h h2 => by
  have h : lexC x y < 0 := of_decide_eq_true h
  have h2 : lexC y z < 0 := of_decide_eq_true h2
  refine decide_eq_true ?_
  unfold lexC at *
  repeat' split at h
  all_goals (try omega)
  all_goals (repeat' split at h2)
  all_goals (try omega)
  all_goals (repeat' split)
  all_goals omega
 ntrans := fun x y z h h2 => by
  have h : ¬ lexC x y < 0 := of_decide_eq_false h
  have h2 : ¬ lexC y z < 0 := of_decide_eq_false h2
  refine decide_eq_false ?_
  unfold lexC at *
  repeat' split at h
  all_goals (try omega)
  all_goals (repeat' split at h2)
  all_goals (try omega)
  all_goals (repeat' split)
  all_goals omega
theorem sortedP_any (Bn : Nat) (L : List Pt) (vt : Value) (w : World) (hL : L.length ≤ 1000) (hv : RowE encPt 2 w vt L) (hBn : w.heap[Bn]? = some (.cells #[vt] 50 (0, 0))) :
  Calls Tryz.prog 164 #[.func (.func 230) #[] #[.pointer (some ⟨Bn, 0, none⟩)], .func (.func 51) #[] #[]] w fun e w' =>
   ∃ (v : Value) (L' : List Pt), e = .returned v ∧ L'.Perm L ∧ L'.Pairwise (fun x y => ltOf lexC y x = false) ∧ w'.ownsRow w.heap.size 33 2 v L'.length (L'.flatMap encPt) ∧ Below w.heap.size w w' := by
 have CO := Lib.hid (collect_any Bn L vt w hL hv hBn)
 have SO := Lib.hid (fun (v : Value) (W : World) (h : W.ownsRow w.heap.size 33 2 v L.length (L.flatMap encPt)) =>
  sort_own Tryz.sort_pt 2 Tryz.isAgg33 Tryz.sizeOf33 encPt encPt_len encPt_one lexC swoPt 51 #[] (enters_of Tryz.func51 (by kernel_rfl) rfl) rfl (by omega) (fun W _ x y => gcomp_grew x y W) h)
 go_enter Tryz.func164, Tryz.ntmps164
 go_wp2_with fail
 refine CO.out.mono ?_
 rintro e w2 ⟨v, rfl, hown, hb⟩
 have HO := Lib.hid hown
 have HS := Lib.hid (SO.out v w2 hown)
 clear hown
 go_wp2_with fail
 refine HS.out.mono ?_
 rintro e w3 ⟨rfl, L', hp, hso, hown, hg⟩
 have HE := Lib.hid (And.intro hp (And.intro hso (And.intro (show w3.ownsRow w.heap.size 33 2 v L'.length (L'.flatMap encPt) by rw [hp.length_eq]; exact hown) (hb.grown hg hb.size (fun j hj => (own_block HO.out j hj).1)))))
 clear hp hso hown hg hb
 go_wp2
 go_ret
 exact ⟨v, L', rfl, HE.out⟩
end Go.Proofs.YtibpaaajghbkoaaGreat

namespace Go.Proofs.YtibpaaajghbkoaaGreat
open Go.RowKit Go.Sort
theorem lex_anti {a b : Pt} (h : lexC a b ≤ 0) (h2 : lexC b a ≤ 0) : a = b := by
 obtain ⟨a1, a2⟩ := a
 obtain ⟨b1, b2⟩ := b
 unfold lexC at *
 simp only at *
 have : a1 = b1 ∧ a2 = b2 := by
  repeat' split at h
  all_goals (try omega)
  all_goals (repeat' split at h2)
  all_goals omega
 rw [this.1, this.2]
theorem lex_not {a b : Pt} : ¬ lexC a b < 0 ↔ lexC b a ≤ 0 := by
 unfold lexC
 constructor
 ·intro h
  repeat' split at h
  all_goals (try omega)
  all_goals (repeat' split)
  all_goals omega
 ·intro h
  repeat' split at h
  all_goals (try omega)
  all_goals (repeat' split)
  all_goals omega
theorem lex_refl (a : Pt) : lexC a a ≤ 0 := by unfold lexC; simp
theorem lex_le_trans {a b c : Pt} (h : lexC a b ≤ 0) (h2 : lexC b c ≤ 0) : lexC a c ≤ 0 := by
 rw [← lex_not] at *
 intro c1
 have := swoPt.ntrans c b a (decide_eq_false h2) (decide_eq_false h)
 exact (of_decide_eq_false this) c1
theorem minC_le (a b : Pt) : lexC (minC a b) a ≤ 0 ∧ lexC (minC a b) b ≤ 0 ∧ (minC a b = a ∨ minC a b = b) := by
 unfold minC
 by_cases h : lexC b a < 0
 ·rw [if_pos h]
  exact ⟨by omega, lex_refl b, Or.inr rfl⟩
 ·rw [if_neg h]
  exact ⟨lex_refl a, lex_not.1 h, Or.inl rfl⟩
theorem maxC_le (a b : Pt) : lexC a (maxC a b) ≤ 0 ∧ lexC b (maxC a b) ≤ 0 ∧ (maxC a b = a ∨ maxC a b = b) := by
 unfold maxC
 by_cases h : lexC a b < 0
 ·rw [if_pos h]
  exact ⟨by omega, lex_refl b, Or.inr rfl⟩
 ·rw [if_neg h]
  exact ⟨lex_refl a, lex_not.1 h, Or.inl rfl⟩
theorem three_sorted {a b c : Pt} {L : List Pt} (hp : L.Perm [a, b, c]) (hs : L.Pairwise (fun x y => ltOf lexC y x = false)) : ∃ m, L = [minC a (minC b c), m, maxC a (maxC b c)] := by
 have hl := hp.length_eq
 match L, hl with
 |[x, y, z], _ =>
  simp only [List.pairwise_cons, List.mem_cons, List.not_mem_nil, or_false, forall_eq_or_imp, forall_eq] at hs
  obtain ⟨⟨h1, h2⟩, h3, -⟩ := hs
  have h1 : lexC x y ≤ 0 := lex_not.1 (of_decide_eq_false h1)
  have h2 : lexC x z ≤ 0 := lex_not.1 (of_decide_eq_false h2)
  have h3 : lexC y z ≤ 0 := lex_not.1 (of_decide_eq_false h3)
  have hx : ∀ q ∈ [a, b, c], lexC x q ≤ 0 ∧ lexC q z ≤ 0 := fun q hq => by
   have := hp.mem_iff.2 hq
   simp only [List.mem_cons, List.not_mem_nil, or_false] at this
   rcases this with rfl | rfl | rfl
   ·exact ⟨lex_refl _, h2⟩
   ·exact ⟨h1, h3⟩
   ·exact ⟨h2, lex_refl _⟩
  obtain ⟨m1, m2, m3⟩ := minC_le b c
  obtain ⟨n1, n2, n3⟩ := minC_le a (minC b c)
  obtain ⟨o1, o2, o3⟩ := maxC_le b c
  obtain ⟨q1, q2, q3⟩ := maxC_le a (maxC b c)
  have hmin : ∀ q ∈ [a, b, c], lexC (minC a (minC b c)) q ≤ 0 := fun q hq => by
   simp only [List.mem_cons, List.not_mem_nil, or_false] at hq
   rcases hq with rfl | rfl | rfl
   ·exact n1
   ·exact lex_le_trans n2 m1
   ·exact lex_le_trans n2 m2
  have hmax : ∀ q ∈ [a, b, c], lexC q (maxC a (maxC b c)) ≤ 0 := fun q hq => by
   simp only [List.mem_cons, List.not_mem_nil, or_false] at hq
   rcases hq with rfl | rfl | rfl
   ·exact q1
   ·exact lex_le_trans o1 q2
   ·exact lex_le_trans o2 q2
  have hmm : minC a (minC b c) ∈ [a, b, c] := by
   rcases n3 with h | h
   ·rw [h]; simp
   ·rw [h]
    rcases m3 with h | h <;> rw [h] <;> simp
  have hMM : maxC a (maxC b c) ∈ [a, b, c] := by
   rcases q3 with h | h
   ·rw [h]; simp
   ·rw [h]
    rcases o3 with h | h <;> rw [h] <;> simp
  refine ⟨y, ?_⟩
  rw [lex_anti (hx _ hmm).1 (hmin x (hp.mem_iff.1 (by simp))), lex_anti (hx _ hMM).2 (hmax z (hp.mem_iff.1 (by simp)))]
theorem sgn_cases (n : Int) : sgn n = -1 ∨ sgn n = 0 ∨ sgn n = 1 := by
 unfold sgn
 repeat' split
 all_goals simp
theorem keyT3 : Tryz.prog.keyTypeAt 3 161 = true := by kernel_rfl
theorem cells3i : Tryz.prog.cellsOf 161 = 3 := by kernel_rfl
theorem three_lits (a b c : Int) (h1 : (Lit.int .i64 a).wf = true) (h2 : (Lit.int .i64 b).wf = true) (h3 : (Lit.int .i64 c).wf = true) : ∃ (D : Nat), Tryz.prog.keyLits D 161 (Value.agg #[.int .i64 a, .int .i64 b, .int .i64 c]).cells.toList = some [.int .i64 a, .int .i64 b, .int .i64 c] ∧ (Value.agg #[.int .i64 a, .int .i64 b, .int .i64 c]).formed Tryz.prog 161 = true := by
 obtain ⟨m, hm⟩ := typesS2
 refine ⟨m + 2, ?_, by simp [Value.formed, Tryz.underlying161, cells3i]⟩
 unfold Program.keyLits
 simp only [Tryz.underlying161, Value.cells]
 rw [if_pos (by rw [cells3i]; rfl), show List.range 3 = [0, 1, 2] from rfl, List.mapM_cons, List.mapM_cons, List.mapM_cons, List.mapM_nil]
 simp [cells3, Program.keyLits, Tryz.underlying3, h1, h2, h3]
set_option maxRecDepth 100000 in
theorem eql_three (a b c x y z : Int) (w : World) (h1 : (Lit.int .i64 a).wf = true) (h2 : (Lit.int .i64 b).wf = true) (h3 : (Lit.int .i64 c).wf = true) (g1 : (Lit.int .i64 x).wf = true) (g2 : (Lit.int .i64 y).wf = true) (g3 : (Lit.int .i64 z).wf = true) :
  (binOp .eql 161 (.agg #[.int .i64 a, .int .i64 b, .int .i64 c]) (.agg #[.int .i64 x, .int .i64 y, .int .i64 z])).run Tryz.prog w = .ok (.bool (decide (a = x ∧ b = y ∧ c = z))) w := by
 obtain ⟨D, hD, fD⟩ := three_lits a b c h1 h2 h3
 obtain ⟨D', hD', fD'⟩ := three_lits x y z g1 g2 g3
 obtain ⟨r, hr, hiff⟩ := run_equalIn_deep 9997 3 161 keyT3 w D D' (.agg #[.int .i64 a, .int .i64 b, .int .i64 c]) (.agg #[.int .i64 x, .int .i64 y, .int .i64 z]) _ _ fD fD' hD hD'
 simp only [Nat.reduceAdd] at hr
 simp only [run_eql_struct]
 rw [hr]
 simp only [Result.andThen]
 congr 2
 rw [Bool.eq_iff_iff, hiff, decide_eq_true_eq]
 simp only [List.cons.injEq, Lit.int.injEq, and_true, true_and]
set_option maxRecDepth 100000 in
set_option maxHeartbeats 4000000 in
theorem hasT_any (a b c p : Pt) (ha : nearQ a = true) (hb : nearQ b = true) (hc : nearQ c = true) (hp : nearQ p = true) (w : World) :
  Calls Tryz.prog 114 #[triV a b c, ptV p] w fun e w' => e = .returned (.bool (hasT a b c p)) ∧ Below w.heap.size w w' := by
 have mixed : Tryz.prog.follows .mixedOrders = true := by kernel_rfl
 have O1 := Lib.hid (fun W => orient_any a b p ha hb hp W)
 have O2 := Lib.hid (fun W => orient_any b c p hb hc hp W)
 have O3 := Lib.hid (fun W => orient_any c a p hc ha hp W)
 have TW := Lib.hid (fun W => twice_any a b c ha hb hc W)
 have HT := Lib.hid (show hasT a b c p = if crs a b c ≠ 0 then decide (0 ≤ sgn (crs a b p) ∧ 0 ≤ sgn (crs b c p) ∧ 0 ≤ sgn (crs c a p)) || decide (sgn (crs a b p) ≤ 0 ∧ sgn (crs b c p) ≤ 0 ∧ sgn (crs c a p) ≤ 0)
  else decide (sgn (crs a b p) = 0 ∧ sgn (crs b c p) = 0 ∧ sgn (crs c a p) = 0) && decide (lexC (minC a (minC b c)) p ≤ 0) && decide (lexC p (maxC a (maxC b c)) ≤ 0) from rfl)
 generalize hasT a b c p = res at HT ⊢
 have hs1 := sgn_cases (crs a b p)
 have hs2 := sgn_cases (crs b c p)
 have hs3 := sgn_cases (crs c a p)
 generalize sgn (crs a b p) = s1 at O1 HT hs1
 generalize sgn (crs b c p) = s2 at O2 HT hs2
 generalize sgn (crs c a p) = s3 at O3 HT hs3
 generalize crs a b c = t at TW HT
 have CM := Lib.hid (fun q r W => gcomp_any q r W)
 have SRT := Lib.hid (fun (L : List Pt) (h : L.Perm [a, b, c]) h2 => three_sorted h h2)
 generalize hmn : minC a (minC b c) = mn at HT SRT
 generalize hmx : maxC a (maxC b c) = mx at HT SRT
 clear hmn hmx ha hb hc hp
 obtain ⟨ax, ay⟩ := a
 obtain ⟨bx, by1⟩ := b
 obtain ⟨cx, cy⟩ := c
 obtain ⟨px, py⟩ := p
 go_enter Tryz.func114, Tryz.ntmps114
 go_wp2_with fail
 have B1 : Below w.heap.size w ((w.alloc (.cells #[.int .i64 ax, .int .i64 ay, .int .i64 bx, .int .i64 by1, .int .i64 cx, .int .i64 cy] 113)).alloc (.cells #[.int .i64 px, .int .i64 py] 33)) := (by repeat' (first | exact Below.refl _ _ | refine Below.drew ?_ | refine Below.drewN' ?_ | refine Below.setCell ?_ (by first | omega | (simp; done) | exact Below.size (by assumption) | (simp; omega)) _ | refine Below.alloc ?_ (by first | omega | (simp; done) | exact Below.size (by assumption) | (simp; omega)) _ | refine Below.trans ?_ (Below.mono (by assumption) ?_) | (first | omega | (simp; done) | exact Below.size (by assumption) | (simp; omega))))
 have H2 := row_past (o' := .cells #[.int .i64 px, .int .i64 py] 33) (row_new w (.cells #[.int .i64 ax, .int .i64 ay, .int .i64 bx, .int .i64 by1, .int .i64 cx, .int .i64 cy] 113))
 have H3 := row_new1 w (.cells #[.int .i64 ax, .int .i64 ay, .int .i64 bx, .int .i64 by1, .int .i64 cx, .int .i64 cy] 113) (.cells #[.int .i64 px, .int .i64 py] 33)
 generalize hw1 : (w.alloc (.cells #[.int .i64 ax, .int .i64 ay, .int .i64 bx, .int .i64 by1, .int .i64 cx, .int .i64 cy] 113)).alloc (.cells #[.int .i64 px, .int .i64 py] 33) = w1
 rw [hw1] at B1 H2 H3
 have hz1 : w1.heap.size = w.heap.size + 2 := by rw [← hw1]; simp
 have H2 := Lib.hid H2
 have H3 := Lib.hid H3
 clear hw1
 refine wp_region_mix 19 (fun W => Below w1.heap.size w1 W) (fun W => Below w1.heap.size w1 W) mixed (by kernel_rfl) (by kernel_rfl) (by kernel_rfl) (StableW.below _ _ (Nat.le_refl _)) (fun W hW => hW) (Below.refl _ _).drew ?_
 apply Exists.intro
 refine ⟨fun W hW => ?_, ?_⟩
 ·have HA := Lib.hid (row_later hW H2.out)
  have HB := Lib.hid (row_later hW H3.out)
  obtain ⟨xz, x0, x1, x2, x3, x4, x5⟩ := rk6 HA.out
  have qx0 := cell_belowBy x0
  have qx1 := cell_belowBy x1
  have qx2 := cell_belowBy x2
  have qx3 := cell_belowBy x3
  have qx4 := cell_belowBy x4
  have qx5 := cell_belowBy x5
  clear x0 x1 x2 x3 x4 x5
  obtain ⟨yz, y0, y1⟩ := rk2 HB.out
  have qy0 := cell_belowBy y0
  have qy1 := cell_belowBy y1
  clear y0 y1
  simp only [List.take_succ_cons, List.take_zero]
  iterate 6 (go_big_quiet_step ((go_at_call 50; exact calls_belowBy (O1.out _))))
  iterate 6 (go_big_quiet_step ((go_at_call 50; exact calls_belowBy (O2.out _))))
  repeat (go_big_quiet_step ((go_at_call 50; exact calls_belowBy (O3.out _))))
  exact wpQuiet_nil rfl
 ·simp only [List.drop_succ_cons, List.drop_zero]
  refine tailM_step (ι := Nat) (fun g => .pointer (some ⟨g, 0, none⟩)) (fun g W => Below w1.heap.size w1 W ∧ W.heap[g]? = some (.cells #[.int .i64 0, .int .i64 0, .int .i64 0] 161) ∧ w1.heap.size ≤ g) rfl (fun g => (StableW.below _ _ (Nat.le_refl _)).and ((StableW.row _ _).and (StableW.const _))) (fun _ _ h => h.1) (fun W hS K hK => ?_) (fun g => ?_)
  ·go_simp
   exact hK W.heap.size _ ⟨hS.alloc hS.size _, row_new _ _, hS.size⟩
  simp only [Act.put, List.setIfInBounds_toArray, List.set_cons_succ, List.set_cons_zero]
  refine tailM_step (ι := Unit) (fun _ => undef) (fun _ W => Below w1.heap.size w1 W ∧ W.heap[g]? = some (.cells #[.int .i64 s1, .int .i64 s2, .int .i64 s3] 161) ∧ w1.heap.size ≤ g) rfl (fun _ => (StableW.below _ _ (Nat.le_refl _)).and ((StableW.row _ _).and (StableW.const _))) (fun _ _ h => h.1) (fun W hS K hK => ?_) (fun _ => ?_)
  ·obtain ⟨hS1, hS2, hS3⟩ := hS
   have HS2 := Lib.hid hS2
   clear hS2
   obtain ⟨ccz, cc0, cc1, cc2⟩ := rk3 HS2.out
   have ccf0 := frozen_of_row W _ 0 _ _ HS2.out
   have ccf1 := frozen_of_row W _ 1 _ _ HS2.out
   have ccf2 := frozen_of_row W _ 2 _ _ HS2.out
   have K1 := Lib.hid (setCells_block [.int .i64 s1, .int .i64 s2, .int .i64 s3] 0 W _ HS2.out)
   have K3 := Lib.hid (hS1.grown (setCells_grown (g := g) [.int .i64 s1, .int .i64 s2, .int .i64 s3] 0 W) hS1.size (fun j hj => by injection hj with hj; omega))
   simp only [World.setCells] at K1 K3
   go_simp
   exact hK () _ ⟨K3.out, K1.out, hS3⟩
  simp only [Act.put]
  refine tailM_nil fun W hW => ?_
  obtain ⟨hW1, hW2, hW3⟩ := hW
  have HS := Lib.hid hW2
  clear hW2
  obtain ⟨w3, rfl⟩ : ∃ z : World, z = W := ⟨_, rfl⟩
  have H2 := Lib.hid (row_later hW1 H2.out)
  have H3 := Lib.hid (row_later hW1 H3.out)
  have B3 := below_step B1 (by omega) hW1
  have hz3 := hW1.size
  clear hW1 O1 O2 O3 B1
  obtain ⟨xz, x0, x1, x2, x3, x4, x5⟩ := rk6 H2.out
  go_wp2_with fail
  refine (TW.out _).mono ?_
  rintro e w4 ⟨rfl, hb4⟩
  have B4 := below_step B3 (by omega) hb4
  clear x0 x1 x2 x3 x4 x5 xz
  have H2 := Lib.hid (row_later hb4 H2.out)
  have H3 := Lib.hid (row_later hb4 H3.out)
  have HS := Lib.hid (row_later hb4 HS.out)
  have hz4 := hb4.size
  clear hb4 B3
  by_cases ht : t = 0
  ·subst ht
   have HR := Lib.hid (show res = (decide (s1 = 0 ∧ s2 = 0 ∧ s3 = 0) && decide (lexC mn (px, py) ≤ 0) && decide (lexC (px, py) mx ≤ 0)) by rw [HT.out, if_neg (by simp)])
   have hr3 : RowE encPt 2 w4 (.slice (some ⟨w.heap.size, 0, none⟩) 3 3) [(ax, ay), (bx, by1), (cx, cy)] := RowE.of_block (l := [(ax, ay), (bx, by1), (cx, cy)]) encPt_len rfl H2.out 3 rfl
   have VA := Lib.hid (fun W => valP_any (some ⟨w.heap.size, 0, none⟩) 3 3 W)
   have BV : Below w4.heap.size w4 (w4.alloc (.cells #[.slice (some ⟨w.heap.size, 0, none⟩) 3 3] 50)) := (Below.refl _ _).alloc (Nat.le_refl _) _
   have SO := Lib.hid (sortedP_any w4.heap.size [(ax, ay), (bx, by1), (cx, cy)] (.slice (some ⟨w.heap.size, 0, none⟩) 3 3) (w4.alloc (.cells #[.slice (some ⟨w.heap.size, 0, none⟩) 3 3] 50)) (by simp) (hr3.later BV) (row_new _ _))
   clear HT hr3 TW
   go_wp2_with (first | (go_at_call 165; refine (VA.out _).mono ?_; rintro e' w' ⟨rfl, rfl⟩) | fail)
   refine SO.out.mono ?_
   rintro e w5 ⟨v, L', rfl, hperm, hso, hown, hb5⟩
   obtain ⟨m, hL'⟩ := SRT.out L' hperm hso
   subst hL'
   have B45 := below_step BV (by omega) hb5
   have B5 := below_step B4 (by omega) B45
   have H3 := Lib.hid (row_later B45 H3.out)
   have HS := Lib.hid (row_later B45 HS.out)
   have hre := RowE.of_own encPt_len rfl hown
   obtain ⟨av, capv, hv, hcv⟩ := hre
   subst hv
   obtain ⟨bv, ov, hav, hcell⟩ := hcv (Nat.succ_pos _)
   subst hav
   have m0 := hcell 0 mn rfl 0 _ rfl
   have m1 := hcell 0 mn rfl 1 _ rfl
   have m2 := hcell 2 mx rfl 0 _ rfl
   have m3 := hcell 2 mx rfl 1 _ rfl
   simp only [Nat.zero_mul, Nat.add_zero, Nat.reduceMul] at m0 m1 m2 m3
   have wf1 : (Lit.int .i64 s1).wf = true := by rcases hs1 with h | h | h <;> rw [h] <;> decide
   have wf2 : (Lit.int .i64 s2).wf = true := by rcases hs2 with h | h | h <;> rw [h] <;> decide
   have wf3 : (Lit.int .i64 s3).wf = true := by rcases hs3 with h | h | h <;> rw [h] <;> decide
   have EQ := Lib.hid (fun W => eql_three s1 s2 s3 0 0 0 W wf1 wf2 wf3 (by decide) (by decide) (by decide))
   have C1 := Lib.hid (fun W => CM.out mn (px, py) W)
   have C2 := Lib.hid (fun W => CM.out (px, py) mx W)
   obtain ⟨n1, n2⟩ := mn
   obtain ⟨x1, x2⟩ := mx
   simp only [] at m0 m1 m2 m3 C1 C2
   generalize lexC (n1, n2) (px, py) = l1 at C1 HR
   generalize lexC (px, py) (x1, x2) = l2 at C2 HR
   have qm0 := cell_belowBy m0
   have qm1 := cell_belowBy m1
   have qm2 := cell_belowBy m2
   have qm3 := cell_belowBy m3
   obtain ⟨sz, s0, s1, s2⟩ := rk3 HS.out
   have qs0 := cell_belowBy s0
   have qs1 := cell_belowBy s1
   have qs2 := cell_belowBy s2
   clear s0 s1 s2
   obtain ⟨yz, y0, y1⟩ := rk2 H3.out
   have qy0 := cell_belowBy y0
   have qy1 := cell_belowBy y1
   clear y0 y1
   have bz5 := lt_of_cell m0
   clear m0 m1 m2 m3 hcell hcv hown hperm hso SRT hb5 BV B45 SO VA CM hs1 hs2 hs3 wf1 wf2 wf3 B4
   by_cases hz : s1 = 0 ∧ s2 = 0 ∧ s3 = 0
   ·have heq := EQ.out
    rw [decide_eq_true hz] at heq
    by_cases h1 : l1 ≤ 0
    ·have d1 : decide (l1 ≤ 0) = true := decide_eq_true h1
     have HE := Lib.hid (show res = decide (l2 ≤ 0) by rw [HR.out, decide_eq_true hz, d1]; rfl)
     obtain ⟨bd, hbd⟩ : ∃ z, decide (l2 ≤ 0) = z := ⟨_, rfl⟩
     rw [hbd] at HE
     clear hz HR EQ h1
     go_wp2_with fail
     refine wp_region_quiet_below mixed (by kernel_rfl) ?_
     iterate 12 (go_big_quiet_step ((go_at_call 51; exact calls_belowBy (C1.out _))))
     repeat (go_big_quiet_step ((go_at_call 51; exact calls_belowBy (C2.out _))))
     refine wpQuiet_nil ?_
     intro w8 hw'
     obtain ⟨⟨wq, hbq⟩, hw''⟩ := hw'
     subst hw''
     have B8 := below_step B5 (Nat.le_trans (by omega) (Nat.le_refl _)) hbq
     go_wp2
     go_ret
     exact ⟨by rw [HE.out] <;> rfl, B8⟩
    ·have d1 : decide (l1 ≤ 0) = false := decide_eq_false h1
     have HE := Lib.hid (show res = false by rw [HR.out, d1]; simp)
     clear hz HR EQ h1
     go_wp2_with fail
     refine wp_region_quiet_below mixed (by kernel_rfl) ?_
     iterate 12 (go_big_quiet_step ((go_at_call 51; exact calls_belowBy (C1.out _))))
     repeat (go_big_quiet_step ((go_at_call 51; exact calls_belowBy (C2.out _))))
     refine wpQuiet_nil ?_
     intro w8 hw'
     obtain ⟨⟨wq, hbq⟩, hw''⟩ := hw'
     subst hw''
     have B8 := below_step B5 (Nat.le_trans (by omega) (Nat.le_refl _)) hbq
     go_wp2
     go_ret
     exact ⟨by rw [HE.out] <;> rfl, B8⟩
   ·have heq := EQ.out
    rw [decide_eq_false hz] at heq
    have HE := Lib.hid (show res = false by rw [HR.out, decide_eq_false hz]; rfl)
    clear hz HR EQ
    go_wp2_with fail
    refine wp_region_quiet_below mixed (by kernel_rfl) ?_
    iterate 12 (go_big_quiet_step ((go_at_call 51; exact calls_belowBy (C1.out _))))
    repeat (go_big_quiet_step ((go_at_call 51; exact calls_belowBy (C2.out _))))
    refine wpQuiet_nil ?_
    intro w8 hw'
    obtain ⟨⟨wq, hbq⟩, hw''⟩ := hw'
    subst hw''
    have B8 := below_step B5 (Nat.le_trans (by omega) (Nat.le_refl _)) hbq
    go_wp2
    go_ret
    exact ⟨by rw [HE.out] <;> rfl, B8⟩
  ·have htb : (t != 0) = true := by rw [bne_iff_ne]; exact ht
   have HR := Lib.hid (show res = (decide (0 ≤ s1 ∧ 0 ≤ s2 ∧ 0 ≤ s3) || decide (s1 ≤ 0 ∧ s2 ≤ 0 ∧ s3 ≤ 0)) by rw [HT.out, if_pos ht])
   have hcells : ∀ j, j < [s1, s2, s3].length → w4.cell? ⟨g, 0 + j, none⟩ = some (.int .i64 ([s1, s2, s3].getD j 0)) := fun j hj => by
    rw [cell_of_row w4 g (0 + j) _ _ _ HS.out]
    match j, hj with
    |0, _ => rfl
    |1, _ => rfl
    |2, _ => rfl
   have MN := Lib.hid (fun c => Tryz.slices_Min_int g 0 3 c [s1, s2, s3] w4 (by decide) (Nat.le_refl 3) (by decide) hcells)
   have MX := Lib.hid (fun c => Tryz.slices_Max_int g 0 3 c [s1, s2, s3] w4 (by decide) (Nat.le_refl 3) (by decide) hcells)
   have e1 : 0 ≤ Lib.minOf ([s1, s2, s3].take 3) ↔ (0 ≤ s1 ∧ 0 ≤ s2 ∧ 0 ≤ s3) := by
    show 0 ≤ min (min (min s1 s1) s2) s3 ↔ _
    omega
   have e2 : Lib.maxOf ([s1, s2, s3].take 3) ≤ 0 ↔ (s1 ≤ 0 ∧ s2 ≤ 0 ∧ s3 ≤ 0) := by
    show max (max (max s1 s1) s2) s3 ≤ 0 ↔ _
    omega
   generalize Lib.minOf ([s1, s2, s3].take 3) = mi at MN e1
   generalize Lib.maxOf ([s1, s2, s3].take 3) = ma at MX e2
   have gz := lt_of_block HS.out
   clear hcells HT SRT hs1 hs2 hs3
   by_cases g1 : 0 ≤ mi
   ·have d1 : decide (0 ≤ mi) = true := decide_eq_true g1
    have HE := Lib.hid (show res = true by rw [HR.out, decide_eq_true (e1.1 g1)]; rfl)
    clear g1 e1 e2 HR
    go_wp2_with (go_at_call 162; refine (MN.out _).mono ?_; rintro e' w' ⟨rfl, rfl⟩)
    go_ret
    exact ⟨by rw [HE.out] <;> rfl, B4⟩
   ·have d1 : decide (0 ≤ mi) = false := decide_eq_false g1
    have HE := Lib.hid (show res = decide (ma ≤ 0) by rw [HR.out, decide_eq_false (fun c => g1 (e1.2 c))]; simp only [Bool.false_or]; rw [Bool.eq_iff_iff, decide_eq_true_eq, decide_eq_true_eq]; exact e2.symm)
    clear g1 e1 e2 HR
    obtain ⟨bd, hbd⟩ : ∃ z, decide (ma ≤ 0) = z := ⟨_, rfl⟩
    rw [hbd] at HE
    go_wp2_with (first | (go_at_call 162; refine (MN.out _).mono ?_; rintro e' w' ⟨rfl, rfl⟩) | (go_at_call 163; refine (MX.out _).mono ?_; rintro e' w' ⟨rfl, rfl⟩))
    go_ret
    exact ⟨by rw [HE.out] <;> rfl, B4⟩
end Go.Proofs.YtibpaaajghbkoaaGreat
