/-  -/
import Derived.Test.YtibpaaajghbkoaaGreatUBk
import Derived.Test.YtibpaaajghbkoaaGreatUAu
import Derived.Test.YtibpaaajghbkoaaGreatUAp
import Derived.Maps.AppendAt
namespace Go.Proofs.YtibpaaajghbkoaaGreat
open Go.RowKit Go.Shelf Go.Sort
attribute [local go_sem] Oper.semAt_some
theorem infoPtS : (Tryz.prog.info? 33).map (fun i => (i.zero, i.size, i.bytes)) = some (some (.agg #[.int .i64 0, .int .i64 0]), 2, 16) := by kernel_rfl
set_option maxRecDepth 100000 in
set_option maxHeartbeats 2000000 in
theorem appSeq_any (Bn : Nat) (L : List Pt) (vt : Value) (w : World) (hL : L.length ≤ 1000) (hv : RowE encPt 2 w vt L) (hBn : w.heap[Bn]? = some (.cells #[vt] 50 (0, 0))) :
  Calls Tryz.prog 255 #[.slice none 0 0, .func (.func 230) #[] #[.pointer (some ⟨Bn, 0, none⟩)]] w fun e w' =>
   ∃ v, e = .returned v ∧ w'.ownsRow w.heap.size 33 2 v L.length (L.flatMap encPt) ∧ Below w.heap.size w w' := by
 obtain ⟨i0, hi, hz0, hz1, hz2⟩ := info_parts infoPtS
 refine (callsIn_wide (n := 5)).1 ?_
 refine callsIn_of_wp_marks Tryz.func255 rfl trivial ?_ rfl
 simp only [Tryz.ntmps255, List.size_toArray, List.length_cons, List.length_nil, Nat.reduceAdd, Nat.reduceSub, Array.replicate_succ, Array.replicate_zero, List.push_toArray, List.append_toArray, List.nil_append, List.cons_append]
 have hB0 : Below w.heap.size w (w.alloc (.cells #[.slice none 0 0] 50)) := (Below.refl _ w).alloc (Nat.le_refl _) _
 have bO := Boxed.new w 50 (.slice none 0 0)
 have ST := Lib.hid (valP_stops 4 (by omega) Bn vt L w (w.alloc (.cells #[.slice none 0 0] 50)) hv (by omega) (fun k hk => hB0.block k hk) hB0.size (row_past hBn))
 have hzW : (w.alloc (.cells #[.slice none 0 0] 50)).heap.size = w.heap.size + 1 := by simp
 gi_wp2
 generalize hW0 : w.alloc (.cells #[.slice none 0 0] 50) = W0 at *
 clear hW0 hv hBn
 refine wpIn_rangeFunc_ownH rfl (by omega) (gf := 230) (lb := #[.pointer (some ⟨Bn, 0, none⟩)]) rfl trivial (enters_of Tryz.func230 (by kernel_rfl) rfl)
  ST.out KpN.trans
  (fun W l o o' hl _ _ _ => ⟨fun k hk => World.putObj_heap_other (by omega), (grownBy_putObj' W l o').size⟩) (Below.refl _ _) (fun _ => rfl)
  (fun pre W => ((∃ v, Boxed W w.heap.size 50 v ∧ W.ownsRow w.heap.size 33 2 v pre.length (pre.flatMap encPt) ∧ True) ∧ Below w.heap.size w W) ∧ W0.heap.size ≤ W.heap.size)
  (fun _ _ _ => False)
  (OwnFrom.and (OwnFrom.and (Own.from (holdsRow_own w.heap.size w.heap.size 50 33 2 (fun pre : List Pt => pre.length) (fun pre => pre.flatMap encPt) (fun _ _ => True)) _) (ownFrom_below (Nat.le_refl _) (by omega))) (fun _ _ _ _ hs hg _ => Nat.le_trans hs hg.size))
  (fun _ _ _ _ _ hs _ _ => hs)
  ⟨⟨⟨_, bO, World.ownsRow_nil _ _ _ _, trivial⟩, hB0⟩, Nat.le_refl _⟩
  (fun x a' W => ∃ Bx, W.heap[Bx]? = some (.cells #[.int .i64 x.1, .int .i64 x.2] 33 (0, 0)) ∧ W0.heap.size ≤ Bx ∧ a' = { tmps := #[.slice none 0 0, .func (.func 230) #[] #[.pointer (some ⟨Bn, 0, none⟩)], .pointer (some ⟨w.heap.size, 0, none⟩), undef, .slice none 0 0, .pointer (some ⟨Bx, 0, none⟩), .func (.func 230) #[] #[.pointer (some ⟨Bn, 0, none⟩)], .agg #[.int .i64 x.1, .int .i64 x.2], undef, undef, undef, undef, undef], defers := [] })
  (fun x a' _ X Y row hs hg hr => by obtain ⟨Bx, h2, h3⟩ := hs; exact ⟨Bx, cells_kept rfl hg (fun r e => (hr r e).2) h2, h3⟩)
  ?assign ?body ?done ?stop
 case assign =>
  rintro l pre x W K ⟨⟨⟨v, hv, hrow, _⟩, hB⟩, hsz⟩ hK
  simp only [encPt] at *
  gi_wp2
  exact hK _ _ ((KeepsOthers.alloc _ _).from _) ⟨fun k hk => Below.heap_alloc _ _ _ (by omega), by simp⟩ ⟨⟨⟨v, hv.alloc _, hrow.alloc _, trivial⟩, hB.alloc (by omega) _⟩, by simp; omega⟩ ⟨W.heap.size, row_new _ _, hsz, rfl⟩
 case body =>
  rintro l pre x a' W hl2 ⟨r, hr⟩ ⟨⟨⟨v, hv, hrow, _⟩, hB⟩, hsz⟩ ⟨Bx, hX, hBx, rfl⟩ hlt
  have hc := hv.cell
  obtain ⟨xcz, xc0, xc1⟩ := rk2 hX
  have hX' := Lib.hid hX
  clear hX
  have hXa := row_past (o' := .cells #[.int .i64 x.1, .int .i64 x.2] 33) hX'.out
  clear hX'
  gi_wp2_with (gi_at_builtin; refine wpListIn_append_own _ rfl _ _ 50 rfl w.heap.size 33 i0 (.agg #[.int .i64 0, .int .i64 0]) 2 16 Tryz.underlying50 hi hz0 hz1 hz2 rfl (by decide) _ _ _ rfl (hrow.alloc _) ⟨W.heap.size, 0, none⟩ 1 1 (encPt x) rfl rfl (cells_new W (encPt x) 33) (encPt_one x) (by unfold maxLen; omega) (by omega) (by have := hB.size; simp; omega) ?_; intro v' w1 hown' hgrow _; obtain ⟨g', cap', rfl⟩ := ownsRow_succ hown'; obtain ⟨hv1, hv2, hr2, hk2, hb2⟩ := hv.appended (by decide) hrow hB.size (Nat.le_refl _) hown' hgrow; have hc1 := hv1.cell; have hf1 := hv1.frozen)
  have hk3 : KpN w.heap.size W (w1.setCell ⟨w.heap.size, 0, none⟩ (.slice (some ⟨g', 0, none⟩) (pre.length + 1) cap')) := ⟨fun k hk => hb2.block k hk, hb2.size⟩
  exact ⟨hk2.from _, hk3, ⟨⟨_, hv2, by rw [List.flatMap_append]; simpa using hr2, trivial⟩, hB.trans hb2⟩, Nat.le_trans hsz hb2.size⟩
 case done =>
  rintro D ys W hD rfl ⟨⟨⟨v, hv, hrow, _⟩, hB⟩, hsz⟩ hK
  have hc := hv.cell
  gi_wp2
  refine ⟨by simp, .inl ⟨_, _, rfl, run_takeDeferred hK, ?_⟩⟩
  exact ⟨_, results_tmp rfl _ _ _, v, rfl, ownsRow_putObj hrow _ hK rfl, hB.trans (belowK_b (w := w) (Nat.le_refl _) W D _ _ (by omega) hK rfl rfl)⟩
 case stop =>
  rintro D c pre W _ _ h _
  exact h.elim
theorem collect_any (Bn : Nat) (L : List Pt) (vt : Value) (w : World) (hL : L.length ≤ 1000) (hv : RowE encPt 2 w vt L) (hBn : w.heap[Bn]? = some (.cells #[vt] 50 (0, 0))) :
  Calls Tryz.prog 228 #[.func (.func 230) #[] #[.pointer (some ⟨Bn, 0, none⟩)]] w fun e w' =>
   ∃ v, e = .returned v ∧ w'.ownsRow w.heap.size 33 2 v L.length (L.flatMap encPt) ∧ Below w.heap.size w w' := by
 have AS := Lib.hid (appSeq_any Bn L vt w hL hv hBn)
 go_enter Tryz.func228, Tryz.ntmps228
 go_wp2_with fail
 refine AS.out.mono ?_
 rintro e w2 ⟨v, rfl, hown, hb⟩
 have HO := Lib.hid hown
 go_wp2
 go_ret
 exact ⟨v, rfl, HO.out, hb⟩
theorem swoPt : SWO (ltOf lexC) where
 irrefl := fun x => by
  show decide (lexC x x < 0) = false
  unfold lexC; simp
 trans := fun x y z h h2 => by
  have h : lexC x y < 0 := of_decide_eq_true h
  have h2 : lexC y z < 0 := of_decide_eq_true h2
  refine decide_eq_true ?_
  unfold lexC at *
  repeat' split at h
  all_goals (try omega)
  all_goals (repeat' split at h2)
  all_goals (try omega)
  all_goals (repeat' split)
  all_goals omega
 ntrans := fun x y z h h2 => by
  have h : ¬ lexC x y < 0 := of_decide_eq_false h
  have h2 : ¬ lexC y z < 0 := of_decide_eq_false h2
  refine decide_eq_false ?_
  unfold lexC at *
  repeat' split at h
  all_goals (try omega)
  all_goals (repeat' split at h2)
  all_goals (try omega)
  all_goals (repeat' split)
  all_goals omega
theorem sortedP_any (Bn : Nat) (L : List Pt) (vt : Value) (w : World) (hL : L.length ≤ 1000) (hv : RowE encPt 2 w vt L) (hBn : w.heap[Bn]? = some (.cells #[vt] 50 (0, 0))) :
  Calls Tryz.prog 164 #[.func (.func 230) #[] #[.pointer (some ⟨Bn, 0, none⟩)], .func (.func 51) #[] #[]] w fun e w' =>
   ∃ (v : Value) (L' : List Pt), e = .returned v ∧ L'.Perm L ∧ L'.Pairwise (fun x y => ltOf lexC y x = false) ∧ w'.ownsRow w.heap.size 33 2 v L'.length (L'.flatMap encPt) ∧ Below w.heap.size w w' := by
 have CO := Lib.hid (collect_any Bn L vt w hL hv hBn)
 have SO := Lib.hid (fun (v : Value) (W : World) (h : W.ownsRow w.heap.size 33 2 v L.length (L.flatMap encPt)) =>
  sort_own Tryz.sort_pt 2 Tryz.isAgg33 Tryz.sizeOf33 encPt encPt_len encPt_one lexC swoPt 51 #[] (enters_of Tryz.func51 (by kernel_rfl) rfl) rfl (by omega) (fun W _ x y => gcomp_grew x y W) h)
 go_enter Tryz.func164, Tryz.ntmps164
 go_wp2_with fail
 refine CO.out.mono ?_
 rintro e w2 ⟨v, rfl, hown, hb⟩
 have HO := Lib.hid hown
 have HS := Lib.hid (SO.out v w2 hown)
 clear hown
 go_wp2_with fail
 refine HS.out.mono ?_
 rintro e w3 ⟨rfl, L', hp, hso, hown, hg⟩
 have HE := Lib.hid (And.intro hp (And.intro hso (And.intro (show w3.ownsRow w.heap.size 33 2 v L'.length (L'.flatMap encPt) by rw [hp.length_eq]; exact hown) (hb.grown hg hb.size (fun j hj => (own_block HO.out j hj).1)))))
 clear hp hso hown hg hb
 go_wp2
 go_ret
 exact ⟨v, L', rfl, HE.out⟩
end Go.Proofs.YtibpaaajghbkoaaGreat
