/- The function 'all' of package grid: a slice that owns the tiles between two. -/
import Derived.Test.YtnilofeakdibhaaDoorGridSq
namespace Go.Proofs.YtnilofeakdibhaaDoor
open Go.RowKit Go.Shelf

attribute [local go_sem] Oper.semAt_some

/-- A whole block. -/
def Blk (W : World) (B : Nat) (o : Obj) : Prop := W.heap[B]? = some o
theorem blk_own {β : Type} (B : Nat) (o : Obj) (ho : o.isCells = true) : Own (fun (_ : β) W => Blk W B o) := by
  intro s X Y row hs hg hrow
  refine (hg.block B (lt_of_block hs) ?_).trans hs
  intro e
  obtain ⟨o', ho', hc⟩ := hrow B e.symm
  rw [show X.heap[B]? = _ from hs] at ho'
  cases ho'
  rw [ho] at hc; cases hc
theorem blk_alloc {W : World} {B : Nat} {o : Obj} (h : Blk W B o) (o' : Obj) : Blk (W.alloc o') B o := row_past h

/-- The cells of some tiles, one behind the other. -/
def tileCells (l : List (Int × Int × Int)) : List Value := l.flatMap fun t => [.int .i64 t.1, .int .i64 t.2.1, .int .i64 t.2.2]
theorem infoTile : (Tryd.prog.info? 23).map (fun i => (i.zero, i.size, i.bytes)) = some (some (.agg #[.int .i64 0, .int .i64 0, .int .i64 0]), 3, 24) := by kernel_rfl

theorem cells_new (w : World) (cs : List Value) (t : TypeId) : ∀ (j : Nat) (u : Value), cs[j]? = some u → (w.alloc (.cells cs.toArray t)).cell? ((⟨w.heap.size, 0, none⟩ : Addr).add j) = some u := by
  intro j u hj
  have hadd : (⟨w.heap.size, 0, none⟩ : Addr).add j = ⟨w.heap.size, j, none⟩ := by unfold Addr.add; split <;> simp_all
  rw [hadd, cell_of_row _ _ j _ _ _ (row_new w _)]
  simpa using hj

/-- Behind an append to a row of the call's own, whose variable lies in a box ahead of it. -/
theorem appended' {W w1 : World} {n₀ B : Nat} {t e : TypeId} {size : Nat} {v v' : Value} {k m : Nat} {xs ys : List Value} {tmp : Obj}
    (hv : Boxed W B t v) (hrow : W.ownsRow n₀ e size v k xs) (hn₀ : n₀ ≤ W.heap.size) (hB : B < n₀)
    (hown' : w1.ownsRow n₀ e size v' m ys) (hgrow : (W.alloc tmp).grownBy w1 v.ownBlock) :
    Boxed w1 B t v ∧ Boxed (w1.setCell ⟨B, 0, none⟩ v') B t v' ∧ (w1.setCell ⟨B, 0, none⟩ v').ownsRow n₀ e size v' m ys ∧ KeepsOthers W (w1.setCell ⟨B, 0, none⟩ v') ∧ (∀ j, j < n₀ → j ≠ B → (w1.setCell ⟨B, 0, none⟩ v').heap[j]? = W.heap[j]?) ∧ Below B W (w1.setCell ⟨B, 0, none⟩ v') := by
  have hne : ∀ j, j < n₀ → v.ownBlock ≠ some j := by
    intro j hj ej
    rcases hrow.2 with ⟨rfl, _⟩ | ⟨g, cap, cur, rfl, hb, _, _⟩
    · simp [Value.ownBlock] at ej
    · obtain rfl : g = j := by simpa [Value.ownBlock] using ej
      omega
  have hne' : v'.ownBlock ≠ some B := by
    intro ej
    rcases hown'.2 with ⟨rfl, _⟩ | ⟨g, cap, cur, rfl, hb, _, _⟩
    · simp [Value.ownBlock] at ej
    · obtain rfl : g = B := by simpa [Value.ownBlock] using ej
      omega
  have hkeep : ∀ j, j < n₀ → w1.heap[j]? = W.heap[j]? := fun j hj => (hgrow.block j (by simp; omega) (fun e' => hne j hj e'.symm)).trans (Below.heap_alloc _ _ _ (by omega))
  have hv1 : Boxed w1 B t v := (hkeep B hB).trans hv
  refine ⟨hv1, hv1.set v', hown'.kept (grownBy_setCell' w1 B v') (.inr (fun e' => hne' e')), ?_, ?_, ?_⟩
  · refine ((KeepsOthers.alloc W tmp).trans (KeepsOthers.of_grownBy hgrow fun j o ej hj => ?_)).trans (KeepsOthers.setCell _ _ _)
    rcases (hrow.alloc tmp).2 with ⟨rfl, _⟩ | ⟨g, cap, cur, rfl, _, hgb, _⟩
    · simp [Value.ownBlock] at ej
    · obtain rfl : g = j := by simpa [Value.ownBlock] using ej
      rw [hgb] at hj; cases hj; rfl
  · intro j hj hjB
    rw [Below.heap_setCell _ _ _ _ (by simpa using hjB)]
    exact hkeep j hj
  · exact (((Below.refl B W).alloc (by omega) tmp).grown hgrow (by simp; omega) fun j ej => by
      rcases Nat.lt_or_ge j n₀ with h | h
      · exact absurd ej (hne j h)
      · omega).setCell (p := ⟨B, 0, none⟩) (Nat.le_refl _) v'
def AllPost (l : List (Int × Int × Int)) (w : World) (e : Ending) (W' : World) : Prop :=
  ∃ v, e = .returned v ∧ W'.ownsRow w.heap.size 23 3 v l.length (tileCells l) ∧ (v = .slice none 0 0 ↔ l = []) ∧ Below w.heap.size w W'

set_option maxRecDepth 100000 in
set_option maxHeartbeats 2000000 in
theorem all_in (F : Fence) (n : Nat) (h3 : F.fn 38) (h4 : F.fn 50) (h5 : F.fn 61) (hro : F.round = none) (hn : 3 ≤ n) (z z2 fx fy : Int) (nx ny : Nat)
    (hx : 0 ≤ fx ∧ fx + nx ≤ 1048576) (hy : 0 ≤ fy ∧ fy + ny ≤ 1048576) (hlen : ny * nx ≤ 1000000) (w : World) :
    CallsIn F n Tryd.prog 38 #[.agg #[.int .i64 z, .int .i64 fx, .int .i64 fy], .agg #[.int .i64 z2, .int .i64 (fx + nx - 1), .int .i64 (fy + ny - 1)]] w (AllPost (sqL z fx fy nx ny) w) := by
  have h1 : 1 ≤ n := by omega
  obtain ⟨i0, hi, hz0, hz1, hz2⟩ := info_parts infoTile
  refine callsIn_of_wp_marks Tryd.func38 rfl h3 ?_ hro
  simp only [Tryd.ntmps38, List.size_toArray, List.length_cons, List.length_nil, Nat.reduceAdd, Nat.reduceSub, Array.replicate_succ, Array.replicate_zero, List.push_toArray, List.append_toArray, List.nil_append, List.cons_append]
  gi_wp2_with (gi_at_call 50; refine (square_in F (n - 1) h4 hro _ _ _ _ _ _ _).mono ?_; rintro e w' ⟨rfl, rfl⟩)
  have hO := Boxed.new ((w.alloc (.cells #[.int .i64 z, .int .i64 fx, .int .i64 fy] 23)).alloc (.cells #[.int .i64 z2, .int .i64 (fx + nx - 1), .int .i64 (fy + ny - 1)] 23)) 45 (.slice none 0 0)
  simp only [World.size_alloc] at hO
  have bO := (hO.alloc (.cells #[.int .i64 z, .int .i64 fx, .int .i64 fy] 23)).alloc (.cells #[.int .i64 z2, .int .i64 (fx + nx - 1), .int .i64 (fy + ny - 1)] 23)
  have G1 := row_past (o' := .cells #[.int .i64 z2, .int .i64 (fx + nx - 1), .int .i64 (fy + ny - 1)] 23) (row_new (((w.alloc (.cells #[.int .i64 z, .int .i64 fx, .int .i64 fy] 23)).alloc (.cells #[.int .i64 z2, .int .i64 (fx + nx - 1), .int .i64 (fy + ny - 1)] 23)).alloc (.cells #[.slice none 0 0] 45)) (.cells #[.int .i64 z, .int .i64 fx, .int .i64 fy] 23))
  have G2 := row_new ((((w.alloc (.cells #[.int .i64 z, .int .i64 fx, .int .i64 fy] 23)).alloc (.cells #[.int .i64 z2, .int .i64 (fx + nx - 1), .int .i64 (fy + ny - 1)] 23)).alloc (.cells #[.slice none 0 0] 45)).alloc (.cells #[.int .i64 z, .int .i64 fx, .int .i64 fy] 23)) (.cells #[.int .i64 z2, .int .i64 (fx + nx - 1), .int .i64 (fy + ny - 1)] 23)
  simp only [World.size_alloc] at G1 G2
  generalize hW0 : World.alloc _ (.cells #[.int .i64 z2, .int .i64 (fx + nx - 1), .int .i64 (fy + ny - 1)] 23) = W0 at bO G1 G2 ⊢
  have hsz : W0.heap.size = w.heap.size + 5 := by rw [← hW0]; simp only [World.size_alloc]
  have hB0 : Below w.heap.size w W0 := by
    rw [← hW0]
    exact ((((((Below.refl _ _).alloc (Nat.le_refl _) _).alloc (by simp only [World.size_alloc]; omega) _).alloc (by simp only [World.size_alloc]; omega) _).alloc (by simp only [World.size_alloc]; omega) _).alloc (by simp only [World.size_alloc]; omega) _)
  clear hW0 hO
  refine wpIn_rangeFunc_ownH hro h1 (gf := 61) (lb := #[.pointer (some ⟨w.heap.size + 1 + 1 + 1, 0, none⟩), .pointer (some ⟨w.heap.size + 1 + 1 + 1 + 1, 0, none⟩)]) rfl h5 (enters_of Tryd.func61 (by kernel_rfl) rfl)
    (square_stops F (n - 1) h5 hro (by omega) (w.heap.size + 1 + 1 + 1) (w.heap.size + 1 + 1 + 1 + 1) z z2 fx fy nx ny hx hy W0 G1 G2) KeepB.trans
    (fun W l o o' hl _ _ _ => ⟨World.putObj_heap_other (by omega), World.putObj_heap_other (by omega)⟩) (Below.refl _ _) (fun _ => rfl)
    (fun pre W => (∃ v, Boxed W (w.heap.size + 1 + 1) 45 v ∧ W.ownsRow W0.heap.size 23 3 v pre.length (tileCells pre) ∧ (v = .slice none 0 0 ↔ pre = [])) ∧ Below w.heap.size w W ∧ W0.heap.size ≤ W.heap.size)
    (fun _ _ _ => False)
    (OwnFrom.and (Own.from (holdsRow_own W0.heap.size (w.heap.size + 1 + 1) 45 23 3 (fun pre => pre.length) (fun pre => tileCells pre) (fun pre v => v = .slice none 0 0 ↔ pre = [])) _) (OwnFrom.and (ownFrom_below (Nat.le_refl _) (by omega)) (fun _ _ _ _ h hg _ => Nat.le_trans h hg.size)))
    (fun _ _ _ _ _ hs _ _ => hs)
    ⟨⟨_, bO, World.ownsRow_nil _ _ _ _, by simp⟩, hB0, Nat.le_refl _⟩
    (fun x a' W => ∃ Bx, Blk W Bx (.cells #[.int .i64 x.1, .int .i64 x.2.1, .int .i64 x.2.2] 23 (0, 0)) ∧ a' = { tmps := #[.agg #[.int .i64 z, .int .i64 fx, .int .i64 fy], .agg #[.int .i64 z2, .int .i64 (fx + nx - 1), .int .i64 (fy + ny - 1)], .pointer (some ⟨w.heap.size, 0, none⟩), .pointer (some ⟨w.heap.size + 1, 0, none⟩), .slice none 0 0, .pointer (some ⟨w.heap.size + 1 + 1, 0, none⟩), .pointer (some ⟨Bx, 0, none⟩), .agg #[.int .i64 z, .int .i64 fx, .int .i64 fy], .agg #[.int .i64 z2, .int .i64 (fx + nx - 1), .int .i64 (fy + ny - 1)], .func (.func 61) #[] #[.pointer (some ⟨w.heap.size + 1 + 1 + 1, 0, none⟩), .pointer (some ⟨w.heap.size + 1 + 1 + 1 + 1, 0, none⟩)], tileV x, undef, undef, undef, undef, undef], defers := [] })
    (fun x a' _ X Y row hs hg hr => by obtain ⟨Bx, h2, h3⟩ := hs; exact ⟨Bx, blk_own (β := Unit) Bx _ rfl () X Y row h2 hg (fun r e => (hr r e).2), h3⟩)
    ?assign ?body ?done ?stop
  case assign =>
    rintro l pre x W K ⟨⟨v, hv, hrow, hnil⟩, hB1, hS1⟩ hK
    unfold tileV at *
    gi_wp2
    exact hK _ _ ((KeepsOthers.alloc _ _).from _) ⟨Below.heap_alloc _ _ _ (by omega), Below.heap_alloc _ _ _ (by omega)⟩ ⟨⟨v, hv.alloc _, hrow.alloc _, hnil⟩, hB1.alloc hB1.size _, by simp; omega⟩ ⟨W.heap.size, row_new _ _, rfl⟩
  case body =>
    rintro l pre x a' W hl ⟨r, hr⟩ ⟨⟨v, hv, hrow, hnil⟩, hB1, hS1⟩ ⟨Bx, bX, rfl⟩ hlt
    have hc := hv.cell
    have HX : W.heap[Bx]? = _ := bX
    unfold tileV at *
    have xz := lt_of_block HX
    have x0 := cell_of_row W _ 0 _ _ _ HX
    have x1 := cell_of_row W _ 1 _ _ _ HX
    have x2 := cell_of_row W _ 2 _ _ _ HX
    simp only [List.getElem?_toArray, List.getElem?_cons_zero, List.getElem?_cons_succ] at x0 x1 x2
    have HX' := Lib.hid HX
    clear HX
    clear HX'
    gi_wp2_with (gi_at_builtin; refine wpListIn_append_own _ rfl _ _ 45 rfl W0.heap.size 23 i0 (.agg #[.int .i64 0, .int .i64 0, .int .i64 0]) 3 24 Tryd.underlying45 hi hz0 hz1 hz2 rfl (by decide) _ _ _ rfl (hrow.alloc _) ⟨W.heap.size, 0, none⟩ 1 1 [.int .i64 x.1, .int .i64 x.2.1, .int .i64 x.2.2] rfl rfl (cells_new _ _ _) (by simp [Value.oneCell']) (by unfold maxLen; omega) (by omega) (by simp; omega) ?_; intro v' w1 hown' hgrow _; obtain ⟨g', cap', rfl⟩ := ownsRow_succ hown'; obtain ⟨hv1, hv2, hr2, hk2, hkeep, hb2⟩ := appended' hv hrow hS1 (by omega) hown' hgrow; have hc1 := hv1.cell; have hf1 := hv1.frozen)
    have e1 : tileCells (pre ++ [x]) = tileCells pre ++ [.int .i64 x.1, .int .i64 x.2.1, .int .i64 x.2.2] := by simp [tileCells]
    have e2 : (pre ++ [x]).length = pre.length + 1 := by simp
    exact ⟨hk2.from _, ⟨hkeep _ (by omega) (by omega), hkeep _ (by omega) (by omega)⟩, ⟨_, hv2, by rw [e1, e2]; exact hr2, by simp⟩, hB1.trans (hb2.mono (by omega)), Nat.le_trans hS1 hb2.size⟩
  case done =>
    rintro D ys W hD rfl ⟨⟨v, hv, hrow, hnil⟩, hB1, hS1⟩ hK
    have hc := hv.cell
    gi_wp2
    refine ⟨by simp, .inl ⟨_, _, rfl, run_takeDeferred hK, ?_⟩⟩
    refine ⟨_, results_tmp rfl _ _ _, v, rfl, ?_, hnil, hB1.trans (belowK_b (w := w) (Nat.le_refl _) W D _ _ (by omega) hK rfl rfl)⟩
    have hr := ownsRow_putObj hrow (.deferred none) hK rfl
    rcases hr with ⟨hl, hr⟩
    refine ⟨hl, ?_⟩
    rcases hr with hr | ⟨g, cap, cur, h1, h2, h3⟩
    · exact .inl hr
    · exact .inr ⟨g, cap, cur, h1, by omega, h3⟩
  case stop =>
    rintro D c pre W _ _ h _
    exact h.elim

/-- all: a slice that owns the tiles between two, row by row. -/
theorem all_any (z z2 fx fy tx ty : Int) (nx ny : Nat) (hx : 0 ≤ fx ∧ fx + nx ≤ 1048576) (hy : 0 ≤ fy ∧ fy + ny ≤ 1048576) (hlen : ny * nx ≤ 1000000) (hx2 : tx = fx + nx - 1) (hy2 : ty = fy + ny - 1) (w : World) :
    Calls Tryd.prog 38 #[.agg #[.int .i64 z, .int .i64 fx, .int .i64 fy], .agg #[.int .i64 z2, .int .i64 tx, .int .i64 ty]] w (AllPost (sqL z fx fy nx ny) w) := by
  subst hx2 hy2
  exact (callsIn_wide (n := 3)).1 (all_in Fence.wide 3 trivial trivial trivial rfl (by omega) z z2 fx fy nx ny hx hy hlen w)
end Go.Proofs.YtnilofeakdibhaaDoor
