/-  -/
import Derived.Test.YtibpaaajghbkoaaGreatUBl
import Derived.Test.YtibpaaajghbkoaaGreatUBm
namespace Go.Proofs.YtibpaaajghbkoaaGreat
open Go.RowKit Go.Shelf Go.Sort
attribute [local go_sem] Oper.semAt_some
def sumS (xs : List (Nat × Sg)) : Int := (xs.map fun x => areaF x.2.1 x.2.2).sum
theorem sumS_snoc (xs : List (Nat × Sg)) (x : Nat × Sg) : sumS (xs ++ [x]) = sumS xs + areaF x.2.1 x.2.2 := by unfold sumS; simp
theorem path_range : ∀ r : List Pt, pathS r = ((List.range (r.length - 1)).map fun i => areaF (pAt r i) (pAt r (i + 1))).sum
 |[] => rfl
 |[_] => rfl
 |a :: b :: r => by
  rw [pathS, path_range (b :: r)]
  simp only [List.length_cons, Nat.add_sub_cancel]
  rw [List.range_succ_eq_map, List.map_cons, List.sum_cons, List.map_map]
  rfl
theorem sum_cyc {r : List Pt} (h : 0 < r.length) : sumS (sidesL r) = cycS r := by
 obtain ⟨m, hm⟩ : ∃ m, r.length = m + 1 := ⟨r.length - 1, by omega⟩
 unfold sumS sidesL cycS
 rw [path_range, hm, List.range_succ, List.map_append, List.map_append, List.sum_append, List.map_map, Nat.add_sub_cancel]
 congr 1
 ·congr 1
  refine List.map_congr_left fun i hi => ?_
  have := List.mem_range.1 hi
  show areaF (pAt r i) (pAt r ((i + 1) % (m + 1))) = _
  rw [Nat.mod_eq_of_lt (by omega)]
 ·have e1 : r.getLast? = some (pAt r m) := by
   rw [List.getLast?_eq_getElem?, hm, Nat.add_sub_cancel]; exact pAt_some (by omega)
  have e2 : r.head? = some (pAt r 0) := by rw [List.head?_eq_getElem?]; exact pAt_some (by omega)
  rw [e1, e2]
  simp [Nat.mod_self]
theorem area_bd {a b : Pt} (ha : nearQ a = true) (hb : nearQ b = true) : -17592186044416 ≤ areaF a b ∧ areaF a b ≤ 17592186044416 := by
 have h1 := near_bd ha
 have h2 := near_bd hb
 have := mul_bd (B := 4194304) (C := 4194304) (x := a.1 + b.1) (y := b.2 - a.2) (by omega) (by omega)
 unfold areaF
 omega
theorem sides_near {L : List Pt} (h : ∀ x ∈ L, nearQ x = true) {x : Nat × Sg} (hx : x ∈ sidesL L) : nearQ x.2.1 = true ∧ nearQ x.2.2 = true := by
 unfold sidesL at hx
 obtain ⟨i, hi, rfl⟩ := List.mem_map.1 hx
 have hl := List.mem_range.1 hi
 exact ⟨h _ (List.mem_of_getElem? (pAt_some hl)), h _ (List.mem_of_getElem? (pAt_some (Nat.mod_lt _ (by omega))))⟩
theorem sum_bd : ∀ xs : List (Nat × Sg), (∀ x ∈ xs, nearQ x.2.1 = true ∧ nearQ x.2.2 = true) → -(17592186044416 * (xs.length : Int)) ≤ sumS xs ∧ sumS xs ≤ 17592186044416 * (xs.length : Int)
 |[], _ => by unfold sumS; simp
 |x :: xs, h => by
  have h1 := sum_bd xs fun y hy => h y (List.mem_cons_of_mem _ hy)
  have h2 := area_bd (h x (by simp)).1 (h x (by simp)).2
  have e : sumS (x :: xs) = areaF x.2.1 x.2.2 + sumS xs := by unfold sumS; simp
  rw [e, List.length_cons]
  omega
abbrev SiT := { x : Nat × Sg // nearQ x.2.1 = true ∧ nearQ x.2.2 = true }
theorem attach_si {L : List Pt} (h : ∀ x ∈ sidesL L, nearQ x.2.1 = true ∧ nearQ x.2.2 = true) : ∃ S : List SiT, S.map (fun x : SiT => x.1) = sidesL L :=
 ⟨(sidesL L).attachWith _ h, by simp [List.attach_map_subtype_val]⟩
set_option maxRecDepth 100000 in
set_option maxHeartbeats 2000000 in
theorem ringTwice_any (v : Value) (L : List Pt) (w : World) (hv : RowE encPt 2 w v L) (hok : ∀ x ∈ L, nearQ x = true) (h3 : 3 ≤ L.length) (hl : L.length ≤ 2000) :
  Calls Tryz.prog 25 #[v] w fun e w' => e = .returned (.int .i64 (cycS L)) ∧ Below w.heap.size w w' := by
 have RG := Lib.hid (regular_any v L w hv hok h3 hl)
 have HV := Lib.hid hv
 obtain ⟨a, cap, rfl, -⟩ := hv
 have HNR := Lib.hid (fun x (hx : x ∈ sidesL L) => sides_near hok hx)
 have HSC := Lib.hid (sum_cyc (r := L) (by omega))
 refine (callsIn_wide (n := 6)).1 ?_
 refine callsIn_of_wp_marks Tryz.func25 rfl trivial ?_ rfl
 simp only [Tryz.ntmps25, List.size_toArray, List.length_cons, List.length_nil, Nat.reduceAdd, Nat.reduceSub, Array.replicate_succ, Array.replicate_zero, List.push_toArray, List.append_toArray, List.nil_append, List.cons_append]
 gi_wp2
 refine ⟨trivial, (callsIn_wide.2 RG.out).mono ?_⟩
 rintro e W1 ⟨rfl, hb1⟩
 gi_wp2
 refine ⟨trivial, (callsIn_wide.2 (sides_any a L.length cap _)).mono ?_⟩
 rintro e W2 ⟨rfl, rfl⟩
 have hz0 : ((W1.alloc (.cells #[.int .i64 0] 3)).alloc (.cells #[.slice a L.length cap] 50)).heap.size = W1.heap.size + 1 + 1 := by simp
 have hb0 : Below w.heap.size w ((W1.alloc (.cells #[.int .i64 0] 3)).alloc (.cells #[.slice a L.length cap] 50)) := (hb1.alloc hb1.size _).alloc (by have := hb1.size; simp; omega) _
 have h3n := row_past (o' := .cells #[.slice a L.length cap] 50) (row_new W1 (.cells #[.int .i64 0] 3))
 have h3s := row_new1 W1 (.cells #[.int .i64 0] 3) (.cells #[.slice a L.length cap] 50)
 have hlow : ∀ k, k < w.heap.size → ((W1.alloc (.cells #[.int .i64 0] 3)).alloc (.cells #[.slice a L.length cap] 50)).heap[k]? = w.heap[k]? := fun k hk => hb0.block k hk
 obtain ⟨S, hS⟩ := attach_si (L := L) (fun x hx => HNR.out x hx)
 have hSn : S.length = L.length := by rw [← sidesL_len L, ← hS, List.length_map]
 have hsw := hb1.size
 gi_wp2
 generalize hW0 : (W1.alloc (.cells #[.int .i64 0] 3)).alloc (.cells #[.slice a L.length cap] 50) = W0 at *
 obtain ⟨B3, hB3⟩ : ∃ z, z = W1.heap.size := ⟨_, rfl⟩
 rw [← hB3] at hz0 h3n h3s hsw ⊢
 have ST := Lib.hid (show SeqStopsK Fence.wide 5 Tryz.prog 98 #[.pointer (some ⟨B3 + 1, 0, none⟩)] (fun x : SiT => #[.int .i64 x.1.1, .agg #[.int .i64 x.1.2.1.1, .int .i64 x.1.2.1.2, .int .i64 x.1.2.2.1, .int .i64 x.1.2.2.2]]) (KpB w.heap.size (B3 + 1)) (fun ys => ys = S) (fun pre => pre <+: S) L.length W0 from sides_stops (fun x : SiT => x.1) 5 (by omega) (B3 + 1) (.slice a L.length cap) L S hS w W0 HV.out hl hlow hb0.size h3s)
 obtain ⟨N, hN⟩ : ∃ N, L.length = N := ⟨_, rfl⟩
 rw [hN] at ST h3s hl hSn ⊢
 have HSS := Lib.hid hS
 clear hW0 hB3 hN RG HV hlow hS
 refine wpIn_rangeFunc_ownH rfl (by omega) (gf := 98) (lb := #[.pointer (some ⟨B3 + 1, 0, none⟩)]) rfl trivial (enters_of Tryz.func98 (by kernel_rfl) rfl)
  ST.out KpB.trans
  (fun W l o o' hl _ _ _ => ⟨⟨fun k hk => World.putObj_heap_other (by have := hb0.size; omega), (grownBy_putObj' W l o').size⟩, World.putObj_heap_other (by omega)⟩) (Below.refl _ _) (fun _ => rfl)
  (fun pre W => W.heap[B3]? = some (.cells #[.int .i64 (sumS (pre.map fun x : SiT => x.1))] 3 (0, 0)) ∧ Below w.heap.size w W ∧ W0.heap.size ≤ W.heap.size ∧ W.heap[B3 + 1]? = W0.heap[B3 + 1]?)
  (fun _ _ _ => False)
  (fun s A B row hs hg hr => ⟨cells_kept rfl hg (fun r e => (hr r e).2) hs.1, hs.2.1.grown hg hs.2.1.size (fun k e => by have := (hr k e).1; have := hb0.size; omega), Nat.le_trans hs.2.2.1 hg.size, (hg.block (B3 + 1) (by omega) (fun e => by have := (hr _ e.symm).1; omega)).trans hs.2.2.2⟩)
  (fun _ _ _ _ _ hs _ _ => hs)
  ⟨by unfold sumS; exact h3n, hb0, Nat.le_refl _, rfl⟩
  (fun x a' W => ∃ Bx, W.heap[Bx]? = some (.cells #[.int .i64 x.1.2.1.1, .int .i64 x.1.2.1.2, .int .i64 x.1.2.2.1, .int .i64 x.1.2.2.2] 48 (0, 0)) ∧ W0.heap.size ≤ Bx ∧ a' = { tmps := #[.slice a N cap, undef, .int .i64 0, .pointer (some ⟨B3, 0, none⟩), undef, .pointer (some ⟨Bx, 0, none⟩), .slice a N cap, .bool true, .bool false, .slice a N cap, .func (.func 98) #[] #[.pointer (some ⟨B3 + 1, 0, none⟩)], .int .i64 x.1.1, .agg #[.int .i64 x.1.2.1.1, .int .i64 x.1.2.1.2, .int .i64 x.1.2.2.1, .int .i64 x.1.2.2.2], undef, undef, undef, undef, undef, undef, undef, undef, undef, undef, undef, undef, undef, undef, undef, undef, undef, undef], defers := [] })
  (fun x a' _ X Y row hs hg hr => by obtain ⟨Bx, h2, h3⟩ := hs; exact ⟨Bx, cells_kept rfl hg (fun r e => (hr r e).2) h2, h3⟩)
  ?assign ?body ?done ?stop
 case assign =>
  rintro l pre x W K ⟨hI1, hI2, hI3, hI4⟩ hK
  gi_wp2
  exact hK _ _ ((KeepsOthers.alloc _ _).from _) ⟨⟨fun k hk => Below.heap_alloc _ _ _ (by have := hb0.size; omega), by simp⟩, Below.heap_alloc _ _ _ (by omega)⟩ ⟨row_past hI1, hI2.alloc hI2.size _, by simp; omega, (Below.heap_alloc _ _ _ (by omega)).trans hI4⟩ ⟨W.heap.size, row_new _ _, hI3, rfl⟩
 case body =>
  rintro l pre x a' W hl2 ⟨r, hr⟩ ⟨hI1, hI2, hI3, hI4⟩ ⟨Bx, hX, hBx, rfl⟩ hlt
  have hbd := sum_bd (pre.map fun x : SiT => x.1) (fun y hy => by obtain ⟨z, _, rfl⟩ := List.mem_map.1 hy; exact z.2)
  rw [List.length_map] at hbd
  have har := area_bd x.2.1 x.2.2
  have hq1 := near_bd x.2.1
  have hq2 := near_bd x.2.2
  have HSN := Lib.hid (show sumS ((pre ++ [x]).map fun x : SiT => x.1) = sumS (pre.map fun x : SiT => x.1) + (x.1.2.1.1 + x.1.2.2.1) * (x.1.2.2.2 - x.1.2.1.2) by rw [List.map_append]; exact sumS_snoc _ _)
  obtain ⟨sm, hsm⟩ : ∃ z, sumS (pre.map fun x : SiT => x.1) = z := ⟨_, rfl⟩
  rw [hsm] at hI1 hbd HSN
  have har2 : -17592186044416 ≤ (x.1.2.1.1 + x.1.2.2.1) * (x.1.2.2.2 - x.1.2.1.2) ∧ (x.1.2.1.1 + x.1.2.2.1) * (x.1.2.2.2 - x.1.2.1.2) ≤ 17592186044416 := har
  have d1 : IntKind.i64.wrap (x.1.2.1.1 + x.1.2.2.1) = x.1.2.1.1 + x.1.2.2.1 := IntWalk.i64_in _ (by omega)
  have d2 : IntKind.i64.wrap (x.1.2.2.2 - x.1.2.1.2) = x.1.2.2.2 - x.1.2.1.2 := IntWalk.i64_in _ (by omega)
  have d3 : IntKind.i64.wrap ((x.1.2.1.1 + x.1.2.2.1) * (x.1.2.2.2 - x.1.2.1.2)) = (x.1.2.1.1 + x.1.2.2.1) * (x.1.2.2.2 - x.1.2.1.2) := IntWalk.i64_in _ (by omega)
  have d4 : IntKind.i64.wrap (sm + (x.1.2.1.1 + x.1.2.2.1) * (x.1.2.2.2 - x.1.2.1.2)) = sm + (x.1.2.1.1 + x.1.2.2.1) * (x.1.2.2.2 - x.1.2.1.2) := IntWalk.i64_in _ (by omega)
  have H1 := Lib.hid hI1
  have HXX := Lib.hid hX
  clear hI1 hX hbd har har2 hq1 hq2 hsm
  obtain ⟨cz, c0, c1, c2, c3⟩ := rk4 HXX.out
  obtain ⟨nz, n0⟩ := rk1 H1.out
  have nf0 := frozen_of_row W _ 0 _ _ H1.out
  gi_wp2
  have hset := row_set (i := 0) (v := .int .i64 (sm + (x.1.2.1.1 + x.1.2.2.1) * (x.1.2.2.2 - x.1.2.1.2))) H1.out
  refine ⟨(KeepsOthers.setCell _ _ _).from _, ⟨⟨fun k hk => Below.heap_setCell _ _ _ _ (by simp only; omega), by simp⟩, Below.heap_setCell _ _ _ _ (by simp only; omega)⟩, ?_, hI2.setCell (by simp only; omega) _, by simpa using hI3, (Below.heap_setCell _ _ _ _ (by simp only; omega)).trans hI4⟩
  rw [HSN.out]
  simpa using hset
 case done =>
  rintro D ys W hD rfl ⟨hI1, hI2, hI3, hI4⟩ hK
  have HCY := Lib.hid (show sumS (ys.map fun x : SiT => x.1) = cycS L by rw [HSS.out]; exact HSC.out)
  rw [HCY.out] at hI1
  have H1 := Lib.hid hI1
  clear hI1
  obtain ⟨nz, n0⟩ := rk1 H1.out
  gi_wp2
  refine ⟨by simp, .inl ⟨_, _, rfl, run_takeDeferred hK, ?_⟩⟩
  exact ⟨_, results_tmp rfl _ _ _, rfl, hI2.trans (belowK_b (w := w) (Nat.le_refl _) W D _ _ (by have := hb0.size; omega) hK rfl rfl)⟩
 case stop =>
  rintro D c pre W _ _ h _
  exact h.elim
end Go.Proofs.YtibpaaajghbkoaaGreat
