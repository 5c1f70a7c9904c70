/-      -/
import Derived.Test.YtibpaaajghbkoaaGreatUBs
import Derived.Test.YtibpaaajghbkoaaGreatUAn
import Derived.Test.YtibpaaajghbkoaaGreatUAk
import Derived.Test.YtibpaaajghbkoaaGreatUBf
import Derived.Test.YtibpaaajghbkoaaGreatUAw
import Derived.Test.YtibpaaajghbkoaaGreatUBj
import Derived.Test.YtibpaaajghbkoaaGreatUAj
namespace Go.Proofs.YtibpaaajghbkoaaGreat
open Go.RowKit Go.Sort
abbrev nodM (o : ObjD) : ObM := (o, .slice none 0 0, .slice none 0 0)
theorem node_cap (w : World) (o : ObjD) (hr : o.refs = []) (ht : o.tags = []) (hz : o.id.size ≤ 140737488355328) : ObCap w (nodM o) :=
 ⟨⟨by show StrRow w _ o.refs; rw [hr]; exact StrRow.nil w, by show TagRow w _ o.tags; rw [ht]; exact TagRow.nil w, hz⟩, fun a n c e => by injection e; omega⟩
theorem lit_cap {w : World} {g n : Nat} {cs : Array Value} {t : TypeId} (o : ObjD) (h : w.heap[g]? = some (.cells cs t (0, 0))) (hcs : cs = (o.refs.map Value.string).toArray) (hn : n = o.refs.length) (hm : n ≤ 140737488355328) (hz : ∀ s ∈ o.refs, s.size ≤ 140737488355328) (ht : o.tags = []) (hi : o.id.size ≤ 140737488355328) : ObCap w (o, .slice (some ⟨g, 0, none⟩) n n, .slice none 0 0) := by
 subst hn
 refine ⟨⟨⟨_, _, rfl, hm, hz, fun _ => ⟨g, 0, rfl, fun i s hs => ?_⟩⟩, by show TagRow w _ o.tags; rw [ht]; exact TagRow.nil w, hi⟩, fun a n c e => by injection e; omega⟩
 rw [cell_of_row w g (0 + i) _ _ _ h, hcs]
 simp [hs]
set_option maxRecDepth 100000 in
set_option maxHeartbeats 4000000 in
theorem sampleF_any (w : World) : Calls Tryz.prog 27 #[.bool false] w fun e w' => ∃ v', e = .returned (.agg #[v']) ∧ ObjC w' v' sm1 ∧ Below w.heap.size w w' := by
 obtain ⟨i0, hi, hi0, hi1, hi2⟩ := info_parts infoOb
 go_enter Tryz.func27, Tryz.ntmps27
 go_upto_region 4 with fail
 have B3 : Below w.heap.size w (((w.alloc (.cells #[.slice none 0 0] 24)).alloc (.cells #[.string ⟨#[97]⟩, .int .i64 1, .int .i64 0, .int .i64 10, .slice none 0 0, .slice none 0 0, .string ⟨#[98]⟩, .int .i64 1, .int .i64 4, .int .i64 11, .slice none 0 0, .slice none 0 0, .string ⟨#[99]⟩, .int .i64 1, .int .i64 8, .int .i64 10, .slice none 0 0, .slice none 0 0] 36)).alloc (.cells #[.slice (some ⟨w.heap.size + 1, 0, none⟩) 3 3] 24)) := (by repeat' (first | exact Below.refl _ _ | refine Below.drew ?_ | refine Below.drewN' ?_ | refine Below.setCell ?_ (by first | omega | (simp; done) | exact Below.size (by assumption) | (simp; omega)) _ | refine Below.alloc ?_ (by first | omega | (simp; done) | exact Below.size (by assumption) | (simp; omega)) _ | refine Below.trans ?_ (Below.mono (by assumption) ?_) | (first | omega | (simp; done) | exact Below.size (by assumption) | (simp; omega))))
 have HO := (owns_lit encOb_len (w.alloc (.cells #[.slice none 0 0] 24)) (base := w.heap.size) (e := 36) [nodM smA, nodM smB, nodM smC] (by simp) (by decide) (cs := #[.string ⟨#[97]⟩, .int .i64 1, .int .i64 0, .int .i64 10, .slice none 0 0, .slice none 0 0, .string ⟨#[98]⟩, .int .i64 1, .int .i64 4, .int .i64 11, .slice none 0 0, .slice none 0 0, .string ⟨#[99]⟩, .int .i64 1, .int .i64 8, .int .i64 10, .slice none 0 0, .slice none 0 0]) rfl 3 rfl).alloc (.cells #[.slice (some ⟨w.heap.size + 1, 0, none⟩) 3 3] 24)
 rw [World.size_alloc] at HO
 have H3 := row_new ((w.alloc (.cells #[.slice none 0 0] 24)).alloc (.cells #[.string ⟨#[97]⟩, .int .i64 1, .int .i64 0, .int .i64 10, .slice none 0 0, .slice none 0 0, .string ⟨#[98]⟩, .int .i64 1, .int .i64 4, .int .i64 11, .slice none 0 0, .slice none 0 0, .string ⟨#[99]⟩, .int .i64 1, .int .i64 8, .int .i64 10, .slice none 0 0, .slice none 0 0] 36)) (.cells #[.slice (some ⟨w.heap.size + 1, 0, none⟩) 3 3] 24)
 rw [World.size_alloc, World.size_alloc] at H3
 have H2 := row_past (o' := .cells #[.slice (some ⟨w.heap.size + 1, 0, none⟩) 3 3] 24) (row_past (o' := .cells #[.string ⟨#[97]⟩, .int .i64 1, .int .i64 0, .int .i64 10, .slice none 0 0, .slice none 0 0, .string ⟨#[98]⟩, .int .i64 1, .int .i64 4, .int .i64 11, .slice none 0 0, .slice none 0 0, .string ⟨#[99]⟩, .int .i64 1, .int .i64 8, .int .i64 10, .slice none 0 0, .slice none 0 0] 36) (row_new w (.cells #[.slice none 0 0] 24)))
 generalize hw3 : ((w.alloc (.cells #[.slice none 0 0] 24)).alloc (.cells #[.string ⟨#[97]⟩, .int .i64 1, .int .i64 0, .int .i64 10, .slice none 0 0, .slice none 0 0, .string ⟨#[98]⟩, .int .i64 1, .int .i64 4, .int .i64 11, .slice none 0 0, .slice none 0 0, .string ⟨#[99]⟩, .int .i64 1, .int .i64 8, .int .i64 10, .slice none 0 0, .slice none 0 0] 36)).alloc (.cells #[.slice (some ⟨w.heap.size + 1, 0, none⟩) 3 3] 24) = w3
 rw [hw3] at B3 HO H3 H2
 have hz3 : w3.heap.size = w.heap.size + 3 := by rw [← hw3]; simp
 clear hw3
 have H2 := Lib.hid H2
 have H3 := Lib.hid H3
 have HO := Lib.hid HO
 obtain ⟨mz, m0⟩ := rk1 H3.out
 have hone : ∀ v ∈ encOb ((smW, .slice (some ⟨w3.heap.size, 0, none⟩) 3 3, .slice none 0 0) : ObM), v.oneCell' = true := by
  intro v hv
  simp only [encOb, List.mem_cons, List.not_mem_nil, or_false] at hv
  rcases hv with rfl | rfl | rfl | rfl | rfl | rfl <;> rfl
 have HOA := Lib.hid ((HO.out.alloc (.cells #[.string ⟨#[97]⟩, .string ⟨#[98]⟩, .string ⟨#[99]⟩] 9)).alloc (.cells #[.string ⟨#[119]⟩, .int .i64 2, .int .i64 0, .int .i64 0, .slice (some ⟨w3.heap.size, 0, none⟩) 3 3, .slice none 0 0] 36))
 have HTX := Lib.hid (row_past (o' := .cells #[.string ⟨#[119]⟩, .int .i64 2, .int .i64 0, .int .i64 0, .slice (some ⟨w3.heap.size, 0, none⟩) 3 3, .slice none 0 0] 36) (row_new w3 (.cells #[.string ⟨#[97]⟩, .string ⟨#[98]⟩, .string ⟨#[99]⟩] 9)))
 have HOB := row_new (w3.alloc (.cells #[.string ⟨#[97]⟩, .string ⟨#[98]⟩, .string ⟨#[99]⟩] 9)) (.cells #[.string ⟨#[119]⟩, .int .i64 2, .int .i64 0, .int .i64 0, .slice (some ⟨w3.heap.size, 0, none⟩) 3 3, .slice none 0 0] 36)
 have H3A := Lib.hid (row_past (o' := .cells #[.string ⟨#[119]⟩, .int .i64 2, .int .i64 0, .int .i64 0, .slice (some ⟨w3.heap.size, 0, none⟩) 3 3, .slice none 0 0] 36) (row_past (o' := .cells #[.string ⟨#[97]⟩, .string ⟨#[98]⟩, .string ⟨#[99]⟩] 9) H3.out))
 have H2A := Lib.hid (row_past (o' := .cells #[.string ⟨#[119]⟩, .int .i64 2, .int .i64 0, .int .i64 0, .slice (some ⟨w3.heap.size, 0, none⟩) 3 3, .slice none 0 0] 36) (row_past (o' := .cells #[.string ⟨#[97]⟩, .string ⟨#[98]⟩, .string ⟨#[99]⟩] 9) H2.out))
 have B3A := Lib.hid ((B3.alloc (by omega) (.cells #[.string ⟨#[97]⟩, .string ⟨#[98]⟩, .string ⟨#[99]⟩] 9)).alloc (by simp; omega) (.cells #[.string ⟨#[119]⟩, .int .i64 2, .int .i64 0, .int .i64 0, .slice (some ⟨w3.heap.size, 0, none⟩) 3 3, .slice none 0 0] 36))
 have hz3' := hz3
 have HZ := Lib.hid hz3
 clear hz3 hz3' B3 HOB
 go_wp2_with (at_builtin; refine wpList_append_own _ rfl _ _ 22 rfl w.heap.size 36 i0 (.agg #[.string ⟨#[]⟩, .int .i64 0, .int .i64 0, .int .i64 0, .slice none 0 0, .slice none 0 0]) 6 88 Tryz.underlying22 hi hi0 hi1 hi2 rfl (by decide) _ _ _ rfl HOA.out ⟨w3.heap.size + 1, 0, none⟩ 1 1 (encOb ((smW, .slice (some ⟨w3.heap.size, 0, none⟩) 3 3, .slice none 0 0) : ObM)) rfl rfl (cells_new1 w3 _ _ _) hone (by unfold maxLen; omega) (by omega) (by simp [HZ.out]; omega) ?_; intro v' w9 hown9 hgrow9 _; obtain ⟨a9, n9, c9, hv9⟩ : ∃ a n c, v' = .slice a n c := ⟨_, _, _, own_parts hown9⟩; subst hv9; have HO9 := Lib.hid hown9; have HG9 := Lib.hid hgrow9; have H39 := Lib.hid (row_grown hgrow9 H3A.out (own_ne H3A.out HOA.out (by decide))); have H29 := Lib.hid (row_grown hgrow9 H2A.out (own_ne H2A.out HOA.out (by decide))); have HT9 := Lib.hid (row_grown hgrow9 HTX.out (own_ne HTX.out HOA.out (by decide))); clear hown9 hgrow9; have y0 := cell_of_row w9 _ 0 _ _ _ H39.out; have yf0 := frozen_of_row w9 _ 0 _ _ H39.out; have x0 := cell_of_row w9 _ 0 _ _ _ H29.out; have xf0 := frozen_of_row w9 _ 0 _ _ H29.out; simp only [List.getElem?_toArray, List.getElem?_cons_zero] at y0 x0)
 have hset := setCells_grown (g := w.heap.size + 1 + 1) [.slice a9 n9 c9] 0 w9
 have hset2 := setCells_grown (g := w.heap.size) [.slice a9 n9 c9] 0 (w9.setCells (w.heap.size + 1 + 1) 0 [.slice a9 n9 c9])
 have hr2 := row_set_other (v := .slice a9 n9 c9) (a := ⟨w.heap.size + 1 + 1, 0, none⟩) H29.out (by show w.heap.size ≠ w.heap.size + 1 + 1; omega)
 have hown2 := HO9.out.kept hset (Or.inr (fun c => own_ne H39.out HO9.out (by decide) c.symm))
 have hown3 := hown2.kept hset2 (Or.inr (fun c => own_ne hr2 hown2 (by decide) c.symm))
 have hr3 := row_set (i := 0) (v := .slice a9 n9 c9) hr2
 have hrt := row_set_other (v := .slice a9 n9 c9) (a := ⟨w.heap.size, 0, none⟩) (row_set_other (v := .slice a9 n9 c9) (a := ⟨w.heap.size + 1 + 1, 0, none⟩) HT9.out (by show w3.heap.size ≠ w.heap.size + 1 + 1; have := HZ.out; omega)) (by show w3.heap.size ≠ w.heap.size; have := HZ.out; omega)
 have B9 := (((B3A.out.grown HG9.out (by simp; have := HZ.out; omega) (fun j hj => (own_block HOA.out j hj).1)).setCell (p := ⟨w.heap.size + 1 + 1, 0, none⟩) (by show w.heap.size ≤ w.heap.size + 1 + 1; omega) (.slice a9 n9 c9))).setCell (p := ⟨w.heap.size, 0, none⟩) (by show w.heap.size ≤ w.heap.size; omega) (.slice a9 n9 c9)
 have hc0 := cell_of_row _ _ 0 _ _ _ hr3
 simp only [World.setCells] at hown3
 have hown4 : World.ownsRow _ _ _ _ _ ([nodM smA, nodM smB, nodM smC, ((smW, .slice (some ⟨w3.heap.size, 0, none⟩) 3 3, .slice none 0 0) : ObM)].length) (([nodM smA, nodM smB, nodM smC, ((smW, .slice (some ⟨w3.heap.size, 0, none⟩) 3 3, .slice none 0 0) : ObM)]).flatMap encOb) := hown3
 refine bodyPost_ret (v := .agg #[.slice a9 n9 c9]) ?_ rfl ⟨_, rfl, ⟨_, RowE.of_own encOb_len rfl hown4, rfl, ?_⟩, B9⟩
 ·simp [results, Tryz.results27, go_sem, hc0]
 ·intro x hx
  simp only [List.mem_cons, List.not_mem_nil, or_false] at hx
  rcases hx with rfl | rfl | rfl | rfl
  ·exact node_cap _ smA rfl rfl (by decide)
  ·exact node_cap _ smB rfl rfl (by decide)
  ·exact node_cap _ smC rfl rfl (by decide)
  ·exact lit_cap smW hrt rfl rfl (by decide) (by decide) rfl (by decide)
set_option maxRecDepth 100000 in
set_option maxHeartbeats 4000000 in
theorem sampleT_any (w : World) : Calls Tryz.prog 27 #[.bool true] w fun e w' => ∃ v', e = .returned (.agg #[v']) ∧ ObjC w' v' sm2 ∧ Below w.heap.size w w' := by
 obtain ⟨i0, hi, hi0, hi1, hi2⟩ := info_parts infoOb
 go_enter Tryz.func27, Tryz.ntmps27
 go_upto_region 3 with fail
 have B3 : Below w.heap.size w (((w.alloc (.cells #[.slice none 0 0] 24)).alloc (.cells #[.string ⟨#[97]⟩, .int .i64 1, .int .i64 0, .int .i64 10, .slice none 0 0, .slice none 0 0, .string ⟨#[98]⟩, .int .i64 1, .int .i64 4, .int .i64 11, .slice none 0 0, .slice none 0 0, .string ⟨#[99]⟩, .int .i64 1, .int .i64 8, .int .i64 10, .slice none 0 0, .slice none 0 0] 36)).alloc (.cells #[.slice (some ⟨w.heap.size + 1, 0, none⟩) 3 3] 24)) := (by repeat' (first | exact Below.refl _ _ | refine Below.drew ?_ | refine Below.drewN' ?_ | refine Below.setCell ?_ (by first | omega | (simp; done) | exact Below.size (by assumption) | (simp; omega)) _ | refine Below.alloc ?_ (by first | omega | (simp; done) | exact Below.size (by assumption) | (simp; omega)) _ | refine Below.trans ?_ (Below.mono (by assumption) ?_) | (first | omega | (simp; done) | exact Below.size (by assumption) | (simp; omega))))
 have HO := (owns_lit encOb_len (w.alloc (.cells #[.slice none 0 0] 24)) (base := w.heap.size) (e := 36) [nodM smA, nodM smB, nodM smC] (by simp) (by decide) (cs := #[.string ⟨#[97]⟩, .int .i64 1, .int .i64 0, .int .i64 10, .slice none 0 0, .slice none 0 0, .string ⟨#[98]⟩, .int .i64 1, .int .i64 4, .int .i64 11, .slice none 0 0, .slice none 0 0, .string ⟨#[99]⟩, .int .i64 1, .int .i64 8, .int .i64 10, .slice none 0 0, .slice none 0 0]) rfl 3 rfl).alloc (.cells #[.slice (some ⟨w.heap.size + 1, 0, none⟩) 3 3] 24)
 rw [World.size_alloc] at HO
 have H3 := row_new ((w.alloc (.cells #[.slice none 0 0] 24)).alloc (.cells #[.string ⟨#[97]⟩, .int .i64 1, .int .i64 0, .int .i64 10, .slice none 0 0, .slice none 0 0, .string ⟨#[98]⟩, .int .i64 1, .int .i64 4, .int .i64 11, .slice none 0 0, .slice none 0 0, .string ⟨#[99]⟩, .int .i64 1, .int .i64 8, .int .i64 10, .slice none 0 0, .slice none 0 0] 36)) (.cells #[.slice (some ⟨w.heap.size + 1, 0, none⟩) 3 3] 24)
 rw [World.size_alloc, World.size_alloc] at H3
 have H2 := row_past (o' := .cells #[.slice (some ⟨w.heap.size + 1, 0, none⟩) 3 3] 24) (row_past (o' := .cells #[.string ⟨#[97]⟩, .int .i64 1, .int .i64 0, .int .i64 10, .slice none 0 0, .slice none 0 0, .string ⟨#[98]⟩, .int .i64 1, .int .i64 4, .int .i64 11, .slice none 0 0, .slice none 0 0, .string ⟨#[99]⟩, .int .i64 1, .int .i64 8, .int .i64 10, .slice none 0 0, .slice none 0 0] 36) (row_new w (.cells #[.slice none 0 0] 24)))
 generalize hw3 : ((w.alloc (.cells #[.slice none 0 0] 24)).alloc (.cells #[.string ⟨#[97]⟩, .int .i64 1, .int .i64 0, .int .i64 10, .slice none 0 0, .slice none 0 0, .string ⟨#[98]⟩, .int .i64 1, .int .i64 4, .int .i64 11, .slice none 0 0, .slice none 0 0, .string ⟨#[99]⟩, .int .i64 1, .int .i64 8, .int .i64 10, .slice none 0 0, .slice none 0 0] 36)).alloc (.cells #[.slice (some ⟨w.heap.size + 1, 0, none⟩) 3 3] 24) = w3
 rw [hw3] at B3 HO H3 H2
 have hz3 : w3.heap.size = w.heap.size + 3 := by rw [← hw3]; simp
 clear hw3
 have H2 := Lib.hid H2
 have H3 := Lib.hid H3
 have HO := Lib.hid HO
 obtain ⟨mz, m0⟩ := rk1 H3.out
 have hone : ∀ v ∈ [nodM smD, nodM smE, ((smV, .slice (some ⟨w3.heap.size, 0, none⟩) 2 2, .slice none 0 0) : ObM)].flatMap encOb, v.oneCell' = true := by
  intro v hv
  simp only [List.flatMap_cons, List.flatMap_nil, encOb, List.cons_append, List.nil_append, List.append_nil, List.mem_cons, List.not_mem_nil, or_false] at hv
  rcases hv with rfl | rfl | rfl | rfl | rfl | rfl | rfl | rfl | rfl | rfl | rfl | rfl | rfl | rfl | rfl | rfl | rfl | rfl <;> rfl
 have HOA := Lib.hid ((HO.out.alloc (.cells #[.string ⟨#[100]⟩, .string ⟨#[101]⟩] 9)).alloc (.cells #[.string ⟨#[100]⟩, .int .i64 1, .int .i64 4, .int .i64 10, .slice none 0 0, .slice none 0 0, .string ⟨#[101]⟩, .int .i64 1, .int .i64 4, .int .i64 5, .slice none 0 0, .slice none 0 0, .string ⟨#[118]⟩, .int .i64 2, .int .i64 0, .int .i64 0, .slice (some ⟨w3.heap.size, 0, none⟩) 2 2, .slice none 0 0] 36))
 have HTX := Lib.hid (row_past (o' := .cells #[.string ⟨#[100]⟩, .int .i64 1, .int .i64 4, .int .i64 10, .slice none 0 0, .slice none 0 0, .string ⟨#[101]⟩, .int .i64 1, .int .i64 4, .int .i64 5, .slice none 0 0, .slice none 0 0, .string ⟨#[118]⟩, .int .i64 2, .int .i64 0, .int .i64 0, .slice (some ⟨w3.heap.size, 0, none⟩) 2 2, .slice none 0 0] 36) (row_new w3 (.cells #[.string ⟨#[100]⟩, .string ⟨#[101]⟩] 9)))
 have H3A := Lib.hid (row_past (o' := .cells #[.string ⟨#[100]⟩, .int .i64 1, .int .i64 4, .int .i64 10, .slice none 0 0, .slice none 0 0, .string ⟨#[101]⟩, .int .i64 1, .int .i64 4, .int .i64 5, .slice none 0 0, .slice none 0 0, .string ⟨#[118]⟩, .int .i64 2, .int .i64 0, .int .i64 0, .slice (some ⟨w3.heap.size, 0, none⟩) 2 2, .slice none 0 0] 36) (row_past (o' := .cells #[.string ⟨#[100]⟩, .string ⟨#[101]⟩] 9) H3.out))
 have H2A := Lib.hid (row_past (o' := .cells #[.string ⟨#[100]⟩, .int .i64 1, .int .i64 4, .int .i64 10, .slice none 0 0, .slice none 0 0, .string ⟨#[101]⟩, .int .i64 1, .int .i64 4, .int .i64 5, .slice none 0 0, .slice none 0 0, .string ⟨#[118]⟩, .int .i64 2, .int .i64 0, .int .i64 0, .slice (some ⟨w3.heap.size, 0, none⟩) 2 2, .slice none 0 0] 36) (row_past (o' := .cells #[.string ⟨#[100]⟩, .string ⟨#[101]⟩] 9) H2.out))
 have B3A := Lib.hid ((B3.alloc (by omega) (.cells #[.string ⟨#[100]⟩, .string ⟨#[101]⟩] 9)).alloc (by simp; omega) (.cells #[.string ⟨#[100]⟩, .int .i64 1, .int .i64 4, .int .i64 10, .slice none 0 0, .slice none 0 0, .string ⟨#[101]⟩, .int .i64 1, .int .i64 4, .int .i64 5, .slice none 0 0, .slice none 0 0, .string ⟨#[118]⟩, .int .i64 2, .int .i64 0, .int .i64 0, .slice (some ⟨w3.heap.size, 0, none⟩) 2 2, .slice none 0 0] 36))
 have HZ := Lib.hid hz3
 clear hz3 B3
 go_upto_region 4 with (at_builtin; refine wpList_append_own _ rfl _ _ 22 rfl w.heap.size 36 i0 (.agg #[.string ⟨#[]⟩, .int .i64 0, .int .i64 0, .int .i64 0, .slice none 0 0, .slice none 0 0]) 6 88 Tryz.underlying22 hi hi0 hi1 hi2 rfl (by decide) _ _ _ rfl HOA.out ⟨w3.heap.size + 1, 0, none⟩ 3 3 ([nodM smD, nodM smE, ((smV, .slice (some ⟨w3.heap.size, 0, none⟩) 2 2, .slice none 0 0) : ObM)].flatMap encOb) rfl rfl (cells_new1 w3 _ _ _) hone (by unfold maxLen; omega) (by omega) (by simp [HZ.out]; omega) ?_; intro v' w9 hown9 hgrow9 _; obtain ⟨a9, n9, c9, hv9⟩ : ∃ a n c, v' = .slice a n c := ⟨_, _, _, own_parts hown9⟩; subst hv9; have HO9 := Lib.hid hown9; have HG9 := Lib.hid hgrow9; have H39 := Lib.hid (row_grown hgrow9 H3A.out (own_ne H3A.out HOA.out (by decide))); have H29 := Lib.hid (row_grown hgrow9 H2A.out (own_ne H2A.out HOA.out (by decide))); have HT9 := Lib.hid (row_grown hgrow9 HTX.out (own_ne HTX.out HOA.out (by decide))); have HZ9 := Lib.hid (show w3.heap.size + 2 ≤ w9.heap.size by have hq := hgrow9.size; simp at hq; omega); clear hown9 hgrow9; have y0 := cell_of_row w9 _ 0 _ _ _ H39.out; have yf0 := frozen_of_row w9 _ 0 _ _ H39.out; simp only [List.getElem?_toArray, List.getElem?_cons_zero] at y0)
 have hset := setCells_grown (g := w.heap.size + 1 + 1) [.slice a9 n9 c9] 0 w9
 have HO6 := HO9.out.kept hset (Or.inr (fun c => own_ne H39.out HO9.out (by decide) c.symm))
 simp only [World.setCells] at HO6
 have H36 := row_set (i := 0) (v := .slice a9 n9 c9) H39.out
 simp only [List.setIfInBounds_toArray, List.set_cons_zero] at H36
 have H26 := row_set_other (v := .slice a9 n9 c9) (a := ⟨w.heap.size + 1 + 1, 0, none⟩) H29.out (by show w.heap.size ≠ w.heap.size + 1 + 1; omega)
 have HT6 := row_set_other (v := .slice a9 n9 c9) (a := ⟨w.heap.size + 1 + 1, 0, none⟩) HT9.out (by show w3.heap.size ≠ w.heap.size + 1 + 1; have := HZ.out; omega)
 have B6 := ((B3A.out.grown HG9.out (by simp; have := HZ.out; omega) (fun j hj => (own_block HOA.out j hj).1)).setCell (p := ⟨w.heap.size + 1 + 1, 0, none⟩) (by show w.heap.size ≤ w.heap.size + 1 + 1; omega) (.slice a9 n9 c9))
 have HZ6 := Lib.hid (show w.heap.size + 5 ≤ (w9.setCell ⟨w.heap.size + 1 + 1, 0, none⟩ (.slice a9 n9 c9)).heap.size by have h1 := HZ.out; have h2 := HZ9.out; simp [World.setCell]; omega)
 have HZT := Lib.hid (show w3.heap.size = w.heap.size + 3 from HZ.out)
 have hOL : World.ownsRow _ _ _ _ _ 6 (([nodM smA, nodM smB, nodM smC, nodM smD, nodM smE, ((smV, .slice (some ⟨w3.heap.size, 0, none⟩) 2 2, .slice none 0 0) : ObM)]).flatMap encOb) := HO6
 clear HO6 hset HO9 HG9 HT9 H29 H39 HOA HTX H3A H2A B3A H2 H3 HO HZ HZ9 hone yf0 y0
 generalize hw6 : w9.setCell ⟨w.heap.size + 1 + 1, 0, none⟩ (.slice a9 n9 c9) = w6
 rw [hw6] at H36 H26 HT6 B6 HZ6 hOL
 clear hw6
 have H36 := Lib.hid H36
 have H26 := Lib.hid H26
 have HT6 := Lib.hid HT6
 have HOL := Lib.hid hOL
 clear hOL
 obtain ⟨mz, m0⟩ := rk1 H36.out
 have hone : ∀ v ∈ encOb ((smW, .slice (some ⟨w6.heap.size, 0, none⟩) 3 3, .slice none 0 0) : ObM), v.oneCell' = true := by
  intro v hv
  simp only [encOb, List.mem_cons, List.not_mem_nil, or_false] at hv
  rcases hv with rfl | rfl | rfl | rfl | rfl | rfl <;> rfl
 have HOA := Lib.hid ((HOL.out.alloc (.cells #[.string ⟨#[97]⟩, .string ⟨#[98]⟩, .string ⟨#[99]⟩] 9)).alloc (.cells #[.string ⟨#[119]⟩, .int .i64 2, .int .i64 0, .int .i64 0, .slice (some ⟨w6.heap.size, 0, none⟩) 3 3, .slice none 0 0] 36))
 have HTX := Lib.hid (row_past (o' := .cells #[.string ⟨#[119]⟩, .int .i64 2, .int .i64 0, .int .i64 0, .slice (some ⟨w6.heap.size, 0, none⟩) 3 3, .slice none 0 0] 36) (row_new w6 (.cells #[.string ⟨#[97]⟩, .string ⟨#[98]⟩, .string ⟨#[99]⟩] 9)))
 have HTY := Lib.hid (row_past (o' := .cells #[.string ⟨#[119]⟩, .int .i64 2, .int .i64 0, .int .i64 0, .slice (some ⟨w6.heap.size, 0, none⟩) 3 3, .slice none 0 0] 36) (row_past (o' := .cells #[.string ⟨#[97]⟩, .string ⟨#[98]⟩, .string ⟨#[99]⟩] 9) HT6.out))
 have H3A := Lib.hid (row_past (o' := .cells #[.string ⟨#[119]⟩, .int .i64 2, .int .i64 0, .int .i64 0, .slice (some ⟨w6.heap.size, 0, none⟩) 3 3, .slice none 0 0] 36) (row_past (o' := .cells #[.string ⟨#[97]⟩, .string ⟨#[98]⟩, .string ⟨#[99]⟩] 9) H36.out))
 have H2A := Lib.hid (row_past (o' := .cells #[.string ⟨#[119]⟩, .int .i64 2, .int .i64 0, .int .i64 0, .slice (some ⟨w6.heap.size, 0, none⟩) 3 3, .slice none 0 0] 36) (row_past (o' := .cells #[.string ⟨#[97]⟩, .string ⟨#[98]⟩, .string ⟨#[99]⟩] 9) H26.out))
 have B3A := Lib.hid ((B6.alloc (by have := HZ6.out; omega) (.cells #[.string ⟨#[97]⟩, .string ⟨#[98]⟩, .string ⟨#[99]⟩] 9)).alloc (by simp; have := HZ6.out; omega) (.cells #[.string ⟨#[119]⟩, .int .i64 2, .int .i64 0, .int .i64 0, .slice (some ⟨w6.heap.size, 0, none⟩) 3 3, .slice none 0 0] 36))
 clear B6
 go_wp2_with (at_builtin; refine wpList_append_own _ rfl _ _ 22 rfl w.heap.size 36 i0 (.agg #[.string ⟨#[]⟩, .int .i64 0, .int .i64 0, .int .i64 0, .slice none 0 0, .slice none 0 0]) 6 88 Tryz.underlying22 hi hi0 hi1 hi2 rfl (by decide) _ _ _ rfl HOA.out ⟨w6.heap.size + 1, 0, none⟩ 1 1 (encOb ((smW, .slice (some ⟨w6.heap.size, 0, none⟩) 3 3, .slice none 0 0) : ObM)) rfl rfl (cells_new1 w6 _ _ _) hone (by unfold maxLen; omega) (by omega) (by have hq := HZ6.out; simp; omega) ?_; intro v' w9 hown9 hgrow9 _; obtain ⟨a9, n9, c9, hv9⟩ : ∃ a n c, v' = .slice a n c := ⟨_, _, _, own_parts hown9⟩; subst hv9; have HO9 := Lib.hid hown9; have HG9 := Lib.hid hgrow9; have H39 := Lib.hid (row_grown hgrow9 H3A.out (own_ne H3A.out HOA.out (by decide))); have H29 := Lib.hid (row_grown hgrow9 H2A.out (own_ne H2A.out HOA.out (by decide))); have HT9 := Lib.hid (row_grown hgrow9 HTX.out (own_ne HTX.out HOA.out (by decide))); have HU9 := Lib.hid (row_grown hgrow9 HTY.out (own_ne HTY.out HOA.out (by decide))); clear hown9 hgrow9; have y0 := cell_of_row w9 _ 0 _ _ _ H39.out; have yf0 := frozen_of_row w9 _ 0 _ _ H39.out; have x0 := cell_of_row w9 _ 0 _ _ _ H29.out; have xf0 := frozen_of_row w9 _ 0 _ _ H29.out; simp only [List.getElem?_toArray, List.getElem?_cons_zero] at y0 x0)
 have hset := setCells_grown (g := w.heap.size + 1 + 1) [.slice a9 n9 c9] 0 w9
 have hset2 := setCells_grown (g := w.heap.size) [.slice a9 n9 c9] 0 (w9.setCells (w.heap.size + 1 + 1) 0 [.slice a9 n9 c9])
 have hr2 := row_set_other (v := .slice a9 n9 c9) (a := ⟨w.heap.size + 1 + 1, 0, none⟩) H29.out (by show w.heap.size ≠ w.heap.size + 1 + 1; omega)
 have hown2 := HO9.out.kept hset (Or.inr (fun c => own_ne H39.out HO9.out (by decide) c.symm))
 have hown3 := hown2.kept hset2 (Or.inr (fun c => own_ne hr2 hown2 (by decide) c.symm))
 have hr3 := row_set (i := 0) (v := .slice a9 n9 c9) hr2
 have hrt := row_set_other (v := .slice a9 n9 c9) (a := ⟨w.heap.size, 0, none⟩) (row_set_other (v := .slice a9 n9 c9) (a := ⟨w.heap.size + 1 + 1, 0, none⟩) HT9.out (by show w6.heap.size ≠ w.heap.size + 1 + 1; have := HZ6.out; omega)) (by show w6.heap.size ≠ w.heap.size; have := HZ6.out; omega)
 have hru := row_set_other (v := .slice a9 n9 c9) (a := ⟨w.heap.size, 0, none⟩) (row_set_other (v := .slice a9 n9 c9) (a := ⟨w.heap.size + 1 + 1, 0, none⟩) HU9.out (by show w3.heap.size ≠ w.heap.size + 1 + 1; have := HZT.out; omega)) (by show w3.heap.size ≠ w.heap.size; have := HZT.out; omega)
 have B9 := (((B3A.out.grown HG9.out (by simp; have := HZ6.out; omega) (fun j hj => (own_block HOA.out j hj).1)).setCell (p := ⟨w.heap.size + 1 + 1, 0, none⟩) (by show w.heap.size ≤ w.heap.size + 1 + 1; omega) (.slice a9 n9 c9))).setCell (p := ⟨w.heap.size, 0, none⟩) (by show w.heap.size ≤ w.heap.size; omega) (.slice a9 n9 c9)
 have hc0 := cell_of_row _ _ 0 _ _ _ hr3
 simp only [World.setCells] at hown3
 have hown4 : World.ownsRow _ _ _ _ _ ([nodM smA, nodM smB, nodM smC, nodM smD, nodM smE, ((smV, .slice (some ⟨w3.heap.size, 0, none⟩) 2 2, .slice none 0 0) : ObM), ((smW, .slice (some ⟨w6.heap.size, 0, none⟩) 3 3, .slice none 0 0) : ObM)].length) (([nodM smA, nodM smB, nodM smC, nodM smD, nodM smE, ((smV, .slice (some ⟨w3.heap.size, 0, none⟩) 2 2, .slice none 0 0) : ObM), ((smW, .slice (some ⟨w6.heap.size, 0, none⟩) 3 3, .slice none 0 0) : ObM)]).flatMap encOb) := hown3
 refine bodyPost_ret (v := .agg #[.slice a9 n9 c9]) ?_ rfl ⟨_, rfl, ⟨_, RowE.of_own encOb_len rfl hown4, rfl, ?_⟩, B9⟩
 ·simp [results, Tryz.results27, go_sem, hc0]
 ·intro x hx
  simp only [List.mem_cons, List.not_mem_nil, or_false] at hx
  rcases hx with rfl | rfl | rfl | rfl | rfl | rfl | rfl
  ·exact node_cap _ smA rfl rfl (by decide)
  ·exact node_cap _ smB rfl rfl (by decide)
  ·exact node_cap _ smC rfl rfl (by decide)
  ·exact node_cap _ smD rfl rfl (by decide)
  ·exact node_cap _ smE rfl rfl (by decide)
  ·exact lit_cap smV hru rfl rfl (by decide) (by decide) rfl (by decide)
  ·exact lit_cap smW hrt rfl rfl (by decide) (by decide) rfl (by decide)
end Go.Proofs.YtibpaaajghbkoaaGreat

namespace Go.Proofs.YtibpaaajghbkoaaGreat
open Go.RowKit Go.Sort
theorem sm1_len : sm1.length ≤ 1000 := by decide
theorem sm2_len : sm2.length ≤ 1000 := by decide
theorem sm1_keys : (keysP sm1).length ≤ 20000 := of_decide_eq_true (by kernel_rfl)
theorem sm2_keys : (keysP sm2).length ≤ 20000 := of_decide_eq_true (by kernel_rfl)
set_option maxRecDepth 100000 in
set_option maxHeartbeats 4000000 in
theorem head_any (w : World) : Calls Tryz.prog 9 #[] w fun e w' => e = .returned (.bool true) ∧ Below w.heap.size w w' := by
 go_enter Tryz.func9, Tryz.ntmps9
 go_wp2_with fail
 refine (sampleF_any _).mono ?_
 rintro e w1 ⟨v1, rfl, ho1, hb1⟩
 go_wp2_with fail
 refine (simMap_any v1 sm1 8 w1 ho1 sm1_len sm1_keys).mono ?_
 rintro e w2 ⟨v2, rfl, ho2, hb2⟩
 rw [sm_8] at ho2
 have B2 := below_step hb1 (Nat.le_refl _) hb2
 clear hb1 hb2 ho1
 have hi2 := ho2.is (by decide)
 clear ho2
 obtain ⟨a2, c2, rfl, _, hc0⟩ := hi2
 obtain ⟨b, off, rfl, hc⟩ := hc0 (show 0 < 3 by decide)
 clear hc0
 obtain ⟨vr, vt, _, _, _, _, hr4, _, hrow, _, _⟩ := hc 2 smX rfl
 clear hc
 have e3 : [smA, smC, smX].length = 3 := rfl
 rw [e3]
 clear e3
 obtain ⟨ar, cr, rfl, _⟩ := (show StrRow w2 vr smX.refs from hrow)
 have e3 : smX.refs.length = 2 := rfl
 rw [e3] at hrow hr4
 clear e3
 have B3 := B2.alloc B2.size (.cells #[.slice (some ⟨b, off, none⟩) 3 c2] 24)
 have hr3 := hrow.later ((Below.refl _ w2).alloc (Nat.le_refl _) (.cells #[.slice (some ⟨b, off, none⟩) 3 c2] 24))
 have hq := cell_later ((Below.refl _ w2).alloc (Nat.le_refl _) (.cells #[.slice (some ⟨b, off, none⟩) 3 c2] 24)) (show w2.cell? ⟨b, off + 2 * 6 + 4, none⟩ = some (.slice ar 2 cr) from hr4)
 have H3 := row_new w2 (.cells #[.slice (some ⟨b, off, none⟩) 3 c2] 24)
 obtain ⟨g, hg⟩ : ∃ g, w2.heap.size = g := ⟨_, rfl⟩
 rw [hg] at H3
 clear hr4 hrow B2
 go_upto_region 2 with fail
 clear hg
 generalize hw3 : w2.alloc (.cells #[.slice (some ⟨b, off, none⟩) 3 c2] 24) = w3
 rw [hw3] at B3 hr3 H3 hq
 clear hw3
 have HB3 := Lib.hid B3
 have HROW := Lib.hid hr3
 have H3 := Lib.hid H3
 clear B3 hr3
 obtain ⟨mz, m0⟩ := rk1 H3.out
 go_upto_region 4 with fail
 go_wp2_with fail
 refine (rsameS_any _ _ smX.refs _ (HROW.out.later ((Below.refl _ w3).alloc (Nat.le_refl _) (.cells #[.string ⟨#[97]⟩, .string ⟨#[99]⟩] 9))) (StrRow.of_block (l := smX.refs) rfl (row_new _ _) (by decide) (by decide) _ rfl)).mono ?_
 rintro e w4 ⟨rfl, hb⟩
 have B4 := Lib.hid (below_step (HB3.out.alloc HB3.out.size (.cells #[.string ⟨#[97]⟩, .string ⟨#[99]⟩] 9)) (Nat.le_refl _) hb)
 clear hb H3 HROW HB3 m0 hq
 go_wp2_with fail
 refine (sampleF_any _).mono ?_
 rintro e w5a ⟨x1, rfl, hx1, hb1⟩
 go_wp2_with fail
 refine (simMap_any x1 sm1 7 w5a hx1 sm1_len sm1_keys).mono ?_
 rintro e w5b ⟨x2, rfl, hx2, hb2⟩
 rw [sm_7] at hx2
 go_wp2_with fail
 refine (sampleF_any _).mono ?_
 rintro e w5c ⟨x3, rfl, hx3, hb3⟩
 go_wp2_with fail
 refine (asame_any x2 x3 sm1 w5c ((hx2.later hb3).is (by decide)) (hx3.is (by decide))).mono ?_
 rintro e w5d ⟨rfl, hb4⟩
 have Bw5d := Lib.hid (below_step (below_step (below_step (below_step B4.out (Nat.le_refl _) hb1) (Nat.le_refl _) hb2) (Nat.le_refl _) hb3) (Nat.le_refl _) hb4)
 clear hb1 hb2 hb3 hb4 hx1 hx2 hx3
 go_wp2_with fail
 refine (sampleT_any _).mono ?_
 rintro e w6a ⟨x1, rfl, hx1, hb1⟩
 go_wp2_with fail
 refine (simMap_any x1 sm2 8 w6a hx1 sm2_len sm2_keys).mono ?_
 rintro e w6b ⟨x2, rfl, hx2, hb2⟩
 rw [sm_both] at hx2
 go_wp2_with fail
 refine (sampleT_any _).mono ?_
 rintro e w6c ⟨x3, rfl, hx3, hb3⟩
 go_wp2_with fail
 refine (asame_any x2 x3 sm2 w6c ((hx2.later hb3).is (by decide)) (hx3.is (by decide))).mono ?_
 rintro e w6d ⟨rfl, hb4⟩
 have Bw6d := Lib.hid (below_step (below_step (below_step (below_step Bw5d.out (Nat.le_refl _) hb1) (Nat.le_refl _) hb2) (Nat.le_refl _) hb3) (Nat.le_refl _) hb4)
 clear hb1 hb2 hb3 hb4 hx1 hx2 hx3
 go_wp2_with fail
 refine (tol_any 10 _).mono ?_
 rintro e w7 ⟨rfl, hw7⟩
 rw [hw7]
 clear hw7 w7
 have t1 : tolP 10 = 256 := by kernel_rfl
 rw [t1]
 clear t1
 go_wp2_with fail
 refine (tol_any 17 _).mono ?_
 rintro e w7 ⟨rfl, hw7⟩
 rw [hw7]
 clear hw7 w7
 have t1 : tolP 17 = 0 := by kernel_rfl
 rw [t1]
 clear t1
 go_wp2_with fail
 refine (sampleF_any _).mono ?_
 rintro e w8a ⟨x1, rfl, hx1, hb1⟩
 go_wp2_with fail
 refine (simMap_any x1 sm1 (-1) w8a hx1 sm1_len sm1_keys).mono ?_
 rintro e w8b ⟨x2, rfl, hx2, hb2⟩
 rw [sm_neg] at hx2
 go_wp2_with fail
 refine (sampleF_any _).mono ?_
 rintro e w8c ⟨x3, rfl, hx3, hb3⟩
 go_wp2_with fail
 refine (asame_any x2 x3 sm1 w8c ((hx2.later hb3).is (by decide)) (hx3.is (by decide))).mono ?_
 rintro e w8d ⟨rfl, hb4⟩
 have Bw8d := Lib.hid (below_step (below_step (below_step (below_step Bw6d.out (Nat.le_refl _) hb1) (Nat.le_refl _) hb2) (Nat.le_refl _) hb3) (Nat.le_refl _) hb4)
 clear hb1 hb2 hb3 hb4 hx1 hx2 hx3
 go_wp2_with fail
 go_ret
 exact ⟨rfl, Bw8d.out⟩
end Go.Proofs.YtibpaaajghbkoaaGreat

namespace Go.Proofs.YtibpaaajghbkoaaGreat
theorem drop_small {l : List ObjD} {n : ByteArray} {c k : Nat} (h : l.length ≤ c ∧ ∀ o ∈ l, o.refs.length ≤ k) : (dropP l n).length ≤ c ∧ ∀ o ∈ dropP l n, o.refs.length ≤ k := by
 refine ⟨?_, fun o ho => ?_⟩
 ·unfold dropP
  rw [List.length_map]
  exact Nat.le_trans (List.length_filter_le _ _) h.1
 ·obtain ⟨o', ho', rfl⟩ := List.mem_map.1 ho
  exact Nat.le_trans (List.length_filter_le _ _) (h.2 o' (List.mem_filter.1 ho').1)
theorem sim_small {l : List ObjD} {tol : Int} {c k : Nat} (h : l.length ≤ c ∧ ∀ o ∈ l, o.refs.length ≤ k) : (simP l tol).length ≤ c ∧ ∀ o ∈ simP l tol, o.refs.length ≤ k := by
 cases hf : fitP l with
 |false => rw [sim_not hf]; exact h
 |true =>
  by_cases ht : 0 ≤ tol
  ·rw [sim_all hf ht]
   exact (all_induct (P := fun l => l.length ≤ c ∧ ∀ o ∈ l, o.refs.length ≤ k) (fun l n _ _ hl => drop_small hl) _ l (Nat.le_refl _) hf h).2
  ·unfold simP; rw [if_neg (fun c => ht c.2)]; exact h
theorem keys_few {l : List ObjD} (h : l.length ≤ 25 ∧ ∀ o ∈ l, o.refs.length ≤ 40) : (keysP l).length ≤ 20000 := by
 have := keys_lenR 40 h.2
 have := h.1
 omega
end Go.Proofs.YtibpaaajghbkoaaGreat

namespace Go.Proofs.YtibpaaajghbkoaaGreat
open Go.RowKit Go.Maps Go.ChangeMaps Go.Sort
abbrev SlD := Option Addr × Nat × Nat
def encOw (x : SlD) : List Value := [.slice x.1 x.2.1 x.2.2]
theorem encOw_len (x : SlD) : (encOw x).length = 1 := rfl
theorem encOw_one (x : SlD) : ∀ v ∈ encOw x, v.oneCell' = true := by
 intro v hv
 simp only [encOw, List.mem_cons, List.not_mem_nil, or_false] at hv
 rcases hv with rfl; rfl
def TextsAt (w : World) (v : Value) (ls : List (List ByteArray)) : Prop :=
 ∃ L : List SlD, RowE encOw 1 w v L ∧ L.length = ls.length ∧ ∀ (i : Nat) (x : SlD) (ids : List ByteArray), L[i]? = some x → ls[i]? = some ids → StrRow w (.slice x.1 x.2.1 x.2.2) ids
theorem TextsAt.on {w w' : World} {v : Value} {ls : List (List ByteArray)} (h : TextsAt w v ls) (hb : Below w.heap.size w w') : TextsAt w' v ls := by
 obtain ⟨L, h1, h2, h3⟩ := h
 exact ⟨L, h1.later hb, h2, fun i x ids hx hi => (h3 i x ids hx hi).later hb⟩
theorem infoOw : (Tryz.prog.info? 31).map (fun i => (i.zero, i.size, i.bytes)) = some (some (.slice none 0 0), 1, 24) := by kernel_rfl
set_option maxRecDepth 100000 in
set_option maxHeartbeats 4000000 in
theorem segments_any (v : Value) (l : List ObjD) (w : World) (hv : ObjsIs w v l) (hok : mapOK l = true) :
  Calls Tryz.prog 22 #[.agg #[v]] w fun e w' => ∃ v1 v2, e = .returned (.tuple #[v1, v2]) ∧ RowE encSg 4 w' v1 ((keysP l).map (segB l)) ∧ TextsAt w' v2 ((keysP l).map (ownF l l)) ∧ Below w.heap.size w w' := by
 have OF := Lib.hid (fun W hb => of_any v l W (hv.later hb) hok)
 have LN := Lib.hid (fun W Bm hb hat => lines_any v l Bm W (hv.later hb) hok hat)
 have SG := Lib.hid (fun W Bm vL hb hat hl => segs_any v vL Bm l W (hv.later hb) hok hat hl)
 have hkl := keys_len hok
 have hll := (mapOK_sorted hok).1
 obtain ⟨N, hNK⟩ : ∃ N, (keysP l).length = N := ⟨_, rfl⟩
 rw [hNK] at hkl
 have hNb : N ≤ 2000000000 := by omega
 have HNK := Lib.hid hNK
 obtain ⟨a, cap, rfl, _⟩ := hv
 obtain ⟨i0, hi, hi0, hi1, hi2⟩ := info_parts infoOw
 clear hok hkl hll hNK
 go_enter Tryz.func22, Tryz.ntmps22
 go_wp2_with fail
 have B1 : Below w.heap.size w (w.alloc (.cells #[.slice a l.length cap] 24)) := (Below.refl _ _).alloc (Nat.le_refl _) _
 refine (OF.out _ B1).mono ?_
 rintro e w2 ⟨Bm, rfl, hBm, hat, hb⟩
 have B2 := below_step B1 (by simp) hb
 have HAT := Lib.hid hat
 clear hb B1 OF hat
 go_wp2_with fail
 have B3 : Below w2.heap.size w2 (w2.alloc (.cells #[.slice a l.length cap, .map (some Bm)] 78)) := (Below.refl _ _).alloc (Nat.le_refl _) _
 have HP := row_new w2 (.cells #[.slice a l.length cap, .map (some Bm)] 78)
 generalize hw3 : w2.alloc (.cells #[.slice a l.length cap, .map (some Bm)] 78) = w3
 rw [hw3] at B3 HP
 have hz3 : w3.heap.size = w2.heap.size + 1 := by rw [← hw3]; simp
 clear hw3
 have B13 := below_step B2 (Nat.le_refl _) (B3.mono (Nat.le_refl _))
 have hat3 := HAT.out.on B3
 refine (LN.out w3 Bm B13 hat3).mono ?_
 rintro e w4 ⟨vL, rfl, hln, hb⟩
 have B4 := below_step B13 (by have := B13.size; omega) hb
 have HP4 := Lib.hid (row_later hb HP)
 have HAT4 := Lib.hid (hat3.on hb)
 have HLN := Lib.hid hln
 obtain ⟨L, hL, hLk, hLo⟩ := hln
 obtain ⟨aL, capL, rfl, hc⟩ := hL
 have hLN : L.length = N := by rw [← HNK.out, ← hLk, List.length_map]
 rw [hLN] at hc HLN ⊢
 have HLL := Lib.hid hLN
 have HC := Lib.hid hc
 have HLK := Lib.hid hLk
 have HLO := Lib.hid hLo
 clear hb HP hat3 HAT B3 B13 LN hc hLk hLo hLN B2
 go_wp2_with fail
 go_loopw [7, 21] (fun v7 i wr => ∃ k : Nat, i = .int .i64 k ∧ k ≤ N ∧ wr.ownsRow w4.heap.size 31 1 v7 k (((L.take k).map (·.2)).flatMap encOw) ∧ Below w4.heap.size w4 wr) (fun _ i _ => N - (intOf i).toNat)
 case atStart => exact ⟨0, rfl, by omega, World.ownsRow_nil _ _ _ _, Below.refl _ _⟩
 case round =>
  obtain ⟨k, rfl, hk, hown, hbr⟩ := hrel
  have HOWN := Lib.hid hown
  have hzr := hbr.size
  have HBR := Lib.hid hbr
  clear hown
  by_cases hlt : k < N
  ·obtain ⟨x, hx⟩ : ∃ x, L[k]? = some x := ⟨L[k]'(by rw [HLL.out]; exact hlt), List.getElem?_eq_getElem _⟩
   obtain ⟨b, off, ha, hcell⟩ := HC.out (by omega)
   subst ha
   have d0' := cell_later hbr (hcell k x hx 0 _ rfl)
   have d0 : wr.cell? ⟨b, off + k * 3, none⟩ = some (.string x.1.1) := d0'
   have d1 := cell_later hbr (hcell k x hx 1 _ rfl)
   have d2 := cell_later hbr (hcell k x hx 2 _ rfl)
   have HT := Lib.hid (show (L.take (k + 1)).map (·.2) = (L.take k).map (·.2) ++ [x.2] by
    obtain ⟨hk', e⟩ := List.getElem?_eq_some_iff.1 hx
    rw [List.take_succ_eq_append_getElem hk', e]; simp)
   obtain ⟨⟨x1, x2⟩, xa, xn, xc⟩ := x
   simp only [] at d0 d1 d2 HT
   have bz := lt_of_cell d0
   clear hcell d0' hx hbr
   go_wp2_with (at_builtin; refine wpList_append_own _ rfl _ _ 44 rfl w4.heap.size 31 i0 (.slice none 0 0) 1 24 Tryz.underlying44 hi hi0 hi1 hi2 rfl (by decide) _ _ _ rfl ((HOWN.out.alloc _).alloc _) ⟨wr.heap.size + 1, 0, none⟩ 1 1 (encOw (xa, xn, xc)) rfl rfl (cells_new1 _ _ _ _) (encOw_one _) (by unfold maxLen; omega) (by omega) (by simp; omega) ?_; intro v' w6 hown6 hgrow6 _)
   have B6 := Lib.hid (((HBR.out.alloc hzr _).alloc (by simp; omega) _).grown hgrow6 (by simp; omega) (fun j hj => (own_block HOWN.out j hj).1))
   have O6 := Lib.hid (show w6.ownsRow w4.heap.size 31 1 v' (k + 1) (((L.take (k + 1)).map (·.2)).flatMap encOw) by
    rw [HT.out, List.flatMap_append]; simpa using hown6)
   clear hown6 hgrow6
   go_roundw
   case rel => exact ⟨k + 1, by go_num, by omega, O6.out, B6.out⟩
   case measure => simp [intOf]; omega
  ·obtain rfl : k = N := by omega
   have HF := Lib.hid (show L.take k = L from List.take_of_length_le (by rw [HLL.out]; exact Nat.le_refl _))
   have HOF := Lib.hid (show RowE encOw 1 wr u7 (L.map (·.2)) by
    have := HOWN.out
    rw [HF.out] at this
    exact RowE.of_own encOw_len (by rw [List.length_map, HLL.out]) this)
   have HPr := Lib.hid (row_later HBR.out HP4.out)
   have hw4 := B4.size
   have BR := below_step B4 (by omega) HBR.out
   have HATr := HAT4.out.on HBR.out
   have HLNr := HLN.out.on HBR.out
   clear hbr
   obtain ⟨pz, p0, p1⟩ := rk2 HPr.out
   go_wp2_with fail
   refine (SG.out wr Bm _ BR HATr HLNr).mono ?_
   rintro e w5 ⟨v', rfl, hr, hb5⟩
   have B5 := Lib.hid (below_step BR (by omega) hb5)
   have HR5 := Lib.hid hr
   have HT5 := Lib.hid (show TextsAt w5 u7 ((keysP l).map (ownF l l)) from ⟨L.map (·.2), HOF.out.later hb5, by rw [List.length_map, List.length_map, HLL.out, HNK.out], fun i x ids hx hids => by
    rw [List.getElem?_map] at hx hids
    cases hy : L[i]? with
    |none => rw [hy] at hx; cases hx
    |some y =>
     rw [hy] at hx
     injection hx with hx
     have hky : (keysP l)[i]? = some y.1 := by rw [← HLK.out, List.getElem?_map, hy]; rfl
     rw [hky] at hids
     injection hids with hids
     subst hx hids
     exact ((HLO.out y (List.mem_of_getElem? hy)).later HBR.out).later hb5⟩)
   clear hr hb5 HATr HLNr BR
   go_wp2
   go_ret2
   exact ⟨_, _, rfl, HR5.out, HT5.out, B5.out⟩
end Go.Proofs.YtibpaaajghbkoaaGreat

namespace Go.Proofs.YtibpaaajghbkoaaGreat
theorem find_gone {m : List ObjD} {D : List ByteArray} {r : ByteArray} (hd : r ∈ D) : findI r (dropsP m D) = -1 := by unfold findI; rw [pos_gone hd]
theorem find_left {m : List ObjD} {D : List ByteArray} (h : GoneM m D) {o : ObjD} (ho : o ∈ m) (hd : o.id ∉ D) : ∃ j : Nat, findI o.id (dropsP m D) = (j : Int) ∧ (dropsP m D)[j]? = some ⟨o.id, o.kind, o.x, o.y, o.refs.filter fun r => decide (r ∉ D), o.tags⟩ := by
 obtain ⟨j, hj, hx⟩ := pos_left h ho hd
 exact ⟨j, by unfold findI; rw [hj], hx⟩
end Go.Proofs.YtibpaaajghbkoaaGreat
