/- The law's head: the examples of the chapter. -/
import Derived.Test.YtapllmniplgajaaGreatDoorLawA
namespace Go.Proofs.YtapllmniplgajaaGreatDoor
open Go.RowKit Go.Sort

def bA : ByteArray := ⟨#[97]⟩
def bB : ByteArray := ⟨#[98]⟩
def bC : ByteArray := ⟨#[99]⟩
def bD : ByteArray := ⟨#[100]⟩
def box99 : BoxD := ⟨0, 0, 99, 99⟩
theorem hx1 : placeL box99 (isort (ltOf cfL) [⟨bA, 50, 50, 20, 10, 1⟩]) = [⟨bA, ⟨51, 45, 70, 54⟩⟩] := by decide
theorem hx2 : placeL box99 (isort (ltOf cfL) [⟨bA, 50, 50, 20, 10, 2⟩, ⟨bB, 45, 50, 20, 10, 1⟩]) = [⟨bB, ⟨46, 45, 65, 54⟩⟩] := by decide
theorem hx3 : placeL box99 (isort (ltOf cfL) [⟨bA, 95, 50, 20, 10, 1⟩]) = [⟨bA, ⟨75, 45, 94, 54⟩⟩] := by decide
def bLevel : ByteArray := ⟨#[108, 101, 118, 101, 108]⟩
def bName : ByteArray := ⟨#[110, 97, 109, 101]⟩
def headM : List ObjD := [⟨bA, 3, 0, 0, [bB, bC, bD], [⟨bLevel, ⟨#[51]⟩⟩, ⟨bName, ⟨#[69, 108, 109]⟩⟩]⟩, ⟨bB, 1, 0, 0, [], []⟩, ⟨bC, 1, 65536, 0, [], []⟩, ⟨bD, 1, 0, 65536, [], []⟩]
theorem hm3 : labelsL headM 3 [] = [⟨bA, 42, 42, 18, 12, 33⟩] := by kernel_rfl
theorem hm2 : labelsL headM 2 [] = [] := by kernel_rfl

theorem RowE.of_block {α : Type} {enc : α → List Value} {k : Nat} (hk : ∀ x, (enc x).length = k) {w : World} {g cap : Nat} {t : TypeId} {l : List α} {cs : Array Value} (hcs : cs = (l.flatMap enc).toArray) (h : w.heap[g]? = some (.cells cs t)) (n : Nat) (hn : n = l.length) : RowE enc k w (.slice (some ⟨g, 0, none⟩) n cap) l := by
  subst hn hcs
  refine ⟨some ⟨g, 0, none⟩, cap, rfl, fun _ => ⟨g, 0, rfl, fun j x hx i u hu => ?_⟩⟩
  have hi : i < k := by rw [← hk x]; exact (List.getElem?_eq_some_iff.1 hu).1
  have := cell_of_row w _ (j * k + i) _ _ _ h
  rw [Nat.zero_add, this, List.getElem?_toArray, flat_get enc k hk l j i x hx hi, hu]
theorem StrRow.of_block {w : World} {g cap : Nat} {t : TypeId} {l : List ByteArray} {cs : Array Value} (hcs : cs = (l.map Value.string).toArray) (h : w.heap[g]? = some (.cells cs t)) (hl : l.length ≤ 140737488355328) (hz : ∀ s ∈ l, s.size ≤ 140737488355328) (n : Nat) (hn : n = l.length) : StrRow w (.slice (some ⟨g, 0, none⟩) n cap) l := by
  subst hn hcs
  refine ⟨some ⟨g, 0, none⟩, cap, rfl, hl, hz, fun _ => ⟨g, 0, rfl, fun i s hs => ?_⟩⟩
  have := cell_of_row w _ i _ _ _ h
  rw [Nat.zero_add, this, List.getElem?_toArray, List.getElem?_map, hs]; rfl
theorem StrRow.nil (w : World) : StrRow w (.slice none 0 0) [] := ⟨none, 0, rfl, by simp, by simp, fun h => by simp at h⟩
theorem TagRow.nil (w : World) : TagRow w (.slice none 0 0) [] := ⟨none, 0, rfl, by simp, by simp, fun h => by simp at h⟩

theorem TagRow.of_block {w : World} {g cap : Nat} {t : TypeId} {l : List TagD} {cs : Array Value} (hcs : cs = (l.flatMap fun t => [Value.string t.key, Value.string t.val]).toArray) (h : w.heap[g]? = some (.cells cs t)) (hl : l.length ≤ 140737488355328) (hz : ∀ t ∈ l, t.key.size ≤ 140737488355328 ∧ t.val.size ≤ 140737488355328) (n : Nat) (hn : n = l.length) : TagRow w (.slice (some ⟨g, 0, none⟩) n cap) l := by
  subst hn hcs
  refine ⟨some ⟨g, 0, none⟩, cap, rfl, hl, hz, fun _ => ⟨g, 0, rfl, fun i s hs => ?_⟩⟩
  have c0 := cell_of_row w _ (i * 2) _ _ _ h
  have c1 := cell_of_row w _ (i * 2 + 1) _ _ _ h
  have f0 := flat_get (fun t : TagD => [Value.string t.key, Value.string t.val]) 2 (fun _ => rfl) l i 0 s hs (by omega)
  have f1 := flat_get (fun t : TagD => [Value.string t.key, Value.string t.val]) 2 (fun _ => rfl) l i 1 s hs (by omega)
  rw [Nat.zero_add]
  rw [List.getElem?_toArray] at c0 c1
  exact ⟨c0.trans f0, c1.trans f1⟩
def objC (vr vt : Value) (o : ObjD) : List Value := [.string o.id, .int .i64 o.kind, .int .i64 o.x, .int .i64 o.y, vr, vt]
theorem headM_objs {w : World} {Ob Rb Tb cr ct cap : Nat}
    (HO : w.heap[Ob]? = some (.cells #[.string bA, .int .i64 3, .int .i64 0, .int .i64 0, .slice (some ⟨Rb, 0, none⟩) 3 cr, .slice (some ⟨Tb, 0, none⟩) 2 ct, .string bB, .int .i64 1, .int .i64 0, .int .i64 0, .slice none 0 0, .slice none 0 0, .string bC, .int .i64 1, .int .i64 65536, .int .i64 0, .slice none 0 0, .slice none 0 0, .string bD, .int .i64 1, .int .i64 0, .int .i64 65536, .slice none 0 0, .slice none 0 0] 59))
    (HR : w.heap[Rb]? = some (.cells #[.string bB, .string bC, .string bD] 9))
    (HT : w.heap[Tb]? = some (.cells #[.string bLevel, .string ⟨#[51]⟩, .string bName, .string ⟨#[69, 108, 109]⟩] 69)) : ObjsIs w (.slice (some ⟨Ob, 0, none⟩) 4 cap) headM := by
  refine ⟨some ⟨Ob, 0, none⟩, cap, rfl, by decide, fun _ => ⟨Ob, 0, rfl, fun i o hi => ?_⟩⟩
  have hc : ∀ j, w.cell? ⟨Ob, 0 + i * 6 + j, none⟩ = _ := fun j => cell_of_row w _ (0 + i * 6 + j) _ _ _ HO
  match i, hi with
  | 0, hi =>
    obtain rfl := Option.some.inj hi
    exact ⟨_, _, hc 0, hc 1, hc 2, hc 3, hc 4, hc 5, StrRow.of_block (l := [bB, bC, bD]) rfl HR (by decide) (by decide) _ rfl, TagRow.of_block (l := [⟨bLevel, ⟨#[51]⟩⟩, ⟨bName, ⟨#[69, 108, 109]⟩⟩]) rfl HT (by decide) (by decide) _ rfl, by decide⟩
  | 1, hi =>
    obtain rfl := Option.some.inj hi
    exact ⟨_, _, hc 0, hc 1, hc 2, hc 3, hc 4, hc 5, StrRow.nil _, TagRow.nil _, by decide⟩
  | 2, hi =>
    obtain rfl := Option.some.inj hi
    exact ⟨_, _, hc 0, hc 1, hc 2, hc 3, hc 4, hc 5, StrRow.nil _, TagRow.nil _, by decide⟩
  | 3, hi =>
    obtain rfl := Option.some.inj hi
    exact ⟨_, _, hc 0, hc 1, hc 2, hc 3, hc 4, hc 5, StrRow.nil _, TagRow.nil _, by decide⟩
  | i + 4, hi => cases hi

set_option maxRecDepth 100000 in
set_option maxHeartbeats 4000000 in
theorem lhead_any (w : World) (he : Env w) : Calls Tryz.prog 10 #[] w fun e w' => e = .returned (.bool true) ∧ Below w.heap.size w w' := by
  have HE := Lib.hid (fun w' hb => he.later (w' := w') hb)
  clear he
  go_enter Tryz.func10, Tryz.ntmps10
  go_wp2_with fail
  refine (lbox_any 0 0 99 99 _).mono ?_
  rintro e w1 ⟨rfl, hb1⟩
  go_wp2_with fail
  have HB2 := row_new w1 (.cells #[.int .i64 0, .int .i64 0, .int .i64 99, .int .i64 99] 26)
  have Bw2 := hb1.alloc hb1.size (.cells #[.int .i64 0, .int .i64 0, .int .i64 99, .int .i64 99] 26)
  generalize hw2 : w1.alloc (.cells #[.int .i64 0, .int .i64 0, .int .i64 99, .int .i64 99] 26) = w2
  rw [hw2] at HB2 Bw2
  obtain ⟨Bb, hBb⟩ : ∃ Bb, w1.heap.size = Bb := ⟨_, rfl⟩
  rw [hBb] at HB2 ⊢
  clear hb1 hw2 hBb
  have HBh := Lib.hid HB2
  have HB := HB2
  clear HB2
  have bz := lt_of_block HB
  have b0 := cell_of_row w2 _ 0 _ _ _ HB
  have b1 := cell_of_row w2 _ 1 _ _ _ HB
  have b2 := cell_of_row w2 _ 2 _ _ _ HB
  have b3 := cell_of_row w2 _ 3 _ _ _ HB
  simp only [List.getElem?_toArray, List.getElem?_cons_zero, List.getElem?_cons_succ] at b0 b1 b2 b3
  have HB' := Lib.hid HB
  clear HB
  go_region_held3 (fun w' => w'.cell? ⟨Bb, 0, none⟩ = some (.int .i64 0) ∧ w'.cell? ⟨Bb, 1, none⟩ = some (.int .i64 0) ∧ w'.cell? ⟨Bb, 2, none⟩ = some (.int .i64 99) ∧ w'.cell? ⟨Bb, 3, none⟩ = some (.int .i64 99) ∧ Below w2.heap.size w2 w')
    (first
      | exact ⟨b0, b1, b2, b3, (Below.refl _ _).drew⟩
      | (have hq := ‹_ ∧ _ ∧ _ ∧ _ ∧ Below w2.heap.size w2 _›; exact ⟨cell_later hb hq.1, cell_later hb hq.2.1, cell_later hb hq.2.2.1, cell_later hb hq.2.2.2.1, below_step hq.2.2.2.2 (Nat.le_refl _) hb⟩)
      | (have hq := ‹_ ∧ _ ∧ _ ∧ _ ∧ Below w2.heap.size w2 _›; exact ⟨cell_upon hq.1, cell_upon hq.2.1, cell_upon hq.2.2.1, cell_upon hq.2.2.2.1, hq.2.2.2.2.alloc hq.2.2.2.2.size _⟩)
      | assumption)
    (first
      | (go_at_call 34; refine (lat_any _ _ _ _ _).mono ?_; rintro e w3 ⟨rfl, hb⟩)
      | (go_at_call 13; refine (place_any _ [⟨bA, 50, 50, 20, 10, 1⟩] box99 _ (by decide) (RowE.of_block encL_len rfl (row_new _ _) _ rfl)).mono ?_; rintro e w4 ⟨v4, rfl, hrow4, hb⟩))
  have HQw4 := (‹_ ∧ _ ∧ _ ∧ _ ∧ Below w2.heap.size w2 _›).2.2.2.2
  have HB := row_later HQw4 HBh.out
  have Bw4 := below_step Bw2 (Nat.le_refl _) HQw4
  rw [hx1] at hrow4
  have hrow4h := Lib.hid hrow4
  clear hrow4 hb b0 b1 b2 b3 bz HB' HBh
  have HBh := Lib.hid HB
  clear HQw4
  go_wp2_with fail
  have bz := lt_of_block HB
  have b0 := cell_of_row w4 _ 0 _ _ _ HB
  have b1 := cell_of_row w4 _ 1 _ _ _ HB
  have b2 := cell_of_row w4 _ 2 _ _ _ HB
  have b3 := cell_of_row w4 _ 3 _ _ _ HB
  simp only [List.getElem?_toArray, List.getElem?_cons_zero, List.getElem?_cons_succ] at b0 b1 b2 b3
  have HB' := Lib.hid HB
  clear HB
  go_region_held3 (fun w' => w'.cell? ⟨Bb, 0, none⟩ = some (.int .i64 0) ∧ w'.cell? ⟨Bb, 1, none⟩ = some (.int .i64 0) ∧ w'.cell? ⟨Bb, 2, none⟩ = some (.int .i64 99) ∧ w'.cell? ⟨Bb, 3, none⟩ = some (.int .i64 99) ∧ Below w4.heap.size w4 w')
    (first
      | exact ⟨b0, b1, b2, b3, (Below.refl _ _).drew⟩
      | (have hq := ‹_ ∧ _ ∧ _ ∧ _ ∧ Below w4.heap.size w4 _›; exact ⟨cell_later hb hq.1, cell_later hb hq.2.1, cell_later hb hq.2.2.1, cell_later hb hq.2.2.2.1, below_step hq.2.2.2.2 (Nat.le_refl _) hb⟩)
      | (have hq := ‹_ ∧ _ ∧ _ ∧ _ ∧ Below w4.heap.size w4 _›; exact ⟨cell_upon hq.1, cell_upon hq.2.1, cell_upon hq.2.2.1, cell_upon hq.2.2.2.1, hq.2.2.2.2.alloc hq.2.2.2.2.size _⟩)
      | assumption)
    (first
      | (go_at_call 34; refine (lat_any _ _ _ _ _).mono ?_; rintro e w3 ⟨rfl, hb⟩)
      | (go_at_call 13; refine (place_any _ [⟨bA, 50, 50, 20, 10, 2⟩, ⟨bB, 45, 50, 20, 10, 1⟩] box99 _ (by decide) (RowE.of_block encL_len rfl (row_new _ _) _ rfl)).mono ?_; rintro e w6 ⟨v6, rfl, hrow6, hb⟩))
  have HQw6 := (‹_ ∧ _ ∧ _ ∧ _ ∧ Below w4.heap.size w4 _›).2.2.2.2
  have HB := row_later HQw6 HBh.out
  have Bw6 := below_step Bw4 (Nat.le_refl _) HQw6
  rw [hx2] at hrow6
  have hrow6h := Lib.hid hrow6
  clear hrow6 hb b0 b1 b2 b3 bz HB' HBh
  have hrow4hx := Lib.hid (hrow4h.out.later HQw6)
  clear hrow4h
  have HBh := Lib.hid HB
  clear HQw6
  go_wp2_with fail
  have bz := lt_of_block HB
  have b0 := cell_of_row w6 _ 0 _ _ _ HB
  have b1 := cell_of_row w6 _ 1 _ _ _ HB
  have b2 := cell_of_row w6 _ 2 _ _ _ HB
  have b3 := cell_of_row w6 _ 3 _ _ _ HB
  simp only [List.getElem?_toArray, List.getElem?_cons_zero, List.getElem?_cons_succ] at b0 b1 b2 b3
  have HB' := Lib.hid HB
  clear HB
  go_region_held3 (fun w' => w'.cell? ⟨Bb, 0, none⟩ = some (.int .i64 0) ∧ w'.cell? ⟨Bb, 1, none⟩ = some (.int .i64 0) ∧ w'.cell? ⟨Bb, 2, none⟩ = some (.int .i64 99) ∧ w'.cell? ⟨Bb, 3, none⟩ = some (.int .i64 99) ∧ Below w6.heap.size w6 w')
    (first
      | exact ⟨b0, b1, b2, b3, (Below.refl _ _).drew⟩
      | (have hq := ‹_ ∧ _ ∧ _ ∧ _ ∧ Below w6.heap.size w6 _›; exact ⟨cell_later hb hq.1, cell_later hb hq.2.1, cell_later hb hq.2.2.1, cell_later hb hq.2.2.2.1, below_step hq.2.2.2.2 (Nat.le_refl _) hb⟩)
      | (have hq := ‹_ ∧ _ ∧ _ ∧ _ ∧ Below w6.heap.size w6 _›; exact ⟨cell_upon hq.1, cell_upon hq.2.1, cell_upon hq.2.2.1, cell_upon hq.2.2.2.1, hq.2.2.2.2.alloc hq.2.2.2.2.size _⟩)
      | assumption)
    (first
      | (go_at_call 34; refine (lat_any _ _ _ _ _).mono ?_; rintro e w3 ⟨rfl, hb⟩)
      | (go_at_call 13; refine (place_any _ [⟨bA, 95, 50, 20, 10, 1⟩] box99 _ (by decide) (RowE.of_block encL_len rfl (row_new _ _) _ rfl)).mono ?_; rintro e w8 ⟨v8, rfl, hrow8, hb⟩))
  have HQw8 := (‹_ ∧ _ ∧ _ ∧ _ ∧ Below w6.heap.size w6 _›).2.2.2.2
  have HB := row_later HQw8 HBh.out
  have Bw8 := below_step Bw6 (Nat.le_refl _) HQw8
  rw [hx3] at hrow8
  have hrow8h := Lib.hid hrow8
  clear hrow8 hb b0 b1 b2 b3 bz HB' HBh
  have hrow4hxx := Lib.hid (hrow4hx.out.later HQw8)
  clear hrow4hx
  have hrow6hx := Lib.hid (hrow6h.out.later HQw8)
  clear hrow6h
  have HBh := Lib.hid HB
  clear HQw8
  go_wp2_with fail
  clear HB HBh
  have HR := row_past (o' := .cells #[.string ⟨#[108, 101, 118, 101, 108]⟩, .string ⟨#[51]⟩, .string ⟨#[110, 97, 109, 101]⟩, .string ⟨#[69, 108, 109]⟩] 69) (row_new w8 (.cells #[.string ⟨#[98]⟩, .string ⟨#[99]⟩, .string ⟨#[100]⟩] 9))
  have HT := row_new1 w8 (.cells #[.string ⟨#[98]⟩, .string ⟨#[99]⟩, .string ⟨#[100]⟩] 9) (.cells #[.string ⟨#[108, 101, 118, 101, 108]⟩, .string ⟨#[51]⟩, .string ⟨#[110, 97, 109, 101]⟩, .string ⟨#[69, 108, 109]⟩] 69)
  have BB : Below w8.heap.size w8 ((w8.alloc (.cells #[.string ⟨#[98]⟩, .string ⟨#[99]⟩, .string ⟨#[100]⟩] 9)).alloc (.cells #[.string ⟨#[108, 101, 118, 101, 108]⟩, .string ⟨#[51]⟩, .string ⟨#[110, 97, 109, 101]⟩, .string ⟨#[69, 108, 109]⟩] 69)) := ((Below.refl _ _).alloc (Nat.le_refl _) _).alloc (by simp) _
  generalize hw9 : (w8.alloc (.cells #[.string ⟨#[98]⟩, .string ⟨#[99]⟩, .string ⟨#[100]⟩] 9)).alloc (.cells #[.string ⟨#[108, 101, 118, 101, 108]⟩, .string ⟨#[51]⟩, .string ⟨#[110, 97, 109, 101]⟩, .string ⟨#[69, 108, 109]⟩] 69) = w9
  rw [hw9] at HR HT BB
  obtain ⟨Rb, hRb⟩ : ∃ b, w8.heap.size = b := ⟨_, rfl⟩
  have Bw9 := Bw8.trans (BB.mono Bw8.size)
  rw [hRb] at HR HT
  have BB8 := BB
  clear hw9 BB Bw8
  refine (lnode_any _ _ _ _).mono ?_
  rintro e w10 ⟨rfl, hb10⟩
  go_wp2_with fail
  refine (lnode_any _ _ _ _).mono ?_
  rintro e w11 ⟨rfl, hb11⟩
  go_wp2_with fail
  refine (lnode_any _ _ _ _).mono ?_
  rintro e w12 ⟨rfl, hb12⟩
  have BC := below_step (below_step hb10 (Nat.le_refl _) hb11) (Nat.le_refl _) hb12
  have HR12 := row_later BC HR
  have HT12 := row_later BC HT
  have Bw12 := below_step Bw9 (Nat.le_refl _) BC
  have BB12 := below_step BB8 (Nat.le_refl _) BC
  clear hb10 hb11 hb12 BC BB8 HR HT Bw9 hRb hb
  go_wp2_with fail
  have HO13 := headM_objs (cap := 4) (row_past (o' := .cells #[.slice (some ⟨w12.heap.size, 0, none⟩) 4 4] 35) (row_new w12 (.cells #[.string ⟨#[97]⟩, .int .i64 3, .int .i64 0, .int .i64 0, .slice (some ⟨Rb, 0, none⟩) 3 3, .slice (some ⟨Rb + 1, 0, none⟩) 2 2, .string ⟨#[98]⟩, .int .i64 1, .int .i64 0, .int .i64 0, .slice none 0 0, .slice none 0 0, .string ⟨#[99]⟩, .int .i64 1, .int .i64 65536, .int .i64 0, .slice none 0 0, .slice none 0 0, .string ⟨#[100]⟩, .int .i64 1, .int .i64 0, .int .i64 65536, .slice none 0 0, .slice none 0 0] 59))) (row_past (row_past HR12)) (row_past (row_past HT12))
  have HM13 := row_new1 w12 (.cells #[.string ⟨#[97]⟩, .int .i64 3, .int .i64 0, .int .i64 0, .slice (some ⟨Rb, 0, none⟩) 3 3, .slice (some ⟨Rb + 1, 0, none⟩) 2 2, .string ⟨#[98]⟩, .int .i64 1, .int .i64 0, .int .i64 0, .slice none 0 0, .slice none 0 0, .string ⟨#[99]⟩, .int .i64 1, .int .i64 65536, .int .i64 0, .slice none 0 0, .slice none 0 0, .string ⟨#[100]⟩, .int .i64 1, .int .i64 0, .int .i64 65536, .slice none 0 0, .slice none 0 0] 59) (.cells #[.slice (some ⟨w12.heap.size, 0, none⟩) 4 4] 35)
  have B13 : Below w12.heap.size w12 ((w12.alloc (.cells #[.string ⟨#[97]⟩, .int .i64 3, .int .i64 0, .int .i64 0, .slice (some ⟨Rb, 0, none⟩) 3 3, .slice (some ⟨Rb + 1, 0, none⟩) 2 2, .string ⟨#[98]⟩, .int .i64 1, .int .i64 0, .int .i64 0, .slice none 0 0, .slice none 0 0, .string ⟨#[99]⟩, .int .i64 1, .int .i64 65536, .int .i64 0, .slice none 0 0, .slice none 0 0, .string ⟨#[100]⟩, .int .i64 1, .int .i64 0, .int .i64 65536, .slice none 0 0, .slice none 0 0] 59)).alloc (.cells #[.slice (some ⟨w12.heap.size, 0, none⟩) 4 4] 35)) := ((Below.refl _ _).alloc (Nat.le_refl _) _).alloc (by simp) _
  generalize hw13 : (w12.alloc (.cells #[.string ⟨#[97]⟩, .int .i64 3, .int .i64 0, .int .i64 0, .slice (some ⟨Rb, 0, none⟩) 3 3, .slice (some ⟨Rb + 1, 0, none⟩) 2 2, .string ⟨#[98]⟩, .int .i64 1, .int .i64 0, .int .i64 0, .slice none 0 0, .slice none 0 0, .string ⟨#[99]⟩, .int .i64 1, .int .i64 65536, .int .i64 0, .slice none 0 0, .slice none 0 0, .string ⟨#[100]⟩, .int .i64 1, .int .i64 0, .int .i64 65536, .slice none 0 0, .slice none 0 0] 59)).alloc (.cells #[.slice (some ⟨w12.heap.size, 0, none⟩) 4 4] 35) = w13
  rw [hw13] at HO13 HM13 B13
  obtain ⟨Ob, hOb⟩ : ∃ b, w12.heap.size = b := ⟨_, rfl⟩
  have Bw13 := below_step Bw12 (Nat.le_refl _) B13
  have BB13 := below_step BB12 (Nat.le_refl _) B13
  rw [hOb] at HO13 HM13 ⊢
  clear hw13 hOb HR12 HT12 B13 BB12 Bw12 Bw2 Bw4 Bw6
  refine (labels_any _ _ headM 3 [] _ HO13 (StrRow.nil _) (by decide) (by decide) (HE.out _ Bw13)).mono ?_
  rintro e w14 ⟨v14, rfl, hl14, hb14⟩
  rw [hm3] at hl14
  have HO14 := Lib.hid (HO13.later hb14)
  have HM14 := row_later hb14 HM13
  have Bw14 := below_step Bw13 (Nat.le_refl _) hb14
  have BB14 := below_step BB13 (Nat.le_refl _) hb14
  clear HO13 HM13 hb14 Bw13 BB13
  go_wp2_with fail
  have R4 := Lib.hid (hrow4hxx.out.later BB14)
  have R6 := Lib.hid (hrow6hx.out.later BB14)
  have R8 := Lib.hid (hrow8h.out.later BB14)
  clear hrow4hxx hrow6hx hrow8h BB14
  have HMh := Lib.hid HM14
  have HL := Lib.hid hl14
  clear HM14 hl14
  obtain ⟨a4, cap4, hv4, _⟩ := R4.out
  obtain ⟨a6, cap6, hv6, _⟩ := R6.out
  obtain ⟨a8, cap8, hv8, _⟩ := R8.out
  obtain ⟨a14, cap14, hv14, _⟩ := HL.out
  subst hv4 hv6 hv8 hv14
  refine (lbox_any _ _ _ _ _).mono ?_
  rintro e w15 ⟨rfl, hb15⟩
  go_wp2_with fail
  have B15 := hb15.alloc hb15.size (.cells #[.string ⟨#[97]⟩, .int .i64 51, .int .i64 45, .int .i64 70, .int .i64 54] 43)
  refine (same_any _ _ _ [⟨bA, ⟨51, 45, 70, 54⟩⟩] _ (R4.out.later B15) (RowE.of_block encP_len rfl (row_new _ _) _ rfl) (by decide)).mono ?_
  rintro e w16 ⟨rfl, hb16⟩
  rw [show decide ([(⟨bA, ⟨51, 45, 70, 54⟩⟩ : PlaD)] = [⟨bA, ⟨51, 45, 70, 54⟩⟩]) = true by decide]
  have B16 := below_step B15 (Nat.le_refl _) hb16
  clear hb15 B15 hb16
  go_wp2_with fail
  refine (lbox_any _ _ _ _ _).mono ?_
  rintro e w17 ⟨rfl, hb17⟩
  go_wp2_with fail
  have B17 := (below_step B16 (Nat.le_refl _) hb17).alloc (below_step B16 (Nat.le_refl _) hb17).size (.cells #[.string ⟨#[98]⟩, .int .i64 46, .int .i64 45, .int .i64 65, .int .i64 54] 43)
  refine (same_any _ _ _ [⟨bB, ⟨46, 45, 65, 54⟩⟩] _ (R6.out.later B17) (RowE.of_block encP_len rfl (row_new _ _) _ rfl) (by decide)).mono ?_
  rintro e w18 ⟨rfl, hb18⟩
  rw [show decide ([(⟨bB, ⟨46, 45, 65, 54⟩⟩ : PlaD)] = [⟨bB, ⟨46, 45, 65, 54⟩⟩]) = true by decide]
  have B18 := below_step B17 (Nat.le_refl _) hb18
  clear hb17 B17 hb18 B16
  go_wp2_with fail
  refine (lbox_any _ _ _ _ _).mono ?_
  rintro e w19 ⟨rfl, hb19⟩
  go_wp2_with fail
  have B19 := (below_step B18 (Nat.le_refl _) hb19).alloc (below_step B18 (Nat.le_refl _) hb19).size (.cells #[.string ⟨#[97]⟩, .int .i64 75, .int .i64 45, .int .i64 94, .int .i64 54] 43)
  refine (same_any _ _ _ [⟨bA, ⟨75, 45, 94, 54⟩⟩] _ (R8.out.later B19) (RowE.of_block encP_len rfl (row_new _ _) _ rfl) (by decide)).mono ?_
  rintro e w20 ⟨rfl, hb20⟩
  rw [show decide ([(⟨bA, ⟨75, 45, 94, 54⟩⟩ : PlaD)] = [⟨bA, ⟨75, 45, 94, 54⟩⟩]) = true by decide]
  have B20 := below_step B19 (Nat.le_refl _) hb20
  clear hb19 B19 hb20 B18
  have HM20 := row_later B20 HMh.out
  have Bw20 := below_step Bw14 (Nat.le_refl _) B20
  have mz := lt_of_block HM20
  have m0 := cell_of_row w20 _ 0 _ _ _ HM20
  simp only [List.getElem?_toArray, List.getElem?_cons_zero] at m0
  have HM20' := Lib.hid HM20
  clear HM20
  go_wp2_with fail
  refine (labels_any _ _ headM 2 [] _ (HO14.out.later B20) (StrRow.nil _) (by decide) (by decide) (HE.out _ Bw20)).mono ?_
  rintro e w21 ⟨v21, rfl, hl21, hb21⟩
  rw [hm2] at hl21
  obtain ⟨a21, cap21, rfl, _⟩ := hl21
  have B21 := below_step B20 (Nat.le_refl _) hb21
  have Bw21 := below_step Bw20 (Nat.le_refl _) hb21
  clear m0 mz HM20' hb21 B20 Bw20
  go_wp2_with fail
  have B22 := B21.alloc B21.size (.cells #[.string ⟨#[97]⟩, .int .i64 42, .int .i64 42, .int .i64 18, .int .i64 12, .int .i64 33] 47)
  have Bw22 := Bw21.alloc Bw21.size (.cells #[.string ⟨#[97]⟩, .int .i64 42, .int .i64 42, .int .i64 18, .int .i64 12, .int .i64 33] 47)
  refine (all_any _ _ _ [⟨bA, 42, 42, 18, 12, 33⟩] _ (HL.out.later B22) (RowE.of_block encL_len rfl (row_new _ _) _ rfl) (by decide)).mono ?_
  rintro e w23 ⟨rfl, hb23⟩
  rw [show decide ([(⟨bA, 42, 42, 18, 12, 33⟩ : LabD)] = [⟨bA, 42, 42, 18, 12, 33⟩]) = true by decide]
  have Bw23 := below_step Bw22 (Nat.le_refl _) hb23
  clear hb23 B22 B21 Bw22 Bw21
  go_wp2
  go_ret
  exact ⟨rfl, Bw23⟩
end Go.Proofs.YtapllmniplgajaaGreatDoor
