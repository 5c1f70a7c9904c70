/- The law's small functions, and the reference's comparing. -/
import Derived.Test.YtapllmniplgajaaGreatDoorLabW
import Derived.Test.YtapllmniplgajaaGreatDoorLabL
import Derived.Laws.StructEq
namespace Go.Proofs.YtapllmniplgajaaGreatDoor
open Go.RowKit Go.Sort

theorem lbox_any (a b c d : Int) (w : World) : Calls Tryz.prog 33 #[.int .i64 a, .int .i64 b, .int .i64 c, .int .i64 d] w fun e w' => e = .returned (.agg #[.int .i64 a, .int .i64 b, .int .i64 c, .int .i64 d]) ∧ Below w.heap.size w w' := by
  go_enter Tryz.func33, Tryz.ntmps33
  go_wp2
  refine bodyPost_ret (v := .agg #[.int .i64 a, .int .i64 b, .int .i64 c, .int .i64 d]) ?_ rfl ⟨rfl, ?_⟩
  · simp [results, Tryz.results33, go_sem]
  · repeat' (first | exact Below.refl _ _ | refine Below.drew ?_ | refine Below.drewN' ?_ | refine Below.setCell ?_ (by first | omega | (simp; done) | exact Below.size (by assumption) | (simp; omega)) _ | refine Below.alloc ?_ (by first | omega | (simp; done) | exact Below.size (by assumption) | (simp; omega)) _ | refine Below.trans ?_ (Below.mono (by assumption) ?_) | (first | omega | (simp; done) | exact Below.size (by assumption) | (simp; omega)))
theorem lat_any (id : ByteArray) (x y rank : Int) (w : World) : Calls Tryz.prog 34 #[.string id, .int .i64 x, .int .i64 y, .int .i64 rank] w fun e w' => e = .returned (.agg #[.string id, .int .i64 x, .int .i64 y, .int .i64 20, .int .i64 10, .int .i64 rank]) ∧ Below w.heap.size w w' := by
  go_enter Tryz.func34, Tryz.ntmps34
  go_wp2
  refine bodyPost_ret (v := .agg #[.string id, .int .i64 x, .int .i64 y, .int .i64 20, .int .i64 10, .int .i64 rank]) ?_ rfl ⟨rfl, ?_⟩
  · simp [results, Tryz.results34, go_sem]
  · repeat' (first | exact Below.refl _ _ | refine Below.drew ?_ | refine Below.drewN' ?_ | refine Below.setCell ?_ (by first | omega | (simp; done) | exact Below.size (by assumption) | (simp; omega)) _ | refine Below.alloc ?_ (by first | omega | (simp; done) | exact Below.size (by assumption) | (simp; omega)) _ | refine Below.trans ?_ (Below.mono (by assumption) ?_) | (first | omega | (simp; done) | exact Below.size (by assumption) | (simp; omega)))
theorem lnode_any (id : ByteArray) (x y : Int) (w : World) : Calls Tryz.prog 35 #[.string id, .int .i64 x, .int .i64 y] w fun e w' => e = .returned (.agg #[.string id, .int .i64 1, .int .i64 x, .int .i64 y, .slice none 0 0, .slice none 0 0]) ∧ Below w.heap.size w w' := by
  go_enter Tryz.func35, Tryz.ntmps35
  go_wp2
  refine bodyPost_ret (v := .agg #[.string id, .int .i64 1, .int .i64 x, .int .i64 y, .slice none 0 0, .slice none 0 0]) ?_ rfl ⟨rfl, ?_⟩
  · simp [results, Tryz.results35, go_sem]
  · repeat' (first | exact Below.refl _ _ | refine Below.drew ?_ | refine Below.drewN' ?_ | refine Below.setCell ?_ (by first | omega | (simp; done) | exact Below.size (by assumption) | (simp; omega)) _ | refine Below.alloc ?_ (by first | omega | (simp; done) | exact Below.size (by assumption) | (simp; omega)) _ | refine Below.trans ?_ (Below.mono (by assumption) ?_) | (first | omega | (simp; done) | exact Below.size (by assumption) | (simp; omega)))

theorem sf43 : Tryz.prog.stoodInHeld 43 = false := by kernel_rfl
theorem eg43 : Tryz.prog.eqGuardType Tryz.prog.depth 43 = false := by kernel_rfl
theorem fo43 : Tryz.prog.underlying 43 = some (.struct (Tryz.prog.fieldsOf 43)) := by kernel_rfl
theorem sf47 : Tryz.prog.stoodInHeld 47 = false := by kernel_rfl
theorem eg47 : Tryz.prog.eqGuardType Tryz.prog.depth 47 = false := by kernel_rfl
theorem fo47 : Tryz.prog.underlying 47 = some (.struct (Tryz.prog.fieldsOf 47)) := by kernel_rfl
theorem bytes_toList {a b : ByteArray} : a.toList = b.toList ↔ a = b := by
  rw [ByteArray.toList_eq, ByteArray.toList_eq]
  obtain ⟨⟨x⟩⟩ := a
  obtain ⟨⟨y⟩⟩ := b
  simp
theorem neq_placed (x y : PlaD) (w : World) : (binOp .neq 43 (.agg #[.string x.id, .int .i64 x.box.a, .int .i64 x.box.b, .int .i64 x.box.c, .int .i64 x.box.d]) (.agg #[.string y.id, .int .i64 y.box.a, .int .i64 y.box.b, .int .i64 y.box.c, .int .i64 y.box.d])).run Tryz.prog w = .ok (.bool (!decide (x = y))) w := by
  simp only [run_neq_struct]
  rw [show (10000 : Nat) = 9999 + 1 from rfl, run_equalIn_struct _ _ _ _ _ fo43 sf43]
  simp [Program.fieldsOf, Tryz.underlying43, Op.eqFields, go_sem]
  obtain ⟨i, ⟨a, b, c, d⟩⟩ := x
  obtain ⟨i', ⟨a', b', c', d'⟩⟩ := y
  simp only [PlaD.mk.injEq, BoxD.mk.injEq, bytes_toList]
  (repeat' split) <;> simp_all
theorem neq_label (x y : LabD) (w : World) : (binOp .neq 47 (.agg #[.string x.id, .int .i64 x.x, .int .i64 x.y, .int .i64 x.w, .int .i64 x.h, .int .i64 x.rank]) (.agg #[.string y.id, .int .i64 y.x, .int .i64 y.y, .int .i64 y.w, .int .i64 y.h, .int .i64 y.rank])).run Tryz.prog w = .ok (.bool (!decide (x = y))) w := by
  simp only [run_neq_struct]
  rw [show (10000 : Nat) = 9999 + 1 from rfl, run_equalIn_struct _ _ _ _ _ fo47 sf47]
  simp [Program.fieldsOf, Tryz.underlying47, Op.eqFields, go_sem]
  obtain ⟨i, a, b, c, d, e⟩ := x
  obtain ⟨i', a', b', c', d', e'⟩ := y
  simp only [LabD.mk.injEq, bytes_toList]
  (repeat' split) <;> simp_all

theorem take_step {α : Type} {l1 l2 : List α} {k : Nat} {x y : α} (h1 : l1[k]? = some x) (h2 : l2[k]? = some y) (h : l1.take k = l2.take k) : l1.take (k + 1) = l2.take (k + 1) ↔ x = y := by
  obtain ⟨hk, rfl⟩ := List.getElem?_eq_some_iff.1 h1
  obtain ⟨hk2, rfl⟩ := List.getElem?_eq_some_iff.1 h2
  rw [List.take_succ_eq_append_getElem hk, List.take_succ_eq_append_getElem hk2, h]
  constructor
  · intro e
    have := List.append_cancel_left e
    simpa using this
  · intro e; rw [e]

set_option maxRecDepth 100000 in
set_option maxHeartbeats 1000000 in
theorem same_any (v1 v2 : Value) (l1 l2 : List PlaD) (w : World) (hv : RowE encP 5 w v1 l1) (hv2 : RowE encP 5 w v2 l2) (hl : l1.length ≤ 4000) :
    Calls Tryz.prog 12 #[v1, v2] w fun e w' => e = .returned (.bool (decide (l1 = l2))) ∧ Below w.heap.size w w' := by
  obtain ⟨a, cap, rfl, hc⟩ := hv
  obtain ⟨a2, cap2, rfl, hc2⟩ := hv2
  by_cases hlen : l1.length = l2.length
  · generalize hN : l1.length = N at *
    have HN := Lib.hid hN
    have HN2 := Lib.hid hlen.symm
    have HC := Lib.hid hc
    have HC2 := Lib.hid hc2
    rw [← hlen] at hc2 ⊢
    clear hN hlen hc hc2
    go_enter Tryz.func12, Tryz.ntmps12
    go_wp2
    go_loopw [5] (fun i wr => ∃ k : Nat, k ≤ N ∧ i = .int .i64 k ∧ l1.take k = l2.take k ∧ Below w.heap.size w wr) (fun i _ => N - (intOf i).toNat)
    case atStart => exact ⟨0, by omega, rfl, rfl, Below.refl _ _⟩
    case round =>
      obtain ⟨k, hk, rfl, hT, hbr⟩ := hrel
      have HT := Lib.hid hT
      clear hT
      by_cases hlt : k < N
      · obtain ⟨x, hx⟩ : ∃ x, l1[k]? = some x := ⟨l1[k]'(by rw [HN.out]; exact hlt), List.getElem?_eq_getElem _⟩
        obtain ⟨y, hy⟩ : ∃ y, l2[k]? = some y := ⟨l2[k]'(by rw [HN2.out]; exact hlt), List.getElem?_eq_getElem _⟩
        obtain ⟨b, off, ha, hcell⟩ := HC.out (by omega)
        obtain ⟨b2, off2, ha2, hcell2⟩ := HC2.out (by rw [HN2.out]; omega)
        subst ha ha2
        have c0 : wr.cell? ⟨b, off + k * 5, none⟩ = some (.string x.id) := cell_later hbr (hcell k x hx 0 _ rfl)
        have c1 : wr.cell? ⟨b, off + k * 5 + 1, none⟩ = some (.int .i64 x.box.a) := cell_later hbr (hcell k x hx 1 _ rfl)
        have c2 : wr.cell? ⟨b, off + k * 5 + 2, none⟩ = some (.int .i64 x.box.b) := cell_later hbr (hcell k x hx 2 _ rfl)
        have c3 : wr.cell? ⟨b, off + k * 5 + 3, none⟩ = some (.int .i64 x.box.c) := cell_later hbr (hcell k x hx 3 _ rfl)
        have c4 : wr.cell? ⟨b, off + k * 5 + 4, none⟩ = some (.int .i64 x.box.d) := cell_later hbr (hcell k x hx 4 _ rfl)
        have d0 : wr.cell? ⟨b2, off2 + k * 5, none⟩ = some (.string y.id) := cell_later hbr (hcell2 k y hy 0 _ rfl)
        have d1 : wr.cell? ⟨b2, off2 + k * 5 + 1, none⟩ = some (.int .i64 y.box.a) := cell_later hbr (hcell2 k y hy 1 _ rfl)
        have d2 : wr.cell? ⟨b2, off2 + k * 5 + 2, none⟩ = some (.int .i64 y.box.b) := cell_later hbr (hcell2 k y hy 2 _ rfl)
        have d3 : wr.cell? ⟨b2, off2 + k * 5 + 3, none⟩ = some (.int .i64 y.box.c) := cell_later hbr (hcell2 k y hy 3 _ rfl)
        have d4 : wr.cell? ⟨b2, off2 + k * 5 + 4, none⟩ = some (.int .i64 y.box.d) := cell_later hbr (hcell2 k y hy 4 _ rfl)
        have HS := Lib.hid (take_step hx hy HT.out)
        have eqg := eg43
        have eqn := neq_placed x y
        have HX := Lib.hid hx
        have HY := Lib.hid hy
        clear hcell hcell2 hx hy
        by_cases hxy : x = y
        · have HG := Lib.hid (HS.out.2 hxy)
          have hd : decide (x = y) = true := decide_eq_true hxy
          rw [hd] at eqn
          clear hxy hd
          go_wp2_with fail
          go_region
          go_wp2
          go_roundw
          case rel => exact ⟨k + 1, by omega, by go_num, HG.out, hbr.drew⟩
          case measure => simp [intOf]; omega
        · have HR := Lib.hid (show decide (l1 = l2) = false by
            rw [decide_eq_false_iff_not]; intro e
            have h2 := HX.out; rw [e, HY.out] at h2
            exact hxy (Option.some.inj h2).symm)
          have hd : decide (x = y) = false := decide_eq_false hxy
          rw [hd] at eqn
          clear hxy hd
          go_wp2_with fail
          go_region
          go_wp2
          go_ret
          exact ⟨ret_bool HR.out.symm, hbr.drew⟩
      · obtain rfl : k = N := by omega
        have HR := Lib.hid (show decide (l1 = l2) = true by
          have := HT.out
          rw [List.take_of_length_le (by rw [HN.out]; exact Nat.le_refl _), List.take_of_length_le (by rw [HN2.out]; exact Nat.le_refl _)] at this
          rw [decide_eq_true_eq]; exact this)
        go_wp2
        go_ret
        exact ⟨ret_bool HR.out.symm, hbr⟩
  · have HR := Lib.hid (show decide (l1 = l2) = false by rw [decide_eq_false_iff_not]; intro h; exact hlen (by rw [h]))
    clear hc hc2
    go_enter Tryz.func12, Tryz.ntmps12
    go_wp2
    go_ret
    exact ⟨ret_bool HR.out.symm, Below.refl _ _⟩

set_option maxRecDepth 100000 in
set_option maxHeartbeats 1000000 in
theorem all_any (v1 v2 : Value) (l1 l2 : List LabD) (w : World) (hv : RowE encL 6 w v1 l1) (hv2 : RowE encL 6 w v2 l2) (hl : l1.length ≤ 4000) :
    Calls Tryz.prog 17 #[v1, v2] w fun e w' => e = .returned (.bool (decide (l1 = l2))) ∧ Below w.heap.size w w' := by
  obtain ⟨a, cap, rfl, hc⟩ := hv
  obtain ⟨a2, cap2, rfl, hc2⟩ := hv2
  by_cases hlen : l1.length = l2.length
  · generalize hN : l1.length = N at *
    have HN := Lib.hid hN
    have HN2 := Lib.hid hlen.symm
    have HC := Lib.hid hc
    have HC2 := Lib.hid hc2
    rw [← hlen] at hc2 ⊢
    clear hN hlen hc hc2
    go_enter Tryz.func17, Tryz.ntmps17
    go_wp2
    go_loopw [5] (fun i wr => ∃ k : Nat, k ≤ N ∧ i = .int .i64 k ∧ l1.take k = l2.take k ∧ Below w.heap.size w wr) (fun i _ => N - (intOf i).toNat)
    case atStart => exact ⟨0, by omega, rfl, rfl, Below.refl _ _⟩
    case round =>
      obtain ⟨k, hk, rfl, hT, hbr⟩ := hrel
      have HT := Lib.hid hT
      clear hT
      by_cases hlt : k < N
      · obtain ⟨x, hx⟩ : ∃ x, l1[k]? = some x := ⟨l1[k]'(by rw [HN.out]; exact hlt), List.getElem?_eq_getElem _⟩
        obtain ⟨y, hy⟩ : ∃ y, l2[k]? = some y := ⟨l2[k]'(by rw [HN2.out]; exact hlt), List.getElem?_eq_getElem _⟩
        obtain ⟨b, off, ha, hcell⟩ := HC.out (by omega)
        obtain ⟨b2, off2, ha2, hcell2⟩ := HC2.out (by rw [HN2.out]; omega)
        subst ha ha2
        have c0 : wr.cell? ⟨b, off + k * 6, none⟩ = some (.string x.id) := cell_later hbr (hcell k x hx 0 _ rfl)
        have c1 : wr.cell? ⟨b, off + k * 6 + 1, none⟩ = some (.int .i64 x.x) := cell_later hbr (hcell k x hx 1 _ rfl)
        have c2 : wr.cell? ⟨b, off + k * 6 + 2, none⟩ = some (.int .i64 x.y) := cell_later hbr (hcell k x hx 2 _ rfl)
        have c3 : wr.cell? ⟨b, off + k * 6 + 3, none⟩ = some (.int .i64 x.w) := cell_later hbr (hcell k x hx 3 _ rfl)
        have c4 : wr.cell? ⟨b, off + k * 6 + 4, none⟩ = some (.int .i64 x.h) := cell_later hbr (hcell k x hx 4 _ rfl)
        have c5 : wr.cell? ⟨b, off + k * 6 + 5, none⟩ = some (.int .i64 x.rank) := cell_later hbr (hcell k x hx 5 _ rfl)
        have d0 : wr.cell? ⟨b2, off2 + k * 6, none⟩ = some (.string y.id) := cell_later hbr (hcell2 k y hy 0 _ rfl)
        have d1 : wr.cell? ⟨b2, off2 + k * 6 + 1, none⟩ = some (.int .i64 y.x) := cell_later hbr (hcell2 k y hy 1 _ rfl)
        have d2 : wr.cell? ⟨b2, off2 + k * 6 + 2, none⟩ = some (.int .i64 y.y) := cell_later hbr (hcell2 k y hy 2 _ rfl)
        have d3 : wr.cell? ⟨b2, off2 + k * 6 + 3, none⟩ = some (.int .i64 y.w) := cell_later hbr (hcell2 k y hy 3 _ rfl)
        have d4 : wr.cell? ⟨b2, off2 + k * 6 + 4, none⟩ = some (.int .i64 y.h) := cell_later hbr (hcell2 k y hy 4 _ rfl)
        have d5 : wr.cell? ⟨b2, off2 + k * 6 + 5, none⟩ = some (.int .i64 y.rank) := cell_later hbr (hcell2 k y hy 5 _ rfl)
        have HS := Lib.hid (take_step hx hy HT.out)
        have eqg := eg47
        have eqn := neq_label x y
        have HX := Lib.hid hx
        have HY := Lib.hid hy
        clear hcell hcell2 hx hy
        by_cases hxy : x = y
        · have HG := Lib.hid (HS.out.2 hxy)
          have hd : decide (x = y) = true := decide_eq_true hxy
          rw [hd] at eqn
          clear hxy hd
          go_wp2_with fail
          go_region
          go_wp2
          go_roundw
          case rel => exact ⟨k + 1, by omega, by go_num, HG.out, hbr.drew⟩
          case measure => simp [intOf]; omega
        · have HR := Lib.hid (show decide (l1 = l2) = false by
            rw [decide_eq_false_iff_not]; intro e
            have h2 := HX.out; rw [e, HY.out] at h2
            exact hxy (Option.some.inj h2).symm)
          have hd : decide (x = y) = false := decide_eq_false hxy
          rw [hd] at eqn
          clear hxy hd
          go_wp2_with fail
          go_region
          go_wp2
          go_ret
          exact ⟨ret_bool HR.out.symm, hbr.drew⟩
      · obtain rfl : k = N := by omega
        have HR := Lib.hid (show decide (l1 = l2) = true by
          have := HT.out
          rw [List.take_of_length_le (by rw [HN.out]; exact Nat.le_refl _), List.take_of_length_le (by rw [HN2.out]; exact Nat.le_refl _)] at this
          rw [decide_eq_true_eq]; exact this)
        go_wp2
        go_ret
        exact ⟨ret_bool HR.out.symm, hbr⟩
  · have HR := Lib.hid (show decide (l1 = l2) = false by rw [decide_eq_false_iff_not]; intro h; exact hlen (by rw [h]))
    clear hc hc2
    go_enter Tryz.func17, Tryz.ntmps17
    go_wp2
    go_ret
    exact ⟨ret_bool HR.out.symm, Below.refl _ _⟩

/-- At most some labels, with Ids of at most 60 bytes. -/
def fewL (l : List LabD) (n : Nat) : Bool := decide (l.length ≤ n) && l.all fun x => decide (x.id.size ≤ 60)
def FewPost (l : List LabD) (n : Nat) (w : World) (e : Ending) (w' : World) : Prop := (∃ r, e = .returned (.bool r) ∧ (r = true → fewL l n = true) ∧ (l.length ≤ n → l.all (fun x => decide (x.id.size ≤ 60)) = true → r = true)) ∧ Below w.heap.size w w'
theorem fewL_take (l : List LabD) (k : Nat) (x : LabD) (hx : l[k]? = some x) (h : ∀ y ∈ l.take k, y.id.size ≤ 60) (hz : x.id.size ≤ 60) : ∀ y ∈ l.take (k + 1), y.id.size ≤ 60 := by
  obtain ⟨hk, rfl⟩ := List.getElem?_eq_some_iff.1 hx
  rw [List.take_succ_eq_append_getElem hk]
  intro y hy
  rcases List.mem_append.1 hy with hy | hy
  · exact h y hy
  · rw [List.mem_singleton.1 hy]; exact hz
set_option maxRecDepth 100000 in
set_option maxHeartbeats 1000000 in
theorem fewl_any (v : Value) (l : List LabD) (n : Nat) (hn : n ≤ 1000) (w : World) (hv : RowE encL 6 w v l) (hl : l.length ≤ 9223372036854775807) :
    Calls Tryz.prog 11 #[v, .int .i64 n] w (FewPost l n w) := by
  obtain ⟨a, cap, rfl, hc⟩ := hv
  generalize hN : l.length = N at *
  have HN := Lib.hid hN
  have HC := Lib.hid hc
  clear hN hc
  go_enter Tryz.func11, Tryz.ntmps11
  go_wp2
  go_loopw [5] (fun i wr => ∃ k : Nat, k ≤ N ∧ i = .int .i64 k ∧ (∀ y ∈ l.take k, y.id.size ≤ 60) ∧ Below w.heap.size w wr) (fun i _ => N - (intOf i).toNat)
  case atStart => exact ⟨0, by omega, rfl, by simp, Below.refl _ _⟩
  case round =>
    obtain ⟨k, hk, rfl, hT, hbr⟩ := hrel
    have HT := Lib.hid hT
    clear hT
    by_cases hlt : k < N
    · by_cases hkn : (k : Int) ≤ n
      · obtain ⟨x, hx⟩ : ∃ x, l[k]? = some x := ⟨l[k]'(by rw [HN.out]; exact hlt), List.getElem?_eq_getElem _⟩
        obtain ⟨b, off, ha, hcell⟩ := HC.out (by omega)
        subst ha
        have c0 : wr.cell? ⟨b, off + k * 6, none⟩ = some (.string x.id) := cell_later hbr (hcell k x hx 0 _ rfl)
        have HX := Lib.hid hx
        clear hcell hx
        by_cases hz : x.id.size ≤ 60
        · have HG := Lib.hid (fewL_take l k x HX.out HT.out hz)
          have hz2 : ¬ (60 : Int) < x.id.size := by omega
          go_wp2
          go_roundw
          case rel => exact ⟨k + 1, by omega, by go_num, HG.out, hbr⟩
          case measure => simp [intOf]; omega
        · have HR := Lib.hid (show l.all (fun x => decide (x.id.size ≤ 60)) = false by
            rw [List.all_eq_false]
            exact ⟨x, List.mem_of_getElem? HX.out, by simpa using hz⟩)
          have hz2 : (60 : Int) < x.id.size := by omega
          go_wp2
          go_ret
          exact ⟨⟨false, rfl, (fun h => by cases h), fun _ h => by rw [HR.out] at h; cases h⟩, hbr⟩
      · have hnn : ¬ N ≤ n := by omega
        have hnz : ¬ (N : Int) ≤ n := by omega
        go_wp2
        go_ret
        exact ⟨⟨false, ret_bool (by simp), (fun h => by cases h), fun h => absurd (by rw [← HN.out]; exact h) hnn⟩, hbr⟩
    · obtain rfl : k = N := by omega
      have HA := Lib.hid (show l.all (fun x => decide (x.id.size ≤ 60)) = true by
        have := HT.out
        rw [List.take_of_length_le (by rw [HN.out]; exact Nat.le_refl _)] at this
        simpa using this)
      by_cases hkn : k ≤ n
      · have hknz : (k : Int) ≤ n := by omega
        go_wp2
        go_ret
        exact ⟨⟨true, ret_bool (by simp), fun _ => by unfold fewL; rw [HN.out, HA.out, decide_eq_true hkn]; rfl, fun _ _ => rfl⟩, hbr⟩
      · have hknz : ¬ (k : Int) ≤ n := by omega
        go_wp2
        go_ret
        exact ⟨⟨false, ret_bool (by simp), (fun h => by cases h), fun h => absurd (by rw [← HN.out]; exact h) hkn⟩, hbr⟩
end Go.Proofs.YtapllmniplgajaaGreatDoor
