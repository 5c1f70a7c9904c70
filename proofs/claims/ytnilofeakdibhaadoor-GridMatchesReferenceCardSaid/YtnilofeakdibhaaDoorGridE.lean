/- Contracts of package grid: Text. -/
import Derived.Test.YtnilofeakdibhaaDoorGridC
import Derived.Test.YtnilofeakdibhaaDoorShelf
import Derived.Lib.ItoaLen
import Derived.ShutString
namespace Go.Proofs.YtnilofeakdibhaaDoor
open Go.RowKit

/-- What the library's variables hold, as the call reads them. -/
structure Env (w : World) : Prop where
  maxlen : ∃ m, w.cell? ⟨3, 0, none⟩ = some (.int .i64 m)
  pow10 : Lib.TabIs Tryd.prog w "internal/strconv.uint64pow10" .u64 Lib.pow10Tab
  synt : ∃ tp p, World.var? Tryd.prog w "strconv.ErrSyntax" = some #[.iface tp p]
  rng : ∃ tp p, World.var? Tryd.prog w "strconv.ErrRange" = some #[.iface tp p]

theorem var_lt {P : Program} {w : World} {n : String} {cs : Array Value} (h : World.var? P w n = some cs) : ∃ g, P.globalNamed n = some g ∧ g < w.heap.size := by
  unfold World.var? at h
  cases hg : P.globalNamed n with
  | none => simp [hg] at h
  | some g =>
    refine ⟨g, rfl, ?_⟩
    rcases Nat.lt_or_ge g w.heap.size with h' | h'
    · exact h'
    · simp [hg, Array.getElem?_eq_none h'] at h
theorem var_later {P : Program} {w w' : World} {n : String} {cs : Array Value} (hb : Below w.heap.size w w') (h : World.var? P w n = some cs) : World.var? P w' n = some cs := by
  obtain ⟨g, hg, hlt⟩ := var_lt h
  exact var?_below hb hg hlt h
theorem Env.later {w w' : World} (h : Env w) (hb : Below w.heap.size w w') : Env w' :=
  ⟨by obtain ⟨m, hm⟩ := h.maxlen; exact ⟨m, cell_later hb hm⟩, var_later hb h.pow10, by obtain ⟨t, p, e⟩ := h.synt; exact ⟨t, p, var_later hb e⟩, by obtain ⟨t, p, e⟩ := h.rng; exact ⟨t, p, var_later hb e⟩⟩

/-- The digits of a number as a Go string. -/
def itoaB (n : Int) : ByteArray := ⟨(Lib.itoa n).toArray⟩
def slashB : ByteArray := ⟨#[47]⟩
theorem slashB_size : slashB.size = 1 := rfl
theorem itoaB_size (n : Int) (h0 : -9223372036854775808 ≤ n) (h1 : n ≤ 9223372036854775807) : (itoaB n).size ≤ 21 := by
  simp only [itoaB, size_of_list]; exact Lib.itoa_length_le n h0 h1
def textB (z x y : Int) : ByteArray := itoaB z ++ slashB ++ itoaB x ++ slashB ++ itoaB y

theorem below_grow {w : World} {k : Nat} {os : Array Obj} : Below w.heap.size w (Sort.grow (w.drewN k) os) :=
  ⟨rfl, rfl, rfl, by simp [Sort.grow, World.drewN], fun j hj => by show (w.heap ++ os)[j]? = _; rw [Array.getElem?_append_left hj]⟩

theorem itoa_below (n : Int) (h0 : -9223372036854775808 ≤ n) (h1 : n ≤ 9223372036854775807) (w : World) (he : Env w) :
    Calls Tryd.prog 30 #[.int .i64 n] w fun e w' => e = .returned (.string (itoaB n)) ∧ Below w.heap.size w w' := by
  refine (Tryd.strconv_Itoa n h0 h1 w he.pow10).mono ?_
  rintro e w' ⟨he, k, os, rfl⟩
  exact ⟨he, below_grow⟩

set_option maxHeartbeats 400000 in
theorem text_arg (z x y : Int) (hv : validB z x y = false) (w : World) :
    Calls Tryd.prog 10 #[.agg #[.int .i64 z, .int .i64 x, .int .i64 y]] w fun e w' => e = .returned (.tuple #[.string ⟨#[]⟩, .int .i64 1]) ∧ Below w.heap.size w w' := by
  have LV := Lib.hid hv
  clear hv
  go_enter Tryd.func10, Tryd.ntmps10
  go_wp2_with fail
  refine (valid_below _ _ _ _).mono ?_; rintro e w1 ⟨rfl, hb1⟩; rw [LV.out]
  go_wp2
  go_ret2
  refine ⟨rfl, ?_⟩
  repeat' (first | exact Below.refl _ _ | refine Below.drew ?_ | refine Below.drewN' ?_ | refine Below.setCell ?_ (by first | omega | (simp; done) | exact Below.size (by assumption) | (simp; omega)) _ | refine Below.alloc ?_ (by first | omega | (simp; done) | exact Below.size (by assumption) | (simp; omega)) _ | refine Below.trans ?_ (Below.mono (by assumption) ?_) | (first | omega | (simp; done) | exact Below.size (by assumption) | (simp; omega)))

set_option maxHeartbeats 1000000 in
theorem text_ok (z x y : Int) (hv : validB z x y = true) (w : World) (he : Env w) :
    Calls Tryd.prog 10 #[.agg #[.int .i64 z, .int .i64 x, .int .i64 y]] w fun e w' => e = .returned (.tuple #[.string (textB z x y), .int .i64 0]) ∧ Below w.heap.size w w' := by
  have LV := Lib.hid hv
  have hbd : 0 ≤ z ∧ z ≤ 17 ∧ 0 ≤ x ∧ x < 131072 ∧ 0 ≤ y ∧ y < 131072 := by
    simp only [validB, decide_eq_true_eq] at hv
    have := pow_bd z.toNat (by omega)
    omega
  clear hv
  obtain ⟨hz0, hz1, hx0, hx1, hy0, hy1⟩ := hbd
  have HE := Lib.hid he
  clear he
  have s1 := itoaB_size z (by omega) (by omega)
  have s2 := itoaB_size x (by omega) (by omega)
  have s3 := itoaB_size y (by omega) (by omega)
  have e1 : ∀ w, (Op.stringOp .add (itoaB z) ⟨#[47]⟩).run Tryd.prog w = .ok (.string (itoaB z ++ slashB)) w := fun w => run_string_add_sum w _ _ (by show (itoaB z).size + 1 ≤ _; omega)
  have e2 : ∀ w, (Op.stringOp .add (itoaB z ++ slashB) (itoaB x)).run Tryd.prog w = .ok (.string (itoaB z ++ slashB ++ itoaB x)) w := fun w => run_string_add_sum w _ _ (by simp only [ByteArray.size_append, slashB_size]; omega)
  have e3 : ∀ w, (Op.stringOp .add (itoaB z ++ slashB ++ itoaB x) ⟨#[47]⟩).run Tryd.prog w = .ok (.string (itoaB z ++ slashB ++ itoaB x ++ slashB)) w := fun w => run_string_add_sum w _ _ (by simp only [ByteArray.size_append, slashB_size]; show _ + 1 ≤ _; omega)
  have e4 : ∀ w, (Op.stringOp .add (itoaB z ++ slashB ++ itoaB x ++ slashB) (itoaB y)).run Tryd.prog w = .ok (.string (textB z x y)) w := fun w => run_string_add_sum w _ _ (by simp only [ByteArray.size_append, slashB_size]; omega)
  go_enter Tryd.func10, Tryd.ntmps10
  go_wp2_with fail
  refine (valid_below _ _ _ _).mono ?_; rintro e w1 ⟨rfl, hb1⟩; rw [LV.out]
  have HE1 := Lib.hid (HE.out.later (show Below w.heap.size w w1 from ((Below.refl _ _).alloc (Nat.le_refl _) _).trans (hb1.mono (by simp))))
  have HA := row_later hb1 (row_new w _)
  have hs1 := hb1.size; simp at hs1
  have az := lt_of_block HA
  have a0 := cell_of_row w1 _ 0 _ _ _ HA
  have a1 := cell_of_row w1 _ 1 _ _ _ HA
  have a2 := cell_of_row w1 _ 2 _ _ _ HA
  simp only [List.getElem?_toArray, List.getElem?_cons_zero, List.getElem?_cons_succ] at a0 a1 a2
  have HA' := Lib.hid HA
  clear HA
  go_wp2_with fail
  go_region_held3 (fun w' => w'.cell? ⟨w.heap.size, 0, none⟩ = some (.int .i64 z) ∧ w'.cell? ⟨w.heap.size, 1, none⟩ = some (.int .i64 x) ∧ w'.cell? ⟨w.heap.size, 2, none⟩ = some (.int .i64 y) ∧ Below w1.heap.size w1 w')
    (first | exact ⟨a0, a1, a2, (Below.refl _ _).drew⟩ | assumption | (have hq := ‹_ ∧ _ ∧ _ ∧ Below w1.heap.size w1 _›; exact ⟨cell_later hb2 hq.1, cell_later hb2 hq.2.1, cell_later hb2 hq.2.2.1, below_step hq.2.2.2 (Nat.le_refl _) hb2⟩))
    (first
      | (go_at_call 30; refine (itoa_below _ (by omega) (by omega) _ (HE1.out.later (And.right (And.right (And.right ‹_ ∧ _ ∧ _ ∧ Below w1.heap.size w1 _›))))).mono ?_; rintro e w2 ⟨rfl, hb2⟩))
  obtain ⟨-, -, -, hb3⟩ := ‹_ ∧ _ ∧ _ ∧ Below w1.heap.size w1 _›
  go_wp2
  go_ret2
  refine ⟨rfl, ?_⟩
  have hs3 := hb3.size
  repeat' (first | exact Below.refl _ _ | refine Below.drew ?_ | refine Below.drewN' ?_ | refine Below.setCell ?_ (by first | omega | (simp; done) | exact Below.size (by assumption) | (simp; omega)) _ | refine Below.alloc ?_ (by first | omega | (simp; done) | exact Below.size (by assumption) | (simp; omega)) _ | refine Below.trans ?_ (Below.mono (by assumption) ?_) | (first | omega | (simp; done) | exact Below.size (by assumption) | (simp; omega)))
end Go.Proofs.YtnilofeakdibhaaDoor
