/- What the library's variables hold; numbers and their texts; tag.Get and label.level. -/
import Derived.Test.YtapllmniplgajaaGreatDoorObjT
import Derived.Test.YtapllmniplgajaaGreatDoorShelf
import Derived.Lib.ItoaLen
import Derived.ShutString
import Derived.Lib.AtoiAll
import Derived.LaidSub
import Derived.LaidMore
namespace Go.Proofs.YtapllmniplgajaaGreatDoor
open Go.RowKit Go.Shelf

/-- What the library's variables hold, as the call reads them. -/
structure Env (w : World) : Prop where
  pow10 : Lib.TabIs Tryz.prog w "internal/strconv.uint64pow10" .u64 Lib.pow10Tab
  synt : ∃ tp p, World.var? Tryz.prog w "strconv.ErrSyntax" = some #[.iface tp p]
  rng : ∃ tp p, World.var? Tryz.prog w "strconv.ErrRange" = some #[.iface tp p]

theorem var_lt {P : Program} {w : World} {n : String} {cs : Array Value} (h : World.var? P w n = some cs) : ∃ g, P.globalNamed n = some g ∧ g < w.heap.size := by
  unfold World.var? at h
  cases hg : P.globalNamed n with
  | none => simp [hg] at h
  | some g =>
    refine ⟨g, rfl, ?_⟩
    rcases Nat.lt_or_ge g w.heap.size with h' | h'
    · exact h'
    · simp [hg, Array.getElem?_eq_none h'] at h
theorem var_later {P : Program} {w w' : World} {n : String} {cs : Array Value} (hb : Below w.heap.size w w') (h : World.var? P w n = some cs) : World.var? P w' n = some cs := by
  obtain ⟨g, hg, hlt⟩ := var_lt h
  exact var?_below hb hg hlt h
theorem Env.later {w w' : World} (h : Env w) (hb : Below w.heap.size w w') : Env w' :=
  ⟨var_later hb h.pow10, by obtain ⟨t, p, e⟩ := h.synt; exact ⟨t, p, var_later hb e⟩, by obtain ⟨t, p, e⟩ := h.rng; exact ⟨t, p, var_later hb e⟩⟩

/-- The digits of a number as a Go string. -/
def itoaB (n : Int) : ByteArray := ⟨(Lib.itoa n).toArray⟩
theorem itoaB_size (n : Int) (h0 : -9223372036854775808 ≤ n) (h1 : n ≤ 9223372036854775807) : (itoaB n).size ≤ 21 := by
  simp only [itoaB, size_of_list]; exact Lib.itoa_length_le n h0 h1
theorem below_grow {w : World} {k : Nat} {os : Array Obj} : Below w.heap.size w (Sort.grow (w.drewN k) os) :=
  ⟨rfl, rfl, rfl, by simp [Sort.grow, World.drewN], fun j hj => by show (w.heap ++ os)[j]? = _; rw [Array.getElem?_append_left hj]⟩

theorem itoa_below (n : Int) (h0 : -9223372036854775808 ≤ n) (h1 : n ≤ 9223372036854775807) (w : World) (he : Env w) :
    Calls Tryz.prog 68 #[.int .i64 n] w fun e w' => e = .returned (.string (itoaB n)) ∧ Below w.heap.size w w' := by
  refine (Tryz.strconv_Itoa n h0 h1 w he.pow10).mono ?_
  rintro e w' ⟨he, k, os, rfl⟩
  exact ⟨he, below_grow⟩

/-- The number that a piece of a text stands for; -1 if it is none. -/
def numOf (s : ByteArray) : Int := match Lib.atoiAll s.data.toList with
  | .ok v => v
  | _ => -1
theorem below_bytes {w : World} {c t : _} : Below w.heap.size w (Lib.bytesWorld w c t) := by
  unfold Lib.bytesWorld
  refine Below.trans (b := w.drew.alloc (.cells (Lib.bytesCells w c t) c)) ((Below.refl _ _).drew.alloc (Nat.le_refl _) _) ⟨rfl, rfl, rfl, ?_, fun j hj => ?_⟩
  · simp [World.freeze]
  · simp only [World.freeze]
    rw [if_neg (by omega)]
    simp only [Array.getElem?_modify]
    rw [if_neg (by omega)]

theorem atoi_any (s : ByteArray) (hs : s.size ≤ 281474976710656) (w : World) (he : Env w) :
    Calls Tryz.prog 67 #[.string s] w fun e w' => (∃ v er, e = .returned (.tuple #[.int .i64 v, er]) ∧ ((er = .nilIface ∧ numOf s = v) ∨ ∃ p, er = .iface 143 p ∧ numOf s = -1)) ∧ Below w.heap.size w w' := by
  rcases h : Lib.atoiAll s.data.toList with v | - | -
  · refine (Tryz.strconv_Atoi_ok s (by omega) v h w).mono ?_
    rintro e w' ⟨rfl, hw⟩
    refine ⟨⟨_, _, rfl, Or.inl ⟨rfl, by simp [numOf, h]⟩⟩, ?_⟩
    rcases hw with rfl | ⟨t, rfl⟩
    · exact Below.refl _ _
    · exact below_bytes
  · obtain ⟨tp, p, hv⟩ := he.synt
    refine (Any.strconv_Atoi_syntax_var Tryz.laysC172 s hs h tp p w hv).mono ?_
    rintro e w' ⟨N, rfl, -, -, hb⟩
    exact ⟨⟨_, _, rfl, Or.inr ⟨_, rfl, by simp [numOf, h]⟩⟩, hb⟩
  · obtain ⟨tp, p, hv⟩ := he.rng
    refine (Tryz.strconv_Atoi_range_var s hs h tp p w hv).mono ?_
    rintro e w' ⟨N, rfl, -, -, hb⟩
    exact ⟨⟨_, _, rfl, Or.inr ⟨_, rfl, by simp [numOf, h]⟩⟩, hb⟩

end Go.Proofs.YtapllmniplgajaaGreatDoor
