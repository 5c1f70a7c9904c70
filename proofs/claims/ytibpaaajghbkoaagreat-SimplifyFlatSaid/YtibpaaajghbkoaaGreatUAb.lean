/-       -/
import Derived.WalkKit
import Derived.WalkSpells
import Derived.WalkLawsBesides
import Derived.BigQuiet
import Derived.Lib.Hide
import Derived.Deep.QuietTactic
import Derived.RegionTactic
import Derived.ChangeAlike
import Derived.BigRegion
import Derived.Handy
import Derived.StillTailTactics
import Derived.IntWalk
import Derived.Deep.RegionHeld3
import Derived.Lib.Bytealg
import Derived.Test.YtibpaaajghbkoaaGreatRows
import Derived.Test.YtibpaaajghbkoaaGreatUAa
namespace Go.Proofs.YtibpaaajghbkoaaGreat
open Go.RowKit
theorem ret_bool {a b : Bool} (h : a = b) : Ending.returned (.bool a) = .returned (.bool b) := by rw [h]
theorem below_setRow' {B : Nat} {a w : World} (h : Below B a w) {g : Nat} (hg : B ≤ g) (cs : Array Value) : Below B a (w.setRow g cs) :=
 h.trans ⟨rfl, rfl, rfl, by simp, fun k hk => setRow_other _ _ _ _ (by omega)⟩
theorem _root_.Go.RowKit.Below.drewN' {B : Nat} {a w : World} (h : Below B a w) {n : Nat} : Below B a (w.drewN n) := ⟨h.os, h.tape, h.output, h.size, h.block⟩
theorem below_step {B : Nat} {a w w' : World} (h : Below B a w) (hB : B ≤ a.heap.size) (h2 : Below w.heap.size w w') : Below B a w' :=
 h.trans (h2.mono (Nat.le_trans hB h.size))
theorem lt_of_block {w : World} {g : Nat} {o : Obj} (h : w.heap[g]? = some o) : g < w.heap.size := by
 rcases Nat.lt_or_ge g w.heap.size with h' | h'
 ·exact h'
 ·simp [Array.getElem?_eq_none h'] at h
theorem row_later {w w' : World} (hb : Below w.heap.size w w') {g : Nat} {o : Obj} (h : w.heap[g]? = some o) : w'.heap[g]? = some o :=
 (hb.block _ (lt_of_block h)).trans h
theorem row_past {w : World} {g : Nat} {o o' : Obj} (h : w.heap[g]? = some o) : (w.alloc o').heap[g]? = some o :=
 (Below.heap_alloc w o' g (lt_of_block h)).trans h
theorem row_new (w : World) (o : Obj) : (w.alloc o).heap[w.heap.size]? = some o := heap_alloc_new w o
theorem row_new1 (w : World) (a o : Obj) : ((w.alloc a).alloc o).heap[w.heap.size + 1]? = some o := heap_alloc2_new w a o
theorem row_new2 (w : World) (a b o : Obj) : (((w.alloc a).alloc b).alloc o).heap[w.heap.size + 2]? = some o := by
 have := heap_alloc_new ((w.alloc a).alloc b) o
 simpa using this
theorem row_set_other {w : World} {g : Nat} {o : Obj} {a : Addr} {v : Value} (h : w.heap[g]? = some o) (hne : g ≠ a.block) : (w.setCell a v).heap[g]? = some o :=
 (Below.heap_setCell w a v g hne).trans h
theorem row_set {w : World} {g i : Nat} {cs : Array Value} {t : TypeId} {v : Value} (h : w.heap[g]? = some (.cells cs t (0, 0))) : (w.setCell ⟨g, i, none⟩ v).heap[g]? = some (.cells (cs.setIfInBounds i v) t (0, 0)) :=
 heap_setCell_same w g i cs t v h
theorem str_eq_true {a b : ByteArray} (h : a = b) : (a.toList == b.toList) = true := by subst h; simp
theorem str_eq_false {a b : ByteArray} (h : a ≠ b) : (a.toList == b.toList) = false := by
 rw [beq_eq_false_iff_ne]
 intro hh
 rw [ByteArray.toList_eq, ByteArray.toList_eq] at hh
 exact h (ByteArray.ext (Array.toList_inj.mp hh))
theorem rk1 {w : World} {g : Nat} {a0 : Value} {l : List Value} {t : TypeId} (h : w.heap[g]? = some (.cells (a0 :: l).toArray t)) : g < w.heap.size ∧ w.cell? ⟨g, 0, none⟩ = some a0 := by
 have x0 := cell_of_row w _ 0 _ _ _ h
 simp only [List.getElem?_toArray, List.getElem?_cons_zero] at x0
 exact ⟨lt_of_block h, x0⟩
theorem rk2 {w : World} {g : Nat} {a0 a1 : Value} {l : List Value} {t : TypeId} (h : w.heap[g]? = some (.cells (a0 :: a1 :: l).toArray t)) : g < w.heap.size ∧ w.cell? ⟨g, 0, none⟩ = some a0 ∧ w.cell? ⟨g, 1, none⟩ = some a1 := by
 have x0 := cell_of_row w _ 0 _ _ _ h
 have x1 := cell_of_row w _ 1 _ _ _ h
 simp only [List.getElem?_toArray, List.getElem?_cons_zero, List.getElem?_cons_succ] at x0 x1
 exact ⟨lt_of_block h, x0, x1⟩
theorem rk3 {w : World} {g : Nat} {a0 a1 a2 : Value} {l : List Value} {t : TypeId} (h : w.heap[g]? = some (.cells (a0 :: a1 :: a2 :: l).toArray t)) : g < w.heap.size ∧ w.cell? ⟨g, 0, none⟩ = some a0 ∧ w.cell? ⟨g, 1, none⟩ = some a1 ∧ w.cell? ⟨g, 2, none⟩ = some a2 := by
 have x0 := cell_of_row w _ 0 _ _ _ h
 have x1 := cell_of_row w _ 1 _ _ _ h
 have x2 := cell_of_row w _ 2 _ _ _ h
 simp only [List.getElem?_toArray, List.getElem?_cons_zero, List.getElem?_cons_succ] at x0 x1 x2
 exact ⟨lt_of_block h, x0, x1, x2⟩
theorem rk4 {w : World} {g : Nat} {a0 a1 a2 a3 : Value} {l : List Value} {t : TypeId} (h : w.heap[g]? = some (.cells (a0 :: a1 :: a2 :: a3 :: l).toArray t)) : g < w.heap.size ∧ w.cell? ⟨g, 0, none⟩ = some a0 ∧ w.cell? ⟨g, 1, none⟩ = some a1 ∧ w.cell? ⟨g, 2, none⟩ = some a2 ∧ w.cell? ⟨g, 3, none⟩ = some a3 := by
 have x0 := cell_of_row w _ 0 _ _ _ h
 have x1 := cell_of_row w _ 1 _ _ _ h
 have x2 := cell_of_row w _ 2 _ _ _ h
 have x3 := cell_of_row w _ 3 _ _ _ h
 simp only [List.getElem?_toArray, List.getElem?_cons_zero, List.getElem?_cons_succ] at x0 x1 x2 x3
 exact ⟨lt_of_block h, x0, x1, x2, x3⟩
theorem rk5 {w : World} {g : Nat} {a0 a1 a2 a3 a4 : Value} {l : List Value} {t : TypeId} (h : w.heap[g]? = some (.cells (a0 :: a1 :: a2 :: a3 :: a4 :: l).toArray t)) : g < w.heap.size ∧ w.cell? ⟨g, 0, none⟩ = some a0 ∧ w.cell? ⟨g, 1, none⟩ = some a1 ∧ w.cell? ⟨g, 2, none⟩ = some a2 ∧ w.cell? ⟨g, 3, none⟩ = some a3 ∧ w.cell? ⟨g, 4, none⟩ = some a4 := by
 have x0 := cell_of_row w _ 0 _ _ _ h
 have x1 := cell_of_row w _ 1 _ _ _ h
 have x2 := cell_of_row w _ 2 _ _ _ h
 have x3 := cell_of_row w _ 3 _ _ _ h
 have x4 := cell_of_row w _ 4 _ _ _ h
 simp only [List.getElem?_toArray, List.getElem?_cons_zero, List.getElem?_cons_succ] at x0 x1 x2 x3 x4
 exact ⟨lt_of_block h, x0, x1, x2, x3, x4⟩
theorem rk6 {w : World} {g : Nat} {a0 a1 a2 a3 a4 a5 : Value} {l : List Value} {t : TypeId} (h : w.heap[g]? = some (.cells (a0 :: a1 :: a2 :: a3 :: a4 :: a5 :: l).toArray t)) : g < w.heap.size ∧ w.cell? ⟨g, 0, none⟩ = some a0 ∧ w.cell? ⟨g, 1, none⟩ = some a1 ∧ w.cell? ⟨g, 2, none⟩ = some a2 ∧ w.cell? ⟨g, 3, none⟩ = some a3 ∧ w.cell? ⟨g, 4, none⟩ = some a4 ∧ w.cell? ⟨g, 5, none⟩ = some a5 := by
 have x0 := cell_of_row w _ 0 _ _ _ h
 have x1 := cell_of_row w _ 1 _ _ _ h
 have x2 := cell_of_row w _ 2 _ _ _ h
 have x3 := cell_of_row w _ 3 _ _ _ h
 have x4 := cell_of_row w _ 4 _ _ _ h
 have x5 := cell_of_row w _ 5 _ _ _ h
 simp only [List.getElem?_toArray, List.getElem?_cons_zero, List.getElem?_cons_succ] at x0 x1 x2 x3 x4 x5
 exact ⟨lt_of_block h, x0, x1, x2, x3, x4, x5⟩
theorem rk7 {w : World} {g : Nat} {a0 a1 a2 a3 a4 a5 a6 : Value} {l : List Value} {t : TypeId} (h : w.heap[g]? = some (.cells (a0 :: a1 :: a2 :: a3 :: a4 :: a5 :: a6 :: l).toArray t)) : g < w.heap.size ∧ w.cell? ⟨g, 0, none⟩ = some a0 ∧ w.cell? ⟨g, 1, none⟩ = some a1 ∧ w.cell? ⟨g, 2, none⟩ = some a2 ∧ w.cell? ⟨g, 3, none⟩ = some a3 ∧ w.cell? ⟨g, 4, none⟩ = some a4 ∧ w.cell? ⟨g, 5, none⟩ = some a5 ∧ w.cell? ⟨g, 6, none⟩ = some a6 := by
 have x0 := cell_of_row w _ 0 _ _ _ h
 have x1 := cell_of_row w _ 1 _ _ _ h
 have x2 := cell_of_row w _ 2 _ _ _ h
 have x3 := cell_of_row w _ 3 _ _ _ h
 have x4 := cell_of_row w _ 4 _ _ _ h
 have x5 := cell_of_row w _ 5 _ _ _ h
 have x6 := cell_of_row w _ 6 _ _ _ h
 simp only [List.getElem?_toArray, List.getElem?_cons_zero, List.getElem?_cons_succ] at x0 x1 x2 x3 x4 x5 x6
 exact ⟨lt_of_block h, x0, x1, x2, x3, x4, x5, x6⟩
theorem rk8 {w : World} {g : Nat} {a0 a1 a2 a3 a4 a5 a6 a7 : Value} {l : List Value} {t : TypeId} (h : w.heap[g]? = some (.cells (a0 :: a1 :: a2 :: a3 :: a4 :: a5 :: a6 :: a7 :: l).toArray t)) : g < w.heap.size ∧ w.cell? ⟨g, 0, none⟩ = some a0 ∧ w.cell? ⟨g, 1, none⟩ = some a1 ∧ w.cell? ⟨g, 2, none⟩ = some a2 ∧ w.cell? ⟨g, 3, none⟩ = some a3 ∧ w.cell? ⟨g, 4, none⟩ = some a4 ∧ w.cell? ⟨g, 5, none⟩ = some a5 ∧ w.cell? ⟨g, 6, none⟩ = some a6 ∧ w.cell? ⟨g, 7, none⟩ = some a7 := by
 have x0 := cell_of_row w _ 0 _ _ _ h
 have x1 := cell_of_row w _ 1 _ _ _ h
 have x2 := cell_of_row w _ 2 _ _ _ h
 have x3 := cell_of_row w _ 3 _ _ _ h
 have x4 := cell_of_row w _ 4 _ _ _ h
 have x5 := cell_of_row w _ 5 _ _ _ h
 have x6 := cell_of_row w _ 6 _ _ _ h
 have x7 := cell_of_row w _ 7 _ _ _ h
 simp only [List.getElem?_toArray, List.getElem?_cons_zero, List.getElem?_cons_succ] at x0 x1 x2 x3 x4 x5 x6 x7
 exact ⟨lt_of_block h, x0, x1, x2, x3, x4, x5, x6, x7⟩
end Go.Proofs.YtibpaaajghbkoaaGreat

namespace Go.Proofs.YtibpaaajghbkoaaGreat
open Go
def letterC (c : UInt8) : Bool := decide (97 ≤ c.toNat ∧ c.toNat ≤ 122 ∨ 65 ≤ c.toNat ∧ c.toNat ≤ 90)
def digitC (c : UInt8) : Bool := decide (48 ≤ c.toNat ∧ c.toNat ≤ 57)
def wordC (c : UInt8) : Bool := letterC c || digitC c || decide (c.toNat = 95)
def preOK : List UInt8 → Bool
 |[] => true
 |c :: r => letterC c && r.all wordC
theorem preOK_snoc (l : List UInt8) (c : UInt8) : preOK (l ++ [c]) = if l.length = 0 then letterC c else (preOK l && wordC c) := by
 cases l with
 |nil => simp [preOK]
 |cons a r => simp [preOK, Bool.and_assoc]
theorem preOK_app {l : List UInt8} (m : List UInt8) (h : preOK l = false) : preOK (l ++ m) = false := by
 cases l with
 |nil => simp [preOK] at h
 |cons a r =>
  simp only [List.cons_append, preOK, List.all_append] at h ⊢
  cases h1 : letterC a <;> cases h2 : r.all wordC <;> simp_all
def nameL (l : List UInt8) : Bool := decide (0 < l.length) && decide (l.length ≤ 24) && preOK l
def nameB (s : ByteArray) : Bool := nameL s.data.toList
structure TagD where
 key : ByteArray
 val : ByteArray
structure ObjD where
 id : ByteArray
 kind : Int
 x : Int
 y : Int
 refs : List ByteArray
 tags : List TagD
def ltB (a b : ByteArray) : Bool := Op.bytesLess a.toList b.toList
theorem bl_leq : ∀ (x y : List UInt8), (Op.bytesLess x y || x == y) = !Op.bytesLess y x
 |[], [] => by simp [Op.bytesLess]
 |[], _ :: _ => by simp [Op.bytesLess]
 |_ :: _, [] => by simp [Op.bytesLess]
 |a :: x, b :: y => by
  have ih := bl_leq x y
  simp only [Op.bytesLess]
  rcases Nat.lt_trichotomy a.toNat b.toNat with h | h | h
  ·have h1 : a < b := UInt8.lt_iff_toNat_lt.2 h
   have h2 : ¬ b < a := fun e => by have := UInt8.lt_iff_toNat_lt.1 e; omega
   have h3 : ¬ b = a := fun e => by subst e; omega
   simp [h1, h2, h3]
  ·have e : a = b := UInt8.toNat_inj.1 h
   subst e
   have h2 : ¬ a < a := fun e => by have := UInt8.lt_iff_toNat_lt.1 e; omega
   simp only [h2, decide_false, beq_self_eq_true, Bool.true_and, Bool.false_or]
   rw [← ih]
   congr 1
   simp
  ·have h1 : b < a := UInt8.lt_iff_toNat_lt.2 h
   have h2 : ¬ a < b := fun e => by have := UInt8.lt_iff_toNat_lt.1 e; omega
   have h3 : ¬ a = b := fun e => by subst e; omega
   simp [h1, h2, h3]
theorem leqB (a b : ByteArray) : (Op.bytesLess a.toList b.toList || a.toList == b.toList) = !ltB b a := bl_leq _ _
def tagsFrom : ByteArray → List TagD → Bool
 |_, [] => true
 |last, t :: l => nameB t.key && ltB last t.key && decide (0 < t.val.size ∧ t.val.size ≤ 200) && tagsFrom t.key l
def tagsOK (l : List TagD) : Bool := decide (l.length ≤ 60) && tagsFrom ⟨#[]⟩ l
def refsFrom (kind : Int) : List ByteArray → List ByteArray → Bool
 |_, [] => true
 |pre, s :: l => nameB s && !(decide (kind = 2) && decide (pre.getLast? = some s)) && !(decide (kind = 3) && pre.any fun p => decide (p = s)) && refsFrom kind (pre ++ [s]) l
end Go.Proofs.YtibpaaajghbkoaaGreat

namespace Go.Proofs.YtibpaaajghbkoaaGreat
open Go.RowKit
def ib1 (k : Nat) : Int := Lib.indexByte (⟨#[32, 9, 10]⟩ : ByteArray).data.toList k.toUInt8
def ib2 (k : Nat) : Int := Lib.indexByte (⟨#[59, 44, 46, 58, 40, 41, 123, 125, 91, 93, 61, 60, 62, 47, 45]⟩ : ByteArray).data.toList k.toUInt8
theorem ib1_any (k : Nat) (w : World) : Calls Tryz.prog 238 #[.string ⟨#[32, 9, 10]⟩, .int .u8 k] w fun e w' => e = .returned (.int .i64 (ib1 k)) ∧ w = w' :=
 (Tryz.strings_IndexByte _ _ w).mono fun _ _ h => ⟨h.1, h.2.symm⟩
theorem ib2_any (k : Nat) (w : World) : Calls Tryz.prog 238 #[.string ⟨#[59, 44, 46, 58, 40, 41, 123, 125, 91, 93, 61, 60, 62, 47, 45]⟩, .int .u8 k] w fun e w' => e = .returned (.int .i64 (ib2 k)) ∧ w = w' :=
 (Tryz.strings_IndexByte _ _ w).mono fun _ _ h => ⟨h.1, h.2.symm⟩
def cls0 (k : Nat) : Int :=
 if 97 ≤ k ∧ k ≤ 122 ∨ 65 ≤ k ∧ k ≤ 90 then 3 else if 48 ≤ k ∧ k ≤ 57 then 4 else if 0 ≤ ib1 k then 1 else if 0 ≤ ib2 k then 6 else 0
def tabU (f : Nat → Int) : Array Value := ((List.range 256).map fun i => Value.int .u8 (f i)).toArray
def cutF (f : Nat → Int) (k : Nat) : Nat → Int := fun i => if i < k then f i else 0
def putF (f : Nat → Int) (k : Nat) (v : Int) : Nat → Int := fun i => if i = k then v else f i
theorem tabU_size (f : Nat → Int) : (tabU f).size = 256 := by simp [tabU]
theorem tabU_get (f : Nat → Int) (k : Nat) (h : k < 256) : (tabU f)[k]? = some (.int .u8 (f k)) := by simp [tabU, h]
theorem tabU_set (f : Nat → Int) (k : Nat) (v : Int) : (tabU f).setIfInBounds k (.int .u8 v) = tabU (putF f k v) := by
 apply Array.ext
 ·simp [tabU]
 ·intro i h1 h2
  simp only [tabU, List.setIfInBounds_toArray, List.getElem_toArray, List.getElem_set, List.getElem_map, List.getElem_range, putF]
  by_cases h : i = k
  ·subst h; simp
  ·rw [if_neg (fun e => h e.symm), if_neg h]
theorem put_cut (f : Nat → Int) (k : Nat) : putF (cutF f k) k (f k) = cutF f (k + 1) := by
 funext i
 simp only [putF, cutF]
 by_cases h : i = k
 ·subst h; simp
 ·rw [if_neg h]
  by_cases h2 : i < k
  ·rw [if_pos h2, if_pos (by omega)]
  ·rw [if_neg h2, if_neg (by omega)]
theorem skip_cut (f : Nat → Int) (k : Nat) (h : f k = 0) : cutF f k = cutF f (k + 1) := by
 rw [← put_cut, h]
 funext i
 simp only [putF, cutF]
 by_cases h : i = k
 ·subst h; simp
 ·rw [if_neg h]
theorem tabU_one (f : Nat → Int) : (tabU f).all (·.oneCell') = true := by simp [tabU, Value.oneCell']
set_option maxRecDepth 100000 in
theorem tabU_zeros : tabU (fun _ => 0) = Tryz.zeroCells222 := by rfl
set_option maxRecDepth 100000 in
theorem tabU_zero : tabU (cutF cls0 0) = Tryz.zeroCells222 := tabU_zeros
def clsF : Nat → Int := putF (putF (putF (cutF cls0 256) 35 2) 95 5) 34 7
set_option maxRecDepth 100000 in
set_option maxHeartbeats 2000000 in
theorem classes_tab (w : World) :
  Calls Tryz.prog 179 #[] w fun e w' => e = .returned (.agg (tabU clsF)) ∧ Below w.heap.size w w' := by
 have hz := Lib.hid tabU_zero
 go_enter Tryz.func179, Tryz.ntmps179
 go_wp2
 go_loopw [4] (fun i wr => ∃ k : Nat, k ≤ 256 ∧ i = .int .i64 k ∧ wr = (w.alloc (.cells Tryz.zeroCells222 222)).alloc (.cells (tabU (cutF cls0 k)) 222)) (fun i _ => 256 - (intOf i).toNat)
 case atStart => exact ⟨0, by omega, rfl, by rw [hz.out]⟩
 case round =>
  obtain ⟨k, hk, rfl, rfl⟩ := hrel
  by_cases hlt : k < 256
  ·have hs := tabU_size (cutF cls0 k)
   have hg : (tabU (cutF cls0 k))[k]? = some (.int .u8 0) := by rw [tabU_get _ _ hlt]; simp [cutF]
   by_cases h1 : 97 ≤ k ∧ k ≤ 122
   ·obtain ⟨a1, a2⟩ := h1
    have HC := Lib.hid (show (tabU (cutF cls0 k)).setIfInBounds k (.int .u8 3) = tabU (cutF cls0 (k + 1)) by rw [tabU_set, ← put_cut]; congr 2; rw [cls0, if_pos (by omega)])
    go_wp2_with (first | (go_at_call 238; refine (ib1_any k _).mono ?_; rintro e w' ⟨rfl, rfl⟩) | (go_at_call 238; refine (ib2_any k _).mono ?_; rintro e w' ⟨rfl, rfl⟩))
    all_goals
     go_roundw
     case rel => exact ⟨k + 1, by omega, by go_num, by rw [← HC.out]⟩
     case measure => simp [intOf]; omega
   by_cases h2 : 65 ≤ k ∧ k ≤ 90
   ·obtain ⟨a1, a2⟩ := h2
    have HC := Lib.hid (show (tabU (cutF cls0 k)).setIfInBounds k (.int .u8 3) = tabU (cutF cls0 (k + 1)) by rw [tabU_set, ← put_cut]; congr 2; rw [cls0, if_pos (by omega)])
    go_wp2_with (first | (go_at_call 238; refine (ib1_any k _).mono ?_; rintro e w' ⟨rfl, rfl⟩) | (go_at_call 238; refine (ib2_any k _).mono ?_; rintro e w' ⟨rfl, rfl⟩))
    all_goals
     go_roundw
     case rel => exact ⟨k + 1, by omega, by go_num, by rw [← HC.out]⟩
     case measure => simp [intOf]; omega
   by_cases h3 : 48 ≤ k ∧ k ≤ 57
   ·obtain ⟨a1, a2⟩ := h3
    have HC := Lib.hid (show (tabU (cutF cls0 k)).setIfInBounds k (.int .u8 4) = tabU (cutF cls0 (k + 1)) by rw [tabU_set, ← put_cut]; congr 2; rw [cls0, if_neg (by omega), if_pos (by omega)])
    clear h1 h2
    go_wp2_with (first | (go_at_call 238; refine (ib1_any k _).mono ?_; rintro e w' ⟨rfl, rfl⟩) | (go_at_call 238; refine (ib2_any k _).mono ?_; rintro e w' ⟨rfl, rfl⟩))
    all_goals
     go_roundw
     case rel => exact ⟨k + 1, by omega, by go_num, by rw [← HC.out]⟩
     case measure => simp [intOf]; omega
   have hl : ¬ (97 ≤ k ∧ k ≤ 122 ∨ 65 ≤ k ∧ k ≤ 90) := by omega
   by_cases h4 : 0 ≤ ib1 k
   ·have HC := Lib.hid (show (tabU (cutF cls0 k)).setIfInBounds k (.int .u8 1) = tabU (cutF cls0 (k + 1)) by rw [tabU_set, ← put_cut]; congr 2; rw [cls0, if_neg hl, if_neg h3, if_pos h4])
    clear hl
    go_wp2_with (first | (go_at_call 238; refine (ib1_any k _).mono ?_; rintro e w' ⟨rfl, rfl⟩) | (go_at_call 238; refine (ib2_any k _).mono ?_; rintro e w' ⟨rfl, rfl⟩))
    all_goals
     go_roundw
     case rel => exact ⟨k + 1, by omega, by go_num, by rw [← HC.out]⟩
     case measure => simp [intOf]; omega
   have h4' : ib1 k < 0 := by omega
   by_cases h5 : 0 ≤ ib2 k
   ·have HC := Lib.hid (show (tabU (cutF cls0 k)).setIfInBounds k (.int .u8 6) = tabU (cutF cls0 (k + 1)) by rw [tabU_set, ← put_cut]; congr 2; rw [cls0, if_neg hl, if_neg h3, if_neg h4, if_pos h5])
    clear hl
    go_wp2_with (first | (go_at_call 238; refine (ib1_any k _).mono ?_; rintro e w' ⟨rfl, rfl⟩) | (go_at_call 238; refine (ib2_any k _).mono ?_; rintro e w' ⟨rfl, rfl⟩))
    all_goals
     go_roundw
     case rel => exact ⟨k + 1, by omega, by go_num, by rw [← HC.out]⟩
     case measure => simp [intOf]; omega
   have h5' : ib2 k < 0 := by omega
   have HC := Lib.hid (show tabU (cutF cls0 k) = tabU (cutF cls0 (k + 1)) by rw [skip_cut]; rw [cls0, if_neg hl, if_neg h3, if_neg h4, if_neg h5])
   clear hl
   go_wp2_with (first | (go_at_call 238; refine (ib1_any k _).mono ?_; rintro e w' ⟨rfl, rfl⟩) | (go_at_call 238; refine (ib2_any k _).mono ?_; rintro e w' ⟨rfl, rfl⟩))
   all_goals
    go_roundw
    case rel => exact ⟨k + 1, by omega, by go_num, by rw [← HC.out]⟩
    case measure => simp [intOf]; omega
  ·obtain rfl : k = 256 := by omega
   clear hlt hk
   have g1 : (tabU (cutF cls0 256))[35]? = some (.int .u8 (cutF cls0 256 35)) := tabU_get _ _ (by omega)
   have hs := tabU_size (cutF cls0 256)
   have g2 : ((tabU (cutF cls0 256)).setIfInBounds 35 (.int .u8 2))[95]? = some (.int .u8 (putF (cutF cls0 256) 35 2 95)) := by rw [tabU_set]; exact tabU_get _ _ (by omega)
   have g3 : (((tabU (cutF cls0 256)).setIfInBounds 35 (.int .u8 2)).setIfInBounds 95 (.int .u8 5))[34]? = some (.int .u8 (putF (putF (cutF cls0 256) 35 2) 95 5 34)) := by rw [tabU_set, tabU_set]; exact tabU_get _ _ (by omega)
   have E3 := Lib.hid (show ((((tabU (cutF cls0 256)).setIfInBounds 35 (.int .u8 2)).setIfInBounds 95 (.int .u8 5)).setIfInBounds 34 (.int .u8 7)) = tabU clsF by rw [tabU_set, tabU_set, tabU_set]; rfl)
   have hsz : (Tryz.prog.info? 222).map (·.size) = some ((((tabU (cutF cls0 256)).setIfInBounds 35 (.int .u8 2)).setIfInBounds 95 (.int .u8 5)).setIfInBounds 34 (.int .u8 7)).size := by rw [E3.out, tabU_size]; kernel_rfl
   have hz2 : Tryz.zeroCells222.size = ((((tabU (cutF cls0 256)).setIfInBounds 35 (.int .u8 2)).setIfInBounds 95 (.int .u8 5)).setIfInBounds 34 (.int .u8 7)).size := by rw [E3.out, ← hz.out, tabU_size, tabU_size]
   have h1 : ((((tabU (cutF cls0 256)).setIfInBounds 35 (.int .u8 2)).setIfInBounds 95 (.int .u8 5)).setIfInBounds 34 (.int .u8 7)).all (·.oneCell') = true := by rw [E3.out]; exact tabU_one _
   have HS := Lib.hid hsz
   have H2 := Lib.hid hz2
   have H1 := Lib.hid h1
   clear hsz hz2 h1
   go_wp2_with (first
    |(refine wpList_load_row rfl 222 (.tmp 1) rfl (w.heap.size + 1) rfl 222 ((((tabU (cutF cls0 256)).setIfInBounds 35 (.int .u8 2)).setIfInBounds 95 (.int .u8 5)).setIfInBounds 34 (.int .u8 7)) (0, 0) _ (heap_alloc2_new w _ _) Tryz.underlying222 rfl HS.out ?_)
    |(refine wpList_store_row rfl 222 (.tmp 0) (.tmp 49) rfl w.heap.size ((((tabU (cutF cls0 256)).setIfInBounds 35 (.int .u8 2)).setIfInBounds 95 (.int .u8 5)).setIfInBounds 34 (.int .u8 7)) rfl rfl 222 Tryz.zeroCells222 (heap_alloc2_old w _ _) HS.out H2.out H1.out ?_))
   rw [← E3.out]
   refine bodyPost_ret (v := .agg ((((tabU (cutF cls0 256)).setIfInBounds 35 (.int .u8 2)).setIfInBounds 95 (.int .u8 5)).setIfInBounds 34 (.int .u8 7))) ?_ rfl ⟨rfl, ?_⟩
   ·exact results_cell_row (p := 0) rfl _ _ w.heap.size 222 ((((tabU (cutF cls0 256)).setIfInBounds 35 (.int .u8 2)).setIfInBounds 95 (.int .u8 5)).setIfInBounds 34 (.int .u8 7)) (0, 0) _ rfl (setRow_heap _ _ Tryz.zeroCells222 _ _ _ (heap_alloc2_old w _ _)) Tryz.underlying222 rfl HS.out
   ·exact below_setRow' (((Below.refl _ _).alloc (Nat.le_refl _) _).alloc (by simp) _) (Nat.le_refl _) _
end Go.Proofs.YtibpaaajghbkoaaGreat

namespace Go.Proofs.YtibpaaajghbkoaaGreat
open Go.RowKit
theorem clsF_cases (n : Nat) (h : n < 256) : (97 ≤ n ∧ n ≤ 122 ∨ 65 ≤ n ∧ n ≤ 90 → clsF n = 3) ∧ (48 ≤ n ∧ n ≤ 57 → clsF n = 4) ∧ (n = 95 → clsF n = 5) ∧
  (¬ (97 ≤ n ∧ n ≤ 122 ∨ 65 ≤ n ∧ n ≤ 90) → ¬ (48 ≤ n ∧ n ≤ 57) → n ≠ 95 → clsF n ≠ 3 ∧ clsF n ≠ 4 ∧ clsF n ≠ 5) := by
 simp only [clsF, putF, cutF, if_pos h]
 refine ⟨fun h1 => ?_, fun h1 => ?_, fun h1 => ?_, fun h1 h2 h3 => ?_⟩
 ·rw [if_neg (by omega), if_neg (by omega), if_neg (by omega), cls0, if_pos h1]
 ·rw [if_neg (by omega), if_neg (by omega), if_neg (by omega), cls0, if_neg (by omega), if_pos h1]
 ·rw [if_neg (by omega), if_pos h1]
 ·rw [if_neg h3, cls0, if_neg h1, if_neg h2]
  split
  ·omega
  ·split
   ·omega
   ·split
    ·omega
    ·split <;> omega
theorem take_snoc (s : ByteArray) (k : Nat) (h : k < s.size) : s.data.toList.take (k + 1) = s.data.toList.take k ++ [s[k]] := by
 rw [List.take_succ_eq_append_getElem (by simpa using h)]; rfl
theorem str_nil {s : ByteArray} (h : s.size = 0) : s.toList = [] := by
 rw [ByteArray.toList_eq]
 exact List.eq_nil_of_length_eq_zero (by rw [Array.length_toList]; exact h)
theorem str_not_empty {s : ByteArray} (h : 0 < s.size) : s.toList.isEmpty = false := by
 rw [ByteArray.toList_eq, List.isEmpty_eq_false_iff]
 intro e
 have := congrArg List.length e
 rw [Array.length_toList] at this
 have h2 : s.data.size = s.size := rfl
 simp only [List.length_nil] at this
 omega
theorem str_ne_nil {s : ByteArray} (h : 0 < s.size) : (s.toList == []) = false := by
 rw [beq_eq_false_iff_ne]
 intro e
 have := str_not_empty h
 rw [e] at this
 simp at this
set_option maxRecDepth 100000 in
set_option maxHeartbeats 1000000 in
theorem name_any (s : ByteArray) (hs : s.size ≤ 140737488355328) (w : World) :
  Calls Tryz.prog 129 #[.string s] w fun e w' => e = .returned (.bool (nameB s)) ∧ Below w.heap.size w w' := by
 go_enter Tryz.func129, Tryz.ntmps129
 go_wp2_with fail
 refine (classes_tab _).mono ?_; rintro e w1 ⟨rfl, hb1⟩
 have HS := Lib.hid (show (Tryz.prog.info? 222).map (·.size) = some (tabU clsF).size by rw [tabU_size]; kernel_rfl)
 have H2 := Lib.hid (show Tryz.zeroCells222.size = (tabU clsF).size by rw [← tabU_zero, tabU_size, tabU_size])
 go_wp2_with (refine wpList_store_row rfl 222 (.tmp 3) (.tmp 6) rfl w1.heap.size (tabU clsF) rfl rfl 222 Tryz.zeroCells222 (heap_alloc_new w1 _) HS.out H2.out (tabU_one _) ?_)
 have HB := Lib.hid (setRow_heap _ w1.heap.size Tryz.zeroCells222 (tabU clsF) 222 (0, 0) (heap_alloc_new w1 (.cells Tryz.zeroCells222 222)))
 have B2 : Below w.heap.size w ((w1.alloc (.cells Tryz.zeroCells222 222)).setRow w1.heap.size (tabU clsF)) := below_setRow' (hb1.alloc hb1.size _) hb1.size _
 generalize hw2 : (w1.alloc (.cells Tryz.zeroCells222 222)).setRow w1.heap.size (tabU clsF) = w2
 rw [hw2] at HB B2
 clear hw2 HS H2 hb1
 have bz := lt_of_block HB.out
 go_loop [9] (fun i => ∃ k : Nat, k ≤ s.size ∧ i = .int .i64 k ∧ preOK (s.data.toList.take k) = true) (fun i => s.size - (intOf i).toNat)
 case atStart => exact ⟨0, by omega, rfl, rfl⟩
 case round =>
  obtain ⟨k, hk, rfl, hpre⟩ := hrel
  have HP := Lib.hid hpre
  clear hpre
  by_cases hlt : k < s.size
  ·have hu := UInt8.toNat_lt s[k]
   have CL := clsF_cases s[k].toNat hu
   have HT := Lib.hid (take_snoc s k hlt)
   have HL := Lib.hid (show (s.data.toList.take k).length = k by rw [List.length_take]; simp; omega)
   have c0 : w2.cell? ⟨w1.heap.size, s[k].toNat, none⟩ = some (.int .u8 (clsF s[k].toNat)) := (cell_of_row w2 _ s[k].toNat _ _ _ HB.out).trans (tabU_get _ _ hu)
   have hts := tabU_size clsF
   have HN := Lib.hid (show preOK (s.data.toList.take (k + 1)) = if k = 0 then letterC s[k] else wordC s[k] by rw [HT.out, preOK_snoc, HL.out, HP.out]; simp)
   by_cases hl : 97 ≤ s[k].toNat ∧ s[k].toNat ≤ 122 ∨ 65 ≤ s[k].toNat ∧ s[k].toNat ≤ 90
   ·rw [CL.1 hl] at c0
    have HG := Lib.hid (show preOK (s.data.toList.take (k + 1)) = true by
     have h1 : letterC s[k] = true := by rw [letterC, decide_eq_true_eq]; exact hl
     rw [HN.out, wordC, h1]; simp)
    clear CL hl
    go_wp2
    go_round
    case rel => exact ⟨k + 1, by omega, by go_num, HG.out⟩
    case measure => simp [intOf]; omega
   have h1 : letterC s[k] = false := by rw [letterC, decide_eq_false_iff_not]; exact hl
   by_cases h0 : k = 0
   ·have HF := Lib.hid (show preOK (s.data.toList.take (k + 1)) = false by rw [HN.out, if_pos h0, h1])
    have h3 : (clsF s[k].toNat != 3) = true := by
     rw [bne_iff_ne]
     by_cases hd : 48 ≤ s[k].toNat ∧ s[k].toNat ≤ 57
     ·rw [CL.2.1 hd]; decide
     ·by_cases hu : s[k].toNat = 95
      ·rw [CL.2.2.1 hu]; decide
      ·exact (CL.2.2.2 hl hd hu).1
    have h3' : ¬ clsF s[k].toNat = 3 := by rw [bne_iff_ne] at h3; exact h3
    generalize clsF s[k].toNat = cv at *
    have k0 : ((k : Int) == 0) = true := by rw [beq_iff_eq]; omega
    clear CL hl h1 h0
    have HB2 := Lib.hid (show nameB s = false by
     have h2 := preOK_app (s.data.toList.drop (k + 1)) HF.out
     rw [List.take_append_drop] at h2
     rw [nameB, nameL, h2]; simp)
    go_wp2
    go_ret
    exact ⟨ret_bool HB2.out.symm, B2⟩
   have k0 : ((k : Int) == 0) = false := by rw [beq_eq_false_iff_ne]; omega
   by_cases hd : 48 ≤ s[k].toNat ∧ s[k].toNat ≤ 57
   ·rw [CL.2.1 hd] at c0
    have HG := Lib.hid (show preOK (s.data.toList.take (k + 1)) = true by
     have h2 : digitC s[k] = true := by rw [digitC, decide_eq_true_eq]; exact hd
     rw [HN.out, if_neg h0, wordC, h2]; simp)
    clear CL hl h1 h0 hd
    go_wp2
    go_round
    case rel => exact ⟨k + 1, by omega, by go_num, HG.out⟩
    case measure => simp [intOf]; omega
   by_cases hu5 : s[k].toNat = 95
   ·rw [CL.2.2.1 hu5] at c0
    have HG := Lib.hid (show preOK (s.data.toList.take (k + 1)) = true by
     rw [HN.out, if_neg h0, wordC, hu5]; simp)
    clear CL hl h1 h0 hd hu5
    go_wp2
    go_round
    case rel => exact ⟨k + 1, by omega, by go_num, HG.out⟩
    case measure => simp [intOf]; omega
   have HF := Lib.hid (show preOK (s.data.toList.take (k + 1)) = false by
    have h2 : digitC s[k] = false := by rw [digitC, decide_eq_false_iff_not]; exact hd
    rw [HN.out, if_neg h0, wordC, h1, h2]; simp [hu5])
   obtain ⟨n3, n4, n5⟩ := CL.2.2.2 hl hd hu5
   have h3 : (clsF s[k].toNat != 3) = true := by rw [bne_iff_ne]; exact n3
   have h4 : (clsF s[k].toNat != 4) = true := by rw [bne_iff_ne]; exact n4
   have h5 : (clsF s[k].toNat != 5) = true := by rw [bne_iff_ne]; exact n5
   generalize clsF s[k].toNat = cv at *
   clear CL hl h1 h0 hd hu5
   have HB2 := Lib.hid (show nameB s = false by
    have h2 := preOK_app (s.data.toList.drop (k + 1)) HF.out
    rw [List.take_append_drop] at h2
    rw [nameB, nameL, h2]; simp)
   go_wp2
   go_ret
   exact ⟨ret_bool HB2.out.symm, B2⟩
  ·obtain rfl : k = s.size := by omega
   have hall : s.data.toList.take s.size = s.data.toList := List.take_of_length_le (by simp)
   have HE := Lib.hid (show nameB s = (decide (0 < s.size) && decide (s.size ≤ 24)) by
    have h := HP.out
    rw [hall] at h
    rw [nameB, nameL, h]; simp)
   clear hall
   by_cases z : 0 < s.size
   ·have e0 : (s.toList == []) = false := str_ne_nil z
    have e1 : s.toList.isEmpty = false := str_not_empty z
    by_cases z2 : s.size ≤ 24
    ·go_wp2
     go_ret
     exact ⟨ret_bool (by rw [HE.out]; simp [z]; omega), B2⟩
    ·go_wp2
     go_ret
     exact ⟨ret_bool (by rw [HE.out]; simp [z]; omega), B2⟩
   ·have e0 : s.toList = [] := str_nil (by omega)
    have e1 : s.toList.isEmpty = true := by rw [e0]; rfl
    go_wp2
    go_ret
    exact ⟨ret_bool (by rw [HE.out]; simp [z]), B2⟩
end Go.Proofs.YtibpaaajghbkoaaGreat

namespace Go.Proofs.YtibpaaajghbkoaaGreat
open Go.RowKit
def StrRow (w : World) (v : Value) (l : List ByteArray) : Prop :=
 ∃ (a : Option Addr) (cap : Nat), v = .slice a l.length cap ∧ l.length ≤ 140737488355328 ∧ (∀ s ∈ l, s.size ≤ 140737488355328) ∧
  (0 < l.length → ∃ b off, a = some ⟨b, off, none⟩ ∧ ∀ (i : Nat) (s : ByteArray), l[i]? = some s → w.cell? ⟨b, off + i, none⟩ = some (.string s))
theorem StrRow.later {w w' : World} {v : Value} {l : List ByteArray} (h : StrRow w v l) (hb : Below w.heap.size w w') : StrRow w' v l := by
 obtain ⟨a, cap, h1, h2, h3, h4⟩ := h
 refine ⟨a, cap, h1, h2, h3, fun h0 => ?_⟩
 obtain ⟨b, off, e, hc⟩ := h4 h0
 exact ⟨b, off, e, fun i s hi => cell_later hb (hc i s hi)⟩
def TagRow (w : World) (v : Value) (l : List TagD) : Prop :=
 ∃ (a : Option Addr) (cap : Nat), v = .slice a l.length cap ∧ l.length ≤ 140737488355328 ∧ (∀ t ∈ l, t.key.size ≤ 140737488355328 ∧ t.val.size ≤ 140737488355328) ∧
  (0 < l.length → ∃ b off, a = some ⟨b, off, none⟩ ∧ ∀ (i : Nat) (t : TagD), l[i]? = some t → w.cell? ⟨b, off + i * 2, none⟩ = some (.string t.key) ∧ w.cell? ⟨b, off + i * 2 + 1, none⟩ = some (.string t.val))
theorem TagRow.later {w w' : World} {v : Value} {l : List TagD} (h : TagRow w v l) (hb : Below w.heap.size w w') : TagRow w' v l := by
 obtain ⟨a, cap, h1, h2, h3, h4⟩ := h
 refine ⟨a, cap, h1, h2, h3, fun h0 => ?_⟩
 obtain ⟨b, off, e, hc⟩ := h4 h0
 exact ⟨b, off, e, fun i s hi => ⟨cell_later hb (hc i s hi).1, cell_later hb (hc i s hi).2⟩⟩
theorem lt_of_cell {w : World} {b o : Nat} {v : Value} (h : w.cell? ⟨b, o, none⟩ = some v) : b < w.heap.size := by
 rcases Nat.lt_or_ge b w.heap.size with h' | h'
 ·exact h'
 ·simp [World.cell?, Array.getElem?_eq_none h'] at h
theorem tagsFrom_drop (ls : ByteArray) (l : List TagD) (k : Nat) (t : TagD) (ht : l[k]? = some t) : tagsFrom ls (l.drop k) = (nameB t.key && ltB ls t.key && decide (0 < t.val.size ∧ t.val.size ≤ 200) && tagsFrom t.key (l.drop (k + 1))) := by
 obtain ⟨hk, rfl⟩ := List.getElem?_eq_some_iff.1 ht
 rw [List.drop_eq_getElem_cons hk]; rfl
set_option maxRecDepth 100000 in
set_option maxHeartbeats 1000000 in
theorem tags_any (v : Value) (l : List TagD) (w : World) (h : TagRow w v l) :
  Calls Tryz.prog 130 #[v] w fun e w' => e = .returned (.bool (tagsOK l)) ∧ Below w.heap.size w w' := by
 obtain ⟨a, cap, rfl, hn, hsz, hc⟩ := h
 generalize hN : l.length = N at *
 have HN := Lib.hid hN
 have HZ := Lib.hid hsz
 have HC := Lib.hid hc
 clear hN hsz hc
 go_enter Tryz.func130, Tryz.ntmps130
 go_wp2
 go_loopw [3, 8] (fun s i wr => ∃ (k : Nat) (ls : ByteArray), k ≤ N ∧ i = .int .i64 k ∧ s = .string ls ∧ tagsFrom ⟨#[]⟩ l = tagsFrom ls (l.drop k) ∧ Below w.heap.size w wr) (fun _ i _ => N - (intOf i).toNat)
 case atStart => exact ⟨0, ⟨#[]⟩, by omega, rfl, rfl, rfl, Below.refl _ _⟩
 case round =>
  obtain ⟨k, ls, hk, rfl, rfl, hT, hbr⟩ := hrel
  have HT := Lib.hid hT
  clear hT
  by_cases hlt : k < N
  ·obtain ⟨t, ht⟩ : ∃ t, l[k]? = some t := ⟨l[k]'(by rw [HN.out]; exact hlt), List.getElem?_eq_getElem _⟩
   obtain ⟨b, off, ha, hcell⟩ := HC.out (by omega)
   subst ha
   have hz := HZ.out t (List.mem_of_getElem? ht)
   obtain ⟨z1, z2⟩ := hz
   have c0 := cell_later hbr (hcell k t ht).1
   have c1 := cell_later hbr (hcell k t ht).2
   have bz := lt_of_cell c0
   have HD := Lib.hid (tagsFrom_drop ls l k t ht)
   clear hcell ht
   go_wp2_with fail
   refine (name_any t.key z1 _).mono ?_; rintro e w2 ⟨rfl, hb2⟩
   have B2 := below_step (hbr.alloc hbr.size (.cells #[.string t.key, .string t.val] 74)) (Nat.le_refl _) hb2
   have HB := row_later hb2 (row_new wr (.cells #[.string t.key, .string t.val] 74))
   clear c0 c1
   obtain ⟨cz, c0, c1⟩ := rk2 HB
   have HB' := Lib.hid HB
   clear HB
   clear hb2 HB'
   cases hnm : nameB t.key
   case false =>
    have HR := Lib.hid (show tagsFrom ⟨#[]⟩ l = false by rw [HT.out, HD.out, hnm]; rfl)
    clear hnm
    go_wp2
    go_ret
    exact ⟨ret_bool (by rw [tagsOK, HR.out]; simp), B2⟩
   have LQ := leqB t.key ls
   cases hlt2 : ltB ls t.key
   case false =>
    have HR := Lib.hid (show tagsFrom ⟨#[]⟩ l = false by rw [HT.out, HD.out, hlt2]; simp)
    rw [hlt2] at LQ
    clear hnm hlt2
    go_wp2
    go_ret
    exact ⟨ret_bool (by rw [tagsOK, HR.out]; simp), B2⟩
   rw [hlt2] at LQ
   by_cases v0 : 0 < t.val.size
   case neg =>
    have e0 : t.val.toList = [] := str_nil (by omega)
    have e1 : t.val.toList.isEmpty = true := by rw [e0]; rfl
    have HR := Lib.hid (show tagsFrom ⟨#[]⟩ l = false by rw [HT.out, HD.out]; simp [v0])
    clear hnm hlt2 e0
    go_wp2
    go_ret
    exact ⟨ret_bool (by rw [tagsOK, HR.out]; simp), B2⟩
   have e1 : t.val.toList.isEmpty = false := str_not_empty v0
   have e0 : ¬ t.val.toList = [] := by
    intro e; rw [e] at e1; simp at e1
   by_cases v1 : t.val.size ≤ 200
   case neg =>
    have HR := Lib.hid (show tagsFrom ⟨#[]⟩ l = false by rw [HT.out, HD.out]; simp [v1])
    clear hnm hlt2
    go_wp2
    go_ret
    exact ⟨ret_bool (by rw [tagsOK, HR.out]; simp), B2⟩
   have HG := Lib.hid (show tagsFrom ⟨#[]⟩ l = tagsFrom t.key (l.drop (k + 1)) by rw [HT.out, HD.out, hnm, hlt2]; simp [v0, v1])
   clear hnm hlt2
   go_wp2
   go_roundw
   case rel => exact ⟨k + 1, t.key, by omega, by go_num, rfl, HG.out, B2⟩
   case measure => simp [intOf]; omega
  ·obtain rfl : k = N := by omega
   have HE := Lib.hid (show tagsOK l = decide (k ≤ 60) by
    rw [tagsOK, HT.out, HN.out, List.drop_of_length_le (by rw [HN.out]; exact Nat.le_refl _)]
    simp [tagsFrom])
   by_cases h6 : k ≤ 60
   ·go_wp2
    go_ret
    exact ⟨ret_bool (by rw [HE.out]; simp; omega), hbr⟩
   ·go_wp2
    go_ret
    exact ⟨ret_bool (by rw [HE.out]; simp; omega), hbr⟩
end Go.Proofs.YtibpaaajghbkoaaGreat

namespace Go.Proofs.YtibpaaajghbkoaaGreat
open Go.RowKit
def ObjAt (w : World) (b off : Nat) (o : ObjD) : Prop :=
 ∃ (vr vt : Value), w.cell? ⟨b, off, none⟩ = some (.string o.id) ∧ w.cell? ⟨b, off + 1, none⟩ = some (.int .i64 o.kind) ∧ w.cell? ⟨b, off + 2, none⟩ = some (.int .i64 o.x) ∧
  w.cell? ⟨b, off + 3, none⟩ = some (.int .i64 o.y) ∧ w.cell? ⟨b, off + 4, none⟩ = some vr ∧ w.cell? ⟨b, off + 5, none⟩ = some vt ∧
  StrRow w vr o.refs ∧ TagRow w vt o.tags ∧ o.id.size ≤ 140737488355328
theorem ObjAt.later {w w' : World} {b off : Nat} {o : ObjD} (h : ObjAt w b off o) (hb : Below w.heap.size w w') : ObjAt w' b off o := by
 obtain ⟨vr, vt, h0, h1, h2, h3, h4, h5, hr, ht, hz⟩ := h
 exact ⟨vr, vt, cell_later hb h0, cell_later hb h1, cell_later hb h2, cell_later hb h3, cell_later hb h4, cell_later hb h5, hr.later hb, ht.later hb, hz⟩
def ObjsIs (w : World) (v : Value) (l : List ObjD) : Prop :=
 ∃ (a : Option Addr) (cap : Nat), v = .slice a l.length cap ∧ l.length ≤ 140737488355328 ∧
  (0 < l.length → ∃ b off, a = some ⟨b, off, none⟩ ∧ ∀ (i : Nat) (o : ObjD), l[i]? = some o → ObjAt w b (off + i * 6) o)
theorem ObjsIs.later {w w' : World} {v : Value} {l : List ObjD} (h : ObjsIs w v l) (hb : Below w.heap.size w w') : ObjsIs w' v l := by
 obtain ⟨a, cap, h1, h2, h3⟩ := h
 refine ⟨a, cap, h1, h2, fun h0 => ?_⟩
 obtain ⟨b, off, e, hc⟩ := h3 h0
 exact ⟨b, off, e, fun i o hi => (hc i o hi).later hb⟩
end Go.Proofs.YtibpaaajghbkoaaGreat
