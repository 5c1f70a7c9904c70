/-   -/
import Derived.WalkKit
import Derived.WalkSpells
import Derived.WalkLawsBesides
import Derived.BigQuiet
import Derived.Lib.Hide
import Derived.Deep.QuietTactic
import Derived.RegionTactic
import Derived.ChangeAlike
import Derived.BigRegion
import Derived.Handy
import Derived.StillTailTactics
import Derived.IntWalk
import Derived.Deep.RegionHeld3
import Derived.Lib.Bytealg
namespace Go.Proofs.YtdfenhjibnfdeaaGreatDoor
open Go.RowKit
theorem ret_bool {a b:Bool} (h:a=b):Ending.returned (.bool a)=.returned (.bool b):=by rw [h]
theorem ret_int {k:IntKind} {a b:Int} (h:a=b):Ending.returned (.int k a)=.returned (.int k b):=by rw [h]
theorem below_setRow' {B:Nat} {a w:World} (h:Below B a w) {g:Nat} (hg:B≤g) (cs:Array Value):Below B a (w.setRow g cs) :=
 h.trans ⟨rfl,rfl,rfl,by simp,fun k hk=>setRow_other _ _ _ _ (by omega)⟩
theorem _root_.Go.RowKit.Below.drewN' {B:Nat} {a w:World} (h:Below B a w) {n:Nat}:Below B a (w.drewN n):=⟨h.os,h.tape,h.output,h.size,h.block⟩
theorem below_step {B:Nat} {a w w':World} (h:Below B a w) (hB:B≤a.heap.size) (h2:Below w.heap.size w w'):Below B a w' :=
 h.trans (h2.mono (Nat.le_trans hB h.size))
theorem lt_of_block {w:World} {g:Nat} {o:Obj} (h:w.heap[g]?=some o):g<w.heap.size:=by
 rcases Nat.lt_or_ge g w.heap.size with h' | h'
 ·exact h'
 ·simp [Array.getElem?_eq_none h'] at h
theorem row_later {w w':World} (hb:Below w.heap.size w w') {g:Nat} {o:Obj} (h:w.heap[g]?=some o):w'.heap[g]?=some o :=
 (hb.block _ (lt_of_block h)).trans h
theorem row_past {w:World} {g:Nat} {o o':Obj} (h:w.heap[g]?=some o):(w.alloc o').heap[g]?=some o :=
 (Below.heap_alloc w o' g (lt_of_block h)).trans h
theorem row_new (w:World) (o:Obj):(w.alloc o).heap[w.heap.size]?=some o:=heap_alloc_new w o
theorem row_new1 (w:World) (a o:Obj):((w.alloc a).alloc o).heap[w.heap.size+1]?=some o:=heap_alloc2_new w a o
theorem row_new2 (w:World) (a b o:Obj):(((w.alloc a).alloc b).alloc o).heap[w.heap.size+2]?=some o:=by
 have:=heap_alloc_new ((w.alloc a).alloc b) o
 simpa using this
theorem row_set_other {w:World} {g:Nat} {o:Obj} {a:Addr} {v:Value} (h:w.heap[g]?=some o) (hne:g≠a.block):(w.setCell a v).heap[g]?=some o :=
 (Below.heap_setCell w a v g hne).trans h
theorem row_set {w:World} {g i:Nat} {cs:Array Value} {t:TypeId} {v:Value} (h:w.heap[g]?=some (.cells cs t (0,0))):(w.setCell ⟨g,i,none⟩ v).heap[g]?=some (.cells (cs.setIfInBounds i v) t (0,0)) :=
 heap_setCell_same w g i cs t v h
theorem row_drew {w:World} {g:Nat} {o:Obj} (h:w.heap[g]?=some o):w.drew.heap[g]?=some o:=h
theorem str_eq_true {a b:ByteArray} (h:a=b):(a.toList==b.toList)=true:=by subst h;simp
theorem str_eq_false {a b:ByteArray} (h:a≠b):(a.toList==b.toList)=false:=by
 rw [beq_eq_false_iff_ne]
 intro hh
 rw [ByteArray.toList_eq,ByteArray.toList_eq] at hh
 exact h (ByteArray.ext (Array.toList_inj.mp hh))
theorem rk1 {w:World} {g:Nat} {a0:Value} {l:List Value} {t:TypeId} (h:w.heap[g]?=some (.cells (a0 :: l).toArray t)):g<w.heap.size∧w.cell? ⟨g,0,none⟩=some a0:=by
 have x0:=cell_of_row w _ 0 _ _ _ h
 simp only [List.getElem?_toArray,List.getElem?_cons_zero] at x0
 exact ⟨lt_of_block h,x0⟩
theorem rk2 {w:World} {g:Nat} {a0 a1:Value} {l:List Value} {t:TypeId} (h:w.heap[g]?=some (.cells (a0 :: a1 :: l).toArray t)):g<w.heap.size∧w.cell? ⟨g,0,none⟩=some a0∧w.cell? ⟨g,1,none⟩=some a1:=by
 have x0:=cell_of_row w _ 0 _ _ _ h
 have x1:=cell_of_row w _ 1 _ _ _ h
 simp only [List.getElem?_toArray,List.getElem?_cons_zero,List.getElem?_cons_succ] at x0 x1
 exact ⟨lt_of_block h,x0,x1⟩
theorem rk3 {w:World} {g:Nat} {a0 a1 a2:Value} {l:List Value} {t:TypeId} (h:w.heap[g]?=some (.cells (a0 :: a1 :: a2 :: l).toArray t)):g<w.heap.size∧w.cell? ⟨g,0,none⟩=some a0∧w.cell? ⟨g,1,none⟩=some a1∧w.cell? ⟨g,2,none⟩=some a2:=by
 have x0:=cell_of_row w _ 0 _ _ _ h
 have x1:=cell_of_row w _ 1 _ _ _ h
 have x2:=cell_of_row w _ 2 _ _ _ h
 simp only [List.getElem?_toArray,List.getElem?_cons_zero,List.getElem?_cons_succ] at x0 x1 x2
 exact ⟨lt_of_block h,x0,x1,x2⟩
theorem rk4 {w:World} {g:Nat} {a0 a1 a2 a3:Value} {l:List Value} {t:TypeId} (h:w.heap[g]?=some (.cells (a0 :: a1 :: a2 :: a3 :: l).toArray t)):g<w.heap.size∧w.cell? ⟨g,0,none⟩=some a0∧w.cell? ⟨g,1,none⟩=some a1∧w.cell? ⟨g,2,none⟩=some a2∧w.cell? ⟨g,3,none⟩=some a3:=by
 have x0:=cell_of_row w _ 0 _ _ _ h
 have x1:=cell_of_row w _ 1 _ _ _ h
 have x2:=cell_of_row w _ 2 _ _ _ h
 have x3:=cell_of_row w _ 3 _ _ _ h
 simp only [List.getElem?_toArray,List.getElem?_cons_zero,List.getElem?_cons_succ] at x0 x1 x2 x3
 exact ⟨lt_of_block h,x0,x1,x2,x3⟩
theorem rk5 {w:World} {g:Nat} {a0 a1 a2 a3 a4:Value} {l:List Value} {t:TypeId} (h:w.heap[g]?=some (.cells (a0 :: a1 :: a2 :: a3 :: a4 :: l).toArray t)):g<w.heap.size∧w.cell? ⟨g,0,none⟩=some a0∧w.cell? ⟨g,1,none⟩=some a1∧w.cell? ⟨g,2,none⟩=some a2∧w.cell? ⟨g,3,none⟩=some a3∧w.cell? ⟨g,4,none⟩=some a4:=by
 have x0:=cell_of_row w _ 0 _ _ _ h
 have x1:=cell_of_row w _ 1 _ _ _ h
 have x2:=cell_of_row w _ 2 _ _ _ h
 have x3:=cell_of_row w _ 3 _ _ _ h
 have x4:=cell_of_row w _ 4 _ _ _ h
 simp only [List.getElem?_toArray,List.getElem?_cons_zero,List.getElem?_cons_succ] at x0 x1 x2 x3 x4
 exact ⟨lt_of_block h,x0,x1,x2,x3,x4⟩
theorem rk6 {w:World} {g:Nat} {a0 a1 a2 a3 a4 a5:Value} {l:List Value} {t:TypeId} (h:w.heap[g]?=some (.cells (a0 :: a1 :: a2 :: a3 :: a4 :: a5 :: l).toArray t)):g<w.heap.size∧w.cell? ⟨g,0,none⟩=some a0∧w.cell? ⟨g,1,none⟩=some a1∧w.cell? ⟨g,2,none⟩=some a2∧w.cell? ⟨g,3,none⟩=some a3∧w.cell? ⟨g,4,none⟩=some a4∧w.cell? ⟨g,5,none⟩=some a5:=by
 have x0:=cell_of_row w _ 0 _ _ _ h
 have x1:=cell_of_row w _ 1 _ _ _ h
 have x2:=cell_of_row w _ 2 _ _ _ h
 have x3:=cell_of_row w _ 3 _ _ _ h
 have x4:=cell_of_row w _ 4 _ _ _ h
 have x5:=cell_of_row w _ 5 _ _ _ h
 simp only [List.getElem?_toArray,List.getElem?_cons_zero,List.getElem?_cons_succ] at x0 x1 x2 x3 x4 x5
 exact ⟨lt_of_block h,x0,x1,x2,x3,x4,x5⟩
theorem rk7 {w:World} {g:Nat} {a0 a1 a2 a3 a4 a5 a6:Value} {l:List Value} {t:TypeId} (h:w.heap[g]?=some (.cells (a0 :: a1 :: a2 :: a3 :: a4 :: a5 :: a6 :: l).toArray t)):g<w.heap.size∧w.cell? ⟨g,0,none⟩=some a0∧w.cell? ⟨g,1,none⟩=some a1∧w.cell? ⟨g,2,none⟩=some a2∧w.cell? ⟨g,3,none⟩=some a3∧w.cell? ⟨g,4,none⟩=some a4∧w.cell? ⟨g,5,none⟩=some a5∧w.cell? ⟨g,6,none⟩=some a6:=by
 have x0:=cell_of_row w _ 0 _ _ _ h
 have x1:=cell_of_row w _ 1 _ _ _ h
 have x2:=cell_of_row w _ 2 _ _ _ h
 have x3:=cell_of_row w _ 3 _ _ _ h
 have x4:=cell_of_row w _ 4 _ _ _ h
 have x5:=cell_of_row w _ 5 _ _ _ h
 have x6:=cell_of_row w _ 6 _ _ _ h
 simp only [List.getElem?_toArray,List.getElem?_cons_zero,List.getElem?_cons_succ] at x0 x1 x2 x3 x4 x5 x6
 exact ⟨lt_of_block h,x0,x1,x2,x3,x4,x5,x6⟩
theorem rk8 {w:World} {g:Nat} {a0 a1 a2 a3 a4 a5 a6 a7:Value} {l:List Value} {t:TypeId} (h:w.heap[g]?=some (.cells (a0 :: a1 :: a2 :: a3 :: a4 :: a5 :: a6 :: a7 :: l).toArray t)):g<w.heap.size∧w.cell? ⟨g,0,none⟩=some a0∧w.cell? ⟨g,1,none⟩=some a1∧w.cell? ⟨g,2,none⟩=some a2∧w.cell? ⟨g,3,none⟩=some a3∧w.cell? ⟨g,4,none⟩=some a4∧w.cell? ⟨g,5,none⟩=some a5∧w.cell? ⟨g,6,none⟩=some a6∧w.cell? ⟨g,7,none⟩=some a7:=by
 have x0:=cell_of_row w _ 0 _ _ _ h
 have x1:=cell_of_row w _ 1 _ _ _ h
 have x2:=cell_of_row w _ 2 _ _ _ h
 have x3:=cell_of_row w _ 3 _ _ _ h
 have x4:=cell_of_row w _ 4 _ _ _ h
 have x5:=cell_of_row w _ 5 _ _ _ h
 have x6:=cell_of_row w _ 6 _ _ _ h
 have x7:=cell_of_row w _ 7 _ _ _ h
 simp only [List.getElem?_toArray,List.getElem?_cons_zero,List.getElem?_cons_succ] at x0 x1 x2 x3 x4 x5 x6 x7
 exact ⟨lt_of_block h,x0,x1,x2,x3,x4,x5,x6,x7⟩
end Go.Proofs.YtdfenhjibnfdeaaGreatDoor

namespace Go.Proofs.YtdfenhjibnfdeaaGreatDoor
open Go
def letterC (c:UInt8):Bool:=decide (97≤c.toNat∧c.toNat≤122∨65≤c.toNat∧c.toNat≤90)
def digitC (c:UInt8):Bool:=decide (48≤c.toNat∧c.toNat≤57)
def wordC (c:UInt8):Bool:=letterC c || digitC c || decide (c.toNat=95)
def preOK:List UInt8→Bool
 |[]=>true
 |c :: r=>letterC c && r.all wordC
theorem preOK_snoc (l:List UInt8) (c:UInt8):preOK (l++[c])=if l.length=0 then letterC c else (preOK l && wordC c):=by
 cases l with
 |nil=>simp [preOK]
 |cons a r=>simp [preOK,Bool.and_assoc]
theorem preOK_app {l:List UInt8} (m:List UInt8) (h:preOK l=false):preOK (l++m)=false:=by
 cases l with
 |nil=>simp [preOK] at h
 |cons a r =>
  simp only [List.cons_append,preOK,List.all_append] at h ⊢
  cases h1:letterC a<;>cases h2:r.all wordC<;>simp_all
def nameL (l:List UInt8):Bool:=decide (0<l.length) && decide (l.length≤24) && preOK l
def nameB (s:ByteArray):Bool:=nameL s.data.toList
structure TagD where
 key:ByteArray
 val:ByteArray
structure ObjD where
 id:ByteArray
 kind:Int
 x:Int
 y:Int
 refs:List ByteArray
 tags:List TagD
end Go.Proofs.YtdfenhjibnfdeaaGreatDoor
