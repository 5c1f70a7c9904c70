/-      -/
import Derived.WalkKit
import Derived.WalkSpells
import Derived.WalkLawsBesides
import Derived.BigQuiet
import Derived.Lib.Hide
import Derived.Deep.QuietTactic
import Derived.RegionTactic
import Derived.ChangeAlike
import Derived.BigRegion
import Derived.Handy
import Derived.StillTailTactics
import Derived.IntWalk
import Derived.Deep.RegionHeld3
import Derived.Lib.Bytealg
import Derived.Test.YtibpaaajghbkoaaGreatRows
import Derived.Test.YtibpaaajghbkoaaGreatWAa
namespace Go.Proofs.YtibpaaajghbkoaaGreat
open Go.RowKit
theorem zah {a b:Bool} (h:a=b):Ending.returned (.bool a)=.returned (.bool b):=by rw [h]
theorem znp {B:Nat} {a w:World} (h:Below B a w) {g:Nat} (hg:B≤g) (cs:Array Value):Below B a (w.setRow g cs) :=
 h.trans ⟨rfl,rfl,rfl,by simp,fun k hk=>setRow_other _ _ _ _ (by omega)⟩
theorem _root_.Go.RowKit.Below.drewN' {B:Nat} {a w:World} (h:Below B a w) {n:Nat}:Below B a (w.drewN n):=⟨h.os,h.tape,h.output,h.size,h.block⟩
theorem zac {B:Nat} {a w w':World} (h:Below B a w) (hB:B≤a.heap.size) (h2:Below w.heap.size w w'):Below B a w' :=
 h.trans (h2.mono (Nat.le_trans hB h.size))
theorem zaf {w:World} {g:Nat} {o:Obj} (h:w.heap[g]?=some o):g<w.heap.size:=by
 rcases Nat.lt_or_ge g w.heap.size with h' | h'
 ·exact h'
 ·simp [Array.getElem?_eq_none h'] at h
theorem zab {w w':World} (hb:Below w.heap.size w w') {g:Nat} {o:Obj} (h:w.heap[g]?=some o):w'.heap[g]?=some o :=
 (hb.block _ (zaf h)).trans h
theorem zao {w:World} {g:Nat} {o o':Obj} (h:w.heap[g]?=some o):(w.alloc o').heap[g]?=some o :=
 (Below.heap_alloc w o' g (zaf h)).trans h
theorem zan (w:World) (o:Obj):(w.alloc o).heap[w.heap.size]?=some o:=heap_alloc_new w o
theorem zfj (w:World) (a o:Obj):((w.alloc a).alloc o).heap[w.heap.size+1]?=some o:=heap_alloc2_new w a o
theorem zth (w:World) (a b o:Obj):(((w.alloc a).alloc b).alloc o).heap[w.heap.size+2]?=some o:=by have:=heap_alloc_new ((w.alloc a).alloc b) o;simpa using this
theorem zai {w:World} {g:Nat} {o:Obj} {a:Addr} {v:Value} (h:w.heap[g]?=some o) (hne:g≠a.block):(w.setCell a v).heap[g]?=some o :=
 (Below.heap_setCell w a v g hne).trans h
theorem zbl {w:World} {g i:Nat} {cs:Array Value} {t:TypeId} {v:Value} (h:w.heap[g]?=some (.cells cs t (0,0))):(w.setCell ⟨g,i,none⟩ v).heap[g]?=some (.cells (cs.setIfInBounds i v) t (0,0)) :=
 heap_setCell_same w g i cs t v h
theorem zgs {w:World} {g n:Nat} {o:Obj} (h:w.heap[g]?=some o):(w.drewN n).heap[g]?=some o:=h
theorem zcx {a b:ByteArray} (h:a=b):(a.toList==b.toList)=true:=by subst h;simp
theorem zck {a b:ByteArray} (h:a≠b):(a.toList==b.toList)=false:=by rw [beq_eq_false_iff_ne];intro hh;rw [ByteArray.toList_eq,ByteArray.toList_eq] at hh;exact h (ByteArray.ext (Array.toList_inj.mp hh))
theorem rk1 {w:World} {g:Nat} {a0:Value} {l:List Value} {t:TypeId} (h:w.heap[g]?=some (.cells (a0 :: l).toArray t)):g<w.heap.size∧w.cell? ⟨g,0,none⟩=some a0:=by have x0:=cell_of_row w _ 0 _ _ _ h;simp only [List.getElem?_toArray,List.getElem?_cons_zero] at x0;exact ⟨zaf h,x0⟩
theorem rk2 {w:World} {g:Nat} {a0 a1:Value} {l:List Value} {t:TypeId} (h:w.heap[g]?=some (.cells (a0 :: a1 :: l).toArray t)):g<w.heap.size∧w.cell? ⟨g,0,none⟩=some a0∧w.cell? ⟨g,1,none⟩=some a1:=by have x0:=cell_of_row w _ 0 _ _ _ h;have x1:=cell_of_row w _ 1 _ _ _ h;simp only [List.getElem?_toArray,List.getElem?_cons_zero,List.getElem?_cons_succ] at x0 x1;exact ⟨zaf h,x0,x1⟩
theorem rk3 {w:World} {g:Nat} {a0 a1 a2:Value} {l:List Value} {t:TypeId} (h:w.heap[g]?=some (.cells (a0 :: a1 :: a2 :: l).toArray t)):g<w.heap.size∧w.cell? ⟨g,0,none⟩=some a0∧w.cell? ⟨g,1,none⟩=some a1∧w.cell? ⟨g,2,none⟩=some a2:=by have x0:=cell_of_row w _ 0 _ _ _ h;have x1:=cell_of_row w _ 1 _ _ _ h;have x2:=cell_of_row w _ 2 _ _ _ h;simp only [List.getElem?_toArray,List.getElem?_cons_zero,List.getElem?_cons_succ] at x0 x1 x2;exact ⟨zaf h,x0,x1,x2⟩
theorem rk4 {w:World} {g:Nat} {a0 a1 a2 a3:Value} {l:List Value} {t:TypeId} (h:w.heap[g]?=some (.cells (a0 :: a1 :: a2 :: a3 :: l).toArray t)):g<w.heap.size∧w.cell? ⟨g,0,none⟩=some a0∧w.cell? ⟨g,1,none⟩=some a1∧w.cell? ⟨g,2,none⟩=some a2∧w.cell? ⟨g,3,none⟩=some a3:=by have x0:=cell_of_row w _ 0 _ _ _ h;have x1:=cell_of_row w _ 1 _ _ _ h;have x2:=cell_of_row w _ 2 _ _ _ h;have x3:=cell_of_row w _ 3 _ _ _ h;simp only [List.getElem?_toArray,List.getElem?_cons_zero,List.getElem?_cons_succ] at x0 x1 x2 x3;exact ⟨zaf h,x0,x1,x2,x3⟩
theorem rk5 {w:World} {g:Nat} {a0 a1 a2 a3 a4:Value} {l:List Value} {t:TypeId} (h:w.heap[g]?=some (.cells (a0 :: a1 :: a2 :: a3 :: a4 :: l).toArray t)):g<w.heap.size∧w.cell? ⟨g,0,none⟩=some a0∧w.cell? ⟨g,1,none⟩=some a1∧w.cell? ⟨g,2,none⟩=some a2∧w.cell? ⟨g,3,none⟩=some a3∧w.cell? ⟨g,4,none⟩=some a4:=by have x0:=cell_of_row w _ 0 _ _ _ h;have x1:=cell_of_row w _ 1 _ _ _ h;have x2:=cell_of_row w _ 2 _ _ _ h;have x3:=cell_of_row w _ 3 _ _ _ h;have x4:=cell_of_row w _ 4 _ _ _ h;simp only [List.getElem?_toArray,List.getElem?_cons_zero,List.getElem?_cons_succ] at x0 x1 x2 x3 x4;exact ⟨zaf h,x0,x1,x2,x3,x4⟩
theorem rk6 {w:World} {g:Nat} {a0 a1 a2 a3 a4 a5:Value} {l:List Value} {t:TypeId} (h:w.heap[g]?=some (.cells (a0 :: a1 :: a2 :: a3 :: a4 :: a5 :: l).toArray t)):g<w.heap.size∧w.cell? ⟨g,0,none⟩=some a0∧w.cell? ⟨g,1,none⟩=some a1∧w.cell? ⟨g,2,none⟩=some a2∧w.cell? ⟨g,3,none⟩=some a3∧w.cell? ⟨g,4,none⟩=some a4∧w.cell? ⟨g,5,none⟩=some a5:=by have x0:=cell_of_row w _ 0 _ _ _ h;have x1:=cell_of_row w _ 1 _ _ _ h;have x2:=cell_of_row w _ 2 _ _ _ h;have x3:=cell_of_row w _ 3 _ _ _ h;have x4:=cell_of_row w _ 4 _ _ _ h;have x5:=cell_of_row w _ 5 _ _ _ h;simp only [List.getElem?_toArray,List.getElem?_cons_zero,List.getElem?_cons_succ] at x0 x1 x2 x3 x4 x5;exact ⟨zaf h,x0,x1,x2,x3,x4,x5⟩
theorem rk7 {w:World} {g:Nat} {a0 a1 a2 a3 a4 a5 a6:Value} {l:List Value} {t:TypeId} (h:w.heap[g]?=some (.cells (a0 :: a1 :: a2 :: a3 :: a4 :: a5 :: a6 :: l).toArray t)):g<w.heap.size∧w.cell? ⟨g,0,none⟩=some a0∧w.cell? ⟨g,1,none⟩=some a1∧w.cell? ⟨g,2,none⟩=some a2∧w.cell? ⟨g,3,none⟩=some a3∧w.cell? ⟨g,4,none⟩=some a4∧w.cell? ⟨g,5,none⟩=some a5∧w.cell? ⟨g,6,none⟩=some a6:=by have x0:=cell_of_row w _ 0 _ _ _ h;have x1:=cell_of_row w _ 1 _ _ _ h;have x2:=cell_of_row w _ 2 _ _ _ h;have x3:=cell_of_row w _ 3 _ _ _ h;have x4:=cell_of_row w _ 4 _ _ _ h;have x5:=cell_of_row w _ 5 _ _ _ h;have x6:=cell_of_row w _ 6 _ _ _ h;simp only [List.getElem?_toArray,List.getElem?_cons_zero,List.getElem?_cons_succ] at x0 x1 x2 x3 x4 x5 x6;exact ⟨zaf h,x0,x1,x2,x3,x4,x5,x6⟩
theorem rk8 {w:World} {g:Nat} {a0 a1 a2 a3 a4 a5 a6 a7:Value} {l:List Value} {t:TypeId} (h:w.heap[g]?=some (.cells (a0 :: a1 :: a2 :: a3 :: a4 :: a5 :: a6 :: a7 :: l).toArray t)):g<w.heap.size∧w.cell? ⟨g,0,none⟩=some a0∧w.cell? ⟨g,1,none⟩=some a1∧w.cell? ⟨g,2,none⟩=some a2∧w.cell? ⟨g,3,none⟩=some a3∧w.cell? ⟨g,4,none⟩=some a4∧w.cell? ⟨g,5,none⟩=some a5∧w.cell? ⟨g,6,none⟩=some a6∧w.cell? ⟨g,7,none⟩=some a7:=by have x0:=cell_of_row w _ 0 _ _ _ h;have x1:=cell_of_row w _ 1 _ _ _ h;have x2:=cell_of_row w _ 2 _ _ _ h;have x3:=cell_of_row w _ 3 _ _ _ h;have x4:=cell_of_row w _ 4 _ _ _ h;have x5:=cell_of_row w _ 5 _ _ _ h;have x6:=cell_of_row w _ 6 _ _ _ h;have x7:=cell_of_row w _ 7 _ _ _ h;simp only [List.getElem?_toArray,List.getElem?_cons_zero,List.getElem?_cons_succ] at x0 x1 x2 x3 x4 x5 x6 x7;exact ⟨zaf h,x0,x1,x2,x3,x4,x5,x6,x7⟩
theorem gA11 {w w1:World} {o1:Obj} (h:w.alloc o1=w1):w1.heap[w.heap.size]?=some o1:=by subst h;exact zan (w) o1
theorem gA21 {w w1:World} {o1 o2:Obj} (h:(w.alloc o1).alloc o2=w1):w1.heap[w.heap.size]?=some o1:=by subst h;exact zao (o':=o2) (zan (w) o1)
theorem gA22 {w w1:World} {o1 o2:Obj} (h:(w.alloc o1).alloc o2=w1):w1.heap[w.heap.size+1]?=some o2:=by subst h;have x:=zan (w.alloc o1) o2;simpa using x
theorem gA31 {w w1:World} {o1 o2 o3:Obj} (h:((w.alloc o1).alloc o2).alloc o3=w1):w1.heap[w.heap.size]?=some o1:=by subst h;exact zao (o':=o3) (zao (o':=o2) (zan (w) o1))
theorem gA32 {w w1:World} {o1 o2 o3:Obj} (h:((w.alloc o1).alloc o2).alloc o3=w1):w1.heap[w.heap.size+1]?=some o2:=by subst h;have x:=zao (o':=o3) (zan (w.alloc o1) o2);simpa using x
theorem gA33 {w w1:World} {o1 o2 o3:Obj} (h:((w.alloc o1).alloc o2).alloc o3=w1):w1.heap[w.heap.size+2]?=some o3:=by subst h;have x:=zan ((w.alloc o1).alloc o2) o3;simpa using x
theorem gA41 {w w1:World} {o1 o2 o3 o4:Obj} (h:(((w.alloc o1).alloc o2).alloc o3).alloc o4=w1):w1.heap[w.heap.size]?=some o1:=by subst h;exact zao (o':=o4) (zao (o':=o3) (zao (o':=o2) (zan (w) o1)))
theorem gA42 {w w1:World} {o1 o2 o3 o4:Obj} (h:(((w.alloc o1).alloc o2).alloc o3).alloc o4=w1):w1.heap[w.heap.size+1]?=some o2:=by subst h;have x:=zao (o':=o4) (zao (o':=o3) (zan (w.alloc o1) o2));simpa using x
theorem gA43 {w w1:World} {o1 o2 o3 o4:Obj} (h:(((w.alloc o1).alloc o2).alloc o3).alloc o4=w1):w1.heap[w.heap.size+2]?=some o3:=by subst h;have x:=zao (o':=o4) (zan ((w.alloc o1).alloc o2) o3);simpa using x
theorem gB1 {w w1:World} {o1:Obj} (h:w.alloc o1=w1):Below w.heap.size w w1:=by subst h;exact (Below.refl _ _).alloc (Nat.le_refl _) _
theorem gB2 {w w1:World} {o1 o2:Obj} (h:(w.alloc o1).alloc o2=w1):Below w.heap.size w w1:=by subst h;exact ((Below.refl _ _).alloc (Nat.le_refl _) _).alloc (by simp<;>omega) _
theorem gB3 {w w1:World} {o1 o2 o3:Obj} (h:((w.alloc o1).alloc o2).alloc o3=w1):Below w.heap.size w w1:=by subst h;exact (((Below.refl _ _).alloc (Nat.le_refl _) _).alloc (by simp<;>omega) _).alloc (by simp<;>omega) _
theorem gB4 {w w1:World} {o1 o2 o3 o4:Obj} (h:(((w.alloc o1).alloc o2).alloc o3).alloc o4=w1):Below w.heap.size w w1:=by subst h;exact ((((Below.refl _ _).alloc (Nat.le_refl _) _).alloc (by simp<;>omega) _).alloc (by simp<;>omega) _).alloc (by simp<;>omega) _
theorem zH {p:Prop} (h:p):Hid p:=Lib.hid h
theorem zR {n:Nat}:n≤n:=Nat.le_refl n
theorem zM {α:Type} {l:List α} {i:Nat} {a:α} (h:l[i]?=some a):a∈l:=List.mem_of_getElem? h
end Go.Proofs.YtibpaaajghbkoaaGreat

namespace Go.Proofs.YtibpaaajghbkoaaGreat
open Go
def zdu (c:UInt8):Bool:=decide (97≤c.toNat∧c.toNat≤122∨65≤c.toNat∧c.toNat≤90)
def zly (c:UInt8):Bool:=decide (48≤c.toNat∧c.toNat≤57)
def zir (c:UInt8):Bool:=zdu c || zly c || decide (c.toNat=95)
def zkq:List UInt8→Bool
 |[]=>true
 |c :: r=>zdu c && r.all zir
theorem zadt (l:List UInt8) (c:UInt8):zkq (l++[c])=if l.length=0 then zdu c else (zkq l && zir c):=by
 cases l with
 |nil=>simp [zkq]
 |cons a r=>simp [zkq,Bool.and_assoc]
theorem zvu {l:List UInt8} (m:List UInt8) (h:zkq l=false):zkq (l++m)=false:=by
 cases l with
 |nil=>simp [zkq] at h
 |cons a r =>simp only [List.cons_append,zkq,List.all_append] at h ⊢;cases h1:zdu a<;>cases h2:r.all zir<;>simp_all
def ztv (l:List UInt8):Bool:=decide (0<l.length) && decide (l.length≤24) && zkq l
def zcw (s:ByteArray):Bool:=ztv s.data.toList
structure TagD where
 key:ByteArray
 val:ByteArray
structure ObjD where
 id:ByteArray
 kind:Int
 x:Int
 y:Int
 refs:List ByteArray
 tags:List TagD
def ltB (a b:ByteArray):Bool:=Op.bytesLess a.toList b.toList
theorem zxg:∀(x y:List UInt8),(Op.bytesLess x y || x==y) = !Op.bytesLess y x
 |[],[]=>by simp [Op.bytesLess]
 |[],_ :: _=>by simp [Op.bytesLess]
 |_ :: _,[]=>by simp [Op.bytesLess]
 |a :: x,b :: y=>by
  have ih:=zxg x y;simp only [Op.bytesLess];rcases Nat.lt_trichotomy a.toNat b.toNat with h | h | h
  ·have h1:a<b:=UInt8.lt_iff_toNat_lt.2 h;have h2:¬b<a:=fun e=>(by have:=UInt8.lt_iff_toNat_lt.1 e;omega);have h3:¬b=a:=fun e=>(by subst e;omega);simp [h1,h2,h3]
  ·have e:a=b:=UInt8.toNat_inj.1 h;subst e;have h2:¬a<a:=fun e=>(by have:=UInt8.lt_iff_toNat_lt.1 e;omega);simp only [h2,decide_false,beq_self_eq_true,Bool.true_and,Bool.false_or];rw [←ih];congr 1;simp
  ·have h1:b<a:=UInt8.lt_iff_toNat_lt.2 h;have h2:¬a<b:=fun e=>(by have:=UInt8.lt_iff_toNat_lt.1 e;omega);have h3:¬a=b:=fun e=>(by subst e;omega);simp [h1,h2,h3]
theorem leqB (a b:ByteArray):(Op.bytesLess a.toList b.toList || a.toList==b.toList) = !ltB b a:=zxg _ _
def zbv:ByteArray→List TagD→Bool
 |_,[]=>true
 |last,t :: l=>zcw t.key && ltB last t.key && decide (0<t.val.size∧t.val.size≤200) && zbv t.key l
def zdq (l:List TagD):Bool:=decide (l.length≤60) && zbv ⟨#[]⟩ l
def zar (kind:Int):List ByteArray→List ByteArray→Bool
 |_,[]=>true
 |pre,s :: l=>zcw s && !(decide (kind=2) && decide (pre.getLast?=some s)) && !(decide (kind=3) && pre.any fun p=>decide (p=s)) && zar kind (pre++[s]) l
end Go.Proofs.YtibpaaajghbkoaaGreat

namespace Go.Proofs.YtibpaaajghbkoaaGreat
open Go.RowKit
def ib1 (k:Nat):Int:=Lib.indexByte (⟨#[32,9,10]⟩:ByteArray).data.toList k.toUInt8
def ib2 (k:Nat):Int:=Lib.indexByte (⟨#[59,44,46,58,40,41,123,125,91,93,61,60,62,47,45]⟩:ByteArray).data.toList k.toUInt8
theorem zoo (k:Nat) (w:World):Calls Tryz.prog 238 #[.string ⟨#[32,9,10]⟩,.int .u8 k] w fun e w'=>e=.returned (.int .i64 (ib1 k))∧w=w' :=
 (Tryz.strings_IndexByte _ _ w).mono fun _ _ h=>⟨h.1,h.2.symm⟩
theorem zon (k:Nat) (w:World):Calls Tryz.prog 238 #[.string ⟨#[59,44,46,58,40,41,123,125,91,93,61,60,62,47,45]⟩,.int .u8 k] w fun e w'=>e=.returned (.int .i64 (ib2 k))∧w=w' :=
 (Tryz.strings_IndexByte _ _ w).mono fun _ _ h=>⟨h.1,h.2.symm⟩
def cls0 (k:Nat):Int :=
 if 97≤k∧k≤122∨65≤k∧k≤90 then 3 else if 48≤k∧k≤57 then 4 else if 0≤ib1 k then 1 else if 0≤ib2 k then 6 else 0
def tabU (f:Nat→Int):Array Value:=((List.range 256).map fun i=>Value.int .u8 (f i)).toArray
def cutF (f:Nat→Int) (k:Nat):Nat→Int:=fun i=>if i<k then f i else 0
def putF (f:Nat→Int) (k:Nat) (v:Int):Nat→Int:=fun i=>if i=k then v else f i
theorem zfw (f:Nat→Int):(tabU f).size=256:=by simp [tabU]
theorem zmq (f:Nat→Int) (k:Nat) (h:k<256):(tabU f)[k]?=some (.int .u8 (f k)):=by simp [tabU,h]
theorem zfx (f:Nat→Int) (k:Nat) (v:Int):(tabU f).setIfInBounds k (.int .u8 v)=tabU (putF f k v):=by
 apply Array.ext
 ·simp [tabU]
 ·intro i h1 h2;simp only [tabU,List.setIfInBounds_toArray,List.getElem_toArray,List.getElem_set,List.getElem_map,List.getElem_range,putF];by_cases h:i=k
  ·subst h;simp
  ·rw [if_neg (fun e=>h e.symm),if_neg h]
theorem zod (f:Nat→Int) (k:Nat):putF (cutF f k) k (f k)=cutF f (k+1):=by
 funext i;simp only [putF,cutF];by_cases h:i=k
 ·subst h;simp
 ·rw [if_neg h];by_cases h2:i<k
  ·rw [if_pos h2,if_pos (by omega)]
  ·rw [if_neg h2,if_neg (by omega)]
theorem zaky (f:Nat→Int) (k:Nat) (h:f k=0):cutF f k=cutF f (k+1):=by
 rw [←zod,h];funext i;simp only [putF,cutF];by_cases h:i=k
 ·subst h;simp
 ·rw [if_neg h]
theorem zaam (f:Nat→Int):(tabU f).all (·.oneCell')=true:=by simp [tabU,Value.oneCell']
set_option maxRecDepth 100000 in
theorem zacx:tabU (fun _=>0)=Tryz.zeroCells222:=by rfl
set_option maxRecDepth 100000 in
theorem zuy:tabU (cutF cls0 0)=Tryz.zeroCells222:=zacx
def clsF:Nat→Int:=putF (putF (putF (cutF cls0 256) 35 2) 95 5) 34 7
set_option maxRecDepth 100000 in
set_option maxHeartbeats 2000000 in
theorem zzx (w:World) :
  Calls Tryz.prog 179 #[] w fun e w'=>e=.returned (.agg (tabU clsF))∧Below w.heap.size w w':=by
 have hz:=zH zuy;go_enter Tryz.func179,Tryz.ntmps179;go_wp2;go_loopw [4] (fun i wr=>∃k:Nat,k≤256∧i=.int .i64 k∧wr=(w.alloc (.cells Tryz.zeroCells222 222)).alloc (.cells (tabU (cutF cls0 k)) 222)) (fun i _=>256 - (intOf i).toNat);case atStart=>exact ⟨0,by omega,rfl,by rw [hz.out]⟩
 case round =>
  obtain ⟨k,hk,rfl,rfl⟩:=hrel;by_cases hlt:k<256
  ·have hs:=zfw (cutF cls0 k);have hg:(tabU (cutF cls0 k))[k]?=some (.int .u8 0):=(by rw [zmq _ _ hlt];simp [cutF]);by_cases h1:97≤k∧k≤122
   ·obtain ⟨a1,a2⟩:=h1;have HC:=zH (show (tabU (cutF cls0 k)).setIfInBounds k (.int .u8 3)=tabU (cutF cls0 (k+1)) by rw [zfx,←zod];congr 2;rw [cls0,if_pos (by omega)]);go_wp2_with (first | (go_at_call 238;refine (zoo k _).mono ?_;rintro e w' ⟨rfl,rfl⟩) | (go_at_call 238;refine (zon k _).mono ?_;rintro e w' ⟨rfl,rfl⟩));all_goals
     go_roundw;case rel=>exact ⟨k+1,by omega,by go_num,by rw [←HC.out]⟩
     case measure=>simp [intOf];omega
   by_cases h2:65≤k∧k≤90
   ·obtain ⟨a1,a2⟩:=h2;have HC:=zH (show (tabU (cutF cls0 k)).setIfInBounds k (.int .u8 3)=tabU (cutF cls0 (k+1)) by rw [zfx,←zod];congr 2;rw [cls0,if_pos (by omega)]);go_wp2_with (first | (go_at_call 238;refine (zoo k _).mono ?_;rintro e w' ⟨rfl,rfl⟩) | (go_at_call 238;refine (zon k _).mono ?_;rintro e w' ⟨rfl,rfl⟩));all_goals
     go_roundw;case rel=>exact ⟨k+1,by omega,by go_num,by rw [←HC.out]⟩
     case measure=>simp [intOf];omega
   by_cases h3:48≤k∧k≤57
   ·obtain ⟨a1,a2⟩:=h3;have HC:=zH (show (tabU (cutF cls0 k)).setIfInBounds k (.int .u8 4)=tabU (cutF cls0 (k+1)) by rw [zfx,←zod];congr 2;rw [cls0,if_neg (by omega),if_pos (by omega)]);clear h1 h2;go_wp2_with (first | (go_at_call 238;refine (zoo k _).mono ?_;rintro e w' ⟨rfl,rfl⟩) | (go_at_call 238;refine (zon k _).mono ?_;rintro e w' ⟨rfl,rfl⟩));all_goals
     go_roundw;case rel=>exact ⟨k+1,by omega,by go_num,by rw [←HC.out]⟩
     case measure=>simp [intOf];omega
   have hl:¬(97≤k∧k≤122∨65≤k∧k≤90):=(by omega);by_cases h4:0≤ib1 k
   ·have HC:=zH (show (tabU (cutF cls0 k)).setIfInBounds k (.int .u8 1)=tabU (cutF cls0 (k+1)) by rw [zfx,←zod];congr 2;rw [cls0,if_neg hl,if_neg h3,if_pos h4]);clear hl;go_wp2_with (first | (go_at_call 238;refine (zoo k _).mono ?_;rintro e w' ⟨rfl,rfl⟩) | (go_at_call 238;refine (zon k _).mono ?_;rintro e w' ⟨rfl,rfl⟩));all_goals
     go_roundw;case rel=>exact ⟨k+1,by omega,by go_num,by rw [←HC.out]⟩
     case measure=>simp [intOf];omega
   have h4':ib1 k<0:=(by omega);by_cases h5:0≤ib2 k
   ·have HC:=zH (show (tabU (cutF cls0 k)).setIfInBounds k (.int .u8 6)=tabU (cutF cls0 (k+1)) by rw [zfx,←zod];congr 2;rw [cls0,if_neg hl,if_neg h3,if_neg h4,if_pos h5]);clear hl;go_wp2_with (first | (go_at_call 238;refine (zoo k _).mono ?_;rintro e w' ⟨rfl,rfl⟩) | (go_at_call 238;refine (zon k _).mono ?_;rintro e w' ⟨rfl,rfl⟩));all_goals
     go_roundw;case rel=>exact ⟨k+1,by omega,by go_num,by rw [←HC.out]⟩
     case measure=>simp [intOf];omega
   have h5':ib2 k<0:=(by omega);have HC:=zH (show tabU (cutF cls0 k)=tabU (cutF cls0 (k+1)) by rw [zaky];rw [cls0,if_neg hl,if_neg h3,if_neg h4,if_neg h5]);clear hl;go_wp2_with (first | (go_at_call 238;refine (zoo k _).mono ?_;rintro e w' ⟨rfl,rfl⟩) | (go_at_call 238;refine (zon k _).mono ?_;rintro e w' ⟨rfl,rfl⟩));all_goals
    go_roundw;case rel=>exact ⟨k+1,by omega,by go_num,by rw [←HC.out]⟩
    case measure=>simp [intOf];omega
  ·obtain rfl:k=256:=(by omega);clear hlt hk;have g1:(tabU (cutF cls0 256))[35]?=some (.int .u8 (cutF cls0 256 35)):=zmq _ _ (by omega);have hs:=zfw (cutF cls0 256);have g2:((tabU (cutF cls0 256)).setIfInBounds 35 (.int .u8 2))[95]?=some (.int .u8 (putF (cutF cls0 256) 35 2 95)):=(by rw [zfx];exact zmq _ _ (by omega));have g3:(((tabU (cutF cls0 256)).setIfInBounds 35 (.int .u8 2)).setIfInBounds 95 (.int .u8 5))[34]?=some (.int .u8 (putF (putF (cutF cls0 256) 35 2) 95 5 34)):=(by rw [zfx,zfx];exact zmq _ _ (by omega));have E3:=zH (show ((((tabU (cutF cls0 256)).setIfInBounds 35 (.int .u8 2)).setIfInBounds 95 (.int .u8 5)).setIfInBounds 34 (.int .u8 7))=tabU clsF by rw [zfx,zfx,zfx];rfl);have hsz:(Tryz.prog.info? 222).map (·.size)=some ((((tabU (cutF cls0 256)).setIfInBounds 35 (.int .u8 2)).setIfInBounds 95 (.int .u8 5)).setIfInBounds 34 (.int .u8 7)).size:=(by rw [E3.out,zfw];kernel_rfl);have hz2:Tryz.zeroCells222.size=((((tabU (cutF cls0 256)).setIfInBounds 35 (.int .u8 2)).setIfInBounds 95 (.int .u8 5)).setIfInBounds 34 (.int .u8 7)).size:=(by rw [E3.out,←hz.out,zfw,zfw]);have h1:((((tabU (cutF cls0 256)).setIfInBounds 35 (.int .u8 2)).setIfInBounds 95 (.int .u8 5)).setIfInBounds 34 (.int .u8 7)).all (·.oneCell')=true:=(by rw [E3.out];exact zaam _);have HS:=zH hsz;have H2:=zH hz2;have H1:=zH h1;clear hsz hz2 h1;go_wp2_with (first
    |(refine wpList_load_row rfl 222 (.tmp 1) rfl (w.heap.size+1) rfl 222 ((((tabU (cutF cls0 256)).setIfInBounds 35 (.int .u8 2)).setIfInBounds 95 (.int .u8 5)).setIfInBounds 34 (.int .u8 7)) (0,0) _ (heap_alloc2_new w _ _) Tryz.underlying222 rfl HS.out ?_)
    |(refine wpList_store_row rfl 222 (.tmp 0) (.tmp 49) rfl w.heap.size ((((tabU (cutF cls0 256)).setIfInBounds 35 (.int .u8 2)).setIfInBounds 95 (.int .u8 5)).setIfInBounds 34 (.int .u8 7)) rfl rfl 222 Tryz.zeroCells222 (heap_alloc2_old w _ _) HS.out H2.out H1.out ?_))
   rw [←E3.out];refine bodyPost_ret (v:=.agg ((((tabU (cutF cls0 256)).setIfInBounds 35 (.int .u8 2)).setIfInBounds 95 (.int .u8 5)).setIfInBounds 34 (.int .u8 7))) ?_ rfl ⟨rfl,?_⟩
   ·exact results_cell_row (p:=0) rfl _ _ w.heap.size 222 ((((tabU (cutF cls0 256)).setIfInBounds 35 (.int .u8 2)).setIfInBounds 95 (.int .u8 5)).setIfInBounds 34 (.int .u8 7)) (0,0) _ rfl (setRow_heap _ _ Tryz.zeroCells222 _ _ _ (heap_alloc2_old w _ _)) Tryz.underlying222 rfl HS.out
   ·exact znp (((Below.refl _ _).alloc zR _).alloc (by simp) _) zR _
end Go.Proofs.YtibpaaajghbkoaaGreat

namespace Go.Proofs.YtibpaaajghbkoaaGreat
open Go.RowKit
theorem zaew (n:Nat) (h:n<256):(97≤n∧n≤122∨65≤n∧n≤90→clsF n=3)∧(48≤n∧n≤57→clsF n=4)∧(n=95→clsF n=5) ∧
  (¬(97≤n∧n≤122∨65≤n∧n≤90)→¬(48≤n∧n≤57)→n≠95→clsF n≠3∧clsF n≠4∧clsF n≠5):=by
 simp only [clsF,putF,cutF,if_pos h];refine ⟨fun h1=>?_,fun h1=>?_,fun h1=>?_,fun h1 h2 h3=>?_⟩
 ·rw [if_neg (by omega),if_neg (by omega),if_neg (by omega),cls0,if_pos h1]
 ·rw [if_neg (by omega),if_neg (by omega),if_neg (by omega),cls0,if_neg (by omega),if_pos h1]
 ·rw [if_neg (by omega),if_pos h1]
 ·rw [if_neg h3,cls0,if_neg h1,if_neg h2];split
  ·omega
  ·split
   ·omega
   ·split
    ·omega
    ·split<;>omega
theorem zuw (s:ByteArray) (k:Nat) (h:k<s.size):s.data.toList.take (k+1)=s.data.toList.take k++[s[k]]:=by rw [List.take_succ_eq_append_getElem (by simpa using h)];rfl
theorem zafo {s:ByteArray} (h:s.size=0):s.toList=[]:=by rw [ByteArray.toList_eq];exact List.eq_nil_of_length_eq_zero (by rw [Array.length_toList];exact h)
theorem zbo {s:ByteArray} (h:0<s.size):s.toList.isEmpty=false:=by rw [ByteArray.toList_eq,List.isEmpty_eq_false_iff];intro e;have:=congrArg List.length e;rw [Array.length_toList] at this;have h2:s.data.size=s.size:=rfl;simp only [List.length_nil] at this;omega
theorem zacy {s:ByteArray} (h:0<s.size):(s.toList==[])=false:=by rw [beq_eq_false_iff_ne];intro e;have:=zbo h;rw [e] at this;simp at this
set_option maxRecDepth 100000 in
set_option maxHeartbeats 1000000 in
theorem zgb (s:ByteArray) (hs:s.size≤140737488355328) (w:World) :
  Calls Tryz.prog 129 #[.string s] w fun e w'=>e=.returned (.bool (zcw s))∧Below w.heap.size w w':=by
 go_enter Tryz.func129,Tryz.ntmps129;go_wp2_with fail;refine (zzx _).mono ?_;rintro e w1 ⟨rfl,hb1⟩;have HS:=zH (show (Tryz.prog.info? 222).map (·.size)=some (tabU clsF).size by rw [zfw];kernel_rfl);have H2:=zH (show Tryz.zeroCells222.size=(tabU clsF).size by rw [←zuy,zfw,zfw]);go_wp2_with (refine wpList_store_row rfl 222 (.tmp 3) (.tmp 6) rfl w1.heap.size (tabU clsF) rfl rfl 222 Tryz.zeroCells222 (heap_alloc_new w1 _) HS.out H2.out (zaam _) ?_);have HB:=zH (setRow_heap _ w1.heap.size Tryz.zeroCells222 (tabU clsF) 222 (0,0) (heap_alloc_new w1 (.cells Tryz.zeroCells222 222)));have B2:Below w.heap.size w ((w1.alloc (.cells Tryz.zeroCells222 222)).setRow w1.heap.size (tabU clsF)):=znp (hb1.alloc hb1.size _) hb1.size _;generalize hw2:(w1.alloc (.cells Tryz.zeroCells222 222)).setRow w1.heap.size (tabU clsF)=w2;rw [hw2] at HB B2;clear hw2 HS H2 hb1;have bz:=zaf HB.out;go_loop [9] (fun i=>∃k:Nat,k≤s.size∧i=.int .i64 k∧zkq (s.data.toList.take k)=true) (fun i=>s.size - (intOf i).toNat);case atStart=>exact ⟨0,by omega,rfl,rfl⟩
 case round =>
  obtain ⟨k,hk,rfl,hpre⟩:=hrel;have HP:=zH hpre;clear hpre;by_cases hlt:k<s.size
  ·have hu:=UInt8.toNat_lt s[k];have CL:=zaew s[k].toNat hu;have HT:=zH (zuw s k hlt);have HL:=zH (show (s.data.toList.take k).length=k by rw [List.length_take];simp;omega);have c0:w2.cell? ⟨w1.heap.size,s[k].toNat,none⟩=some (.int .u8 (clsF s[k].toNat)):=(cell_of_row w2 _ s[k].toNat _ _ _ HB.out).trans (zmq _ _ hu);have hts:=zfw clsF;have HN:=zH (show zkq (s.data.toList.take (k+1))=if k=0 then zdu s[k] else zir s[k] by rw [HT.out,zadt,HL.out,HP.out];simp);by_cases hl:97≤s[k].toNat∧s[k].toNat≤122∨65≤s[k].toNat∧s[k].toNat≤90
   ·rw [CL.1 hl] at c0;have HG:=zH (show zkq (s.data.toList.take (k+1))=true by
     have h1:zdu s[k]=true:=by rw [zdu,decide_eq_true_eq];exact hl
     rw [HN.out,zir,h1];simp)
    clear CL hl;go_wp2;go_round;case rel=>exact ⟨k+1,by omega,by go_num,HG.out⟩
    case measure=>simp [intOf];omega
   have h1:zdu s[k]=false:=(by rw [zdu,decide_eq_false_iff_not];exact hl);by_cases h0:k=0
   ·have HF:=zH (show zkq (s.data.toList.take (k+1))=false by rw [HN.out,if_pos h0,h1]);have h3:(clsF s[k].toNat != 3)=true:=by
     rw [bne_iff_ne];by_cases hd:48≤s[k].toNat∧s[k].toNat≤57
     ·rw [CL.2.1 hd];decide
     ·by_cases hu:s[k].toNat=95
      ·rw [CL.2.2.1 hu];decide
      ·exact (CL.2.2.2 hl hd hu).1
    have h3':¬clsF s[k].toNat=3:=(by rw [bne_iff_ne] at h3;exact h3);generalize clsF s[k].toNat=cv at *;have k0:((k:Int)==0)=true:=(by rw [beq_iff_eq];omega);clear CL hl h1 h0;have HB2:=zH (show zcw s=false by
     have h2:=zvu (s.data.toList.drop (k+1)) HF.out
     rw [List.take_append_drop] at h2
     rw [zcw,ztv,h2];simp)
    go_wp2;go_ret;exact ⟨zah HB2.out.symm,B2⟩
   have k0:((k:Int)==0)=false:=(by rw [beq_eq_false_iff_ne];omega);by_cases hd:48≤s[k].toNat∧s[k].toNat≤57
   ·rw [CL.2.1 hd] at c0;have HG:=zH (show zkq (s.data.toList.take (k+1))=true by
     have h2:zly s[k]=true:=by rw [zly,decide_eq_true_eq];exact hd
     rw [HN.out,if_neg h0,zir,h2];simp)
    clear CL hl h1 h0 hd;go_wp2;go_round;case rel=>exact ⟨k+1,by omega,by go_num,HG.out⟩
    case measure=>simp [intOf];omega
   by_cases hu5:s[k].toNat=95
   ·rw [CL.2.2.1 hu5] at c0;have HG:=zH (show zkq (s.data.toList.take (k+1))=true by rw [HN.out,if_neg h0,zir,hu5];simp)
    clear CL hl h1 h0 hd hu5;go_wp2;go_round;case rel=>exact ⟨k+1,by omega,by go_num,HG.out⟩
    case measure=>simp [intOf];omega
   have HF:=zH (show zkq (s.data.toList.take (k+1))=false by
    have h2:zly s[k]=false:=by rw [zly,decide_eq_false_iff_not];exact hd
    rw [HN.out,if_neg h0,zir,h1,h2];simp [hu5])
   obtain ⟨n3,n4,n5⟩:=CL.2.2.2 hl hd hu5;have h3:(clsF s[k].toNat != 3)=true:=(by rw [bne_iff_ne];exact n3);have h4:(clsF s[k].toNat != 4)=true:=(by rw [bne_iff_ne];exact n4);have h5:(clsF s[k].toNat != 5)=true:=(by rw [bne_iff_ne];exact n5);generalize clsF s[k].toNat=cv at *;clear CL hl h1 h0 hd hu5;have HB2:=zH (show zcw s=false by
    have h2:=zvu (s.data.toList.drop (k+1)) HF.out
    rw [List.take_append_drop] at h2
    rw [zcw,ztv,h2];simp)
   go_wp2;go_ret;exact ⟨zah HB2.out.symm,B2⟩
  ·obtain rfl:k=s.size:=(by omega);have hall:s.data.toList.take s.size=s.data.toList:=List.take_of_length_le (by simp);have HE:=zH (show zcw s=(decide (0<s.size) && decide (s.size≤24)) by
    have h:=HP.out
    rw [hall] at h
    rw [zcw,ztv,h];simp)
   clear hall;by_cases z:0<s.size
   ·have e0:(s.toList==[])=false:=zacy z;have e1:s.toList.isEmpty=false:=zbo z;by_cases z2:s.size≤24
    ·go_wp2;go_ret;exact ⟨zah (by rw [HE.out];simp [z];omega),B2⟩
    ·go_wp2;go_ret;exact ⟨zah (by rw [HE.out];simp [z];omega),B2⟩
   ·have e0:s.toList=[]:=zafo (by omega);have e1:s.toList.isEmpty=true:=(by rw [e0];rfl);go_wp2;go_ret;exact ⟨zah (by rw [HE.out];simp [z]),B2⟩
end Go.Proofs.YtibpaaajghbkoaaGreat

namespace Go.Proofs.YtibpaaajghbkoaaGreat
open Go.RowKit
set_option maxHeartbeats 400000 in
theorem zqb (c:UInt8) (w:World) :
  Calls Tryz.prog 232 #[.int .u8 c.toNat] w fun e w'=>e=.returned (.bool (zdu c))∧w=w':=by
 have hu:=UInt8.toNat_lt c;go_enter Tryz.func232,Tryz.ntmps232;by_cases h1:97≤c.toNat
 ·by_cases h2:c.toNat≤122
  ·go_wp2;go_ret;exact ⟨zah (by rw [zdu,Bool.eq_iff_iff];first | (simp;done) | (simp;omega)),rfl⟩
  ·go_wp2;go_ret;exact ⟨zah (by rw [zdu,Bool.eq_iff_iff];first | (simp;done) | (simp;omega)),rfl⟩
 ·by_cases h2:65≤c.toNat
  ·by_cases h3:c.toNat≤90
   ·go_wp2;go_ret;exact ⟨zah (by rw [zdu,Bool.eq_iff_iff];first | (simp;done) | (simp;omega)),rfl⟩
   ·go_wp2;go_ret;exact ⟨zah (by rw [zdu,Bool.eq_iff_iff];first | (simp;done) | (simp;omega)),rfl⟩
  ·go_wp2;go_ret;exact ⟨zah (by rw [zdu,Bool.eq_iff_iff];first | (simp;done) | (simp;omega)),rfl⟩
theorem zadq (c:UInt8) (w:World) :
  Calls Tryz.prog 257 #[.int .u8 c.toNat] w fun e w'=>e=.returned (.bool (zly c))∧w=w':=by
 have hu:=UInt8.toNat_lt c;go_enter Tryz.func257,Tryz.ntmps257;by_cases h1:48≤c.toNat
 ·by_cases h2:c.toNat≤57
  ·go_wp2;go_ret;exact ⟨zah (by rw [zly,Bool.eq_iff_iff];first | (simp;done) | (simp;omega)),rfl⟩
  ·go_wp2;go_ret;exact ⟨zah (by rw [zly,Bool.eq_iff_iff];first | (simp;done) | (simp;omega)),rfl⟩
 ·go_wp2;go_ret;exact ⟨zah (by rw [zly,Bool.eq_iff_iff];first | (simp;done) | (simp;omega)),rfl⟩
set_option maxHeartbeats 400000 in
theorem zaga (c:UInt8) (w:World) :
  Calls Tryz.prog 231 #[.int .u8 c.toNat] w fun e w'=>e=.returned (.bool (zir c))∧w=w':=by
 have hu:=UInt8.toNat_lt c;go_enter Tryz.func231,Tryz.ntmps231;go_wp2_with fail;refine (zqb _ _).mono ?_;rintro e w' ⟨rfl,rfl⟩;cases h1:zdu c
 ·go_wp2_with fail;refine (zadq _ _).mono ?_;rintro e w' ⟨rfl,rfl⟩;cases h2:zly c
  ·by_cases h3:c.toNat=95
   ·have h3':((c.toNat:Int)==95)=true:=(by rw [beq_iff_eq];omega);clear h1 h2;go_wp2;go_ret;exact ⟨zah (by rw [zir,h3];simp),rfl⟩
   ·have h3':((c.toNat:Int)==95)=false:=(by rw [beq_eq_false_iff_ne];omega);have H1:=zH h1;have H2:=zH h2;clear h1 h2;go_wp2;go_ret;exact ⟨zah (by rw [zir,H1.out,H2.out];simp [h3]),rfl⟩
  ·have H2:=zH h2;clear h1 h2;go_wp2;go_ret;exact ⟨zah (by rw [zir,H2.out];simp),rfl⟩
 ·have H1:=zH h1;clear h1;go_wp2;go_ret;exact ⟨zah (by rw [zir,H1.out];simp),rfl⟩
theorem zzh {c:UInt8} (h:zdu c=true):zir c=true:=by rw [zir,h];rfl
theorem zabm (l:List UInt8):ztv l=(decide (0<l.length) && decide (l.length≤24) && l.all zir && (match l with | []=>false | c :: _=>zdu c)):=by
 cases l with
 |nil=>simp [ztv]
 |cons c r =>
  simp only [ztv,zkq,List.all_cons];cases h:zdu c
  ·simp
  ·rw [zzh h];simp
set_option maxHeartbeats 1000000 in
theorem zix (s:ByteArray) (hs:s.size≤140737488355328) (w:World) :
  Calls Tryz.prog 168 #[.string s] w fun e w'=>e=.returned (.bool (zcw s))∧w=w':=by
 go_enter Tryz.func168,Tryz.ntmps168;go_wp2;go_loop [3] (fun i=>∃k:Nat,k≤s.size∧i=.int .i64 k∧(s.data.toList.take k).all zir=true) (fun i=>s.size - (intOf i).toNat);case atStart=>exact ⟨0,by omega,rfl,rfl⟩
 case round =>
  obtain ⟨k,hk,rfl,hpre⟩:=hrel;have HP:=zH hpre;clear hpre;by_cases hlt:k<s.size
  ·have HT:=zH (zuw s k hlt);go_wp2_with fail;refine (zaga _ _).mono ?_;rintro e w' ⟨rfl,rfl⟩;cases hw:zir s[k]
   ·have HB2:=zH (show zcw s=false by
     have h1:(s.data.toList.take (k+1)).all zir=false:=by rw [HT.out,List.all_append];simp [hw]
     have h2:s.data.toList.all zir=false:=by rw [←List.take_append_drop (k+1) s.data.toList,List.all_append,h1];rfl
     rw [zcw,zabm,h2];simp)
    clear hw;go_wp2;go_ret;exact ⟨zah HB2.out.symm,rfl⟩
   ·have HG:=zH (show (s.data.toList.take (k+1)).all zir=true by rw [HT.out,List.all_append,HP.out];simp [hw]);clear hw;go_wp2;go_round;case rel=>exact ⟨k+1,by omega,by go_num,HG.out⟩
    case measure=>simp [intOf];omega
  ·obtain rfl:k=s.size:=(by omega);have hall:s.data.toList.take s.size=s.data.toList:=List.take_of_length_le (by simp);have HA:=HP.out;rw [hall] at HA;by_cases z:0<s.size
   ·have HH:=zH (show zcw s=(decide (s.size≤24) && zdu s[0]) by
     rw [zcw,zabm,HA]
     have hl:s.data.toList.length=s.size:=by simp
     cases hd:s.data.toList with
     |nil=>rw [hd] at hl;simp at hl;omega
     |cons c r =>
      have hc:s[0]=c:=by
       have:s.data.toList[0]?=some c:=by rw [hd];rfl
       have h2:s.data.toList[0]?=some s[0]:=by rw [List.getElem?_eq_getElem (by omega)];rfl
       rw [h2] at this
       exact Option.some.inj this
      rw [hd] at hl
      simp only [hl,hc]
      simp [z])
    clear HP hall HA;have z':(0:Int)<s.size:=(by omega);by_cases z2:s.size≤24
    ·go_wp2_with fail;refine (zqb _ _).mono ?_;rintro e w' ⟨rfl,rfl⟩;go_wp2;go_ret;exact ⟨zah (by rw [HH.out];simp [z2]),rfl⟩
    ·go_wp2;go_ret;exact ⟨zah (by rw [HH.out];simp [z2]),rfl⟩
   ·have HH:=zH (show zcw s=false by rw [zcw,ztv];simp [z]);clear HP hall HA;go_wp2;go_ret;exact ⟨zah HH.out.symm,rfl⟩
end Go.Proofs.YtibpaaajghbkoaaGreat
