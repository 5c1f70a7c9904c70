/-   -/
import Derived.ProofKit
import Derived.OpenShut
import Derived.HandedShaped
import Derived.Lay
import Derived.Lib.LaidTab
import Derived.Lib.LaidU8
import Derived.LaidSub
import Derived.LaidMore
import Derived.Stop.LaidErr
import Derived.Stop.Joined
import Derived.SevenTiedAt
import Derived.Lib.SmallJoins
import Derived.Test.YtdfenhjibnfdeaaDoorCards
import Derived.Test.YtdfenhjibnfdeaaDoorTie
import Derived.WalkKit
import Derived.WalkSpells
import Derived.WalkLawsBesides
import Derived.BigQuiet
import Derived.Lib.Hide
import Derived.Deep.QuietTactic
import Derived.RegionTactic
import Derived.ChangeAlike
import Derived.BigRegion
import Derived.Handy
import Derived.StillTailTactics
import Derived.IntWalk
import Derived.Deep.RegionHeld3
namespace Go.Proofs.YtdfenhjibnfdeaaDoor
open Go.ChangeShapes Go.WideShapes Go.ChangeAt Go.RowKit Go.Shelf Go.Joins
open Go.ChangeMaps (open_string shut_string)
theorem own:ownKnob Tryd.prog.godebug=none:=by kernel_rfl
theorem laidOut:laidOutB Tryd.prog=true:=by kernel_rfl
def laidL:List (String × DataW Unit):=[("math/bits.deBruijn32tab",Rows.laid_math_bits_deBruijn32tab),("math/bits.deBruijn64tab",Rows.laid_math_bits_deBruijn64tab),("internal/strconv.uint64pow10",Rows.laid_internal_strconv_uint64pow10),("strconv.ErrRange",Rows.laid_strconv_ErrRange),("strconv.ErrSyntax",Rows.laid_strconv_ErrSyntax)]
theorem returns_laid_shaped {H:Type} {enc:TypeId × Value→H} {a:Assume} {C:Checked} {os:Os} {f:FuncId} {fn:Func} {s:ChangeSpec} {conds:List PathCond} {apart fresh handsOn again:Bool} {X:World→Array Value→Prop}
  (hX:∀(w w':World) (args:Array Value),w.heap=w'.heap→X w args→X w' args)
  (own:ownKnob C.prog.godebug=none) (started:os.Started) (noInit:C.prog.inits.idxOf? f=none) (hfn:C.prog.funcs[f]?=some fn)
  (witness:∃(w:World) (tape:Tape) (i:Input),w.os=os∧(w.forCall tape i).Shaped C.prog∧i.vars=[]∧Input.okWide C.prog (w.forCall tape i) .any w.heap.size f i ∧
   ((s.pre enc C.prog fn conds apart (w.forCall tape i).memory i.args∧X (w.forCall tape i).memory i.args)∧sizedMet enc C.prog fn (OpenSpec.ofChange s) apart (w.forCall tape i).memory i.args)∧a.holds C.prog (lone (Frame.enter C.prog f i.args .normal) [] (w.forCall tape i)))
  (contract:∀(W:World) (base:Nat) (args:Array Value) (ds gs:List (DataW H)) (before:List MemPlace),
   (∀(j:Nat) t v,fn.params[j]?=some t→args[j]?=some v→Value.okWide C.prog W .any base t v) →
   DataW.Whole enc C.prog fn.params.toList s.vars apart W args.toList ds gs before →
   conds.all (PathCond.test C.prog ⟨fn.params.toList,ds,s.plain.varTypes C.prog,gs⟩)=true →
   (DataW.weightsEach C.prog (fn.params.toList++s.plain.varTypes C.prog) (ds++gs)).all (·≤reachBytes)=true→X W args→W.ShapedOpen C.prog →
   a.holds C.prog (lone (Frame.enter C.prog f args .normal) [] W) →
   Calls C.prog f args W fun e W'=>∃v,e=.returned v∧s.post enc C.prog fn apart fresh handsOn again W args v W') :
  ReturnsInHanded a C os f .any (fun w args=>(s.pre enc C.prog fn conds apart w args∧X w args)∧sizedMet enc C.prog fn (OpenSpec.ofChange s) apart w args) (s.post enc C.prog fn apart fresh handsOn again):=by
 refine returnsInHanded_of_calls own started noInit witness ?_
 intro w tape i _ hsh _ hok hpre hholds
 obtain ⟨_,_,_,fn',hfn',_,_,_,_,hval⟩:=hok
 have e:fn'=fn:=Option.some.inj (hfn'.symm.trans hfn)
 subst e
 obtain ⟨⟨⟨ds,gs,before,hw,hc⟩,hx⟩,hz⟩:=hpre
 have hw':=DataW.Whole.of_heap (w':=w.forCall tape i) (by rfl) hw
 refine (contract (w.forCall tape i) w.heap.size i.args ds gs before hval hw' hc (hz.weights hw) (hX _ _ _ (by rfl) hx) hsh hholds).mono fun e W' ⟨v,he,hp⟩=>?_
 subst he
 exact ChangeSpec.post_blind hp
theorem u8_nat {n:Int} (h:(Lit.int .u8 n).wf=true):∃m:Nat,n=m∧m<256:=by
 have h0:IntKind.u8.min=0:=rfl
 have h1:IntKind.u8.max=255:=rfl
 simp only [Lit.wf,h0,h1,Bool.and_eq_true,decide_eq_true_eq] at h
 exact ⟨n.toNat,by omega,by omega⟩
theorem u16_nat {n:Int} (h:(Lit.int .u16 n).wf=true):∃m:Nat,n=m∧m<65536:=by
 have h0:IntKind.u16.min=0:=rfl
 have h1:IntKind.u16.max=65535:=rfl
 simp only [Lit.wf,h0,h1,Bool.and_eq_true,decide_eq_true_eq] at h
 exact ⟨n.toNat,by omega,by omega⟩
end Go.Proofs.YtdfenhjibnfdeaaDoor

namespace Go.Proofs.YtdfenhjibnfdeaaDoor
open Go.RowKit
theorem ret_bool {a b:Bool} (h:a=b):Ending.returned (.bool a)=.returned (.bool b):=by rw [h]
theorem ret_int {k:IntKind} {a b:Int} (h:a=b):Ending.returned (.int k a)=.returned (.int k b):=by rw [h]
theorem below_setRow' {B:Nat} {a w:World} (h:Below B a w) {g:Nat} (hg:B≤g) (cs:Array Value):Below B a (w.setRow g cs) :=
 h.trans ⟨rfl,rfl,rfl,by simp,fun k hk=>setRow_other _ _ _ _ (by omega)⟩
theorem _root_.Go.RowKit.Below.drewN' {B:Nat} {a w:World} (h:Below B a w) {n:Nat}:Below B a (w.drewN n):=⟨h.os,h.tape,h.output,h.size,h.block⟩
theorem below_step {B:Nat} {a w w':World} (h:Below B a w) (hB:B≤a.heap.size) (h2:Below w.heap.size w w'):Below B a w' :=
 h.trans (h2.mono (Nat.le_trans hB h.size))
theorem lt_of_block {w:World} {g:Nat} {o:Obj} (h:w.heap[g]?=some o):g<w.heap.size:=by
 rcases Nat.lt_or_ge g w.heap.size with h' | h'
 ·exact h'
 ·simp [Array.getElem?_eq_none h'] at h
theorem row_later {w w':World} (hb:Below w.heap.size w w') {g:Nat} {o:Obj} (h:w.heap[g]?=some o):w'.heap[g]?=some o :=
 (hb.block _ (lt_of_block h)).trans h
theorem row_past {w:World} {g:Nat} {o o':Obj} (h:w.heap[g]?=some o):(w.alloc o').heap[g]?=some o :=
 (Below.heap_alloc w o' g (lt_of_block h)).trans h
theorem row_new (w:World) (o:Obj):(w.alloc o).heap[w.heap.size]?=some o:=heap_alloc_new w o
theorem row_new1 (w:World) (a o:Obj):((w.alloc a).alloc o).heap[w.heap.size+1]?=some o:=heap_alloc2_new w a o
theorem row_new2 (w:World) (a b o:Obj):(((w.alloc a).alloc b).alloc o).heap[w.heap.size+2]?=some o:=by
 have:=heap_alloc_new ((w.alloc a).alloc b) o
 simpa using this
theorem row_set_other {w:World} {g:Nat} {o:Obj} {a:Addr} {v:Value} (h:w.heap[g]?=some o) (hne:g≠a.block):(w.setCell a v).heap[g]?=some o :=
 (Below.heap_setCell w a v g hne).trans h
theorem row_set {w:World} {g i:Nat} {cs:Array Value} {t:TypeId} {v:Value} (h:w.heap[g]?=some (.cells cs t (0,0))):(w.setCell ⟨g,i,none⟩ v).heap[g]?=some (.cells (cs.setIfInBounds i v) t (0,0)) :=
 heap_setCell_same w g i cs t v h
theorem row_drew {w:World} {g:Nat} {o:Obj} (h:w.heap[g]?=some o):w.drew.heap[g]?=some o:=h
theorem str_eq_true {a b:ByteArray} (h:a=b):(a.toList==b.toList)=true:=by subst h;simp
theorem str_eq_false {a b:ByteArray} (h:a≠b):(a.toList==b.toList)=false:=by
 rw [beq_eq_false_iff_ne]
 intro hh
 rw [ByteArray.toList_eq,ByteArray.toList_eq] at hh
 exact h (ByteArray.ext (Array.toList_inj.mp hh))
theorem rk1 {w:World} {g:Nat} {a0:Value} {l:List Value} {t:TypeId} (h:w.heap[g]?=some (.cells (a0 :: l).toArray t)):g<w.heap.size∧w.cell? ⟨g,0,none⟩=some a0:=by
 have x0:=cell_of_row w _ 0 _ _ _ h
 simp only [List.getElem?_toArray,List.getElem?_cons_zero] at x0
 exact ⟨lt_of_block h,x0⟩
theorem rk2 {w:World} {g:Nat} {a0 a1:Value} {l:List Value} {t:TypeId} (h:w.heap[g]?=some (.cells (a0 :: a1 :: l).toArray t)):g<w.heap.size∧w.cell? ⟨g,0,none⟩=some a0∧w.cell? ⟨g,1,none⟩=some a1:=by
 have x0:=cell_of_row w _ 0 _ _ _ h
 have x1:=cell_of_row w _ 1 _ _ _ h
 simp only [List.getElem?_toArray,List.getElem?_cons_zero,List.getElem?_cons_succ] at x0 x1
 exact ⟨lt_of_block h,x0,x1⟩
theorem rk3 {w:World} {g:Nat} {a0 a1 a2:Value} {l:List Value} {t:TypeId} (h:w.heap[g]?=some (.cells (a0 :: a1 :: a2 :: l).toArray t)):g<w.heap.size∧w.cell? ⟨g,0,none⟩=some a0∧w.cell? ⟨g,1,none⟩=some a1∧w.cell? ⟨g,2,none⟩=some a2:=by
 have x0:=cell_of_row w _ 0 _ _ _ h
 have x1:=cell_of_row w _ 1 _ _ _ h
 have x2:=cell_of_row w _ 2 _ _ _ h
 simp only [List.getElem?_toArray,List.getElem?_cons_zero,List.getElem?_cons_succ] at x0 x1 x2
 exact ⟨lt_of_block h,x0,x1,x2⟩
theorem rk4 {w:World} {g:Nat} {a0 a1 a2 a3:Value} {l:List Value} {t:TypeId} (h:w.heap[g]?=some (.cells (a0 :: a1 :: a2 :: a3 :: l).toArray t)):g<w.heap.size∧w.cell? ⟨g,0,none⟩=some a0∧w.cell? ⟨g,1,none⟩=some a1∧w.cell? ⟨g,2,none⟩=some a2∧w.cell? ⟨g,3,none⟩=some a3:=by
 have x0:=cell_of_row w _ 0 _ _ _ h
 have x1:=cell_of_row w _ 1 _ _ _ h
 have x2:=cell_of_row w _ 2 _ _ _ h
 have x3:=cell_of_row w _ 3 _ _ _ h
 simp only [List.getElem?_toArray,List.getElem?_cons_zero,List.getElem?_cons_succ] at x0 x1 x2 x3
 exact ⟨lt_of_block h,x0,x1,x2,x3⟩
theorem rk5 {w:World} {g:Nat} {a0 a1 a2 a3 a4:Value} {l:List Value} {t:TypeId} (h:w.heap[g]?=some (.cells (a0 :: a1 :: a2 :: a3 :: a4 :: l).toArray t)):g<w.heap.size∧w.cell? ⟨g,0,none⟩=some a0∧w.cell? ⟨g,1,none⟩=some a1∧w.cell? ⟨g,2,none⟩=some a2∧w.cell? ⟨g,3,none⟩=some a3∧w.cell? ⟨g,4,none⟩=some a4:=by
 have x0:=cell_of_row w _ 0 _ _ _ h
 have x1:=cell_of_row w _ 1 _ _ _ h
 have x2:=cell_of_row w _ 2 _ _ _ h
 have x3:=cell_of_row w _ 3 _ _ _ h
 have x4:=cell_of_row w _ 4 _ _ _ h
 simp only [List.getElem?_toArray,List.getElem?_cons_zero,List.getElem?_cons_succ] at x0 x1 x2 x3 x4
 exact ⟨lt_of_block h,x0,x1,x2,x3,x4⟩
theorem rk6 {w:World} {g:Nat} {a0 a1 a2 a3 a4 a5:Value} {l:List Value} {t:TypeId} (h:w.heap[g]?=some (.cells (a0 :: a1 :: a2 :: a3 :: a4 :: a5 :: l).toArray t)):g<w.heap.size∧w.cell? ⟨g,0,none⟩=some a0∧w.cell? ⟨g,1,none⟩=some a1∧w.cell? ⟨g,2,none⟩=some a2∧w.cell? ⟨g,3,none⟩=some a3∧w.cell? ⟨g,4,none⟩=some a4∧w.cell? ⟨g,5,none⟩=some a5:=by
 have x0:=cell_of_row w _ 0 _ _ _ h
 have x1:=cell_of_row w _ 1 _ _ _ h
 have x2:=cell_of_row w _ 2 _ _ _ h
 have x3:=cell_of_row w _ 3 _ _ _ h
 have x4:=cell_of_row w _ 4 _ _ _ h
 have x5:=cell_of_row w _ 5 _ _ _ h
 simp only [List.getElem?_toArray,List.getElem?_cons_zero,List.getElem?_cons_succ] at x0 x1 x2 x3 x4 x5
 exact ⟨lt_of_block h,x0,x1,x2,x3,x4,x5⟩
theorem rk7 {w:World} {g:Nat} {a0 a1 a2 a3 a4 a5 a6:Value} {l:List Value} {t:TypeId} (h:w.heap[g]?=some (.cells (a0 :: a1 :: a2 :: a3 :: a4 :: a5 :: a6 :: l).toArray t)):g<w.heap.size∧w.cell? ⟨g,0,none⟩=some a0∧w.cell? ⟨g,1,none⟩=some a1∧w.cell? ⟨g,2,none⟩=some a2∧w.cell? ⟨g,3,none⟩=some a3∧w.cell? ⟨g,4,none⟩=some a4∧w.cell? ⟨g,5,none⟩=some a5∧w.cell? ⟨g,6,none⟩=some a6:=by
 have x0:=cell_of_row w _ 0 _ _ _ h
 have x1:=cell_of_row w _ 1 _ _ _ h
 have x2:=cell_of_row w _ 2 _ _ _ h
 have x3:=cell_of_row w _ 3 _ _ _ h
 have x4:=cell_of_row w _ 4 _ _ _ h
 have x5:=cell_of_row w _ 5 _ _ _ h
 have x6:=cell_of_row w _ 6 _ _ _ h
 simp only [List.getElem?_toArray,List.getElem?_cons_zero,List.getElem?_cons_succ] at x0 x1 x2 x3 x4 x5 x6
 exact ⟨lt_of_block h,x0,x1,x2,x3,x4,x5,x6⟩
theorem rk8 {w:World} {g:Nat} {a0 a1 a2 a3 a4 a5 a6 a7:Value} {l:List Value} {t:TypeId} (h:w.heap[g]?=some (.cells (a0 :: a1 :: a2 :: a3 :: a4 :: a5 :: a6 :: a7 :: l).toArray t)):g<w.heap.size∧w.cell? ⟨g,0,none⟩=some a0∧w.cell? ⟨g,1,none⟩=some a1∧w.cell? ⟨g,2,none⟩=some a2∧w.cell? ⟨g,3,none⟩=some a3∧w.cell? ⟨g,4,none⟩=some a4∧w.cell? ⟨g,5,none⟩=some a5∧w.cell? ⟨g,6,none⟩=some a6∧w.cell? ⟨g,7,none⟩=some a7:=by
 have x0:=cell_of_row w _ 0 _ _ _ h
 have x1:=cell_of_row w _ 1 _ _ _ h
 have x2:=cell_of_row w _ 2 _ _ _ h
 have x3:=cell_of_row w _ 3 _ _ _ h
 have x4:=cell_of_row w _ 4 _ _ _ h
 have x5:=cell_of_row w _ 5 _ _ _ h
 have x6:=cell_of_row w _ 6 _ _ _ h
 have x7:=cell_of_row w _ 7 _ _ _ h
 simp only [List.getElem?_toArray,List.getElem?_cons_zero,List.getElem?_cons_succ] at x0 x1 x2 x3 x4 x5 x6 x7
 exact ⟨lt_of_block h,x0,x1,x2,x3,x4,x5,x6,x7⟩
end Go.Proofs.YtdfenhjibnfdeaaDoor
