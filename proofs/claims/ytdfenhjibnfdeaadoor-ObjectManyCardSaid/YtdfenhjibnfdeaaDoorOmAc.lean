/-     -/
import Derived.Lib.Bytealg
import Derived.Test.YtdfenhjibnfdeaaDoorOmAa
import Derived.Test.YtdfenhjibnfdeaaDoorOmAb
import Derived.Shelf.Strings.BuilderK
namespace Go.Proofs.YtdfenhjibnfdeaaDoor
open Go
def letterC (c:UInt8):Bool:=decide (97≤c.toNat∧c.toNat≤122∨65≤c.toNat∧c.toNat≤90)
def digitC (c:UInt8):Bool:=decide (48≤c.toNat∧c.toNat≤57)
def wordC (c:UInt8):Bool:=letterC c || digitC c || decide (c.toNat=95)
def preOK:List UInt8→Bool
 |[]=>true
 |c :: r=>letterC c && r.all wordC
theorem preOK_snoc (l:List UInt8) (c:UInt8):preOK (l++[c])=if l.length=0 then letterC c else (preOK l && wordC c):=by
 cases l with
 |nil=>simp [preOK]
 |cons a r=>simp [preOK,Bool.and_assoc]
theorem preOK_app {l:List UInt8} (m:List UInt8) (h:preOK l=false):preOK (l++m)=false:=by
 cases l with
 |nil=>simp [preOK] at h
 |cons a r =>
  simp only [List.cons_append,preOK,List.all_append] at h ⊢
  cases h1:letterC a<;>cases h2:r.all wordC<;>simp_all
def nameL (l:List UInt8):Bool:=decide (0<l.length) && decide (l.length≤24) && preOK l
def nameB (s:ByteArray):Bool:=nameL s.data.toList
structure TagD where
 key:ByteArray
 val:ByteArray
structure ObjD where
 id:ByteArray
 kind:Int
 x:Int
 y:Int
 refs:List ByteArray
 tags:List TagD
def ltB (a b:ByteArray):Bool:=Op.bytesLess a.toList b.toList
theorem bl_leq:∀(x y:List UInt8),(Op.bytesLess x y || x==y) = !Op.bytesLess y x
 |[],[]=>by simp [Op.bytesLess]
 |[],_ :: _=>by simp [Op.bytesLess]
 |_ :: _,[]=>by simp [Op.bytesLess]
 |a :: x,b :: y=>by
  have ih:=bl_leq x y
  simp only [Op.bytesLess]
  rcases Nat.lt_trichotomy a.toNat b.toNat with h | h | h
  ·have h1:a<b:=UInt8.lt_iff_toNat_lt.2 h
   have h2:¬b<a:=fun e=>by have:=UInt8.lt_iff_toNat_lt.1 e;omega
   have h3:¬b=a:=fun e=>by subst e;omega
   simp [h1,h2,h3]
  ·have e:a=b:=UInt8.toNat_inj.1 h
   subst e
   have h2:¬a<a:=fun e=>by have:=UInt8.lt_iff_toNat_lt.1 e;omega
   simp only [h2,decide_false,beq_self_eq_true,Bool.true_and,Bool.false_or]
   rw [←ih]
   congr 1
   simp
  ·have h1:b<a:=UInt8.lt_iff_toNat_lt.2 h
   have h2:¬a<b:=fun e=>by have:=UInt8.lt_iff_toNat_lt.1 e;omega
   have h3:¬a=b:=fun e=>by subst e;omega
   simp [h1,h2,h3]
theorem leqB (a b:ByteArray):(Op.bytesLess a.toList b.toList || a.toList==b.toList) = !ltB b a:=bl_leq _ _
def tagsFrom:ByteArray→List TagD→Bool
 |_,[]=>true
 |last,t :: l=>nameB t.key && ltB last t.key && decide (0<t.val.size∧t.val.size≤200) && tagsFrom t.key l
def tagsOK (l:List TagD):Bool:=decide (l.length≤60) && tagsFrom ⟨#[]⟩ l
def refsFrom (kind:Int):List ByteArray→List ByteArray→Bool
 |_,[]=>true
 |pre,s :: l=>nameB s && !(decide (kind=2) && decide (pre.getLast?=some s)) && !(decide (kind=3) && pre.any fun p=>decide (p=s)) && refsFrom kind (pre++[s]) l
end Go.Proofs.YtdfenhjibnfdeaaDoor

namespace Go.Proofs.YtdfenhjibnfdeaaDoor
open Go
def blankC (c:UInt8):Bool:=decide (c.toNat=32∨c.toNat=9∨c.toNat=10)
def symC (c:UInt8):Bool:=([59,44,46,58,40,41,123,125,91,93,61,60,62,47,45]:List UInt8).contains c
def spanN (p:UInt8→Bool):List UInt8→Nat
 |[]=>0
 |c :: r=>if p c then spanN p r+1 else 0
def unqL:List UInt8→Option (List UInt8 × Nat)
 |[]=>none
 |c :: r =>
  if c.toNat=34 then some ([],1) else if c.toNat=10 then none else if c.toNat=92 then
   match r with
   |[]=>none
   |d :: q=>if d.toNat=92 then (unqL q).map fun x=>(92 :: x.1,x.2+2) else if d.toNat=34 then (unqL q).map fun x=>(34 :: x.1,x.2+2)
    else if d.toNat=110 then (unqL q).map fun x=>(10 :: x.1,x.2+2) else none
  else (unqL r).map fun x=>(c :: x.1,x.2+1)
theorem unq_end {c:UInt8} (r:List UInt8) (h:c.toNat=34):unqL (c :: r)=some ([],1):=by rw [unqL.eq_def];simp only [if_pos h]
theorem unq_line {c:UInt8} (r:List UInt8) (h:c.toNat=10):unqL (c :: r)=none:=by rw [unqL.eq_def];simp only [if_pos h,if_neg (show ¬c.toNat=34 by omega)]
theorem unq_one {c:UInt8} (r:List UInt8) (h1:¬c.toNat=34) (h2:¬c.toNat=10) (h3:¬c.toNat=92):unqL (c :: r)=(unqL r).map fun x=>(c :: x.1,x.2+1):=by rw [unqL.eq_def];simp only [if_neg h1,if_neg h2,if_neg h3]
theorem unq_bs {c:UInt8} (h:c.toNat=92):unqL [c]=none:=by rw [unqL.eq_def];simp only [if_pos h,if_neg (show ¬c.toNat=34 by omega),if_neg (show ¬c.toNat=10 by omega)]
theorem unq_esc {c d:UInt8} (q:List UInt8) (h:c.toNat=92):unqL (c :: d :: q)=if d.toNat=92 then (unqL q).map fun x=>(92 :: x.1,x.2+2) else if d.toNat=34 then (unqL q).map fun x=>(34 :: x.1,x.2+2)
    else if d.toNat=110 then (unqL q).map fun x=>(10 :: x.1,x.2+2) else none:=by
 rw [unqL.eq_def];simp only [if_pos h,if_neg (show ¬c.toNat=34 by omega),if_neg (show ¬c.toNat=10 by omega)]
structure TokD where
 kind:Int
 text:ByteArray
 off:Nat
 deriving DecidableEq
structure FndD where
 tok:TokD
 err:Int
 deriving DecidableEq
def bytesOf (l:List UInt8):ByteArray:=⟨l.toArray⟩
def scan1:List UInt8→Nat × Option (Int × ByteArray × Int)
 |[]=>(0,none)
 |c :: r =>
  if blankC c then (1,none)
  else if c.toNat=35 then (spanN (fun d=>decide (d.toNat≠10)) (c :: r),none)
  else if letterC c then let n:=spanN wordC (c :: r);(n,some (1,bytesOf ((c :: r).take n),if 24<n then 2 else 0))
  else if digitC c then
   let n:=spanN digitC (c :: r)
   (n,some (2,bytesOf ((c :: r).take n),if 7<n∨(((c :: r).drop n).head?.elim false fun d=>letterC d || decide (d.toNat=95))=true then 4 else 0))
  else if c.toNat=34 then
   match unqL r with
   |some (s,n)=>(n+1,some (3,bytesOf s,0))
   |none=>(0,some (0,⟨#[]⟩,3))
  else if symC c then (1,some (4,bytesOf [c],0))
  else (0,some (0,⟨#[]⟩,3))
def toks:Nat→Nat→List UInt8→List FndD
 |0,_,_=>[]
 |_,_,[]=>[]
 |f+1,at',c :: r =>
  match scan1 (c :: r) with
  |(n,none)=>toks f (at'+n) ((c :: r).drop n)
  |(n,some (k,t,e))=>⟨⟨k,t,at'⟩,e⟩ :: if e=0 then toks f (at'+n) ((c :: r).drop n) else []
def toksB (s:ByteArray):List FndD:=toks s.size 0 s.data.toList
def lexF:List TokD→List FndD→List TokD × Int × Int
 |acc,[]=>(acc,0,0)
 |acc,f :: r=>if f.err≠0 then ([],f.err,f.tok.off) else if acc.length=5000 then ([],2,f.tok.off) else lexF (acc++[f.tok]) r
def lexP (s:ByteArray):List TokD × Int × Int:=if 20000<s.size then ([],2,-1) else lexF [] (toksB s)
end Go.Proofs.YtdfenhjibnfdeaaDoor

namespace Go.Proofs.YtdfenhjibnfdeaaDoor
open Go.RowKit Go.Shelf
structure BldT (T:TypeId):Prop where
 lies:liesAt Tryd.prog Tryd.prog.depth T (2 / Tryd.prog.cellsOf T) 0 49 1=true
 ne:T≠5
theorem bldB:BldT 49:=⟨by kernel_rfl,by decide⟩
theorem bdSize:(Tryd.prog.info? 49).map (·.size)=some 2:=by kernel_rfl
theorem infoU8:(Tryd.prog.info? 5).map (fun i=>(i.zero,i.size,i.bytes))=some (some (.int .u8 0),1,1):=by kernel_rfl
abbrev BldF (T:TypeId) (B b:Nat) (bs:List Value) (w:World):Prop:=Lib.IsBuilderF T 5 B b bs w
abbrev BldU (T:TypeId) (B b:Nat) (bs:List Value) (w:World):Prop:=Lib.BuilderAtF T 5 B b (.pointer (some ⟨b,0,none⟩)) bs w
variable {T:TypeId}
set_option maxRecDepth 100000 in
set_option maxHeartbeats 1000000 in
theorem bcopy_any (hT:BldT T) (B b:Nat) (bs:List Value) (w:World) (h:BldF T B b bs w) :
  Calls Tryd.prog 43 #[.pointer (some ⟨b,0,none⟩)] w fun e w'=>e=.returned (.tuple #[])∧BldU T B b bs w'∧Below B w w'∧Lib.OthersKept 5 (some b) w w':=by
 obtain ⟨j,hj,hjs⟩:=Option.map_eq_some_iff.1 bdSize
 rcases h with h | h
 ·have h0:=h.cell0
  have hsh:=h.shape
  have hfz:=h.frozen0
  go_enter Tryd.func43,Tryd.ntmps43
  go_wp2
  rw [Lib.run_to_unsafe w ⟨b,0,none⟩ Tryd.underlying46 Tryd.underlying105 hj (by rw [hjs];decide) hsh (Nat.zero_lt_succ 1)]
  simp only [Result.andThen]
  rw [Oper.upon_value]
  go_wp2
  rw [run_callFunc_extern Tryd.func55 (by kernel_rfl) (by kernel_rfl) (by kernel_rfl) (e:=Extern.AbiNoEscape.same) (by kernel_rfl)]
  rw [Lib.run_noEscape]
  simp only [Result.andThen]
  rw [Oper.upon_value]
  go_wp2
  rw [Lib.run_from_unsafe w ⟨b,0,none⟩ Tryd.underlying105 Tryd.underlying46 hj hsh hT.lies]
  simp only [Result.andThen]
  rw [Oper.upon_value]
  go_wp2
  go_end0
  exact ⟨rfl,h.used _,(Below.refl B w).setCell (p:=⟨b,0,none⟩) h.1 _,(Lib.OthersKept.refl _ _ w).setCell ⟨b,0,none⟩ rfl _⟩
 ·have h0:=h.cell0
  go_enter Tryd.func43,Tryd.ntmps43
  go_wp2
  rw [Lib.run_neq_ptr_same w _ Tryd.underlying46 hj]
  go_wp2
  go_end0
  exact ⟨rfl,h,Below.refl B _,Lib.OthersKept.refl _ _ _⟩
theorem blen_any (B b:Nat) (bs:List Value) (w:World) (h:BldF T B b bs w) :
  Calls Tryd.prog 18 #[.pointer (some ⟨b,0,none⟩)] w fun e w'=>e=.returned (.int .i64 bs.length)∧w'=w:=by
 obtain ⟨p,hB,v,hbk,hown,hne⟩:∃p,Lib.BuilderAtF T 5 B b p bs w:=by
  rcases h with h | h
  ·exact ⟨_,h⟩
  ·exact ⟨_,h⟩
 obtain ⟨ao,cap,rfl⟩:∃ao cap,v=.slice ao bs.length cap:=by
  rcases hown.2 with ⟨hv,h0⟩ | ⟨g,cap,cur,fz,hv,_⟩
  ·exact ⟨none,0,by rw [hv,h0]⟩
  ·exact ⟨_,_,hv⟩
 have c1:w.cell? ⟨b,1,none⟩=some (.slice ao bs.length cap):=by rw [Lib.cell_of_heap hbk];rfl
 go_enter Tryd.func18,Tryd.ntmps18
 go_wp2
 go_ret
 exact ⟨rfl,rfl⟩
set_option maxRecDepth 100000 in
set_option maxHeartbeats 2000000 in
theorem bbyte_any (hT:BldT T) (B b:Nat) (bs:List Value) (c:Int) (w:World) (h:BldF T B b bs w) (hlen:bs.length+1≤140737488355328) (hBw:B≤w.heap.size) :
  Calls Tryd.prog 32 #[.pointer (some ⟨b,0,none⟩),.int .u8 c] w fun e w'=>e=.returned .nilIface∧BldU T B b (bs++[.int .u8 c]) w'∧Below B w w'∧Lib.OthersKept 5 (some b) w w':=by
 obtain ⟨i0,hi,hz0,hz1,hz2⟩:=info_parts infoU8
 have CC:=Lib.hid (bcopy_any hT B b bs w h)
 go_enter Tryd.func32,Tryd.ntmps32
 go_wp2_with (go_at_call 43;refine CC.out.mono ?_)
 rintro e w1 ⟨rfl,h1,hb1,hk1⟩
 obtain ⟨hB,v,hbk,hown,hne⟩:=h1
 have c0:w1.cell? ⟨b,0,none⟩=some (.pointer (some ⟨b,0,none⟩)):=by rw [Lib.cell_of_heap hbk];rfl
 have c1:w1.cell? ⟨b,1,none⟩=some v:=by rw [Lib.cell_of_heap hbk];rfl
 go_wp2_with (at_builtin;refine wpList_append_ownF _ rfl _ _ 47 rfl B 5 i0 (.int .u8 0) 1 1 Tryd.underlying47 hi hz0 hz1 hz2 rfl (by decide) _ _ _ rfl (hown.alloc _) ⟨w1.heap.size,0,none⟩ 1 1 [.int .u8 c] rfl rfl ?c1 ?c2 ?c3 ?c4 ?c5 ?_)
 case c1 =>
  intro j u hj
  match j,hj with
  |0,hj=>simp at hj;subst hj;simp [Addr.add]
 case c2=>intro u hu;simp at hu;subst hu;rfl
 case c3=>unfold maxLen;omega
 case c4=>omega
 case c5=>have:=hb1.size;simp;omega
 intro v' w2 hown' hgrow _
 have hlt:=lt_of_block hbk
 have hb2:w2.heap[b]?=some (.cells #[.pointer (some ⟨b,0,none⟩),v] T (0,0)):=by
  rw [hgrow.block b (by simp;omega) (fun e=>hne e.symm),Lib.alloc_old w1 _ b hlt]
  exact hbk
 have d0:w2.cell? ⟨b,0,none⟩=some (.pointer (some ⟨b,0,none⟩)):=by rw [Lib.cell_of_heap hb2];rfl
 have d1:w2.cell? ⟨b,1,none⟩=some v:=by rw [Lib.cell_of_heap hb2];rfl
 have f1:w2.frozen? ⟨b,1,none⟩=false:=Lib.frozen_of_heap hb2 1
 obtain ⟨g,cap,rfl⟩:∃g cap,v'=.slice (some ⟨g,0,none⟩) (bs.length+1) cap:=by
  rcases hown'.2 with ⟨_,h0⟩ | ⟨g,cap,cur,fz,hv,_⟩
  ·omega
  ·exact ⟨g,cap,hv⟩
 go_wp2
 go_ret
 refine ⟨rfl,?_,?_,((hk1.alloc _).grown hgrow (Lib.ownsRowF_kind (hown.alloc _))).setCell ⟨b,1,none⟩ rfl _⟩
 ·exact Lib.BuilderAtF.put (T:=T) (e:=5) hB hb2 (bs':=bs++[.int .u8 c]) (by simpa using hown') hT.ne
 ·exact ((hb1.alloc (by have:=hb1.size;omega) _).grown hgrow (by have:=hb1.size;simp;omega) (fun k hk=>(hown.lt k hk).1)).setCell (p:=⟨b,1,none⟩) hB _
set_option maxRecDepth 100000 in
set_option maxHeartbeats 2000000 in
theorem bstr_any (hT:BldT T) (B b:Nat) (bs:List Value) (s:ByteArray) (w:World) (h:BldF T B b bs w) (hlen:bs.length+s.size≤140737488355328) (hBw:B≤w.heap.size) :
  Calls Tryd.prog 30 #[.pointer (some ⟨b,0,none⟩),.string s] w fun e w'=>e=.returned (.tuple #[.int .i64 s.size,.nilIface])∧BldU T B b (bs++Lib.strCells s) w'∧Below B w w'∧Lib.OthersKept 5 (some b) w w':=by
 obtain ⟨i0,hi,hz0,hz1,hz2⟩:=info_parts infoU8
 have CC:=Lib.hid (bcopy_any hT B b bs w h)
 go_enter Tryd.func30,Tryd.ntmps30
 go_wp2_with (go_at_call 43;refine CC.out.mono ?_)
 rintro e w1 ⟨rfl,h1,hb1,hk1⟩
 obtain ⟨hB,v,hbk,hown,hne⟩:=h1
 have c0:w1.cell? ⟨b,0,none⟩=some (.pointer (some ⟨b,0,none⟩)):=by rw [Lib.cell_of_heap hbk];rfl
 have c1:w1.cell? ⟨b,1,none⟩=some v:=by rw [Lib.cell_of_heap hbk];rfl
 go_wp2_with (at_builtin;refine Lib.wpList_append_own_stringF _ rfl _ _ 47 9 rfl B 5 i0 Tryd.underlying47 Tryd.underlying9 hi hz0 hz1 hz2 _ _ _ rfl hown s rfl ?c3 ?c4 ?c5 ?_)
 case c3=>unfold maxLen;omega
 case c4=>omega
 case c5=>have:=hb1.size;omega
 intro v' w2 hown' hgrow _
 have hlt:=lt_of_block hbk
 have hb2:w2.heap[b]?=some (.cells #[.pointer (some ⟨b,0,none⟩),v] T (0,0)):=by
  rw [hgrow.block b hlt (fun e=>hne e.symm)]
  exact hbk
 have d0:w2.cell? ⟨b,0,none⟩=some (.pointer (some ⟨b,0,none⟩)):=by rw [Lib.cell_of_heap hb2];rfl
 have d1:w2.cell? ⟨b,1,none⟩=some v:=by rw [Lib.cell_of_heap hb2];rfl
 have f1:w2.frozen? ⟨b,1,none⟩=false:=Lib.frozen_of_heap hb2 1
 obtain ⟨ao,n',cap,rfl⟩:∃ao n' cap,v'=.slice ao n' cap:=by
  rcases hown'.2 with ⟨hv,_⟩ | ⟨g,cap,cur,fz,hv,_⟩
  ·exact ⟨_,_,_,hv⟩
  ·exact ⟨_,_,_,hv⟩
 go_wp2
 go_ret2
 refine ⟨rfl,?_,?_,(hk1.grown hgrow (Lib.ownsRowF_kind hown)).setCell ⟨b,1,none⟩ rfl _⟩
 ·exact Lib.BuilderAtF.put (T:=T) (e:=5) hB hb2 (bs':=bs++Lib.strCells s) (by simpa [Lib.strCells_length] using hown') hT.ne
 ·exact (hb1.grown hgrow (by have:=hb1.size;omega) (fun k hk=>(hown.lt k hk).1)).setCell (p:=⟨b,1,none⟩) hB _
set_option maxHeartbeats 1000000 in
set_option maxRecDepth 100000 in
theorem bstring_any (B b:Nat) (l:List UInt8) (w:World) (h:BldF T B b (Lib.byteCells l) w) (h0:l≠[]) :
  Calls Tryd.prog 19 #[.pointer (some ⟨b,0,none⟩)] w fun e w'=>e=.returned (.string (bytesOf l))∧Below B w w'∧Lib.OthersKept 5 (some b) w w':=by
 obtain ⟨p,hB,v,hbk,hown,hne⟩:∃p,Lib.BuilderAtF T 5 B b p (Lib.byteCells l) w:=by
  rcases h with h | h
  ·exact ⟨_,h⟩
  ·exact ⟨_,h⟩
 have hl0:l.length≠0:=by simpa using h0
 rw [Lib.byteCells_length] at hown
 obtain ⟨g,cap,cur,fz,rfl,hbg,hg,hfz,hnc,hcm,hcs,htake⟩:∃g cap cur fz,v=.slice (some ⟨g,0,none⟩) l.length cap∧B≤g∧w.heap[g]?=some (.cells cur 5 fz)∧fz.2≤l.length * 1∧l.length≤cap∧cap≤maxLen∧cur.size=cap * 1∧cur.toList.take (l.length * 1)=Lib.byteCells l:=by
  rcases hown.2 with ⟨_,hz⟩ | ⟨g,cap,cur,fz,hv,r⟩
  ·exact absurd hz hl0
  ·exact ⟨g,cap,cur,fz,hv,r⟩
 have c1:w.drew.cell? ⟨b,1,none⟩=some (.slice (some ⟨g,0,none⟩) l.length cap):=by
  have:w.drew.heap[b]?=some (.cells #[p,.slice (some ⟨g,0,none⟩) l.length cap] T (0,0)):=hbk
  rw [Lib.cell_of_heap this];rfl
 have hSD:(Builtin.unsafeSliceData_ #[47] 79 #[.slice (some ⟨g,0,none⟩) l.length cap]).run Tryd.prog w.drew=.ok (.pointer (some ⟨g,0,none⟩)) w.drew :=
  Lib.run_unsafeSliceData_row _ _ _ _ _ _ (by omega)
 have hUS:(Builtin.unsafeString_ #[79,3] 9 #[.pointer (some ⟨g,0,none⟩),.int .i64 l.length]).run Tryd.prog w.drew=.ok (.string ⟨l.toArray⟩) (w.drew.freeze ⟨g,0,none⟩ l.length):=by
  refine Lib.run_unsafeString_row w.drew 79 3 9 5 Tryd.underlying79 (by kernel_rfl) g cur.size (by have hg':w.drew.heap[g]?=some (.cells cur 5 fz):=hg;simp [World.shape?,hg']) l h0 (by omega) (by unfold maxLen at hcm;omega) ?_
  intro j x hx
  exact hown.cells (g:=g) rfl j (.int .u8 x.toNat) (by simp [Lib.byteCells,hx])
 go_enter Tryd.func19,Tryd.ntmps19
 go_wp2
 go_region
 all_goals (go_wp2;go_ret;exact ⟨rfl,Lib.below_freeze (Below.drew (Below.refl B w)) (p:=⟨g,0,none⟩) hbg _,((Lib.OthersKept.refl _ _ w).drew).freeze ⟨g,0,none⟩ _ ⟨cur,fz,hg⟩⟩)
end Go.Proofs.YtdfenhjibnfdeaaDoor

namespace Go.Proofs.YtdfenhjibnfdeaaDoor
open Go
def escC (c:UInt8):List UInt8:=if c.toNat=10 then [92,110] else if c.toNat=34∨c.toNat=92 then [92,c] else [c]
def quoteL (l:List UInt8):List UInt8:=34 :: l.flatMap escC++[34]
def lstB (s:ByteArray):List UInt8:=s.data.toList
end Go.Proofs.YtdfenhjibnfdeaaDoor
