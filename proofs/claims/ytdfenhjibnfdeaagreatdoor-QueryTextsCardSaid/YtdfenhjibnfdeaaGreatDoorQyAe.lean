/-          -/
import Derived.Test.YtdfenhjibnfdeaaGreatDoorQyAd
import Derived.Test.YtdfenhjibnfdeaaGreatDoorQyAb
import Derived.Lib.ItoaLen
import Derived.ShutString
import Derived.Lib.AtoiAll
import Derived.LaidSub
import Derived.LaidMore
import Derived.Test.YtdfenhjibnfdeaaGreatDoorQyAc
import Derived.Shelf.GgClosure.StringsIndexFunc
import Derived.OwnWalk
import Derived.Below
namespace Go.Proofs.YtdfenhjibnfdeaaGreatDoor
open Go.RowKit
theorem clsF_cases (n:Nat) (h:n<256):(97≤n∧n≤122∨65≤n∧n≤90→clsF n=3)∧(48≤n∧n≤57→clsF n=4)∧(n=95→clsF n=5) ∧
  (¬(97≤n∧n≤122∨65≤n∧n≤90)→¬(48≤n∧n≤57)→n≠95→clsF n≠3∧clsF n≠4∧clsF n≠5):=by
 simp only [clsF,putF,cutF,if_pos h]
 refine ⟨fun h1=>?_,fun h1=>?_,fun h1=>?_,fun h1 h2 h3=>?_⟩
 ·rw [if_neg (by omega),if_neg (by omega),if_neg (by omega),cls0,if_pos h1]
 ·rw [if_neg (by omega),if_neg (by omega),if_neg (by omega),cls0,if_neg (by omega),if_pos h1]
 ·rw [if_neg (by omega),if_pos h1]
 ·rw [if_neg h3,cls0,if_neg h1,if_neg h2]
  split
  ·omega
  ·split
   ·omega
   ·split
    ·omega
    ·split<;>omega
theorem take_snoc (s:ByteArray) (k:Nat) (h:k<s.size):s.data.toList.take (k+1)=s.data.toList.take k++[s[k]]:=by
 rw [List.take_succ_eq_append_getElem (by simpa using h)];rfl
theorem str_nil {s:ByteArray} (h:s.size=0):s.toList=[]:=by
 rw [ByteArray.toList_eq]
 exact List.eq_nil_of_length_eq_zero (by rw [Array.length_toList];exact h)
theorem str_not_empty {s:ByteArray} (h:0<s.size):s.toList.isEmpty=false:=by
 rw [ByteArray.toList_eq,List.isEmpty_eq_false_iff]
 intro e
 have:=congrArg List.length e
 rw [Array.length_toList] at this
 have h2:s.data.size=s.size:=rfl
 simp only [List.length_nil] at this
 omega
theorem str_ne_nil {s:ByteArray} (h:0<s.size):(s.toList==[])=false:=by
 rw [beq_eq_false_iff_ne]
 intro e
 have:=str_not_empty h
 rw [e] at this
 simp at this
set_option maxRecDepth 100000 in
set_option maxHeartbeats 1000000 in
theorem name_any (s:ByteArray) (hs:s.size≤140737488355328) (w:World) :
  Calls Tryz.prog 36 #[.string s] w fun e w'=>e=.returned (.bool (nameB s))∧Below w.heap.size w w':=by
 go_enter Tryz.func36,Tryz.ntmps36
 go_wp2_with fail
 refine (classes_tab _).mono ?_;rintro e w1 ⟨rfl,hb1⟩
 have HS:=Lib.hid (show (Tryz.prog.info? 106).map (·.size)=some (tabU clsF).size by rw [tabU_size];kernel_rfl)
 have H2:=Lib.hid (show Tryz.zeroCells106.size=(tabU clsF).size by rw [←tabU_zero,tabU_size,tabU_size])
 go_wp2_with (refine wpList_store_row rfl 106 (.tmp 3) (.tmp 6) rfl w1.heap.size (tabU clsF) rfl rfl 106 Tryz.zeroCells106 (heap_alloc_new w1 _) HS.out H2.out (tabU_one _) ?_)
 have HB:=Lib.hid (setRow_heap _ w1.heap.size Tryz.zeroCells106 (tabU clsF) 106 (0,0) (heap_alloc_new w1 (.cells Tryz.zeroCells106 106)))
 have B2:Below w.heap.size w ((w1.alloc (.cells Tryz.zeroCells106 106)).setRow w1.heap.size (tabU clsF)):=below_setRow' (hb1.alloc hb1.size _) hb1.size _
 generalize hw2:(w1.alloc (.cells Tryz.zeroCells106 106)).setRow w1.heap.size (tabU clsF)=w2
 rw [hw2] at HB B2
 clear hw2 HS H2 hb1
 have bz:=lt_of_block HB.out
 go_loop [9] (fun i=>∃k:Nat,k≤s.size∧i=.int .i64 k∧preOK (s.data.toList.take k)=true) (fun i=>s.size - (intOf i).toNat)
 case atStart=>exact ⟨0,by omega,rfl,rfl⟩
 case round =>
  obtain ⟨k,hk,rfl,hpre⟩:=hrel
  have HP:=Lib.hid hpre
  clear hpre
  by_cases hlt:k<s.size
  ·have hu:=UInt8.toNat_lt s[k]
   have CL:=clsF_cases s[k].toNat hu
   have HT:=Lib.hid (take_snoc s k hlt)
   have HL:=Lib.hid (show (s.data.toList.take k).length=k by rw [List.length_take];simp;omega)
   have c0:w2.cell? ⟨w1.heap.size,s[k].toNat,none⟩=some (.int .u8 (clsF s[k].toNat)):=(cell_of_row w2 _ s[k].toNat _ _ _ HB.out).trans (tabU_get _ _ hu)
   have hts:=tabU_size clsF
   have HN:=Lib.hid (show preOK (s.data.toList.take (k+1))=if k=0 then letterC s[k] else wordC s[k] by rw [HT.out,preOK_snoc,HL.out,HP.out];simp)
   by_cases hl:97≤s[k].toNat∧s[k].toNat≤122∨65≤s[k].toNat∧s[k].toNat≤90
   ·rw [CL.1 hl] at c0
    have HG:=Lib.hid (show preOK (s.data.toList.take (k+1))=true by
     have h1:letterC s[k]=true:=by rw [letterC,decide_eq_true_eq];exact hl
     rw [HN.out,wordC,h1];simp)
    clear CL hl
    go_wp2
    go_round
    case rel=>exact ⟨k+1,by omega,by go_num,HG.out⟩
    case measure=>simp [intOf];omega
   have h1:letterC s[k]=false:=by rw [letterC,decide_eq_false_iff_not];exact hl
   by_cases h0:k=0
   ·have HF:=Lib.hid (show preOK (s.data.toList.take (k+1))=false by rw [HN.out,if_pos h0,h1])
    have h3:(clsF s[k].toNat != 3)=true:=by
     rw [bne_iff_ne]
     by_cases hd:48≤s[k].toNat∧s[k].toNat≤57
     ·rw [CL.2.1 hd];decide
     ·by_cases hu:s[k].toNat=95
      ·rw [CL.2.2.1 hu];decide
      ·exact (CL.2.2.2 hl hd hu).1
    have h3':¬clsF s[k].toNat=3:=by rw [bne_iff_ne] at h3;exact h3
    generalize clsF s[k].toNat=cv at *
    have k0:((k:Int)==0)=true:=by rw [beq_iff_eq];omega
    clear CL hl h1 h0
    have HB2:=Lib.hid (show nameB s=false by
     have h2:=preOK_app (s.data.toList.drop (k+1)) HF.out
     rw [List.take_append_drop] at h2
     rw [nameB,nameL,h2];simp)
    go_wp2
    go_ret
    exact ⟨ret_bool HB2.out.symm,B2⟩
   have k0:((k:Int)==0)=false:=by rw [beq_eq_false_iff_ne];omega
   by_cases hd:48≤s[k].toNat∧s[k].toNat≤57
   ·rw [CL.2.1 hd] at c0
    have HG:=Lib.hid (show preOK (s.data.toList.take (k+1))=true by
     have h2:digitC s[k]=true:=by rw [digitC,decide_eq_true_eq];exact hd
     rw [HN.out,if_neg h0,wordC,h2];simp)
    clear CL hl h1 h0 hd
    go_wp2
    go_round
    case rel=>exact ⟨k+1,by omega,by go_num,HG.out⟩
    case measure=>simp [intOf];omega
   by_cases hu5:s[k].toNat=95
   ·rw [CL.2.2.1 hu5] at c0
    have HG:=Lib.hid (show preOK (s.data.toList.take (k+1))=true by
     rw [HN.out,if_neg h0,wordC,hu5];simp)
    clear CL hl h1 h0 hd hu5
    go_wp2
    go_round
    case rel=>exact ⟨k+1,by omega,by go_num,HG.out⟩
    case measure=>simp [intOf];omega
   have HF:=Lib.hid (show preOK (s.data.toList.take (k+1))=false by
    have h2:digitC s[k]=false:=by rw [digitC,decide_eq_false_iff_not];exact hd
    rw [HN.out,if_neg h0,wordC,h1,h2];simp [hu5])
   obtain ⟨n3,n4,n5⟩:=CL.2.2.2 hl hd hu5
   have h3:(clsF s[k].toNat != 3)=true:=by rw [bne_iff_ne];exact n3
   have h4:(clsF s[k].toNat != 4)=true:=by rw [bne_iff_ne];exact n4
   have h5:(clsF s[k].toNat != 5)=true:=by rw [bne_iff_ne];exact n5
   generalize clsF s[k].toNat=cv at *
   clear CL hl h1 h0 hd hu5
   have HB2:=Lib.hid (show nameB s=false by
    have h2:=preOK_app (s.data.toList.drop (k+1)) HF.out
    rw [List.take_append_drop] at h2
    rw [nameB,nameL,h2];simp)
   go_wp2
   go_ret
   exact ⟨ret_bool HB2.out.symm,B2⟩
  ·obtain rfl:k=s.size:=by omega
   have hall:s.data.toList.take s.size=s.data.toList:=List.take_of_length_le (by simp)
   have HE:=Lib.hid (show nameB s=(decide (0<s.size) && decide (s.size≤24)) by
    have h:=HP.out
    rw [hall] at h
    rw [nameB,nameL,h];simp)
   clear hall
   by_cases z:0<s.size
   ·have e0:(s.toList==[])=false:=str_ne_nil z
    have e1:s.toList.isEmpty=false:=str_not_empty z
    by_cases z2:s.size≤24
    ·go_wp2
     go_ret
     exact ⟨ret_bool (by rw [HE.out];simp [z];omega),B2⟩
    ·go_wp2
     go_ret
     exact ⟨ret_bool (by rw [HE.out];simp [z];omega),B2⟩
   ·have e0:s.toList=[]:=str_nil (by omega)
    have e1:s.toList.isEmpty=true:=by rw [e0];rfl
    go_wp2
    go_ret
    exact ⟨ret_bool (by rw [HE.out];simp [z]),B2⟩
end Go.Proofs.YtdfenhjibnfdeaaGreatDoor

namespace Go.Proofs.YtdfenhjibnfdeaaGreatDoor
open Go.RowKit
def StrRow (w:World) (v:Value) (l:List ByteArray):Prop :=
 ∃(a:Option Addr) (cap:Nat),v=.slice a l.length cap∧l.length≤140737488355328∧(∀s∈l,s.size≤140737488355328) ∧
  (0<l.length→∃b off,a=some ⟨b,off,none⟩∧∀(i:Nat) (s:ByteArray),l[i]?=some s→w.cell? ⟨b,off+i,none⟩=some (.string s))
theorem StrRow.later {w w':World} {v:Value} {l:List ByteArray} (h:StrRow w v l) (hb:Below w.heap.size w w'):StrRow w' v l:=by
 obtain ⟨a,cap,h1,h2,h3,h4⟩:=h
 refine ⟨a,cap,h1,h2,h3,fun h0=>?_⟩
 obtain ⟨b,off,e,hc⟩:=h4 h0
 exact ⟨b,off,e,fun i s hi=>cell_later hb (hc i s hi)⟩
def TagRow (w:World) (v:Value) (l:List TagD):Prop :=
 ∃(a:Option Addr) (cap:Nat),v=.slice a l.length cap∧l.length≤140737488355328∧(∀t∈l,t.key.size≤140737488355328∧t.val.size≤140737488355328) ∧
  (0<l.length→∃b off,a=some ⟨b,off,none⟩∧∀(i:Nat) (t:TagD),l[i]?=some t→w.cell? ⟨b,off+i * 2,none⟩=some (.string t.key)∧w.cell? ⟨b,off+i * 2+1,none⟩=some (.string t.val))
theorem TagRow.later {w w':World} {v:Value} {l:List TagD} (h:TagRow w v l) (hb:Below w.heap.size w w'):TagRow w' v l:=by
 obtain ⟨a,cap,h1,h2,h3,h4⟩:=h
 refine ⟨a,cap,h1,h2,h3,fun h0=>?_⟩
 obtain ⟨b,off,e,hc⟩:=h4 h0
 exact ⟨b,off,e,fun i s hi=>⟨cell_later hb (hc i s hi).1,cell_later hb (hc i s hi).2⟩⟩
theorem lt_of_cell {w:World} {b o:Nat} {v:Value} (h:w.cell? ⟨b,o,none⟩=some v):b<w.heap.size:=by
 rcases Nat.lt_or_ge b w.heap.size with h' | h'
 ·exact h'
 ·simp [World.cell?,Array.getElem?_eq_none h'] at h
end Go.Proofs.YtdfenhjibnfdeaaGreatDoor

namespace Go.Proofs.YtdfenhjibnfdeaaGreatDoor
open Go.RowKit Go.Shelf
structure Env (w:World):Prop where
 pow10:Lib.TabIs Tryz.prog w "internal/strconv.uint64pow10" .u64 Lib.pow10Tab
 synt:∃tp p,World.var? Tryz.prog w "strconv.ErrSyntax"=some #[.iface tp p]
 rng:∃tp p,World.var? Tryz.prog w "strconv.ErrRange"=some #[.iface tp p]
theorem var_lt {P:Program} {w:World} {n:String} {cs:Array Value} (h:World.var? P w n=some cs):∃g,P.globalNamed n=some g∧g<w.heap.size:=by
 unfold World.var? at h
 cases hg:P.globalNamed n with
 |none=>simp [hg] at h
 |some g =>
  refine ⟨g,rfl,?_⟩
  rcases Nat.lt_or_ge g w.heap.size with h' | h'
  ·exact h'
  ·simp [hg,Array.getElem?_eq_none h'] at h
theorem var_later {P:Program} {w w':World} {n:String} {cs:Array Value} (hb:Below w.heap.size w w') (h:World.var? P w n=some cs):World.var? P w' n=some cs:=by
 obtain ⟨g,hg,hlt⟩:=var_lt h
 exact var?_below hb hg hlt h
theorem Env.later {w w':World} (h:Env w) (hb:Below w.heap.size w w'):Env w' :=
 ⟨var_later hb h.pow10,by obtain ⟨t,p,e⟩:=h.synt;exact ⟨t,p,var_later hb e⟩,by obtain ⟨t,p,e⟩:=h.rng;exact ⟨t,p,var_later hb e⟩⟩
def itoaB (n:Int):ByteArray:=⟨(Lib.itoa n).toArray⟩
theorem itoaB_size (n:Int) (h0:-9223372036854775808≤n) (h1:n≤9223372036854775807):(itoaB n).size≤21:=by
 simp only [itoaB,size_of_list];exact Lib.itoa_length_le n h0 h1
theorem below_grow {w:World} {k:Nat} {os:Array Obj}:Below w.heap.size w (Sort.grow (w.drewN k) os) :=
 ⟨rfl,rfl,rfl,by simp [Sort.grow,World.drewN],fun j hj=>by show (w.heap++os)[j]?=_;rw [Array.getElem?_append_left hj]⟩
theorem itoa_below (n:Int) (h0:-9223372036854775808≤n) (h1:n≤9223372036854775807) (w:World) (he:Env w) :
  Calls Tryz.prog 30 #[.int .i64 n] w fun e w'=>e=.returned (.string (itoaB n))∧Below w.heap.size w w':=by
 refine (Tryz.strconv_Itoa n h0 h1 w he.pow10).mono ?_
 rintro e w' ⟨he,k,os,rfl⟩
 exact ⟨he,below_grow⟩
theorem below_bytes {w:World} {c t:_}:Below w.heap.size w (Lib.bytesWorld w c t):=by
 unfold Lib.bytesWorld
 refine Below.trans (b:=w.drew.alloc (.cells (Lib.bytesCells w c t) c)) ((Below.refl _ _).drew.alloc (Nat.le_refl _) _) ⟨rfl,rfl,rfl,?_,fun j hj=>?_⟩
 ·simp [World.freeze]
 ·simp only [World.freeze]
  rw [if_neg (by omega)]
  simp only [Array.getElem?_modify]
  rw [if_neg (by omega)]
end Go.Proofs.YtdfenhjibnfdeaaGreatDoor

namespace Go.Proofs.YtdfenhjibnfdeaaGreatDoor
open Go
def blankC (c:UInt8):Bool:=decide (c.toNat=32∨c.toNat=9∨c.toNat=10)
def symC (c:UInt8):Bool:=([59,44,46,58,40,41,123,125,91,93,61,60,62,47,45]:List UInt8).contains c
def spanN (p:UInt8→Bool):List UInt8→Nat
 |[]=>0
 |c :: r=>if p c then spanN p r+1 else 0
def unqL:List UInt8→Option (List UInt8 × Nat)
 |[]=>none
 |c :: r =>
  if c.toNat=34 then some ([],1) else if c.toNat=10 then none else if c.toNat=92 then
   match r with
   |[]=>none
   |d :: q=>if d.toNat=92 then (unqL q).map fun x=>(92 :: x.1,x.2+2) else if d.toNat=34 then (unqL q).map fun x=>(34 :: x.1,x.2+2)
    else if d.toNat=110 then (unqL q).map fun x=>(10 :: x.1,x.2+2) else none
  else (unqL r).map fun x=>(c :: x.1,x.2+1)
theorem unq_end {c:UInt8} (r:List UInt8) (h:c.toNat=34):unqL (c :: r)=some ([],1):=by rw [unqL.eq_def];simp only [if_pos h]
theorem unq_line {c:UInt8} (r:List UInt8) (h:c.toNat=10):unqL (c :: r)=none:=by rw [unqL.eq_def];simp only [if_pos h,if_neg (show ¬c.toNat=34 by omega)]
theorem unq_one {c:UInt8} (r:List UInt8) (h1:¬c.toNat=34) (h2:¬c.toNat=10) (h3:¬c.toNat=92):unqL (c :: r)=(unqL r).map fun x=>(c :: x.1,x.2+1):=by rw [unqL.eq_def];simp only [if_neg h1,if_neg h2,if_neg h3]
theorem unq_bs {c:UInt8} (h:c.toNat=92):unqL [c]=none:=by rw [unqL.eq_def];simp only [if_pos h,if_neg (show ¬c.toNat=34 by omega),if_neg (show ¬c.toNat=10 by omega)]
theorem unq_esc {c d:UInt8} (q:List UInt8) (h:c.toNat=92):unqL (c :: d :: q)=if d.toNat=92 then (unqL q).map fun x=>(92 :: x.1,x.2+2) else if d.toNat=34 then (unqL q).map fun x=>(34 :: x.1,x.2+2)
    else if d.toNat=110 then (unqL q).map fun x=>(10 :: x.1,x.2+2) else none:=by
 rw [unqL.eq_def];simp only [if_pos h,if_neg (show ¬c.toNat=34 by omega),if_neg (show ¬c.toNat=10 by omega)]
structure TokD where
 kind:Int
 text:ByteArray
 off:Nat
 deriving DecidableEq
structure FndD where
 tok:TokD
 err:Int
 deriving DecidableEq
def bytesOf (l:List UInt8):ByteArray:=⟨l.toArray⟩
def scan1:List UInt8→Nat × Option (Int × ByteArray × Int)
 |[]=>(0,none)
 |c :: r =>
  if blankC c then (1,none)
  else if c.toNat=35 then (spanN (fun d=>decide (d.toNat≠10)) (c :: r),none)
  else if letterC c then let n:=spanN wordC (c :: r);(n,some (1,bytesOf ((c :: r).take n),if 24<n then 2 else 0))
  else if digitC c then
   let n:=spanN digitC (c :: r)
   (n,some (2,bytesOf ((c :: r).take n),if 7<n∨(((c :: r).drop n).head?.elim false fun d=>letterC d || decide (d.toNat=95))=true then 4 else 0))
  else if c.toNat=34 then
   match unqL r with
   |some (s,n)=>(n+1,some (3,bytesOf s,0))
   |none=>(0,some (0,⟨#[]⟩,3))
  else if symC c then (1,some (4,bytesOf [c],0))
  else (0,some (0,⟨#[]⟩,3))
def toks:Nat→Nat→List UInt8→List FndD
 |0,_,_=>[]
 |_,_,[]=>[]
 |f+1,at',c :: r =>
  match scan1 (c :: r) with
  |(n,none)=>toks f (at'+n) ((c :: r).drop n)
  |(n,some (k,t,e))=>⟨⟨k,t,at'⟩,e⟩ :: if e=0 then toks f (at'+n) ((c :: r).drop n) else []
def toksB (s:ByteArray):List FndD:=toks s.size 0 s.data.toList
def lexF:List TokD→List FndD→List TokD × Int × Int
 |acc,[]=>(acc,0,0)
 |acc,f :: r=>if f.err≠0 then ([],f.err,f.tok.off) else if acc.length=5000 then ([],2,f.tok.off) else lexF (acc++[f.tok]) r
def lexP (s:ByteArray):List TokD × Int × Int:=if 20000<s.size then ([],2,-1) else lexF [] (toksB s)
end Go.Proofs.YtdfenhjibnfdeaaGreatDoor

namespace Go.Proofs.YtdfenhjibnfdeaaGreatDoor
open Go
def escC (c:UInt8):List UInt8:=if c.toNat=10 then [92,110] else if c.toNat=34∨c.toNat=92 then [92,c] else [c]
def quoteL (l:List UInt8):List UInt8:=34 :: l.flatMap escC++[34]
def lstB (s:ByteArray):List UInt8:=s.data.toList
end Go.Proofs.YtdfenhjibnfdeaaGreatDoor

namespace Go.Proofs.YtdfenhjibnfdeaaGreatDoor
open Go
inductive CondD where
 |mk (op:Int) (key val:ByteArray) (n:Int) (kids:List CondD)
def CondD.op:CondD→Int
 |.mk o _ _ _ _=>o
def CondD.key:CondD→ByteArray
 |.mk _ k _ _ _=>k
def CondD.val:CondD→ByteArray
 |.mk _ _ v _ _=>v
def CondD.n:CondD→Int
 |.mk _ _ _ n _=>n
def CondD.kids:CondD→List CondD
 |.mk _ _ _ _ ks=>ks
def wAlways:ByteArray:=⟨#[97,108,119,97,121,115]⟩
def wAnd:ByteArray:=⟨#[97,110,100]⟩
def wNot:ByteArray:=⟨#[110,111,116]⟩
def wOr:ByteArray:=⟨#[111,114]⟩
def wWhere:ByteArray:=⟨#[119,104,101,114,101]⟩
def wAll:ByteArray:=⟨#[97,108,108]⟩
def wInside:ByteArray:=⟨#[105,110,115,105,100,101]⟩
def wAlong:ByteArray:=⟨#[97,108,111,110,103]⟩
def wNearest:ByteArray:=⟨#[110,101,97,114,101,115,116]⟩
def wReach:ByteArray:=⟨#[114,101,97,99,104]⟩
def wCount:ByteArray:=⟨#[99,111,117,110,116]⟩
def wBy:ByteArray:=⟨#[98,121]⟩
def wTo:ByteArray:=⟨#[116,111]⟩
def wIn:ByteArray:=⟨#[105,110]⟩
def wAt:ByteArray:=⟨#[97,116]⟩
def wAny:ByteArray:=⟨#[97,110,121]⟩
def wNode:ByteArray:=⟨#[110,111,100,101]⟩
def wWay:ByteArray:=⟨#[119,97,121]⟩
def wArea:ByteArray:=⟨#[97,114,101,97]⟩
def wRoute:ByteArray:=⟨#[114,111,117,116,101]⟩
def wTurn:ByteArray:=⟨#[116,117,114,110]⟩
def wOpen:ByteArray:=⟨#[40]⟩
def wClose:ByteArray:=⟨#[41]⟩
def wIs:ByteArray:=⟨#[61]⟩
def wMore:ByteArray:=⟨#[62]⟩
def resB (s:ByteArray):Bool:=decide (s=wAlways∨s=wAnd∨s=wNot∨s=wOr∨s=wWhere)
def keyB (s:ByteArray):Bool:=nameB s && !resB s
def kindsW:List ByteArray:=[wAny,wNode,wWay,wArea,wRoute,wTurn]
def emptyB:ByteArray:=⟨#[]⟩
def nodeB (o:Int) (k v:ByteArray) (n:Int) (K:Nat):Bool :=
 if o=1 then decide (k.size=0) && decide (v.size=0) && decide (n=0) && decide (K=0)
 else if o=2 then keyB k && decide (v.size=0) && decide (n=0) && decide (K=0)
 else if o=3 then keyB k && decide (0<v.size) && decide (v.size≤200) && decide (n=0) && decide (K=0)
 else if o=7 then keyB k && decide (v.size=0) && decide (0≤n) && decide (n≤9999999) && decide (K=0)
 else if o=4 then decide (k.size=0) && decide (v.size=0) && decide (n=0) && decide (K=1)
 else if o=5∨o=6 then decide (k.size=0) && decide (v.size=0) && decide (n=0) && decide (1<K)
 else false
def nodeOK (c:CondD):Bool:=nodeB c.op c.key c.val c.n c.kids.length
mutual
def cnodes:CondD→Nat
 |.mk _ _ _ _ ks=>cnodesL ks+1
def cnodesL:List CondD→Nat
 |[]=>0
 |c :: r=>cnodes c+cnodesL r
end
mutual
def callC (p:CondD→Bool):CondD→Bool
 |.mk o k v n ks=>p (.mk o k v n ks) && callL p ks
def callL (p:CondD→Bool):List CondD→Bool
 |[]=>true
 |c :: r=>callC p c && callL p r
end
def validC (c:CondD):Bool:=decide (cnodes c≤60) && callC nodeOK c
def getB (key:ByteArray):List TagD→Option ByteArray
 |[]=>none
 |t :: l=>if t.key=key then some t.val else getB key l
def numS (s:ByteArray):Option Int:=match Lib.atoiAll s.data.toList with
 |.ok v=>some v
 |_=>none
def notDig (x:Nat):Bool:=decide (x<48) || decide (57<x)
def digsB (s:ByteArray):Bool:=!decide (0≤Lib.idxFunc notDig true s)
def moreT (s:ByteArray) (n:Int):Bool:=digsB s && decide (s.size≤7) && (numS s).any fun v=>decide (n<v)
mutual
def holdsC (l:List TagD):CondD→Bool
 |.mk o k v n ks =>
  if o=2 then (getB k l).isSome
  else if o=3 then decide (getB k l=some v)
  else if o=7 then (getB k l).any fun s=>moreT s n
  else if o=4 then !allK l ks
  else if o=5 then allK l ks
  else if o=6 then anyK l ks
  else true
def allK (l:List TagD):List CondD→Bool
 |[]=>true
 |c :: r=>holdsC l c && allK l r
def anyK (l:List TagD):List CondD→Bool
 |[]=>false
 |c :: r=>holdsC l c || anyK l r
end
structure QryD where
 ask:Int
 kind:Int
 wher:CondD
 id:ByteArray
 n:Int
 x:Int
 y:Int
 key:ByteArray
 prof:ByteArray
 minute:Int
def validQ (q:QryD):Bool :=
 decide (0≤q.kind∧q.kind<6) && validC q.wher &&
  (if q.ask=1 then decide (q.id=emptyB∧q.n=0∧q.x=0∧q.y=0∧q.key=emptyB∧q.prof=emptyB∧q.minute=0)
  else if q.ask=2 then nameB q.id && decide (q.n=0∧q.x=0∧q.y=0∧q.key=emptyB∧q.prof=emptyB∧q.minute=0)
  else if q.ask=3 then nameB q.id && decide (0≤q.n∧q.n≤1048576∧q.x=0∧q.y=0∧q.key=emptyB∧q.prof=emptyB∧q.minute=0)
  else if q.ask=4 then decide (1≤q.n∧q.n≤10000∧0≤q.x∧q.x≤1048575∧0≤q.y∧q.y≤1048575) && decide (q.id=emptyB∧q.key=emptyB∧q.prof=emptyB∧q.minute=0)
  else if q.ask=5 then nameB q.id && decide (0≤q.n∧q.n≤10080) && nameB q.prof && decide (0≤q.minute∧q.minute≤9999999∧q.x=0∧q.y=0∧q.key=emptyB)
  else if q.ask=6 then nameB q.key && decide (q.id=emptyB∧q.n=0∧q.x=0∧q.y=0∧q.prof=emptyB∧q.minute=0)
  else false)
inductive PR (α:Type) where
 |ok (a:α) (rest:List TokD)
 |bad (err:Int) (off:Nat)
def PR.bind {α β:Type} (x:PR α) (f:α→List TokD→PR β):PR β:=match x with
 |.ok a r=>f a r
 |.bad e o=>.bad e o
def failP {α:Type} (fin:Nat) (e:Int):List TokD→PR α
 |[]=>.bad 6 fin
 |t :: _=>.bad e t.off
def isP (s:ByteArray):List TokD→Bool
 |[]=>false
 |t :: _=>decide (t.text=s) && decide (t.kind=1∨t.kind=4)
def wantP (fin:Nat) (s:ByteArray) (ts:List TokD):PR Unit:=if isP s ts then .ok () ts.tail else failP fin 5 ts
def nextP (fin:Nat) (kind:Int) (check:ByteArray→Bool) (ts:List TokD):PR ByteArray:=match ts with
 |[]=>.bad 6 fin
 |t :: r=>if t.kind=kind then (if check t.text then .ok t.text r else .bad 10 t.off) else .bad 5 t.off
def nameP (fin:Nat) (ts:List TokD):PR ByteArray:=nextP fin 1 nameB ts
def atoiN (s:ByteArray):Int:=(numS s).getD 0
def numP (fin:Nat) (low high:Int) (ts:List TokD):PR Int:=(nextP fin 2 (fun s=>decide (low≤atoiN s∧atoiN s≤high)) ts).bind fun s r=>.ok (atoiN s) r
def moreP (one:List TokD→PR CondD) (word:ByteArray):Nat→List CondD→List TokD→PR (List CondD)
 |0,acc,ts=>.ok acc ts
 |k+1,acc,ts=>if isP word ts then (one ts.tail).bind fun c r=>moreP one word k (acc++[c]) r else .ok acc ts
def mkP (op:Int):List CondD→CondD
 |[c]=>c
 |l=>.mk op emptyB emptyB 0 l
def seriesP (one:List TokD→PR CondD) (word:ByteArray) (op:Int) (ts:List TokD):PR CondD :=
 (one ts).bind fun c r=>(moreP one word r.length [c] r).bind fun l r=>.ok (mkP op l) r
def notP (fin:Nat):Nat→List TokD→PR CondD
 |0,ts=>failP fin 5 ts
 |f+1,ts =>
  if isP wNot ts then (notP fin f ts.tail).bind fun c r=>.ok (.mk 4 emptyB emptyB 0 [c]) r
  else if isP wOpen ts then (seriesP (seriesP (notP fin f) wAnd 5) wOr 6 ts.tail).bind fun c r=>(wantP fin wClose r).bind fun _ r=>.ok c r
  else if isP wAlways ts then .ok (.mk 1 emptyB emptyB 0 []) ts.tail
  else if (ts.head?.any fun t=>resB t.text) then failP fin 5 ts
  else (nameP fin ts).bind fun k r =>
   if isP wIs r then (nextP fin 3 (fun s=>decide (s≠emptyB∧s.size≤200)) r.tail).bind fun v r=>.ok (.mk 3 k v 0 []) r
   else if isP wMore r then (numP fin 0 9999999 r.tail).bind fun n r=>.ok (.mk 7 k emptyB n []) r
   else .ok (.mk 2 k emptyB 0 []) r
def andP (fin f:Nat):List TokD→PR CondD:=seriesP (notP fin f) wAnd 5
def condP (fin f:Nat):List TokD→PR CondD:=seriesP (andP fin f) wOr 6
def allW:CondD:=.mk 1 emptyB emptyB 0 []
def askP (fin:Nat) (ts:List TokD):PR QryD:=match ts with
 |[]=>.bad 6 fin
 |t :: r=>if t.kind=1 then
   let q:QryD:=⟨0,0,.mk 0 emptyB emptyB 0 [],emptyB,0,0,0,emptyB,emptyB,0⟩
   if t.text=wAll then .ok { q with ask:=1 } r
   else if t.text=wInside then (nameP fin r).bind fun i r=>.ok { q with ask:=2,id:=i } r
   else if t.text=wAlong then (nameP fin r).bind fun i r=>(wantP fin wBy r).bind fun _ r=>(numP fin 0 1048576 r).bind fun n r=>.ok { q with ask:=3,id:=i,n:=n } r
   else if t.text=wNearest then (numP fin 1 10000 r).bind fun n r=>(wantP fin wTo r).bind fun _ r=>(numP fin 0 1048575 r).bind fun x r=>(numP fin 0 1048575 r).bind fun y r=>.ok { q with ask:=4,n:=n,x:=x,y:=y } r
   else if t.text=wReach then (nameP fin r).bind fun i r=>(wantP fin wIn r).bind fun _ r=>(numP fin 0 10080 r).bind fun n r=>(wantP fin wBy r).bind fun _ r=>(nameP fin r).bind fun p r=>(wantP fin wAt r).bind fun _ r=>(numP fin 0 9999999 r).bind fun m r=>.ok { q with ask:=5,id:=i,n:=n,prof:=p,minute:=m } r
   else if t.text=wCount then (nameP fin r).bind fun k r=>.ok { q with ask:=6,key:=k } r
   else .bad 5 t.off
  else .bad 5 t.off
def wordP:List ByteArray→List TokD→Option Nat
 |[],_=>none
 |w :: l,ts=>if isP w ts then some 0 else (wordP l ts).map (·+1)
def queryP (fin:Nat) (ts:List TokD):PR QryD :=
 (askP fin ts).bind fun q r=>match wordP kindsW r with
  |none=>failP fin 5 r
  |some k =>
   let r:=r.tail
   let q:={ q with kind:=(k:Int),wher:=allW }
   if isP wWhere r then (condP fin r.length r.tail).bind fun c r=>if r=[] then .ok { q with wher:=c } r else failP fin 5 r
   else if r=[] then .ok q r else failP fin 5 r
end Go.Proofs.YtdfenhjibnfdeaaGreatDoor

namespace Go.Proofs.YtdfenhjibnfdeaaGreatDoor
open Go.RowKit
def condL (c:CondD) (a:Option Addr) (cap:Nat):List Value:=[.int .i64 c.op,.string c.key,.string c.val,.int .i64 c.n,.slice a c.kids.length cap]
def condV (c:CondD) (a:Option Addr) (cap:Nat):Value:=.agg (condL c a cap).toArray
def Cells5 (w:World) (b off:Nat) (c:CondD) (a:Option Addr) (cap:Nat):Prop :=
 w.cell? ⟨b,off,none⟩=some (.int .i64 c.op)∧w.cell? ⟨b,off+1,none⟩=some (.string c.key)∧w.cell? ⟨b,off+2,none⟩=some (.string c.val) ∧
  w.cell? ⟨b,off+3,none⟩=some (.int .i64 c.n)∧w.cell? ⟨b,off+4,none⟩=some (.slice a c.kids.length cap)
mutual
def CondIs (w:World):CondD→Option Addr→Prop
 |.mk _ k s _ ks,a=>k.size≤140737488355328∧s.size≤140737488355328∧ks.length≤140737488355328∧(0<ks.length→∃b off,a=some ⟨b,off,none⟩∧KidsIs w b ks off)
def KidsIs (w:World) (b:Nat):List CondD→Nat→Prop
 |[],_=>True
 |c :: r,off=>(∃a cap,Cells5 w b off c a cap∧CondIs w c a)∧KidsIs w b r (off+5)
end
theorem CondIs.open {w:World} {c:CondD} {a:Option Addr} (h:CondIs w c a) :
  c.key.size≤140737488355328∧c.val.size≤140737488355328∧c.kids.length≤140737488355328∧(0<c.kids.length→∃b off,a=some ⟨b,off,none⟩∧KidsIs w b c.kids off):=by
 cases c;exact h
theorem CondIs.mk {w:World} {c:CondD} {a:Option Addr} (h:c.key.size≤140737488355328∧c.val.size≤140737488355328∧c.kids.length≤140737488355328∧(0<c.kids.length→∃b off,a=some ⟨b,off,none⟩∧KidsIs w b c.kids off)):CondIs w c a:=by
 cases c;exact h
theorem KidsIs.at {w:World} {b:Nat}:∀(ks:List CondD) (off i:Nat) (c:CondD),KidsIs w b ks off→ks[i]?=some c→∃a cap,Cells5 w b (off+i * 5) c a cap∧CondIs w c a
 |[],_,_,_,_,hi=>by cases hi
 |x :: r,off,i,c,h,hi=>by
  rw [KidsIs] at h
  cases i with
  |zero=>injection hi with hi;subst hi;simpa using h.1
  |succ i =>
   have:=KidsIs.at r (off+5) i c h.2 hi
   rwa [show off+5+i * 5=off+(i+1) * 5 by omega] at this
theorem KidsIs.of {w:World} {b:Nat}:∀(ks:List CondD) (off:Nat),(∀i c,ks[i]?=some c→∃a cap,Cells5 w b (off+i * 5) c a cap∧CondIs w c a)→KidsIs w b ks off
 |[],_,_=>by rw [KidsIs];trivial
 |x :: r,off,h=>by
  rw [KidsIs]
  refine ⟨by simpa using h 0 x rfl,KidsIs.of r (off+5) fun i c hi=>?_⟩
  have:=h (i+1) c hi
  rwa [show off+(i+1) * 5=off+5+i * 5 by omega] at this
theorem Cells5.later {w w':World} {b off:Nat} {c:CondD} {a:Option Addr} {cap:Nat} (h:Cells5 w b off c a cap) (hb:Below w.heap.size w w'):Cells5 w' b off c a cap :=
 ⟨cell_later hb h.1,cell_later hb h.2.1,cell_later hb h.2.2.1,cell_later hb h.2.2.2.1,cell_later hb h.2.2.2.2⟩
theorem cnodes_eq (c:CondD):cnodes c=cnodesL c.kids+1:=by cases c;rw [cnodes];rfl
theorem cnodes_pos (c:CondD):0<cnodes c:=by rw [cnodes_eq];omega
theorem cnodes_kid:∀(ks:List CondD) (i:Nat) (c:CondD),ks[i]?=some c→cnodes c≤cnodesL ks
 |[],_,_,h=>by cases h
 |x :: r,i,c,h=>by
  rw [cnodesL]
  cases i with
  |zero=>injection h with h;subst h;omega
  |succ i=>have:=cnodes_kid r i c h;omega
theorem CondIs.laterN {w w':World} (hb:Below w.heap.size w w'):∀(k:Nat) (c:CondD) (a:Option Addr),cnodes c≤k→CondIs w c a→CondIs w' c a
 |0,c,_,hk,_=>by have:=cnodes_pos c;omega
 |k+1,c,a,hk,h=>by
  obtain ⟨h1,h2,h3,h4⟩:=h.open
  refine CondIs.mk ⟨h1,h2,h3,fun h0=>?_⟩
  obtain ⟨b,off,ha,hx⟩:=h4 h0
  refine ⟨b,off,ha,KidsIs.of _ _ fun i x hi=>?_⟩
  obtain ⟨a',cap,h5,h6⟩:=KidsIs.at _ _ i x hx hi
  have:=cnodes_kid _ i x hi
  rw [cnodes_eq] at hk
  exact ⟨a',cap,h5.later hb,CondIs.laterN hb k x a' (by omega) h6⟩
theorem CondIs.later {w w':World} {c:CondD} {a:Option Addr} (h:CondIs w c a) (hb:Below w.heap.size w w'):CondIs w' c a:=CondIs.laterN hb (cnodes c) c a (Nat.le_refl _) h
theorem callC_eq (p:CondD→Bool) (c:CondD):callC p c=(p c && callL p c.kids):=by cases c;rw [callC];rfl
theorem callL_take (p:CondD→Bool):∀(ks:List CondD) (i:Nat) (c:CondD),ks[i]?=some c→callL p (ks.take (i+1))=(callL p (ks.take i) && callC p c)
 |[],_,_,h=>by cases h
 |x :: r,i,c,h=>by
  cases i with
  |zero=>injection h with h;subst h;simp [callL]
  |succ i =>
   have:=callL_take p r i c h
   rw [List.take_succ_cons,List.take_succ_cons,callL,callL,this,Bool.and_assoc]
theorem callL_bad (p:CondD→Bool):∀(ks:List CondD) (i:Nat) (c:CondD),ks[i]?=some c→callC p c=false→callL p ks=false
 |[],_,_,h,_=>by cases h
 |x :: r,i,c,h,hc=>by
  rw [callL]
  cases i with
  |zero=>injection h with h;subst h;rw [hc];rfl
  |succ i=>rw [callL_bad p r i c h hc,Bool.and_false]
theorem holdsC_eq (l:List TagD) (c:CondD):holdsC l c=if c.op=2 then (getB c.key l).isSome
  else if c.op=3 then decide (getB c.key l=some c.val)
  else if c.op=7 then (getB c.key l).any fun s=>moreT s c.n
  else if c.op=4 then !allK l c.kids
  else if c.op=5 then allK l c.kids
  else if c.op=6 then anyK l c.kids
  else true:=by cases c;rw [holdsC];rfl
end Go.Proofs.YtdfenhjibnfdeaaGreatDoor

namespace Go.Proofs.YtdfenhjibnfdeaaGreatDoor
open Go.RowKit
theorem own_laterL {w w':World} {B e size n:Nat} {v:Value} {xs:List Value} (h:w.ownsRow B e size v n xs) (hb:Below w.heap.size w w'):w'.ownsRow B e size v n xs:=by
 obtain ⟨h0,h⟩:=h
 refine ⟨h0,?_⟩
 rcases h with h | ⟨g,cap,cur,h1,h2,h3,h4⟩
 ·exact .inl h
 ·exact .inr ⟨g,cap,cur,h1,h2,row_later hb h3,h4⟩
end Go.Proofs.YtdfenhjibnfdeaaGreatDoor

namespace Go.Proofs.YtdfenhjibnfdeaaGreatDoor
open Go.RowKit Go.Shelf
theorem cells_newQ (w:World) (cs:List Value) (t:TypeId):∀(j:Nat) (u:Value),cs[j]?=some u→(w.alloc (.cells cs.toArray t)).cell? ((⟨w.heap.size,0,none⟩:Addr).add j)=some u:=by
 intro j u hj
 rw [Addr.add_lit]
 have:=cell_of_row _ w.heap.size (0+j) _ _ _ (row_new w (.cells cs.toArray t))
 rw [this,Nat.zero_add]
 simpa using hj
theorem strs_new (w:World) (l:List ByteArray) (h:l.length≤1000) (hs:∀s∈l,s.size≤1000000):StrRow (w.alloc (.cells (l.map Value.string).toArray 9)) (.slice (some ⟨w.heap.size,0,none⟩) l.length l.length) l :=
 ⟨some ⟨w.heap.size,0,none⟩,l.length,rfl,by omega,(fun s h'=>by have:=hs s h';omega),fun _=>⟨w.heap.size,0,rfl,fun i s hi=>by
  have:=cells_newQ w (l.map Value.string) 9 i (.string s) (by rw [List.getElem?_map,hi];rfl)
  have e:(⟨w.heap.size,0,none⟩:Addr).add i=⟨w.heap.size,0+i,none⟩:=(by unfold Addr.add;split<;>simp_all)
  rw [e] at this;exact this⟩⟩
theorem contains_any (v:Value) (ids:List ByteArray) (x:ByteArray) (w:World) (h:StrRow w v ids) :
  Calls Tryz.prog 138 #[v,.string x] w fun e w'=>e=.returned (.bool (ids.any fun s=>decide (x=s)))∧w'=w:=by
 obtain ⟨a,cap,rfl,hn,hz,hc⟩:=h
 rcases Nat.eq_zero_or_pos ids.length with h0 | h0
 ·have:=Tryz.slices_Contains_string_empty a cap x w
  rw [h0]
  refine this.mono ?_
  rintro e w' ⟨rfl,rfl⟩
  have:ids=[]:=List.length_eq_zero_iff.1 h0
  subst this
  exact ⟨by simp,rfl⟩
 ·obtain ⟨b,off,rfl,hcell⟩:=hc h0
  have:=Tryz.slices_Contains_string b off ids.length cap ids x w (Nat.le_refl _) (by omega) (fun j hj=>by
   have:=hcell j (ids[j]) (List.getElem?_eq_getElem hj)
   rw [this]
   simp [List.getD,List.getElem?_eq_getElem hj])
  refine this.mono ?_
  rintro e w' ⟨rfl,rfl⟩
  refine ⟨?_,rfl⟩
  rw [List.take_of_length_le (Nat.le_refl _)]
  congr 2
  rw [Bool.eq_iff_iff,Lib.containsS_iff]
  simp
def resL:List ByteArray:=[wAlways,wAnd,wNot,wOr,wWhere]
theorem resB_mem (s:ByteArray):resB s=resL.any fun x=>decide (s=x):=by simp [resB,resL]
set_option maxHeartbeats 1000000 in
theorem reserved_any (s:ByteArray) (w:World) :
  Calls Tryz.prog 121 #[.string s] w fun e w'=>e=.returned (.bool (resB s))∧Below w.heap.size w w':=by
 have B1:Below w.heap.size w (w.alloc (.cells (resL.map Value.string).toArray 9)):=(Below.refl _ w).alloc (Nat.le_refl _) _
 have HS:=Lib.hid (strs_new w resL (by decide) (by decide))
 have CT:=Lib.hid (fun W v h=>contains_any v resL s W h)
 rw [resB_mem]
 go_enter Tryz.func121,Tryz.ntmps121
 go_wp2_with fail
 refine (CT.out _ _ HS.out).mono ?_
 rintro e w2 ⟨rfl,rfl⟩
 go_wp2
 go_ret
 exact ⟨rfl,B1⟩
set_option maxHeartbeats 1000000 in
theorem key_any (s:ByteArray) (hs:s.size≤140737488355328) (w:World) :
  Calls Tryz.prog 88 #[.string s] w fun e w'=>e=.returned (.bool (keyB s))∧Below w.heap.size w w':=by
 have HN:=Lib.hid (fun W=>name_any s hs W)
 have HR:=Lib.hid (fun W=>reserved_any s W)
 rw [keyB]
 cases h1:nameB s
 ·rw [h1] at HN
  go_enter Tryz.func88,Tryz.ntmps88
  go_wp2_with fail
  refine (HN.out _).mono ?_
  rintro e w1 ⟨rfl,hb1⟩
  go_wp2
  go_ret
  exact ⟨rfl,hb1⟩
 ·rw [h1] at HN
  cases h2:resB s
  all_goals
   rw [h2] at HR
   go_enter Tryz.func88,Tryz.ntmps88
   go_wp2_with fail
   refine (HN.out _).mono ?_
   rintro e w1 ⟨rfl,hb1⟩
   go_wp2_with fail
   refine (HR.out _).mono ?_
   rintro e w2 ⟨rfl,hb2⟩
   have hb:=below_step hb1 (Nat.le_refl _) hb2
   go_wp2
   go_ret
   exact ⟨rfl,hb⟩
end Go.Proofs.YtdfenhjibnfdeaaGreatDoor
