/-     -/
import Derived.Test.YtdfenhjibnfdeaaGreatDoorQzAo
import Derived.Test.YtdfenhjibnfdeaaGreatDoorQzAc
import Derived.Test.YtdfenhjibnfdeaaGreatDoorQzAb
import Derived.RangeFuncBox
import Derived.RangeFuncNested
import Derived.RangeFuncBound
import Derived.RangeFuncCalls
import Derived.RangeFuncLeaves
import Derived.RangeFuncOwn
import Derived.Shelf.Abstract
import Derived.OwnWalkIn
import Derived.TacticsInMore
import Derived.LoopNIn
import Derived.LoopIn
import Derived.Stop.RegionWithIn
namespace Go.Proofs.YtdfenhjibnfdeaaGreatDoor
open Go.RowKit Go.Shelf
def ib3 (k:Nat):Int:=Lib.indexByte (⟨#[92,34,110]⟩:ByteArray).data.toList k.toUInt8
theorem ib3_any (k:Nat) (w:World):Calls Tryz.prog 89 #[.string ⟨#[92,34,110]⟩,.int .u8 k] w fun e w'=>e=.returned (.int .i64 (ib3 k))∧w'=w :=
 (Tryz.strings_IndexByte _ _ w).mono fun _ _ h=>⟨h.1,h.2⟩
theorem ib3_all:((List.range 256).all fun n=>decide (ib3 n=if n=92 then 0 else if n=34 then 1 else if n=110 then 2 else -1))=true:=by decide +kernel
theorem ib3_eq {n:Nat} (h:n<256):ib3 n=if n=92 then 0 else if n=34 then 1 else if n=110 then 2 else -1:=by
 have:=List.all_eq_true.1 ib3_all n (List.mem_range.2 h)
 simpa using this
theorem drop_at (s:ByteArray) (k:Nat) (h:k<s.size):(lstB s).drop k=s[k] :: (lstB s).drop (k+1):=List.drop_eq_getElem_cons (by rw [lstB_len];exact h)
theorem drop_end (s:ByteArray) (k:Nat) (h:s.size≤k):(lstB s).drop k=[]:=List.drop_of_length_le (by rw [lstB_len];exact h)
def UqI (s:ByteArray) (k:Nat) (acc:List UInt8):Prop:=1≤k∧acc.length≤k∧unqL ((lstB s).drop 1)=(unqL ((lstB s).drop k)).map fun x=>(acc++x.1,x.2+(k - 1))
theorem UqI.one {s:ByteArray} {k:Nat} {acc:List UInt8} (h:UqI s k acc) (hk:k<s.size) (h1:¬s[k].toNat=34) (h2:¬s[k].toNat=10) (h3:¬s[k].toNat=92):UqI s (k+1) (acc++[s[k]]):=by
 obtain ⟨a,b,c⟩:=h
 refine ⟨by omega,by simp;omega,?_⟩
 rw [c,drop_at s k hk,unq_one _ h1 h2 h3,Option.map_map]
 congr 1;funext x;simp;omega
theorem UqI.esc {s:ByteArray} {k:Nat} {acc:List UInt8} (h:UqI s k acc) (hk:k+1<s.size) (h3:s[k].toNat=92) {d:UInt8} (hd:s[k+1].toNat=92∧d=92∨s[k+1].toNat=34∧d=34∨s[k+1].toNat=110∧d=10):UqI s (k+1+1) (acc++[d]):=by
 obtain ⟨a,b,c⟩:=h
 refine ⟨by omega,by simp;omega,?_⟩
 rw [c,drop_at s k (by omega),drop_at s (k+1) hk,unq_esc _ h3]
 rcases hd with ⟨hd,rfl⟩ | ⟨hd,rfl⟩ | ⟨hd,rfl⟩
 ·simp only [if_pos hd,Option.map_map]
  congr 1;funext x;simp;omega
 ·simp only [if_neg (show ¬s[k+1].toNat=92 by omega),if_pos hd,Option.map_map]
  congr 1;funext x;simp;omega
 ·simp only [if_neg (show ¬s[k+1].toNat=92 by omega),if_neg (show ¬s[k+1].toNat=34 by omega),if_pos hd,Option.map_map]
  congr 1;funext x;simp;omega
theorem UqI.done {s:ByteArray} {k:Nat} {acc:List UInt8} (h:UqI s k acc) (hk:k<s.size) (h1:s[k].toNat=34):unqL ((lstB s).drop 1)=some (acc,k):=by
 obtain ⟨a,b,c⟩:=h
 rw [c,drop_at s k hk,unq_end _ h1]
 simp;omega
theorem UqI.fail {s:ByteArray} {k:Nat} {acc:List UInt8} (h:UqI s k acc) (hn:unqL ((lstB s).drop k)=none):unqL ((lstB s).drop 1)=none:=by
 rw [h.2.2,hn];rfl
def unqV (s:ByteArray):Value:=match unqL ((lstB s).drop 1) with
 |some (t,n)=>.tuple #[.string (bytesOf t),.int .i64 (n+1:Nat)]
 |none=>.tuple #[.string ⟨#[]⟩,.int .i64 0]
theorem UqI.ret {s:ByteArray} {k:Nat} {acc:List UInt8} (h:UqI s k acc) (hn:unqL ((lstB s).drop k)=none):Ending.returned (.tuple #[.string ⟨#[]⟩,.int .i64 0])=.returned (unqV s):=by
 rw [unqV,h.fail hn]
theorem UqI.ret2 {s:ByteArray} {k:Nat} {acc:List UInt8} (h:UqI s k acc) (hk:k<s.size) (h1:s[k].toNat=34) {i:Int} (hi:i=(k:Int)+1):Ending.returned (.tuple #[.string (bytesOf acc),.int .i64 i])=.returned (unqV s):=by
 rw [unqV,h.done hk h1,hi];rfl
set_option maxRecDepth 100000 in
set_option maxHeartbeats 4000000 in
theorem unquoted_any (s:ByteArray) (h1:1≤s.size) (hs:s.size≤20000) (w:World) :
  Calls Tryz.prog 70 #[.string s] w fun e w'=>e=.returned (unqV s)∧Below w.heap.size w w':=by
 have hb0:Below w.heap.size w (w.alloc (.cells #[.pointer none,.slice none 0 0] 92)):=(Below.refl _ w).alloc (Nat.le_refl _) _
 have h0:BldF 92 w.heap.size w.heap.size (Lib.byteCells []) (w.alloc (.cells #[.pointer none,.slice none 0 0] 92)) :=
  .inl ⟨Nat.le_refl _,_,row_new w _,World.ownsRowF_of (World.ownsRow_nil _ _ _ _),by simp [Value.ownBlock]⟩
 have HU0:=Lib.hid (show UqI s 1 [] from ⟨by omega,by simp,by simp⟩)
 go_enter Tryz.func70,Tryz.ntmps70
 go_wp2
 go_loopw [5] (fun i wr=>∃(k:Nat) (acc:List UInt8),k≤s.size∧i=.int .i64 k∧UqI s k acc∧BldF 92 w.heap.size w.heap.size (Lib.byteCells acc) wr∧Below w.heap.size w wr) (fun i _=>s.size - (intOf i).toNat)
 case atStart=>exact ⟨1,[],by omega,rfl,HU0.out,h0,hb0⟩
 case round =>
  clear h0 hb0 HU0
  obtain ⟨k,acc,hk,rfl,hU,hW,hbr⟩:=hrel
  have hsz:=hbr.size
  have HU:=Lib.hid hU
  have hal:=hU.2.1
  clear hU
  by_cases hlt:k<s.size
  ·have hu:=UInt8.toNat_lt s[k]
   by_cases e1:s[k].toNat=34
   ·have C1:=Lib.hid (Tryz.Builder_String_any_k _ _ acc wr hW hsz)
    have HR:=Lib.hid (fun (i:Int) (hi:i=(k:Int)+1)=>HU.out.ret2 hlt e1 hi)
    clear hW
    go_wp2_with fail
    refine C1.out.mono ?_
    rintro e w2 ⟨rfl,-,hb2,-⟩
    go_wp2
    go_ret2
    exact ⟨HR.out _ (by go_num),hbr.trans hb2⟩
   by_cases e2:s[k].toNat=10
   ·go_wp2
    go_ret2
    exact ⟨UqI.ret HU.out (by rw [drop_at s k hlt,unq_line _ e2]),hbr⟩
   by_cases e3:s[k].toNat=92
   ·by_cases hk1:k+1<s.size
    ·have hu1:=UInt8.toNat_lt s[k+1]
     have hib:=ib3_eq hu1
     by_cases f1:s[k+1].toNat=92
     ·rw [if_pos f1] at hib
      have HN:=Lib.hid (HU.out.esc hk1 e3 (d:=92) (.inl ⟨f1,rfl⟩))
      have C1:=Lib.hid (bbyte_any bldB _ _ _ 92 wr hW (by rw [Lib.byteCells_length];omega) hsz)
      have C2:Calls Tryz.prog 42 #[.pointer (some ⟨w.heap.size,0,none⟩),.int .u8 92] wr fun e w'=>e=.returned .nilIface∧BldU 92 w.heap.size w.heap.size (Lib.byteCells (acc++[92])) w'∧Below w.heap.size wr w':=C1.out.mono fun e w' h=>⟨h.1,by have:=h.2.1;rw [show (Value.int .u8 92)=.int .u8 ((92:UInt8).toNat:Int) from rfl,cells_byte] at this;exact this,h.2.2.1⟩
      have C2:=Lib.hid C2
      clear hW C1
      go_wp2_with (first | (go_at_call 89;refine (ib3_any _ _).mono ?_;rintro e w' ⟨rfl,rfl⟩) | (go_at_call 42;refine C2.out.mono ?_;rintro e w2 ⟨rfl,h2,hb2⟩))
      go_roundw
      case rel=>exact ⟨k+1+1,acc++[92],by omega,by go_num,HN.out,.inr h2,hbr.trans hb2⟩
      case measure=>simp [intOf];omega
     rw [if_neg f1] at hib
     by_cases f2:s[k+1].toNat=34
     ·rw [if_pos f2] at hib
      have HN:=Lib.hid (HU.out.esc hk1 e3 (d:=34) (.inr (.inl ⟨f2,rfl⟩)))
      have C1:=Lib.hid (bbyte_any bldB _ _ _ 34 wr hW (by rw [Lib.byteCells_length];omega) hsz)
      have C2:Calls Tryz.prog 42 #[.pointer (some ⟨w.heap.size,0,none⟩),.int .u8 34] wr fun e w'=>e=.returned .nilIface∧BldU 92 w.heap.size w.heap.size (Lib.byteCells (acc++[34])) w'∧Below w.heap.size wr w':=C1.out.mono fun e w' h=>⟨h.1,by have:=h.2.1;rw [show (Value.int .u8 34)=.int .u8 ((34:UInt8).toNat:Int) from rfl,cells_byte] at this;exact this,h.2.2.1⟩
      have C2:=Lib.hid C2
      clear hW C1
      go_wp2_with (first | (go_at_call 89;refine (ib3_any _ _).mono ?_;rintro e w' ⟨rfl,rfl⟩) | (go_at_call 42;refine C2.out.mono ?_;rintro e w2 ⟨rfl,h2,hb2⟩))
      go_roundw
      case rel=>exact ⟨k+1+1,acc++[34],by omega,by go_num,HN.out,.inr h2,hbr.trans hb2⟩
      case measure=>simp [intOf];omega
     rw [if_neg f2] at hib
     by_cases f3:s[k+1].toNat=110
     ·rw [if_pos f3] at hib
      have HN:=Lib.hid (HU.out.esc hk1 e3 (d:=10) (.inr (.inr ⟨f3,rfl⟩)))
      have C1:=Lib.hid (bbyte_any bldB _ _ _ 10 wr hW (by rw [Lib.byteCells_length];omega) hsz)
      have C2:Calls Tryz.prog 42 #[.pointer (some ⟨w.heap.size,0,none⟩),.int .u8 10] wr fun e w'=>e=.returned .nilIface∧BldU 92 w.heap.size w.heap.size (Lib.byteCells (acc++[10])) w'∧Below w.heap.size wr w':=C1.out.mono fun e w' h=>⟨h.1,by have:=h.2.1;rw [show (Value.int .u8 10)=.int .u8 ((10:UInt8).toNat:Int) from rfl,cells_byte] at this;exact this,h.2.2.1⟩
      have C2:=Lib.hid C2
      clear hW C1
      go_wp2_with (first | (go_at_call 89;refine (ib3_any _ _).mono ?_;rintro e w' ⟨rfl,rfl⟩) | (go_at_call 42;refine C2.out.mono ?_;rintro e w2 ⟨rfl,h2,hb2⟩))
      go_roundw
      case rel=>exact ⟨k+1+1,acc++[10],by omega,by go_num,HN.out,.inr h2,hbr.trans hb2⟩
      case measure=>simp [intOf];omega
     rw [if_neg f3] at hib
     have HN:=Lib.hid (show unqL ((lstB s).drop k)=none by rw [drop_at s k hlt,drop_at s (k+1) hk1,unq_esc _ e3,if_neg f1,if_neg f2,if_neg f3])
     clear hW
     go_wp2_with (go_at_call 89;refine (ib3_any _ _).mono ?_;rintro e w' ⟨rfl,rfl⟩)
     go_ret2
     exact ⟨UqI.ret HU.out HN.out,hbr⟩
    ·have HN:=Lib.hid (show unqL ((lstB s).drop k)=none by rw [drop_at s k hlt,drop_end s (k+1) (by omega),unq_bs e3])
     clear hW
     go_wp2
     go_ret2
     exact ⟨UqI.ret HU.out HN.out,hbr⟩
   have HN:=Lib.hid (HU.out.one hlt e1 e2 e3)
   have C1:=Lib.hid (bbyte_any bldB _ _ _ s[k].toNat wr hW (by rw [Lib.byteCells_length];omega) hsz)
   rw [cells_byte] at C1
   clear hW
   go_wp2_with (go_at_call 42;refine C1.out.mono ?_;rintro e w2 ⟨rfl,h2,hb2,-⟩)
   go_roundw
   case rel=>exact ⟨k+1,acc++[s[k]],by omega,by go_num,HN.out,.inr h2,hbr.trans hb2⟩
   case measure=>simp [intOf];omega
  ·have HN:=Lib.hid (show unqL ((lstB s).drop k)=none by rw [drop_end s k (by omega)];rfl)
   clear hW
   go_wp2
   go_ret2
   exact ⟨UqI.ret HU.out HN.out,hbr⟩
end Go.Proofs.YtdfenhjibnfdeaaGreatDoor

namespace Go.Proofs.YtdfenhjibnfdeaaGreatDoor
open Go
def tkF (s:ByteArray) (i:Nat):List FndD:=toks (s.size - i) i ((lstB s).drop i)
theorem toks_fuel:∀(f g i:Nat) (l:List UInt8),l.length≤f→l.length≤g→toks f i l=toks g i l
 |0,0,_,_,_,_=>rfl
 |0,g+1,_,[],_,_=>by simp [toks]
 |f+1,0,_,[],_,_=>by simp [toks]
 |0,_+1,_,_ :: _,h,_=>by simp at h
 |_+1,0,_,_ :: _,_,h=>by simp at h
 |f+1,g+1,i,[],_,_=>by simp [toks]
 |f+1,g+1,i,c :: r,hf,hg=>by
  have hd:∀n,n≠0→((c :: r).drop n).length≤f∧((c :: r).drop n).length≤g:=fun n hn=>by
   simp only [List.length_drop,List.length_cons] at *;omega
  simp only [toks]
  rcases hs:scan1 (c :: r) with ⟨n,_ | ⟨k,t,e⟩⟩
  ·simp only
   by_cases hn:n=0
   ·exfalso
    subst hn
    unfold scan1 at hs
    repeat' split at hs
    all_goals (try cases hs)
    all_goals simp_all [spanN]
   ·exact toks_fuel f g _ _ (hd n hn).1 (hd n hn).2
  ·simp only
   by_cases he:e=0
   ·rw [if_pos he,if_pos he]
    by_cases hn:n=0
    ·exfalso
     subst hn
     unfold scan1 at hs
     repeat' split at hs
     all_goals (try cases hs)
     all_goals simp_all [spanN,wordC]
    ·rw [toks_fuel f g _ _ (hd n hn).1 (hd n hn).2]
   ·rw [if_neg he,if_neg he]
theorem tk_end {s:ByteArray} {i:Nat} (h:s.size≤i):tkF s i=[]:=by
 rw [tkF,drop_end s i h];cases s.size - i<;>simp [toks]
theorem tk_cons {s:ByteArray} {i:Nat} (h:i<s.size):∃r,(lstB s).drop i=s[i] :: r∧s.size - i=(s.size - (i+1))+1:=⟨_,drop_at s i h,by omega⟩
theorem tk_skip {s:ByteArray} {i n:Nat} (h:i<s.size) (hn:1≤n) (hs:scan1 ((lstB s).drop i)=(n,none)):tkF s i=tkF s (i+n):=by
 obtain ⟨r,hr,hz⟩:=tk_cons h
 rw [tkF,hz]
 rw [hr] at hs ⊢
 rw [toks,hs]
 show toks _ _ _=_
 rw [←hr,List.drop_drop,tkF]
 exact toks_fuel _ _ _ _ (by rw [List.length_drop,lstB_len];omega) (by rw [List.length_drop,lstB_len];omega)
theorem tk_tok {s:ByteArray} {i n:Nat} {k:Int} {t:ByteArray} (h:i<s.size) (hn:1≤n) (hs:scan1 ((lstB s).drop i)=(n,some (k,t,0))):tkF s i=⟨⟨k,t,i⟩,0⟩ :: tkF s (i+n):=by
 obtain ⟨r,hr,hz⟩:=tk_cons h
 rw [tkF,hz]
 rw [hr] at hs ⊢
 rw [toks,hs]
 show (⟨⟨k,t,i⟩,0⟩:FndD) :: (if (0:Int)=0 then _ else _)=_
 rw [if_pos rfl,←hr,List.drop_drop,tkF]
 congr 1
 exact toks_fuel _ _ _ _ (by rw [List.length_drop,lstB_len];omega) (by rw [List.length_drop,lstB_len];omega)
theorem tk_err {s:ByteArray} {i n:Nat} {k e:Int} {t:ByteArray} (h:i<s.size) (he:e≠0) (hs:scan1 ((lstB s).drop i)=(n,some (k,t,e))):tkF s i=[⟨⟨k,t,i⟩,e⟩]:=by
 obtain ⟨r,hr,hz⟩:=tk_cons h
 rw [tkF,hz]
 rw [hr] at hs ⊢
 rw [toks,hs]
 show (⟨⟨k,t,i⟩,e⟩:FndD) :: (if e=0 then _ else _)=_
 rw [if_neg he]
end Go.Proofs.YtdfenhjibnfdeaaGreatDoor

namespace Go.Proofs.YtdfenhjibnfdeaaGreatDoor
open Go
theorem all_u8 (p:UInt8→Bool) (h:((List.range 256).all fun n=>p (UInt8.ofNat n))=true) (c:UInt8):p c=true:=by
 have:=List.all_eq_true.1 h c.toNat (List.mem_range.2 (UInt8.toNat_lt c))
 simpa using this
def clC (c:UInt8):Int:=clsQ c.toNat
theorem clAt_eq {s:ByteArray} {i:Nat} (h:i<s.size):clAt s i=clC s[i]:=by rw [clAt_lt h,cls_eq (UInt8.toNat_lt _)];rfl
theorem blank_cl (c:UInt8):blankC c=decide (clC c=1):=by simpa using all_u8 (fun c=>blankC c==decide (clC c=1)) (by decide +kernel) c
theorem hash_cl (c:UInt8):decide (c.toNat=35)=decide (clC c=2):=by simpa using all_u8 (fun c=>decide (c.toNat=35)==decide (clC c=2)) (by decide +kernel) c
theorem letter_cl (c:UInt8):letterC c=decide (clC c=3):=by simpa using all_u8 (fun c=>letterC c==decide (clC c=3)) (by decide +kernel) c
theorem digit_cl (c:UInt8):digitC c=decide (clC c=4):=by simpa using all_u8 (fun c=>digitC c==decide (clC c=4)) (by decide +kernel) c
theorem under_cl (c:UInt8):decide (c.toNat=95)=decide (clC c=5):=by simpa using all_u8 (fun c=>decide (c.toNat=95)==decide (clC c=5)) (by decide +kernel) c
theorem sym_cl (c:UInt8):symC c=decide (clC c=6):=by simpa using all_u8 (fun c=>symC c==decide (clC c=6)) (by decide +kernel) c
theorem quote_cl (c:UInt8):decide (c.toNat=34)=decide (clC c=7):=by simpa using all_u8 (fun c=>decide (c.toNat=34)==decide (clC c=7)) (by decide +kernel) c
theorem cl_range (c:UInt8):0≤clC c∧clC c≤7:=by simpa using all_u8 (fun c=>decide (0≤clC c∧clC c≤7)) (by decide +kernel) c
theorem word_cl (c:UInt8):wordC c=decide (clC c=3∨clC c=4∨clC c=5):=by
 rw [wordC,letter_cl,digit_cl,under_cl];simp [Bool.or_assoc]
theorem dec_iff {a b:Prop} [Decidable a] [Decidable b] (h:decide a=decide b):a↔b:=by
 constructor
 ·intro x;have:decide b=true:=by rw [←h];exact decide_eq_true x
  exact of_decide_eq_true this
 ·intro x;have:decide a=true:=by rw [h];exact decide_eq_true x
  exact of_decide_eq_true this
theorem scan_blank {c:UInt8} (r:List UInt8) (h:clC c=1):scan1 (c :: r)=(1,none):=by
 rw [scan1,blank_cl,if_pos (by simp [h])]
theorem scan_hash {c:UInt8} (r:List UInt8) (h:clC c=2):scan1 (c :: r)=(spanN (fun d=>decide (d.toNat≠10)) (c :: r),none):=by
 rw [scan1,blank_cl,if_neg (by simp [h]),if_pos ((dec_iff (hash_cl c)).2 h)]
theorem scan_letter {c:UInt8} (r:List UInt8) (h:clC c=3):scan1 (c :: r)=(spanN wordC (c :: r),some (1,bytesOf ((c :: r).take (spanN wordC (c :: r))),if 24<spanN wordC (c :: r) then 2 else 0)):=by
 rw [scan1,blank_cl,if_neg (by simp [h]),if_neg (fun e=>by have:=(dec_iff (hash_cl c)).1 e;omega),letter_cl,if_pos (by simp [h])]
theorem scan_digit {c:UInt8} (r:List UInt8) (h:clC c=4):scan1 (c :: r)=(spanN digitC (c :: r),some (2,bytesOf ((c :: r).take (spanN digitC (c :: r))),if 7<spanN digitC (c :: r)∨(((c :: r).drop (spanN digitC (c :: r))).head?.elim false fun d=>letterC d || decide (d.toNat=95))=true then 4 else 0)):=by
 rw [scan1,blank_cl,if_neg (by simp [h]),if_neg (fun e=>by have:=(dec_iff (hash_cl c)).1 e;omega),letter_cl,if_neg (by simp [h]),digit_cl,if_pos (by simp [h])]
theorem scan_quote {c:UInt8} {r t:List UInt8} {n:Nat} (h:clC c=7) (hu:unqL r=some (t,n)):scan1 (c :: r)=(n+1,some (3,bytesOf t,0)):=by
 rw [scan1,blank_cl,if_neg (by simp [h]),if_neg (fun e=>by have:=(dec_iff (hash_cl c)).1 e;omega),letter_cl,if_neg (by simp [h]),digit_cl,if_neg (by simp [h]),if_pos ((dec_iff (quote_cl c)).2 h),hu]
theorem scan_open {c:UInt8} {r:List UInt8} (h:clC c=7) (hu:unqL r=none):scan1 (c :: r)=(0,some (0,⟨#[]⟩,3)):=by
 rw [scan1,blank_cl,if_neg (by simp [h]),if_neg (fun e=>by have:=(dec_iff (hash_cl c)).1 e;omega),letter_cl,if_neg (by simp [h]),digit_cl,if_neg (by simp [h]),if_pos ((dec_iff (quote_cl c)).2 h),hu]
theorem scan_sym {c:UInt8} (r:List UInt8) (h:clC c=6):scan1 (c :: r)=(1,some (4,bytesOf [c],0)):=by
 rw [scan1,blank_cl,if_neg (by simp [h]),if_neg (fun e=>by have:=(dec_iff (hash_cl c)).1 e;omega),letter_cl,if_neg (by simp [h]),digit_cl,if_neg (by simp [h]),if_neg (fun e=>by have:=(dec_iff (quote_cl c)).1 e;omega),sym_cl,if_pos (by simp [h])]
theorem scan_other {c:UInt8} (r:List UInt8) (h:clC c=0∨clC c=5):scan1 (c :: r)=(0,some (0,⟨#[]⟩,3)):=by
 rw [scan1,blank_cl,if_neg (by simp;omega),if_neg (fun e=>by have:=(dec_iff (hash_cl c)).1 e;omega),letter_cl,if_neg (by simp;omega),digit_cl,if_neg (by simp;omega),if_neg (fun e=>by have:=(dec_iff (quote_cl c)).1 e;omega),sym_cl,if_neg (by simp;omega)]
theorem span_yes {p:UInt8→Bool} {s:ByteArray} {j:Nat} (h:j<s.size) (hp:p s[j]=true):spanN p ((lstB s).drop j)=spanN p ((lstB s).drop (j+1))+1:=by
 rw [drop_at s j h,spanN,if_pos hp]
theorem span_no {p:UInt8→Bool} {s:ByteArray} {j:Nat} (h:j<s.size) (hp:p s[j]=false):spanN p ((lstB s).drop j)=0:=by
 rw [drop_at s j h,spanN,if_neg (by simp [hp])]
theorem span_end {p:UInt8→Bool} {s:ByteArray} {j:Nat} (h:s.size≤j):spanN p ((lstB s).drop j)=0:=by
 rw [drop_end s j h];rfl
def SpI (p:UInt8→Bool) (s:ByteArray) (i j:Nat):Prop:=i≤j∧j≤s.size∧spanN p ((lstB s).drop i)=(j - i)+spanN p ((lstB s).drop j)
theorem SpI.start {p:UInt8→Bool} {s:ByteArray} {i:Nat} (h:i≤s.size):SpI p s i i:=⟨Nat.le_refl _,h,by omega⟩
theorem SpI.step {p:UInt8→Bool} {s:ByteArray} {i j:Nat} (h:SpI p s i j) (hj:j<s.size) (hp:p s[j]=true):SpI p s i (j+1):=by
 obtain ⟨a,b,c⟩:=h
 refine ⟨by omega,hj,?_⟩
 rw [c,span_yes hj hp];omega
theorem SpI.stop {p:UInt8→Bool} {s:ByteArray} {i j:Nat} (h:SpI p s i j) (hp:∀hj:j<s.size,p s[j]=false):spanN p ((lstB s).drop i)=j - i:=by
 obtain ⟨a,b,c⟩:=h
 rw [c]
 by_cases hj:j<s.size
 ·rw [span_no hj (hp hj)];rfl
 ·rw [span_end (by omega)];rfl
theorem SpI.pos {p:UInt8→Bool} {s:ByteArray} {i:Nat} (hi:i<s.size) (hp:p s[i]=true):1≤spanN p ((lstB s).drop i):=by rw [span_yes hi hp];omega
theorem SpI.gt {p:UInt8→Bool} {s:ByteArray} {i j:Nat} (h:SpI p s i j) (hi:i<s.size) (hp:p s[i]=true) (hs:∀hj:j<s.size,p s[j]=false):i<j:=by
 have h1:=h.stop hs
 have h2:=SpI.pos hi hp
 omega
theorem hash_no {c:UInt8} (h:clC c=2):decide (c.toNat≠10)=true:=by
 have:=(dec_iff (hash_cl c)).2 h
 rw [decide_eq_true_eq];omega
theorem extract_eq (s:ByteArray) (i j:Nat):s.extract i j=bytesOf (((lstB s).drop i).take (j - i)):=by
 apply ByteArray.ext
 apply Array.ext'
 rw [ByteArray.data_extract,Array.toList_extract]
 simp only [bytesOf,lstB,List.extract]
theorem cl_word {s:ByteArray} {m:Nat} (h:clAt s m=3∨clAt s m=4∨clAt s m=5):∃hm:m<s.size,wordC s[m]=true:=by
 by_cases hm:m<s.size
 ·refine ⟨hm,?_⟩
  rw [clAt_eq hm] at h
  rw [word_cl,decide_eq_true_eq];exact h
 ·rw [clAt_ge hm] at h;omega
theorem cl_nword {s:ByteArray} {m:Nat} (h3:¬clAt s m=3) (h4:¬clAt s m=4) (h5:¬clAt s m=5) (hm:m<s.size):wordC s[m]=false:=by
 rw [clAt_eq hm] at h3 h4 h5
 rw [word_cl,decide_eq_false_iff_not];omega
theorem cl_digit {s:ByteArray} {m:Nat} (h:clAt s m=4):∃hm:m<s.size,digitC s[m]=true:=by
 by_cases hm:m<s.size
 ·refine ⟨hm,?_⟩
  rw [clAt_eq hm] at h
  rw [digit_cl,decide_eq_true_eq];exact h
 ·rw [clAt_ge hm] at h;omega
theorem cl_ndigit {s:ByteArray} {m:Nat} (h4:¬clAt s m=4) (hm:m<s.size):digitC s[m]=false:=by
 rw [clAt_eq hm] at h4
 rw [digit_cl,decide_eq_false_iff_not];exact h4
theorem cl_after (s:ByteArray) (m:Nat):(((lstB s).drop m).head?.elim false fun d=>letterC d || decide (d.toNat=95))=decide (clAt s m=3∨clAt s m=5):=by
 by_cases hm:m<s.size
 ·rw [drop_at s m hm,clAt_eq hm]
  show (letterC s[m] || decide (s[m].toNat=95))=_
  rw [letter_cl,under_cl];simp
 ·rw [drop_end s m (by omega),clAt_ge hm];simp
theorem scan_name {s:ByteArray} {k m:Nat} (hk:k<s.size) (hc:clC s[k]=3) (hs:spanN wordC ((lstB s).drop k)=m - k) :
  scan1 ((lstB s).drop k)=(m - k,some (1,s.extract k m,if 24<m - k then 2 else 0)):=by
 rw [drop_at s k hk,scan_letter _ hc,←drop_at s k hk,hs,extract_eq]
theorem scan_num {s:ByteArray} {k m:Nat} (hk:k<s.size) (hkm:k≤m) (hc:clC s[k]=4) (hs:spanN digitC ((lstB s).drop k)=m - k) :
  scan1 ((lstB s).drop k)=(m - k,some (2,s.extract k m,if 7<m - k∨clAt s m=3∨clAt s m=5 then 4 else 0)):=by
 rw [drop_at s k hk,scan_digit _ hc,←drop_at s k hk,hs,extract_eq,List.drop_drop,show k+(m - k)=m by omega,cl_after]
 simp only [decide_eq_true_eq]
theorem scan_symE {s:ByteArray} {k:Nat} (hk:k<s.size) (hc:clC s[k]=6):scan1 ((lstB s).drop k)=(1,some (4,s.extract k (k+1),0)):=by
 rw [drop_at s k hk,scan_sym _ hc,extract_eq,drop_at s k hk,show k+1 - k=1 by omega];rfl
theorem lst_tail (s:ByteArray) (k:Nat):lstB (s.extract k s.size)=(lstB s).drop k:=by
 rw [extract_eq]
 simp only [bytesOf,lstB]
 exact List.take_of_length_le (by rw [List.length_drop,Array.length_toList];exact Nat.le_refl _)
theorem size_tail (s:ByteArray) (k:Nat):(s.extract k s.size).size=s.size - k:=by rw [←lstB_len,lst_tail,List.length_drop,lstB_len]
theorem unq_len:∀(m:Nat) (l t:List UInt8) (n:Nat),l.length≤m→unqL l=some (t,n)→1≤n∧n≤l.length
 |0,[],t,n,_,h=>by simp [unqL] at h
 |m+1,[],t,n,_,h=>by simp [unqL] at h
 |0,_ :: _,_,_,hl,_=>by simp at hl
 |m+1,c :: r,t,n,hl,h=>by
  rw [List.length_cons] at hl ⊢
  by_cases h1:c.toNat=34
  ·rw [unq_end _ h1] at h;injection h with h;injection h with _ h;subst h;omega
  by_cases h2:c.toNat=10
  ·rw [unq_line _ h2] at h;cases h
  by_cases h3:c.toNat=92
  ·cases r with
   |nil=>rw [unq_bs h3] at h;cases h
   |cons d q =>
    rw [unq_esc _ h3] at h
    rw [List.length_cons] at hl ⊢
    have key:∀(b:UInt8),(unqL q).map (fun x=>(b :: x.1,x.2+2))=some (t,n)→1≤n∧n≤q.length+1+1:=by
     intro b hb
     obtain ⟨⟨t',n'⟩,hq,he⟩:=Option.map_eq_some_iff.1 hb
     injection he with _ he
     have:=unq_len m q t' n' (by omega) hq
     simp only at he;omega
    split at h
    ·exact key _ h
    ·split at h
     ·exact key _ h
     ·split at h
      ·exact key _ h
      ·cases h
  ·rw [unq_one _ h1 h2 h3] at h
   obtain ⟨⟨t',n'⟩,hq,he⟩:=Option.map_eq_some_iff.1 h
   injection he with _ he
   have:=unq_len m r t' n' (by omega) hq
   simp only at he;omega
theorem unqV_some {s:ByteArray} {k n:Nat} {t:List UInt8} (h:unqL ((lstB s).drop (k+1))=some (t,n)):unqV (s.extract k s.size)=.tuple #[.string (bytesOf t),.int .i64 (n+1:Nat)]:=by
 rw [unqV,lst_tail,List.drop_drop,h]
theorem unqV_none {s:ByteArray} {k:Nat} (h:unqL ((lstB s).drop (k+1))=none):unqV (s.extract k s.size)=.tuple #[.string ⟨#[]⟩,.int .i64 0]:=by
 rw [unqV,lst_tail,List.drop_drop,h]
end Go.Proofs.YtdfenhjibnfdeaaGreatDoor

namespace Go.Proofs.YtdfenhjibnfdeaaGreatDoor
open Go.RowKit Go.Shelf
theorem grown_none {w w':World} (h:Below w.heap.size w w'):w.grownBy w' none:=⟨h.os,h.tape,h.output,h.size,fun k hk _=>h.block k hk⟩
theorem cells_kept {A B:World} {row:Option Nat} {k:Nat} {o:Obj} (ho:o.isCells=true) (hg:A.grownBy B row) (hr:∀r,row=some r→∃o:Obj,A.heap[r]?=some o∧o.isCells=false) (h:A.heap[k]?=some o):B.heap[k]?=some o :=
 (hg.block k (lt_of_block h) (by intro e;obtain ⟨o',h1,h2⟩:=hr k e.symm;rw [h] at h1;cases h1;rw [ho] at h2;cases h2)).trans h
def KpN (n1:Nat) (W W':World):Prop:=(∀k,k<n1→W'.heap[k]?=W.heap[k]?)∧W.heap.size≤W'.heap.size
theorem KpN.trans {n1:Nat} {A B C:World} (h:KpN n1 A B) (k:KpN n1 B C):KpN n1 A C:=⟨fun i hi=>(k.1 i hi).trans (h.1 i hi),Nat.le_trans h.2 k.2⟩
def VaPost {α:Type} (L:List α) (J Jx:List α→World→Prop) (e:Ending) (W':World):Prop :=
 (∃v,e=.returned v)∧((∃ys,ys=L∧J ys W')∨(∃pre,pre <+: L∧Jx pre W'))
theorem take_snoc' {α:Type} {L:List α} {k:Nat} {x:α} (h:L[k]?=some x):L.take (k+1)=L.take k++[x]:=by
 obtain ⟨hk,e⟩:=List.getElem?_eq_some_iff.1 h
 rw [List.take_succ_eq_append_getElem hk,e]
end Go.Proofs.YtdfenhjibnfdeaaGreatDoor
