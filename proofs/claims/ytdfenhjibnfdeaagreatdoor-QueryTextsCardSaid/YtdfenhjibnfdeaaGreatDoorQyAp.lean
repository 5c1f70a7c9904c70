/-   -/
import Derived.Test.YtdfenhjibnfdeaaGreatDoorQyAo
import Derived.Test.YtdfenhjibnfdeaaGreatDoorQyAc
import Derived.Test.YtdfenhjibnfdeaaGreatDoorQyAb
import Derived.RangeFuncBox
import Derived.RangeFuncNested
import Derived.RangeFuncBound
import Derived.RangeFuncCalls
import Derived.RangeFuncLeaves
import Derived.RangeFuncOwn
import Derived.Shelf.Abstract
import Derived.OwnWalkIn
import Derived.TacticsInMore
import Derived.LoopNIn
import Derived.LoopIn
import Derived.Stop.RegionWithIn
namespace Go.Proofs.YtdfenhjibnfdeaaGreatDoor
open Go
theorem all_u8 (p:UInt8→Bool) (h:((List.range 256).all fun n=>p (UInt8.ofNat n))=true) (c:UInt8):p c=true:=by
 have:=List.all_eq_true.1 h c.toNat (List.mem_range.2 (UInt8.toNat_lt c))
 simpa using this
def clC (c:UInt8):Int:=clsQ c.toNat
theorem clAt_eq {s:ByteArray} {i:Nat} (h:i<s.size):clAt s i=clC s[i]:=by rw [clAt_lt h,cls_eq (UInt8.toNat_lt _)];rfl
theorem blank_cl (c:UInt8):blankC c=decide (clC c=1):=by simpa using all_u8 (fun c=>blankC c==decide (clC c=1)) (by decide +kernel) c
theorem hash_cl (c:UInt8):decide (c.toNat=35)=decide (clC c=2):=by simpa using all_u8 (fun c=>decide (c.toNat=35)==decide (clC c=2)) (by decide +kernel) c
theorem letter_cl (c:UInt8):letterC c=decide (clC c=3):=by simpa using all_u8 (fun c=>letterC c==decide (clC c=3)) (by decide +kernel) c
theorem digit_cl (c:UInt8):digitC c=decide (clC c=4):=by simpa using all_u8 (fun c=>digitC c==decide (clC c=4)) (by decide +kernel) c
theorem under_cl (c:UInt8):decide (c.toNat=95)=decide (clC c=5):=by simpa using all_u8 (fun c=>decide (c.toNat=95)==decide (clC c=5)) (by decide +kernel) c
theorem sym_cl (c:UInt8):symC c=decide (clC c=6):=by simpa using all_u8 (fun c=>symC c==decide (clC c=6)) (by decide +kernel) c
theorem quote_cl (c:UInt8):decide (c.toNat=34)=decide (clC c=7):=by simpa using all_u8 (fun c=>decide (c.toNat=34)==decide (clC c=7)) (by decide +kernel) c
theorem cl_range (c:UInt8):0≤clC c∧clC c≤7:=by simpa using all_u8 (fun c=>decide (0≤clC c∧clC c≤7)) (by decide +kernel) c
theorem word_cl (c:UInt8):wordC c=decide (clC c=3∨clC c=4∨clC c=5):=by
 rw [wordC,letter_cl,digit_cl,under_cl];simp [Bool.or_assoc]
theorem dec_iff {a b:Prop} [Decidable a] [Decidable b] (h:decide a=decide b):a↔b:=by
 constructor
 ·intro x;have:decide b=true:=by rw [←h];exact decide_eq_true x
  exact of_decide_eq_true this
 ·intro x;have:decide a=true:=by rw [h];exact decide_eq_true x
  exact of_decide_eq_true this
theorem scan_blank {c:UInt8} (r:List UInt8) (h:clC c=1):scan1 (c :: r)=(1,none):=by
 rw [scan1,blank_cl,if_pos (by simp [h])]
theorem scan_hash {c:UInt8} (r:List UInt8) (h:clC c=2):scan1 (c :: r)=(spanN (fun d=>decide (d.toNat≠10)) (c :: r),none):=by
 rw [scan1,blank_cl,if_neg (by simp [h]),if_pos ((dec_iff (hash_cl c)).2 h)]
theorem scan_letter {c:UInt8} (r:List UInt8) (h:clC c=3):scan1 (c :: r)=(spanN wordC (c :: r),some (1,bytesOf ((c :: r).take (spanN wordC (c :: r))),if 24<spanN wordC (c :: r) then 2 else 0)):=by
 rw [scan1,blank_cl,if_neg (by simp [h]),if_neg (fun e=>by have:=(dec_iff (hash_cl c)).1 e;omega),letter_cl,if_pos (by simp [h])]
theorem scan_digit {c:UInt8} (r:List UInt8) (h:clC c=4):scan1 (c :: r)=(spanN digitC (c :: r),some (2,bytesOf ((c :: r).take (spanN digitC (c :: r))),if 7<spanN digitC (c :: r)∨(((c :: r).drop (spanN digitC (c :: r))).head?.elim false fun d=>letterC d || decide (d.toNat=95))=true then 4 else 0)):=by
 rw [scan1,blank_cl,if_neg (by simp [h]),if_neg (fun e=>by have:=(dec_iff (hash_cl c)).1 e;omega),letter_cl,if_neg (by simp [h]),digit_cl,if_pos (by simp [h])]
theorem scan_quote {c:UInt8} {r t:List UInt8} {n:Nat} (h:clC c=7) (hu:unqL r=some (t,n)):scan1 (c :: r)=(n+1,some (3,bytesOf t,0)):=by
 rw [scan1,blank_cl,if_neg (by simp [h]),if_neg (fun e=>by have:=(dec_iff (hash_cl c)).1 e;omega),letter_cl,if_neg (by simp [h]),digit_cl,if_neg (by simp [h]),if_pos ((dec_iff (quote_cl c)).2 h),hu]
theorem scan_open {c:UInt8} {r:List UInt8} (h:clC c=7) (hu:unqL r=none):scan1 (c :: r)=(0,some (0,⟨#[]⟩,3)):=by
 rw [scan1,blank_cl,if_neg (by simp [h]),if_neg (fun e=>by have:=(dec_iff (hash_cl c)).1 e;omega),letter_cl,if_neg (by simp [h]),digit_cl,if_neg (by simp [h]),if_pos ((dec_iff (quote_cl c)).2 h),hu]
theorem scan_sym {c:UInt8} (r:List UInt8) (h:clC c=6):scan1 (c :: r)=(1,some (4,bytesOf [c],0)):=by
 rw [scan1,blank_cl,if_neg (by simp [h]),if_neg (fun e=>by have:=(dec_iff (hash_cl c)).1 e;omega),letter_cl,if_neg (by simp [h]),digit_cl,if_neg (by simp [h]),if_neg (fun e=>by have:=(dec_iff (quote_cl c)).1 e;omega),sym_cl,if_pos (by simp [h])]
theorem scan_other {c:UInt8} (r:List UInt8) (h:clC c=0∨clC c=5):scan1 (c :: r)=(0,some (0,⟨#[]⟩,3)):=by
 rw [scan1,blank_cl,if_neg (by simp;omega),if_neg (fun e=>by have:=(dec_iff (hash_cl c)).1 e;omega),letter_cl,if_neg (by simp;omega),digit_cl,if_neg (by simp;omega),if_neg (fun e=>by have:=(dec_iff (quote_cl c)).1 e;omega),sym_cl,if_neg (by simp;omega)]
theorem span_yes {p:UInt8→Bool} {s:ByteArray} {j:Nat} (h:j<s.size) (hp:p s[j]=true):spanN p ((lstB s).drop j)=spanN p ((lstB s).drop (j+1))+1:=by
 rw [drop_at s j h,spanN,if_pos hp]
theorem span_no {p:UInt8→Bool} {s:ByteArray} {j:Nat} (h:j<s.size) (hp:p s[j]=false):spanN p ((lstB s).drop j)=0:=by
 rw [drop_at s j h,spanN,if_neg (by simp [hp])]
theorem span_end {p:UInt8→Bool} {s:ByteArray} {j:Nat} (h:s.size≤j):spanN p ((lstB s).drop j)=0:=by
 rw [drop_end s j h];rfl
def SpI (p:UInt8→Bool) (s:ByteArray) (i j:Nat):Prop:=i≤j∧j≤s.size∧spanN p ((lstB s).drop i)=(j - i)+spanN p ((lstB s).drop j)
theorem SpI.start {p:UInt8→Bool} {s:ByteArray} {i:Nat} (h:i≤s.size):SpI p s i i:=⟨Nat.le_refl _,h,by omega⟩
theorem SpI.step {p:UInt8→Bool} {s:ByteArray} {i j:Nat} (h:SpI p s i j) (hj:j<s.size) (hp:p s[j]=true):SpI p s i (j+1):=by
 obtain ⟨a,b,c⟩:=h
 refine ⟨by omega,hj,?_⟩
 rw [c,span_yes hj hp];omega
theorem SpI.stop {p:UInt8→Bool} {s:ByteArray} {i j:Nat} (h:SpI p s i j) (hp:∀hj:j<s.size,p s[j]=false):spanN p ((lstB s).drop i)=j - i:=by
 obtain ⟨a,b,c⟩:=h
 rw [c]
 by_cases hj:j<s.size
 ·rw [span_no hj (hp hj)];rfl
 ·rw [span_end (by omega)];rfl
theorem SpI.pos {p:UInt8→Bool} {s:ByteArray} {i:Nat} (hi:i<s.size) (hp:p s[i]=true):1≤spanN p ((lstB s).drop i):=by rw [span_yes hi hp];omega
theorem SpI.gt {p:UInt8→Bool} {s:ByteArray} {i j:Nat} (h:SpI p s i j) (hi:i<s.size) (hp:p s[i]=true) (hs:∀hj:j<s.size,p s[j]=false):i<j:=by
 have h1:=h.stop hs
 have h2:=SpI.pos hi hp
 omega
theorem hash_no {c:UInt8} (h:clC c=2):decide (c.toNat≠10)=true:=by
 have:=(dec_iff (hash_cl c)).2 h
 rw [decide_eq_true_eq];omega
theorem extract_eq (s:ByteArray) (i j:Nat):s.extract i j=bytesOf (((lstB s).drop i).take (j - i)):=by
 apply ByteArray.ext
 apply Array.ext'
 rw [ByteArray.data_extract,Array.toList_extract]
 simp only [bytesOf,lstB,List.extract]
theorem cl_word {s:ByteArray} {m:Nat} (h:clAt s m=3∨clAt s m=4∨clAt s m=5):∃hm:m<s.size,wordC s[m]=true:=by
 by_cases hm:m<s.size
 ·refine ⟨hm,?_⟩
  rw [clAt_eq hm] at h
  rw [word_cl,decide_eq_true_eq];exact h
 ·rw [clAt_ge hm] at h;omega
theorem cl_nword {s:ByteArray} {m:Nat} (h3:¬clAt s m=3) (h4:¬clAt s m=4) (h5:¬clAt s m=5) (hm:m<s.size):wordC s[m]=false:=by
 rw [clAt_eq hm] at h3 h4 h5
 rw [word_cl,decide_eq_false_iff_not];omega
theorem cl_digit {s:ByteArray} {m:Nat} (h:clAt s m=4):∃hm:m<s.size,digitC s[m]=true:=by
 by_cases hm:m<s.size
 ·refine ⟨hm,?_⟩
  rw [clAt_eq hm] at h
  rw [digit_cl,decide_eq_true_eq];exact h
 ·rw [clAt_ge hm] at h;omega
theorem cl_ndigit {s:ByteArray} {m:Nat} (h4:¬clAt s m=4) (hm:m<s.size):digitC s[m]=false:=by
 rw [clAt_eq hm] at h4
 rw [digit_cl,decide_eq_false_iff_not];exact h4
theorem cl_after (s:ByteArray) (m:Nat):(((lstB s).drop m).head?.elim false fun d=>letterC d || decide (d.toNat=95))=decide (clAt s m=3∨clAt s m=5):=by
 by_cases hm:m<s.size
 ·rw [drop_at s m hm,clAt_eq hm]
  show (letterC s[m] || decide (s[m].toNat=95))=_
  rw [letter_cl,under_cl];simp
 ·rw [drop_end s m (by omega),clAt_ge hm];simp
theorem scan_name {s:ByteArray} {k m:Nat} (hk:k<s.size) (hc:clC s[k]=3) (hs:spanN wordC ((lstB s).drop k)=m - k) :
  scan1 ((lstB s).drop k)=(m - k,some (1,s.extract k m,if 24<m - k then 2 else 0)):=by
 rw [drop_at s k hk,scan_letter _ hc,←drop_at s k hk,hs,extract_eq]
theorem scan_num {s:ByteArray} {k m:Nat} (hk:k<s.size) (hkm:k≤m) (hc:clC s[k]=4) (hs:spanN digitC ((lstB s).drop k)=m - k) :
  scan1 ((lstB s).drop k)=(m - k,some (2,s.extract k m,if 7<m - k∨clAt s m=3∨clAt s m=5 then 4 else 0)):=by
 rw [drop_at s k hk,scan_digit _ hc,←drop_at s k hk,hs,extract_eq,List.drop_drop,show k+(m - k)=m by omega,cl_after]
 simp only [decide_eq_true_eq]
theorem scan_symE {s:ByteArray} {k:Nat} (hk:k<s.size) (hc:clC s[k]=6):scan1 ((lstB s).drop k)=(1,some (4,s.extract k (k+1),0)):=by
 rw [drop_at s k hk,scan_sym _ hc,extract_eq,drop_at s k hk,show k+1 - k=1 by omega];rfl
theorem lst_tail (s:ByteArray) (k:Nat):lstB (s.extract k s.size)=(lstB s).drop k:=by
 rw [extract_eq]
 simp only [bytesOf,lstB]
 exact List.take_of_length_le (by rw [List.length_drop,Array.length_toList];exact Nat.le_refl _)
theorem size_tail (s:ByteArray) (k:Nat):(s.extract k s.size).size=s.size - k:=by rw [←lstB_len,lst_tail,List.length_drop,lstB_len]
theorem unq_len:∀(m:Nat) (l t:List UInt8) (n:Nat),l.length≤m→unqL l=some (t,n)→1≤n∧n≤l.length
 |0,[],t,n,_,h=>by simp [unqL] at h
 |m+1,[],t,n,_,h=>by simp [unqL] at h
 |0,_ :: _,_,_,hl,_=>by simp at hl
 |m+1,c :: r,t,n,hl,h=>by
  rw [List.length_cons] at hl ⊢
  by_cases h1:c.toNat=34
  ·rw [unq_end _ h1] at h;injection h with h;injection h with _ h;subst h;omega
  by_cases h2:c.toNat=10
  ·rw [unq_line _ h2] at h;cases h
  by_cases h3:c.toNat=92
  ·cases r with
   |nil=>rw [unq_bs h3] at h;cases h
   |cons d q =>
    rw [unq_esc _ h3] at h
    rw [List.length_cons] at hl ⊢
    have key:∀(b:UInt8),(unqL q).map (fun x=>(b :: x.1,x.2+2))=some (t,n)→1≤n∧n≤q.length+1+1:=by
     intro b hb
     obtain ⟨⟨t',n'⟩,hq,he⟩:=Option.map_eq_some_iff.1 hb
     injection he with _ he
     have:=unq_len m q t' n' (by omega) hq
     simp only at he;omega
    split at h
    ·exact key _ h
    ·split at h
     ·exact key _ h
     ·split at h
      ·exact key _ h
      ·cases h
  ·rw [unq_one _ h1 h2 h3] at h
   obtain ⟨⟨t',n'⟩,hq,he⟩:=Option.map_eq_some_iff.1 h
   injection he with _ he
   have:=unq_len m r t' n' (by omega) hq
   simp only at he;omega
theorem unqV_some {s:ByteArray} {k n:Nat} {t:List UInt8} (h:unqL ((lstB s).drop (k+1))=some (t,n)):unqV (s.extract k s.size)=.tuple #[.string (bytesOf t),.int .i64 (n+1:Nat)]:=by
 rw [unqV,lst_tail,List.drop_drop,h]
theorem unqV_none {s:ByteArray} {k:Nat} (h:unqL ((lstB s).drop (k+1))=none):unqV (s.extract k s.size)=.tuple #[.string ⟨#[]⟩,.int .i64 0]:=by
 rw [unqV,lst_tail,List.drop_drop,h]
end Go.Proofs.YtdfenhjibnfdeaaGreatDoor

namespace Go.Proofs.YtdfenhjibnfdeaaGreatDoor
open Go.RowKit Go.Shelf
theorem grown_none {w w':World} (h:Below w.heap.size w w'):w.grownBy w' none:=⟨h.os,h.tape,h.output,h.size,fun k hk _=>h.block k hk⟩
theorem cells_kept {A B:World} {row:Option Nat} {k:Nat} {o:Obj} (ho:o.isCells=true) (hg:A.grownBy B row) (hr:∀r,row=some r→∃o:Obj,A.heap[r]?=some o∧o.isCells=false) (h:A.heap[k]?=some o):B.heap[k]?=some o :=
 (hg.block k (lt_of_block h) (by intro e;obtain ⟨o',h1,h2⟩:=hr k e.symm;rw [h] at h1;cases h1;rw [ho] at h2;cases h2)).trans h
def KpN (n1:Nat) (W W':World):Prop:=(∀k,k<n1→W'.heap[k]?=W.heap[k]?)∧W.heap.size≤W'.heap.size
theorem KpN.trans {n1:Nat} {A B C:World} (h:KpN n1 A B) (k:KpN n1 B C):KpN n1 A C:=⟨fun i hi=>(k.1 i hi).trans (h.1 i hi),Nat.le_trans h.2 k.2⟩
def VaPost {α:Type} (L:List α) (J Jx:List α→World→Prop) (e:Ending) (W':World):Prop :=
 (∃v,e=.returned v)∧((∃ys,ys=L∧J ys W')∨(∃pre,pre <+: L∧Jx pre W'))
theorem take_snoc' {α:Type} {L:List α} {k:Nat} {x:α} (h:L[k]?=some x):L.take (k+1)=L.take k++[x]:=by
 obtain ⟨hk,e⟩:=List.getElem?_eq_some_iff.1 h
 rw [List.take_succ_eq_append_getElem hk,e]
end Go.Proofs.YtdfenhjibnfdeaaGreatDoor
