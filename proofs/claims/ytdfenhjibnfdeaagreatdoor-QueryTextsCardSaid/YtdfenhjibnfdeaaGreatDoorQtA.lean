/- Texts of QueryTexts. -/
import Derived.Test.YtdfenhjibnfdeaaGreatDoorQtI
import Derived.Test.YtdfenhjibnfdeaaGreatDoorQyBf
import Derived.Lib.ItoaLen
namespace Go.Proofs.YtdfenhjibnfdeaaGreatDoor
open Go
namespace Dq
theorem digit_mem:∀(n:Nat) (b:UInt8),b∈Lib.decDigits n→48≤b.toNat∧b.toNat≤57:=by
 intro n
 induction n using Nat.strongRecOn with
 |ind n ih =>
  intro b hb
  have h8:∀d:Nat,d<10→48≤(UInt8.ofNat (48+d)).toNat∧(UInt8.ofNat (48+d)).toNat≤57:=by
   intro d hd
   have:∀d:Fin 10,48≤(UInt8.ofNat (48+d.val)).toNat∧(UInt8.ofNat (48+d.val)).toNat≤57:=by decide
   exact this ⟨d,hd⟩
  rw [Lib.decDigits] at hb
  split at hb
  ·rw [List.mem_singleton] at hb;subst hb;exact h8 n (by assumption)
  ·rename_i hn
   rw [List.mem_append] at hb
   rcases hb with hb | hb
   ·exact ih (n / 10) (by omega) b hb
   ·rw [List.mem_singleton] at hb;subst hb;exact h8 _ (by omega)
theorem dig_val (d:Nat) (h:d<10):48≤(UInt8.ofNat (48+d)).toNat∧(UInt8.ofNat (48+d)).toNat≤57∧(UInt8.ofNat (48+d)).toNat - 48=d:=by
 have:∀d:Fin 10,48≤(UInt8.ofNat (48+d.val)).toNat∧(UInt8.ofNat (48+d.val)).toNat≤57∧(UInt8.ofNat (48+d.val)).toNat - 48=d.val:=by decide
 exact this ⟨d,h⟩
theorem parse_app:∀(l:List UInt8) (acc u:Nat) (m:List UInt8),Lib.parseUint10 acc l=.ok u→Lib.parseUint10 acc (l++m)=Lib.parseUint10 u m
 |[],acc,u,m,h=>by simp [Lib.parseUint10] at h;subst h;rfl
 |c :: l,acc,u,m,h=>by
  rw [List.cons_append]
  unfold Lib.parseUint10 at h
  conv=>lhs;unfold Lib.parseUint10
  split at h
  ·rename_i h1
   rw [if_pos h1]
   split at h
   ·cases h
   ·rename_i h2
    rw [if_neg h2]
    split at h
    ·cases h
    ·rename_i h3
     rw [if_neg h3]
     exact parse_app l _ u m h
  ·cases h
theorem parse_one (acc d:Nat) (hd:d<10) (ha:acc * 10+d<18446744073709551616):Lib.parseUint10 acc [UInt8.ofNat (48+d)]=.ok (acc * 10+d):=by
 obtain ⟨h1,h2,h3⟩:=dig_val d hd
 unfold Lib.parseUint10
 rw [if_pos ⟨h1,h2⟩,if_neg (by omega),h3,if_neg (by omega)]
 rfl
theorem parse_digits (n:Nat) (hn:n<18446744073709551616):Lib.parseUint10 0 (Lib.decDigits n)=.ok n:=by
 induction n using Nat.strongRecOn with
 |ind n ih =>
  rw [Lib.decDigits]
  split
  ·have:=parse_one 0 n (by assumption) (by omega)
   simpa using this
  ·rw [parse_app _ 0 (n / 10) _ (ih (n / 10) (by omega) (by omega)),parse_one (n / 10) (n % 10) (by omega) (by omega)]
   congr 1;omega
theorem digits_ne (n:Nat):Lib.decDigits n≠[]:=by
 rw [Lib.decDigits]
 split<;>simp
theorem atoi_digits (n:Nat) (hn:n<9223372036854775808):Lib.atoiAll (Lib.decDigits n)=.ok (n:Int):=by
 have hne:=digits_ne n
 have hp:=parse_digits n (by omega)
 have hm:=digit_mem n
 generalize Lib.decDigits n=l at hne hp hm
 cases l with
 |nil=>exact absurd rfl hne
 |cons c r =>
  have hc:=hm c (by simp)
  unfold Lib.atoiAll
  simp only
  rw [if_neg (by omega)]
  rw [Lib.parseMag,if_neg (by simp),hp]
  simp only
  rw [if_neg (by omega),if_neg (by omega),if_neg (by omega)]
end Dq
theorem lst_itoa (n:Nat):lstB (itoaB (n:Int))=Lib.decDigits n:=by unfold lstB itoaB;simp [Lib.itoa_nonneg]
theorem num_itoaQ (n:Nat) (h:n<9223372036854775808):numS (itoaB (n:Int))=some (n:Int):=by
 unfold numS
 rw [show (itoaB (n:Int)).data.toList=Lib.decDigits n from lst_itoa n,Dq.atoi_digits n h]
theorem dig_len:∀(k n:Nat),n<10 ^ (k+1)→(Lib.decDigits n).length≤k+1
 |0,n,h=>by rw [Lib.decDigits,dif_pos (by simpa using h)];simp
 |k+1,n,h=>by
  rw [Lib.decDigits]
  split
  ·simp
  ·rw [List.length_append,List.length_singleton]
   have h2:n / 10<10 ^ (k+1):=by
    rw [Nat.pow_succ] at h;omega
   have:=dig_len k (n / 10) h2
   omega
theorem dig_digit {n:Nat} {c:UInt8} (h:c∈Lib.decDigits n):digitC c=true:=by
 have:=Dq.digit_mem n c h
 unfold digitC
 exact decide_eq_true this
theorem wok_num (n:Nat) (h:n≤9999999):WordOK ⟨2,itoaB (n:Int),0⟩:=by
 have hw:twL ⟨2,itoaB (n:Int),0⟩=Lib.decDigits n:=by
  unfold twL;rw [if_neg (by simp only;decide)];exact lst_itoa n
 have hl:=dig_len 6 n (by omega)
 have hd:∀x∈Lib.decDigits n,digitC x=true:=fun x hx=>dig_digit hx
 have hne:=Dq.digits_ne n
 cases hL:Lib.decDigits n with
 |nil=>exact absurd hL hne
 |cons c r =>
  rw [hL] at hw hl hd
  have h0:=span_whole digitC (c :: r) [] hd (fun c hc=>by cases hc)
  rw [List.append_nil] at h0
  have hc:=hd c (List.mem_cons_self ..)
  have key:scan1 (c :: r)=((c :: r).length,some (2,itoaB (n:Int),0)):=by
   have n1:blankC c=false:=by
    have:=of_decide_eq_true hc;unfold blankC;exact decide_eq_false (by omega)
   have n2:¬c.toNat=35:=by have:=of_decide_eq_true hc;omega
   have n3:letterC c=false:=by
    have:=of_decide_eq_true hc;unfold letterC;exact decide_eq_false (by omega)
   rw [scan1,if_neg (by rw [n1];decide),if_neg n2,if_neg (by rw [n3];decide),if_pos hc]
   simp only
   rw [h0,List.take_length,List.drop_length]
   have e:bytesOf (c :: r)=itoaB (n:Int):=by
    rw [←hL,←lst_itoa n];exact ByteArray.ext (Array.toArray_toList ..)
   rw [e,if_neg]
   simp only [List.head?_nil,Option.elim]
   simp only [List.length_cons] at hl
   simp;omega
  exact (scan_word 0 key).1
theorem wok_name {s:ByteArray} (h:nameB s=true):WordOK ⟨1,s,0⟩:=by
 unfold nameB nameL at h
 simp only [Bool.and_eq_true,decide_eq_true_eq] at h
 obtain ⟨⟨h1,h2⟩,h3⟩:=h
 cases hL:s.data.toList with
 |nil=>rw [hL] at h1;simp at h1
 |cons c r =>
  rw [hL] at h1 h2 h3
  rw [preOK,Bool.and_eq_true] at h3
  have hw:∀x∈c :: r,wordC x=true:=fun x hx=>by
   rcases List.mem_cons.1 hx with rfl | hx
   ·unfold wordC;rw [h3.1];rfl
   ·exact List.all_eq_true.1 h3.2 x hx
  have h0:=span_whole wordC (c :: r) [] hw (fun c hc=>by cases hc)
  rw [List.append_nil] at h0
  have hc:=h3.1
  have n1:blankC c=false:=by
   have:=of_decide_eq_true hc;unfold blankC;exact decide_eq_false (by omega)
  have n2:¬c.toNat=35:=by have:=of_decide_eq_true hc;omega
  have key:scan1 (c :: r)=((c :: r).length,some (1,s,0)):=by
   rw [scan1,if_neg (by rw [n1];decide),if_neg n2,if_pos hc]
   simp only
   rw [h0,List.take_length,if_neg (by omega)]
   have e:bytesOf (c :: r)=s:=by rw [←hL];exact ByteArray.ext (Array.toArray_toList ..)
   rw [e]
  exact (scan_word 0 key).1
theorem wok_str (s:ByteArray):WordOK ⟨3,s,0⟩:=by
 have hw:twL ⟨3,s,0⟩=quoteL (lstB s):=by unfold twL;rw [if_pos rfl]
 unfold WordOK
 rw [hw]
 refine ⟨by unfold quoteL;simp,fun Y _=>?_⟩
 rw [scan_quoted]
 have e:bytesOf (lstB s)=s:=ByteArray.ext (Array.toArray_toList ..)
 rw [e]
theorem wok_is:WordOK ⟨4,wIs,0⟩:=(scan_word (c:=61) (r:=[]) (n:=1) 0 (by decide +kernel)).1
theorem wok_more:WordOK ⟨4,wMore,0⟩:=(scan_word (c:=62) (r:=[]) (n:=1) 0 (by decide +kernel)).1
end Go.Proofs.YtdfenhjibnfdeaaGreatDoor
namespace Go.Proofs.YtdfenhjibnfdeaaGreatDoor
open Go.RowKit Go.Shelf
def tOpen:TokD:=⟨4,wOpen,0⟩
def tClose:TokD:=⟨4,wClose,0⟩
def tW (w:ByteArray):TokD:=⟨1,w,0⟩
def parK (o:Int) (l:List TokD):List TokD:=if o=5∨o=6 then tOpen :: (l++[tClose]) else l
def flatK (w:ByteArray) (r:List (List TokD)):List TokD:=r.flatMap fun b=>tW w :: b
def joinK (w:ByteArray):List (List TokD)→List TokD
 |[]=>[]
 |a :: r=>a++flatK w r
mutual
def tkC:CondD→List TokD
 |.mk o k v n ks =>
  if o=2 then [⟨1,k,0⟩]
  else if o=3 then [⟨1,k,0⟩,⟨4,wIs,0⟩,⟨3,v,0⟩]
  else if o=7 then [⟨1,k,0⟩,⟨4,wMore,0⟩,⟨2,itoaB n,0⟩]
  else if o=4 then tW wNot :: (tkK ks).headD []
  else if o=5 then joinK wAnd (tkK ks)
  else if o=6 then joinK wOr (tkK ks)
  else [tW wAlways]
def tkK:List CondD→List (List TokD)
 |[]=>[]
 |c :: r=>parK c.op (tkC c) :: tkK r
end
def kidK (c:CondD):List TokD:=parK c.op (tkC c)
theorem kid_leaf {o:Int} {k v:ByteArray} {n:Int} {ks:List CondD} (h:¬(o=5∨o=6)):kidK (.mk o k v n ks)=tkC (.mk o k v n ks):=by unfold kidK parK;rw [if_neg (show ¬((CondD.mk o k v n ks).op=5∨(CondD.mk o k v n ks).op=6) from h)]
theorem tkK_map:∀ks:List CondD,tkK ks=ks.map kidK
 |[]=>by rw [tkK];rfl
 |c :: r=>by rw [tkK,tkK_map r];rfl
theorem tkC_eq (o:Int) (k v:ByteArray) (n:Int) (ks:List CondD):tkC (.mk o k v n ks)=if o=2 then [⟨1,k,0⟩]
  else if o=3 then [⟨1,k,0⟩,⟨4,wIs,0⟩,⟨3,v,0⟩]
  else if o=7 then [⟨1,k,0⟩,⟨4,wMore,0⟩,⟨2,itoaB n,0⟩]
  else if o=4 then tW wNot :: (ks.map kidK).headD []
  else if o=5 then joinK wAnd (ks.map kidK)
  else if o=6 then joinK wOr (ks.map kidK)
  else [tW wAlways]:=by rw [tkC,tkK_map]
def Sp (w:List UInt8) (L:List TokD):Prop:=∀Y M,(∀c,Y.head?=some c→sepC c=true)→Spells Y M→Spells (w++Y) (L.map ktT++M)
theorem Sp.word {t:TokD} (h:WordOK t):Sp (twL t) [t]:=fun Y _M hY hM=>.tok h.1 (h.2 Y hY) hM
theorem Sp.gap {a b:List UInt8} {A B:List TokD} (ha:Sp a A) (hb:Sp b B):Sp (a++32 :: b) (A++B):=fun Y M hY hM=>by
 rw [List.append_assoc,List.map_append,List.append_assoc]
 exact ha _ _ (fun c hc=>by injection hc with hc;subst hc;rfl) (.blank rfl (hb Y M hY hM))
theorem Sp.par {a:List UInt8} {A:List TokD} (ha:Sp a A):Sp (40 :: (a++[41])) (tOpen :: (A++[tClose])):=fun Y M hY hM=>by
 have h1:Spells (41 :: Y) ((4,wClose) :: M):=.tok (w:=[41]) (List.cons_ne_nil _ _) (scan_sym (c:=41) Y (by decide)) hM
 have h2:=ha (41 :: Y) _ (fun c hc=>by injection hc with hc;subst hc;decide) h1
 have h3:Spells (40 :: (a++41 :: Y)) ((4,wOpen) :: (A.map ktT++(4,wClose) :: M)):=Spells.tok (w:=[40]) (l:=a++41 :: Y) (List.cons_ne_nil _ _) (scan_sym (c:=40) _ (by decide)) h2
 have e1:40 :: (a++[41])++Y=40 :: (a++41 :: Y):=by simp
 have e2:(tOpen :: (A++[tClose])).map ktT++M=(4,wOpen) :: (A.map ktT++(4,wClose) :: M):=by simp [ktT,tOpen,tClose]
 rw [e1,e2];exact h3
theorem Sp.spells {a:List UInt8} {A:List TokD} (h:Sp a A):Spells a (A.map ktT):=by
 have:=h [] [] (fun c hc=>by cases hc) .nil
 rwa [List.append_nil,List.append_nil] at this
theorem lst_app (a b:ByteArray):lstB (a++b)=lstB a++lstB b:=by unfold lstB;rw [ByteArray.data_append,Array.toList_append]
theorem word_tW (w:ByteArray):twL (tW w)=lstB w:=by unfold twL tW;rw [if_neg (by simp only;decide)]
theorem Sp.tail {w:ByteArray} (hw:WordOK (tW w)) (f:CondD→List UInt8) (g:CondD→List TokD):∀(r:List CondD) (a:List UInt8) (A:List TokD),Sp a A→(∀c∈r,Sp (f c) (g c)) →
  Sp (a++Lib.joinTail (32 :: (lstB w++[32])) (r.map f)) (A++flatK w (r.map g))
 |[],a,A,ha,_=>by
  have e1:a++Lib.joinTail (32 :: (lstB w++[32])) (([]:List CondD).map f)=a:=by simp [Lib.joinTail]
  have e2:A++flatK w (([]:List CondD).map g)=A:=by simp [flatK]
  rw [e1,e2];exact ha
 |c :: r,a,A,ha,h=>by
  have h1:=((ha.gap (word_tW w ▸ Sp.word hw)).gap (h c (List.mem_cons_self ..)))
  have h2:=Sp.tail hw f g r _ _ h1 fun d hd=>h d (List.mem_cons_of_mem _ hd)
  have e1:a++Lib.joinTail (32 :: (lstB w++[32])) ((c :: r).map f)=(a++32 :: lstB w)++32 :: f c++Lib.joinTail (32 :: (lstB w++[32])) (r.map f):=by simp [Lib.joinTail]
  have e2:A++flatK w ((c :: r).map g)=A++[tW w]++g c++flatK w (r.map g):=by simp [flatK]
  rw [e1,e2];exact h2
theorem empty_of {k:ByteArray} (h:k.size=0):k=emptyB:=ByteArray.ext (Array.eq_empty_of_size_eq_zero h)
theorem node_cases {o:Int} {k v:ByteArray} {n:Int} {K:Nat} (h:nodeB o k v n K=true) :
  (o=1∧k=emptyB∧v=emptyB∧n=0∧K=0)∨(o=2∧keyB k=true∧v=emptyB∧n=0∧K=0)∨(o=3∧keyB k=true∧0<v.size∧v.size≤200∧n=0∧K=0) ∨
   (o=7∧keyB k=true∧v=emptyB∧(∃m:Nat,n=(m:Int)∧m≤9999999)∧K=0)∨(o=4∧k=emptyB∧v=emptyB∧n=0∧K=1)∨((o=5∨o=6)∧k=emptyB∧v=emptyB∧n=0∧1<K):=by
 unfold nodeB at h
 split at h
 ·simp only [Bool.and_eq_true,decide_eq_true_eq] at h
  exact Or.inl ⟨by assumption,empty_of h.1.1.1,empty_of h.1.1.2,h.1.2,h.2⟩
 split at h
 ·simp only [Bool.and_eq_true,decide_eq_true_eq] at h
  exact Or.inr (Or.inl ⟨by assumption,h.1.1.1,empty_of h.1.1.2,h.1.2,h.2⟩)
 split at h
 ·simp only [Bool.and_eq_true,decide_eq_true_eq] at h
  exact Or.inr (Or.inr (Or.inl ⟨by assumption,h.1.1.1.1,h.1.1.1.2,h.1.1.2,h.1.2,h.2⟩))
 split at h
 ·simp only [Bool.and_eq_true,decide_eq_true_eq] at h
  exact Or.inr (Or.inr (Or.inr (Or.inl ⟨by assumption,h.1.1.1.1,empty_of h.1.1.1.2,⟨n.toNat,by omega,by omega⟩,h.2⟩)))
 split at h
 ·simp only [Bool.and_eq_true,decide_eq_true_eq] at h
  exact Or.inr (Or.inr (Or.inr (Or.inr (Or.inl ⟨by assumption,empty_of h.1.1.1,empty_of h.1.1.2,h.1.2,h.2⟩))))
 split at h
 ·simp only [Bool.and_eq_true,decide_eq_true_eq] at h
  exact Or.inr (Or.inr (Or.inr (Or.inr (Or.inr ⟨by assumption,empty_of h.1.1.1,empty_of h.1.1.2,h.1.2,h.2⟩))))
 ·cases h
theorem key_parts {k:ByteArray} (h:keyB k=true):nameB k=true∧resB k=false∧k≠wAlways∧k≠wNot∧k≠wOpen:=by
 unfold keyB at h
 rw [Bool.and_eq_true,Bool.not_eq_true'] at h
 refine ⟨h.1,h.2,fun e=>?_,fun e=>?_,fun e=>?_⟩
 ·rw [e] at h;exact absurd h.2 (by decide)
 ·rw [e] at h;exact absurd h.2 (by decide)
 ·rw [e] at h;exact absurd h.1 (by decide)
theorem lst_join (l:List ByteArray) (sep:ByteArray):lstB (joinB l sep)=Lib.join (l.map lstB) (lstB sep):=rfl
theorem lst_kid (c:CondD):lstB (kidT c)=if c.op=5∨c.op=6 then 40 :: (lstB (textC c)++[41]) else lstB (textC c):=by
 unfold kidT parT
 split
 ·rw [lst_app,lst_app];rfl
 ·rfl
theorem wok_w {w:ByteArray} (h:nameB w=true):WordOK (tW w):=wok_name h
theorem sp_cond:∀(m:Nat) (c:CondD),cnodes c≤m→callC nodeOK c=true→Sp (lstB (textC c)) (tkC c)
 |0,c,hm,_=>by have:=cnodes_pos c;omega
 |m+1,.mk o k v n ks,hm,hok=>by
  rw [callC_eq,Bool.and_eq_true] at hok
  obtain ⟨hno,hkids⟩:=hok
  have hm2:cnodesL ks≤m:=by rw [cnodes] at hm;omega
  have IH:∀c∈ks,Sp (lstB (kidT c)) (kidK c):=fun c hc=>by
   have h1:=sp_cond m c (Nat.le_trans (cnodes_mem hc) hm2) (callC_kid hkids c hc)
   rw [lst_kid]
   unfold kidK parK
   split
   ·exact h1.par
   ·exact h1
  have hjoin:∀(w:ByteArray),WordOK (tW w)→1<ks.length→Sp (Lib.join ((ks.map kidT).map lstB) (32 :: (lstB w++[32]))) (joinK w (ks.map kidK)):=fun w hw hk=>by
   cases ks with
   |nil=>simp at hk
   |cons c r =>
    have:=Sp.tail hw (fun c=>lstB (kidT c)) kidK r _ _ (IH c (List.mem_cons_self ..)) fun d hd=>IH d (List.mem_cons_of_mem _ hd)
    rw [List.map_cons,List.map_cons,Lib.join_cons,List.map_map,List.map_cons]
    exact this
  rw [textC_eq,tkC_eq]
  rcases node_cases (show nodeB o k v n ks.length=true from hno) with ⟨rfl,-⟩ | ⟨rfl,hk,-⟩ | ⟨rfl,hk,-⟩ | ⟨rfl,hk,-,⟨i,rfl,hi⟩,-⟩ | ⟨rfl,-,-,-,hl⟩ | ⟨h56,-,-,-,hl⟩
  ·exact word_tW wAlways ▸ Sp.word (wok_w (w:=wAlways) (by decide))
  ·exact word_tW k ▸ Sp.word (wok_w (key_parts hk).1)
  ·have h1:Sp (lstB k) [tW k]:=word_tW k ▸ Sp.word (wok_w (key_parts hk).1)
   have h2:=(h1.gap (Sp.word wok_is)).gap (Sp.word (wok_str v))
   have e:lstB ((k++⟨#[32,61,32]⟩)++quoteB v)=(lstB k++32 :: twL ⟨4,wIs,0⟩)++32 :: twL ⟨3,v,0⟩:=by
    rw [lst_app,lst_app,show twL ⟨3,v,0⟩=lstB (quoteB v) from rfl,show twL ⟨4,wIs,0⟩=[61] from rfl,show lstB ⟨#[32,61,32]⟩=[32,61,32] from rfl]
    simp
   show Sp (lstB ((k++⟨#[32,61,32]⟩)++quoteB v)) [⟨1,k,0⟩,⟨4,wIs,0⟩,⟨3,v,0⟩]
   rw [e];exact h2
  ·have h1:Sp (lstB k) [tW k]:=word_tW k ▸ Sp.word (wok_w (key_parts hk).1)
   have h2:=(h1.gap (Sp.word wok_more)).gap (Sp.word (wok_num i hi))
   have e:lstB ((k++⟨#[32,62,32]⟩)++itoaB (i:Int))=(lstB k++32 :: twL ⟨4,wMore,0⟩)++32 :: twL ⟨2,itoaB (i:Int),0⟩:=by
    rw [lst_app,lst_app,show twL ⟨2,itoaB (i:Int),0⟩=lstB (itoaB (i:Int)) from rfl,show twL ⟨4,wMore,0⟩=[62] from rfl,show lstB ⟨#[32,62,32]⟩=[32,62,32] from rfl]
    simp
   show Sp (lstB ((k++⟨#[32,62,32]⟩)++itoaB (i:Int))) [⟨1,k,0⟩,⟨4,wMore,0⟩,⟨2,itoaB (i:Int),0⟩]
   rw [e];exact h2
  ·obtain ⟨x,rfl⟩:=List.length_eq_one_iff.1 hl
   have h1:Sp (lstB wNot) [tW wNot]:=word_tW wNot ▸ Sp.word (wok_w (w:=wNot) (by decide))
   have h2:=h1.gap (IH x (List.mem_cons_self ..))
   have e:lstB (⟨#[110,111,116,32]⟩++kidT x)=lstB wNot++32 :: lstB (kidT x):=by
    rw [lst_app,show lstB ⟨#[110,111,116,32]⟩=[110,111,116,32] from rfl,show lstB wNot=[110,111,116] from rfl];simp
   show Sp (lstB (⟨#[110,111,116,32]⟩++kidT x)) (tW wNot :: kidK x)
   rw [e];exact h2
  ·rcases h56 with rfl | rfl
   ·exact hjoin wAnd (wok_w (by decide)) hl
   ·exact hjoin wOr (wok_w (by decide)) hl
theorem is_consE (w:ByteArray) (t:TokD) (X:List TokD):isP w (t :: X)=(decide (t.text=w) && decide (t.kind=1∨t.kind=4)):=rfl
theorem more_read {one:List TokD→PR CondD} {w:ByteArray} {X:List TokD} (hX:isP w X=false) (P:List TokD→Prop) (hP1:P X) (hP2:∀Y,P (tW w :: Y)):∀(ks:List CondD) (acc:List CondD) (k:Nat),ks.length≤k →
  (∀c∈ks,∀Y,P Y→one (kidK c++Y)=.ok c Y)→moreP one w k acc (flatK w (ks.map kidK)++X)=.ok (acc++ks) X
 |[],acc,k,_,_=>by
  rw [List.append_nil,List.map_nil,show flatK w []++X=X from rfl]
  cases k with
  |zero=>rfl
  |succ k=>rw [moreP,hX];rfl
 |c :: r,acc,0,hk,_=>by simp at hk
 |c :: r,acc,k+1,hk,h=>by
  have e:flatK w ((c :: r).map kidK)++X=tW w :: (kidK c++(flatK w (r.map kidK)++X)):=by simp [flatK]
  have hi:isP w (tW w :: (kidK c++(flatK w (r.map kidK)++X)))=true:=by rw [is_consE];simp [tW]
  have hP:P (flatK w (r.map kidK)++X):=by
   cases r with
   |nil=>exact hP1
   |cons d r=>rw [show flatK w ((d :: r).map kidK)++X=tW w :: (kidK d++(flatK w (r.map kidK)++X)) by simp [flatK]];exact hP2 _
  rw [e,moreP,if_pos hi]
  show (one (kidK c++_)).bind _=_
  rw [h c (List.mem_cons_self ..) _ hP]
  show moreP one w k (acc++[c]) _=_
  rw [more_read hX P hP1 hP2 r (acc++[c]) k (by simp at hk;omega) fun d hd=>h d (List.mem_cons_of_mem _ hd)]
  rw [List.append_assoc];rfl
theorem flat_len (w:ByteArray) (r:List CondD):r.length≤(flatK w (r.map kidK)).length:=by
 induction r with
 |nil=>exact Nat.le_refl _
 |cons c r ih =>
  have e:flatK w ((c :: r).map kidK)=tW w :: (kidK c++flatK w (r.map kidK)):=by simp [flatK]
  rw [e,List.length_cons,List.length_cons,List.length_append];omega
theorem series_read {one:List TokD→PR CondD} {w:ByteArray} {o:Int} {X:List TokD} (hX:isP w X=false) (P:List TokD→Prop) (hP1:P X) (hP2:∀Y,P (tW w :: Y)) (ks:List CondD) (hk:1<ks.length)
  (h:∀c∈ks,∀Y,P Y→one (kidK c++Y)=.ok c Y):seriesP one w o (joinK w (ks.map kidK)++X)=.ok (.mk o emptyB emptyB 0 ks) X:=by
 cases ks with
 |nil=>simp at hk
 |cons c r =>
  have e:joinK w ((c :: r).map kidK)++X=kidK c++(flatK w (r.map kidK)++X):=by simp [joinK]
  have hP:P (flatK w (r.map kidK)++X):=by
   cases r with
   |nil=>exact hP1
   |cons d r=>rw [show flatK w ((d :: r).map kidK)++X=tW w :: (kidK d++(flatK w (r.map kidK)++X)) by simp [flatK]];exact hP2 _
  unfold seriesP
  rw [e,h c (List.mem_cons_self ..) _ hP]
  show (moreP one w _ [c] _).bind _=_
  rw [more_read hX P hP1 hP2 r [c] _ (by rw [List.length_append];have:=flat_len w r;omega) fun d hd=>h d (List.mem_cons_of_mem _ hd)]
  show PR.ok (mkP o ([c]++r)) X=_
  cases r with
  |nil=>simp at hk
  |cons d r=>rfl
theorem series_oneX {one:List TokD→PR CondD} {w:ByteArray} {o:Int} {ts X:List TokD} {c:CondD} (hX:isP w X=false) (h:one ts=.ok c X):seriesP one w o ts=.ok c X:=by
 unfold seriesP
 rw [h]
 show (moreP one w X.length [c] X).bind _=_
 have:∀k,moreP one w k [c] X=.ok [c] X:=fun k=>by
  cases k with
  |zero=>rfl
  |succ k=>rw [moreP,hX];rfl
 rw [this];rfl
theorem kid_len {w:ByteArray}:∀(ks:List CondD) (c:CondD),c∈ks→(kidK c).length≤(joinK w (ks.map kidK)).length
 |[],_,h=>by cases h
 |x :: r,c,h=>by
  have e:joinK w ((x :: r).map kidK)=kidK x++flatK w (r.map kidK):=rfl
  rw [e,List.length_append]
  rcases List.mem_cons.1 h with rfl | h
  ·omega
  ·have:∀r:List CondD,c∈r→(kidK c).length≤(flatK w (r.map kidK)).length:=by
    intro r
    induction r with
    |nil=>intro h;cases h
    |cons d r ih =>
     intro h
     have e:flatK w ((d :: r).map kidK)=tW w :: (kidK d++flatK w (r.map kidK)):=by simp [flatK]
     rw [e,List.length_cons,List.length_append]
     rcases List.mem_cons.1 h with rfl | h
     ·omega
     ·have:=ih h;omega
   have:=this r h;omega
def RdN (c:CondD):Prop:=∀G f X,(kidK c).length≤f→isP wIs X=false→isP wMore X=false→notP G f (kidK c++X)=.ok c X
def RdC (c:CondD):Prop:=∀G f X,(tkC c).length≤f→StopX X→condP G f (tkC c++X)=.ok c X
theorem not_name {G f:Nat} {k:ByteArray} (hk:keyB k=true) (Y:List TokD):notP G (f+1) ((⟨1,k,0⟩:TokD) :: Y)=(PR.ok k Y).bind fun k r =>
   if isP wIs r then (nextP G 3 (fun s=>decide (s≠emptyB∧s.size≤200)) r.tail).bind fun v r=>.ok (.mk 3 k v 0 []) r
   else if isP wMore r then (numP G 0 9999999 r.tail).bind fun n r=>.ok (.mk 7 k emptyB n []) r
   else .ok (.mk 2 k emptyB 0 []) r:=by
 obtain ⟨h1,h2,h3,h4,h5⟩:=key_parts hk
 have ne:∀w:ByteArray,k≠w→isP w ((⟨1,k,0⟩:TokD) :: Y)=false:=fun w hw=>by rw [is_consE,decide_eq_false hw];rfl
 rw [notP,ne _ h4,ne _ h5,ne _ h3]
 have hr:(((⟨1,k,0⟩:TokD) :: Y).head?.any fun t=>resB t.text)=false:=by simpa using h2
 rw [hr]
 have hn:nameP G ((⟨1,k,0⟩:TokD) :: Y)=.ok k Y:=by
  show (if (1:Int)=1 then (if nameB k=true then PR.ok k Y else PR.bad 10 0) else PR.bad 5 0)=_
  rw [if_pos rfl,if_pos h1]
 rw [hn];rfl
theorem read_all:∀(m:Nat) (c:CondD),cnodes c≤m→callC nodeOK c=true→RdN c∧RdC c
 |0,c,hm,_=>by have:=cnodes_pos c;omega
 |m+1,.mk o k v n ks,hm,hok=>by
  rw [callC_eq,Bool.and_eq_true] at hok
  obtain ⟨hno,hkids⟩:=hok
  have hm2:cnodesL ks≤m:=by rw [cnodes] at hm;omega
  have IH:∀c∈ks,RdN c:=fun c hc=>(read_all m c (Nat.le_trans (cnodes_mem hc) hm2) (callC_kid hkids c hc)).1
  have leaf:¬(o=5∨o=6)→RdN (.mk o k v n ks)→RdN (.mk o k v n ks)∧RdC (.mk o k v n ks):=fun ho hN=>by
   refine ⟨hN,fun G f X hf hX=>?_⟩
   have e:kidK (.mk o k v n ks)=tkC (.mk o k v n ks):=kid_leaf ho
   have h1:=hN G f X (by rw [e];exact hf) hX.2.2.1 hX.2.2.2
   rw [e] at h1
   exact series_oneX hX.2.1 (series_oneX hX.1 h1)
  rcases node_cases (show nodeB o k v n ks.length=true from hno) with ⟨rfl,rfl,rfl,rfl,hl⟩ | ⟨rfl,hk,rfl,rfl,hl⟩ | ⟨rfl,hk,hv,hv2,rfl,hl⟩ | ⟨rfl,hk,rfl,⟨i,rfl,hi⟩,hl⟩ | ⟨rfl,rfl,rfl,rfl,hl⟩ | ⟨h56,rfl,rfl,rfl,hl⟩
  ·have:=List.length_eq_zero_iff.1 hl;subst this
   refine leaf (by decide) fun G f X hf h1 h2=>?_
   have e:kidK (.mk 1 emptyB emptyB 0 [])=[tW wAlways]:=by rw [kid_leaf (by decide),tkC_eq];rfl
   rw [e] at hf ⊢
   obtain ⟨f,rfl⟩:∃g,f=g+1:=⟨f - 1,by simp at hf;omega⟩
   rw [List.singleton_append,notP,is_consE,is_consE,is_consE]
   rfl
  ·have:=List.length_eq_zero_iff.1 hl;subst this
   refine leaf (by decide) fun G f X hf h1 h2=>?_
   have e:kidK (.mk 2 k emptyB 0 [])=[⟨1,k,0⟩]:=by rw [kid_leaf (by decide),tkC_eq];rfl
   rw [e] at hf ⊢
   obtain ⟨f,rfl⟩:∃g,f=g+1:=⟨f - 1,by simp at hf;omega⟩
   rw [List.singleton_append,not_name hk]
   show (if isP wIs X=true then _ else _)=_
   rw [h1,h2];rfl
  ·have:=List.length_eq_zero_iff.1 hl;subst this
   refine leaf (by decide) fun G f X hf h1 h2=>?_
   have e:kidK (.mk 3 k v 0 [])=[⟨1,k,0⟩,⟨4,wIs,0⟩,⟨3,v,0⟩]:=by rw [kid_leaf (by decide),tkC_eq];rfl
   rw [e] at hf ⊢
   obtain ⟨f,rfl⟩:∃g,f=g+1:=⟨f - 1,by simp at hf;omega⟩
   show notP G (f+1) ((⟨1,k,0⟩:TokD) :: ⟨4,wIs,0⟩ :: ⟨3,v,0⟩ :: X)=_
   rw [not_name hk]
   have hi:isP wIs ((⟨4,wIs,0⟩:TokD) :: ⟨3,v,0⟩ :: X)=true:=by rw [is_consE];decide
   have hn:nextP G 3 (fun s=>decide (s≠emptyB∧s.size≤200)) ((⟨3,v,0⟩:TokD) :: X)=.ok v X:=by
    have hve:v≠emptyB:=fun e=>by rw [e] at hv;exact absurd hv (by decide)
    show (if (3:Int)=3 then (if decide (v≠emptyB∧v.size≤200)=true then PR.ok v X else PR.bad 10 0) else PR.bad 5 0)=_
    rw [if_pos rfl,if_pos (decide_eq_true ⟨hve,hv2⟩)]
   simp only [PR.bind,hi,if_true,List.tail_cons,hn]
  ·have:=List.length_eq_zero_iff.1 hl;subst this
   refine leaf (by decide) fun G f X hf h1 h2=>?_
   have e:kidK (.mk 7 k emptyB (i:Int) [])=[⟨1,k,0⟩,⟨4,wMore,0⟩,⟨2,itoaB (i:Int),0⟩]:=by rw [kid_leaf (by decide),tkC_eq];rfl
   rw [e] at hf ⊢
   obtain ⟨f,rfl⟩:∃g,f=g+1:=⟨f - 1,by simp at hf;omega⟩
   show notP G (f+1) ((⟨1,k,0⟩:TokD) :: ⟨4,wMore,0⟩ :: ⟨2,itoaB (i:Int),0⟩ :: X)=_
   rw [not_name hk]
   have hi:isP wIs ((⟨4,wMore,0⟩:TokD) :: ⟨2,itoaB (i:Int),0⟩ :: X)=false:=by rw [is_consE];decide
   have hj:isP wMore ((⟨4,wMore,0⟩:TokD) :: ⟨2,itoaB (i:Int),0⟩ :: X)=true:=by rw [is_consE];decide
   have ha:atoiN (itoaB (i:Int))=(i:Int):=by unfold atoiN;rw [num_itoaQ i (by omega)];rfl
   have hn:numP G 0 9999999 ((⟨2,itoaB (i:Int),0⟩:TokD) :: X)=.ok (i:Int) X:=by
    show PR.bind (if (2:Int)=2 then (if decide (0≤atoiN (itoaB (i:Int))∧atoiN (itoaB (i:Int))≤9999999)=true then PR.ok (itoaB (i:Int)) X else PR.bad 10 0) else PR.bad 5 0) (fun s r=>PR.ok (atoiN s) r)=_
    rw [if_pos rfl,if_pos (decide_eq_true (by rw [ha];omega))]
    show PR.ok (atoiN (itoaB (i:Int))) X=_
    rw [ha]
   simp only [PR.bind,hi,hj,if_true,List.tail_cons,hn,Bool.false_eq_true,if_false]
  ·obtain ⟨x,rfl⟩:=List.length_eq_one_iff.1 hl
   refine leaf (by decide) fun G f X hf h1 h2=>?_
   have e:kidK (.mk 4 emptyB emptyB 0 [x])=tW wNot :: kidK x:=by rw [kid_leaf (by decide),tkC_eq];rfl
   rw [e] at hf ⊢
   obtain ⟨f,rfl⟩:∃g,f=g+1:=⟨f - 1,by simp at hf;omega⟩
   rw [List.cons_append,notP,if_pos (by rw [is_consE];decide)]
   show (notP G f (kidK x++X)).bind _=_
   rw [IH x (List.mem_cons_self ..) G f X (by simp at hf;omega) h1 h2];rfl
  ·have hC:RdC (.mk o emptyB emptyB 0 ks):=fun G f X hf hX=>by
    rw [tkC_eq] at hf ⊢
    rcases h56 with rfl | rfl
    ·refine series_oneX hX.2.1 (series_read hX.1 (fun Y=>isP wIs Y=false∧isP wMore Y=false) ⟨hX.2.2.1,hX.2.2.2⟩ (fun Y=>⟨by rw [is_consE];decide,by rw [is_consE];decide⟩) ks hl fun c hc Y hY=>?_)
     exact IH c hc G f Y (Nat.le_trans (kid_len ks c hc) hf) hY.1 hY.2
    ·refine series_read hX.2.1 (fun Y=>(isP wIs Y=false∧isP wMore Y=false)∧isP wAnd Y=false) ⟨⟨hX.2.2.1,hX.2.2.2⟩,hX.1⟩ (fun Y=>⟨⟨by rw [is_consE];decide,by rw [is_consE];decide⟩,by rw [is_consE];decide⟩) ks hl fun c hc Y hY=>?_
     exact series_oneX hY.2 (IH c hc G f Y (Nat.le_trans (kid_len ks c hc) hf) hY.1.1 hY.1.2)
   refine ⟨fun G f X hf h1 h2=>?_,hC⟩
   have e:kidK (.mk o emptyB emptyB 0 ks)=tOpen :: (tkC (.mk o emptyB emptyB 0 ks)++[tClose]):=by unfold kidK parK;rw [if_pos (show (CondD.mk o emptyB emptyB 0 ks).op=5∨(CondD.mk o emptyB emptyB 0 ks).op=6 from h56)]
   rw [e] at hf ⊢
   obtain ⟨f,rfl⟩:∃g,f=g+1:=⟨f - 1,by simp at hf;omega⟩
   have e2:tOpen :: (tkC (.mk o emptyB emptyB 0 ks)++[tClose])++X=tOpen :: (tkC (.mk o emptyB emptyB 0 ks)++tClose :: X):=by simp
   rw [e2,notP,if_neg (by rw [is_consE];decide),if_pos (by rw [is_consE];decide)]
   show (condP G f (tkC (.mk o emptyB emptyB 0 ks)++tClose :: X)).bind _=_
   rw [hC G f (tClose :: X) (by simp at hf;omega) ⟨by rw [is_consE];decide,by rw [is_consE];decide,by rw [is_consE];decide,by rw [is_consE];decide⟩]
   have hw:wantP G wClose (tClose :: X)=.ok () X:=by unfold wantP;rw [if_pos (by rw [is_consE];decide)];rfl
   show PR.bind (wantP G wClose (tClose :: X)) (fun _ r=>PR.ok (CondD.mk o emptyB emptyB 0 ks) r)=_
   rw [hw];rfl
end Go.Proofs.YtdfenhjibnfdeaaGreatDoor
namespace Go.Proofs.YtdfenhjibnfdeaaGreatDoor
open Go.RowKit Go.Shelf
def askPs (q:QryD):List (ByteArray × TokD) :=
 if q.ask=2 then [(wInside,tW wInside),(q.id,tW q.id)]
 else if q.ask=3 then [(wAlong,tW wAlong),(q.id,tW q.id),(wBy,tW wBy),(itoaB q.n,⟨2,itoaB q.n,0⟩)]
 else if q.ask=4 then [(wNearest,tW wNearest),(itoaB q.n,⟨2,itoaB q.n,0⟩),(wTo,tW wTo),(itoaB q.x,⟨2,itoaB q.x,0⟩),(itoaB q.y,⟨2,itoaB q.y,0⟩)]
 else if q.ask=5 then [(wReach,tW wReach),(q.id,tW q.id),(wIn,tW wIn),(itoaB q.n,⟨2,itoaB q.n,0⟩),(wBy,tW wBy),(q.prof,tW q.prof),(wAt,tW wAt),(itoaB q.minute,⟨2,itoaB q.minute,0⟩)]
 else if q.ask=6 then [(wCount,tW wCount),(q.key,tW q.key)]
 else [(wAll,tW wAll)]
def kindB (k:Int):ByteArray:=(kindsW[k.toNat]?).getD emptyB
def textL (q:QryD):List ByteArray:=(askPs q).map (·.1)++kindB q.kind :: (if q.wher.op=1 then [] else [wWhere,textC q.wher])
def textQ (q:QryD):ByteArray:=joinB (textL q) ⟨#[32]⟩
def tkQ (q:QryD):List TokD:=(askPs q).map (·.2)++tW (kindB q.kind) :: (if q.wher.op=1 then [] else tW wWhere :: tkC q.wher)
theorem sp_tail:∀(r:List (ByteArray × List TokD)) (a:List UInt8) (A:List TokD),Sp a A→(∀p∈r,Sp (lstB p.1) p.2)→Sp (a++Lib.joinTail [32] (r.map fun p=>lstB p.1)) (A++r.flatMap (·.2))
 |[],a,A,ha,_=>by
  have e1:a++Lib.joinTail [32] (([]:List (ByteArray × List TokD)).map fun p=>lstB p.1)=a:=by simp [Lib.joinTail]
  have e2:A++([]:List (ByteArray × List TokD)).flatMap (·.2)=A:=by simp
  rw [e1,e2];exact ha
 |p :: r,a,A,ha,h=>by
  have h2:=sp_tail r _ _ (ha.gap (h p (List.mem_cons_self ..))) fun d hd=>h d (List.mem_cons_of_mem _ hd)
  have e1:a++Lib.joinTail [32] ((p :: r).map fun p=>lstB p.1)=(a++32 :: lstB p.1)++Lib.joinTail [32] (r.map fun p=>lstB p.1):=by simp [Lib.joinTail]
  have e2:A++(p :: r).flatMap (·.2)=A++p.2++r.flatMap (·.2):=by simp
  rw [e1,e2];exact h2
theorem sp_join {p:ByteArray × List TokD} {r:List (ByteArray × List TokD)} (h:∀x∈p :: r,Sp (lstB x.1) x.2):Sp (Lib.join ((p :: r).map fun p=>lstB p.1) [32]) ((p :: r).flatMap (·.2)):=by
 rw [List.map_cons,Lib.join_cons,List.flatMap_cons]
 exact sp_tail r _ _ (h p (List.mem_cons_self ..)) fun d hd=>h d (List.mem_cons_of_mem _ hd)
theorem sp_name {s:ByteArray} (h:nameB s=true):Sp (lstB s) [tW s]:=word_tW s ▸ Sp.word (wok_name h)
theorem sp_num {n:Int} (h0:0≤n) (h:n≤9999999):Sp (lstB (itoaB n)) [⟨2,itoaB n,0⟩]:=by
 obtain ⟨m,rfl⟩:=Int.eq_ofNat_of_zero_le h0
 exact Sp.word (wok_num m (by omega))
structure QryV (q:QryD):Prop where
 k0:0≤q.kind
 k6:q.kind<6
 cok:callC nodeOK q.wher=true
 c60:cnodes q.wher≤60
 ask:(q.ask=1∧q=⟨1,q.kind,q.wher,emptyB,0,0,0,emptyB,emptyB,0⟩) ∨
  (q.ask=2∧nameB q.id=true∧q=⟨2,q.kind,q.wher,q.id,0,0,0,emptyB,emptyB,0⟩) ∨
  (q.ask=3∧nameB q.id=true∧(0≤q.n∧q.n≤1048576)∧q=⟨3,q.kind,q.wher,q.id,q.n,0,0,emptyB,emptyB,0⟩) ∨
  (q.ask=4∧(1≤q.n∧q.n≤10000)∧(0≤q.x∧q.x≤1048575)∧(0≤q.y∧q.y≤1048575)∧q=⟨4,q.kind,q.wher,emptyB,q.n,q.x,q.y,emptyB,emptyB,0⟩) ∨
  (q.ask=5∧nameB q.id=true∧nameB q.prof=true∧(0≤q.n∧q.n≤10080)∧(0≤q.minute∧q.minute≤9999999)∧q=⟨5,q.kind,q.wher,q.id,q.n,0,0,emptyB,q.prof,q.minute⟩) ∨
  (q.ask=6∧nameB q.key=true∧q=⟨6,q.kind,q.wher,emptyB,0,0,0,q.key,emptyB,0⟩)
theorem valid_parts {q:QryD} (h:validQ q=true):QryV q:=by
 unfold validQ validC at h
 rw [Bool.and_eq_true,Bool.and_eq_true,Bool.and_eq_true,decide_eq_true_eq,decide_eq_true_eq] at h
 obtain ⟨⟨⟨h1,h2⟩,h3,h4⟩,h5⟩:=h
 refine ⟨h1,h2,h4,h3,?_⟩
 obtain ⟨ask,kind,wher,id,n,x,y,key,prof,minute⟩:=q
 simp only at h5 ⊢
 split at h5
 ·rename_i e
  subst e
  obtain ⟨rfl,rfl,rfl,rfl,rfl,rfl,rfl⟩:=of_decide_eq_true h5
  exact Or.inl ⟨rfl,rfl⟩
 split at h5
 ·rename_i e
  subst e
  rw [Bool.and_eq_true] at h5
  obtain ⟨rfl,rfl,rfl,rfl,rfl,rfl⟩:=of_decide_eq_true h5.2
  exact Or.inr (Or.inl ⟨rfl,h5.1,rfl⟩)
 split at h5
 ·rename_i e
  subst e
  rw [Bool.and_eq_true] at h5
  obtain ⟨n0,n1,rfl,rfl,rfl,rfl,rfl⟩:=of_decide_eq_true h5.2
  exact Or.inr (Or.inr (Or.inl ⟨rfl,h5.1,⟨n0,n1⟩,rfl⟩))
 split at h5
 ·rename_i e
  subst e
  rw [Bool.and_eq_true] at h5
  obtain ⟨rfl,rfl,rfl,rfl⟩:=of_decide_eq_true h5.2
  obtain ⟨a1,a2,a3,a4,a5,a6⟩:=of_decide_eq_true h5.1
  exact Or.inr (Or.inr (Or.inr (Or.inl ⟨rfl,⟨a1,a2⟩,⟨a3,a4⟩,⟨a5,a6⟩,rfl⟩)))
 split at h5
 ·rename_i e
  subst e
  rw [Bool.and_eq_true,Bool.and_eq_true,Bool.and_eq_true] at h5
  obtain ⟨m0,m1,rfl,rfl,rfl⟩:=of_decide_eq_true h5.2
  obtain ⟨n0,n1⟩:=of_decide_eq_true h5.1.1.2
  exact Or.inr (Or.inr (Or.inr (Or.inr (Or.inl ⟨rfl,h5.1.1.1,h5.1.2,⟨n0,n1⟩,⟨m0,m1⟩,rfl⟩))))
 split at h5
 ·rename_i e
  subst e
  rw [Bool.and_eq_true] at h5
  obtain ⟨rfl,rfl,rfl,rfl,rfl,rfl⟩:=of_decide_eq_true h5.2
  exact Or.inr (Or.inr (Or.inr (Or.inr (Or.inr ⟨rfl,h5.1,rfl⟩))))
 ·cases h5
theorem kind_name {k:Int} (h0:0≤k) (h6:k<6):nameB (kindB k)=true:=by
 have:k=0∨k=1∨k=2∨k=3∨k=4∨k=5:=by omega
 rcases this with rfl | rfl | rfl | rfl | rfl | rfl<;>decide
theorem kind_word {k:Int} (h0:0≤k) (h6:k<6) (Y:List TokD):wordP kindsW (tW (kindB k) :: Y)=some k.toNat:=by
 rw [word_firstP]
 have:k=0∨k=1∨k=2∨k=3∨k=4∨k=5:=by omega
 rcases this with rfl | rfl | rfl | rfl | rfl | rfl<;>decide
theorem ask_sp {q:QryD} (h:QryV q):∀p∈askPs q,Sp (lstB p.1) [p.2]:=by
 have nm:∀w:ByteArray,nameB w=true→Sp (lstB (w,tW w).1) [(w,tW w).2]:=fun w hw=>sp_name hw
 rcases h.ask with ⟨e,-⟩ | ⟨e,h1,-⟩ | ⟨e,h1,h2,-⟩ | ⟨e,h1,h2,h3,-⟩ | ⟨e,h1,h2,h3,h4,-⟩ | ⟨e,h1,-⟩<;>(unfold askPs;rw [e])
 ·exact List.forall_mem_cons.2 ⟨nm _ (by decide),fun p hp=>by cases hp⟩
 ·exact List.forall_mem_cons.2 ⟨nm _ (by decide),List.forall_mem_cons.2 ⟨nm _ h1,fun p hp=>by cases hp⟩⟩
 ·exact List.forall_mem_cons.2 ⟨nm _ (by decide),List.forall_mem_cons.2 ⟨nm _ h1,List.forall_mem_cons.2 ⟨nm _ (by decide),List.forall_mem_cons.2 ⟨sp_num h2.1 (by omega),fun p hp=>by cases hp⟩⟩⟩⟩
 ·exact List.forall_mem_cons.2 ⟨nm _ (by decide),List.forall_mem_cons.2 ⟨sp_num (by omega) (by omega),List.forall_mem_cons.2 ⟨nm _ (by decide),List.forall_mem_cons.2 ⟨sp_num h2.1 (by omega),List.forall_mem_cons.2 ⟨sp_num h3.1 (by omega),fun p hp=>by cases hp⟩⟩⟩⟩⟩
 ·exact List.forall_mem_cons.2 ⟨nm _ (by decide),List.forall_mem_cons.2 ⟨nm _ h1,List.forall_mem_cons.2 ⟨nm _ (by decide),List.forall_mem_cons.2 ⟨sp_num h3.1 (by omega),List.forall_mem_cons.2 ⟨nm _ (by decide),List.forall_mem_cons.2 ⟨nm _ h2,List.forall_mem_cons.2 ⟨nm _ (by decide),List.forall_mem_cons.2 ⟨sp_num h4.1 h4.2,fun p hp=>by cases hp⟩⟩⟩⟩⟩⟩⟩⟩
 ·exact List.forall_mem_cons.2 ⟨nm _ (by decide),List.forall_mem_cons.2 ⟨nm _ h1,fun p hp=>by cases hp⟩⟩
theorem flat_one {α β:Type} (f:α→β):∀l:List α,l.flatMap (fun p=>[f p])=l.map f
 |[]=>rfl
 |x :: l=>by rw [List.flatMap_cons,flat_one f l];rfl
theorem ask_ne (q:QryD):∃p r,askPs q=p :: r:=by
 unfold askPs
 repeat (split;exact ⟨_,_,rfl⟩)
 exact ⟨_,_,rfl⟩
theorem sp_query {q:QryD} (h:QryV q):Sp (lstB (textQ q)) (tkQ q):=by
 obtain ⟨p,r,hpr⟩:=ask_ne q
 have key:∀E:List (ByteArray × List TokD),(∀x∈E,Sp (lstB x.1) x.2)→Sp (Lib.join (((askPs q).map (·.1)++kindB q.kind :: E.map (·.1)).map lstB) [32]) ((askPs q).map (·.2)++tW (kindB q.kind) :: E.flatMap (·.2)):=fun E hE=>by
  have hall:∀x∈(p.1,[p.2]) :: (r.map (fun x=>(x.1,[x.2]))++(kindB q.kind,[tW (kindB q.kind)]) :: E),Sp (lstB x.1) x.2:=fun x hx=>by
   rcases List.mem_cons.1 hx with rfl | hx
   ·exact ask_sp h p (by rw [hpr];exact List.mem_cons_self ..)
   rcases List.mem_append.1 hx with hx | hx
   ·obtain ⟨y,hy,rfl⟩:=List.mem_map.1 hx
    exact ask_sp h y (by rw [hpr];exact List.mem_cons_of_mem _ hy)
   rcases List.mem_cons.1 hx with rfl | hx
   ·exact sp_name (kind_name h.k0 h.k6)
   ·exact hE x hx
  have:=sp_join hall
  have e1:((p.1,[p.2]) :: (r.map (fun x=>(x.1,[x.2]))++(kindB q.kind,[tW (kindB q.kind)]) :: E)).map (fun p=>lstB p.1)=((askPs q).map (·.1)++kindB q.kind :: E.map (·.1)).map lstB:=by
   rw [hpr];simp [List.map_map,Function.comp_def]
  have e2:((p.1,[p.2]) :: (r.map (fun x=>(x.1,[x.2]))++(kindB q.kind,[tW (kindB q.kind)]) :: E)).flatMap (·.2)=(askPs q).map (·.2)++tW (kindB q.kind) :: E.flatMap (·.2):=by
   rw [hpr,List.flatMap_cons,List.flatMap_append,List.flatMap_map,flat_one,List.flatMap_cons];rfl
  rw [e1,e2] at this
  exact this
 show Sp (Lib.join ((textL q).map lstB) [32]) (tkQ q)
 unfold textL tkQ
 by_cases ho:q.wher.op=1
 ·rw [if_pos ho,if_pos ho]
  exact key [] fun x hx=>by cases hx
 ·rw [if_neg ho,if_neg ho]
  have:=key [(wWhere,[tW wWhere]),(textC q.wher,tkC q.wher)] fun x hx=>by
   rcases List.mem_cons.1 hx with rfl | hx
   ·exact sp_name (by decide)
   ·rw [List.mem_singleton.1 hx];exact sp_cond (cnodes q.wher) q.wher (Nat.le_refl _) h.cok
  simpa using this
theorem name_read {G:Nat} {s:ByteArray} (h:nameB s=true) (Y:List TokD):nameP G (tW s :: Y)=.ok s Y:=by
 show (if (1:Int)=1 then (if nameB s=true then PR.ok s Y else PR.bad 10 0) else PR.bad 5 0)=_
 rw [if_pos rfl,if_pos h]
theorem num_read {G:Nat} {l m n:Int} (h0:0≤n) (h9:n≤9999999) (hl:l≤n) (hm:n≤m) (Y:List TokD):numP G l m ((⟨2,itoaB n,0⟩:TokD) :: Y)=.ok n Y:=by
 obtain ⟨i,rfl⟩:=Int.eq_ofNat_of_zero_le h0
 have ha:atoiN (itoaB (i:Int))=(i:Int):=by unfold atoiN;rw [num_itoaQ i (by omega)];rfl
 show PR.bind (if (2:Int)=2 then (if decide (l≤atoiN (itoaB (i:Int))∧atoiN (itoaB (i:Int))≤m)=true then PR.ok (itoaB (i:Int)) Y else PR.bad 10 0) else PR.bad 5 0) (fun s r=>PR.ok (atoiN s) r)=_
 rw [if_pos rfl,if_pos (decide_eq_true (by rw [ha];omega))]
 show PR.ok (atoiN (itoaB (i:Int))) Y=_
 rw [ha]
theorem want_read {G:Nat} (w:ByteArray) (Y:List TokD):wantP G w (tW w :: Y)=.ok () Y:=by
 unfold wantP
 rw [if_pos (by rw [is_consE];simp [tW])];rfl
theorem read_query {q:QryD} (h:QryV q) (G:Nat):queryP G (tkQ q)=.ok q []:=by
 have hask:∀Y,askP G ((askPs q).map (·.2)++Y)=.ok ⟨q.ask,0,.mk 0 emptyB emptyB 0 [],q.id,q.n,q.x,q.y,q.key,q.prof,q.minute⟩ Y:=fun Y=>by
  obtain ⟨ask,kind,wher,id,n,x,y,key,prof,minute⟩:=q
  rcases h.ask with ⟨e,e2⟩ | ⟨e,h1,e2⟩ | ⟨e,h1,h2,e2⟩ | ⟨e,h1,h2,h3,e2⟩ | ⟨e,h1,h2,h3,h4,e2⟩ | ⟨e,h1,e2⟩
  ·simp only [QryD.mk.injEq,true_and] at e2
   obtain ⟨rfl,rfl,rfl,rfl,rfl,rfl,rfl,rfl⟩:=e2
   rfl
  ·simp only [QryD.mk.injEq,true_and] at e2
   obtain ⟨rfl,rfl,rfl,rfl,rfl,rfl,rfl⟩:=e2
   have h1:nameB id=true:=h1
   show PR.bind (nameP G (tW id :: Y)) _=_
   simp only [PR.bind,name_read h1]
  ·simp only [QryD.mk.injEq,true_and] at e2
   obtain ⟨rfl,rfl,rfl,rfl,rfl,rfl⟩:=e2
   have h1:nameB id=true:=h1
   have h2:0≤n∧n≤1048576:=h2
   have r2:=fun Y=>num_read (G:=G) (l:=0) (m:=1048576) h2.1 (by omega) h2.1 h2.2 Y
   show PR.bind (nameP G (tW id :: tW wBy :: (⟨2,itoaB n,0⟩:TokD) :: Y)) _=_
   simp only [PR.bind,name_read h1,want_read,r2]
  ·simp only [QryD.mk.injEq,true_and] at e2
   obtain ⟨rfl,rfl,rfl,rfl,rfl⟩:=e2
   have h1:1≤n∧n≤10000:=h1
   have h2:0≤x∧x≤1048575:=h2
   have h3:0≤y∧y≤1048575:=h3
   have r1:=fun Y=>num_read (G:=G) (l:=1) (m:=10000) (n:=n) (by omega) (by omega) h1.1 h1.2 Y
   have r2:=fun Y=>num_read (G:=G) (l:=0) (m:=1048575) h2.1 (by omega) h2.1 h2.2 Y
   have r3:=fun Y=>num_read (G:=G) (l:=0) (m:=1048575) h3.1 (by omega) h3.1 h3.2 Y
   show PR.bind (numP G 1 10000 ((⟨2,itoaB n,0⟩:TokD) :: tW wTo :: (⟨2,itoaB x,0⟩:TokD) :: (⟨2,itoaB y,0⟩:TokD) :: Y)) _=_
   simp only [PR.bind,r1,want_read,r2,r3]
  ·simp only [QryD.mk.injEq,true_and] at e2
   obtain ⟨rfl,rfl,rfl,rfl,-⟩:=e2
   have h1:nameB id=true:=h1
   have h2:nameB prof=true:=h2
   have h3:0≤n∧n≤10080:=h3
   have h4:0≤minute∧minute≤9999999:=h4
   have r3:=fun Y=>num_read (G:=G) (l:=0) (m:=10080) h3.1 (by omega) h3.1 h3.2 Y
   have r4:=fun Y=>num_read (G:=G) (l:=0) (m:=9999999) h4.1 h4.2 h4.1 h4.2 Y
   show PR.bind (nameP G (tW id :: tW wIn :: (⟨2,itoaB n,0⟩:TokD) :: tW wBy :: tW prof :: tW wAt :: (⟨2,itoaB minute,0⟩:TokD) :: Y)) _=_
   simp only [PR.bind,name_read h1,name_read h2,want_read,r3,r4]
  ·simp only [QryD.mk.injEq,true_and] at e2
   obtain ⟨rfl,rfl,rfl,rfl,rfl,rfl,rfl⟩:=e2
   have h1:nameB key=true:=h1
   show PR.bind (nameP G (tW key :: Y)) _=_
   simp only [PR.bind,name_read h1]
 unfold queryP tkQ
 rw [hask]
 show (match wordP kindsW (tW (kindB q.kind) :: _) with | none=>_ | some k=>_)=_
 rw [kind_word h.k0 h.k6]
 have hk:((q.kind.toNat:Nat):Int)=q.kind:=Int.toNat_of_nonneg h.k0
 by_cases ho:q.wher.op=1
 ·have hw:q.wher=allW:=by
   have hc:=h.cok
   obtain ⟨ask,kind,⟨o,k,v,n,ks⟩,id,qn,x,y,key,prof,minute⟩:=q
   have ho:o=1:=ho
   subst ho
   rw [callC_eq,Bool.and_eq_true] at hc
   rcases node_cases (show nodeB 1 k v n ks.length=true from hc.1) with ⟨-,rfl,rfl,rfl,hl⟩ | ⟨e,-⟩ | ⟨e,-⟩ | ⟨e,-⟩ | ⟨e,-⟩ | ⟨e,-⟩
   ·rw [List.length_eq_zero_iff.1 hl];rfl
   ·cases e
   ·cases e
   ·cases e
   ·cases e
   ·rcases e with e | e<;>cases e
  rw [if_pos ho]
  simp only [List.tail_cons]
  rw [if_neg (by decide),if_true,hk,←hw]
 ·rw [if_neg ho]
  simp only [List.tail_cons]
  rw [if_pos (by rw [is_consE];decide)]
  have hc:=(read_all (cnodes q.wher) q.wher (Nat.le_refl _) h.cok).2 G (tW wWhere :: tkC q.wher).length [] (by rw [List.length_cons];omega) ⟨rfl,rfl,rfl,rfl⟩
  rw [List.append_nil] at hc
  rw [hc]
  show PR.ok (⟨q.ask,((q.kind.toNat:Nat):Int),q.wher,q.id,q.n,q.x,q.y,q.key,q.prof,q.minute⟩:QryD) []=_
  rw [hk]
end Go.Proofs.YtdfenhjibnfdeaaGreatDoor
namespace Go.Proofs.YtdfenhjibnfdeaaGreatDoor
open Go.RowKit Go.Shelf
mutual
def qszC:CondD→Nat
 |.mk o _ v _ ks=>(if o=3 then (quoteB v).size else 0)+qszL ks
def qszL:List CondD→Nat
 |[]=>0
 |c :: r=>qszC c+qszL r
end
theorem next_chk {F:Nat} {k:Int} {p:ByteArray→Bool} {ts:List TokD} {a:ByteArray} {r:List TokD} (h:nextP F k p ts=.ok a r):p a=true∧∃t,ts=t :: r∧t.kind=k∧t.text=a:=by
 cases ts with
 |nil=>cases h
 |cons t q =>
  rw [nextP] at h
  split at h
  ·rename_i hk
   split at h
   ·rename_i hp
    injection h with h1 h2
    subst h1 h2
    exact ⟨hp,t,rfl,hk,rfl⟩
   ·cases h
  ·cases h
theorem num_chk {F:Nat} {l m:Int} {ts:List TokD} {a:Int} {r:List TokD} (h:numP F l m ts=.ok a r):(l≤a∧a≤m)∧∃t,ts=t :: r:=by
 obtain ⟨s,q,h1,h2⟩:=PR.bind_ok h
 obtain ⟨hp,t,ht,-,-⟩:=next_chk h1
 injection h2 with h2 h3
 subst h2 h3
 exact ⟨of_decide_eq_true hp,t,ht⟩
def GoodR (one:List TokD→PR CondD):Prop:=∀ts a r,one ts=.ok a r→callC nodeOK a=true∧∃U,ts=U++r∧qszC a≤(U.flatMap twL).length
theorem good_more {one:List TokD→PR CondD} (ho:GoodR one) (w:ByteArray):∀(k:Nat) (acc:List CondD) (ts:List TokD) (l:List CondD) (r:List TokD),moreP one w k acc ts=.ok l r →
  ∃l',l=acc++l'∧callL nodeOK l'=true∧∃U,ts=U++r∧qszL l'≤(U.flatMap twL).length
 |0,acc,ts,l,r,h=>by
  injection h with h1 h2
  exact ⟨[],by rw [h1,List.append_nil],rfl,[],h2,Nat.zero_le _⟩
 |k+1,acc,ts,l,r,h=>by
  rw [moreP] at h
  split at h
  ·rename_i hi
   obtain ⟨t,q,rfl,-⟩:=is_cons hi
   obtain ⟨c,r1,g1,g2⟩:=PR.bind_ok h
   obtain ⟨c1,U,c2,c3⟩:=ho _ _ _ g1
   obtain ⟨l',e1,e2,V,e3,e4⟩:=good_more ho w k _ _ _ _ g2
   have c2':q=U++r1:=c2
   refine ⟨c :: l',by rw [e1,List.append_assoc];rfl,by rw [callL,c1,e2];rfl,t :: (U++V),by rw [c2',e3,List.cons_append,List.append_assoc],?_⟩
   rw [qszL,List.flatMap_cons,List.flatMap_append,List.length_append,List.length_append];omega
  ·injection h with h1 h2
   exact ⟨[],by rw [h1,List.append_nil],rfl,[],h2,Nat.zero_le _⟩
theorem good_series {one:List TokD→PR CondD} (ho:GoodR one) (w:ByteArray) {o:Int} (h56:o=5∨o=6):GoodR (seriesP one w o):=fun ts a r h=>by
 unfold seriesP at h
 obtain ⟨c,r1,g1,g2⟩:=PR.bind_ok h
 obtain ⟨l,r2,g3,g4⟩:=PR.bind_ok g2
 injection g4 with g4 g5
 subst g5
 obtain ⟨c1,U,c2,c3⟩:=ho _ _ _ g1
 obtain ⟨l',e1,e2,V,e3,e4⟩:=good_more ho w _ _ _ _ _ g3
 have e1':l=c :: l':=e1
 subst e1'
 have hts:ts=(U++V)++r2:=by rw [c2,e3,List.append_assoc]
 have hq:qszC c+qszL l'≤((U++V).flatMap twL).length:=by rw [List.flatMap_append,List.length_append];omega
 cases l' with
 |nil =>
  have g4':c=a:=g4
  subst g4'
  exact ⟨c1,U++V,hts,by omega⟩
 |cons d l' =>
  have g4':CondD.mk o emptyB emptyB 0 (c :: d :: l')=a:=g4
  subst g4'
  refine ⟨?_,U++V,hts,?_⟩
  ·rw [callC_eq,Bool.and_eq_true]
   refine ⟨?_,by show callL nodeOK (c :: d :: l')=true;rw [callL,c1,e2];rfl⟩
   show nodeB o emptyB emptyB 0 (c :: d :: l').length=true
   unfold nodeB
   rcases h56 with rfl | rfl
   ·simp [emptyB];rfl
   ·simp [emptyB];rfl
  ·rw [qszC,qszL,if_neg (by rcases h56 with rfl | rfl<;>decide)];omega
theorem good_not (F:Nat):∀f:Nat,GoodR (notP F f)
 |0,_,_,_,h=>(fail_ok h).elim
 |f+1,[],a,r,h=>by simp [notP,isP,nameP,nextP,PR.bind] at h
 |f+1,t :: q,a,r,h=>by
  have IH:=good_not F f
  rw [notP] at h
  by_cases h1:isP wNot (t :: q)=true
  ·rw [if_pos h1] at h
   obtain ⟨c,r1,g1,g2⟩:=PR.bind_ok h
   injection g2 with g2 g3
   subst g2 g3
   obtain ⟨k1,U,k2,k3⟩:=IH _ _ _ g1
   have k2':q=U++r1:=k2
   refine ⟨?_,t :: U,by rw [k2'];rfl,?_⟩
   ·rw [callC_eq,Bool.and_eq_true]
    exact ⟨rfl,by show callL nodeOK [c]=true;rw [callL,k1];rfl⟩
   ·rw [qszC,if_neg (by decide),qszL,qszL,List.flatMap_cons,List.length_append];omega
  rw [if_neg h1] at h
  by_cases h2:isP wOpen (t :: q)=true
  ·rw [if_pos h2] at h
   obtain ⟨c,r1,g1,g2⟩:=PR.bind_ok h
   obtain ⟨u,r2,g3,g4⟩:=PR.bind_ok g2
   injection g4 with g4 g5
   subst g4 g5
   obtain ⟨k1,U,k2,k3⟩:=good_series (good_series IH wAnd (Or.inl rfl)) wOr (Or.inr rfl) _ _ _ g1
   obtain ⟨v,hv,-,-⟩:=want_ok g3
   have k2':q=U++r1:=k2
   refine ⟨k1,t :: (U++[v]),by rw [k2',hv,List.cons_append,List.append_assoc];rfl,?_⟩
   rw [List.flatMap_cons,List.flatMap_append,List.length_append,List.length_append];omega
  rw [if_neg h2] at h
  by_cases h3:isP wAlways (t :: q)=true
  ·rw [if_pos h3] at h
   injection h with h4 h5
   subst h4 h5
   exact ⟨rfl,[t],rfl,by rw [qszC,if_neg (by decide),qszL];exact Nat.zero_le _⟩
  rw [if_neg h3] at h
  by_cases h4:((t :: q).head?.any fun t=>resB t.text)=true
  ·rw [if_pos h4] at h;exact (fail_ok h).elim
  rw [if_neg h4] at h
  have hres:resB t.text=false:=by simpa using h4
  obtain ⟨k,r1,g1,g2⟩:=PR.bind_ok h
  obtain ⟨hn,t',ht',hk,hkt⟩:=next_chk g1
  injection ht' with ht' hq
  subst ht' hq
  have hkey:keyB k=true:=by unfold keyB;rw [hn,←hkt,hres];rfl
  by_cases h5:isP wIs q=true
  ·rw [if_pos h5] at g2
   obtain ⟨u,s,rfl,-⟩:=is_cons h5
   obtain ⟨v,r2,g3,g4⟩:=PR.bind_ok g2
   obtain ⟨hv,x,hx,hxk,hxt⟩:=next_chk g3
   have hx':s=x :: r2:=hx
   subst hx'
   injection g4 with g4 g5
   subst g4 g5
   obtain ⟨hv1,hv2⟩:=of_decide_eq_true hv
   refine ⟨?_,[t,u,x],rfl,?_⟩
   ·rw [callC_eq,Bool.and_eq_true]
    refine ⟨?_,rfl⟩
    show nodeB 3 k v 0 0=true
    have hpos:0<v.size:=Nat.pos_of_ne_zero fun e=>hv1 (empty_of e)
    unfold nodeB
    rw [if_neg (by decide),if_neg (by decide),if_pos rfl,hkey,decide_eq_true hpos,decide_eq_true hv2];rfl
   ·rw [qszC,if_pos rfl,qszL]
    have hl:(twL x).length=(quoteB v).size:=by
     rw [←lstB_len,←hxt]
     unfold twL;rw [if_pos hxk];rfl
    simp only [List.flatMap_cons,List.flatMap_nil,List.length_append,List.length_nil]
    omega
  rw [if_neg h5] at g2
  by_cases h6:isP wMore q=true
  ·rw [if_pos h6] at g2
   obtain ⟨u,s,rfl,-⟩:=is_cons h6
   obtain ⟨v,r2,g3,g4⟩:=PR.bind_ok g2
   obtain ⟨⟨hv1,hv2⟩,x,hx⟩:=num_chk g3
   have hx':s=x :: r2:=hx
   subst hx'
   injection g4 with g4 g5
   subst g4 g5
   refine ⟨?_,[t,u,x],rfl,by rw [qszC,if_neg (by decide),qszL];exact Nat.zero_le _⟩
   rw [callC_eq,Bool.and_eq_true]
   refine ⟨?_,rfl⟩
   show nodeB 7 k emptyB v 0=true
   unfold nodeB
   rw [if_neg (by decide),if_neg (by decide),if_neg (by decide),if_pos rfl,hkey,decide_eq_true hv1,decide_eq_true hv2];rfl
  rw [if_neg h6] at g2
  injection g2 with g4 g5
  subst g4 g5
  refine ⟨?_,[t],rfl,by rw [qszC,if_neg (by decide),qszL];exact Nat.zero_le _⟩
  rw [callC_eq,Bool.and_eq_true]
  refine ⟨?_,rfl⟩
  show nodeB 2 k emptyB 0 0=true
  unfold nodeB
  rw [if_neg (by decide),if_pos rfl,hkey];rfl
theorem good_cond (F f:Nat):GoodR (condP F f):=good_series (good_series (good_not F f) wAnd (Or.inl rfl)) wOr (Or.inr rfl)
theorem ask_valid {F:Nat} {ts:List TokD} {q:QryD} {r:List TokD} (h:askP F ts=.ok q r) (k:Int) (c:CondD) (h0:0≤k) (h6:k<6) (hc:validC c=true) :
  validQ { q with kind:=k,wher:=c }=true∧∃U,ts=U++r:=by
 have pre:∀q:QryD,validQ { q with kind:=k,wher:=c }=(if q.ask=1 then decide (q.id=emptyB∧q.n=0∧q.x=0∧q.y=0∧q.key=emptyB∧q.prof=emptyB∧q.minute=0)
  else if q.ask=2 then nameB q.id && decide (q.n=0∧q.x=0∧q.y=0∧q.key=emptyB∧q.prof=emptyB∧q.minute=0)
  else if q.ask=3 then nameB q.id && decide (0≤q.n∧q.n≤1048576∧q.x=0∧q.y=0∧q.key=emptyB∧q.prof=emptyB∧q.minute=0)
  else if q.ask=4 then decide (1≤q.n∧q.n≤10000∧0≤q.x∧q.x≤1048575∧0≤q.y∧q.y≤1048575) && decide (q.id=emptyB∧q.key=emptyB∧q.prof=emptyB∧q.minute=0)
  else if q.ask=5 then nameB q.id && decide (0≤q.n∧q.n≤10080) && nameB q.prof && decide (0≤q.minute∧q.minute≤9999999∧q.x=0∧q.y=0∧q.key=emptyB)
  else if q.ask=6 then nameB q.key && decide (q.id=emptyB∧q.n=0∧q.x=0∧q.y=0∧q.prof=emptyB∧q.minute=0)
  else false):=fun q=>by
  unfold validQ
  simp only
  rw [decide_eq_true ⟨h0,h6⟩,hc];rfl
 rw [pre]
 obtain ⟨U,-,hU,-⟩:=ask_ok h
 refine ⟨?_,U,hU⟩
 cases ts with
 |nil=>cases h
 |cons t s =>
  rw [askP] at h
  split at h
  ·simp only at h
   split at h
   ·injection h with h1 _;subst h1;rfl
   split at h
   ·obtain ⟨i,r1,g1,g2⟩:=PR.bind_ok h
    injection g2 with g2 _;subst g2
    have hn:=(next_chk g1).1
    show (nameB i && _)=true
    rw [hn];rfl
   split at h
   ·obtain ⟨i,r1,g1,g2⟩:=PR.bind_ok h
    obtain ⟨_,r2,_,g4⟩:=PR.bind_ok g2
    obtain ⟨n,r3,g5,g6⟩:=PR.bind_ok g4
    injection g6 with g6 _;subst g6
    have hn:=(next_chk g1).1
    obtain ⟨⟨a1,a2⟩,-⟩:=num_chk g5
    show (nameB i && _)=true
    rw [hn,Bool.true_and]
    exact decide_eq_true ⟨a1,a2,rfl,rfl,rfl,rfl,rfl⟩
   split at h
   ·obtain ⟨n,r1,g1,g2⟩:=PR.bind_ok h
    obtain ⟨_,r2,_,g4⟩:=PR.bind_ok g2
    obtain ⟨x,r3,g5,g6⟩:=PR.bind_ok g4
    obtain ⟨y,r4,g7,g8⟩:=PR.bind_ok g6
    injection g8 with g8 _;subst g8
    obtain ⟨⟨a1,a2⟩,-⟩:=num_chk g1
    obtain ⟨⟨a3,a4⟩,-⟩:=num_chk g5
    obtain ⟨⟨a5,a6⟩,-⟩:=num_chk g7
    show (decide _ && decide _)=true
    rw [Bool.and_eq_true]
    exact ⟨decide_eq_true ⟨a1,a2,a3,a4,a5,a6⟩,decide_eq_true ⟨rfl,rfl,rfl,rfl⟩⟩
   split at h
   ·obtain ⟨i,r1,g1,g2⟩:=PR.bind_ok h
    obtain ⟨_,r2,_,g4⟩:=PR.bind_ok g2
    obtain ⟨n,r3,g5,g6⟩:=PR.bind_ok g4
    obtain ⟨_,r4,_,g8⟩:=PR.bind_ok g6
    obtain ⟨p,r5,g9,g10⟩:=PR.bind_ok g8
    obtain ⟨_,r6,_,g12⟩:=PR.bind_ok g10
    obtain ⟨m,r7,g13,g14⟩:=PR.bind_ok g12
    injection g14 with g14 _;subst g14
    have hn:=(next_chk g1).1
    have hp:=(next_chk g9).1
    obtain ⟨⟨a1,a2⟩,-⟩:=num_chk g5
    obtain ⟨⟨a3,a4⟩,-⟩:=num_chk g13
    show (nameB i && decide _ && nameB p && decide _)=true
    rw [hn,hp,Bool.and_eq_true,Bool.and_eq_true,Bool.and_eq_true]
    exact ⟨⟨⟨rfl,decide_eq_true ⟨a1,a2⟩⟩,rfl⟩,decide_eq_true ⟨a3,a4,rfl,rfl,rfl⟩⟩
   split at h
   ·obtain ⟨i,r1,g1,g2⟩:=PR.bind_ok h
    injection g2 with g2 _;subst g2
    have hn:=(next_chk g1).1
    show (nameB i && _)=true
    rw [hn];rfl
   ·cases h
  ·cases h
theorem word_lt:∀(l:List ByteArray) (ts:List TokD) (k:Nat),wordP l ts=some k→k<l.length
 |[],_,_,h=>by cases h
 |w :: l,ts,k,h=>by
  rw [wordP] at h
  split at h
  ·injection h with h;subst h;simp
  ·cases hw:wordP l ts with
   |none=>rw [hw] at h;cases h
   |some j =>
    rw [hw] at h
    injection h with h
    have h:j+1=k:=h
    have:=word_lt l ts j hw
    rw [List.length_cons];omega
theorem size_nodes {c:CondD} (h:¬60<sizeC c):cnodes c≤60:=by
 unfold sizeC cntS at h
 split at h<;>omega
theorem query_valid {F:Nat} {T:List TokD} {q:QryD} {r:List TokD} (h:queryP F T=.ok q r) (hz:¬60<sizeC q.wher):validQ q=true∧qszC q.wher≤(T.flatMap twL).length:=by
 unfold queryP at h
 obtain ⟨q0,s,h1,h2⟩:=PR.bind_ok h
 cases hk:wordP kindsW s with
 |none=>rw [hk] at h2;exact (fail_ok h2).elim
 |some k =>
  rw [hk] at h2
  have hk6:=word_lt _ _ _ hk
  have hk6':k<6:=hk6
  cases s with
  |nil =>
   have hn:wordP kindsW ([]:List TokD)=none:=by decide
   rw [hn] at hk;cases hk
  |cons K s =>
   have h2:(if isP wWhere s=true then (condP F s.length s.tail).bind fun c r=>if r=[] then PR.ok ({ q0 with kind:=(k:Int),wher:=c }:QryD) r else failP F 5 r
    else if s=[] then .ok ({ q0 with kind:=(k:Int),wher:=allW }:QryD) s else failP F 5 s)=.ok q r:=h2
   by_cases hi:isP wWhere s=true
   ·rw [if_pos hi] at h2
    obtain ⟨c,s2,g1,g2⟩:=PR.bind_ok h2
    obtain ⟨W,C,rfl,-⟩:=is_cons hi
    by_cases hs2:s2=[]
    ·rw [if_pos hs2] at g2
     injection g2 with g3 g4
     subst g3
     obtain ⟨c1,U,c2,c3⟩:=good_cond F _ _ _ _ g1
     have hv:validC c=true:=by unfold validC;rw [c1,decide_eq_true (size_nodes hz)];rfl
     obtain ⟨v1,V,v2⟩:=ask_valid h1 (k:Int) c (by omega) (by omega) hv
     refine ⟨v1,?_⟩
     have c2':C=U++s2:=c2
     have c3':qszC c≤(U.flatMap twL).length:=c3
     show qszC c≤_
     rw [v2,c2']
     simp only [List.flatMap_append,List.flatMap_cons,List.length_append];omega
    ·rw [if_neg hs2] at g2;exact (fail_ok g2).elim
   ·rw [if_neg hi] at h2
    by_cases hs:s=[]
    ·rw [if_pos hs] at h2
     injection h2 with g3 g4
     subst g3
     have hv:validC allW=true:=by decide
     obtain ⟨v1,V,v2⟩:=ask_valid h1 (k:Int) allW (by omega) (by omega) hv
     exact ⟨v1,by show qszC allW≤_;rw [allW,qszC,if_neg (by decide),qszL];exact Nat.zero_le _⟩
    ·rw [if_neg hs] at h2;exact (fail_ok h2).elim
theorem parse_lexok {s:ByteArray} (h0:(parseQ s).2.1=0):∃T,lexP s=(T,0,0):=by
 by_cases he:(lexP s).2.1=0
 ·exact ⟨(lexP s).1,Prod.ext rfl (Prod.ext he (lexF_zero s he rfl))⟩
 ·unfold parseQ at h0
  rw [if_pos he] at h0
  exact absurd h0 he
theorem parsed_valid {s:ByteArray} (h0:(parseQ s).2.1=0):validQ (parseQ s).1=true∧qszC (parseQ s).1.wher≤2 * s.size:=by
 obtain ⟨T,hT⟩:=parse_lexok h0
 obtain ⟨-,w2,-⟩:=lex_words hT
 have hll:SimT T T:=rfl
 cases hq:queryP s.size T with
 |bad e o =>
  have:=(parse_bad_sim hT hll hq).2
  rw [h0] at this
  exact absurd this.symm (nz_query _ _ e o hq)
 |ok q r =>
  have hp:=parse_ok_sim hT hll hq
  have hz:¬60<sizeC q.wher:=fun e=>by rw [hp,if_pos e] at h0;cases h0
  rw [hp,if_neg hz]
  obtain ⟨a,b⟩:=query_valid hq hz
  exact ⟨a,Nat.le_trans b w2⟩
end Go.Proofs.YtdfenhjibnfdeaaGreatDoor
namespace Go.Proofs.YtdfenhjibnfdeaaGreatDoor
open Go.RowKit Go.Shelf
theorem join_le (sep:List UInt8):∀l:List (List UInt8),(Lib.join l sep).length≤(l.map fun x=>x.length+sep.length).sum
 |[]=>Nat.le_refl _
 |x :: r=>by
  rw [Lib.join_cons,List.length_append,List.map_cons,List.sum_cons]
  have:∀r:List (List UInt8),(Lib.joinTail sep r).length=(r.map fun x=>x.length+sep.length).sum:=fun r=>by
   induction r with
   |nil=>rfl
   |cons y r ih =>
    have e:Lib.joinTail sep (y :: r)=sep++y++Lib.joinTail sep r:=by simp [Lib.joinTail]
    rw [e,List.length_append,List.length_append,ih,List.map_cons,List.sum_cons];omega
  rw [this];omega
theorem lst_size (s:ByteArray):(lstB s).length=s.size:=lstB_len s
theorem name_size {s:ByteArray} (h:nameB s=true):s.size≤24:=by
 unfold nameB nameL at h
 simp only [Bool.and_eq_true,decide_eq_true_eq] at h
 rw [←lst_size];exact h.1.2
theorem num_size {n:Int} (h0:0≤n) (h:n≤9999999):(itoaB n).size≤7:=by
 obtain ⟨m,rfl⟩:=Int.eq_ofNat_of_zero_le h0
 rw [←lst_size,lst_itoa]
 exact dig_len 6 m (by omega)
theorem kid_sizeT (c:CondD):(kidT c).size≤(textC c).size+2:=by
 rw [←lst_size,lst_kid,←lst_size (textC c)]
 split
 ·rw [List.length_cons,List.length_append];simp
 ·omega
theorem text_bound:∀(m:Nat) (c:CondD),cnodes c≤m→callC nodeOK c=true→(textC c).size+10≤qszC c+50 * cnodes c
 |0,c,hm,_=>by have:=cnodes_pos c;omega
 |m+1,.mk o k v n ks,hm,hok=>by
  rw [callC_eq,Bool.and_eq_true] at hok
  obtain ⟨hno,hkids⟩:=hok
  have hm2:cnodesL ks≤m:=by rw [cnodes] at hm;omega
  have IH:∀c∈ks,(textC c).size+10≤qszC c+50 * cnodes c:=fun c hc=>text_bound m c (Nat.le_trans (cnodes_mem hc) hm2) (callC_kid hkids c hc)
  have hsum:∀(sep:ByteArray),sep.size≤5→∀r:List CondD,(∀c∈r,(textC c).size+10≤qszC c+50 * cnodes c)→((r.map kidT).map lstB |>.map fun x=>x.length+(lstB sep).length).sum≤qszL r+50 * cnodesL r:=fun sep hsep r=>by
   induction r with
   |nil=>intro _;exact Nat.zero_le _
   |cons c r ih =>
    intro hr
    have h1:=ih fun d hd=>hr d (List.mem_cons_of_mem _ hd)
    have h2:=hr c (List.mem_cons_self ..)
    have h3:=kid_sizeT c
    rw [List.map_cons,List.map_cons,List.map_cons,List.sum_cons,qszL,cnodesL,lst_size,lst_size]
    rw [lst_size] at h1
    omega
  have hjoin:∀sep:ByteArray,sep.size≤5→(joinB (ks.map kidT) sep).size≤qszL ks+50 * cnodesL ks:=fun sep hsep=>by
   rw [←lst_size,lst_join]
   exact Nat.le_trans (join_le _ _) (hsum sep hsep ks IH)
  rw [textC_eq,qszC,cnodes]
  have app:∀a b:ByteArray,(a++b).size=a.size+b.size:=fun a b=>ByteArray.size_append ..
  have z3:(⟨#[32,61,32]⟩:ByteArray).size=3:=rfl
  have z3':(⟨#[32,62,32]⟩:ByteArray).size=3:=rfl
  have z4:(⟨#[110,111,116,32]⟩:ByteArray).size=4:=rfl
  rcases node_cases (show nodeB o k v n ks.length=true from hno) with ⟨rfl,-⟩ | ⟨rfl,hk,-⟩ | ⟨rfl,hk,-⟩ | ⟨rfl,hk,-,⟨i,rfl,hi⟩,-⟩ | ⟨rfl,-,-,-,hl⟩ | ⟨h56,-,-,-,hl⟩
  ·show wAlways.size+10≤_
   have:wAlways.size=6:=rfl
   omega
  ·have:=name_size (key_parts hk).1
   rw [if_pos rfl];omega
  ·have:=name_size (key_parts hk).1
   rw [if_neg (by decide),if_pos rfl,if_pos rfl,app,app,z3];omega
  ·have:=name_size (key_parts hk).1
   have:=num_size (n:=(i:Int)) (by omega) (by omega)
   rw [if_neg (by decide),if_neg (by decide),if_pos rfl,app,app,z3'];omega
  ·obtain ⟨x,rfl⟩:=List.length_eq_one_iff.1 hl
   have h1:=IH x (List.mem_cons_self ..)
   have h2:=kid_sizeT x
   rw [if_neg (by decide),if_neg (by decide),if_neg (by decide),if_pos rfl,app,z4,qszL,qszL,cnodesL,cnodesL]
   show 4+(kidT x).size+10≤_
   omega
  ·rcases h56 with rfl | rfl
   ·have:=hjoin ⟨#[32,97,110,100,32]⟩ (by decide)
    rw [if_neg (by decide),if_neg (by decide),if_neg (by decide),if_neg (by decide),if_pos rfl];omega
   ·have:=hjoin ⟨#[32,111,114,32]⟩ (by decide)
    rw [if_neg (by decide),if_neg (by decide),if_neg (by decide),if_neg (by decide),if_neg (by decide),if_pos rfl];omega
theorem quote_le (s:ByteArray):(quoteB s).size≤2 * s.size+2:=by
 rw [←lst_size,←lst_size s]
 show (quoteL (lstB s)).length≤_
 have:=escs_len (lstB s)
 unfold quoteL
 rw [List.length_append,List.length_cons,List.length_singleton];omega
theorem qsz_bound:∀(m:Nat) (c:CondD),cnodes c≤m→callC nodeOK c=true→qszC c≤402 * cnodes c
 |0,c,hm,_=>by have:=cnodes_pos c;omega
 |m+1,.mk o k v n ks,hm,hok=>by
  rw [callC_eq,Bool.and_eq_true] at hok
  obtain ⟨hno,hkids⟩:=hok
  have hm2:cnodesL ks≤m:=by rw [cnodes] at hm;omega
  have hsum:∀r:List CondD,(∀c∈r,qszC c≤402 * cnodes c)→qszL r≤402 * cnodesL r:=fun r=>by
   induction r with
   |nil=>intro _;exact Nat.zero_le _
   |cons c r ih =>
    intro hr
    have h1:=ih fun d hd=>hr d (List.mem_cons_of_mem _ hd)
    have h2:=hr c (List.mem_cons_self ..)
    rw [qszL,cnodesL];omega
  have hs:=hsum ks fun c hc=>qsz_bound m c (Nat.le_trans (cnodes_mem hc) hm2) (callC_kid hkids c hc)
  rw [qszC,cnodes]
  split
  ·rename_i e
   have hv:v.size≤200:=by
    rcases node_cases (show nodeB o k v n ks.length=true from hno) with ⟨e',-⟩ | ⟨e',-⟩ | ⟨-,-,-,h,-⟩ | ⟨e',-⟩ | ⟨e',-⟩ | ⟨e',-⟩
    ·omega
    ·omega
    ·exact h
    ·omega
    ·omega
    ·omega
   have:=quote_le v
   omega
  ·omega
theorem textQ_size {q:QryD} (h:QryV q):(textQ q).size≤300+(textC q.wher).size:=by
 have hask:((((askPs q).map (·.1)).map lstB).map fun x=>x.length+(lstB ⟨#[32]⟩).length).sum≤250:=by
  have w8:∀w:ByteArray,nameB w=true→(lstB w).length≤24:=fun w hw=>by rw [lst_size];exact name_size hw
  have n8:∀n:Int,0≤n→n≤9999999→(lstB (itoaB n)).length≤24:=fun n h0 h9=>by rw [lst_size];have:=num_size h0 h9;omega
  have z:(lstB ⟨#[32]⟩).length=1:=rfl
  rw [z]
  rcases h.ask with ⟨e,-⟩ | ⟨e,h1,-⟩ | ⟨e,h1,h2,-⟩ | ⟨e,h1,h2,h3,-⟩ | ⟨e,h1,h2,h3,h4,-⟩ | ⟨e,h1,-⟩<;>(unfold askPs;rw [e])
  ·show ((([(wAll,tW wAll)].map (·.1)).map lstB).map fun x=>x.length+1).sum≤250
   decide
  ·have a1:=w8 _ h1
   have b1:=w8 wInside (by decide)
   show ((([(wInside,tW wInside),(q.id,tW q.id)].map (·.1)).map lstB).map fun x=>x.length+1).sum≤250
   simp only [List.map_cons,List.map_nil,List.sum_cons,List.sum_nil];omega
  ·have a1:=w8 _ h1
   have a2:=n8 _ h2.1 (by omega)
   have b1:=w8 wAlong (by decide)
   have b2:=w8 wBy (by decide)
   show ((([(wAlong,tW wAlong),(q.id,tW q.id),(wBy,tW wBy),(itoaB q.n,(⟨2,itoaB q.n,0⟩:TokD))].map (·.1)).map lstB).map fun x=>x.length+1).sum≤250
   simp only [List.map_cons,List.map_nil,List.sum_cons,List.sum_nil];omega
  ·have a1:=n8 q.n (by omega) (by omega)
   have a2:=n8 _ h2.1 (by omega)
   have a3:=n8 _ h3.1 (by omega)
   have b1:=w8 wNearest (by decide)
   have b2:=w8 wTo (by decide)
   show ((([(wNearest,tW wNearest),(itoaB q.n,(⟨2,itoaB q.n,0⟩:TokD)),(wTo,tW wTo),(itoaB q.x,⟨2,itoaB q.x,0⟩),(itoaB q.y,⟨2,itoaB q.y,0⟩)].map (·.1)).map lstB).map fun x=>x.length+1).sum≤250
   simp only [List.map_cons,List.map_nil,List.sum_cons,List.sum_nil];omega
  ·have a1:=w8 _ h1
   have a2:=w8 _ h2
   have a3:=n8 _ h3.1 (by omega)
   have a4:=n8 _ h4.1 h4.2
   have b1:=w8 wReach (by decide)
   have b2:=w8 wIn (by decide)
   have b3:=w8 wBy (by decide)
   have b4:=w8 wAt (by decide)
   show ((([(wReach,tW wReach),(q.id,tW q.id),(wIn,tW wIn),(itoaB q.n,(⟨2,itoaB q.n,0⟩:TokD)),(wBy,tW wBy),(q.prof,tW q.prof),(wAt,tW wAt),(itoaB q.minute,⟨2,itoaB q.minute,0⟩)].map (·.1)).map lstB).map fun x=>x.length+1).sum≤250
   simp only [List.map_cons,List.map_nil,List.sum_cons,List.sum_nil];omega
  ·have a1:=w8 _ h1
   have b1:=w8 wCount (by decide)
   show ((([(wCount,tW wCount),(q.key,tW q.key)].map (·.1)).map lstB).map fun x=>x.length+1).sum≤250
   simp only [List.map_cons,List.map_nil,List.sum_cons,List.sum_nil];omega
 have hk:=name_size (kind_name h.k0 h.k6)
 have hz:(textQ q).size≤(((textL q).map lstB).map fun x=>x.length+(lstB ⟨#[32]⟩).length).sum:=by
  rw [←lst_size];exact join_le _ _
 refine Nat.le_trans hz ?_
 unfold textL
 have z:(lstB ⟨#[32]⟩).length=1:=rfl
 rw [List.map_append,List.map_append,List.sum_append,List.map_cons,List.map_cons,List.sum_cons]
 rw [z] at hask ⊢
 split
 ·simp only [List.map_nil,List.sum_nil,lst_size];omega
 ·have w5:wWhere.size=5:=rfl
  simp only [List.map_cons,List.map_nil,List.sum_cons,List.sum_nil,lst_size]
  omega
theorem kid_lenT (c:CondD):(kidK c).length≤(tkC c).length+2:=by
 unfold kidK parK
 split
 ·rw [List.length_cons,List.length_append];simp
 ·omega
theorem tok_bound:∀(m:Nat) (c:CondD),cnodes c≤m→callC nodeOK c=true→(tkC c).length+3≤6 * cnodes c
 |0,c,hm,_=>by have:=cnodes_pos c;omega
 |m+1,.mk o k v n ks,hm,hok=>by
  rw [callC_eq,Bool.and_eq_true] at hok
  obtain ⟨hno,hkids⟩:=hok
  have hm2:cnodesL ks≤m:=by rw [cnodes] at hm;omega
  have IH:∀c∈ks,(tkC c).length+3≤6 * cnodes c:=fun c hc=>tok_bound m c (Nat.le_trans (cnodes_mem hc) hm2) (callC_kid hkids c hc)
  have hflat:∀(w:ByteArray) (r:List CondD),(∀c∈r,(tkC c).length+3≤6 * cnodes c)→(flatK w (r.map kidK)).length≤6 * cnodesL r:=fun w r=>by
   induction r with
   |nil=>intro _;exact Nat.zero_le _
   |cons c r ih =>
    intro hr
    have h1:=ih fun d hd=>hr d (List.mem_cons_of_mem _ hd)
    have h2:=hr c (List.mem_cons_self ..)
    have h3:=kid_lenT c
    have e:flatK w ((c :: r).map kidK)=tW w :: (kidK c++flatK w (r.map kidK)):=by simp [flatK]
    rw [e,List.length_cons,List.length_append,cnodesL];omega
  have hjoin:∀w:ByteArray,(joinK w (ks.map kidK)).length≤6 * cnodesL ks:=fun w=>by
   have:=hflat w ks IH
   cases ks with
   |nil=>exact Nat.zero_le _
   |cons c r =>
    have e:flatK w ((c :: r).map kidK)=tW w :: (kidK c++flatK w (r.map kidK)):=by simp [flatK]
    rw [e,List.length_cons] at this
    show (kidK c++flatK w (r.map kidK)).length≤_
    omega
  rw [tkC_eq,cnodes]
  rcases node_cases (show nodeB o k v n ks.length=true from hno) with ⟨rfl,-⟩ | ⟨rfl,hk,-⟩ | ⟨rfl,hk,-⟩ | ⟨rfl,hk,-,⟨i,rfl,hi⟩,-⟩ | ⟨rfl,-,-,-,hl⟩ | ⟨h56,-,-,-,hl⟩
  ·show 1+3≤_
   omega
  ·show 1+3≤_
   omega
  ·show 3+3≤_
   omega
  ·show 3+3≤_
   omega
  ·obtain ⟨x,rfl⟩:=List.length_eq_one_iff.1 hl
   have h1:=IH x (List.mem_cons_self ..)
   have h2:=kid_lenT x
   show (kidK x).length+1+3≤_
   rw [cnodesL,cnodesL];omega
  ·rcases h56 with rfl | rfl
   ·have:=hjoin wAnd
    rw [if_neg (by decide),if_neg (by decide),if_neg (by decide),if_neg (by decide),if_pos rfl];omega
   ·have:=hjoin wOr
    rw [if_neg (by decide),if_neg (by decide),if_neg (by decide),if_neg (by decide),if_neg (by decide),if_pos rfl];omega
theorem tkQ_len {q:QryD} (h:QryV q):(tkQ q).length≤1000:=by
 have h1:(askPs q).length≤8:=by
  unfold askPs
  repeat (split;· simp)
  simp
 have h2:=tok_bound (cnodes q.wher) q.wher (Nat.le_refl _) h.cok
 have h3:=h.c60
 unfold tkQ
 rw [List.length_append,List.length_map,List.length_cons]
 split
 ·simp only [List.length_nil];omega
 ·rw [List.length_cons];omega
theorem parse_text {q:QryD} (h:validQ q=true) (hs:(textQ q).size≤20000):parseQ (textQ q)=(q,0,0):=by
 have hv:=valid_parts h
 obtain ⟨T,hT,hk⟩:=(sp_query hv).spells.lex hs (by rw [List.length_map];have:=tkQ_len hv;omega)
 have hsim:SimT (tkQ q) T:=hk.symm
 rw [parse_ok_sim hT hsim (read_query hv 0),if_neg]
 have:=hv.c60
 unfold sizeC cntS
 split<;>omega
theorem parsed_size {s:ByteArray} (hs:s.size≤3000) (h0:(parseQ s).2.1=0):(textQ (parseQ s).1).size≤20000:=by
 obtain ⟨h1,h2⟩:=parsed_valid h0
 have hv:=valid_parts h1
 have h3:=textQ_size hv
 have h4:=text_bound _ (parseQ s).1.wher (Nat.le_refl _) hv.cok
 have h5:=hv.c60
 omega
theorem valid_size {q:QryD} (h:validQ q=true):(textC q.wher).size≤28000∧(textQ q).size≤28300:=by
 have hv:=valid_parts h
 have h3:=textQ_size hv
 have h4:=text_bound _ q.wher (Nat.le_refl _) hv.cok
 have h6:=qsz_bound _ q.wher (Nat.le_refl _) hv.cok
 have h5:=hv.c60
 omega
end Go.Proofs.YtdfenhjibnfdeaaGreatDoor
