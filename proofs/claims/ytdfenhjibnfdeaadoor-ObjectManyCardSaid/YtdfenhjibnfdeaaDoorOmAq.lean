/-   -/
import Derived.Test.YtdfenhjibnfdeaaDoorOmAl
namespace Go.Proofs.YtdfenhjibnfdeaaDoor
open Go.RowKit Go.Shelf
def digU (d:Nat):UInt8:=(48+d).toUInt8
def decA:Nat→Nat→List UInt8→List UInt8
 |0,_,acc=>acc
 |f+1,n,acc=>if n=0 then acc else decA f (n / 10) (digU (n % 10) :: acc)
def decL (n:Nat):List UInt8:=decA 20 (n / 10) [digU (n % 10)]
def tenB:ByteArray:=⟨#[48,49,50,51,52,53,54,55,56,57]⟩
theorem ten_at {r:Nat} (h:r<10):tenB.extract r (r+1)=bytesOf [digU r]:=by
 match r,h with
 |0,_ | 1,_ | 2,_ | 3,_ | 4,_ | 5,_ | 6,_ | 7,_ | 8,_ | 9,_=>rfl
theorem bytes_cons (a:UInt8) (l:List UInt8):bytesOf [a]++bytesOf l=bytesOf (a :: l):=by
 apply ByteArray.ext
 simp [bytesOf]
set_option maxRecDepth 100000 in
set_option maxHeartbeats 1000000 in
theorem rdigits_any (n:Nat) (hn:n<1000000) (w:World) :
  Calls Tryd.prog 12 #[.int .u64 n] w fun e w'=>e=.returned (.string (bytesOf (decL n)))∧w'=w:=by
 have hr:n % 10<10:=Nat.mod_lt _ (by decide)
 have T0:=ten_at hr
 have m0:(n:Int).tmod 10=((n % 10:Nat):Int):=by rw [Int.tmod_eq_emod_of_nonneg (by omega)];omega
 have m1:(n:Int).tdiv 10=((n / 10:Nat):Int):=by rw [Int.tdiv_eq_ediv_of_nonneg (by omega)];omega
 obtain ⟨r,hrr⟩:∃z,z=n % 10:=⟨_,rfl⟩
 obtain ⟨q,hq⟩:∃z,z=n / 10:=⟨_,rfl⟩
 have HD:=Lib.hid (show decA 20 q [digU r]=decL n by rw [decL,hrr,hq])
 have hqb:q<1000000:=by omega
 rw [←hrr] at hr T0 m0
 rw [←hq] at m1
 have k1:IntKind.u64.wrap (r:Int)=(r:Int):=by rw [IntKind.wrap_u64];omega
 have k2:IntKind.u64.wrap ((r:Int)+1)=(r:Int)+1:=by rw [IntKind.wrap_u64];omega
 have k3:IntKind.u64.wrap (q:Int)=(q:Int):=by rw [IntKind.wrap_u64];omega
 clear hrr hq
 unfold tenB at T0
 go_enter Tryd.func12,Tryd.ntmps12
 go_wp2
 go_loop [0,3] (fun a b=>∃(q f:Nat) (acc:List UInt8),a=.int .u64 q∧b=.string (bytesOf acc)∧q<1000000∧q<10 ^ f∧f+acc.length=21∧decA f q acc=decL n) (fun a _=>(intOf a).toNat)
 case atStart=>exact ⟨q,20,_,rfl,rfl,hqb,by omega,rfl,HD.out⟩
 case round =>
  clear HD hqb hr T0 k1 k2 k3 m0 m1
  obtain ⟨q,f,acc,rfl,rfl,hq,hf,hlen,hd⟩:=hrel
  have HD:=Lib.hid hd
  clear hd
  by_cases h0:q=0
  ·subst h0
   have HE:=Lib.hid (show acc=decL n by rw [←HD.out];cases f<;>simp [decA])
   clear hf hlen
   go_wp2
   go_ret
   exact ⟨(by rw [HE.out]:Ending.returned (.string (bytesOf acc))=.returned (.string (bytesOf (decL n)))),rfl⟩
  ·obtain ⟨g,rfl⟩:∃g,f=g+1:=⟨f - 1,by
    rcases f with _ | f
    ·simp at hf;omega
    ·rfl⟩
   have hr:q % 10<10:=Nat.mod_lt _ (by decide)
   have T0:=ten_at hr
   have m0:(q:Int).tmod 10=((q % 10:Nat):Int):=by rw [Int.tmod_eq_emod_of_nonneg (by omega)];omega
   have m1:(q:Int).tdiv 10=((q / 10:Nat):Int):=by rw [Int.tdiv_eq_ediv_of_nonneg (by omega)];omega
   have HD2:=Lib.hid (show decA g (q / 10) (digU (q % 10) :: acc)=decL n by rw [←HD.out,decA,if_neg h0])
   have hf2:q / 10<10 ^ g:=by rw [Nat.pow_succ] at hf;omega
   obtain ⟨r,hrr⟩:∃z,z=q % 10:=⟨_,rfl⟩
   obtain ⟨p,hp⟩:∃z,z=q / 10:=⟨_,rfl⟩
   have HPQ:=Lib.hid (show p<q by omega)
   rw [←hrr] at hr T0 m0 HD2
   rw [←hp] at m1 HD2 hf2
   have hpb:p<1000000:=by omega
   have k1:IntKind.u64.wrap (r:Int)=(r:Int):=by rw [IntKind.wrap_u64];omega
   have k2:IntKind.u64.wrap ((r:Int)+1)=(r:Int)+1:=by rw [IntKind.wrap_u64];omega
   have k3:IntKind.u64.wrap (p:Int)=(p:Int):=by rw [IntKind.wrap_u64];omega
   have D:decide ((0:Int)<(q:Int))=true:=by rw [decide_eq_true_eq];omega
   have D2:decide (0<q)=true:=by rw [decide_eq_true_eq];omega
   have e1:∀w,(Op.stringOp .add (bytesOf [digU r]) (bytesOf acc)).run Tryd.prog w=.ok (.string (bytesOf (digU r :: acc))) w:=fun w=>by
    rw [←bytes_cons (digU r) acc]
    have z1:(bytesOf [digU r]).size=1:=rfl
    have z2:(bytesOf acc).size=acc.length:=List.size_toArray
    exact run_string_add_sum w _ _ (by omega)
   clear hrr hp HD h0 hf hq
   unfold tenB at T0
   go_wp2
   go_round
   case rel=>exact ⟨p,g,_,rfl,rfl,hpb,hf2,by simp only [List.length_cons];omega,HD2.out⟩
   case measure=>simp [intOf];exact HPQ.out
theorem rdecimal_any (n:Nat) (hn:n<1000000) (w:World) :
  Calls Tryd.prog 5 #[.int .i64 n] w fun e w'=>e=.returned (.string (bytesOf (decL n)))∧w'=w:=by
 have RD:=Lib.hid (fun w=>rdigits_any n hn w)
 have k1:IntKind.u64.wrap (n:Int)=(n:Int):=by rw [IntKind.wrap_u64];omega
 have D:decide ((n:Int)<0)=false:=by rw [decide_eq_false_iff_not];omega
 go_enter Tryd.func5,Tryd.ntmps5
 go_wp2_with fail
 refine (RD.out _).mono ?_
 rintro e w' ⟨rfl,hww⟩
 subst w'
 go_wp2
 go_ret
 exact ⟨rfl,rfl⟩
def valL (l:List UInt8):Nat:=l.foldl (fun n c=>10 * n+(c.toNat - 48)) 0
theorem dec_facts:((List.range 2011).all fun n=>decide (valL (decL n)=n) && decide ((decL n).length≤4) && decide (0<(decL n).length) && (decL n).all digitC)=true:=by decide +kernel
theorem dec_val {n:Nat} (h:n<2011):valL (decL n)=n:=by
 have:=List.all_eq_true.1 dec_facts n (List.mem_range.2 h)
 simp only [Bool.and_eq_true,decide_eq_true_eq] at this
 exact this.1.1.1
theorem dec_len {n:Nat} (h:n<2011):(decL n).length≤4∧0<(decL n).length:=by
 have:=List.all_eq_true.1 dec_facts n (List.mem_range.2 h)
 simp only [Bool.and_eq_true,decide_eq_true_eq] at this
 exact ⟨this.1.1.2,this.1.2⟩
theorem dec_digits {n:Nat} (h:n<2011):(decL n).all digitC=true:=by
 have:=List.all_eq_true.1 dec_facts n (List.mem_range.2 h)
 simp only [Bool.and_eq_true] at this
 exact this.2
end Go.Proofs.YtdfenhjibnfdeaaDoor

namespace Go.Proofs.YtdfenhjibnfdeaaDoor
open Go.RowKit Go.Shelf
def preM (long:Bool):ByteArray:=if long then ⟨#[114,95,50,51,52,53,54,55,56,57,48,49,50,51,52,53,54,55,56,57]⟩ else ⟨#[114]⟩
def refM (long:Bool) (i:Nat):ByteArray:=preM long++bytesOf (decL i)
def szM (long:Bool):Nat→Nat
 |0=>0
 |i+1=>szM long i+(refM long i).size+(if 0<i then 1 else 0)
theorem bytes_size (l:List UInt8):(bytesOf l).size=l.length:=rfl
theorem refM_size {long:Bool} {i:Nat} (h:i<2011):(refM long i).size≤24∧0<(refM long i).size:=by
 have:=dec_len h
 have e:(refM long i).size=(preM long).size+(decL i).length:=by rw [refM,ByteArray.size_append,bytes_size]
 rw [e]
 have hp:(preM long).size≤20:=by cases long<;>decide
 omega
theorem szM_le (long:Bool):∀k,k≤2011→szM long k≤25 * k
 |0,_=>Nat.le_refl _
 |k+1,h=>by
  have h1:=szM_le long k (by omega)
  have h2:=(refM_size (long:=long) (show k<2011 by omega)).1
  rw [szM]
  split<;>omega
theorem range_snoc (f:Nat→ByteArray) (k:Nat):((List.range (k+1)).map f).map Value.string=((List.range k).map f).map Value.string++[.string (f k)]:=by rw [List.range_succ,List.map_append,List.map_append];rfl
theorem ref_list (long:Bool) (i:Nat):(refM long i).data.toList=(preM long).data.toList++decL i:=by
 rw [refM,ByteArray.data_append,Array.toList_append];rfl
theorem digits_word:∀l:List UInt8,l.all digitC=true→l.all wordC=true
 |[],_=>rfl
 |c :: r,h=>by
  simp only [List.all_cons,Bool.and_eq_true] at h ⊢
  refine ⟨?_,digits_word r h.2⟩
  rw [wordC,h.1];simp
theorem ref_name {long:Bool} {i:Nat} (h:i<2011):nameB (refM long i)=true:=by
 have h1:=refM_size (long:=long) h
 have e:(refM long i).data.toList.length=(refM long i).size:=Array.length_toList
 rw [nameB,nameL,e]
 have h2:preOK (refM long i).data.toList=true:=by
  rw [ref_list]
  have hw:=digits_word _ (dec_digits h)
  cases long
  ·show (letterC 114 && (decL i).all wordC)=true
   rw [hw];decide
  ·show (letterC 114 && (([95,50,51,52,53,54,55,56,57,48,49,50,51,52,53,54,55,56,57]:List UInt8)++decL i).all wordC)=true
   rw [List.all_append,hw];decide
 rw [h2,decide_eq_true h1.2,decide_eq_true h1.1];rfl
theorem ref_inj {long:Bool} {i j:Nat} (hi:i<2011) (hj:j<2011) (h:refM long i=refM long j):i=j:=by
 have h1:(refM long i).data.toList=(refM long j).data.toList:=by rw [h]
 rw [ref_list,ref_list] at h1
 have h2:=List.append_cancel_left h1
 rw [←dec_val hi,h2,dec_val hj]
theorem refs_from (long:Bool) (K:Int):∀k m,m+k≤2011→refsFrom K ((List.range m).map (refM long)) ((List.range' m k).map (refM long))=true
 |0,_,_=>rfl
 |k+1,m,h=>by
  have ih:=refs_from long K k (m+1) (by omega)
  have hn:∀s∈(List.range m).map (refM long),s≠refM long m:=fun s hs e=>by
   obtain ⟨i,hi,rfl⟩:=List.mem_map.1 hs
   have:=List.mem_range.1 hi
   have:=ref_inj (by omega) (by omega) e
   omega
  have e1:decide (((List.range m).map (refM long)).getLast?=some (refM long m))=false:=decide_eq_false fun e=>hn _ (List.mem_of_getLast? e) rfl
  have e2:((List.range m).map (refM long)).any (fun p=>decide (p=refM long m))=false:=by
   rw [List.any_eq_false]
   intro s hs
   rw [decide_eq_true_eq];exact hn s hs
  have e3:(List.range m).map (refM long)++[refM long m]=(List.range (m+1)).map (refM long):=by rw [List.range_succ,List.map_append];rfl
  rw [List.range'_succ,List.map_cons,refsFrom,e1,e2,e3,ih,ref_name (by omega)]
  simp
theorem refs_ok (long:Bool) (K:Int) (n:Nat) (h:n<2011):refsFrom K [] ((List.range n).map (refM long))=true:=by
 have:=refs_from long K n 0 (by omega)
 rwa [←List.range_eq_range'] at this
theorem joinS_len:∀l:List ByteArray,(Lib.join (l.map (·.data.toList)) (⟨#[32]⟩:ByteArray).data.toList).length=(l.map (·.size)).sum+(l.length - 1)
 |[]=>rfl
 |[a]=>by
  have e:a.data.size=a.size:=rfl
  simp [Lib.join,e]
 |a :: b :: r=>by
  have ih:=joinS_len (b :: r)
  have e:a.data.size=a.size:=rfl
  simp only [Lib.join,List.map_cons,List.intercalate_cons_cons,List.length_append,List.length_cons,Array.length_toList,List.sum_cons,List.length_nil] at ih ⊢
  omega
theorem szM_sum (long:Bool):∀n,szM long n=(((List.range n).map (refM long)).map (·.size)).sum+(n - 1)
 |0=>rfl
 |n+1=>by
  rw [szM,szM_sum long n,List.range_succ,List.map_append,List.map_append,List.sum_append]
  simp only [List.map_cons,List.map_nil,List.sum_cons,List.sum_nil]
  split<;>omega
theorem lstM_len (s:ByteArray):(lstB s).length=s.size:=by rw [lstB,Array.length_toList];rfl
theorem putM_len (l:List UInt8) (s:ByteArray) (h:l.length≠0):(putL l s).length=l.length+1+(lstB s).length:=by
 rw [putL,if_neg h,List.length_append,List.length_append];rfl
theorem many_len (long:Bool) (n:Nat) (K:Int) (base:Nat) (h:(K,base)∈[((2:Int),8),(3,9),(4,10),(5,9)]) :
  (textL ⟨⟨#[120]⟩,K,0,0,(List.range n).map (refM long),[]⟩).length=szM long n+base:=by
 have hj:=joinS_len ((List.range n).map (refM long))
 rw [List.length_map,List.length_range,←szM_sum] at hj
 have hb:(refsB ((List.range n).map (refM long))).data.toList.length=szM long n+2:=by
  rw [refsB,ByteArray.data_append,ByteArray.data_append,Array.toList_append,Array.toList_append,List.length_append,List.length_append]
  rw [hj];simp;omega
 simp only [List.mem_cons,Prod.mk.injEq,List.not_mem_nil,or_false] at h
 have hb2:(refsB ((List.range n).map (refM long))).size=szM long n+2:=by rw [←hb,Array.length_toList];rfl
 have hq:∀l:List UInt8,l.length≠0→(putL l (refsB ((List.range n).map (refM long)))).length=l.length+1+(szM long n+2):=fun l hl=>by rw [putM_len l _ hl,lstM_len,hb2]
 obtain ⟨rfl,rfl⟩ | ⟨rfl,rfl⟩ | ⟨rfl,rfl⟩ | ⟨rfl,rfl⟩:=h
 ·exact (hq (putL (putL [] (wordK 2)) ⟨#[120]⟩) (by decide)).trans (show 5+1+(szM long n+2)=_ by omega)
 ·exact (hq (putL (putL [] (wordK 3)) ⟨#[120]⟩) (by decide)).trans (show 6+1+(szM long n+2)=_ by omega)
 ·exact (hq (putL (putL [] (wordK 4)) ⟨#[120]⟩) (by decide)).trans (show 7+1+(szM long n+2)=_ by omega)
 ·exact (hq (putL (putL [] (wordK 5)) ⟨#[120]⟩) (by decide)).trans (show 6+1+(szM long n+2)=_ by omega)
theorem many_ok (long:Bool) (n:Nat) (hn:n<2011) (K:Int) (least:Nat) (h:(K,least)∈[((2:Int),2),(3,3),(4,1)]) :
  objOK ⟨⟨#[120]⟩,K,0,0,(List.range n).map (refM long),[]⟩=decide (least≤n∧n≤2000):=by
 have hr:=refs_ok long K n hn
 simp only [List.mem_cons,Prod.mk.injEq,List.not_mem_nil,or_false] at h
 obtain ⟨rfl,rfl⟩ | ⟨rfl,rfl⟩ | ⟨rfl,rfl⟩:=h
 all_goals
  simp only [objOK,hr,List.length_map,List.length_range]
  rw [show nameB ⟨#[120]⟩=true by decide,show tagsOK []=true by decide]
  simp [leastK]
  rw [Bool.eq_iff_iff]
  simp
  omega
theorem many_turn (long:Bool) (n:Nat) (hn:n<2011) :
  objOK ⟨⟨#[120]⟩,5,0,0,(List.range n).map (refM long),[]⟩=decide (n=3):=by
 have hr:=refs_ok long 5 n hn
 simp only [objOK,hr,List.length_map,List.length_range]
 rw [show nameB ⟨#[120]⟩=true by decide,show tagsOK []=true by decide]
 simp [leastK]
 omega
end Go.Proofs.YtdfenhjibnfdeaaDoor
