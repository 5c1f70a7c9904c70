/-   -/
import Derived.Test.YtibpaaajghbkoaaGreatWAn
import Derived.Test.YtibpaaajghbkoaaGreatWAq
import Derived.Test.YtibpaaajghbkoaaGreatWAr
import Derived.RangeFuncBox
import Derived.Test.YtibpaaajghbkoaaGreatWAo
import Derived.RangeFuncOwn
namespace Go.Proofs.YtibpaaajghbkoaaGreat
open Go.RowKit Go.Sort
theorem zfh {x y:ByteArray} (h:¬x=y):(x.toList==y.toList)=false:=by rw [ByteArray.toList_eq,ByteArray.toList_eq];exact beq_false_of_ne (fun e=>h (ByteArray.ext (Array.toList_inj.mp e)))
theorem zafa (x y:ByteArray):(x.toList==y.toList)=decide (x=y):=by
 by_cases h:x=y
 ·subst h;simp
 ·rw [zfh h,decide_eq_false h]
def encS (s:ByteArray):List Value:=[.string s]
theorem zpn (s:ByteArray):(encS s).length=1:=rfl
theorem zaby (l:List ByteArray):l.flatMap encS=l.map Value.string:=by
 induction l with
 |nil=>rfl
 |cons a l ih=>rw [List.flatMap_cons,ih];rfl
theorem zaj.rowE {w:World} {v:Value} {l:List ByteArray} (h:zaj w v l):RowE encS 1 w v l:=by
 obtain ⟨a,cap,rfl,_,_,hc⟩:=h;refine ⟨a,cap,rfl,fun hp=>?_⟩;obtain ⟨b,off,ha,hcell⟩:=hc hp;refine ⟨b,off,ha,fun j x hx i u hu=>?_⟩;have hi:=(List.getElem?_eq_some_iff.1 hu).1;rw [zpn] at hi;obtain rfl:i=0:=by omega
 injection hu with hu;subst hu;rw [Nat.mul_one];exact hcell j x hx
theorem zaoa (w:World):(zeroValue 9).run Tryz.prog w=.ok (.string ⟨#[]⟩) w:=by kernel_rfl
theorem zais (v:Value) (ids:List ByteArray) (x:ByteArray) (w:World) (h:zaj w v ids) (hl:ids.length≤2000000000) :
  Calls Tryz.prog 83 #[v,.string x] w fun e w'=>e=.returned (.int .i64 (if x∈ids then (idxR x ids:Int) else -1))∧w'=w:=by
 obtain ⟨a,cap,rfl,_,_,hc⟩:=h;obtain ⟨N,hN⟩:∃N,ids.length=N:=⟨_,rfl⟩;rw [hN] at hl hc ⊢;have HN:=zH hN;have HC:=zH hc;obtain ⟨res,hres⟩:∃z,(if x∈ids then (idxR x ids:Int) else -1)=z:=⟨_,rfl⟩;rw [hres];have HR:=zH hres;clear hN hc hres;go_enter Tryz.func83,Tryz.ntmps83;go_wp2;go_loopw [8] (fun i wr=>∃k:Nat,k≤N∧i=.int .i64 k∧Hid (x ∉ ids.take k)∧wr=w) (fun i _=>N - (intOf i).toNat);case atStart=>exact ⟨0,by omega,rfl,zH (by simp),rfl⟩
 case round =>
  obtain ⟨k,hk,rfl,hT,rfl⟩:=hrel;by_cases hlt:k<N
  ·obtain ⟨s,hs⟩:∃s,ids[k]?=some s:=⟨ids[k]'(by rw [HN.out];exact hlt),List.getElem?_eq_getElem _⟩;obtain ⟨b,off,ha,hcell⟩:=HC.out (by omega);subst ha;have c0:=hcell k s hs;have HS:=zH hs;clear hcell hs;by_cases hx:x=s
   ·subst hx;have HE:=zH (show res=(k:Int) by
     obtain ⟨hk',e⟩:=List.getElem?_eq_some_iff.1 HS.out
     have hm:x∈ids:=zM HS.out
     rw [←HR.out,if_pos hm]
     congr 1
     unfold idxR
     rw [List.findIdx_eq hk']
     refine ⟨by simp [e],fun j hj=>?_⟩
     rw [decide_eq_false_iff_not]
     intro c
     exact hT.out (c ▸ List.mem_take_iff_getElem.2 ⟨j,by omega,rfl⟩))
    go_wp2;go_ret;exact ⟨by rw [HE.out]<;>rfl,rfl⟩
   ·have HG:Hid (x ∉ ids.take (k+1)):=zH (by
     obtain ⟨hk',e⟩:=List.getElem?_eq_some_iff.1 HS.out
     rw [List.take_succ_eq_append_getElem hk',e,List.mem_append]
     rintro (c | c)
     ·exact hT.out c
     ·exact hx (List.mem_singleton.1 c))
    have hxx:=zfh hx;go_wp2;go_roundw;case rel=>exact ⟨k+1,by omega,by go_num,HG,trivial⟩
    case measure=>simp [intOf];omega
  ·obtain rfl:k=N:=(by omega);have HE:=zH (show res=-1 by
    rw [←HR.out,if_neg]
    have:=hT.out
    rwa [List.take_of_length_le (by rw [HN.out];exact Nat.le_refl _)] at this)
   go_wp2;go_ret;exact ⟨by rw [HE.out]<;>rfl,rfl⟩
set_option maxHeartbeats 1000000 in
theorem zaex (v:Value) (l:List ByteArray) (w:World) (hl:l.length≤100000) (hv:zaj w v l) :
  Calls Tryz.prog 116 #[v] w fun e w'=>∃v',e=.returned v'∧w'.ownsRow w.heap.size 9 1 v' l.length (l.flatMap encS)∧Below w.heap.size w w':=by
 obtain ⟨i0,hi,hi0,hi1,hi2⟩:=info_parts zkv;have q22:∀(w:World) (a:Option Addr) (n c n' c':Nat),(binOp .eql 31 (.slice a n c) (.slice none n' c')).run Tryz.prog w=.ok (.bool a.isNone) w:=fun w a n c n' c'=>Lib.run_eql_slice_nil w _ _ a n c n' c' Tryz.underlying31;have HS:=zH (fun (a:Option Addr) (c:Nat) (W:World) (h:RowE encS 1 W (.slice a l.length c) l)=>zaol zpn (by omega) h);have HR:=zH hv.rowE;obtain ⟨a,cap,rfl,_,_,hc⟩:=hv;cases a with
 |none =>
  have h0:l.length=0:=by
   rcases Nat.eq_zero_or_pos l.length with h | h
   ·exact h
   ·obtain ⟨b,off,h1,_⟩:=hc h;cases h1
  have hl0:l=[]:=List.length_eq_zero_iff.1 h0;subst hl0;clear hc HR HS;go_enter Tryz.func116,Tryz.ntmps116;go_wp2;go_ret;exact ⟨_,rfl,⟨rfl,Or.inl ⟨rfl,rfl⟩⟩,Below.refl _ _⟩
 |some ad =>
  have HLN:=zH (zbs encS 1 zpn l);have H1:=zH (show ∀u∈l.flatMap encS,u.oneCell'=true from fun u hu=>by
   rw [zaby] at hu
   obtain ⟨s,_,rfl⟩:=List.mem_map.1 hu
   rfl)
  have BA:Below w.heap.size w (w.alloc (.cells #[] 9)):=(Below.refl _ _).alloc zR _;have S5:=zH (HS.out _ _ _ (HR.out.later BA));clear hc HS HR;generalize l.flatMap encS=news at S5 HLN H1 ⊢;generalize l.length=n at hl S5 HLN ⊢;go_enter Tryz.func116,Tryz.ntmps116;go_wp2_with (at_builtin;refine zev rfl _ _ 31 rfl w.heap.size 9 i0 (.string ⟨#[]⟩) 1 16 Tryz.underlying31 hi hi0 hi1 hi2 rfl (by decide) _ _ _ rfl (World.ownsRow_made w #[] 0 zR (Nat.zero_le _) rfl) _ _ S5.out HLN.out H1.out (by unfold maxLen;omega) (by omega) BA.size ?_;intro v' w2 hown hgrow hbel);go_ret;exact ⟨v',rfl,by simpa using hown,BA.trans hbel⟩
theorem zwx (r id:ByteArray) (Ba:Nat) (w:World) (ha:w.cell? ⟨Ba,0,none⟩=some (.string id)) :
  Calls Tryz.prog 117 #[.string r,.pointer (some ⟨Ba,0,none⟩)] w fun e w'=>e=.returned (.bool (decide (r=id)))∧w'=w:=by
 have hb:=zafa r id;have az:=zag ha;go_enter Tryz.func117,Tryz.ntmps117;go_wp2;go_ret;exact ⟨rfl,rfl⟩
def IdxS (A:List ByteArray) (id:ByteArray) (w:World) (e:Ending) (w':World):Prop :=
 (∃n:Int,e=.returned (.int .i64 n)∧((n=-1∧id ∉ A)∨∃i:Nat,n=(i:Int)∧A[i]?=some id∧id ∉ A.take i))∧w'=w
set_option maxRecDepth 100000 in
set_option maxHeartbeats 2000000 in
theorem zamg (v:Value) (A:List ByteArray) (id:ByteArray) (Ba:Nat) (w:World) (hv:RowE encS 1 w v A) (hl:A.length≤100000) (hs:w.cell? ⟨Ba,0,none⟩=some (.string id)) :
  Calls Tryz.prog 166 #[v,.func (.func 117) #[] #[.pointer (some ⟨Ba,0,none⟩)]] w (IdxS A id w):=by
 have FR:=zH (fun r=>zwx r id Ba w hs);obtain ⟨a,cap,rfl,hc⟩:=hv;obtain ⟨N,hN⟩:∃N,A.length=N:=⟨_,rfl⟩;rw [hN] at hc hl ⊢;have HN:=zH hN;have HC:=zH hc;clear hN hc hs;go_enter Tryz.func166,Tryz.ntmps166;go_wp2;go_loopw [8] (fun i wr=>∃k:Nat,k≤N∧i=.int .i64 k∧Hid (id ∉ A.take k)∧wr=w) (fun i _=>N - (intOf i).toNat);case atStart=>exact ⟨0,by omega,rfl,zH (by simp),rfl⟩
 case round =>
  obtain ⟨k,hk,rfl,HT,rfl⟩:=hrel;by_cases hlt:k<N
  ·obtain ⟨x,hx⟩:∃x,A[k]?=some x:=⟨A[k]'(by rw [HN.out];exact hlt),List.getElem?_eq_getElem _⟩;obtain ⟨b,off,ha,hcell⟩:=HC.out (by omega);subst ha;have d0:=hcell k x hx 0 _ rfl;simp only [Nat.mul_one,Nat.add_zero] at d0;have HX:=zH hx;have F1:=zH (FR.out x);have bz:=zag d0;clear hcell hx;go_wp2_with fail;refine F1.out.mono ?_;rintro e w2 ⟨rfl,rfl⟩;by_cases he:x=id
   ·subst he;have HE:=zH (show IdxS A x w2 (.returned (.int .i64 k)) w2 from ⟨⟨_,rfl,Or.inr ⟨k,rfl,HX.out,HT.out⟩⟩,rfl⟩);have hd:decide (x=x)=true:=decide_eq_true rfl;go_wp2;go_ret;exact HE.out
   ·have HG:=zH (show id ∉ A.take (k+1) by
     obtain ⟨hk',e⟩:=List.getElem?_eq_some_iff.1 HX.out
     rw [List.take_succ_eq_append_getElem hk',e,List.mem_append]
     rintro (h | h)
     ·exact HT.out h
     ·exact he (List.mem_singleton.1 h).symm)
    have hd:decide (x=id)=false:=decide_eq_false he;go_wp2;go_roundw;case rel=>exact ⟨k+1,by omega,by go_num,HG,trivial⟩
    case measure=>simp [intOf];omega
  ·obtain rfl:k=N:=(by omega);have HE:=zH (show IdxS A id wr (.returned (.int .i64 (-1))) wr from ⟨⟨_,rfl,Or.inl ⟨rfl,by
    have:=HT.out
    rw [List.take_of_length_le (by rw [HN.out];exact Nat.le_refl _)] at this
    exact this⟩⟩,rfl⟩)
   go_wp2;go_ret;exact HE.out
def zfa (X:Array Value) (l:List ByteArray) (from':Nat):Prop:=∀(a:Nat) (x:ByteArray),from'≤a→l[a]?=some x→X[a]?=some (.string x)
theorem zfa.flat {X:Array Value} {l:List ByteArray} (h:zfa X l 0):X.toList.take l.length=l.map Value.string:=by
 apply List.ext_getElem?;intro i;rw [List.getElem?_take,List.getElem?_map];by_cases hi:i<l.length
 ·rw [if_pos hi,Array.getElem?_toList,h i l[i] (Nat.zero_le _) (List.getElem?_eq_getElem hi),List.getElem?_eq_getElem hi];rfl
 ·rw [if_neg hi,List.getElem?_eq_none (by omega)];rfl
theorem zfa.of_flat {X:Array Value} {l:List ByteArray} (h:X.toList.take l.length=l.map Value.string):zfa X l 0:=by
 intro a x _ hx;have ha:=(List.getElem?_eq_some_iff.1 hx).1;have h1:(l.map Value.string)[a]?=some (.string x):=by rw [List.getElem?_map,hx];rfl
 rwa [←h,List.getElem?_take,if_pos ha,Array.getElem?_toList] at h1
theorem zfa.mono {X:Array Value} {l:List ByteArray} {i j:Nat} (h:zfa X l i) (hij:i≤j):zfa X l j:=fun a x ha=>h a x (Nat.le_trans hij ha)
theorem zfa.set_after {X:Array Value} {l:List ByteArray} {i j:Nat} {v:Value} (h:zfa X l j) (hij:i<j):zfa (X.setIfInBounds i v) l j:=by intro a y ha hy;rw [Array.getElem?_setIfInBounds_ne (by omega)];exact h a y ha hy
theorem zfa.set_snoc {X:Array Value} {l:List ByteArray} {x:ByteArray} (h:zfa X l 0) (hs:l.length<X.size):zfa (X.setIfInBounds l.length (.string x)) (l++[x]) 0:=by
 intro a y ha hy;by_cases hal:a<l.length
 ·rw [Array.getElem?_setIfInBounds_ne (by omega)];rw [List.getElem?_append_left hal] at hy;exact h a y ha hy
 ·rw [List.getElem?_append_right (by omega)] at hy;have e:a=l.length:=by have:=(List.getElem?_eq_some_iff.1 hy).1;simp at this;omega
  subst e;simp at hy;subst hy;rw [Array.getElem?_setIfInBounds_self_of_lt hs]
def DelS (A:List ByteArray) (id:ByteArray) (base:Nat) (v:Value) (w:World) (e:Ending) (w':World):Prop :=
 ∃v',e=.returned v'∧w'.ownsRow base 9 1 v' (zbq id A).length ((zbq id A).map Value.string)∧w.grownBy w' v.ownBlock∧v'.ownBlock=v.ownBlock
theorem zwg {A:List ByteArray} {id:ByteArray} {j:Nat} {x:ByteArray} (hx:A[j]?=some x):zbq id (A.take (j+1))=zbq id (A.take j)++if x=id then [] else [x]:=by obtain ⟨hk,e⟩:=List.getElem?_eq_some_iff.1 hx;unfold zbq;rw [List.take_succ_eq_append_getElem hk,e,List.filter_append];by_cases h:x=id<;>simp [h]
set_option maxRecDepth 100000 in
set_option maxHeartbeats 4000000 in
theorem zamt (v:Value) (A:List ByteArray) (id:ByteArray) (Ba base:Nat) (w:World) (hv:w.ownsRow base 9 1 v A.length (A.flatMap encS)) (hl:A.length≤100000) (hs:w.heap[Ba]?=some (.cells #[.string id] 9)) (hne:v.ownBlock≠some Ba) :
  Calls Tryz.prog 115 #[v,.func (.func 117) #[] #[.pointer (some ⟨Ba,0,none⟩)]] w (DelS A id base v w):=by
 have IX:=zH (zamg v A id Ba w (RowE.of_own zpn rfl hv) hl (by rw [cell_of_row w _ 0 _ _ _ hs];rfl));have FR:=zH (fun x W (hb:W.heap[Ba]?=some (.cells #[.string id] 9))=>zwx x id Ba W (by rw [cell_of_row W _ 0 _ _ _ hb];rfl));rw [zaby] at hv;have HV:=zH hv;obtain ⟨a,n0,cap,hva⟩:∃a n0 cap,v=.slice a n0 cap:=⟨_,_,_,zcy hv⟩;subst hva;go_enter Tryz.func115,Tryz.ntmps115;go_wp2_with fail;refine IX.out.mono ?_;rintro e w2 ⟨⟨n,rfl,hn⟩,rfl⟩;clear IX;rcases hn with ⟨rfl,hall⟩ | ⟨i0,rfl,hx0,hbef⟩
 ·have HE:=zH (show DelS A id base (.slice a n0 cap) w2 (.returned (.slice a n0 cap)) w2 from ⟨_,rfl,by rw [zgt hall];exact HV.out,World.grownBy.refl _ _,rfl⟩);clear hall hv hs;go_wp2;go_ret;exact HE.out
 ·rcases HV.out.2 with ⟨h1,h2⟩ | ⟨g,cap',cur,h1,hb0,hc,hn1,hcm,hsz,hfl⟩
  ·have:=(List.getElem?_eq_some_iff.1 hx0).1;omega
  injection h1 with e1 e2 e3;subst e1 e2 e3;obtain ⟨N,hN⟩:∃N,A.length=N:=⟨_,rfl⟩;have hi0:i0<N:=by rw [←hN];exact (List.getElem?_eq_some_iff.1 hx0).1
  have hgB:g≠Ba:=fun e=>hne (by simp [Value.ownBlock,e]);rw [Nat.mul_one] at hfl hsz;have HA0:=zfa.of_flat hfl;have h0:zbq id (A.take (i0+1))=A.take i0:=by rw [zwg hx0,zgt hbef];simp
  have HS0:=zH (show i0=(zbq id (A.take (i0+1))).length∧zfa cur (zbq id (A.take (i0+1))) 0∧zfa cur A (i0+1) from ⟨by rw [h0,List.length_take];omega,by
   rw [h0]
   exact fun a x ha hx=>HA0 a x ha (by rw [List.getElem?_take] at hx;split at hx;exact hx;cases hx),HA0.mono (Nat.zero_le _)⟩)
  have HC2:=zH hc;have HBa:=zH hs;have HFL:=zH (And.intro hb0 (And.intro hn1 (And.intro hcm hsz)));have HNN:=zH hN;rw [hN] at hl hn1 ⊢;have hm1:((i0:Int)==-1)=false:=by rw [beq_eq_false_iff_ne];omega
  clear hN hfl HA0 h0 hx0 hbef hc hs hv HV;go_wp2_with fail;go_loopw [5,6] (fun v5 v6 wr=>∃(i j:Nat) (X:Array Value),v5=.int .i64 i∧v6=.int .i64 j∧i<j∧j≤N∧wr.heap[g]?=some (.cells X 9 (0,0))∧X.size=cap∧(i=(zbq id (A.take j)).length∧zfa X (zbq id (A.take j)) 0∧zfa X A j)∧w2.grownBy wr (some g)) (fun _ v6 _=>N - (intOf v6).toNat);case atStart=>exact ⟨i0,i0+1,cur,rfl,by go_num,by omega,by omega,HC2.out,HFL.out.2.2.2,HS0.out,World.grownBy.refl _ _⟩
  case round =>
   obtain ⟨i,j,X,rfl,rfl,hij,hjN,hX,hXs,hst,hgr⟩:=hrel;have HXg:=zH hX;have HST:=zH hst;have HGR:=zH hgr;have hzr:=hgr.size;have HBr:=zH (zak hgr HBa.out (fun e=>hgB (by injection e with e;exact e.symm)));have hcap:N≤cap:=(by have:=HFL.out.2.1;rw [HNN.out] at this;exact this);clear hX hst hgr;by_cases hlt:j<N
   ·obtain ⟨x,hx⟩:∃x,A[j]?=some x:=⟨A[j]'(by rw [HNN.out];exact hlt),List.getElem?_eq_getElem _⟩;have x0:=cell_of_row wr _ j _ _ _ HXg.out;rw [show X[j]?=some (.string x) from HST.out.2.2 j x zR hx] at x0;obtain ⟨u0,hu0⟩:∃u,X[i]?=some u:=⟨_,Array.getElem?_eq_getElem (by omega)⟩;have s0:=(cell_of_row wr _ i _ _ _ HXg.out).trans hu0;have f0:=frozen_of_row wr _ i _ _ HXg.out;have gz:=zaf HXg.out;have F1:=zH (FR.out x wr HBr.out);have HFS:=zH (zwg (id:=id) hx);clear hx hu0;go_wp2_with fail;refine F1.out.mono ?_;rintro e w5 ⟨rfl,rfl⟩;by_cases he:x=id
    ·have HF2:=zH (show zbq id (A.take (j+1))=zbq id (A.take j) by rw [HFS.out,if_pos he];simp);have HS2:=zH (show i=(zbq id (A.take (j+1))).length∧zfa X (zbq id (A.take (j+1))) 0∧zfa X A (j+1) from by rw [HF2.out];exact ⟨HST.out.1,HST.out.2.1,HST.out.2.2.mono (Nat.le_succ _)⟩)
     have hd:decide (x=id)=true:=decide_eq_true he;clear he;go_wp2;go_roundw;case rel=>exact ⟨i,j+1,X,rfl,by go_num,by omega,by omega,HXg.out,hXs,HS2.out,HGR.out⟩
     case measure=>simp [intOf];omega
    ·have HF2:=zH (show zbq id (A.take (j+1))=zbq id (A.take j)++[x] by rw [HFS.out,if_neg he]);have hd:decide (x=id)=false:=decide_eq_false he;clear he;go_wp2_with fail;have HX6:=zH (heap_setCell_same w5 g i X 9 (.string x) HXg.out);have G6:=zH (HGR.out.trans (zal (g:=g) [.string x] i w5));have hsx:i<X.size:=(by omega);have HS2:=zH (show i+1=(zbq id (A.take (j+1))).length∧zfa (X.setIfInBounds i (.string x)) (zbq id (A.take (j+1))) 0∧zfa (X.setIfInBounds i (.string x)) A (j+1) from by
      rw [HF2.out,List.length_append,←HST.out.1]
      refine ⟨rfl,?_,(HST.out.2.2.set_after hij).mono (Nat.le_succ _)⟩
      have h:=HST.out.2.1.set_snoc (x:=x) (by rw [←HST.out.1];exact hsx)
      rw [←HST.out.1] at h
      exact h)
     have hsz2:(X.setIfInBounds i (.string x)).size=cap:=(by rw [Array.size_setIfInBounds];exact hXs);go_roundw;case rel =>
      exact ⟨i+1,j+1,X.setIfInBounds i (.string x),by go_num,by go_num,by omega,by omega,HX6.out,hsz2,HS2.out,G6.out⟩
     case measure=>simp [intOf];omega
   ·obtain rfl:j=N:=(by omega);have hcl:=fun ty=>zvk (P:=Tryz.prog) (ty:=ty) (c:=cap - i) (n:=j - i) (o:=i) Tryz.underlying31 (zaoa wr) HXg.out (by show _+_ * 1≤_;omega) (by omega) (by
     intro v hv
     simp only [Builtin.zeroCells,Value.cells,Array.toList_map,List.mem_map] at hv
     obtain ⟨q,_,rfl⟩:=hv
     have:q % 1=0:=Nat.mod_one q
     first | rfl | simp [this,Value.oneCell'])
    obtain ⟨Y,hY⟩:∃Y,Y=(X.toList.take i++(Builtin.zeroCells (Value.string ⟨#[]⟩).cells (j - i)).toList++X.toList.drop (i+(j - i) * (Value.string ⟨#[]⟩).cells.size)).toArray:=⟨_,rfl⟩;rw [←hY] at hcl;have hYs:Y.size=cap:=by rw [hY,List.size_toArray,List.length_append,List.length_append,zgq,List.length_take,List.length_drop];show min i _+(j - i) * 1+(_ - (i+(j - i) * 1))=_;rw [Array.length_toList];omega
    have hYt:Y.toList.take i=(zbq id (A.take j)).map Value.string:=by have h2:=HST.out.2.1.flat;rw [←HST.out.1] at h2;rw [hY,List.append_assoc,←h2];have hl9:(X.toList.take i).length=i:=(by rw [List.length_take,Array.length_toList];omega);rw [List.take_append_of_le_length (by omega),List.take_of_length_le (by omega)]
    have hA:A.take j=A:=List.take_of_length_le (by rw [HNN.out];exact Nat.le_refl _);have hi:=HST.out.1;rw [hA] at hYt hi;have hg3:(wr.setRow g Y).heap[g]?=some (.cells Y 9 (0,0)):=setRow_heap wr g X _ _ _ HXg.out;have hgr3:wr.grownBy (wr.setRow g Y) (some g):=⟨rfl,rfl,rfl,by simp,fun k hk hne'=>setRow_other _ _ _ _ (fun e=>hne' (by rw [e]))⟩;have HE:=zH (show DelS A id base (.slice (some ⟨g,0,none⟩) j cap) w2 (.returned (.slice (some ⟨g,0,none⟩) i cap)) (wr.setRow g Y) from ⟨_,rfl,⟨by rw [List.length_map,Nat.mul_one],Or.inr ⟨g,cap,Y,by rw [←hi],HFL.out.1,hg3,by rw [←hi];omega,HFL.out.2.2.1,by rw [Nat.mul_one];exact hYs,by rw [←hi,Nat.mul_one];exact hYt⟩⟩,
     HGR.out.trans hgr3,rfl⟩)
    clear hYs hYt hA hi hg3 hgr3 hY;go_wp2;go_ret;exact HE.out
end Go.Proofs.YtibpaaajghbkoaaGreat

namespace Go.Proofs.YtibpaaajghbkoaaGreat
open Go.RowKit Go.Sort Go.Maps Go.ChangeMaps
def zbg (w:World) (row:Option Nat):Prop:=∀r,row=some r→∃o:Obj,w.heap[r]?=some o∧o.isCells=false
theorem zbj.noCells {κ ν:Type} {P:Program} {t:TypeId} {ek:κ→Value} {ev:ν→Value} {w:World} {b:Nat} {l:List (κ × ν)} (h:zbj P t ek ev w b l):zbg w (some b):=by obtain ⟨es,clock,h1,_⟩:=h;intro r hr;injection hr with hr;subst hr;exact ⟨_,h1,rfl⟩
theorem zaj.grown {w w':World} {v:Value} {l:List ByteArray} {row:Option Nat} (h:zaj w v l) (hg:w.grownBy w' row) (hr:zbg w row):zaj w' v l:=by obtain ⟨a,cap,e,h1,h2,h3⟩:=h;refine ⟨a,cap,e,h1,h2,fun hp=>?_⟩;obtain ⟨b,off,ha,hc⟩:=h3 hp;exact ⟨b,off,ha,fun i s hs=>cell_kept (hc i s hs) hg hr⟩
theorem zba.grown {w w':World} {v:Value} {l:List TagD} {row:Option Nat} (h:zba w v l) (hg:w.grownBy w' row) (hr:zbg w row):zba w' v l:=by obtain ⟨a,cap,e,h1,h2,h3⟩:=h;refine ⟨a,cap,e,h1,h2,fun hp=>?_⟩;obtain ⟨b,off,ha,hc⟩:=h3 hp;exact ⟨b,off,ha,fun i s hs=>⟨cell_kept (hc i s hs).1 hg hr,cell_kept (hc i s hs).2 hg hr⟩⟩
theorem ObOK.grown {w w':World} {x:ObM} {row:Option Nat} (h:ObOK w x) (hg:w.grownBy w' row) (hr:zbg w row):ObOK w' x:=⟨h.1.grown hg hr,h.2.1.grown hg hr,h.2.2⟩
def CapV (v:Value):Prop:=∀a n c,v=.slice a n c→n≤c
def zgh (w:World) (x:ObM):Prop:=ObOK w x∧CapV x.2.1
theorem zgh.later {w w':World} {x:ObM} (h:zgh w x) (hb:Below w.heap.size w w'):zgh w' x:=⟨h.1.later hb,h.2⟩
theorem zgh.grown {w w':World} {x:ObM} {row:Option Nat} (h:zgh w x) (hg:w.grownBy w' row) (hr:zbg w row):zgh w' x:=⟨h.1.grown hg hr,h.2⟩
theorem CapV.own {w:World} {base n size:Nat} {e:TypeId} {v:Value} {xs:List Value} (h:w.ownsRow base e size v n xs):CapV v:=by
 intro a m c hv;rcases h.2 with ⟨rfl,h0⟩ | ⟨g,cap,cur,rfl,_,_,hn,_⟩
 ·injection hv with _ h1 h2;omega
 ·injection hv with _ h1 h2;omega
theorem zaj.drop {w:World} {a:Option Addr} {n cap:Nat} {l:List ByteArray} (h:zaj w (.slice a n cap) l) (hcap:n≤cap) {q:Nat} (hq:q≤n) :
  zaj w (.slice (if cap=q then a else a.map (·.add q)) (n - q) (cap - q)) (l.drop q):=by
 obtain ⟨a',cap',e,h1,h2,h3⟩:=h;injection e with e1 e2 e3;subst e1 e2 e3;refine ⟨_,_,by rw [List.length_drop],by rw [List.length_drop];omega,fun s hs=>h2 s (List.mem_of_mem_drop hs),fun hp=>?_⟩;rw [List.length_drop] at hp;obtain ⟨b,off,ha,hc⟩:=h3 (by omega);rw [if_neg (by omega),ha];refine ⟨b,off+q,by rw [Option.map_some,Addr.add_lit],fun i s hs=>?_⟩;rw [List.getElem?_drop] at hs;rw [Nat.add_assoc];exact hc _ _ hs
abbrev objV (o:ObM):Value:=.agg #[.string o.1.id,.int .i64 o.1.kind,.int .i64 o.1.x,.int .i64 o.1.y,o.2.1,o.2.2]
theorem zafi (w:World):(zeroValue 36).run Tryz.prog w=.ok (.agg #[.string ⟨#[]⟩,.int .i64 0,.int .i64 0,.int .i64 0,.slice none 0 0,.slice none 0 0]) w:=by kernel_rfl
theorem zaqg (w:World):(zeroValue 33).run Tryz.prog w=.ok (.agg #[.int .i64 0,.int .i64 0]) w:=by kernel_rfl
def zcu (w:World) (b:Nat) (f:ByteArray→Option ObjD):Prop :=
 ∃O:List (ByteArray × ObM),zbj Tryz.prog 9 Value.string objV w b O∧(∀id,(aget id O).map (·.1)=f id)∧(∀p∈O,zgh w p.2)∧O.length≤1000000
def zej (w:World) (b:Nat) (f:ByteArray→Option Pt):Prop :=
 ∃N:List (ByteArray × Pt),zbj Tryz.prog 9 Value.string intK w b N∧(∀r,aget r N=f r)∧N.length≤4000000000
def zfi (w:World) (b:Nat) (f:ByteArray→List ByteArray):Prop :=
 ∃R:List (ByteArray × Value),zbj Tryz.prog 9 Value.string (fun v:Value=>v) w b R∧∀r,zaj w ((aget r R).getD (.slice none 0 0)) (f r)
theorem zcu.on {w w':World} {b:Nat} {f:ByteArray→Option ObjD} (h:zcu w b f) (hb:Below w.heap.size w w'):zcu w' b f:=by obtain ⟨O,h1,h2,h3,h4⟩:=h;exact ⟨O,h1.on hb,h2,fun p hp=>(h3 p hp).later hb,h4⟩
theorem zcu.lt {w:World} {b:Nat} {f:ByteArray→Option ObjD} (h:zcu w b f):b<w.heap.size:=by obtain ⟨O,h1,_⟩:=h;exact h1.lt
theorem zcu.noCells {w:World} {b:Nat} {f:ByteArray→Option ObjD} (h:zcu w b f):zbg w (some b):=by obtain ⟨O,h1,_⟩:=h;exact h1.noCells
theorem zcu.grown {w w':World} {b:Nat} {f:ByteArray→Option ObjD} {row:Option Nat} (h:zcu w b f) (hg:w.grownBy w' row) (hr:zbg w row) (hne:some b≠row):zcu w' b f:=by obtain ⟨O,h1,h2,h3,h4⟩:=h;exact ⟨O,h1.kept hg hne,h2,fun p hp=>(h3 p hp).grown hg hr,h4⟩
theorem zcu.congr {w:World} {b:Nat} {f g:ByteArray→Option ObjD} (h:zcu w b f) (e:∀id,f id=g id):zcu w b g:=by obtain ⟨O,h1,h2,h3⟩:=h;exact ⟨O,h1,fun id=>(h2 id).trans (e id),h3⟩
theorem zej.on {w w':World} {b:Nat} {f:ByteArray→Option Pt} (h:zej w b f) (hb:Below w.heap.size w w'):zej w' b f:=by obtain ⟨O,h1,h2⟩:=h;exact ⟨O,h1.on hb,h2⟩
theorem zej.lt {w:World} {b:Nat} {f:ByteArray→Option Pt} (h:zej w b f):b<w.heap.size:=by obtain ⟨O,h1,_⟩:=h;exact h1.lt
theorem zej.noCells {w:World} {b:Nat} {f:ByteArray→Option Pt} (h:zej w b f):zbg w (some b):=by obtain ⟨O,h1,_⟩:=h;exact h1.noCells
theorem zej.grown {w w':World} {b:Nat} {f:ByteArray→Option Pt} {row:Option Nat} (h:zej w b f) (hg:w.grownBy w' row) (hne:some b≠row):zej w' b f:=by obtain ⟨O,h1,h2⟩:=h;exact ⟨O,h1.kept hg hne,h2⟩
theorem zej.congr {w:World} {b:Nat} {f g:ByteArray→Option Pt} (h:zej w b f) (e:∀id,f id=g id):zej w b g:=by obtain ⟨O,h1,h2,h3⟩:=h;exact ⟨O,h1,fun id=>(h2 id).trans (e id),h3⟩
theorem zfi.on {w w':World} {b:Nat} {f:ByteArray→List ByteArray} (h:zfi w b f) (hb:Below w.heap.size w w'):zfi w' b f:=by obtain ⟨O,h1,h2⟩:=h;exact ⟨O,h1.on hb,fun r=>(h2 r).later hb⟩
theorem zfi.lt {w:World} {b:Nat} {f:ByteArray→List ByteArray} (h:zfi w b f):b<w.heap.size:=by obtain ⟨O,h1,_⟩:=h;exact h1.lt
theorem zfi.noCells {w:World} {b:Nat} {f:ByteArray→List ByteArray} (h:zfi w b f):zbg w (some b):=by obtain ⟨O,h1,_⟩:=h;exact h1.noCells
theorem zfi.grown {w w':World} {b:Nat} {f:ByteArray→List ByteArray} {row:Option Nat} (h:zfi w b f) (hg:w.grownBy w' row) (hr:zbg w row) (hne:some b≠row):zfi w' b f:=by obtain ⟨O,h1,h2⟩:=h;exact ⟨O,h1.kept hg hne,fun r=>(h2 r).grown hg hr⟩
theorem zfi.congr {w:World} {b:Nat} {f g:ByteArray→List ByteArray} (h:zfi w b f) (e:∀id,f id=g id):zfi w b g:=by obtain ⟨O,h1,h2⟩:=h;exact ⟨O,h1,fun id=>e id ▸ h2 id⟩
theorem zej.look {w:World} {b:Nat} {f:ByteArray→Option Pt} (h:zej w b f) (id:ByteArray) (hz:id.size≤140737488355328) :
  (Instr.lookup 62 (.map (some b)) (.string id) false).run Tryz.prog w=.ok (intK ((f id).getD (0,0))) w:=by
 obtain ⟨O,h1,h2,_⟩:=h;have:=h1.look keyS zef Tryz.underlying62 (zaqg w) id (zcf hz);rw [this,h2];cases f id<;>rfl
theorem zfi.look {w:World} {b:Nat} {f:ByteArray→List ByteArray} (h:zfi w b f) (id:ByteArray) (hz:id.size≤140737488355328) :
  ∃v,(∀W,Below w.heap.size w W→(Instr.lookup 63 (.map (some b)) (.string id) false).run Tryz.prog W=.ok v W)∧zaj w v (f id):=by
 obtain ⟨O,h1,h2⟩:=h;refine ⟨_,fun W hb=>?_,h2 id⟩;have:=(h1.on hb).look keyS zef Tryz.underlying63 (ziu W) id (zcf hz);rw [this];cases aget id O<;>rfl
theorem zcu.get {w:World} {b:Nat} {f:ByteArray→Option ObjD} (h:zcu w b f) {id:ByteArray} {o:ObjD} (ho:f id=some o):∃vr vt,zgh w (o,vr,vt)∧∃O:List (ByteArray × ObM),zbj Tryz.prog 9 Value.string objV w b O∧aget id O=some (o,vr,vt):=by
 obtain ⟨O,h1,h2,h3,_⟩:=h;have h4:=h2 id;rw [ho] at h4;cases hg:aget id O with
 |none=>rw [hg] at h4;cases h4
 |some x =>rw [hg] at h4;injection h4 with h4;obtain ⟨x1,vr,vt⟩:=x;simp only at h4;subst h4;exact ⟨vr,vt,h3 _ (zdy hg),O,h1,hg⟩
theorem zcu.look {w:World} {b:Nat} {f:ByteArray→Option ObjD} (h:zcu w b f) {id:ByteArray} {o:ObjD} (ho:f id=some o) (hz:id.size≤140737488355328) :
  ∃vr vt,zgh w (o,vr,vt)∧(∀W,Below w.heap.size w W→(Instr.lookup 61 (.map (some b)) (.string id) false).run Tryz.prog W=.ok (objV (o,vr,vt)) W) ∧
   ∀W,Below w.heap.size w W→(Instr.lookup 61 (.map (some b)) (.string id) true).run Tryz.prog W=.ok (.tuple #[objV (o,vr,vt),.bool true]) W:=by
 obtain ⟨vr,vt,h1,O,h2,h3⟩:=h.get ho;refine ⟨vr,vt,h1,fun W hb=>?_,fun W hb=>?_⟩
 ·have:=(h2.on hb).look keyS zef Tryz.underlying61 (zafi W) id (zcf hz);rw [this,h3];rfl
 ·have:=(h2.on hb).lookOk keyS zef Tryz.underlying61 (zafi W) id (zcf hz);rw [this,h3];rfl
theorem zcu.lookNone {w:World} {b:Nat} {f:ByteArray→Option ObjD} (h:zcu w b f) {id:ByteArray} (ho:f id=none) (hz:id.size≤140737488355328) :
  ∀W,Below w.heap.size w W→(Instr.lookup 61 (.map (some b)) (.string id) true).run Tryz.prog W=.ok (.tuple #[.agg #[.string ⟨#[]⟩,.int .i64 0,.int .i64 0,.int .i64 0,.slice none 0 0,.slice none 0 0],.bool false]) W:=by
 obtain ⟨O,h1,h2,_⟩:=h;intro W hb;have:=(h1.on hb).lookOk keyS zef Tryz.underlying61 (zafi W) id (zcf hz);rw [this];have h4:=h2 id;rw [ho] at h4;cases hg:aget id O with
 |none=>rfl
 |some x=>rw [hg] at h4;cases h4
theorem zbj.key {κ ν:Type} {P:Program} {t:TypeId} {ek:κ→Value} {ev:ν→Value} {w:World} {b:Nat} {l:List (κ × ν)} (h:zbj P t ek ev w b l) {p:κ × ν} (hp:p∈l):∃kl,keyOf P t (ek p.1)=some kl:=by obtain ⟨es,clock,h1,h2,h3,h4,h5⟩:=h;exact h5 p hp
theorem zcu.put {w:World} {b:Nat} {f g:ByteArray→Option ObjD} (h:zcu w b f) (id:ByteArray) (hz:id.size≤140737488355328) (x:ObM) (hx:zgh w x) (hroom:∀O:List (ByteArray × ObM),O.length≤1000000→(∀id,(aget id O).map (·.1)=f id)→(aput id x O).length≤1000000) (hg:∀r,g r=if r=id then some x.1 else f r) :
  ∃w',(Instr.mapUpdate 61 (.map (some b)) (.string id) (objV x)).run Tryz.prog w=.ok () w'∧zcu w' b g∧w.grownBy w' (some b):=by
 obtain ⟨O,h1,h2,h3,h4⟩:=h;obtain ⟨w',hr,hm,hgr⟩:=h1.put keyS zef Tryz.underlying61 (by unfold maxLen;omega) id (zcf hz) x;refine ⟨w',hr,⟨_,hm,fun r=>?_,fun p hp=>?_,hroom O h4 h2⟩,hgr⟩
 ·rw [hg];by_cases e:r=id
  ·subst e;rw [zby,if_pos rfl];rfl
  ·rw [zci _ (fun c=>e c.symm),if_neg e];exact h2 r
 ·rcases zim hp with rfl | hp
  ·exact hx.grown hgr h1.noCells
  ·exact (h3 p hp).grown hgr h1.noCells
theorem znq {κ ν:Type} [DecidableEq κ] {k:κ} {v:ν}:∀{l:List (κ × ν)} {u:ν},aget k l=some u→(aput k v l).length=l.length
 |[],u,h=>by cases h
 |q :: l,u,h=>by
  rw [aget] at h;rw [aput];split
  ·rfl
  ·rename_i hne;rw [if_neg hne] at h;simp [znq h]
theorem zej.put {w:World} {b:Nat} {f g:ByteArray→Option Pt} (h:zej w b f) (id:ByteArray) (hz:id.size≤140737488355328) (x:Pt) (hroom:∀O:List (ByteArray × Pt),O.length≤4000000000→(∀id,aget id O=f id)→(aput id x O).length≤4000000000) (hg:∀r,g r=if r=id then some x else f r) :
  ∃w',(Instr.mapUpdate 62 (.map (some b)) (.string id) (intK x)).run Tryz.prog w=.ok () w'∧zej w' b g∧w.grownBy w' (some b):=by
 obtain ⟨O,h1,h2,h4⟩:=h;obtain ⟨w',hr,hm,hgr⟩:=h1.put keyS zef Tryz.underlying62 (by unfold maxLen;omega) id (zcf hz) x;refine ⟨w',hr,⟨_,hm,fun r=>?_,hroom O h4 h2⟩,hgr⟩;rw [hg];by_cases e:r=id
 ·subst e;rw [zby,if_pos rfl]
 ·rw [zci _ (fun c=>e c.symm),if_neg e];exact h2 r
theorem zacj {κ ν:Type} [DecidableEq κ] (k:κ) (l:List (κ × ν)):(adel k l).length≤l.length:=List.length_filter_le _ _
theorem zcu.del {w:World} {b:Nat} {f g:ByteArray→Option ObjD} (h:zcu w b f) (id:ByteArray) (hz:id.size≤140737488355328) (ty:TypeId) (hg:∀r,g r=if r=id then none else f r) :
  ∃w',(Builtin.delete_ #[61,9] ty #[.map (some b),.string id]).run Tryz.prog w=.ok (.tuple #[]) w'∧zcu w' b g∧w.grownBy w' (some b):=by
 obtain ⟨O,h1,h2,h3,h4⟩:=h;obtain ⟨w',hr,hm,hgr,_⟩:=h1.delete keyS zef Tryz.underlying61 (ty:=ty) id (zcf hz);refine ⟨w',hr,⟨_,hm,fun r=>?_,fun p hp=>?_,Nat.le_trans (zacj id O) h4⟩,hgr⟩
 ·rw [hg,zpq];split
  ·rfl
  ·exact h2 r
 ·exact (h3 p (List.mem_filter.1 hp).1).grown hgr h1.noCells
theorem zej.del {w:World} {b:Nat} {f g:ByteArray→Option Pt} (h:zej w b f) (id:ByteArray) (hz:id.size≤140737488355328) (ty:TypeId) (hg:∀r,g r=if r=id then none else f r) :
  ∃w',(Builtin.delete_ #[62,9] ty #[.map (some b),.string id]).run Tryz.prog w=.ok (.tuple #[]) w'∧zej w' b g∧w.grownBy w' (some b):=by
 obtain ⟨O,h1,h2,h4⟩:=h;obtain ⟨w',hr,hm,hgr,_⟩:=h1.delete keyS zef Tryz.underlying62 (ty:=ty) id (zcf hz);refine ⟨w',hr,⟨_,hm,fun r=>?_,Nat.le_trans (zacj id O) h4⟩,hgr⟩;rw [hg,zpq];split
 ·rfl
 ·exact h2 r
theorem zfi.del {w:World} {b:Nat} {f g:ByteArray→List ByteArray} (h:zfi w b f) (id:ByteArray) (hz:id.size≤140737488355328) (ty:TypeId) (hg:∀r,g r=if r=id then [] else f r) :
  ∃w',(Builtin.delete_ #[63,9] ty #[.map (some b),.string id]).run Tryz.prog w=.ok (.tuple #[]) w'∧zfi w' b g∧w.grownBy w' (some b):=by
 obtain ⟨O,h1,h2⟩:=h;obtain ⟨w',hr,hm,hgr,_⟩:=h1.delete keyS zef Tryz.underlying63 (ty:=ty) id (zcf hz);refine ⟨w',hr,⟨_,hm,fun r=>?_⟩,hgr⟩;rw [hg,zpq];split
 ·exact zaj.nil w'
 ·exact (h2 r).grown hgr h1.noCells
def nodF (l:List ObjD) (r:ByteArray):Option Pt:=if r∈zgp l then some (ptO l r) else none
def refF (l:List ObjD) (r:ByteArray):List ByteArray:=(zax l r).map (·.id)
structure zdl (w:World) (bp:Nat) (ord:List ByteArray) (l:List ObjD) (bo bn br:Nat) (vo:Value):Prop where
 row:w.heap[bp]?=some (.cells #[.map (some bo),vo,.map (some bn),.map (some br)] 65)
 ord:zaj w vo ord
 objs:zcu w bo (atO l)
 nods:zej w bn (nodF l)
 refs:zfi w br (refF l)
 ne1:bo≠bn
 ne2:bo≠br
 ne3:bn≠br
theorem zdl.on {w w':World} {bp:Nat} {ord:List ByteArray} {l:List ObjD} {bo bn br:Nat} {vo:Value} (h:zdl w bp ord l bo bn br vo) (hb:Below w.heap.size w w'):zdl w' bp ord l bo bn br vo :=
 ⟨zab hb h.row,h.ord.later hb,h.objs.on hb,h.nods.on hb,h.refs.on hb,h.ne1,h.ne2,h.ne3⟩
theorem zdl.size {w:World} {bp:Nat} {ord:List ByteArray} {l:List ObjD} {bo bn br:Nat} {vo:Value} (h:zdl w bp ord l bo bn br vo) (hok:zas l=true) {o:ObjD} (ho:o∈l):o.id.size≤140737488355328∧∀r∈o.refs,r.size≤140737488355328:=by obtain ⟨vr,vt,h1,_⟩:=h.objs.get (zla hok ho);obtain ⟨a,cap,_,_,hz,_⟩:=h1.1.1;exact ⟨h1.1.2.2,hz⟩
end Go.Proofs.YtibpaaajghbkoaaGreat
