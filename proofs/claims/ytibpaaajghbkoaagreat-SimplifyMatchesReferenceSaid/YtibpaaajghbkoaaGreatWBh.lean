/-  -/
import Derived.Test.YtibpaaajghbkoaaGreatWBf
import Derived.Test.YtibpaaajghbkoaaGreatWAj
import Derived.Test.YtibpaaajghbkoaaGreatWBg
namespace Go.Proofs.YtibpaaajghbkoaaGreat
open Go.RowKit Go.Sort
set_option maxRecDepth 100000 in
set_option maxHeartbeats 2000000 in
theorem zvp (v:Value) (ids:List ByteArray) (x:ByteArray) (w:World) (h:zaj w v ids) :
  Calls Tryz.prog 72 #[v,.string x] w fun e w'=>e=.returned (.bool (decide (x∈ids)))∧w'=w:=by
 obtain ⟨a,cap,rfl,hl,_,hc⟩:=h;obtain ⟨N,hN⟩:∃N,ids.length=N:=⟨_,rfl⟩;rw [hN] at hl hc ⊢;have HN:=zH hN;have HC:=zH hc;obtain ⟨res,hres⟩:∃z,decide (x∈ids)=z:=⟨_,rfl⟩;rw [hres];have HR:=zH hres;clear hN hc hres;go_enter Tryz.func72,Tryz.ntmps72;go_wp2;go_loopw [5] (fun i wr=>∃k:Nat,k≤N∧i=.int .i64 k∧Hid (x ∉ ids.take k)∧wr=w) (fun i _=>N - (intOf i).toNat);case atStart=>exact ⟨0,by omega,rfl,zH (by simp),rfl⟩
 case round =>
  obtain ⟨k,hk,rfl,hT,rfl⟩:=hrel;by_cases hlt:k<N
  ·obtain ⟨s,hs⟩:∃s,ids[k]?=some s:=⟨ids[k]'(by rw [HN.out];exact hlt),List.getElem?_eq_getElem _⟩;obtain ⟨b,off,ha,hcell⟩:=HC.out (by omega);subst ha;have c0:=hcell k s hs;have HS:=zH hs;clear hcell hs;by_cases hx:x=s
   ·subst hx;have HE:=zH (show res=true by rw [←HR.out];exact decide_eq_true (zM HS.out));go_wp2;go_ret;exact ⟨by rw [HE.out]<;>rfl,rfl⟩
   ·have HG:Hid (x ∉ ids.take (k+1)):=zH (by
     rw [zbn HS.out,List.mem_append]
     rintro (c | c)
     ·exact hT.out c
     ·exact hx (List.mem_singleton.1 c))
    have hxx:=zfh hx;have hxx2:=zfh (fun c:s=x=>hx c.symm);go_wp2;go_roundw;case rel=>exact ⟨k+1,by omega,by go_num,HG,trivial⟩
    case measure=>simp [intOf];omega
  ·obtain rfl:k=N:=(by omega);have HE:=zH (show res=false by
    rw [←HR.out]
    refine decide_eq_false fun c=>hT.out ?_
    rw [List.take_of_length_le (by rw [HN.out];exact Nat.le_refl _)];exact c)
   go_wp2;go_ret;exact ⟨by rw [HE.out]<;>rfl,rfl⟩
set_option maxRecDepth 100000 in
set_option maxHeartbeats 2000000 in
theorem zyp (v:Value) (l:List ObjD) (id:ByteArray) (w:World) (hv:zbb w v l) :
  Calls Tryz.prog 127 #[.agg #[v],.string id] w fun e w'=>e=.returned (.int .i64 (zni id l))∧Below w.heap.size w w':=by
 obtain ⟨a,cap,rfl,hn,hc⟩:=hv;generalize hN:l.length=N at *;have HN:=zH hN;have HC:=zH hc;obtain ⟨res,hres⟩:∃r,r=zni id l:=⟨_,rfl⟩;rw [←hres];have HR:=zH hres;clear hN hc hres;go_enter Tryz.func127,Tryz.ntmps127;go_wp2_with fail;generalize hw1:w.alloc _=w1;have B1:=gB1 hw1;have HM:=gA11 hw1;clear hw1;have HMh:=zH HM;clear HM;go_loopw [5] (fun i wr=>∃k:Nat,k≤N∧i=.int .i64 k∧(∀(j:Nat) (y:ObjD),j<k→l[j]?=some y→y.id≠id)∧Below w1.heap.size w1 wr) (fun i _=>N - (intOf i).toNat);case atStart=>exact ⟨0,by omega,rfl,(fun j y h _=>by omega),Below.refl _ _⟩
 case round =>
  obtain ⟨k,hk,rfl,hT,hbr⟩:=hrel;have HT:=zH hT;clear hT;have HM2:=zab hbr HMh.out;obtain ⟨mz,m0⟩:=rk1 HM2;have HM2':=zH HM2;clear HM2;by_cases hlt:k<N
  ·obtain ⟨o,ho⟩:∃o,l[k]?=some o:=⟨l[k]'(by rw [HN.out];exact hlt),List.getElem?_eq_getElem _⟩;obtain ⟨b,off,ha,hcell⟩:=HC.out (by omega);subst ha;obtain ⟨vr,vt,c0,-,-,-,-,-,-,-,-⟩:=((hcell k o ho).later B1).later hbr;have HO:=zH ho;clear hcell ho;by_cases hs:o.id=id
   ·have e1:(o.id.toList==id.toList)=true:=zcx hs;have HE:=zH (show res=k by rw [HR.out];unfold zni;rw [zago id l k o HO.out HT.out hs]);clear hs;go_wp2;go_ret;exact ⟨by rw [HE.out]<;>rfl,zac B1 zR hbr⟩
   ·have e1:(o.id.toList==id.toList)=false:=zck hs;have HG:Hid (∀(j:Nat) (z:ObjD),j<k+1→l[j]?=some z→z.id≠id):=zH (fun j z hj hz=>by
     by_cases hjq:j=k
     ·subst hjq
      rw [HO.out] at hz;cases hz;exact hs
     ·exact HT.out j z (by omega) hz)
    clear hs;go_wp2;go_roundw;case rel=>exact ⟨k+1,by omega,by go_num,HG.out,hbr⟩
    case measure=>simp [intOf];omega
  ·obtain rfl:k=N:=(by omega);have HE:=zH (show res=-1 by
    rw [HR.out];unfold zni
    rw [zanq id l fun j y hj=>HT.out j y (by rw [←HN.out];exact (List.getElem?_eq_some_iff.1 hj).1) hj])
   go_wp2;go_ret;exact ⟨by rw [HE.out]<;>rfl,zac B1 zR hbr⟩
set_option maxRecDepth 100000 in
set_option maxHeartbeats 2000000 in
theorem zaon (o:ObjD) (vr vt:Value) (id:ByteArray) (w:World) (hr:zaj w vr o.refs) (ht:zba w vt o.tags) :
  Calls Tryz.prog 125 #[.agg #[.string o.id,.int .i64 o.kind,.int .i64 o.x,.int .i64 o.y,vr,vt],.string id] w fun e w'=>e=.returned (.int .i64 (atR o id))∧Below w.heap.size w w':=by
 obtain ⟨a,cap,rfl,hl,_,hc⟩:=hr;obtain ⟨at1,capt,rfl,_⟩:=ht;obtain ⟨N,hN⟩:∃N,o.refs.length=N:=⟨_,rfl⟩;rw [hN] at hl hc ⊢;have HN:=zH hN;have HC:=zH hc;obtain ⟨res,hres⟩:∃z,atR o id=z:=⟨_,rfl⟩;rw [hres];have HR:=zH (show zgj (decide (o.kind=2)) N id o.refs 0 (-1)=res by rw [←hN];exact hres);have H1:=zan w (.cells #[.string o.id,.int .i64 o.kind,.int .i64 o.x,.int .i64 o.y,.slice a N cap,.slice at1 o.tags.length capt] 36);clear hN hc hres;obtain ⟨g,hg⟩:∃g,w.heap.size=g:=⟨_,rfl⟩;rw [hg] at H1;go_enter Tryz.func125,Tryz.ntmps125;go_upto_region 1 with fail;generalize hw1:w.alloc _=w1;have B1:=gB1 hw1;rw [hw1] at H1;have H1:=zH H1;clear hw1 hg;obtain ⟨xz,x0,x1,x2,x3,x4,x5⟩:=rk6 H1.out;go_wp2_with fail;go_loopw [5,6] (fun v5 i wr=>∃(k:Nat) (f:Int),v5=.int .i64 f∧i=.int .i64 k∧k≤N∧-1≤f∧f<k∧Hid (zgj (decide (o.kind=2)) N id (o.refs.drop k) k f=res)∧wr=w1) (fun _ i _=>N - (intOf i).toNat);case atStart=>exact ⟨0,-1,rfl,rfl,Nat.zero_le _,by omega,by omega,zH HR.out,rfl⟩
 case round =>
  obtain ⟨k,f,rfl,rfl,hk,hf,hfk,hT,rfl⟩:=hrel;by_cases hlt:k<N
  ·obtain ⟨s,hs⟩:∃s,o.refs[k]?=some s:=⟨o.refs[k]'(by rw [HN.out];exact hlt),List.getElem?_eq_getElem _⟩;obtain ⟨b,off,ha,hcell⟩:=HC.out (by omega);subst ha;have c0:=cell_later B1 (hcell k s hs);have HT:=zH (show (if s=id then (if 0≤f∨(decide (o.kind=2)=true∧(k=0∨k+1=N)) then -2 else zgj (decide (o.kind=2)) N id (o.refs.drop (k+1)) (k+1) k) else zgj (decide (o.kind=2)) N id (o.refs.drop (k+1)) (k+1) f)=res by
    have:=hT.out
    obtain ⟨hk2,e⟩:=List.getElem?_eq_some_iff.1 hs
    rw [List.drop_eq_getElem_cons hk2,e,zgj] at this
    exact this)
   clear hcell hs hT;by_cases hx:s=id
   ·have e1:(s.toList==id.toList)=true:=zcx hx;have HT2:=HT.out;rw [if_pos hx] at HT2;have HT2:=zH HT2;obtain ⟨q,hq⟩:∃q,N=q+1:=⟨N - 1,by omega⟩;have hq2:((q+1:Nat):Int) - 1=(q:Int):=(by omega);clear hx HT;by_cases hf0:0≤f
    ·have g1:decide (f ≥ 0)=true:=decide_eq_true (by omega);have HE:=zH (show res=-2 by have:=HT2.out;rw [if_pos (Or.inl hf0)] at this;exact this.symm);go_wp2;go_ret;exact ⟨by rw [HE.out]<;>rfl,B1⟩
    ·have g1:decide (f ≥ 0)=false:=decide_eq_false (by omega);by_cases hk2:o.kind=2
     ·have g2:(o.kind==2)=true:=(by rw [hk2];rfl);by_cases hk0:k=0
      ·have g3:((k:Int)==0)=true:=(by rw [hk0];rfl);have HE:=zH (show res=-2 by have:=HT2.out;rw [if_pos (Or.inr ⟨decide_eq_true hk2,Or.inl hk0⟩)] at this;exact this.symm);clear hk0 hk2;go_wp2;go_ret;exact ⟨by rw [HE.out]<;>rfl,B1⟩
      ·have g3:((k:Int)==0)=false:=zakc (by omega);by_cases hkn:k+1=N
       ·have g4:((k:Int)==((q:Nat):Int))=true:=(by rw [beq_iff_eq];omega);have HE:=zH (show res=-2 by have:=HT2.out;rw [if_pos (Or.inr ⟨decide_eq_true hk2,Or.inr hkn⟩)] at this;exact this.symm);clear hkn hk0 hk2;subst hq;go_wp2;go_ret;exact ⟨by rw [HE.out]<;>rfl,B1⟩
       ·have g4:((k:Int)==((q:Nat):Int))=false:=zakc (by omega);have HE:Hid (zgj (decide (o.kind=2)) N id (o.refs.drop (k+1)) (k+1) k=res):=zH (by have:=HT2.out;rwa [if_neg (by rintro (c | ⟨_,c | c⟩);exact hf0 c;exact hk0 c;exact hkn c)] at this);subst hq;go_wp2;go_roundw;case rel=>exact ⟨k+1,k,rfl,by go_num,by omega,by omega,by omega,HE,trivial⟩
        case measure=>simp [intOf];omega
     ·have g2:(o.kind==2)=false:=zakc hk2;have HE:Hid (zgj (decide (o.kind=2)) N id (o.refs.drop (k+1)) (k+1) k=res):=zH (by have:=HT2.out;rwa [if_neg (by rintro (c | ⟨c,_⟩);exact hf0 c;exact hk2 (of_decide_eq_true c))] at this);go_wp2;go_roundw;case rel=>exact ⟨k+1,k,rfl,by go_num,by omega,by omega,by omega,HE,trivial⟩
      case measure=>simp [intOf];omega
   ·have e1:(s.toList==id.toList)=false:=zck hx;have HE:Hid (zgj (decide (o.kind=2)) N id (o.refs.drop (k+1)) (k+1) f=res):=zH (by have:=HT.out;rwa [if_neg hx] at this);go_wp2;go_roundw;case rel=>exact ⟨k+1,f,rfl,by go_num,by omega,by omega,by omega,HE,trivial⟩
    case measure=>simp [intOf];omega
  ·obtain rfl:k=N:=(by omega);have HE:=zH (show res=f by
    have:=hT.out
    rw [List.drop_of_length_le (by rw [HN.out];exact Nat.le_refl _)] at this
    exact this.symm)
   go_wp2;go_ret;exact ⟨by rw [HE.out]<;>rfl,B1⟩
set_option maxRecDepth 100000 in
set_option maxHeartbeats 2000000 in
theorem zkp (a b c:Pt) (ha:zat a=true) (hb:zat b=true) (hc:zat c=true) (w:World) :
  Calls Tryz.prog 70 #[ptV a,ptV b,ptV c] w fun e w'=>e=.returned (.int .i64 (zdr a b c))∧Below w.heap.size w w':=by
 have s1:=zfe ha hb;have s2:=zfe ha hc;have h1:=zil (show -4194304≤b.1 - a.1∧b.1 - a.1≤4194304 from ⟨s1.1,s1.2.1⟩) (show -4194304≤c.2 - a.2∧c.2 - a.2≤4194304 from ⟨s2.2.2.1,s2.2.2.2⟩);have h2:=zil (show -4194304≤b.2 - a.2∧b.2 - a.2≤4194304 from ⟨s1.2.2.1,s1.2.2.2⟩) (show -4194304≤c.1 - a.1∧c.1 - a.1≤4194304 from ⟨s2.1,s2.2.1⟩);have HC:=zH (show zdr a b c=max ((b.1 - a.1) * (c.2 - a.2) - (b.2 - a.2) * (c.1 - a.1)) (-((b.1 - a.1) * (c.2 - a.2) - (b.2 - a.2) * (c.1 - a.1))) from rfl);generalize zdr a b c=n at HC ⊢;have hq1:=zem ha;have hq2:=zem hb;have hq3:=zem hc;obtain ⟨ax,ay⟩:=a;obtain ⟨bx,by1⟩:=b;obtain ⟨cx,cy⟩:=c;simp only [] at h1 h2 HC hq1 hq2 hq3 ⊢;have d1:IntKind.i64.wrap (bx - ax)=bx - ax:=IntWalk.i64_in _ (by omega);have d2:IntKind.i64.wrap (cy - ay)=cy - ay:=IntWalk.i64_in _ (by omega);have d3:IntKind.i64.wrap (by1 - ay)=by1 - ay:=IntWalk.i64_in _ (by omega);have d4:IntKind.i64.wrap (cx - ax)=cx - ax:=IntWalk.i64_in _ (by omega);have w1:IntKind.i64.wrap ((bx - ax) * (cy - ay))=(bx - ax) * (cy - ay):=IntWalk.i64_in _ (by omega);have w2:IntKind.i64.wrap ((by1 - ay) * (cx - ax))=(by1 - ay) * (cx - ax):=IntWalk.i64_in _ (by omega);have w3:IntKind.i64.wrap ((bx - ax) * (cy - ay) - (by1 - ay) * (cx - ax))=(bx - ax) * (cy - ay) - (by1 - ay) * (cx - ax):=IntWalk.i64_in _ (by omega);have hb3:-70368744177664≤(bx - ax) * (cy - ay) - (by1 - ay) * (cx - ax)∧(bx - ax) * (cy - ay) - (by1 - ay) * (cx - ax)≤70368744177664:=by omega
 clear ha hb hc h1 h2 s1 s2 hq1 hq2 hq3;go_enter Tryz.func70,Tryz.ntmps70;go_upto_region 2 with fail;clear d1 d2 d3 d4 w1 w2 w3;obtain ⟨z,hz⟩:∃z,(bx - ax) * (cy - ay) - (by1 - ay) * (cx - ax)=z:=⟨_,rfl⟩;rw [hz] at HC hb3 ⊢;clear hz;have hmax:max z (0 - z)=max z (-z):=by rw [Int.zero_sub]
 go_wp2;go_ret;exact ⟨by rw [HC.out]<;>rfl,(by repeat' (first | exact Below.refl _ _ | refine Below.drew ?_ | refine Below.drewN' ?_ | refine Below.setCell ?_ (by first | omega | (simp;done) | exact Below.size (by assumption) | (simp;omega)) _ | refine Below.alloc ?_ (by first | omega | (simp;done) | exact Below.size (by assumption) | (simp;omega)) _ | refine Below.trans ?_ (Below.mono (by assumption) ?_) | (first | omega | (simp;done) | exact Below.size (by assumption) | (simp;omega))))⟩
end Go.Proofs.YtibpaaajghbkoaaGreat
