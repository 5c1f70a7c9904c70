/-     -/
import Derived.Test.YtibpaaajghbkoaaGreatWBg
import Derived.Test.YtibpaaajghbkoaaGreatWBe
import Derived.Test.YtibpaaajghbkoaaGreatWAo
import Derived.Test.YtibpaaajghbkoaaGreatWAf
import Derived.Deep.LoopGhost
import Derived.Test.YtibpaaajghbkoaaGreatWAd
import Derived.BigQuiet
import Derived.Test.YtibpaaajghbkoaaGreatWAn
import Derived.Test.YtibpaaajghbkoaaGreatWAq
namespace Go.Proofs.YtibpaaajghbkoaaGreat
open Go.RowKit Go.Sort
set_option maxRecDepth 100000 in
set_option maxHeartbeats 2000000 in
theorem zvq (v:Value) (l:List ObjD) (id:ByteArray) (w:World) (hv:zbb w v l) (hok:zas l=true) :
  Calls Tryz.prog 119 #[.agg #[v],.string id] w fun e w'=>e=.returned (.int .i64 (zni id l))∧Below w.heap.size w w':=by
 obtain ⟨a,cap,rfl,hn,hc⟩:=hv;obtain ⟨N,hN⟩:∃N,l.length=N:=⟨_,rfl⟩;rw [hN] at hn hc ⊢;have HN:=zH hN;have HC:=zH hc;obtain ⟨res,hres⟩:∃r,r=zni id l:=⟨_,rfl⟩;rw [←hres];have HR:=zH hres;have HS:=zH (by
  have h:=hok
  simp only [zas,Bool.and_eq_true] at h
  exact (zht l _ h.2).2)
 clear hN hc hres hok;go_enter Tryz.func119,Tryz.ntmps119;go_wp2_with fail;generalize hw1:w.alloc _=w1;have B1:=gB1 hw1;have HM:=gA11 hw1;clear hw1;have HMh:=zH HM;clear HM;go_loopw [5,6] (fun v5 v6 wr=>∃lo hi:Nat,lo≤hi∧hi≤N∧v5=.int .i64 lo∧v6=.int .i64 hi∧(∀(t:Nat) (o:ObjD),t<lo→l[t]?=some o→ltB o.id id=true)∧(∀(t:Nat) (o:ObjD),hi≤t→l[t]?=some o→ltB o.id id=false)∧Below w1.heap.size w1 wr) (fun v5 v6 _=>(intOf v6 - intOf v5).toNat);case atStart=>exact ⟨0,N,by omega,Nat.le_refl _,rfl,rfl,(fun t o h _=>by omega),(fun t o h ho=>by have:=(List.getElem?_eq_some_iff.1 ho).1;rw [HN.out] at this;omega),Below.refl _ _⟩
 case round =>
  obtain ⟨lo,hi,hlh,hhN,rfl,rfl,hL,hH,hbr⟩:=hrel;have HL:=zH hL;have HH:=zH hH;clear hL hH;have HM2:=zab hbr HMh.out;obtain ⟨mz,m0⟩:=rk1 HM2;have HM2':=zH HM2;clear HM2;by_cases hlt:lo<hi
  ·obtain ⟨c,hcdef⟩:∃c,(lo+hi) / 2=c:=⟨_,rfl⟩;have hcl:lo≤c:=(by omega);have hch:c<hi:=(by omega);have q1:IntKind.i64.wrap ((lo:Int)+hi)=(lo:Int)+hi:=IntWalk.i64_in _ (by omega);have q2:((lo:Int)+hi).tdiv 2=(c:Int):=(by rw [Int.tdiv_eq_ediv_of_nonneg (by omega)];omega);have q2':((lo:Int)+hi) / 2=(c:Int):=(by omega);have q3:IntKind.i64.wrap (c:Int)=(c:Int):=IntWalk.i64_in _ (by omega);have q4:IntKind.i64.wrap ((c:Int)+1)=(c:Int)+1:=IntWalk.i64_in _ (by omega);obtain ⟨o,ho⟩:∃o,l[c]?=some o:=⟨l[c]'(by rw [HN.out];omega),List.getElem?_eq_getElem _⟩;obtain ⟨b,off,ha,hcell⟩:=HC.out (by omega);subst ha;obtain ⟨vr,vt,c0,-,-,-,-,-,-,-,-⟩:=((hcell c o ho).later B1).later hbr;have HO:=zH ho;have hcN:c<N:=(by omega);clear hcell ho hcdef;cases hlo:ltB o.id id with
   |true =>
    have LQ:Op.bytesLess o.id.toList id.toList=true:=hlo;have HG:Hid (∀(t:Nat) (y:ObjD),t<c+1→l[t]?=some y→ltB y.id id=true):=zH (fun t y ht hy=>by
     by_cases htc:t=c
     ·subst htc;rw [HO.out] at hy;cases hy;exact hlo
     ·exact zdz (HS.out t c y o (by omega) hy HO.out) hlo)
    clear hlo;go_wp2;go_roundw;case rel=>exact ⟨c+1,hi,by omega,hhN,by go_num,rfl,HG.out,HH.out,hbr⟩
    case measure=>simp [intOf];omega
   |false =>
    have LQ:Op.bytesLess o.id.toList id.toList=false:=hlo;have HG:Hid (∀(t:Nat) (y:ObjD),c≤t→l[t]?=some y→ltB y.id id=false):=zH (fun t y ht hy=>by
     by_cases htc:t=c
     ·subst htc;rw [HO.out] at hy;cases hy;exact hlo
     ·cases h:ltB y.id id with
      |false=>rfl
      |true=>have:=zdz (HS.out c t o y (by omega) HO.out hy) h;rw [hlo] at this;cases this)
    clear hlo;go_wp2;go_roundw;case rel=>exact ⟨lo,c,by omega,by omega,rfl,rfl,HL.out,HG.out,hbr⟩
    case measure=>simp [intOf];omega
  ·obtain rfl:lo=hi:=(by omega);have HF:=zH (zxh HS.out HL.out HH.out);have BF:=zac B1 zR hbr;have hnl:¬(lo:Int)<lo:=(by omega);by_cases hlN:lo<N
   ·obtain ⟨o,ho⟩:∃o,l[lo]?=some o:=⟨l[lo]'(by rw [HN.out];omega),List.getElem?_eq_getElem _⟩;obtain ⟨b,off,ha,hcell⟩:=HC.out (by omega);subst ha;obtain ⟨vr,vt,c0,-,-,-,-,-,-,-,-⟩:=((hcell lo o ho).later B1).later hbr;by_cases hs:o.id=id
    ·have e1:(o.id.toList==id.toList)=true:=zcx hs;have HE:=zH (show res=lo by rw [HR.out];unfold zni;rw [HF.out.1 o ho hs]);clear hcell ho hs;go_wp2;go_ret;exact ⟨by rw [HE.out]<;>rfl,BF⟩
    ·have e1:(o.id.toList==id.toList)=false:=zck hs;have HE:=zH (show res=-1 by
      rw [HR.out];unfold zni
      cases hp:posO id l with
      |none=>rfl
      |some j =>
       obtain ⟨rfl,o',ho',he⟩:=HF.out.2 j hp
       rw [ho] at ho';cases ho';exact absurd he hs)
     clear hcell ho hs;go_wp2;go_ret;exact ⟨by rw [HE.out]<;>rfl,BF⟩
   ·have HE:=zH (show res=-1 by
     rw [HR.out];unfold zni
     cases hp:posO id l with
     |none=>rfl
     |some j =>
      obtain ⟨rfl,o',ho',he⟩:=HF.out.2 j hp
      have:=(List.getElem?_eq_some_iff.1 ho').1
      rw [HN.out] at this
      omega)
    go_wp2;go_ret;exact ⟨by rw [HE.out]<;>rfl,BF⟩
set_option maxHeartbeats 1000000 in
theorem zado (o:ObjD) (vr vt:Value) (i:Nat) (w:World) (hr:zaj w vr o.refs) (ht:zba w vt o.tags) :
  Calls Tryz.prog 120 #[.agg #[.string o.id,.int .i64 o.kind,.int .i64 o.x,.int .i64 o.y,vr,vt],.int .i64 i] w fun e w'=>e=.returned (.int .i64 (zfd o i))∧Below w.heap.size w w':=by
 obtain ⟨ar,capr,rfl,_⟩:=hr;obtain ⟨at1,capt,rfl,_⟩:=ht;rcases zwi o i with ⟨k4b,k5b,hib,hw,hnb2⟩ | ⟨k4b,k5b,hib,hw,hnb2⟩ | ⟨k4b,k5b,hib,hw,hnb2⟩ | ⟨k4b,k5b,hib,hw,hnb2⟩;all_goals
  rw [hw];clear hw hnb2;go_enter Tryz.func120,Tryz.ntmps120;go_wp2;go_ret;exact ⟨rfl,(Below.refl _ _).alloc zR _⟩
def sndO (l:List ObjD) (sv:ObjD→Bool) (o:ObjD):Bool:=(List.range o.refs.length).all fun i=>match atO l (zcc o i) with
 |none=>false
 |some x=>decide (x.kind=zfd o i) && sv x
theorem zps {l:List ObjD} {sv:ObjD→Bool} {o:ObjD}:sndO l sv o=true↔∀(i:Nat) (r:ByteArray),o.refs[i]?=some r→∃x,atO l r=some x∧x.kind=zfd o i∧sv x=true:=by
 unfold sndO;rw [List.all_eq_true];constructor
 ·intro h i r hr;have:=h i (List.mem_range.2 (List.getElem?_eq_some_iff.1 hr).1);rw [zjw hr] at this;cases hx:atO l r with
  |none=>rw [hx] at this;cases this
  |some x =>rw [hx] at this;simp only [Bool.and_eq_true,decide_eq_true_eq] at this;exact ⟨x,rfl,this⟩
 ·intro h i hi;have hr:=zew (List.mem_range.1 hi);obtain ⟨x,hx,hk,hs⟩:=h i _ hr;rw [hx];simp only [Bool.and_eq_true,decide_eq_true_eq];exact ⟨hk,hs⟩
theorem zyd {l:List ObjD} {sv:ObjD→Bool} {o:ObjD} {i:Nat} {r:ByteArray} (hr:o.refs[i]?=some r) (h:∀x,atO l r=some x→x.kind=zfd o i→sv x=false):sndO l sv o=false:=by
 cases hs:sndO l sv o with
 |false=>rfl
 |true =>obtain ⟨x,h1,h2,h3⟩:=zps.1 hs i r hr;rw [h x h1 h2] at h3;cases h3
set_option maxRecDepth 100000 in
set_option maxHeartbeats 4000000 in
theorem zma (v vr vt:Value) (l:List ObjD) (o:ObjD) (w:World) (hv:zbb w v l) (hr:zaj w vr o.refs) (ht:zba w vt o.tags) (hok:zas l=true) (sv:ObjD→Bool)
  (hs:∀x∈l,∀i,i<o.refs.length→x.kind=zfd o i→∀xr xt W,Below w.heap.size w W→zaj W xr x.refs→zba W xt x.tags →
   Calls Tryz.prog 66 #[.agg #[v],.agg #[.string x.id,.int .i64 x.kind,.int .i64 x.x,.int .i64 x.y,xr,xt]] W fun e w'=>e=.returned (.bool (sv x))∧Below W.heap.size W w') :
  Calls Tryz.prog 66 #[.agg #[v],.agg #[.string o.id,.int .i64 o.kind,.int .i64 o.x,.int .i64 o.y,vr,vt]] w fun e w'=>e=.returned (.bool (sndO l sv o))∧Below w.heap.size w w':=by
 have mixed:Tryz.prog.follows .mixedOrders=true:=by kernel_rfl
 have FD:=zH (fun id W (hb:Below w.heap.size w W)=>zvq v l id W (hv.later hb) hok);have HS:=zH hs;have HSR:=zH hr;have HTR:=zH ht;obtain ⟨a,cap,rfl,hn,hc⟩:=hv;obtain ⟨ar,capr,rfl,hrl,_,hrc⟩:=hr;obtain ⟨at1,capt,rfl,_⟩:=ht;obtain ⟨N,hN⟩:∃N,l.length=N:=⟨_,rfl⟩;have hNb:N≤1000000:=by rw [←hN];unfold zas at hok;rw [Bool.and_eq_true] at hok;exact of_decide_eq_true hok.1
 rw [hN] at hn hc FD HS ⊢;have HN:=zH hN;have HC:=zH hc;have HRC:=zH hrc;have KD0:=zH (fun (i:Nat) W (hb:Below w.heap.size w W)=>zado o (.slice ar o.refs.length capr) (.slice at1 o.tags.length capt) i W (HSR.out.later hb) (HTR.out.later hb));obtain ⟨res,hres⟩:∃z,sndO l sv o=z:=⟨_,rfl⟩;rw [hres];have HR:=zH hres;clear hc hN hrc hres hok hs;go_enter Tryz.func66,Tryz.ntmps66;go_upto_region 1 with fail;generalize hw1:(w.alloc _).alloc _=w1;have B1:=gB2 hw1;have G1:=gA21 hw1;have G2:=gA22 hw1;obtain ⟨g1,hg1⟩:∃z,z=w.heap.size:=⟨_,rfl⟩;obtain ⟨g2,hg2⟩:∃z,z=w.heap.size+1:=⟨_,rfl⟩;rw [←hg2] at G2;rw [←hg1] at G1;rw [←hg2,←hg1];have G1:=zH G1;have G2:=zH G2;clear hw1 hg1 hg2;go_wp2_with fail;go_loopw [5] (fun i wr=>∃j:Nat,i=.int .i64 j∧j≤o.refs.length∧(∀(q:Nat) (r:ByteArray),q<j→o.refs[q]?=some r→∃x,atO l r=some x∧x.kind=zfd o q∧sv x=true)∧Below w1.heap.size w1 wr) (fun i _=>o.refs.length - (intOf i).toNat);case atStart=>exact ⟨0,rfl,Nat.zero_le _,(fun q r h=>absurd h (Nat.not_lt_zero q)),Below.refl _ _⟩
 case round =>
  obtain ⟨j,rfl,hj,hfi,hbi⟩:=hrel;obtain ⟨wi,rfl⟩:∃z:World,z=wr:=⟨_,rfl⟩;have HMi:=zH (zab hbi G1.out);have HXi:=zH (zab hbi G2.out);have BIw:=zac B1 zR hbi;have HFI:=zH hfi;clear hfi;by_cases hlt:j<o.refs.length
  ·obtain ⟨s,hs⟩:∃s,o.refs[j]?=some s:=⟨o.refs[j],List.getElem?_eq_getElem hlt⟩;obtain ⟨b8,off8,ha8,hcell8⟩:=HRC.out (by omega);subst ha8;have r0:=cell_later BIw (hcell8 j s hs);have HSS:=zH hs;obtain ⟨n,hfn⟩:∃n,zni s l=n:=⟨_,rfl⟩;have F1:=fun W (hb:Below wi.heap.size wi W)=>FD.out s W (zac BIw zR hb);rw [hfn] at F1;have F1:=zH F1;have HFN:=zH hfn;clear hcell8 hs hfn;rcases zajb (l:=l) (r:=s) with ⟨hf,hno⟩ | ⟨jx,x,hf,hx,hat⟩
   ·rw [HFN.out] at hf;subst hf;have HF:=zH (show res=false by rw [←HR.out];exact zyd HSS.out (fun z hz'=>by rw [hno] at hz';cases hz'));clear hno;obtain ⟨xz,x0,x1,x2,x3,x4,x5⟩:=rk6 HXi.out;go_upto_region 4 with fail;clear x0 x1 x2 x3 x4 x5 xz;obtain ⟨xz,x0,x1,x2,x3,x4,x5⟩:=rk6 HXi.out;have qx0:=zaa x0;have qx1:=zaa x1;have qx2:=zaa x2;have qx3:=zaa x3;have qx4:=zaa x4;have qx5:=zaa x5;clear x0 x1 x2 x3 x4 x5;obtain ⟨mz,m0⟩:=rk1 HMi.out;have qm0:=zaa m0;clear m0;have r0:=zaa r0;refine zae mixed (by kernel_rfl) ?_;repeat (go_big_quiet_step ((go_at_call 119;exact zad (F1.out _ (zam.below _)))))
    refine wpQuiet_nil ?_;intro wa hw';obtain ⟨⟨wz9,hba⟩,hw''⟩:=hw';subst hw'';have BA:=zac BIw zR hba;have HXa:=zH (zab hba HXi.out);have HMa:=zH (zab hba HMi.out);clear qx0 qx1 qx2 qx3 qx4 qx5 qm0 r0;have KD:=KD0;have SX:=KD0;obtain ⟨xz,x0,x1,x2,x3,x4,x5⟩:=rk6 HXa.out;have qx0:=zaa x0;have qx1:=zaa x1;have qx2:=zaa x2;have qx3:=zaa x3;have qx4:=zaa x4;have qx5:=zaa x5;clear x0 x1 x2 x3 x4 x5;obtain ⟨mz,m0⟩:=rk1 HMa.out;have qm0:=zaa m0;clear m0;go_upto_region 5 with fail;refine zae mixed (by kernel_rfl) ?_;repeat (go_big_quiet_step (first | (go_at_call 120;exact zad (KD.out _ (zam.below _))) | (go_at_call 66;exact zad (SX.out _ (zam.below _)))))
    refine wpQuiet_nil ?_;intro w9 hw';obtain ⟨⟨wz,hbz⟩,hw''⟩:=hw';subst hw'';have BZ:=zac BA zR hbz;go_wp2;go_ret;exact ⟨by rw [HF.out]<;>rfl,BZ⟩
   ·rw [HFN.out] at hf;subst hf;have hjN:jx<N:=by have:=(List.getElem?_eq_some_iff.1 hx).1;rw [HN.out] at this;exact this
    obtain ⟨bo2,off3,ha3,hcell3⟩:=HC.out (by omega);subst ha3;have HC3:=zH (hcell3 jx x hx);have HX2:=zH (zM hx);have HAT2:=zH hat;have jb:(0:Int)≤(jx:Int):=(by omega);have jb2:(jx:Int)<(N:Int):=(by omega);have g1':decide ((jx:Int)<0)=false:=decide_eq_false (by omega);clear hcell3 hx hat;obtain ⟨xz,x0,x1,x2,x3,x4,x5⟩:=rk6 HXi.out;go_upto_region 4 with fail;clear x0 x1 x2 x3 x4 x5 xz;obtain ⟨xz,x0,x1,x2,x3,x4,x5⟩:=rk6 HXi.out;have qx0:=zaa x0;have qx1:=zaa x1;have qx2:=zaa x2;have qx3:=zaa x3;have qx4:=zaa x4;have qx5:=zaa x5;clear x0 x1 x2 x3 x4 x5;obtain ⟨mz,m0⟩:=rk1 HMi.out;have qm0:=zaa m0;clear m0;have r0:=zaa r0;refine zae mixed (by kernel_rfl) ?_;repeat (go_big_quiet_step ((go_at_call 119;exact zad (F1.out _ (zam.below _)))))
    refine wpQuiet_nil ?_;intro wa hw';obtain ⟨⟨wz9,hba⟩,hw''⟩:=hw';subst hw'';have BA:=zac BIw zR hba;have HXa:=zH (zab hba HXi.out);have HMa:=zH (zab hba HMi.out);clear qx0 qx1 qx2 qx3 qx4 qx5 qm0 r0;obtain ⟨xr,xt,e0,e1,e2,e3,e4,e5,hxr,hxt,hxz⟩:=HC3.out.later BA;have HXR:=zH hxr;have HXT:=zH hxt;obtain ⟨axr,cxr,rfl,-⟩:=hxr;obtain ⟨axt,cxt,rfl,-⟩:=hxt;have KD:=zH (fun W (hb:Below wa.heap.size wa W)=>KD0.out j W (zac BA zR hb));have SX0:=zH (fun (hk:x.kind=zfd o j) W (hb:Below wa.heap.size wa W)=>HS.out x HX2.out j hlt hk (.slice axr x.refs.length cxr) (.slice axt x.tags.length cxt) W (zac BA zR hb) (HXR.out.later hb) (HXT.out.later hb));have e0:=zaa e0;have e1:=zaa e1;have e2:=zaa e2;have e3:=zaa e3;have e4:=zaa e4;have e5:=zaa e5;by_cases hk:x.kind=zfd o j
    ·have hkb:=zanb hk;have SX:=zH (SX0.out hk);have HK:=zH hk;obtain ⟨sb,hsb⟩:∃z,sv x=z:=⟨_,rfl⟩;rw [hsb] at SX;have HSB:=zH hsb;obtain ⟨wk,hwk⟩:∃z,zfd o j=z:=⟨_,rfl⟩;rw [hwk] at hkb KD;clear hk hsb hwk SX0;obtain ⟨xz,x0,x1,x2,x3,x4,x5⟩:=rk6 HXa.out;have qx0:=zaa x0;have qx1:=zaa x1;have qx2:=zaa x2;have qx3:=zaa x3;have qx4:=zaa x4;have qx5:=zaa x5;clear x0 x1 x2 x3 x4 x5;obtain ⟨mz,m0⟩:=rk1 HMa.out;have qm0:=zaa m0;clear m0;cases sb with
     |true =>
      go_upto_region 5 with fail;refine zae mixed (by kernel_rfl) ?_;repeat (go_big_quiet_step (first | (go_at_call 120;exact zad (KD.out _ (zam.below _))) | (go_at_call 66;exact zad (SX.out _ (zam.below _)))))
      refine wpQuiet_nil ?_;intro w9 hw';obtain ⟨⟨wz,hbz⟩,hw''⟩:=hw';subst hw'';have BZ:=zac BA zR hbz;have HFJ:=zH (show ∀(q:Nat) (r:ByteArray),q<j+1→o.refs[q]?=some r→∃x,atO l r=some x∧x.kind=zfd o q∧sv x=true from fun q r hq hr=>by
       by_cases hqi:q=j
       ·subst hqi
        rw [HSS.out] at hr
        injection hr with hr
        subst hr
        exact ⟨x,HAT2.out,HK.out,HSB.out⟩
       ·exact HFI.out q r (by omega) hr)
      have BZ1:=zac (zac hbi zR hba) zR hbz;go_wp2;go_roundw;case rel=>exact ⟨j+1,by go_num,by omega,HFJ.out,BZ1⟩
      case measure=>simp [intOf];omega
     |false =>
      have HF:=zH (show res=false by rw [←HR.out];exact zyd HSS.out (fun z hz' _=>by rw [HAT2.out] at hz';injection hz' with hz';rw [←hz'];exact HSB.out));go_upto_region 5 with fail;refine zae mixed (by kernel_rfl) ?_;repeat (go_big_quiet_step (first | (go_at_call 120;exact zad (KD.out _ (zam.below _))) | (go_at_call 66;exact zad (SX.out _ (zam.below _)))))
      refine wpQuiet_nil ?_;intro w9 hw';obtain ⟨⟨wz,hbz⟩,hw''⟩:=hw';subst hw'';have BZ:=zac BA zR hbz;go_wp2;go_ret;exact ⟨by rw [HF.out]<;>rfl,BZ⟩
    ·have hkb:=zafc hk;have HF:=zH (show res=false by rw [←HR.out];exact zyd HSS.out (fun z hz' hz2=>by rw [HAT2.out] at hz';injection hz' with hz';rw [←hz'] at hz2;exact absurd hz2 hk));obtain ⟨wk,hwk⟩:∃z,zfd o j=z:=⟨_,rfl⟩;rw [hwk] at hkb KD;have SX:=KD;clear hk hwk SX0;obtain ⟨xz,x0,x1,x2,x3,x4,x5⟩:=rk6 HXa.out;have qx0:=zaa x0;have qx1:=zaa x1;have qx2:=zaa x2;have qx3:=zaa x3;have qx4:=zaa x4;have qx5:=zaa x5;clear x0 x1 x2 x3 x4 x5;obtain ⟨mz,m0⟩:=rk1 HMa.out;have qm0:=zaa m0;clear m0;go_upto_region 5 with fail;refine zae mixed (by kernel_rfl) ?_;repeat (go_big_quiet_step (first | (go_at_call 120;exact zad (KD.out _ (zam.below _))) | (go_at_call 66;exact zad (SX.out _ (zam.below _)))))
     refine wpQuiet_nil ?_;intro w9 hw';obtain ⟨⟨wz,hbz⟩,hw''⟩:=hw';subst hw'';have BZ:=zac BA zR hbz;go_wp2;go_ret;exact ⟨by rw [HF.out]<;>rfl,BZ⟩
  ·obtain rfl:j=o.refs.length:=(by omega);have HE:=zH (show res=true by rw [←HR.out];exact zps.2 fun i r hr=>HFI.out i r (List.getElem?_eq_some_iff.1 hr).1 hr);obtain ⟨xz,x0,x1,x2,x3,x4,x5⟩:=rk6 HXi.out;go_wp2;go_ret;exact ⟨by rw [HE.out]<;>rfl,BIw⟩
def sndA (l:List ObjD) (o:ObjD):Bool:=if o.kind=4∨o.kind=5 then sndO l (fitO l) o else fitO l o
theorem zzn {l:List ObjD} {o:ObjD} (h:o.refs=[]):fitO l o=true:=zkc.2 fun i r hr=>by rw [h] at hr;cases hr
theorem zvf {l:List ObjD} {o:ObjD}:sndO l (fun _=>true) o=fitO l o:=by
 rw [Bool.eq_iff_iff,zps,zkc];constructor
 ·intro h i r hr;obtain ⟨x,h1,h2,-⟩:=h i r hr;exact ⟨x,h1,h2⟩
 ·intro h i r hr;obtain ⟨x,h1,h2⟩:=h i r hr;exact ⟨x,h1,h2,rfl⟩
theorem zyk (v vr vt:Value) (l:List ObjD) (o:ObjD) (w:World) (hv:zbb w v l) (hr:zaj w vr o.refs) (ht:zba w vt o.tags) (hok:zas l=true) (h0:o.refs=[]) :
  Calls Tryz.prog 66 #[.agg #[v],.agg #[.string o.id,.int .i64 o.kind,.int .i64 o.x,.int .i64 o.y,vr,vt]] w fun e w'=>e=.returned (.bool true)∧Below w.heap.size w w':=by
 have:=zma v vr vt l o w hv hr ht hok (fun _=>true) (fun x _ i hi=>by rw [h0] at hi;simp at hi);rwa [zvf,zzn h0] at this
theorem zagb (v vr vt:Value) (l:List ObjD) (o:ObjD) (w:World) (hv:zbb w v l) (hr:zaj w vr o.refs) (ht:zba w vt o.tags) (hok:zas l=true) (hk:o.kind=2∨o.kind=3) :
  Calls Tryz.prog 66 #[.agg #[v],.agg #[.string o.id,.int .i64 o.kind,.int .i64 o.x,.int .i64 o.y,vr,vt]] w fun e w'=>e=.returned (.bool (fitO l o))∧Below w.heap.size w w':=by
 have:=zma v vr vt l o w hv hr ht hok (fun _=>true) (fun x hx i _ hw xr xt W hb h1 h2=>by
  have hk1:x.kind=1:=by rw [hw];unfold zfd;rw [if_neg (by omega)]
  have h0:x.refs=[]:=by
   rcases zuc hok hx with ⟨_,h⟩ | h | h
   ·exact h
   ·omega
   ·omega
  exact zyk v xr xt l x W (hv.later hb) h1 h2 hok h0)
 rwa [zvf] at this
theorem zyj (v vr vt:Value) (l:List ObjD) (o:ObjD) (w:World) (hv:zbb w v l) (hr:zaj w vr o.refs) (ht:zba w vt o.tags) (hok:zas l=true) (ho:o∈l) :
  Calls Tryz.prog 66 #[.agg #[v],.agg #[.string o.id,.int .i64 o.kind,.int .i64 o.x,.int .i64 o.y,vr,vt]] w fun e w'=>e=.returned (.bool (sndA l o))∧Below w.heap.size w w':=by
 unfold sndA;rcases zuc hok ho with ⟨hk,h0⟩ | hk | hk
 ·rw [if_neg (by omega),zzn h0];exact zyk v vr vt l o w hv hr ht hok h0
 ·rw [if_neg (by omega)];exact zagb v vr vt l o w hv hr ht hok hk
 ·rw [if_pos hk];refine zma v vr vt l o w hv hr ht hok (fitO l) (fun x hx i _ hw xr xt W hb h1 h2=>?_);have hw2:x.kind=1∨x.kind=2:=by
   rw [hw];unfold zfd;split
   ·exact Or.inr rfl
   ·exact Or.inl rfl
  rcases zuc hok hx with ⟨hk1,h0⟩ | hk2 | hk2
  ·rw [zzn h0];exact zyk v xr xt l x W (hv.later hb) h1 h2 hok h0
  ·exact zagb v xr xt l x W (hv.later hb) h1 h2 hok hk2
  ·omega
theorem zaao {l:List ObjD}:(∀o∈l,sndA l o=true)↔∀o∈l,fitO l o=true:=by
 constructor
 ·intro h o ho;have:=h o ho;unfold sndA at this;split at this
  ·refine zkc.2 fun i r hr=>?_;obtain ⟨x,h1,h2,-⟩:=zps.1 this i r hr;exact ⟨x,h1,h2⟩
  ·exact this
 ·intro h o ho;unfold sndA;split
  ·refine zps.2 fun i r hr=>?_;obtain ⟨x,h1,h2⟩:=zkc.1 (h o ho) i r hr;exact ⟨x,h1,h2,h x (zke h1).1⟩
  ·exact h o ho
end Go.Proofs.YtibpaaajghbkoaaGreat

namespace Go.Proofs.YtibpaaajghbkoaaGreat
open Go.RowKit
theorem zpr (k:Int) (h0:1≤k) (h5:k≤5):∃W:ByteArray,zig k=W∧0<W.size∧∀w,Calls Tryz.prog 169 #[.int .i64 k] w fun e w'=>e=.returned (.string W)∧Below w.heap.size w w':=by
 refine ⟨zig k,rfl,?_,zhg k⟩;obtain rfl | rfl | rfl | rfl | rfl:k=1∨k=2∨k=3∨k=4∨k=5:=by omega
 all_goals decide
set_option maxRecDepth 100000 in
set_option maxHeartbeats 1000000 in
theorem zpx (id:ByteArray) (kind x y:Int) (vr vt:Value) (refs:List ByteArray) (tags:List TagD) (w:World) (hid:id.size≤140737488355328) (hr:zaj w vr refs) (ht:zba w vt tags) :
  Calls Tryz.prog 118 #[.agg #[.string id,.int .i64 kind,.int .i64 x,.int .i64 y,vr,vt]] w fun e w'=>e=.returned (.bool (zay ⟨id,kind,x,y,refs,tags⟩))∧Below w.heap.size w w':=by
 have HOK:=zH (zahc ⟨id,kind,x,y,refs,tags⟩);have HR:=zH hr;have HT:=zH ht;clear hr ht;go_enter Tryz.func118,Tryz.ntmps118;go_wp2_with fail;have GO:=zH (zan w (.cells #[.string id,.int .i64 kind,.int .i64 x,.int .i64 y,vr,vt] 36));have B1:Below w.heap.size w (w.alloc (.cells #[.string id,.int .i64 kind,.int .i64 x,.int .i64 y,vr,vt] 36)):=(Below.refl _ _).alloc zR _;refine (zaom _ _ _).mono ?_;rintro e w1 ⟨rfl,hb1⟩;have GO:=zH (zab hb1 GO.out);have B2:=zac B1 zR hb1;clear hb1 B1;have HO:=GO.out;obtain ⟨oz,o0,o1,o2,o3,o4,o5⟩:=rk6 HO;have HO':=zH HO;clear HO;clear HO';have FIN:∀(AT:Bool),(if kind=1 then onB x y else decide (x=0∧y=0))=AT→Hid (zay ⟨id,kind,x,y,refs,tags⟩=(zcw id && decide (1≤kind∧kind≤5) && AT && zdq tags && (decide (refs.length≤2000) && zar kind [] refs && zgl kind refs.length))):=fun AT h=>zH (by rw [HOK.out,←h]);by_cases k1:kind=1
 ·have HE:=FIN (onB x y) (if_pos k1);have f1:(kind != 1)=false:=by rw [k1];rfl
  clear FIN HOK k1;generalize onB x y=AT at *;go_wp2_with fail;refine (zix id hid _).mono ?_;rintro e w' ⟨rfl,rfl⟩;cases hnm:zcw id;case false =>
   have HE2:=zH (show zay ⟨id,kind,x,y,refs,tags⟩=false by rw [HE.out,hnm];rfl);clear hnm;go_wp2;go_ret;exact ⟨zah HE2.out.symm,B2⟩
  have HNM:=zH hnm;clear hnm;by_cases hk:1≤kind∧kind≤5;case neg =>
   have HE2:=zH (show zay ⟨id,kind,x,y,refs,tags⟩=false by rw [HE.out,decide_eq_false hk];simp);have WD:=zH (fun w=>by have:=zhg kind w;rw [zho kind hk] at this;exact this);clear hk;go_wp2_with fail;refine (WD.out _).mono ?_;rintro e w3 ⟨rfl,hb3⟩;have B3:=zac B2 zR hb3;clear hb3 o0 o1 o2 o3 o4 o5;go_wp2;go_ret;exact ⟨zah HE2.out.symm,B3⟩
  obtain ⟨W,hW,w0,WD⟩:=zpr kind hk.1 hk.2;have WDH:=zH WD;have e1:W.toList.isEmpty=false:=zbo w0;have e0:¬W.toList=[]:=by intro e;rw [e] at e1;simp at e1
  have HKK:=zH hk;clear hW WD hk;go_wp2_with fail;refine (WDH.out _).mono ?_;rintro e w3 ⟨rfl,hb3⟩;have B3:=zac B2 zR hb3;have GO:=zH (zab hb3 GO.out);clear hb3 o0 o1 o2 o3 o4 o5 oz;have HO:=GO.out;obtain ⟨oz,o0,o1,o2,o3,o4,o5⟩:=rk6 HO;have HO':=zH HO;clear HO;clear HO';cases AT;case false =>
   have HE2:=zH (show zay ⟨id,kind,x,y,refs,tags⟩=false by rw [HE.out];simp);go_wp2;go_ret;exact ⟨zah HE2.out.symm,B3⟩
  go_wp2_with fail;refine (zvl vt tags _ (HT.out.later B3)).mono ?_;rintro e w4 ⟨rfl,hb4⟩;have B4:=zac B3 zR hb4;have GO:=zH (zab hb4 GO.out);clear hb4 o0 o1 o2 o3 o4 o5 oz;have HO:=GO.out;obtain ⟨oz,o0,o1,o2,o3,o4,o5⟩:=rk6 HO;have HO':=zH HO;clear HO;clear HO';cases htg:zdq tags;case false =>
   have HE2:=zH (show zay ⟨id,kind,x,y,refs,tags⟩=false by rw [HE.out,htg];simp);clear htg;go_wp2;go_ret;exact ⟨zah HE2.out.symm,B4⟩
  have HE2:=zH (show zay ⟨id,kind,x,y,refs,tags⟩=(decide (refs.length≤2000) && zar kind [] refs && zgl kind refs.length) by rw [HE.out,htg,HNM.out,decide_eq_true HKK.out];simp);clear htg;go_wp2_with fail;refine (zvn id kind x y vr vt refs _ (HR.out.later B4)).mono ?_;rintro e w5 ⟨rfl,hb5⟩;have B5:=zac B4 zR hb5;clear hb5 o0 o1 o2 o3 o4 o5 oz;rw [←HE2.out];go_wp2;go_ret;exact ⟨rfl,B5⟩
 have f1:(kind != 1)=true:=by rw [bne_iff_ne];exact k1
 by_cases kz:x=0∧y=0
 ·have HE:=FIN true (by rw [if_neg k1];simp [kz]);obtain ⟨rfl,rfl⟩:=kz;clear FIN HOK k1;go_wp2_with fail;refine (zix id hid _).mono ?_;rintro e w' ⟨rfl,rfl⟩;cases hnm:zcw id;case false =>
   have HE2:=zH (show zay ⟨id,kind,0,0,refs,tags⟩=false by rw [HE.out,hnm];rfl);clear hnm;go_wp2;go_ret;exact ⟨zah HE2.out.symm,B2⟩
  have HNM:=zH hnm;clear hnm;by_cases hk:1≤kind∧kind≤5;case neg =>
   have HE2:=zH (show zay ⟨id,kind,0,0,refs,tags⟩=false by rw [HE.out,decide_eq_false hk];simp);have WD:=zH (fun w=>by have:=zhg kind w;rw [zho kind hk] at this;exact this);clear hk;go_wp2_with fail;refine (WD.out _).mono ?_;rintro e w3 ⟨rfl,hb3⟩;have B3:=zac B2 zR hb3;clear hb3 o0 o1 o2 o3 o4 o5;go_wp2;go_ret;exact ⟨zah HE2.out.symm,B3⟩
  obtain ⟨W,hW,w0,WD⟩:=zpr kind hk.1 hk.2;have WDH:=zH WD;have e1:W.toList.isEmpty=false:=zbo w0;have e0:¬W.toList=[]:=by intro e;rw [e] at e1;simp at e1
  have HKK:=zH hk;clear hW WD hk;go_wp2_with fail;refine (WDH.out _).mono ?_;rintro e w3 ⟨rfl,hb3⟩;have B3:=zac B2 zR hb3;have GO:=zH (zab hb3 GO.out);clear hb3 o0 o1 o2 o3 o4 o5 oz;have HO:=GO.out;obtain ⟨oz,o0,o1,o2,o3,o4,o5⟩:=rk6 HO;have HO':=zH HO;clear HO;clear HO';go_wp2_with fail;refine (zvl vt tags _ (HT.out.later B3)).mono ?_;rintro e w4 ⟨rfl,hb4⟩;have B4:=zac B3 zR hb4;have GO:=zH (zab hb4 GO.out);clear hb4 o0 o1 o2 o3 o4 o5 oz;have HO:=GO.out;obtain ⟨oz,o0,o1,o2,o3,o4,o5⟩:=rk6 HO;have HO':=zH HO;clear HO;clear HO';cases htg:zdq tags;case false =>
   have HE2:=zH (show zay ⟨id,kind,0,0,refs,tags⟩=false by rw [HE.out,htg];simp);clear htg;go_wp2;go_ret;exact ⟨zah HE2.out.symm,B4⟩
  have HE2:=zH (show zay ⟨id,kind,0,0,refs,tags⟩=(decide (refs.length≤2000) && zar kind [] refs && zgl kind refs.length) by rw [HE.out,htg,HNM.out,decide_eq_true HKK.out];simp);clear htg;go_wp2_with fail;refine (zvn id kind 0 0 vr vt refs _ (HR.out.later B4)).mono ?_;rintro e w5 ⟨rfl,hb5⟩;have B5:=zac B4 zR hb5;clear hb5 o0 o1 o2 o3 o4 o5 oz;rw [←HE2.out];go_wp2;go_ret;exact ⟨rfl,B5⟩
 ·have HE:=FIN false (by rw [if_neg k1];simp only [decide_eq_false_iff_not];exact kz);have hz:x≠0∨y≠0:=by omega
  clear FIN HOK k1 kz;rcases hz with hz | hz
  ·have z0:(x==0)=false:=(by rw [beq_eq_false_iff_ne];exact hz);go_wp2_with fail;refine (zix id hid _).mono ?_;rintro e w' ⟨rfl,rfl⟩;cases hnm:zcw id;case false =>
    have HE2:=zH (show zay ⟨id,kind,x,y,refs,tags⟩=false by rw [HE.out,hnm];rfl);clear hnm;go_wp2;go_ret;exact ⟨zah HE2.out.symm,B2⟩
   have HNM:=zH hnm;clear hnm;by_cases hk:1≤kind∧kind≤5;case neg =>
    have HE2:=zH (show zay ⟨id,kind,x,y,refs,tags⟩=false by rw [HE.out,decide_eq_false hk];simp);have WD:=zH (fun w=>by have:=zhg kind w;rw [zho kind hk] at this;exact this);clear hk;go_wp2_with fail;refine (WD.out _).mono ?_;rintro e w3 ⟨rfl,hb3⟩;have B3:=zac B2 zR hb3;clear hb3 o0 o1 o2 o3 o4 o5;go_wp2;go_ret;exact ⟨zah HE2.out.symm,B3⟩
   obtain ⟨W,hW,w0,WD⟩:=zpr kind hk.1 hk.2;have WDH:=zH WD;have e1:W.toList.isEmpty=false:=zbo w0;have e0:¬W.toList=[]:=(by intro e;rw [e] at e1;simp at e1);have HKK:=zH hk;clear hW WD hk;go_wp2_with fail;refine (WDH.out _).mono ?_;rintro e w3 ⟨rfl,hb3⟩;have B3:=zac B2 zR hb3;have GO:=zH (zab hb3 GO.out);clear hb3 o0 o1 o2 o3 o4 o5 oz;have HO:=GO.out;obtain ⟨oz,o0,o1,o2,o3,o4,o5⟩:=rk6 HO;have HO':=zH HO;clear HO;clear HO';have HE2:=zH (show zay ⟨id,kind,x,y,refs,tags⟩=false by rw [HE.out];simp);go_wp2;go_ret;exact ⟨zah HE2.out.symm,B3⟩
  ·have z0:(y==0)=false:=(by rw [beq_eq_false_iff_ne];exact hz);by_cases hx:x=0
   ·subst hx;go_wp2_with fail;refine (zix id hid _).mono ?_;rintro e w' ⟨rfl,rfl⟩;cases hnm:zcw id;case false =>
     have HE2:=zH (show zay ⟨id,kind,0,y,refs,tags⟩=false by rw [HE.out,hnm];rfl);clear hnm;go_wp2;go_ret;exact ⟨zah HE2.out.symm,B2⟩
    have HNM:=zH hnm;clear hnm;by_cases hk:1≤kind∧kind≤5;case neg =>
     have HE2:=zH (show zay ⟨id,kind,0,y,refs,tags⟩=false by rw [HE.out,decide_eq_false hk];simp);have WD:=zH (fun w=>by have:=zhg kind w;rw [zho kind hk] at this;exact this);clear hk;go_wp2_with fail;refine (WD.out _).mono ?_;rintro e w3 ⟨rfl,hb3⟩;have B3:=zac B2 zR hb3;clear hb3 o0 o1 o2 o3 o4 o5;go_wp2;go_ret;exact ⟨zah HE2.out.symm,B3⟩
    obtain ⟨W,hW,w0,WD⟩:=zpr kind hk.1 hk.2;have WDH:=zH WD;have e1:W.toList.isEmpty=false:=zbo w0;have e0:¬W.toList=[]:=(by intro e;rw [e] at e1;simp at e1);have HKK:=zH hk;clear hW WD hk;go_wp2_with fail;refine (WDH.out _).mono ?_;rintro e w3 ⟨rfl,hb3⟩;have B3:=zac B2 zR hb3;have GO:=zH (zab hb3 GO.out);clear hb3 o0 o1 o2 o3 o4 o5 oz;have HO:=GO.out;obtain ⟨oz,o0,o1,o2,o3,o4,o5⟩:=rk6 HO;have HO':=zH HO;clear HO;clear HO';have HE2:=zH (show zay ⟨id,kind,0,y,refs,tags⟩=false by rw [HE.out];simp);go_wp2;go_ret;exact ⟨zah HE2.out.symm,B3⟩
   ·have z1:(x==0)=false:=(by rw [beq_eq_false_iff_ne];exact hx);go_wp2_with fail;refine (zix id hid _).mono ?_;rintro e w' ⟨rfl,rfl⟩;cases hnm:zcw id;case false =>
     have HE2:=zH (show zay ⟨id,kind,x,y,refs,tags⟩=false by rw [HE.out,hnm];rfl);clear hnm;go_wp2;go_ret;exact ⟨zah HE2.out.symm,B2⟩
    have HNM:=zH hnm;clear hnm;by_cases hk:1≤kind∧kind≤5;case neg =>
     have HE2:=zH (show zay ⟨id,kind,x,y,refs,tags⟩=false by rw [HE.out,decide_eq_false hk];simp);have WD:=zH (fun w=>by have:=zhg kind w;rw [zho kind hk] at this;exact this);clear hk;go_wp2_with fail;refine (WD.out _).mono ?_;rintro e w3 ⟨rfl,hb3⟩;have B3:=zac B2 zR hb3;clear hb3 o0 o1 o2 o3 o4 o5;go_wp2;go_ret;exact ⟨zah HE2.out.symm,B3⟩
    obtain ⟨W,hW,w0,WD⟩:=zpr kind hk.1 hk.2;have WDH:=zH WD;have e1:W.toList.isEmpty=false:=zbo w0;have e0:¬W.toList=[]:=(by intro e;rw [e] at e1;simp at e1);have HKK:=zH hk;clear hW WD hk;go_wp2_with fail;refine (WDH.out _).mono ?_;rintro e w3 ⟨rfl,hb3⟩;have B3:=zac B2 zR hb3;have GO:=zH (zab hb3 GO.out);clear hb3 o0 o1 o2 o3 o4 o5 oz;have HO:=GO.out;obtain ⟨oz,o0,o1,o2,o3,o4,o5⟩:=rk6 HO;have HO':=zH HO;clear HO;clear HO';have HE2:=zH (show zay ⟨id,kind,x,y,refs,tags⟩=false by rw [HE.out];simp);go_wp2;go_ret;exact ⟨zah HE2.out.symm,B3⟩
end Go.Proofs.YtibpaaajghbkoaaGreat

namespace Go.Proofs.YtibpaaajghbkoaaGreat
open Go.RowKit
set_option maxRecDepth 100000 in
set_option maxHeartbeats 4000000 in
theorem zvj (v:Value) (l:List ObjD) (w:World) (hv:zbb w v l) :
  Calls Tryz.prog 65 #[.agg #[v]] w fun e w'=>e=.returned (.bool (zas l))∧Below w.heap.size w w':=by
 have mixed:Tryz.prog.follows .mixedOrders=true:=by kernel_rfl
 have HV:=zH hv;obtain ⟨a,cap,rfl,hn,hc⟩:=hv;obtain ⟨N,hN⟩:∃N,l.length=N:=⟨_,rfl⟩;rw [hN] at hn hc HV ⊢;have HN:=zH hN;have HC:=zH hc;clear hN hc;by_cases h6:1000000<N
 ·have HE:=zH (show zas l=false by rw [zas,HN.out];simp;omega);go_enter Tryz.func65,Tryz.ntmps65;go_wp2;go_ret;exact ⟨zah HE.out.symm,(Below.refl _ _).alloc zR _⟩
 have HL:=zH (show decide (N≤1000000)=true by rw [decide_eq_true_eq];omega);go_enter Tryz.func65,Tryz.ntmps65;go_wp2_with fail;generalize hw1:w.alloc _=w1;have B1:=gB1 hw1;have HM:=gA11 hw1;clear hw1;have HMh:=zH HM;obtain ⟨mz,m0⟩:=rk1 HM;have HM':=zH HM;clear HM;go_wp2;clear m0 mz HM';go_loopw [3] (fun i wr=>∃k:Nat,k≤N∧i=.int .i64 k∧zbc ⟨#[]⟩ l=zbc (zkh l k) (l.drop k)∧Below w1.heap.size w1 wr) (fun i _=>N - (intOf i).toNat);case atStart=>exact ⟨0,by omega,rfl,rfl,Below.refl _ _⟩
 case round =>
  obtain ⟨k,hk,rfl,hT,hbr⟩:=hrel;have HT:=zH hT;clear hT;have HM2:=zab hbr HMh.out;obtain ⟨mz,m0⟩:=rk1 HM2;have HM2':=zH HM2;clear HM2;by_cases hlt:k<N
  ·obtain ⟨o,ho⟩:∃o,l[k]?=some o:=⟨l[k]'(by rw [HN.out];exact hlt),List.getElem?_eq_getElem _⟩;obtain ⟨b,off,ha,hcell⟩:=HC.out (by omega);subst ha;have HCL:=zH (fun i o hi=>((hcell i o hi).later B1).later hbr);obtain ⟨vr,vt,c0,c1,c2,c3,c4,c5,hr,ht,hz⟩:=HCL.out k o ho;have HD:=zH (zjz (zkh l k) l k o ho);have HK:=zH (show zkh l (k+1)=o.id by simp [zkh,ho]);have RV:=zH (fun w' (hb:Below wr.heap.size wr w')=>zpx o.id o.kind o.x o.y vr vt o.refs o.tags w' hz (hr.later hb) (ht.later hb));obtain ⟨ok,hok⟩:∃z,z=zay o:=⟨_,rfl⟩;have RV:=zH (show ∀w' (hb:Below wr.heap.size wr w'),Calls Tryz.prog 118 #[.agg #[.string o.id,.int .i64 o.kind,.int .i64 o.x,.int .i64 o.y,vr,vt]] w' fun e w''=>e=.returned (.bool ok)∧Below w'.heap.size w' w'' by rw [hok];exact RV.out);obtain ⟨ar,capr,evr,_⟩:=hr;obtain ⟨at1,capt,evt,_⟩:=ht;subst evr evt;have d0:=zaa c0;have d1:=zaa c1;have d2:=zaa c2;have d3:=zaa c3;have d4:=zaa c4;have d5:=zaa c5;have dm:=zaa m0;clear hcell ho c0 c1 c2 c3 c4 c5 hz;cases ok with
   |false =>
    have HE:=zH (show zas l=false by unfold zas;rw [HT.out,HD.out,←hok];simp);clear hok;go_wp2_with fail;refine zae (by assumption) (by kernel_rfl) ?_;repeat (go_big_quiet_step (first | (go_at_call 118;exact zad (RV.out _ (zam.below _)))))
    refine wpQuiet_nil ?_;intro w6 hw';obtain ⟨⟨w7,hb7⟩,hw''⟩:=hw';subst hw'';have B7:=zac hbr zR hb7;go_wp2;go_ret;exact ⟨zah HE.out.symm,zac B1 zR B7⟩
   |true =>
    have HO:=zH hok.symm;clear hok;rcases k with _ | m
    ·have HG:=zH (show zbc ⟨#[]⟩ l=zbc (zkh l (0+1)) (l.drop (0+1)) by
      rw [HT.out,HD.out,HO.out,HK.out]
      have:ltB (zkh l 0) o.id=true:=ztz (zabh HO.out)
      rw [this];simp)
     simp only [Nat.zero_mul,Nat.add_zero] at d0 d1 d2 d3 d4 d5;go_wp2_with fail;refine zae (by assumption) (by kernel_rfl) ?_;repeat (go_big_quiet_step (first | (go_at_call 118;exact zad (RV.out _ (zam.below _)))))
     refine wpQuiet_nil ?_;intro w6 hw';obtain ⟨⟨w7,hb7⟩,hw''⟩:=hw';subst hw'';have B7:=zac hbr zR hb7;go_wp2;go_roundw;case rel=>exact ⟨0+1,by omega,by go_num,HG.out,B7⟩
     case measure=>simp [intOf];omega
    ·obtain ⟨p,hp⟩:∃p,l[m]?=some p:=⟨l[m]'(by rw [HN.out];omega),List.getElem?_eq_getElem _⟩;obtain ⟨vr',vt',p0,-,-,-,-,-,-,-,-⟩:=HCL.out m p hp;have q0:=zaa p0;have HKP:=zH (show zkh l (m+1)=p.id by simp [zkh,hp]);have WM:IntKind.i64.wrap (((m+1:Nat):Int) - 1)=(m:Int):=(IntWalk.i64_in _ (by omega)).trans (by omega);have WG:decide ((0:Int)<((m+1:Nat):Int))=true:=(by rw [decide_eq_true_eq];omega);clear hp p0;cases hlt2:ltB p.id o.id with
     |false =>
      have HE:=zH (show zas l=false by unfold zas;rw [HT.out,HD.out,HKP.out,hlt2];simp);have LQ:Op.bytesLess p.id.toList o.id.toList=false:=hlt2;clear hlt2;go_wp2_with fail;refine zae (by assumption) (by kernel_rfl) ?_;repeat (go_big_quiet_step (first | (go_at_call 118;exact zad (RV.out _ (zam.below _)))))
      refine wpQuiet_nil ?_;intro w6 hw';obtain ⟨⟨w7,hb7⟩,hw''⟩:=hw';subst hw'';have B7:=zac hbr zR hb7;go_wp2;go_ret;exact ⟨zah HE.out.symm,zac B1 zR B7⟩
     |true =>
      have LQ:Op.bytesLess p.id.toList o.id.toList=true:=hlt2;have HG:=zH (show zbc ⟨#[]⟩ l=zbc (zkh l (m+1+1)) (l.drop (m+1+1)) by rw [HT.out,HD.out,HO.out,HK.out,HKP.out,hlt2];simp)
      clear hlt2;go_wp2_with fail;refine zae (by assumption) (by kernel_rfl) ?_;repeat (go_big_quiet_step (first | (go_at_call 118;exact zad (RV.out _ (zam.below _)))))
      refine wpQuiet_nil ?_;intro w6 hw';obtain ⟨⟨w7,hb7⟩,hw''⟩:=hw';subst hw'';have B7:=zac hbr zR hb7;go_wp2;go_roundw;case rel=>exact ⟨m+1+1,by omega,by go_num,HG.out,B7⟩
      case measure=>simp [intOf];omega
  ·obtain rfl:k=N:=(by omega);have HE:=zH (show zas l=true by
    rw [zas,HT.out,HN.out,HL.out,List.drop_of_length_le (by rw [HN.out];exact Nat.le_refl _)]
    simp [zbc])
   go_wp2;go_ret;exact ⟨zah HE.out.symm,zac B1 zR hbr⟩
end Go.Proofs.YtibpaaajghbkoaaGreat

namespace Go.Proofs.YtibpaaajghbkoaaGreat
open Go.RowKit
section
variable {α:Type} {enc:α→List Value} {k:Nat}
theorem zvz (hk:∀x,(enc x).length=k) {w:World} {base n g cap:Nat} {e:TypeId} {l:List α} (h:w.ownsRow base e k (.slice (some ⟨g,0,none⟩) n cap) n (l.flatMap enc)) (hn:n=l.length) {j:Nat} {x x':α} (hx:l[j]?=some x) {o:Nat} {vs:List Value}
  (hle:o+vs.length≤k) (he:∀r,r<k→(enc x')[r]?=if o≤r∧r<o+vs.length then vs[r - o]? else (enc x)[r]?) :
  (w.setCells g (j * k+o) vs).ownsRow base e k (.slice (some ⟨g,0,none⟩) n cap) n ((l.set j x').flatMap enc)∧w.grownBy (w.setCells g (j * k+o) vs) (some g):=by
 subst hn;refine ⟨⟨by rw [zbs enc k hk,List.length_set],?_⟩,zal _ _ _⟩;obtain ⟨hlen,h2⟩:=h;have hjl:j<l.length:=(List.getElem?_eq_some_iff.1 hx).1;rcases h2 with ⟨h2,_⟩ | ⟨g',cap',cur,hv,hb,hc,h3,h4,h5,h6⟩
 ·cases h2
 ·injection hv with e1 e2 e3;injection e1 with e1;injection e1 with e1;subst e1 e3;have hjk:j * k+k≤l.length * k:=by have:=Nat.mul_le_mul_right k (Nat.succ_le_of_lt hjl);rw [Nat.succ_mul] at this;exact this
  have hlc:l.length * k≤cur.size:=by rw [h5];exact Nat.mul_le_mul_right k h3
  refine Or.inr ⟨_,_,zfy cur (j * k+o) vs,rfl,hb,zbf vs _ w cur hc,h3,h4,by rw [zjs];exact h5,?_⟩;apply List.ext_getElem?;intro i;rw [List.getElem?_take];by_cases hi:i<l.length * k
  ·rw [if_pos hi,Array.getElem?_toList,ziv vs cur _ (by omega)];have hk0:0<k:=by
    rcases Nat.eq_zero_or_pos k with h | h
    ·rw [h,Nat.mul_zero] at hi;omega
    ·exact h
   obtain ⟨q,r,hr,rfl⟩:∃q r,r<k∧i=q * k+r:=⟨i / k,i % k,Nat.mod_lt _ hk0,by rw [Nat.mul_comm,Nat.div_add_mod]⟩;have hq:q<l.length:=by
    rcases Nat.lt_or_ge q l.length with h | h
    ·exact h
    ·have:=Nat.mul_le_mul_right k h;omega
   have hold:cur[q * k+r]?=(enc l[q])[r]?:=by have h7:=zey enc k hk l q r _ (List.getElem?_eq_getElem hq) hr;rw [←h6,List.getElem?_take,if_pos hi,Array.getElem?_toList] at h7;exact h7
   by_cases hqj:q=j
   ·subst hqj;have hxq:l[q]=x:=(by rw [List.getElem?_eq_getElem hq] at hx;exact Option.some.inj hx);have hnew:=zey enc k hk (l.set q x') q r x' (by rw [List.getElem?_set_self hq]) hr;rw [hnew,he r hr,hold,hxq];by_cases hc2:o≤r∧r<o+vs.length
    ·rw [if_pos hc2,if_pos ⟨by omega,by omega⟩];congr 1;omega
    ·rw [if_neg hc2,if_neg (fun c=>hc2 ⟨by omega,by omega⟩)]
   ·have hnew:=zey enc k hk (l.set j x') q r l[q] (by rw [List.getElem?_set_ne (fun e=>hqj e.symm)];exact List.getElem?_eq_getElem hq) hr;rw [hnew,hold];have hout:¬(j * k+o≤q * k+r∧q * k+r<j * k+o+vs.length):=by
     rintro ⟨c1,c2⟩;rcases Nat.lt_or_gt_of_ne hqj with h | h
     ·have h8:=Nat.mul_le_mul_right k (Nat.succ_le_of_lt h);rw [Nat.succ_mul] at h8;omega
     ·have h8:=Nat.mul_le_mul_right k (Nat.succ_le_of_lt h);rw [Nat.succ_mul] at h8;omega
    rw [if_neg hout]
  ·rw [if_neg hi];symm;rw [List.getElem?_eq_none_iff,zbs enc k hk,List.length_set];omega
theorem zagq (hk:∀x,(enc x).length=k) {w:World} {base n g cap:Nat} {e:TypeId} {l:List α} (h:w.ownsRow base e k (.slice (some ⟨g,0,none⟩) n cap) n (l.flatMap enc)) (hn:n=l.length) {j:Nat} (hj:j<l.length) (x':α) :
  (w.setCells g (j * k) (enc x')).ownsRow base e k (.slice (some ⟨g,0,none⟩) n cap) n ((l.set j x').flatMap enc)∧w.grownBy (w.setCells g (j * k) (enc x')) (some g):=by
 have:=zvz hk h hn (List.getElem?_eq_getElem hj) (x':=x') (o:=0) (vs:=enc x') (by rw [hk];omega) (fun r hr=>by rw [if_pos ⟨Nat.zero_le _,by rw [hk];omega⟩,Nat.sub_zero])
 simpa using this
end
end Go.Proofs.YtibpaaajghbkoaaGreat
