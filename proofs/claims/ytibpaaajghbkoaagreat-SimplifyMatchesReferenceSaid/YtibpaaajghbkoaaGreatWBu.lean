/-     -/
import Derived.Test.YtibpaaajghbkoaaGreatWBt
import Derived.Test.YtibpaaajghbkoaaGreatWBn
import Derived.Test.YtibpaaajghbkoaaGreatWBd
import Derived.Test.YtibpaaajghbkoaaGreatWBh
import Derived.Test.YtibpaaajghbkoaaGreatWAm
import Derived.Test.YtibpaaajghbkoaaGreatWAj
import Derived.BigQuiet
import Derived.Test.YtibpaaajghbkoaaGreatWBg
import Derived.Test.YtibpaaajghbkoaaGreatWAd
namespace Go.Proofs.YtibpaaajghbkoaaGreat
open Go.RowKit Go.Sort
set_option maxRecDepth 100000 in
set_option maxHeartbeats 4000000 in
theorem zadr (v:Value) (l:List ObjD) (w:World) (hv:zbb w v l) (hok:zas l=true) (hl:l.length≤1000) (hr:∀o∈l,o.refs.length≤40) :
  Calls Tryz.prog 121 #[.agg #[v]] w fun e w'=>∃v',e=.returned v'∧zru w' v' l∧Below w.heap.size w w':=by
 have mixed:Tryz.prog.follows .mixedOrders=true:=by kernel_rfl
 have RV:=zH (fun W hb=>zvi v l W (hv.later (w':=W) hb));have HV:=zH (fun W (hb:Below w.heap.size w W)=>hv.later (w':=W) hb);have HOK:=zH hok;have HRR:=zH hr;obtain ⟨a,cap,rfl,hn,hc⟩:=hv;obtain ⟨N,hN⟩:∃N,l.length=N:=⟨_,rfl⟩;rw [hN] at hn hc hl RV HV ⊢;have HN:=zH hN;have HC:=zH hc;clear hN hc hok hr;go_enter Tryz.func121,Tryz.ntmps121;go_wp2_with fail;generalize hw1:w.alloc _=w1;have B1:=gB1 hw1;have HM:=gA11 hw1;have hz1:w.heap.size<w1.heap.size:=zaf HM;have HM1:=zH HM;clear hw1 HM;refine (RV.out _ B1).mono ?_;rintro e w2 ⟨rfl,hb2⟩;rw [HOK.out];have B2:=zac B1 (by omega) hb2;have HM2:=zH (zab hb2 HM1.out);have hz2:w.heap.size<w2.heap.size:=Nat.lt_of_lt_of_le hz1 hb2.size;clear hb2 B1 HM1 RV hz1;go_wp2_with fail;go_loopw [3,4] (fun v3 i wr=>∃(acc:List (KeyD × List ByteArray)) (k:Nat),i=.int .i64 k∧k≤N∧BrAt wr w2.heap.size v3 l acc∧znw l k acc∧zxu (100 * k) acc∧Below w2.heap.size w2 wr) (fun _ i _=>N - (intOf i).toNat);case atStart=>exact ⟨[],0,rfl,by omega,BrAt.nil _ _ _,znw.nil l,⟨by simp,by simp⟩,Below.refl _ _⟩
 case round =>
  obtain ⟨acc,k,rfl,hk,hbr,hin,hle,hb⟩:=hrel;have HBR:=zH hbr;have HIN:=zH hin;have HLE:=zH hle;have B3:=zac B2 (by omega) hb;have HMr:=zab hb HM2.out;have hzr:=hb.size;clear hbr hin hle;by_cases hlt:k<N
  ·obtain ⟨o,ho⟩:∃o,l[k]?=some o:=⟨l[k]'(by rw [HN.out];exact hlt),List.getElem?_eq_getElem _⟩;have hmem:=zM ho;obtain ⟨b,off,hab,hcell⟩:=HC.out (by omega);subst hab;obtain ⟨vr,vt,c0,c1,c2,c3,c4,c5,hrr,htt,hidz⟩:=hcell k o ho;replace c0:=cell_later B3 c0;replace c1:=cell_later B3 c1;replace c2:=cell_later B3 c2;replace c3:=cell_later B3 c3;replace c4:=cell_later B3 c4;replace c5:=cell_later B3 c5;obtain ⟨ar,cr,hvr,_⟩:=id hrr;obtain ⟨at1,ct,hvt,_⟩:=id htt;subst hvr hvt;obtain ⟨nr,hnr⟩:∃z,z=o.refs.length:=⟨_,rfl⟩;obtain ⟨nt,hnt⟩:∃z,z=o.tags.length:=⟨_,rfl⟩;rw [←hnr] at c4 hrr;rw [←hnt] at c5 htt;have HRO:=zH hrr;have HTO:=zH htt;have HOO:=zH ho;have HOB:=zH (zda HOK.out hmem);have HR12:=zH (HRR.out o hmem);have bz:=zag c0;clear hcell ho hmem hrr htt hnr hnt;obtain ⟨mz,m0⟩:=rk1 HMr;have HMr':=zH HMr;clear HMr;go_wp2_with fail;generalize hwa:wr.alloc _=wa;have BA:=gB1 hwa;have HX:=gA11 hwa;clear hwa c0 c1 c2 c3 c4 c5 bz m0 mz;obtain ⟨Bo,hBo⟩:∃z,z=wr.heap.size:=⟨_,rfl⟩;rw [←hBo] at HX ⊢;clear hBo;have HX1:=zH HX;have hza:=zaf HX;have BBa:=zac B3 (by have:=B3.size;omega) BA;refine (zadf o _ _ wa (HRO.out.later BBa) (HTO.out.later BBa) HOB.out (by have:=HR12.out;omega)).mono ?_;rintro e wb ⟨vs,rfl,hos,hbb⟩;have B4:=zac BBa (by have:=BBa.size;omega) hbb;have hb4:=hb.trans ((BA.trans (hbb.mono BA.size)).mono hzr);have HXb:=zH (zab hbb HX1.out);have Bwb:=BA.trans (hbb.mono BA.size);have HBb:=zH (HBR.out.on (BA.trans (hbb.mono BA.size)));obtain ⟨sa,sc,hvs⟩:=zjy hos;subst hvs;obtain ⟨m,hm⟩:∃z,z=(sdP o).length:=⟨_,rfl⟩;rw [←hm] at hos ⊢;have HM:=zH hm;have HOS:=zH hos;have hmb:m≤100:=by
    rw [hm];unfold sdP;have:=HR12.out;split
    ·have:(zbh o).length=zdp o:=(by unfold zbh;simp);rw [this];unfold zdp;split<;>omega
    ·simp
   clear hos hm hbb hb HBR HX1 BBa B3;obtain ⟨wo,rfl⟩:∃z:World,z=wr:=⟨_,rfl⟩;cases hB:isB l o with
   |false =>
    have HIN2:=zH (HIN.out.skip HOO.out hB);have HSB:=zH (show 0<m→zfn l o=false by
     intro h0
     have hB':=hB
     unfold isB at hB'
     rw [HM.out] at h0
     unfold sdP at h0
     split at h0
     ·rename_i hk2
      rw [decide_eq_true hk2,Bool.true_and] at hB';exact hB'
     ·simp at h0)
    have HKD:=zH (show 0<m→o.kind≠4∧o.kind≠5 by
     intro h0
     rw [HM.out] at h0
     unfold sdP at h0
     split at h0
     ·rename_i hk2;omega
     ·simp at h0)
    clear hB;go_wp2_with fail;go_loopw [3,7] (fun v3 v7 wx=>v7=.int .i64 (0:Nat)∧v3=u3∧wx=wb) (fun _ _ _=>0);case atStart=>exact ⟨rfl,rfl,rfl⟩
    case round =>
     obtain ⟨rfl,rfl,hwx⟩:=hrel;rw [hwx];clear hwx;have HMb:=zab hb4 HM2.out;obtain ⟨xz,x0,x1,x2,x3,x4,x5⟩:=rk6 HXb.out;obtain ⟨qz,q0⟩:=rk1 HMb;have HMb':=zH HMb;clear HMb;by_cases h0:0<m
     ·have hd:decide (((0:Nat):Int)<(m:Int))=true:=decide_eq_true (by omega);have hd':((0:Nat):Int)<(m:Int):=(by omega);obtain ⟨k4,k5⟩:=HKD.out h0;go_wp2_with (go_at_call 66;refine (zsb _ _ _ l o wb (HV.out wb B4) (HRO.out.later B4) (HTO.out.later B4) HOK.out k4 k5).mono ?_;rintro e w5 ⟨rfl,hb5⟩;rw [HSB.out h0];have HB5:=zH (HBb.out.on hb5);have hb9:=zH (hb4.trans (hb5.mono (by have:=hb4.size;omega)));clear hb5 hb4);go_roundw;case rel=>exact ⟨acc,k+1,by go_num,by omega,HB5.out,HIN2.out,HLE.out.mono (by omega),hb9.out⟩
      case measure=>simp [intOf];omega
     ·have hd:decide (((0:Nat):Int)<(m:Int))=false:=decide_eq_false (by omega);have hd':¬((0:Nat):Int)<(m:Int):=(by omega);go_wp2;go_roundw;case rel=>exact ⟨acc,k+1,by go_num,by omega,HBb.out,HIN2.out,HLE.out.mono (by omega),hb4⟩
      case measure=>simp [intOf];omega
   |true =>
    have HIN2:=zH (fun acc' h=>znw.next (acc:=acc') HOO.out hB h);have hkk:=zpm hB;have HSB:=zH (show zfn l o=true by unfold isB at hB;rw [Bool.and_eq_true] at hB;exact hB.2)
    have k4:o.kind≠4:=(by omega);have k5:o.kind≠5:=(by omega);have hsd:sdP o=zbh o:=(by unfold sdP;rw [if_pos hkk]);have hmS:m=zdp o:=(by rw [HM.out,hsd];unfold zbh;simp);have HKP:=zH (show zgz o (.slice ar nr cr) (.slice at1 nt ct) (.slice sa m sc) w2 Bo wa.heap.size m wb from ⟨hb4,HXb.out,by have:=HOS.out;rwa [hsd] at this⟩);have HST:=zH (HIN.out.start o);have HSTEP:=zH (fun (j:Nat) acc' (hj:j<m) h=>zaai.step (acc:=acc') HOK.out HOO.out (show j<zdp o by omega) h);have HND:=zH (fun (j:Nat) (hj:j<m)=>zadb HSB.out (show j<zdp o by omega));have HGET:=zH (fun (j:Nat) (hj:j<m)=>zpt (show j<zdp o by omega));have HML:=zH (show m=(zbh o).length by rw [HM.out,hsd]);have HMS:=zH hmS;have HZ2:=zH hidz;clear hsd hmS HM HOS hkk hB hidz;go_wp2_with fail;go_loopw [3,7] (fun v3 v7 wx=>∃(acc':List (KeyD × List ByteArray)) (j:Nat),v7=.int .i64 j∧j≤m∧BrAt wx w2.heap.size v3 l acc'∧zaai l (l.take k) o j acc'∧zxu (100 * k+j) acc'∧zgz o (.slice ar nr cr) (.slice at1 nt ct) (.slice sa m sc) w2 Bo wa.heap.size m wx) (fun _ v7 _=>m - (intOf v7).toNat);case atStart=>exact ⟨acc,0,rfl,by omega,HBb.out,HST.out,HLE.out.mono (by omega),HKP.out⟩
    case round =>
     obtain ⟨acc',j,rfl,hj,hbr2,hst2,hle2,hkp⟩:=hrel;have HB2:=zH hbr2;have HS2:=zH hst2;have HL2:=zH hle2;have HK2:=zH hkp;have B5:=zac B2 (by omega) hkp.1;have HXx:=zH hkp.2.1;have HMx:=zab hkp.1 HM2.out;clear hbr2 hst2 hle2 hkp;by_cases hlj:j<m
     ·have hd:decide ((j:Int)<(m:Int))=true:=decide_eq_true (by omega);have hd':(j:Int)<(m:Int):=(by omega);have hj0:(0:Int)≤(j:Int):=(by omega);obtain ⟨g,cur,hg,_⟩:=ztk HK2.out.2.2 HML.out (HGET.out j hlj);subst hg;have CEL:=zH (fun (W:World) (h:zgz o (.slice ar nr cr) (.slice at1 nt ct) (.slice (some ⟨g,0,none⟩) m sc) w2 Bo wa.heap.size m W)=>ztk h.2.2 HML.out (HGET.out j hlj));have ND:=zH (HND.out j hlj);have ST:=zH (HSTEP.out j acc' hlj HS2.out);have HLJ:=zH hlj;obtain ⟨sk,hsk⟩:∃z,z=zds o j:=⟨_,rfl⟩;rw [←hsk] at CEL ND ST;clear hsk hlj;obtain ⟨xz,x0,x1,x2,x3,x4,x5⟩:=rk6 HXx.out;obtain ⟨qz,q0⟩:=rk1 HMx;have HMx':=zH HMx;clear HMx;go_wp2_with (go_at_call 66;refine (zsb _ _ _ l o wr (HV.out wr B5) (HRO.out.later B5) (HTO.out.later B5) HOK.out k4 k5).mono ?_;rintro e w5 ⟨rfl,hb5⟩;rw [HSB.out];replace HB2:=zH (HB2.out.on hb5);replace HK2:=zH (HK2.out.on hb5);clear hb5);clear x0 x1 x2 x3 x4 x5 xz;clear q0 qz;refine wp_region_mix 8 (fun W=>zgz o (.slice ar nr cr) (.slice at1 nt ct) (.slice (some ⟨g,0,none⟩) m sc) w2 Bo wa.heap.size m W) (fun W=>zgz o (.slice ar nr cr) (.slice at1 nt ct) (.slice (some ⟨g,0,none⟩) m sc) w2 Bo wa.heap.size m W∧BrAt W w2.heap.size u3 l acc') mixed (by kernel_rfl) (by kernel_rfl) (by kernel_rfl) ((zgz.stable _ _ _ _ _ _ _ _).and (StableW.br _ _ _ _)) (fun W hW=>hW.1) ⟨HK2.out.on (Below.refl _ _).drew,HB2.out.on (Below.refl _ _).drew⟩ ?_;apply Exists.intro;refine ⟨fun W hW=>?_,?_⟩
      ·have HXh:=zH hW.2.1;have HMh:=zH (zab hW.1 HM2.out);obtain ⟨g',cur',hg',hh,c0,c1⟩:=CEL.out W hW;injection hg' with hg';injection hg' with hg';subst hg';obtain ⟨xz,x0,x1,x2,x3,x4,x5⟩:=rk6 HXh.out;have qx0:=zaa x0;have qx1:=zaa x1;have qx2:=zaa x2;have qx3:=zaa x3;have qx4:=zaa x4;have qx5:=zaa x5;clear x0 x1 x2 x3 x4 x5;obtain ⟨qz,q0⟩:=rk1 HMh.out;have qq0:=zaa q0;clear q0;have y0:=zaa c0;have y1:=zaa c1;have yz:=zag c0;clear c0 c1 hh;simp only [List.take_succ_cons,List.take_zero];repeat (go_big_quiet_step (fail))
       exact wpQuiet_nil rfl
      ·simp only [List.drop_succ_cons,List.drop_zero];refine tailM_step (ι:=Value) (fun v=>v) (fun v' W=>zgz o (.slice ar nr cr) (.slice at1 nt ct) (.slice (some ⟨g,0,none⟩) m sc) w2 Bo wa.heap.size m W∧BrAt W w2.heap.size v' l (rput sk o.id acc')) rfl (fun _=>(zgz.stable _ _ _ _ _ _ _ _).and (StableW.br _ _ _ _)) (fun _ _ h=>h.1) (fun W hS K hK=>?_) (fun v'=>?_)
       ·obtain ⟨hS1,hS2⟩:=hS;go_simp;refine (zalf u3 _ l acc' sk o.id w2.heap.size W hS2 (HV.out W (zac B2 (by omega) hS1.1)) HOK.out ND.out.1 ND.out.2 (Nat.le_trans HL2.out.1 (by have:=HLJ.out;omega)) (fun p hp=>Nat.le_trans (HL2.out.2 p hp) (by have:=HLJ.out;omega)) hS1.1.size HZ2.out).mono ?_;rintro e w6 ⟨v6,rfl,hbr6,hg6,_⟩;exact hK v6 w6 ⟨hS1.put hS2 hg6,hbr6⟩
       ·simp only [Act.put,List.setIfInBounds_toArray,List.set_cons_succ,List.set_cons_zero];refine tailM_pure v' rfl ((zgz.stable _ _ _ _ _ _ _ _).and (StableW.br _ _ _ _)) (fun _ h=>h.1) (fun W hS K hK=>?_) (tailM_nil fun W hW=>?_)
        ·go_simp;exact hK
        obtain ⟨hW1,hW2⟩:=hW;have HW1:=zH hW1;have HW2:=zH hW2;clear hW1 hW2;simp only [Act.put,List.setIfInBounds_toArray,List.set_cons_succ,List.set_cons_zero];have hlj:=HLJ.out;go_wp2;go_roundw;case rel=>exact ⟨_,j+1,by go_num,by omega,HW2.out,ST.out,(HL2.out.step _ _).mono (by omega),HW1.out⟩
        case measure=>simp [intOf];omega
     ·obtain rfl:j=m:=(by omega);have hd:decide ((j:Int)<(j:Int))=false:=decide_eq_false (by omega);have hd':¬(j:Int)<(j:Int):=(by omega);have HN2:=zH (HIN2.out acc' (by have:=HS2.out;rwa [HMS.out] at this));obtain ⟨xz,x0,x1,x2,x3,x4,x5⟩:=rk6 HXx.out;obtain ⟨qz,q0⟩:=rk1 HMx;have HMx':=zH HMx;clear HMx;go_wp2;go_roundw;case rel=>exact ⟨acc',k+1,by go_num,by omega,HB2.out,HN2.out,HL2.out.mono (by omega),HK2.out.1⟩
      case measure=>simp [intOf];omega
  ·obtain rfl:k=N:=(by omega);have HF:=zH (show zru wr u3 l by
    have h:=HBR.out
    have h2:=HIN.out
    rw [←HN.out] at h2
    rw [h2.all] at h
    exact h.brs)
   obtain ⟨mz,m0⟩:=rk1 HMr;have HMr':=zH HMr;clear HMr;go_wp2;go_ret;exact ⟨_,rfl,HF.out,B3⟩
theorem zalk (v:Value) (l:List ObjD) (w:World) (hv:zbb w v l) (hok:zas l=true) (hl:l.length≤1000) (hr:∀o∈l,o.refs.length≤40) :
  Calls Tryz.prog 67 #[.agg #[v]] w fun e w'=>∃v',e=.returned v'∧zkg w' v' (zdf l)∧Below w.heap.size w w':=by
 obtain ⟨a,cap,hv',_⟩:=id hv;subst hv';exact zagj a _ cap l w hok hl (fun x hx=>zjd hv x hx) fun W hb=>zadr _ l W (hv.later hb) hok (by omega) hr
end Go.Proofs.YtibpaaajghbkoaaGreat

namespace Go.Proofs.YtibpaaajghbkoaaGreat
open Go.RowKit Go.Sort
set_option maxRecDepth 100000 in
set_option maxHeartbeats 4000000 in
theorem zalh (v:Value) (l:List ObjD) (w:World) (hv:zbb w v l) (hl:l.length≤1000) (hr:∀o∈l,o.refs.length≤40) :
  Calls Tryz.prog 34 #[.agg #[v]] w fun e w'=>e=.returned (.bool (fitP l))∧Below w.heap.size w w':=by
 have mixed:Tryz.prog.follows .mixedOrders=true:=by kernel_rfl
 have RV:=zH (fun W (hb:Below w.heap.size w W)=>zvj v l W (hv.later hb));have RC:=zH (fun (hok:zas l=true) W (hb:Below w.heap.size w W)=>zalk v l W (hv.later hb) hok hl hr);have RS:=zH (fun (hok:zas l=true) o (ho:o∈l) xr xt W (hb:Below w.heap.size w W) (h1:zaj W xr o.refs) (h2:zba W xt o.tags)=>zyj v xr xt l o W (hv.later hb) h1 h2 hok ho);obtain ⟨a,cap,rfl,hn,hc⟩:=hv;obtain ⟨N,hN⟩:∃N,l.length=N:=⟨_,rfl⟩;rw [hN] at hn hc hl RV RC RS ⊢;have HN:=zH hN;have HC:=zH hc;clear hc hN hr;go_enter Tryz.func34,Tryz.ntmps34;go_upto_region 1 with fail;generalize hw1:w.alloc _=w1;have B1:=gB1 hw1;have G1:=gA11 hw1;obtain ⟨g1,hg1⟩:∃z,z=w.heap.size:=⟨_,rfl⟩;rw [←hg1] at G1 ⊢;have G1:=zH G1;clear hw1 hg1;obtain ⟨bo,hbo⟩:∃z,zas l=z:=⟨_,rfl⟩;have R1:=RV.out w1 B1;rw [hbo] at R1;have R1:=zH R1;have HBO:=zH hbo;clear hbo;obtain ⟨mz,m0⟩:=rk1 G1.out;go_wp2_with fail;refine R1.out.mono ?_;rintro e w2 ⟨rfl,hb⟩;have B2:=zac B1 zR hb;have G2:=zH (zab hb G1.out);clear m0 mz;clear hb R1;cases bo with
 |false =>have HF:=zH (show fitP l=false by unfold fitP;rw [HBO.out];rfl);go_wp2;go_ret;exact ⟨by rw [HF.out]<;>rfl,B2⟩
 |true =>
  go_wp2_with fail;go_loopw [3] (fun i wr=>∃k:Nat,i=.int .i64 k∧k≤N∧(∀q∈l.take k,sndA l q=true)∧Below w2.heap.size w2 wr) (fun i _=>N - (intOf i).toNat);case atStart=>exact ⟨0,rfl,Nat.zero_le _,(fun q hq=>by simp at hq),Below.refl _ _⟩
  case round =>
   obtain ⟨k,rfl,hk,hall,hbr⟩:=hrel;obtain ⟨wq,rfl⟩:∃z:World,z=wr:=⟨_,rfl⟩;have BQ:=zac B2 zR hbr;have GQ:=zH (zab hbr G2.out);have HALL:=zH hall;clear hall;by_cases hlt:k<N
   ·obtain ⟨o,ho⟩:∃o,l[k]?=some o:=⟨l[k]'(by rw [HN.out];exact hlt),List.getElem?_eq_getElem _⟩;obtain ⟨b,off,ha,hcell⟩:=HC.out (by omega);subst ha;obtain ⟨vr,vt,c0,c1,c2,c3,c4,c5,hsr,htr,hz⟩:=(hcell k o ho).later BQ;have HSR:=zH hsr;have HTR:=zH htr;obtain ⟨ar,capr,rfl,-⟩:=hsr;obtain ⟨at1,capt,rfl,-⟩:=htr;have HMO:=zH (zM ho);have HO:=zH ho;have SX:=zH (fun W (hb:Below wq.heap.size wq W)=>RS.out HBO.out o HMO.out (.slice ar o.refs.length capr) (.slice at1 o.tags.length capt) W (zac BQ zR hb) (HSR.out.later hb) (HTR.out.later hb));obtain ⟨sb,hsb⟩:∃z,sndA l o=z:=⟨_,rfl⟩;rw [hsb] at SX;have HSB:=zH hsb;have c0:=zaa c0;have c1:=zaa c1;have c2:=zaa c2;have c3:=zaa c3;have c4:=zaa c4;have c5:=zaa c5;clear hcell ho hsb;obtain ⟨mz,m0⟩:=rk1 GQ.out;go_upto_region 6 with fail;clear m0 mz;obtain ⟨mz,m0⟩:=rk1 GQ.out;have qm0:=zaa m0;clear m0;refine zae mixed (by kernel_rfl) ?_;repeat (go_big_quiet_step ((go_at_call 66;exact zad (SX.out _ (zam.below _)))))
    refine wpQuiet_nil ?_;intro wa hw';obtain ⟨⟨wz9,hba⟩,hw''⟩:=hw';subst hw'';have BA:=zac BQ zR hba;have BA2:=zac hbr zR hba;clear c0 c1 c2 c3 c4 c5 qm0;cases sb with
    |true =>
     have HNX:=zH (show ∀q∈l.take (k+1),sndA l q=true from fun q hq=>by
      rw [zbn HO.out] at hq
      rcases List.mem_append.1 hq with h | h
      ·exact HALL.out q h
      ·rw [List.mem_singleton.1 h];exact HSB.out)
     go_wp2;go_roundw;case rel=>exact ⟨k+1,by go_num,by omega,HNX.out,BA2⟩
     case measure=>simp [intOf];omega
    |false =>
     have HF:=zH (show fitP l=false by
      cases hf:fitP l with
      |false=>rfl
      |true =>
       have:=zaao.2 (zdb.1 hf).2.2 o HMO.out
       rw [HSB.out] at this;cases this)
     go_wp2;go_ret;exact ⟨by rw [HF.out]<;>rfl,BA⟩
   ·obtain rfl:k=N:=(by omega);have hfo:=zaao.1 (fun q hq=>HALL.out q (by rw [List.take_of_length_le (by rw [HN.out];exact Nat.le_refl _)];exact hq));have HFE:=zH (show fitP l=(((zdf l).length:Int)==0) by
     rw [Bool.eq_iff_iff,zdb,beq_iff_eq]
     constructor
     ·rintro ⟨_,h,_⟩;rw [h];rfl
     ·intro h
      exact ⟨HBO.out,List.length_eq_zero_iff.1 (by omega),hfo⟩)
    clear hfo;obtain ⟨mz,m0⟩:=rk1 GQ.out;go_wp2_with fail;refine (RC.out HBO.out wq BQ).mono ?_;rintro e w3 ⟨v3,rfl,hva,hb⟩;have B3:=zac BQ zR hb;obtain ⟨L3,hr3,hl3,_⟩:=hva;obtain ⟨a3,c3,hv3,_⟩:=hr3;subst hv3;have h3l:L3.length=(zdf l).length:=(by rw [←hl3,List.length_map]);rw [h3l];go_wp2;go_ret;exact ⟨by rw [HFE.out]<;>rfl,B3⟩
end Go.Proofs.YtibpaaajghbkoaaGreat

namespace Go.Proofs.YtibpaaajghbkoaaGreat
open Go.RowKit Go.Sort
set_option maxRecDepth 100000 in
set_option maxHeartbeats 4000000 in
theorem zym (v:Value) (l:List ObjD) (id:ByteArray) (w:World) (hv:zbb w v l) {x:ObjD} (hat:atO l id=some x) :
  Calls Tryz.prog 71 #[.agg #[v],.string id] w fun e w'=>e=.returned (.agg #[.int .i64 x.x,.int .i64 x.y])∧Below w.heap.size w w':=by
 have mixed:Tryz.prog.follows .mixedOrders=true:=by kernel_rfl
 have FD:=zH (fun w' (hb:Below w.heap.size w w')=>zyp v l id w' (hv.later hb));obtain ⟨j,hfj,hx⟩:∃j:Nat,zni id l=(j:Int)∧l[j]?=some x:=by
  rcases zajb (l:=l) (r:=id) with ⟨-,h⟩ | ⟨j,y,h1,h2,h3⟩
  ·rw [hat] at h;cases h
  ·rw [hat] at h3;cases h3;exact ⟨j,h1,h2⟩
 rw [hfj] at FD;obtain ⟨a,cap,rfl,hln,hc⟩:=hv;obtain ⟨N,hN⟩:∃N,l.length=N:=⟨_,rfl⟩;have hjN:j<N:=by rw [←hN];exact (List.getElem?_eq_some_iff.1 hx).1
 rw [hN] at hln hc FD ⊢;obtain ⟨bo,offo,rfl,hcell⟩:=hc (by omega);obtain ⟨vr',vt',-,-,c2,c3,-,-,-,-,-⟩:=hcell j x hx;have C2:=zH c2;have C3:=zH c3;clear hN hc hcell c2 c3 hx hfj hat;go_enter Tryz.func71,Tryz.ntmps71;go_wp2_with fail;generalize hw1:(w.alloc _).alloc _=w1;have B1:=gB2 hw1;have HA:=gA21 hw1;have HR:=gA22 hw1;have hws:w1.heap.size=w.heap.size+2:=by rw [←hw1];simp
 clear hw1;obtain ⟨R,hR⟩:∃R,w.heap.size+1=R:=⟨_,rfl⟩;rw [hR] at HR ⊢;have hRz:=zaf HR;have hzw:w.heap.size<R:=by omega
 have jb:(0:Int)≤(j:Int):=by omega
 have jb2:(j:Int)<(N:Int):=by omega
 have HAh:=zH HA;have HRh:=zH HR;clear HA HR hR hws;refine wp_region_mix 8 (fun W=>Below R w1 W) (fun W=>Below w1.heap.size w1 W) mixed (by kernel_rfl) (by kernel_rfl) (by kernel_rfl) (StableW.below _ _ zR) (fun W hW=>hW.mono (by omega)) (Below.refl _ _).drew ?_;apply Exists.intro;refine ⟨fun W hW=>?_,?_⟩
 ·have BW:Below w.heap.size w W:=B1.trans (hW.mono (by omega));have HA:=(hW.block _ hzw).trans HAh.out;obtain ⟨mz,m0⟩:=rk1 HA;have HA':=zH HA;clear HA;have d0:=zaa m0;have d2:=zaa (cell_later BW C2.out);have d3:=zaa (cell_later BW C3.out);have FDW:=zH (fun w' (hb:Below W.heap.size W w')=>FD.out w' (zac BW zR hb));clear m0;simp only [List.take_succ_cons,List.take_zero];repeat (go_big_quiet_step (first | (go_at_call 127;exact zad (FDW.out _ (zam.below _)))))
  exact wpQuiet_nil rfl
 ·simp only [List.drop_succ_cons,List.drop_zero];refine tailM_step (ι:=Unit) (fun _=>undef) (fun _ W=>Below R w1 W∧W.heap[R]?=some (.cells #[.int .i64 x.x,.int .i64 x.y] 33)) rfl (fun _=>(StableW.below _ _ (by omega)).and (StableW.row _ _)) (fun _ W h=>h.1) (fun W hS K hK=>?_) (fun _=>tailM_nil fun W hW=>?_)
  ·have HR:=zab hS HRh.out;obtain ⟨rz,r0,r1⟩:=rk2 HR;have rf0:=frozen_of_row W _ 0 _ _ HR;have rf1:=frozen_of_row W _ 1 _ _ HR;have HR':=zH HR;clear HR;go_simp;exact hK () _ ⟨((hS.mono (Nat.le_of_lt hRz)).setCell (p:=⟨R,0,none⟩) zR _).setCell (p:=⟨R,1,none⟩) zR _,zbl (i:=1) (zbl (i:=0) HR'.out)⟩
  ·obtain ⟨hW1,HR⟩:=hW;have BW:Below w.heap.size w W:=B1.trans (hW1.mono (by omega));obtain ⟨rz,r0,r1⟩:=rk2 HR;have HR':=zH HR;clear HR;simp only [Act.put];go_wp2;refine bodyPost_ret (v:=.agg #[.int .i64 x.x,.int .i64 x.y]) ?_ rfl ⟨rfl,BW⟩;simp [results,Tryz.results71,go_sem,r0,r1]
theorem zagd (v:Value) (l:List ObjD) (id:ByteArray) (w:World) (hv:zbb w v l) (hok:zas l=true) {x:ObjD} (hat:atO l id=some x) (hk:x.kind=1) :
  Calls Tryz.prog 71 #[.agg #[v],.string id] w fun e w'=>e=.returned (ptV (ptO l id))∧Below w.heap.size w w':=by
 rw [zalo hok hat hk];exact zym v l id w hv hat
theorem zaoj {a b c:Pt} (ha:zat a=true) (hb:zat b=true) (hc:zat c=true):0≤zdr a b c∧zdr a b c≤35184372088832:=by have s1:=zfe ha hb;have s2:=zfe ha hc;have h1:=zil (show -4194304≤b.1 - a.1∧b.1 - a.1≤4194304 from ⟨s1.1,s1.2.1⟩) (show -4194304≤c.2 - a.2∧c.2 - a.2≤4194304 from ⟨s2.2.2.1,s2.2.2.2⟩);have h2:=zil (show -4194304≤b.2 - a.2∧b.2 - a.2≤4194304 from ⟨s1.2.2.1,s1.2.2.2⟩) (show -4194304≤c.1 - a.1∧c.1 - a.1≤4194304 from ⟨s2.1,s2.2.1⟩);have e:crs a b c=(b.1 - a.1) * (c.2 - a.2) - (b.2 - a.2) * (c.1 - a.1):=rfl;unfold zdr;rw [e];omega
set_option maxRecDepth 100000 in
set_option maxHeartbeats 4000000 in
theorem zalg (a b c p:Pt) (ha:zat a=true) (hb:zat b=true) (hc:zat c=true) (hp:zat p=true) (w:World) :
  Calls Tryz.prog 126 #[ptV a,ptV b,ptV c,ptV p] w fun e w'=>e=.returned (.bool (inR a b c p))∧Below w.heap.size w w':=by
 have mixed:Tryz.prog.follows .mixedOrders=true:=by kernel_rfl
 have SZ:=zH (fun W=>zkp a b c ha hb hc W);have S1:=zH (fun W=>zkp a b p ha hb hp W);have S2:=zH (fun W=>zkp b c p hb hc hp W);have S3:=zH (fun W=>zkp a c p ha hc hp W);have hs:=fun {s:Pt × Pt} (h1:zat s.1=true) (h2:zat s.2=true)=>(show zbd s=true by unfold zbd;rw [Bool.and_eq_true];exact ⟨h1,h2⟩);have O1:=zH (fun W=>zmr (a,b) p (hs (s:=(a,b)) ha hb) hp W);have O2:=zH (fun W=>zmr (b,c) p (hs (s:=(b,c)) hb hc) hp W);have O3:=zH (fun W=>zmr (a,c) p (hs (s:=(a,c)) ha hc) hp W);have bd:=fun {a b c:Pt} (ha:zat a=true) (hb:zat b=true) (hc:zat c=true)=>zaoj ha hb hc;have b1:=bd ha hb hp;have b2:=bd hb hc hp;have b3:=bd ha hc hp;have HE:=zH (show inR a b c p=(if zdr a b c=0 then onR (a,b) p || onR (b,c) p || onR (a,c) p else decide (zdr a b p+zdr b c p+zdr a c p=zdr a b c)) from rfl);generalize inR a b c p=res at HE ⊢;generalize zdr a b c=s0 at SZ HE;generalize zdr a b p=s1 at S1 HE b1;generalize zdr b c p=s2 at S2 HE b2;generalize zdr a c p=s3 at S3 HE b3;generalize onR (a,b) p=o1 at O1 HE;generalize onR (b,c) p=o2 at O2 HE;generalize onR (a,c) p=o3 at O3 HE;obtain ⟨ax,ay⟩:=a;obtain ⟨bx,by1⟩:=b;obtain ⟨cx,cy⟩:=c;obtain ⟨px,py⟩:=p;clear ha hb hc hp hs bd;have S1:=zH (show ∀W,Calls Tryz.prog 70 #[.agg #[.int .i64 ax,.int .i64 ay],.agg #[.int .i64 bx,.int .i64 by1],.agg #[.int .i64 px,.int .i64 py]] W (fun e w'=>e=.returned (.int .i64 s1)∧Below W.heap.size W w') from S1.out);have S2:=zH (show ∀W,Calls Tryz.prog 70 #[.agg #[.int .i64 bx,.int .i64 by1],.agg #[.int .i64 cx,.int .i64 cy],.agg #[.int .i64 px,.int .i64 py]] W (fun e w'=>e=.returned (.int .i64 s2)∧Below W.heap.size W w') from S2.out);have S3:=zH (show ∀W,Calls Tryz.prog 70 #[.agg #[.int .i64 ax,.int .i64 ay],.agg #[.int .i64 cx,.int .i64 cy],.agg #[.int .i64 px,.int .i64 py]] W (fun e w'=>e=.returned (.int .i64 s3)∧Below W.heap.size W w') from S3.out);have SZ:=zH (show ∀W,Calls Tryz.prog 70 #[.agg #[.int .i64 ax,.int .i64 ay],.agg #[.int .i64 bx,.int .i64 by1],.agg #[.int .i64 cx,.int .i64 cy]] W (fun e w'=>e=.returned (.int .i64 s0)∧Below W.heap.size W w') from SZ.out);have G3:=zao (o':=.cells #[.int .i64 px,.int .i64 py] 33) (zfj (w.alloc (.cells #[.int .i64 ax,.int .i64 ay] 33)) (.cells #[.int .i64 bx,.int .i64 by1] 33) (.cells #[.int .i64 cx,.int .i64 cy] 33));have G4:=zfj ((w.alloc (.cells #[.int .i64 ax,.int .i64 ay] 33)).alloc (.cells #[.int .i64 bx,.int .i64 by1] 33)) (.cells #[.int .i64 cx,.int .i64 cy] 33) (.cells #[.int .i64 px,.int .i64 py] 33);simp only [World.size_alloc] at G3 G4;go_enter Tryz.func126,Tryz.ntmps126;go_upto_region 1 with fail;generalize hw1:(((w.alloc _).alloc _).alloc _).alloc _=w1;have B1:=gB4 hw1;have G1:=gA41 hw1;have G2:=gA42 hw1;rw [hw1] at G3 G4;obtain ⟨g1,hg1⟩:∃z,z=w.heap.size:=⟨_,rfl⟩;obtain ⟨g2,hg2⟩:∃z,z=w.heap.size+1:=⟨_,rfl⟩;obtain ⟨g3,hg3⟩:∃z,z=w.heap.size+1+1:=⟨_,rfl⟩;obtain ⟨g4,hg4⟩:∃z,z=w.heap.size+1+1+1:=⟨_,rfl⟩;rw [←hg4] at G4;rw [←hg3] at G3;rw [←hg2] at G2;rw [←hg1] at G1;rw [←hg4,←hg3,←hg2,←hg1];have G1:=zH G1;have G2:=zH G2;have G3:=zH G3;have G4:=zH G4;clear hw1 hg1 hg2 hg3 hg4;obtain ⟨az,a0,a1⟩:=rk2 G1.out;obtain ⟨bz,b0,b1⟩:=rk2 G2.out;obtain ⟨cz,c0,c1⟩:=rk2 G3.out;go_wp2_with fail;refine (SZ.out w1).mono ?_;rintro e w2 ⟨rfl,hb⟩;have B2:=zac B1 zR hb;have G1:=zH (zab hb G1.out);have G2:=zH (zab hb G2.out);have G3:=zH (zab hb G3.out);have G4:=zH (zab hb G4.out);clear a0 a1 az;clear b0 b1 bz;clear c0 c1 cz;have SZ0:=SZ;clear SZ hb B1;by_cases hs0:s0=0
 ·have e0:(s0==0)=true:=by rw [hs0];rfl
  have HE2:=zH (show res=(o1 || o2 || o3) by rw [HE.out,if_pos hs0]);clear HE hs0;obtain ⟨az,a0,a1⟩:=rk2 G1.out;obtain ⟨bz,b0,b1⟩:=rk2 G2.out;obtain ⟨dz,d0,d1⟩:=rk2 G4.out;go_wp2_with fail;refine (O1.out w2).mono ?_;rintro e w3 ⟨rfl,hb⟩;have B3:=zac B2 zR hb;clear a0 a1 az;clear b0 b1 bz;clear d0 d1 dz;cases o1 with
  |true =>go_wp2;go_ret;exact ⟨by rw [HE2.out]<;>rfl,B3⟩
  |false =>
   have G1:=zH (zab hb G1.out);have G2:=zH (zab hb G2.out);have G3:=zH (zab hb G3.out);have G4:=zH (zab hb G4.out);obtain ⟨bz,b0,b1⟩:=rk2 G2.out;obtain ⟨cz,c0,c1⟩:=rk2 G3.out;obtain ⟨dz,d0,d1⟩:=rk2 G4.out;clear hb;go_wp2_with fail;refine (O2.out w3).mono ?_;rintro e w4 ⟨rfl,hb⟩;have B4:=zac B3 zR hb;clear b0 b1 bz;clear c0 c1 cz;clear d0 d1 dz;cases o2 with
   |true =>go_wp2;go_ret;exact ⟨by rw [HE2.out]<;>rfl,B4⟩
   |false =>have G1:=zH (zab hb G1.out);have G3:=zH (zab hb G3.out);have G4:=zH (zab hb G4.out);obtain ⟨az,a0,a1⟩:=rk2 G1.out;obtain ⟨cz,c0,c1⟩:=rk2 G3.out;obtain ⟨dz,d0,d1⟩:=rk2 G4.out;clear hb;go_wp2_with fail;refine (O3.out w4).mono ?_;rintro e w5 ⟨rfl,hb⟩;have B5:=zac B4 zR hb;go_wp2;go_ret;exact ⟨by rw [HE2.out]<;>rfl,B5⟩
 ·have e0:(s0==0)=false:=zakc hs0;have HE2:=zH (show res=(s1+s2+s3==s0) by rw [HE.out,if_neg hs0,Bool.eq_iff_iff,beq_iff_eq,decide_eq_true_iff]);have i1:IntKind.i64.wrap (s1+s2)=s1+s2:=IntWalk.i64_in _ (by omega);have i2:IntKind.i64.wrap (s1+s2+s3)=s1+s2+s3:=IntWalk.i64_in _ (by omega);clear HE hs0 b1 b2 b3;go_wp2_with fail;obtain ⟨az,a0,a1⟩:=rk2 G1.out;have qa0:=zaa a0;have qa1:=zaa a1;clear a0 a1;obtain ⟨bz,b0,b1⟩:=rk2 G2.out;have qb0:=zaa b0;have qb1:=zaa b1;clear b0 b1;obtain ⟨cz,c0,c1⟩:=rk2 G3.out;have qc0:=zaa c0;have qc1:=zaa c1;clear c0 c1;obtain ⟨dz,d0,d1⟩:=rk2 G4.out;have qd0:=zaa d0;have qd1:=zaa d1;clear d0 d1;refine zae mixed (by kernel_rfl) ?_;repeat (go_big_quiet_step (first | (go_at_call 70;with_reducible exact zad (S1.out _)) | (go_at_call 70;with_reducible exact zad (S2.out _)) | (go_at_call 70;with_reducible exact zad (S3.out _)) | (go_at_call 70;with_reducible exact zad (SZ0.out _))))
  refine wpQuiet_nil ?_;intro w9 hw';obtain ⟨⟨wz,hbz⟩,hw''⟩:=hw';subst hw'';have BZ:=zac B2 zR hbz;go_wp2;go_ret;exact ⟨by rw [HE2.out]<;>rfl,BZ⟩
end Go.Proofs.YtibpaaajghbkoaaGreat

namespace Go.Proofs.YtibpaaajghbkoaaGreat
open Go.RowKit Go.Sort
def isNd (l:List ObjD) (r:ByteArray):Prop:=∃x,atO l r=some x∧x.kind=1
def outR (l:List ObjD) (id:ByteArray) (k:KeyD) (r:ByteArray):Bool:=decide (r=id∨r=k.1∨r=k.2) || !inR (ptO l id) (ptO l k.1) (ptO l k.2) (ptO l r)
theorem zuf {l:List ObjD} (h:zas l=true) (id:ByteArray) (n:Int) (k:KeyD):zeq l (id,n,k)=(zgp l).all (outR l id k):=by unfold zeq;congr 1;funext r;unfold outR;rw [zanv (zfz h _) (zfz h _) (zfz h _) (zfz h _)]
theorem zaka {l:List ObjD} {k:Nat} {o:ObjD} (ho:l[k]?=some o):zgp (l.take (k+1))=zgp (l.take k)++(if o.kind=2∨o.kind=3 then o.refs else []):=by
 unfold zgp;rw [zbn ho,List.filter_append,List.flatMap_append];congr 1;by_cases h:o.kind=2∨o.kind=3
 ·rw [if_pos h,List.filter_cons,if_pos (decide_eq_true h)];simp
 ·rw [if_neg h,List.filter_cons,if_neg (by simpa using h)];rfl
theorem zaou {l:List ObjD} {F:ByteArray→Bool} {o:ObjD} (ho:o∈l) (hk:o.kind=2∨o.kind=3) {r:ByteArray} (hr:r∈o.refs) (h:F r=false):(zgp l).all F=false:=by
 cases ha:(zgp l).all F with
 |false=>rfl
 |true =>rw [List.all_eq_true.1 ha r (zgf.2 ⟨o,ho,hk,hr⟩)] at h;cases h
theorem zaiz {l:List ObjD} (h:fitP l=true) {o:ObjD} (ho:o∈l) (hk:o.kind=2∨o.kind=3) {r:ByteArray} (hr:r∈o.refs):isNd l r:=by obtain ⟨i,hi⟩:=List.getElem?_of_mem hr;obtain ⟨x,hx,hw⟩:=zkc.1 ((zdb.1 h).2.2 o ho) i r hi;exact ⟨x,hx,by rw [hw];unfold zfd;rw [if_neg (by omega)]⟩
set_option maxRecDepth 100000 in
set_option maxHeartbeats 4000000 in
theorem zadp (v:Value) (l:List ObjD) (id:ByteArray) (k:KeyD) (w:World) (hv:zbb w v l) (hf:fitP l=true) (h0:isNd l id) (h1:isNd l k.1) (h2:isNd l k.2) :
  Calls Tryz.prog 69 #[.agg #[v],.string id,.agg #[.string k.1,.string k.2]] w fun e w'=>e=.returned (.bool ((zgp l).all (outR l id k)))∧Below w.heap.size w w':=by
 have mixed:Tryz.prog.follows .mixedOrders=true:=by kernel_rfl
 have HOK:=zH (zdb.1 hf).1;have PT:=zH (fun r W (h:isNd l r) (hb:Below w.heap.size w W)=>zagd v l r W (hv.later hb) HOK.out h.choose_spec.1 h.choose_spec.2);have HND:=zH (fun o (ho:o∈l) (hk:o.kind=2∨o.kind=3) r (hr:r∈o.refs)=>zaiz hf ho hk hr);have HNR:=zH (fun r=>zfz HOK.out r);have P0:=zH (fun W hb=>PT.out id W h0 hb);have P1:=zH (fun W hb=>PT.out k.1 W h1 hb);have P2:=zH (fun W hb=>PT.out k.2 W h2 hb);obtain ⟨a,cap,rfl,hn,hc⟩:=hv;obtain ⟨N,hN⟩:∃N,l.length=N:=⟨_,rfl⟩;rw [hN] at hn hc PT P0 P1 P2 ⊢;have hNb:N≤1000000:=by rw [←hN];have:=HOK.out;unfold zas at this;rw [Bool.and_eq_true] at this;exact of_decide_eq_true this.1
 have HN:=zH hN;have HC:=zH hc;obtain ⟨res,hres⟩:∃z,(zgp l).all (outR l id k)=z:=⟨_,rfl⟩;rw [hres];have HR:=zH hres;clear hc hN hres hf h0 h1 h2;go_enter Tryz.func69,Tryz.ntmps69;go_upto_region 1 with fail;generalize hw1:(w.alloc _).alloc _=w1;have B1:=gB2 hw1;have G1:=gA21 hw1;have G2:=gA22 hw1;obtain ⟨g1,hg1⟩:∃z,z=w.heap.size:=⟨_,rfl⟩;obtain ⟨g2,hg2⟩:∃z,z=w.heap.size+1:=⟨_,rfl⟩;rw [←hg2] at G2;rw [←hg1] at G1;rw [←hg2,←hg1];have G1:=zH G1;have G2:=zH G2;clear hw1 hg1 hg2;go_wp2_with fail;go_loopw [7] (fun i wr=>∃q:Nat,i=.int .i64 q∧q≤N∧(zgp (l.take q)).all (outR l id k)=true∧Below w1.heap.size w1 wr) (fun i _=>N - (intOf i).toNat);case atStart=>exact ⟨0,rfl,Nat.zero_le _,rfl,Below.refl _ _⟩
 case round =>
  obtain ⟨q,rfl,hq,hall,hbr⟩:=hrel;obtain ⟨wq,rfl⟩:∃z:World,z=wr:=⟨_,rfl⟩;have BQ:=zac B1 zR hbr;have G1q:=zH (zab hbr G1.out);have HALL:=zH hall;clear hall;by_cases hlt:q<N
  ·obtain ⟨o,ho⟩:∃o,l[q]?=some o:=⟨l[q]'(by rw [HN.out];exact hlt),List.getElem?_eq_getElem _⟩;obtain ⟨b,off,ha,hcell⟩:=HC.out (by omega);subst ha;obtain ⟨vr,vt,c0,c1,c2,c3,c4,c5,hsr,htr,hz⟩:=(hcell q o ho).later BQ;obtain ⟨ar,capr,rfl,hrl,_,hrc⟩:=hsr;obtain ⟨at1,capt,rfl,_⟩:=htr;have HRC:=zH hrc;have HMO:=zH (zM ho);have HBT:=zH (zaka ho);have bz:=zag c0;clear hcell ho hrc;obtain ⟨mz,m0⟩:=rk1 G1q.out;go_upto_region 5 with fail;clear m0 mz;generalize hwx:wq.alloc _=wx;have BX:=gB1 hwx;have HX:=gA11 hwx;obtain ⟨b8,hb8⟩:∃z,z=wq.heap.size:=⟨_,rfl⟩;rw [←hb8] at HX ⊢;have HX:=zH HX;have BXr:=zac hbr zR BX;have BXQ:=zH BX;clear hwx c0 c1 c2 c3 c4 c5 bz hb8 BX;by_cases hk:o.kind=2∨o.kind=3
   ·have HKK:=zH hk;have HBR:=HBT.out;rw [if_pos hk] at HBR;have HBR:=zH HBR;obtain ⟨e2,e3,hee⟩:∃e2 e3:Bool,(o.kind != 2)=e2∧(o.kind != 3)=e3∧(e2 && e3)=false:=⟨_,_,rfl,rfl,by rcases hk with h | h<;>rw [h]<;>rfl⟩;obtain ⟨he2,he3,hee⟩:=hee;obtain ⟨xz,x0,x1,x2,x3,x4,x5⟩:=rk6 HX.out;clear hk HBT;cases e2;all_goals (try cases e3)
    all_goals first | (exact absurd hee (by decide)) | skip
    all_goals
     clear hee;go_wp2_with fail;clear x0 x1 x2 x3 x4 x5 xz;go_loopw [9] (fun i wi=>∃j:Nat,i=.int .i64 j∧j≤o.refs.length∧(o.refs.take j).all (outR l id k)=true∧Below wx.heap.size wx wi) (fun i _=>o.refs.length - (intOf i).toNat);case atStart=>exact ⟨0,rfl,Nat.zero_le _,rfl,Below.refl _ _⟩
     case round =>
      obtain ⟨j,rfl,hj,hfi,hbi⟩:=hrel;obtain ⟨wi,rfl⟩:∃z:World,z=wr:=⟨_,rfl⟩;have HXi:=zH (zab hbi HX.out);have HFI:=zH hfi;have BIr:=zac BXr zR hbi;clear hfi;by_cases hlj:j<o.refs.length
      ·obtain ⟨s,hs⟩:∃s,o.refs[j]?=some s:=⟨o.refs[j],List.getElem?_eq_getElem hlj⟩;obtain ⟨b9,off9,ha9,hcell9⟩:=HRC.out (by omega);subst ha9;have r0:=cell_later (zac BXQ.out zR hbi) (hcell9 j s hs);have HS:=zH hs;have hms:=zM hs;have BIw:=zac B1 zR BIr;have PS:=zH (fun W (hb:Below wi.heap.size wi W)=>PT.out s W (HND.out o HMO.out HKK.out s hms) (zac BIw zR hb));have P0:=zH (fun W (hb:Below wi.heap.size wi W)=>P0.out W (zac BIw zR hb));have P1:=zH (fun W (hb:Below wi.heap.size wi W)=>P1.out W (zac BIw zR hb));have P2:=zH (fun W (hb:Below wi.heap.size wi W)=>P2.out W (zac BIw zR hb));have TI:=zH (fun W=>zalg (ptO l id) (ptO l k.1) (ptO l k.2) (ptO l s) (HNR.out _) (HNR.out _) (HNR.out _) (HNR.out _) W);have HOUT0:=zH (show outR l id k s=(decide (s=id∨s=k.1∨s=k.2) || !inR (ptO l id) (ptO l k.1) (ptO l k.2) (ptO l s)) from rfl);have HNOT:=zH (fun (h:outR l id k s=false)=>zaou HMO.out HKK.out hms h);have G1i:=zH (zab BIr G1.out);have G2i:=zH (zab BIr G2.out);clear hcell9 hs hms;generalize inR (ptO l id) (ptO l k.1) (ptO l k.2) (ptO l s)=ins at TI HOUT0;generalize ptO l id=pa at P0 TI;generalize ptO l k.1=pb at P1 TI;generalize ptO l k.2=pc at P2 TI;generalize ptO l s=ps at PS TI;obtain ⟨pax,pay⟩:=pa;obtain ⟨pbx,pby⟩:=pb;obtain ⟨pcx,pcy⟩:=pc;obtain ⟨psx,psy⟩:=ps;obtain ⟨xz,x0,x1,x2,x3,x4,x5⟩:=rk6 HXi.out;go_upto_region 10 with fail;clear x0 x1 x2 x3 x4 x5 xz;clear r0;obtain ⟨mz,m0⟩:=rk1 G1i.out;have qm0:=zaa m0;clear m0;obtain ⟨pz,p0,p1⟩:=rk2 G2i.out;have qp0:=zaa p0;have qp1:=zaa p1;clear p0 p1;by_cases c1:s=id
       ·have t1:(s.toList==id.toList)=true:=zcx c1;have HOUT:=zH (show outR l id k s=true by rw [HOUT0.out,decide_eq_true (Or.inl c1)];rfl);clear c1;go_upto_region 10 with fail;refine zae mixed (by kernel_rfl) ?_;repeat (go_big_quiet_step (first | (go_at_call 71;first | with_reducible exact zad (P0.out _ (zam.below _)) | with_reducible exact zad (P1.out _ (zam.below _)) | with_reducible exact zad (P2.out _ (zam.below _)) | with_reducible exact zad (PS.out _ (zam.below _))) | (go_at_call 126;exact zad (TI.out _))))
        refine wpQuiet_nil ?_;intro w9 hw';obtain ⟨⟨wz,hbz⟩,hw''⟩:=hw';subst hw'';have BZ:=zac hbi zR hbz;clear qm0 qp0 qp1;have HFN:=zH (show (o.refs.take (j+1)).all (outR l id k)=true by rw [zbn HS.out,List.all_append,HFI.out];simp [HOUT.out]);go_wp2;go_roundw;case rel=>exact ⟨j+1,by go_num,by omega,HFN.out,BZ⟩
        case measure=>simp [intOf];omega
       ·have t1:(s.toList==id.toList)=false:=zck c1;by_cases c2:s=k.1
        ·have t2:(s.toList==k.1.toList)=true:=zcx c2;have HOUT:=zH (show outR l id k s=true by rw [HOUT0.out,decide_eq_true (Or.inr (Or.inl c2))];rfl);clear c1 c2;go_upto_region 10 with fail;refine zae mixed (by kernel_rfl) ?_;repeat (go_big_quiet_step (first | (go_at_call 71;first | with_reducible exact zad (P0.out _ (zam.below _)) | with_reducible exact zad (P1.out _ (zam.below _)) | with_reducible exact zad (P2.out _ (zam.below _)) | with_reducible exact zad (PS.out _ (zam.below _))) | (go_at_call 126;exact zad (TI.out _))))
         refine wpQuiet_nil ?_;intro w9 hw';obtain ⟨⟨wz,hbz⟩,hw''⟩:=hw';subst hw'';have BZ:=zac hbi zR hbz;clear qm0 qp0 qp1;have HFN:=zH (show (o.refs.take (j+1)).all (outR l id k)=true by rw [zbn HS.out,List.all_append,HFI.out];simp [HOUT.out]);go_wp2;go_roundw;case rel=>exact ⟨j+1,by go_num,by omega,HFN.out,BZ⟩
         case measure=>simp [intOf];omega
        ·have t2:(s.toList==k.1.toList)=false:=zck c2;by_cases c3:s=k.2
         ·have t3:(s.toList==k.2.toList)=true:=zcx c3;have HOUT:=zH (show outR l id k s=true by rw [HOUT0.out,decide_eq_true (Or.inr (Or.inr c3))];rfl);clear c1 c2 c3;go_upto_region 10 with fail;refine zae mixed (by kernel_rfl) ?_;repeat (go_big_quiet_step (first | (go_at_call 71;first | with_reducible exact zad (P0.out _ (zam.below _)) | with_reducible exact zad (P1.out _ (zam.below _)) | with_reducible exact zad (P2.out _ (zam.below _)) | with_reducible exact zad (PS.out _ (zam.below _))) | (go_at_call 126;exact zad (TI.out _))))
          refine wpQuiet_nil ?_;intro w9 hw';obtain ⟨⟨wz,hbz⟩,hw''⟩:=hw';subst hw'';have BZ:=zac hbi zR hbz;clear qm0 qp0 qp1;have HFN:=zH (show (o.refs.take (j+1)).all (outR l id k)=true by rw [zbn HS.out,List.all_append,HFI.out];simp [HOUT.out]);go_wp2;go_roundw;case rel=>exact ⟨j+1,by go_num,by omega,HFN.out,BZ⟩
          case measure=>simp [intOf];omega
         ·have t3:(s.toList==k.2.toList)=false:=zck c3;have HOUT1:=HOUT0.out;rw [decide_eq_false (fun c=>c.elim c1 (fun c=>c.elim c2 c3)),Bool.false_or] at HOUT1;have HOUT1:=zH HOUT1;clear c1 c2 c3;cases ins with
          |false =>
           have HOUT:=zH (show outR l id k s=true by rw [HOUT1.out];rfl);go_upto_region 10 with fail;refine zae mixed (by kernel_rfl) ?_;repeat (go_big_quiet_step (first | (go_at_call 71;first | with_reducible exact zad (P0.out _ (zam.below _)) | with_reducible exact zad (P1.out _ (zam.below _)) | with_reducible exact zad (P2.out _ (zam.below _)) | with_reducible exact zad (PS.out _ (zam.below _))) | (go_at_call 126;exact zad (TI.out _))))
           refine wpQuiet_nil ?_;intro w9 hw';obtain ⟨⟨wz,hbz⟩,hw''⟩:=hw';subst hw'';have BZ:=zac hbi zR hbz;clear qm0 qp0 qp1;have HFN:=zH (show (o.refs.take (j+1)).all (outR l id k)=true by rw [zbn HS.out,List.all_append,HFI.out];simp [HOUT.out]);go_wp2;go_roundw;case rel=>exact ⟨j+1,by go_num,by omega,HFN.out,BZ⟩
           case measure=>simp [intOf];omega
          |true =>
           have HE:=zH (show res=false by rw [←HR.out];exact HNOT.out (by rw [HOUT1.out];rfl));go_upto_region 10 with fail;refine zae mixed (by kernel_rfl) ?_;repeat (go_big_quiet_step (first | (go_at_call 71;first | with_reducible exact zad (P0.out _ (zam.below _)) | with_reducible exact zad (P1.out _ (zam.below _)) | with_reducible exact zad (P2.out _ (zam.below _)) | with_reducible exact zad (PS.out _ (zam.below _))) | (go_at_call 126;exact zad (TI.out _))))
           refine wpQuiet_nil ?_;intro w9 hw';obtain ⟨⟨wz,hbz⟩,hw''⟩:=hw';subst hw'';have BZ:=zac hbi zR hbz;clear qm0 qp0 qp1;go_wp2;go_ret;exact ⟨by rw [HE.out]<;>rfl,zac (zac B1 zR BXr) zR BZ⟩
      ·obtain rfl:j=o.refs.length:=(by omega);have HFN:=zH (show (zgp (l.take (q+1))).all (outR l id k)=true by
        have h:=HFI.out
        rw [List.take_of_length_le zR] at h
        rw [HBR.out,List.all_append,HALL.out,h];rfl)
       obtain ⟨xz,x0,x1,x2,x3,x4,x5⟩:=rk6 HXi.out;go_wp2;go_roundw;case rel=>exact ⟨q+1,by go_num,by omega,HFN.out,BIr⟩
       case measure=>simp [intOf];omega
   ·have f2:(o.kind != 2)=true:=zafc (fun c=>hk (Or.inl c));have f3:(o.kind != 3)=true:=zafc (fun c=>hk (Or.inr c));have HFN:=zH (show (zgp (l.take (q+1))).all (outR l id k)=true by rw [HBT.out,if_neg hk,List.append_nil];exact HALL.out);obtain ⟨xz,x0,x1,x2,x3,x4,x5⟩:=rk6 HX.out;clear hk HBT;go_wp2;go_roundw;case rel=>exact ⟨q+1,by go_num,by omega,HFN.out,BXr⟩
    case measure=>simp [intOf];omega
  ·obtain rfl:q=N:=(by omega);have HE:=zH (show res=true by rw [←HR.out,←HALL.out,List.take_of_length_le (by rw [HN.out];exact Nat.le_refl _)])
   obtain ⟨mz,m0⟩:=rk1 G1q.out;go_wp2;go_ret;exact ⟨by rw [HE.out]<;>rfl,BQ⟩
end Go.Proofs.YtibpaaajghbkoaaGreat
