/-     -/
import Derived.Test.YtibpaaajghbkoaaGreatWBh
import Derived.Test.YtibpaaajghbkoaaGreatWBi
import Derived.Test.YtibpaaajghbkoaaGreatWAn
import Derived.Test.YtibpaaajghbkoaaGreatWBu
import Derived.Test.YtibpaaajghbkoaaGreatWBk
import Derived.Test.YtibpaaajghbkoaaGreatWAj
import Derived.Test.YtibpaaajghbkoaaGreatWBm
import Derived.Deep.RegionWith
namespace Go.Proofs.YtibpaaajghbkoaaGreat
open Go.RowKit Go.Sort
structure NrS (l:List ObjD) (id:ByteArray) (q:Nat) (fd:Bool) (ca cb:ByteArray):Prop where
 za:ca.size≤140737488355328
 zb:cb.size≤140737488355328
 no:fd=false→zax (l.take q) id=[]
 yes:fd=true→∃x∈zax l id,nbrO x id=some (ca,cb)
 all:∀x∈zax (l.take q) id,nbrO x id=some (ca,cb)
theorem zama (o:ObjD) (id:ByteArray) :
  ((o.kind != 2)=true∧(o.kind != 3)=true∧True∧True∧True∧((o.kind≠2∧o.kind≠3)∨atR o id<0∨(o.kind=3∧o.refs.length<4))) ∨
  ((o.kind != 2)=false∧True∧(o.kind==3)=false∧decide (atR o id<0)=true∧True∧((o.kind≠2∧o.kind≠3)∨atR o id<0∨(o.kind=3∧o.refs.length<4))) ∨
  ((o.kind != 2)=false∧True∧(o.kind==3)=false∧decide (atR o id<0)=false∧True∧¬((o.kind≠2∧o.kind≠3)∨atR o id<0∨(o.kind=3∧o.refs.length<4))) ∨
  ((o.kind != 2)=true∧(o.kind != 3)=false∧(o.kind==3)=true∧decide (atR o id<0)=true∧True∧((o.kind≠2∧o.kind≠3)∨atR o id<0∨(o.kind=3∧o.refs.length<4))) ∨
  ((o.kind != 2)=true∧(o.kind != 3)=false∧(o.kind==3)=true∧decide (atR o id<0)=false∧o.refs.length<4∧((o.kind≠2∧o.kind≠3)∨atR o id<0∨(o.kind=3∧o.refs.length<4))) ∨
  ((o.kind != 2)=true∧(o.kind != 3)=false∧(o.kind==3)=true∧decide (atR o id<0)=false∧¬o.refs.length<4∧¬((o.kind≠2∧o.kind≠3)∨atR o id<0∨(o.kind=3∧o.refs.length<4))):=by
 by_cases h2:o.kind=2
 ·have e2:(o.kind != 2)=false:=zanb h2;have e3:(o.kind==3)=false:=zakc (by omega);by_cases ha:atR o id<0
  ·exact .inr (.inl ⟨e2,trivial,e3,decide_eq_true ha,trivial,.inr (.inl ha)⟩)
  ·exact .inr (.inr (.inl ⟨e2,trivial,e3,decide_eq_false ha,trivial,by omega⟩))
 ·have e2:(o.kind != 2)=true:=zafc h2;by_cases h3:o.kind=3
  ·have e3:(o.kind==3)=true:=(by rw [h3];rfl);have e4:(o.kind != 3)=false:=zanb h3;by_cases ha:atR o id<0
   ·exact .inr (.inr (.inr (.inl ⟨e2,e4,e3,decide_eq_true ha,trivial,.inr (.inl ha)⟩)))
   ·by_cases hl:o.refs.length<4
    ·exact .inr (.inr (.inr (.inr (.inl ⟨e2,e4,e3,decide_eq_false ha,hl,.inr (.inr ⟨h3,hl⟩)⟩))))
    ·exact .inr (.inr (.inr (.inr (.inr ⟨e2,e4,e3,decide_eq_false ha,hl,by omega⟩))))
  ·exact .inl ⟨e2,zafc h3,trivial,trivial,trivial,.inl ⟨h2,h3⟩⟩
theorem zaoz {o:ObjD} {id:ByteArray} (hok:zay o=true) (h:id∈o.refs) (hc:(o.kind≠2∧o.kind≠3)∨atR o id<0∨(o.kind=3∧o.refs.length<4)):nbrO o id=none:=by rw [←zabj hok h];unfold nbrR;rw [if_pos hc]
theorem zaly {o:ObjD} {id:ByteArray} (hok:zay o=true) (h:id∈o.refs) (hc:¬((o.kind≠2∧o.kind≠3)∨atR o id<0∨(o.kind=3∧o.refs.length<4))) {i:Nat} (hi:atR o id=(i:Int)) {pv nx:Nat} (hp:pv=(i+o.refs.length - 1) % o.refs.length) (hn:nx=(i+1) % o.refs.length) :
  nbrO o id=if zcc o pv=zcc o nx then none else some (key2 (zcc o pv) (zcc o nx)):=by
 rw [←zabj hok h];unfold nbrR;rw [if_neg hc,hi,Int.toNat_natCast,←hp,←hn]
theorem zarn {o:ObjD} {id:ByteArray} (h:id∈o.refs) (h0:¬atR o id<0):∃i:Nat,atR o id=(i:Int)∧i<o.refs.length:=by
 rw [zakg h] at h0 ⊢;split at h0
 ·omega
 ·rename_i hc;rw [if_neg hc];exact ⟨_,rfl,(zhh h).1⟩
set_option maxRecDepth 100000 in
set_option maxHeartbeats 4000000 in
theorem zadk (v:Value) (l:List ObjD) (id:ByteArray) (w:World) (hv:zbb w v l) (hok:zas l=true) :
  Calls Tryz.prog 68 #[.agg #[v],.string id] w (zanz l id w):=by
 have hmin:=zlj Tryz.prog;have hmax:=zlk Tryz.prog;have HOK:=zH hok;have RT:=zH (fun k o (ho:l[k]?=some o)=>zyq l id ho);obtain ⟨a,cap,rfl,hn,hc⟩:=hv;obtain ⟨N,hN⟩:∃N,l.length=N:=⟨_,rfl⟩;have hNb:N≤1000000:=by rw [←hN];unfold zas at hok;rw [Bool.and_eq_true] at hok;exact of_decide_eq_true hok.1
 rw [hN] at hn hc ⊢;have HN:=zH hN;have HC:=zH hc;have G6:=zfj (w.alloc (.cells #[.slice a N cap] 24)) (.cells #[.string ⟨#[]⟩,.string ⟨#[]⟩] 83) (.cells #[.string ⟨#[]⟩,.string ⟨#[]⟩] 83);simp only [World.size_alloc] at G6;clear hc hN hok;go_enter Tryz.func68,Tryz.ntmps68;go_upto_region 2 with fail;generalize hw1:((w.alloc _).alloc _).alloc _=w1;have B1:=gB3 hw1;have G1:=gA31 hw1;have G4:=gA32 hw1;rw [hw1] at G6;have hz1:w1.heap.size=w.heap.size+3:=by rw [←hw1];simp
 obtain ⟨g1,hg1⟩:∃z,z=w.heap.size:=⟨_,rfl⟩;obtain ⟨g4,hg4⟩:∃z,z=w.heap.size+1:=⟨_,rfl⟩;obtain ⟨g6,hg6⟩:∃z,z=w.heap.size+1+1:=⟨_,rfl⟩;rw [←hg6] at G6;rw [←hg4] at G4;rw [←hg1] at G1;rw [←hg6,←hg4,←hg1];have hlts:w.heap.size≤g1∧g1<g4∧g4<g6∧g6<w1.heap.size:=by omega
 obtain ⟨lt1,lt2,lt3,lt4⟩:=hlts;have HS0:=zH (show NrS l id 0 false ⟨#[]⟩ ⟨#[]⟩ from ⟨by decide,by decide,fun _=>rfl,fun h=>(by cases h),fun x hx=>(by cases hx)⟩);have G1:=zH G1;have G4:=zH G4;have G6:=zH G6;clear hw1 hg1 hg4 hg6 hz1;go_wp2_with fail;go_loopw [7,8] (fun v7 i wr=>∃(q:Nat) (fd:Bool) (ca cb:ByteArray),v7=.bool fd∧i=.int .i64 q∧q≤N∧NrS l id q fd ca cb∧Below w.heap.size w wr∧w1.heap.size≤wr.heap.size∧wr.heap[g1]?=some (.cells #[.slice a N cap] 24)∧wr.heap[g4]?=some (.cells #[.string ⟨#[]⟩,.string ⟨#[]⟩] 83)∧wr.heap[g6]?=some (.cells #[.string ca,.string cb] 83)) (fun _ i _=>N - (intOf i).toNat);case atStart=>exact ⟨0,false,_,_,rfl,rfl,Nat.zero_le _,HS0.out,B1,Nat.le_refl _,G1.out,G4.out,G6.out⟩
 case round =>
  obtain ⟨q,fd,ca,cb,rfl,rfl,hq,hst,hbr,hszr,h1,h4,h6⟩:=hrel;obtain ⟨wq,rfl⟩:∃z:World,z=wr:=⟨_,rfl⟩;have HST:=zH hst;have H1:=zH h1;have H4:=zH h4;have H6:=zH h6;clear hst h1 h4 h6;by_cases hlt:q<N
  ·obtain ⟨o,ho⟩:∃o,l[q]?=some o:=⟨l[q]'(by rw [HN.out];exact hlt),List.getElem?_eq_getElem _⟩;obtain ⟨b,off,ha,hcell⟩:=HC.out (by omega);subst ha;obtain ⟨vr,vt,c0,c1,c2,c3,c4,c5,hsr,htr,hz⟩:=(hcell q o ho).later hbr;have HSR:=zH hsr;have HTR:=zH htr;obtain ⟨ar,capr,rfl,hrl,hrz,hrc⟩:=hsr;obtain ⟨at1,capt,rfl,_⟩:=htr;have HRC:=zH hrc;have HRZ:=zH hrz;have HMO:=zH (zM ho);have HT:=zH (RT.out q o ho);have bz:=zag c0;clear hcell ho hrc hrz;obtain ⟨mz,m0⟩:=rk1 H1.out;go_upto_region 7 with fail;clear m0 mz;generalize hwx:wq.alloc _=wx;have BX:=gB1 hwx;have HX:=gA11 hwx;obtain ⟨b9,hb9⟩:∃z,z=wq.heap.size:=⟨_,rfl⟩;rw [←hb9] at HX ⊢;have HX:=zH HX;have BWX:=zac hbr zR BX;have hszx:wq.heap.size<wx.heap.size:=(by have:=zaf HX.out;omega);have hb9w:w1.heap.size≤b9:=(by omega);have IN:=zH (zvp (.slice ar o.refs.length capr) o.refs id wx (HSR.out.later BX));have AT:=zH (zaon o (.slice ar o.refs.length capr) (.slice at1 o.tags.length capt) id wx (HSR.out.later BX) (HTR.out.later BX));have H1:=zH (zab BX H1.out);have H4:=zH (zab BX H4.out);have H6:=zH (zab BX H6.out);clear hwx c0 c1 c2 c3 c4 c5 bz hb9;by_cases hm:id∈o.refs
   ·have IN:=IN.out;rw [decide_eq_true hm] at IN;have IN:=zH IN;have HT2:=HT.out;rw [if_pos hm] at HT2;have HT2:=zH HT2;have HM:=zH hm;have HOO:=zH (zda HOK.out HMO.out);have HRE:=zH (show o∈zax l id from List.mem_filter.2 ⟨HMO.out,decide_eq_true hm⟩);clear hm HT;obtain ⟨xz,x0,x1,x2,x3,x4,x5⟩:=rk6 HX.out;go_wp2_with fail;refine IN.out.mono ?_;rintro e wi ⟨rfl,rfl⟩;go_wp2_with fail;refine AT.out.mono ?_;rintro e wb ⟨rfl,hb⟩;have HXb:=zH (zab hb HX.out);have H1:=zH (zab hb H1.out);have H4:=zH (zab hb H4.out);have H6:=zH (zab hb H6.out);have BWb:=zH (zac BWX zR hb);have BQb:=zH (zac BX zR hb);have hszb:wq.heap.size<wb.heap.size:=(by have:=hb.size;omega);clear x0 x1 x2 x3 x4 x5 xz;clear IN AT hb BX BWX HX;rcases zama o id with ⟨k2,k3,e3,d1,hl4,hcd⟩ | ⟨k2,k3,e3,d1,hl4,hcd⟩ | ⟨k2,k3,e3,d1,hl4,hcd⟩ | ⟨k2,k3,e3,d1,hl4,hcd⟩ | ⟨k2,k3,e3,d1,hl4,hcd⟩ | ⟨k2,k3,e3,d1,hl4,hcd⟩;all_goals first
     |have hbad:(o.kind≠2∧o.kind≠3)∨atR o id<0∨(o.kind=3∧o.refs.length<4):=hcd
      have HNONE:=zH (zex HRE.out (zaoz HOO.out HM.out hbad));clear hcd hbad;have G4n:=H4;have G6n:=H6;have BWN:=BWb;obtain ⟨xz,x0,x1,x2,x3,x4,x5⟩:=rk6 HXb.out;obtain ⟨rz,r0,r1⟩:=rk2 G4n.out;have rf0:=frozen_of_row wb _ 0 _ _ G4n.out;have rf1:=frozen_of_row wb _ 1 _ _ G4n.out;obtain ⟨qz,q0,q1⟩:=rk2 G6n.out;go_wp2;refine bodyPost_ret (v:=.tuple #[.agg #[.string ca,.string cb],.bool false]) ?_ rfl ⟨ca,cb,?_,?_,?_⟩
      ·simp [results,Tryz.results68,go_sem,r0,r1]
      ·rw [HNONE.out];rfl
      ·intro p h;rw [HNONE.out] at h;cases h
      ·exact ((BWN.out.setCell (p:=⟨g4,0,none⟩) (by simp only;omega) _).setCell (p:=⟨g4,1,none⟩) (by simp only;omega) _)
     |have hgood:¬((o.kind≠2∧o.kind≠3)∨atR o id<0∨(o.kind=3∧o.refs.length<4)):=hcd
      clear hcd;obtain ⟨i,hai,hiM⟩:=zarn HM.out (fun c=>hgood (.inr (.inl c)));have HGO:=zH (fun pv nx (hp:pv=(i+o.refs.length - 1) % o.refs.length) (hn:nx=(i+1) % o.refs.length)=>zaly HOO.out HM.out hgood hai hp hn);rw [hai] at d1 ⊢;obtain ⟨M,hM⟩:∃M,o.refs.length=M:=⟨_,rfl⟩;have HMM:=zH hM;rw [hM] at HXb HGO hrl hiM HRC;try rw [hM] at hl4
      try have dl4:decide ((M:Int)<4)=false:=decide_eq_false (by omega)
      try have dl5:decide (M<4)=false:=decide_eq_false (by omega)
      have hrlM:M≤140737488355328:=hrl;clear hgood hai hM;obtain ⟨nx,hnx⟩:∃z,z=(i+1) % M:=⟨_,rfl⟩;obtain ⟨pv,hpv⟩:∃z,z=(i+M - 1) % M:=⟨_,rfl⟩;have hnM:nx<M:=(by rw [hnx];exact Nat.mod_lt _ (by omega));have hpM:pv<M:=(by rw [hpv];exact Nat.mod_lt _ (by omega));have HNB:=zH (HGO.out pv nx hpv hnx);obtain ⟨ra,hra⟩:∃ra,ra=zcc o pv:=⟨_,rfl⟩;obtain ⟨rb,hrb⟩:∃rb,rb=zcc o nx:=⟨_,rfl⟩;rw [←hra,←hrb] at HNB;have g0:o.refs[pv]?=some ra:=(by rw [hra];exact zfb o pv (by rw [HMM.out];exact hpM));have g1':o.refs[nx]?=some rb:=(by rw [hrb];exact zfb o nx (by rw [HMM.out];exact hnM));obtain ⟨br2,offr,har,hcr⟩:=HRC.out (by omega);subst har;have u0:=cell_later BQb.out (hcr pv ra g0);have u1:=cell_later BQb.out (hcr nx rb g1');have z0:=HRZ.out ra (zM g0);have z1:=HRZ.out rb (zM g1');have U1:=zH u1;have m1:((i:Int)+(M:Int) - 1).tmod (M:Int)=(pv:Int):=by rw [hpv,Int.natCast_emod,Int.tmod_eq_emod_of_nonneg (by omega)];congr 1;omega
      have m2:((i:Int)+1).tmod (M:Int)=(nx:Int):=(by rw [hnx,Int.natCast_emod,Int.tmod_eq_emod_of_nonneg (by omega)];rfl);have wj1:IntKind.i64.wrap ((i:Int)+(M:Int))=(i:Int)+(M:Int):=IntWalk.i64_in _ (by omega);have wj2:IntKind.i64.wrap ((i:Int)+(M:Int) - 1)=(i:Int)+(M:Int) - 1:=IntWalk.i64_in _ (by omega);have wj3:IntKind.i64.wrap ((i:Int)+1)=(i:Int)+1:=IntWalk.i64_in _ (by omega);have b0:(0:Int)≤(pv:Int):=(by omega);have b1:(pv:Int)<(M:Int):=(by omega);have b2:((pv:Int)).toNat=pv:=(by omega);have b3:(0:Int)≤(nx:Int):=(by omega);have b4:(nx:Int)<(M:Int):=(by omega);have b5:((nx:Int)).toNat=nx:=(by omega);clear hcr g0 g1' hra hrb hnx hpv HGO u1;obtain ⟨xz,x0,x1,x2,x3,x4,x5⟩:=rk6 HXb.out;go_upto_region 12 with fail;go_quiet (fail);clear x0 x1 x2 x3 x4 x5 xz;have BQ1:Below wb.heap.size wb (wb.drewN nq):=(Below.refl _ _).drewN';have HXc:=zH (zab BQ1 HXb.out);have u1:=cell_later BQ1 U1.out;generalize hwc:wb.drewN nq=wc;rw [hwc] at BQ1 HXc u1;clear hwc u0;obtain ⟨xz,x0,x1,x2,x3,x4,x5⟩:=rk6 HXc.out;go_upto_region 13 with fail;go_quiet (fail);clear x0 x1 x2 x3 x4 x5 xz;have BQ2:=BQ1.trans (((Below.refl _ _).drewN':Below wc.heap.size wc (wc.drewN nq)).mono BQ1.size);generalize hwd:wc.drewN nq=wd;rw [hwd] at BQ2;have H1:=zH (zab BQ2 H1.out);have H4:=zH (zab BQ2 H4.out);have H6:=zH (zab BQ2 H6.out);have BWd:=zH (zac BWb.out zR BQ2);have hszd:wq.heap.size<wd.heap.size:=(by have:=BQ2.size;omega);clear m1 m2 wj1 wj2 wj3 b0 b1 b2 b3 b4 b5 u1 hwd BQ1 BQ2;have zmn:(minB ra rb).size≤140737488355328:=(by unfold minB;split;exact z1;exact z0);have zmx:(maxB ra rb).size≤140737488355328:=(by unfold maxB;split;exact z1;exact z0);go_upto_region 15 with fail;generalize hwt:wd.alloc _=wt;have BQ:=gB1 hwt;have HP:=gA11 hwt;obtain ⟨b14,hb14⟩:∃z,z=wd.heap.size:=⟨_,rfl⟩;rw [←hb14] at HP ⊢;have H1:=zH (zab BQ H1.out);have H4:=zH (zab BQ H4.out);have H6:=zH (zab BQ H6.out);have BWt:=zH (zac BWd.out zR BQ);have hszt:wq.heap.size<wt.heap.size:=(by have:=BQ.size;omega);have HP:=zH HP;clear hwt BQ hb14;have G4n:=H4;have G6n:=H6;have BWN:=BWt;by_cases hab:ra=rb
      ·have HNONE:=zH (zex HRE.out (show nbrO o id=none by rw [HNB.out,if_pos hab]));subst hab;obtain ⟨rz,r0,r1⟩:=rk2 G4n.out;have rf0:=frozen_of_row wt _ 0 _ _ G4n.out;have rf1:=frozen_of_row wt _ 1 _ _ G4n.out;obtain ⟨qz,q0,q1⟩:=rk2 G6n.out;go_wp2;refine bodyPost_ret (v:=.tuple #[.agg #[.string ca,.string cb],.bool false]) ?_ rfl ⟨ca,cb,?_,?_,?_⟩
       ·simp [results,Tryz.results68,go_sem,r0,r1]
       ·rw [HNONE.out];rfl
       ·intro p h;rw [HNONE.out] at h;cases h
       ·exact ((BWN.out.setCell (p:=⟨g4,0,none⟩) (by simp only;omega) _).setCell (p:=⟨g4,1,none⟩) (by simp only;omega) _)
      ·have HNB:=zH (show nbrO o id=some (minB ra rb,maxB ra rb) by rw [HNB.out,if_neg hab];rfl);have habb:=zfh hab;clear hab;have hs:=HST.out;have hneq:=fun W=>zuh (minB ra rb,maxB ra rb) (ca,cb) W zmn zmx hs.za hs.zb;simp only [] at hneq;cases fd with
       |false =>
        have HNS:=zH (show NrS l id (q+1) true (minB ra rb) (maxB ra rb) from ⟨zmn,zmx,fun h=>(by cases h),fun _=>⟨o,HRE.out,HNB.out⟩,fun x hx=>by
         rw [HT2.out,hs.no rfl,List.nil_append,List.mem_singleton] at hx
         rw [hx];exact HNB.out⟩)
        clear hneq hs;obtain ⟨pz,p0,p1⟩:=rk2 HP.out;obtain ⟨qz,q0,q1⟩:=rk2 H6.out;have qf0:=frozen_of_row wt _ 0 _ _ H6.out;have qf1:=frozen_of_row wt _ 1 _ _ H6.out;go_wp2;go_roundw;case rel =>
         have r6:=zbl (i:=1) (v:=.string (maxB ra rb)) (zbl (i:=0) (v:=.string (minB ra rb)) H6.out);have r4:=zai (a:=⟨g6,1,none⟩) (v:=.string (maxB ra rb)) (zai (a:=⟨g6,0,none⟩) (v:=.string (minB ra rb)) H4.out (show g4≠g6 by omega)) (show g4≠g6 by omega);have r1:=zai (a:=⟨g6,1,none⟩) (v:=.string (maxB ra rb)) (zai (a:=⟨g6,0,none⟩) (v:=.string (minB ra rb)) H1.out (show g1≠g6 by omega)) (show g1≠g6 by omega);exact ⟨q+1,true,minB ra rb,maxB ra rb,rfl,by go_num,by omega,HNS.out,(BWt.out.setCell (p:=⟨g6,0,none⟩) (by simp only;omega) _).setCell (p:=⟨g6,1,none⟩) (by simp only;omega) _,by simp;omega,r1,r4,by simpa using r6⟩
        case measure=>simp [intOf];omega
       |true =>
        by_cases hpair:(minB ra rb,maxB ra rb)=(ca,cb)
        ·have HNS:=zH (show NrS l id (q+1) true (minB ra rb) (maxB ra rb) from ⟨zmn,zmx,fun h=>(by cases h),fun _=>⟨o,HRE.out,HNB.out⟩,fun x hx=>by
          rw [HT2.out] at hx
          rcases List.mem_append.1 hx with hx | hx
          ·rw [hpair];exact hs.all x hx
          ·rw [List.mem_singleton.1 hx];exact HNB.out⟩)
         rw [decide_eq_true hpair] at hneq;clear hpair hs;obtain ⟨qz,q0,q1⟩:=rk2 H6.out;obtain ⟨pz,p0,p1⟩:=rk2 HP.out;obtain ⟨qz,q0,q1⟩:=rk2 H6.out;have qf0:=frozen_of_row wt _ 0 _ _ H6.out;have qf1:=frozen_of_row wt _ 1 _ _ H6.out;go_wp2;go_roundw;case rel =>
          have r6:=zbl (i:=1) (v:=.string (maxB ra rb)) (zbl (i:=0) (v:=.string (minB ra rb)) H6.out);have r4:=zai (a:=⟨g6,1,none⟩) (v:=.string (maxB ra rb)) (zai (a:=⟨g6,0,none⟩) (v:=.string (minB ra rb)) H4.out (show g4≠g6 by omega)) (show g4≠g6 by omega);have r1:=zai (a:=⟨g6,1,none⟩) (v:=.string (maxB ra rb)) (zai (a:=⟨g6,0,none⟩) (v:=.string (minB ra rb)) H1.out (show g1≠g6 by omega)) (show g1≠g6 by omega);exact ⟨q+1,true,minB ra rb,maxB ra rb,rfl,by go_num,by omega,HNS.out,(BWt.out.setCell (p:=⟨g6,0,none⟩) (by simp only;omega) _).setCell (p:=⟨g6,1,none⟩) (by simp only;omega) _,by simp;omega,r1,r4,by simpa using r6⟩
         case measure=>simp [intOf];omega
        ·obtain ⟨x0,hx0,hx1⟩:=hs.yes rfl;have HNONE:=zH (zql HRE.out hx0 HNB.out hx1 hpair);rw [decide_eq_false hpair] at hneq;clear hpair hs hx0 hx1;obtain ⟨pz,p0,p1⟩:=rk2 HP.out;obtain ⟨rz,r0,r1⟩:=rk2 G4n.out;have rf0:=frozen_of_row wt _ 0 _ _ G4n.out;have rf1:=frozen_of_row wt _ 1 _ _ G4n.out;obtain ⟨qz,q0,q1⟩:=rk2 G6n.out;go_wp2;refine bodyPost_ret (v:=.tuple #[.agg #[.string ca,.string cb],.bool false]) ?_ rfl ⟨ca,cb,?_,?_,?_⟩
         ·simp [results,Tryz.results68,go_sem,r0,r1]
         ·rw [HNONE.out];rfl
         ·intro p h;rw [HNONE.out] at h;cases h
         ·exact ((BWN.out.setCell (p:=⟨g4,0,none⟩) (by simp only;omega) _).setCell (p:=⟨g4,1,none⟩) (by simp only;omega) _)
   ·have IN:=IN.out;rw [decide_eq_false hm] at IN;have IN:=zH IN;have HT2:=HT.out;rw [if_neg hm,List.append_nil] at HT2;have hs:=HST.out;have HSN:=zH (show NrS l id (q+1) fd ca cb from ⟨hs.za,hs.zb,fun h=>by rw [HT2];exact hs.no h,hs.yes,fun x hx=>hs.all x (by rw [←HT2];exact hx)⟩);clear hm HT HT2 hs;obtain ⟨xz,x0,x1,x2,x3,x4,x5⟩:=rk6 HX.out;go_wp2_with fail;refine IN.out.mono ?_;rintro e wi ⟨rfl,rfl⟩;go_wp2;go_roundw;case rel=>exact ⟨q+1,fd,ca,cb,rfl,by go_num,by omega,HSN.out,BWX,by omega,H1.out,H4.out,H6.out⟩
    case measure=>simp [intOf];omega
  ·obtain rfl:q=N:=(by omega);have hs:=HST.out;have htk:l.take q=l:=List.take_of_length_le (by rw [HN.out];exact Nat.le_refl _);have hno:=hs.no;have hall:=hs.all;rw [htk] at hno hall;have HISS:=zH (show (zcr l id).isSome=fd by
    cases fd with
    |false=>rw [zqm (hno rfl)];rfl
    |true =>
     obtain ⟨x,hx,-⟩:=hs.yes rfl
     rw [zqo (fun c=>by rw [c] at hx;cases hx) hall];rfl)
   have HPP:=zH (show ∀p,zcr l id=some p→p=(ca,cb) from fun p h=>by
    cases fd with
    |false=>rw [zqm (hno rfl)] at h;cases h
    |true =>
     obtain ⟨x,hx,-⟩:=hs.yes rfl
     rw [zqo (fun c=>by rw [c] at hx;cases hx) hall] at h
     injection h with h
     exact h.symm)
   clear hs htk hno hall;obtain ⟨mz,m0⟩:=rk1 H1.out;obtain ⟨rz,r0,r1⟩:=rk2 H4.out;have rf0:=frozen_of_row wq _ 0 _ _ H4.out;have rf1:=frozen_of_row wq _ 1 _ _ H4.out;obtain ⟨qz,q0,q1⟩:=rk2 H6.out;go_wp2;refine bodyPost_ret (v:=.tuple #[.agg #[.string ca,.string cb],.bool fd]) ?_ rfl ⟨ca,cb,?_,HPP.out,?_⟩
   ·simp [results,Tryz.results68,go_sem,r0,r1]
   ·rw [HISS.out]
   ·exact ((hbr.setCell (p:=⟨g4,0,none⟩) (by simp only;omega) _).setCell (p:=⟨g4,1,none⟩) (by simp only;omega) _)
end Go.Proofs.YtibpaaajghbkoaaGreat

namespace Go.Proofs.YtibpaaajghbkoaaGreat
open Go.RowKit Go.Sort
def zih (l:List ObjD) (o:ObjD):Option Int:=match zcr l o.id with
 |none=>none
 |some p=>if o.kind=1∧o.tags.length=0∧zeq l (o.id,0,p)=true then some (zdr (ptO l o.id) (ptO l p.1) (ptO l p.2)) else none
theorem zalw {l:List ObjD} (hf:fitP l=true) {id:ByteArray} {p:KeyD} (h:zcr l id=some p):isNd l p.1∧isNd l p.2:=by obtain ⟨_,_,_,_,h1,h2⟩:=zsm h;obtain ⟨o1,ho1,hk1,hr1⟩:=zgf.1 h1;obtain ⟨o2,ho2,hk2,hr2⟩:=zgf.1 h2;exact ⟨zaiz hf ho1 hk1 hr1,zaiz hf ho2 hk2 hr2⟩
def zaah (l:List ObjD) (o:ObjD) (w:World) (e:Ending) (w':World):Prop :=
 e=.returned (.tuple #[.int .i64 ((zih l o).getD 0),.bool (zih l o).isSome])∧Below w.heap.size w w'
theorem znn {l:List ObjD} {o:ObjD} (h:zih l o=none) (w w':World) (hb:Below w.heap.size w w'):zaah l o w (.returned (.tuple #[.int .i64 0,.bool false])) w' :=
 ⟨by rw [h];rfl,hb⟩
set_option maxRecDepth 100000 in
set_option maxHeartbeats 4000000 in
theorem zagk (v vr vt:Value) (l:List ObjD) (o:ObjD) (w:World) (hv:zbb w v l) (hr:zaj w vr o.refs) (ht:zba w vt o.tags) (hf:fitP l=true) (ho:o∈l) :
  Calls Tryz.prog 35 #[.agg #[v],.agg #[.string o.id,.int .i64 o.kind,.int .i64 o.x,.int .i64 o.y,vr,vt]] w (zaah l o w):=by
 have mixed:Tryz.prog.follows .mixedOrders=true:=by kernel_rfl
 have HOK:=zH (zdb.1 hf).1;have NB:=zH (fun W (hb:Below w.heap.size w W)=>zadk v l o.id W (hv.later hb) HOK.out);have FR:=zH (fun k W (hb:Below w.heap.size w W) (h0:isNd l o.id) (h1:isNd l k.1) (h2:isNd l k.2)=>zadp v l o.id k W (hv.later hb) hf h0 h1 h2);have PT:=zH (fun r W (h:isNd l r) (hb:Below w.heap.size w W)=>zagd v l r W (hv.later hb) HOK.out h.choose_spec.1 h.choose_spec.2);have HND:=zH (fun p (h:zcr l o.id=some p)=>zalw hf h);have HAT:=zH (zla HOK.out ho);have HNR:=zH (fun r=>zfz HOK.out r);obtain ⟨a,cap,rfl,-⟩:=hv;obtain ⟨ar,capr,rfl,-⟩:=hr;obtain ⟨at1,capt,rfl,-⟩:=ht;obtain ⟨N,hN⟩:∃N,l.length=N:=⟨_,rfl⟩;rw [hN] at NB FR PT ⊢;clear hN ho hf;go_enter Tryz.func35,Tryz.ntmps35;go_upto_region 1 with fail;generalize hw1:(w.alloc _).alloc _=w1;have B1:=gB2 hw1;have G1:=gA21 hw1;have G2:=gA22 hw1;obtain ⟨g1,hg1⟩:∃z,z=w.heap.size:=⟨_,rfl⟩;obtain ⟨g2,hg2⟩:∃z,z=w.heap.size+1:=⟨_,rfl⟩;rw [←hg2] at G2;rw [←hg1] at G1;rw [←hg2,←hg1];have G1:=zH G1;have G2:=zH G2;clear hw1 hg1 hg2;obtain ⟨mz,m0⟩:=rk1 G1.out;obtain ⟨xz,x0,x1,x2,x3,x4,x5⟩:=rk6 G2.out;by_cases hk:o.kind=1
 ·have e1:(o.kind != 1)=false:=zanb hk;by_cases ht0:o.tags.length=0
  ·have d1:decide ((0:Int)<(o.tags.length:Int))=false:=decide_eq_false (by omega);have d2:decide (0<o.tags.length)=false:=decide_eq_false (by omega);have h0:isNd l o.id:=⟨o,HAT.out,hk⟩;have hpt:ptO l o.id=(o.x,o.y):=zalo HOK.out HAT.out hk;have HCR:=zH (show zih l o=(match zcr l o.id with
    |none=>none
    |some p=>if o.kind=1∧o.tags.length=0∧zeq l (o.id,0,p)=true then some (zdr (ptO l o.id) (ptO l p.1) (ptO l p.2)) else none) from rfl)
   have HKT:=zH (And.intro hk ht0);have H0:=zH h0;have HPT:=zH hpt;clear hk ht0 h0 hpt;go_wp2_with fail;refine (NB.out w1 B1).mono ?_;rintro e w2 ⟨ka,kb,rfl,hp,hb⟩;have B2:=zac B1 zR hb;have G1:=zH (zab hb G1.out);have G2:=zH (zab hb G2.out);clear m0 mz;clear x0 x1 x2 x3 x4 x5 xz;cases hn:zcr l o.id with
   |none =>have HE:=zH (show zih l o=none by rw [HCR.out,hn]);clear hp hb hn;go_wp2;go_ret2;exact znn HE.out _ _ (B2.alloc B2.size _)
   |some p =>
    obtain rfl:=hp p hn;obtain ⟨n1,n2⟩:=HND.out _ hn;have HE:=zH (show zih l o=if o.kind=1∧o.tags.length=0∧zeq l (o.id,0,(ka,kb))=true then some (zdr (ptO l o.id) (ptO l ka) (ptO l kb)) else none by rw [HCR.out,hn]);have N1:=zH n1;have N2:=zH n2;clear hp hb hn n1 n2 HCR HND NB;go_upto_region 4 with fail;generalize hw3:w2.alloc _=w3;have BP:=gB1 hw3;have GP:=gA11 hw3;obtain ⟨g6,hg6⟩:∃z,z=w2.heap.size:=⟨_,rfl⟩;rw [←hg6] at GP ⊢;have GP:=zH GP;have G1:=zH (zab BP G1.out);have G2:=zH (zab BP G2.out);have B3:=zac B2 zR BP;clear hw3 hg6 BP;have F1:=FR.out (ka,kb) w3 B3 H0.out N1.out N2.out;rw [←zuf HOK.out o.id 0 (ka,kb)] at F1;have F1:=zH F1;obtain ⟨fr,hfr⟩:∃z,zeq l (o.id,0,(ka,kb))=z:=⟨_,rfl⟩;rw [hfr] at F1 HE;obtain ⟨mz,m0⟩:=rk1 G1.out;obtain ⟨xz,x0,x1,x2,x3,x4,x5⟩:=rk6 G2.out;obtain ⟨pz,p0,p1⟩:=rk2 GP.out;clear hfr;go_wp2_with fail;refine F1.out.mono ?_;rintro e w4 ⟨rfl,hb⟩;have B4:=zac B3 zR hb;clear m0 mz;clear x0 x1 x2 x3 x4 x5 xz;clear p0 p1 pz;cases fr with
    |false =>have HE2:=zH (show zih l o=none by rw [HE.out,if_neg (fun c=>by cases c.2.2)]);clear hb;go_wp2;go_ret2;exact znn HE2.out _ _ B4
    |true =>
     have HE2:=zH (show zih l o=some (zdr (ptO l o.id) (ptO l ka) (ptO l kb)) by rw [HE.out,if_pos ⟨HKT.out.1,HKT.out.2,rfl⟩]);have G1:=zH (zab hb G1.out);have G2:=zH (zab hb G2.out);have GP:=zH (zab hb GP.out);have PA:=zH (fun W (hb:Below w4.heap.size w4 W)=>PT.out ka W N1.out (zac B4 zR hb));have PB:=zH (fun W (hb:Below w4.heap.size w4 W)=>PT.out kb W N2.out (zac B4 zR hb));have SZ:=zH (fun W=>zkp (ptO l o.id) (ptO l ka) (ptO l kb) (HNR.out _) (HNR.out _) (HNR.out _) W);rw [HPT.out] at SZ HE2;generalize zdr (o.x,o.y) (ptO l ka) (ptO l kb)=sz at SZ HE2;generalize ptO l ka=pa at PA SZ;generalize ptO l kb=pb at PB SZ;obtain ⟨pax,pay⟩:=pa;obtain ⟨pbx,pby⟩:=pb;clear hb HE F1 FR;go_upto_region 6 with fail;obtain ⟨mz,m0⟩:=rk1 G1.out;have qm0:=zaa m0;clear m0;obtain ⟨xz,x0,x1,x2,x3,x4,x5⟩:=rk6 G2.out;have qx0:=zaa x0;have qx1:=zaa x1;have qx2:=zaa x2;have qx3:=zaa x3;have qx4:=zaa x4;have qx5:=zaa x5;clear x0 x1 x2 x3 x4 x5;obtain ⟨pz,p0,p1⟩:=rk2 GP.out;have qp0:=zaa p0;have qp1:=zaa p1;clear p0 p1;refine zae mixed (by kernel_rfl) ?_;repeat (go_big_quiet_step (first | (go_at_call 71;first | with_reducible exact zad (PA.out _ (zam.below _)) | with_reducible exact zad (PB.out _ (zam.below _))) | (go_at_call 70;exact zad (SZ.out _))))
     refine wpQuiet_nil ?_;intro w9 hw';obtain ⟨⟨wz,hbz⟩,hw''⟩:=hw';subst hw'';have BZ:=zac B4 zR hbz;go_wp2;go_ret2;exact ⟨by rw [HE2.out];rfl,BZ⟩
  ·have d1:decide ((0:Int)<(o.tags.length:Int))=true:=decide_eq_true (by omega);have d2:decide (0<o.tags.length)=true:=decide_eq_true (by omega);have HE:=zH (show zih l o=none by unfold zih;split;rfl;rw [if_neg (fun c=>ht0 c.2.1)]);clear ht0 hk;go_wp2;go_ret2;exact znn HE.out _ _ B1
 ·have e1:(o.kind != 1)=true:=zafc hk;have HE:=zH (show zih l o=none by unfold zih;split;rfl;rw [if_neg (fun c=>hk c.1)]);clear hk;go_wp2;go_ret2;exact znn HE.out _ _ B1
end Go.Proofs.YtibpaaajghbkoaaGreat

namespace Go.Proofs.YtibpaaajghbkoaaGreat
def zyb (l:List ObjD) (tol:Int) (o:ObjD) (b:Option (ByteArray × Int)):Option (ByteArray × Int):=match zih l o with
 |none=>b
 |some n=>if n≤tol then (match b with
  |none=>some (o.id,n)
  |some d=>if n<d.2 then some (o.id,n) else some d) else b
theorem zaab {l:List ObjD} (h:zas l=true) (tol:Int) (o:ObjD):((zkd l tol o).filter (zeq l)).map (fun c=>(c.1,c.2.1))=(match zih l o with
  |none=>none
  |some n=>if n≤tol then some (o.id,n) else none):=by
 unfold zkd zih;cases hn:zcr l o.id with
 |none=>rfl
 |some p =>
  simp only [];have hfr:∀n:Int,zeq l (o.id,n,p)=zeq l (o.id,0,p):=fun n=>by rw [zuf h,zuf h]
  by_cases h1:o.kind=1∧o.tags.length=0
  ·by_cases h2:zdr (ptO l o.id) (ptO l p.1) (ptO l p.2)≤tol
   ·rw [if_pos ⟨h1.1,h1.2,h2⟩];cases hf:zeq l (o.id,0,p) with
    |true =>rw [if_pos ⟨h1.1,h1.2,rfl⟩];simp only [Option.filter,hfr,hf,if_true,Option.map_some,if_pos h2]
    |false =>rw [if_neg (fun c=>by cases c.2.2)];simp [Option.filter,hfr,hf]
   ·rw [if_neg (fun c=>h2 c.2.2)];split
    ·rfl
    ·rename_i n hs;split at hs
     ·injection hs with hs;rw [←hs,if_neg h2];rfl
     ·cases hs
  ·rw [if_neg (fun c=>h1 ⟨c.1,c.2.1⟩),if_neg (fun c=>h1 ⟨c.1,c.2.1⟩)];rfl
theorem zanc {l:List ObjD} (h:zas l=true) (tol:Int) (o:ObjD) (b:Option (ByteArray × Int)):zkz l tol [o] b=zyb l tol o b:=by
 have hc:=zaab h tol o;rw [zkz,zkz];unfold zyb;cases hf:(zkd l tol o).filter (zeq l) with
 |none =>
  rw [hf] at hc;cases hr:zih l o with
  |none=>rfl
  |some n =>
   rw [hr] at hc;simp only [Option.map_none] at hc;by_cases hn:n≤tol
   ·rw [if_pos hn] at hc;cases hc
   ·simp only [if_neg hn]
 |some c =>
  rw [hf] at hc;cases hr:zih l o with
  |none=>rw [hr] at hc;cases hc
  |some n =>
   rw [hr] at hc;simp only [Option.map_some] at hc;by_cases hn:n≤tol
   ·rw [if_pos hn] at hc;injection hc with hc;injection hc with h1 h2;cases b<;>simp [hn,h1,h2]
   ·rw [if_neg hn] at hc;cases hc
theorem zach (l:List ObjD) (tol:Int):∀(A B:List ObjD) (b:Option (ByteArray × Int)),zkz l tol (A++B) b=zkz l tol B (zkz l tol A b)
 |[],_,_=>rfl
 |o :: A,B,b=>by rw [List.cons_append,zkz,zkz,zach l tol A B]
theorem zno {l:List ObjD} (h:zas l=true) (tol:Int) {j:Nat} {o:ObjD} (ho:l[j]?=some o):zkz l tol (l.take (j+1)) none=zyb l tol o (zkz l tol (l.take j) none):=by rw [zbn ho,zach,zanc h]
def BeS (l:List ObjD) (tol:Int) (j:Nat) (bs sz:Int):Prop:=(bs=-1∧zkz l tol (l.take j) none=none)∨∃(bi:Nat) (ob:ObjD),bs=(bi:Int)∧l[bi]?=some ob∧zkz l tol (l.take j) none=some (ob.id,sz)
theorem BeS.skip {l:List ObjD} (h:zas l=true) {tol:Int} {j:Nat} {bs sz:Int} {o:ObjD} (ho:l[j]?=some o) (hb:BeS l tol j bs sz) (hc:zih l o=none):BeS l tol (j+1) bs sz:=by unfold BeS at hb ⊢;rw [zno h tol ho];unfold zyb;rw [hc];exact hb
theorem BeS.big {l:List ObjD} (h:zas l=true) {tol:Int} {j:Nat} {bs sz n:Int} {o:ObjD} (ho:l[j]?=some o) (hb:BeS l tol j bs sz) (hc:zih l o=some n) (hn:¬n≤tol):BeS l tol (j+1) bs sz:=by unfold BeS at hb ⊢;rw [zno h tol ho];unfold zyb;rw [hc];simp only [if_neg hn];exact hb
theorem BeS.keep {l:List ObjD} (h:zas l=true) {tol:Int} {j:Nat} {bs sz n:Int} {o:ObjD} (ho:l[j]?=some o) (hb:BeS l tol j bs sz) (hc:zih l o=some n) (h0:¬bs<0) (hn:¬n<sz):BeS l tol (j+1) bs sz:=by
 unfold BeS at hb ⊢;rw [zno h tol ho];unfold zyb;rw [hc];rcases hb with ⟨e,_⟩ | ⟨bi,ob,e1,e2,e3⟩
 ·omega
 ·rw [e3];by_cases hn2:n≤tol
  ·simp only [if_pos hn2,if_neg hn];exact Or.inr ⟨bi,ob,e1,e2,rfl⟩
  ·simp only [if_neg hn2];exact Or.inr ⟨bi,ob,e1,e2,rfl⟩
theorem BeS.takes {l:List ObjD} (h:zas l=true) {tol:Int} {j:Nat} {bs sz n:Int} {o:ObjD} (ho:l[j]?=some o) (hb:BeS l tol j bs sz) (hc:zih l o=some n) (hn:n≤tol) (hx:bs<0∨n<sz):BeS l tol (j+1) (j:Int) n:=by
 unfold BeS at hb ⊢;rw [zno h tol ho];unfold zyb;rw [hc];refine Or.inr ⟨j,o,rfl,ho,?_⟩;rcases hb with ⟨_,e⟩ | ⟨bi,ob,e1,e2,e3⟩
 ·rw [e];simp only [if_pos hn]
 ·rw [e3];simp only [if_pos hn];rw [if_pos (by omega)]
theorem BeS.last {l:List ObjD} (h:zas l=true) {tol:Int} {j:Nat} {bs sz:Int} (hj:l.length≤j) (hb:BeS l tol j bs sz):(bs=-1∧zhd l tol=none)∨∃(bi:Nat) (ob:ObjD),bs=(bi:Int)∧l[bi]?=some ob∧zhd l tol=some ob.id:=by
 have hs:=zakf h tol;unfold BeS at hb;rw [List.take_of_length_le hj] at hb;rcases hb with ⟨e,h1⟩ | ⟨bi,ob,e1,e2,e3⟩
 ·rw [h1] at hs;exact Or.inl ⟨e,hs.symm⟩
 ·rw [e3] at hs;exact Or.inr ⟨bi,ob,e1,e2,hs.symm⟩
end Go.Proofs.YtibpaaajghbkoaaGreat

namespace Go.Proofs.YtibpaaajghbkoaaGreat
open Go.RowKit Go.Sort
theorem zxo.setV {W:World} {g b off:Nat} {o:ObjD} {x:Value} {t:TypeId} (hb:W.heap[g]?=some (.cells #[x] t (0,0))) (hx:∀s,x≠.string s) (u:Value) (h:zxo W b off o):zxo (W.setCell ⟨g,0,none⟩ u) b off o:=by
 obtain ⟨vr,vt,c0,c1,c2,c3,c4,c5,⟨ar,cr,e1,n1,z1,k1⟩,⟨at1,ct,e2,n2,z2,k2⟩,hz⟩:=h;have hne:b≠g:=by
  intro e;subst e;rw [cell_of_row W b off _ _ _ hb] at c0
  match off,c0 with
  |0,h=>injection h with h;exact absurd h (hx _)
  |o+1,h=>simp at h
 have cc:∀(q:Nat) (y:Value),W.cell? ⟨b,q,none⟩=some y→(W.setCell ⟨g,0,none⟩ u).cell? ⟨b,q,none⟩=some y:=fun q y hy=>(World.cell?_of_block (Below.heap_setCell W ⟨g,0,none⟩ u b hne)).trans hy;exact ⟨vr,vt,cc _ _ c0,cc _ _ c1,cc _ _ c2,cc _ _ c3,cc _ _ c4,cc _ _ c5,⟨ar,cr,e1,n1,z1,fun hp=>by
  obtain ⟨bb,oo,ha,hc⟩:=k1 hp
  exact ⟨bb,oo,ha,fun i s hs=>zlg hb hx u (hc i s hs)⟩⟩,⟨at1,ct,e2,n2,z2,fun hp=>by
  obtain ⟨bb,oo,ha,hc⟩:=k2 hp
  exact ⟨bb,oo,ha,fun i s hs=>⟨zlg hb hx u (hc i s hs).1,zlg hb hx u (hc i s hs).2⟩⟩⟩,hz⟩
theorem zbb.setV {W:World} {g:Nat} {v:Value} {l:List ObjD} {x:Value} {t:TypeId} (hb:W.heap[g]?=some (.cells #[x] t (0,0))) (hx:∀s,x≠.string s) (u:Value) (h:zbb W v l):zbb (W.setCell ⟨g,0,none⟩ u) v l:=by obtain ⟨a,cap,h1,h2,h3⟩:=h;refine ⟨a,cap,h1,h2,fun h0=>?_⟩;obtain ⟨b,off,e,hc⟩:=h3 h0;exact ⟨b,off,e,fun i o ho=>(hc i o ho).setV hb hx u⟩
def zahw (g:Nat) (W:World):Nat:=match W.heap[g]? with
 |some (.cells cs _ _)=>match cs[0]? with
  |some (Value.slice _ n _)=>n
  |_=>0
 |_=>0
theorem zwd {g:Nat} {W:World} {a:Option Addr} {n c:Nat} {t:TypeId} (h:W.heap[g]?=some (.cells #[.slice a n c] t (0,0))):zahw g W=n:=by unfold zahw;rw [h];rfl
set_option maxRecDepth 100000 in
set_option maxHeartbeats 4000000 in
theorem zadn (v:Value) (l:List ObjD) (tol:Int) (w:World) (hv:zbb w v l) (hl:l.length≤25) (hr:∀o∈l,o.refs.length≤40) :
  Calls Tryz.prog 13 #[.agg #[v],.int .i64 tol] w fun e w'=>∃v',e=.returned (.agg #[v'])∧zbb w' v' (simP l tol)∧Below w.heap.size w w':=by
 have mixed:Tryz.prog.follows .mixedOrders=true:=by kernel_rfl
 have FT:=zH (fun W (hb:Below w.heap.size w W)=>zalh v l W (hv.later hb) (by omega) hr);have HV:=zH hv;obtain ⟨a,cap,rfl,hn,hc⟩:=hv;obtain ⟨N,hN⟩:∃N,l.length=N:=⟨_,rfl⟩;rw [hN] at hn hl FT HV ⊢;have HN:=zH hN;clear hc hN hr;go_enter Tryz.func13,Tryz.ntmps13;go_upto_region 1 with fail;generalize hw1:(w.alloc _).alloc _=w1;have B1:=gB2 hw1;have G2:=gA21 hw1;have G4:=gA22 hw1;have hz1:w1.heap.size=w.heap.size+2:=by rw [←hw1];simp
 obtain ⟨g2,hg2⟩:∃z,z=w.heap.size:=⟨_,rfl⟩;obtain ⟨g4,hg4⟩:∃z,z=w.heap.size+1:=⟨_,rfl⟩;rw [←hg4] at G4;rw [←hg2] at G2;rw [←hg4,←hg2];have lts:w.heap.size≤g2∧g2<g4∧g4<w1.heap.size:=by omega
 obtain ⟨lt1,lt2,lt3⟩:=lts;have H2:=zH G2;have H4:=zH G4;have BW:=zH B1;clear hw1 hg2 hg4 hz1 G2 G4;by_cases ht:tol<0
 ·have htb:decide (tol<0)=true:=decide_eq_true ht;have OBJ:=zH (show zbb w1 (.slice a N cap) (simP l tol) by unfold simP;rw [if_neg (fun c=>by omega)];exact HV.out.later B1)
  clear ht B1;obtain ⟨mz,m0⟩:=rk1 H2.out;obtain ⟨rz,r0⟩:=rk1 H4.out;have rf0:=frozen_of_row w1 _ 0 _ _ H4.out;go_wp2;refine bodyPost_ret (v:=.agg #[.slice a N cap]) ?_ rfl ⟨_,rfl,OBJ.out.setV H4.out (by simp) _,BW.out.setCell (p:=⟨g4,0,none⟩) (by simp only;omega) _⟩;simp [results,Tryz.results13,go_sem,r0]
 ·have htb:decide (tol<0)=false:=decide_eq_false ht;obtain ⟨fp,hfp⟩:∃z,fitP l=z:=⟨_,rfl⟩;have F1:=FT.out w1 B1;rw [hfp] at F1;have F1:=zH F1;have HFP:=zH hfp;clear hfp;obtain ⟨mz,m0⟩:=rk1 H2.out;go_wp2_with fail;refine F1.out.mono ?_;rintro e w2 ⟨rfl,hb⟩;have BW:=zH (zac B1 zR hb);have H2:=zH (zab hb H2.out);have H4:=zH (zab hb H4.out);have hsz2:=hb.size;clear m0 mz;clear F1 hb B1;cases fp with
  |false =>have OBJ:=zH (show zbb w2 (.slice a N cap) (simP l tol) by rw [zyf HFP.out];exact HV.out.later BW.out);obtain ⟨mz,m0⟩:=rk1 H2.out;obtain ⟨rz,r0⟩:=rk1 H4.out;have rf0:=frozen_of_row w2 _ 0 _ _ H4.out;go_wp2;refine bodyPost_ret (v:=.agg #[.slice a N cap]) ?_ rfl ⟨_,rfl,OBJ.out.setV H4.out (by simp) _,BW.out.setCell (p:=⟨g4,0,none⟩) (by simp only;omega) _⟩;simp [results,Tryz.results13,go_sem,r0]
  |true =>
   have HSM:=zH (zyg (tol:=tol) HFP.out (by omega));have OB0:=zH (HV.out.later BW.out);clear ht;go_wp2_with fail;go_loopw [5] (fun _ wr=>∃(l':List ObjD) (a':Option Addr) (c':Nat),wr.heap[g2]?=some (.cells #[.slice a' l'.length c'] 24)∧wr.heap[g4]?=some (.cells #[.slice none 0 0] 24)∧zbb wr (.slice a' l'.length c') l'∧fitP l'=true∧allP l' tol=allP l tol∧l'.length≤25∧Below w.heap.size w wr∧w1.heap.size≤wr.heap.size) (fun _ wr=>zahw g2 wr);case atStart=>exact ⟨l,a,cap,by rw [HN.out];exact H2.out,H4.out,by rw [HN.out];exact OB0.out,HFP.out,rfl,by rw [HN.out];exact hl,BW.out,hsz2⟩
   case round =>
    obtain ⟨wq,rfl⟩:∃z:World,z=wr:=⟨_,rfl⟩;obtain ⟨l',a',c',h2,h4,hob,hf,hall,hl',hbw,hszq⟩:=hrel;have H2:=zH h2;have H4:=zH h4;have HOB:=zH hob;have HF:=zH hf;have HALL:=zH hall;have HOK:=zH (zdb.1 hf).1;have BWq:=zH hbw;have HML:=zH (zwd h2);have CN:=zH (fun o (ho:o∈l') xr xt W (hb:Below wq.heap.size wq W) (h1:zaj W xr o.refs) (h2:zba W xt o.tags)=>zagk (.slice a' l'.length c') xr xt l' o W (hob.later hb) h1 h2 hf ho);have WO:=zH (fun id W (hb:Below wq.heap.size wq W)=>zvh (.slice a' l'.length c') l' id W (hob.later hb) HOK.out);obtain ⟨n,hn'⟩:∃n,l'.length=n:=⟨_,rfl⟩;obtain ⟨_,_,hvv,-,hc⟩:=hob;injection hvv with e1 _ e2;subst e1 e2;rw [hn'] at H2 hc HML CN WO HOB hl';have HC:=zH hc;have HNN:=zH hn';clear h2 h4 hf hall hbw hc hn';go_wp2_with fail;go_loopw [5,6,7] (fun v5 v6 i wr=>∃(j:Nat) (bs sz:Int),i=.int .i64 j∧j≤n∧v5=.int .i64 bs∧v6=.int .i64 sz∧BeS l' tol j bs sz∧Below wq.heap.size wq wr) (fun _ _ i _=>n - (intOf i).toNat);case atStart=>exact ⟨0,-1,0,rfl,Nat.zero_le _,rfl,rfl,Or.inl ⟨rfl,rfl⟩,Below.refl _ _⟩
    case round =>
     obtain ⟨j,bs,sz,rfl,hj,rfl,rfl,hbe,hbi⟩:=hrel;obtain ⟨wi,rfl⟩:∃z:World,z=wr:=⟨_,rfl⟩;have H2i:=zH (zab hbi H2.out);have HBE:=zH hbe;clear hbe;by_cases hlt:j<n
     ·obtain ⟨o,ho⟩:∃o,l'[j]?=some o:=⟨l'[j]'(by rw [HNN.out];exact hlt),List.getElem?_eq_getElem _⟩;obtain ⟨b,off,ha,hcell⟩:=HC.out (by omega);subst ha;obtain ⟨vr,vt,c0,c1,c2,c3,c4,c5,hsr,htr,hz⟩:=(hcell j o ho).later hbi;have HSR:=zH hsr;have HTR:=zH htr;obtain ⟨ar,capr,rfl,-⟩:=hsr;obtain ⟨at1,capt,rfl,-⟩:=htr;have HO:=zH ho;have CX:=zH (fun W (hb:Below wi.heap.size wi W)=>CN.out o (zM ho) (.slice ar o.refs.length capr) (.slice at1 o.tags.length capt) W (zac hbi zR hb) (HSR.out.later hb) (HTR.out.later hb));have c0:=zaa c0;have c1:=zaa c1;have c2:=zaa c2;have c3:=zaa c3;have c4:=zaa c4;have c5:=zaa c5;obtain ⟨cr,hcr⟩:∃z,zih l' o=z:=⟨_,rfl⟩;unfold zaah at CX;rw [hcr] at CX;have HCR:=zH hcr;clear hcell ho hcr;obtain ⟨mz,m0⟩:=rk1 H2i.out;go_upto_region 8 with fail;clear m0 mz;obtain ⟨mz,m0⟩:=rk1 H2i.out;have qm0:=zaa m0;clear m0;refine zae mixed (by kernel_rfl) ?_;repeat (go_big_quiet_step ((go_at_call 35;exact zad (CX.out _ (zam.below _)))))
      refine wpQuiet_nil ?_;intro wa hw';obtain ⟨⟨wz9,hba⟩,hw''⟩:=hw';subst hw'';have BA2:=zac hbi zR hba;clear c0 c1 c2 c3 c4 c5 qm0 CX;cases cr with
      |none =>
       have HNS:=zH (HBE.out.skip HOK.out HO.out HCR.out);go_wp2;go_roundw;case rel=>exact ⟨j+1,bs,sz,by go_num,by omega,rfl,rfl,HNS.out,BA2⟩
       case measure=>simp [intOf];omega
      |some nn =>
       by_cases hnt:nn≤tol
       ·have d1:decide (nn≤tol)=true:=decide_eq_true hnt;by_cases hb0:bs<0
        ·have d2:decide (bs<0)=true:=decide_eq_true hb0;have HNS:=zH (HBE.out.takes HOK.out HO.out HCR.out hnt (Or.inl hb0));go_wp2;go_roundw;case rel=>exact ⟨j+1,j,nn,by go_num,by omega,rfl,rfl,HNS.out,BA2⟩
         case measure=>simp [intOf];omega
        ·have d2:decide (bs<0)=false:=decide_eq_false hb0;by_cases hsz:nn<sz
         ·have d3:decide (nn<sz)=true:=decide_eq_true hsz;have HNS:=zH (HBE.out.takes HOK.out HO.out HCR.out hnt (Or.inr hsz));go_wp2;go_roundw;case rel=>exact ⟨j+1,j,nn,by go_num,by omega,rfl,rfl,HNS.out,BA2⟩
          case measure=>simp [intOf];omega
         ·have d3:decide (nn<sz)=false:=decide_eq_false hsz;have HNS:=zH (HBE.out.keep HOK.out HO.out HCR.out hb0 hsz);go_wp2;go_roundw;case rel=>exact ⟨j+1,bs,sz,by go_num,by omega,rfl,rfl,HNS.out,BA2⟩
          case measure=>simp [intOf];omega
       ·have d1:decide (nn≤tol)=false:=decide_eq_false hnt;have HNS:=zH (HBE.out.big HOK.out HO.out HCR.out hnt);go_wp2;go_roundw;case rel=>exact ⟨j+1,bs,sz,by go_num,by omega,rfl,rfl,HNS.out,BA2⟩
        case measure=>simp [intOf];omega
     ·obtain rfl:j=n:=(by omega);have H4i:=zH (zab hbi H4.out);have BWi:=zH (zac BWq.out zR hbi);rcases HBE.out.last HOK.out (by rw [HNN.out];exact Nat.le_refl _) with ⟨rfl,hst⟩ | ⟨bi,ob,rfl,hbo,hst⟩
      ·have OBJ:=zH (show zbb wi (.slice a' j c') (simP l tol) by rw [HSM.out,←HALL.out,zuq hst];exact HOB.out.later hbi)
       have H2:=H2i;have H4:=H4i;have BW:=BWi;clear hst;obtain ⟨mz,m0⟩:=rk1 H2.out;obtain ⟨rz,r0⟩:=rk1 H4.out;have rf0:=frozen_of_row wi _ 0 _ _ H4.out;go_wp2;refine bodyPost_ret (v:=.agg #[.slice a' j c']) ?_ rfl ⟨_,rfl,OBJ.out.setV H4.out (by simp) _,BW.out.setCell (p:=⟨g4,0,none⟩) (by simp only;omega) _⟩;simp [results,Tryz.results13,go_sem,r0]
      ·have hbn:bi<j:=(by have:=(List.getElem?_eq_some_iff.1 hbo).1;rw [HNN.out] at this;exact this);obtain ⟨b,off,ha,hcell⟩:=HC.out (by omega);subst ha;obtain ⟨_,_,c0,_⟩:=(hcell bi ob hbo).later hbi;have W1:=zH (fun W (hb:Below wi.heap.size wi W)=>WO.out ob.id W (zac hbi zR hb));have HST:=zH hst;have HFS:=zH (zug HF.out hst);have HLT:=zH (znk (l:=l') (id:=ob.id) ⟨ob,zM hbo,rfl⟩);have jb:(0:Int)≤(bi:Int):=(by omega);have jb2:(bi:Int)<(j:Int):=(by omega);have g1:decide ((bi:Int)<0)=false:=decide_eq_false (by omega);have cz:=zag c0;clear hcell hbo hst;obtain ⟨mz,m0⟩:=rk1 H2i.out;go_upto_region 14 with fail;go_region_with (refine (W1.out _ ((Below.refl _ _).drew)).mono ?_;rintro e W4 ⟨v4,rfl,hv4,hb⟩;obtain ⟨a4,c4,e4,_⟩:=id hv4;subst e4;have H24:=zab hb (show wi.drew.heap[g2]?=some (.cells #[.slice (some ⟨b,off,none⟩) j c'] 24) from H2i.out);have y0:=cell_of_row W4 _ 0 _ _ _ H24;have yf0:=frozen_of_row W4 _ 0 _ _ H24;simp only [List.getElem?_toArray,List.getElem?_cons_zero] at y0);all_goals
        have hb':Below wi.heap.size wi W4:=((Below.refl _ _).drew:Below wi.heap.size wi wi.drew).trans hb;have H44:=zab hb' H4i.out;have OBJ:=zH (hv4.setV H24 (by simp) (.slice a4 (zaz l' ob.id).length c4));have H2n:=zH (show (W4.setCell ⟨g2,0,none⟩ (.slice a4 (zaz l' ob.id).length c4)).heap[g2]?=some (.cells #[.slice a4 (zaz l' ob.id).length c4] 24) by have:=zbl (i:=0) (v:=.slice a4 (zaz l' ob.id).length c4) H24;simpa using this);have H4n:=zH (zai (a:=⟨g2,0,none⟩) (v:=.slice a4 (zaz l' ob.id).length c4) H44 (show g4≠g2 by omega));have BWn:=zH ((zac BWi.out zR hb').setCell (p:=⟨g2,0,none⟩) (show w.heap.size≤g2 by omega) (.slice a4 (zaz l' ob.id).length c4));have hs4:=hb'.size;have hsi:=hbi.size;have HSN:w1.heap.size≤(W4.setCell ⟨g2,0,none⟩ (.slice a4 (zaz l' ob.id).length c4)).heap.size:=(by simp;omega);have hlt4:=HLT.out;rw [HNN.out] at hlt4;clear hv4 hb hb' H44 H24;go_wp2;go_roundw;case rel=>exact ⟨zaz l' ob.id,a4,c4,H2n.out,H4n.out,OBJ.out,HFS.out,by rw [←zup HST.out];exact HALL.out,by omega,BWn.out,HSN⟩
        case measure=>rw [HML.out,zwd H2n.out];omega
end Go.Proofs.YtibpaaajghbkoaaGreat
