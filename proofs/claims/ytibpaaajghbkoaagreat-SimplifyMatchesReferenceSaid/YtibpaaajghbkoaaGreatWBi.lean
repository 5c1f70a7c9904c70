/-  -/
import Derived.Test.YtibpaaajghbkoaaGreatWAs
import Derived.Test.YtibpaaajghbkoaaGreatWBa
namespace Go.Proofs.YtibpaaajghbkoaaGreat
open Go.RowKit Go.Maps Go.Sort
set_option maxRecDepth 100000 in
theorem zuh (a b:KeyD) (w:World) (a1:a.1.size≤140737488355328) (a2:a.2.size≤140737488355328) (b1:b.1.size≤140737488355328) (b2:b.2.size≤140737488355328) :
  (Op.equalIn 10000 83 (.agg #[.string a.1,.string a.2]) (.agg #[.string b.1,.string b.2])).run Tryz.prog w=.ok (decide (a=b)) w:=by
 obtain ⟨D,hD,fD⟩:=zmv a a1 a2;obtain ⟨D',hD',fD'⟩:=zmv b b1 b2;obtain ⟨r,hr,hiff⟩:=run_equalIn_deep 9997 3 83 zail w D D' (keyV a) (keyV b) _ _ fD fD' hD hD';simp only [Nat.reduceAdd] at hr;rw [hr];congr 1;rw [Bool.eq_iff_iff,hiff,decide_eq_true_eq];simp only [List.cons.injEq,Lit.string.injEq,and_true];have hb:∀x y:ByteArray,x.data.toList=y.data.toList↔x=y:=fun x y=>⟨fun e=>by cases x;cases y;simp at e;rw [e],fun e=>by rw [e]⟩;rw [hb,hb,Prod.ext_iff]
def zanz (l:List ObjD) (id:ByteArray) (w:World) (e:Ending) (w':World):Prop :=
 ∃a b,e=.returned (.tuple #[.agg #[.string a,.string b],.bool (zcr l id).isSome])∧(∀p,zcr l id=some p→p=(a,b))∧Below w.heap.size w w'
def NbSt (l:List ObjD) (id:ByteArray) (k:Nat) (a b:ByteArray):Prop:=a.size≤140737488355328∧b.size≤140737488355328∧∀j x,j<k→(zax l id)[j]?=some x→nbrO x id=some (a,b)
theorem zahq {o:ObjD} {id:ByteArray} (h2:o.kind≠2) (h3:o.kind≠3):nbrO o id=none:=by
 unfold nbrO;rw [if_neg];rintro (⟨h,_⟩ | ⟨h,_⟩)
 ·exact h2 h
 ·exact h3 h
theorem zzb {o:ObjD} {id:ByteArray} (h2:o.kind=2) (h:idxR id o.refs=0∨idxR id o.refs=o.refs.length - 1∨id∈o.refs.drop (idxR id o.refs+1)):nbrO o id=none:=by
 unfold nbrO;rw [if_neg];rintro (⟨_,c⟩ | ⟨c,_⟩)
 ·exact c h
 ·omega
theorem zalz {o:ObjD} {id:ByteArray} (h3:o.kind=3) (h:o.refs.length<4):nbrO o id=none:=by
 unfold nbrO;rw [if_neg];rintro (⟨c,_⟩ | ⟨_,c⟩)
 ·omega
 ·exact c h
theorem zabk {o:ObjD} {id:ByteArray} (h:(o.kind=2∧¬(idxR id o.refs=0∨idxR id o.refs=o.refs.length - 1∨id∈o.refs.drop (idxR id o.refs+1)))∨(o.kind=3∧¬o.refs.length<4)) {pv nx:Nat} (hp:pv=(idxR id o.refs+o.refs.length - 1) % o.refs.length) (hn:nx=(idxR id o.refs+1) % o.refs.length) :
  nbrO o id=if zcc o pv=zcc o nx then none else some (key2 (zcc o pv) (zcc o nx)):=by
 unfold nbrO;rw [if_pos h,hp,hn]
set_option maxRecDepth 100000 in
set_option maxHeartbeats 4000000 in
theorem zaho (bp:Nat) (ord:List ByteArray) (l:List ObjD) (bo bn br:Nat) (vo:Value) (id:ByteArray) (w:World) (hp:zdl w bp ord l bo bn br vo) (hok:zas l=true) (hz:id.size≤140737488355328) :
  Calls Tryz.prog 109 #[.pointer (some ⟨bp,0,none⟩),.string id] w (zanz l id w):=by
 have hmin:=zlj Tryz.prog;have hmax:=zlk Tryz.prog;obtain ⟨v,hlk,hrow⟩:=hp.refs.look id hz;have hsz:=hp.row;have HPL:=zH hp;have HOK:=zH hok;have HPR:=zH hp.row;obtain ⟨N,hN⟩:∃N,(zax l id).length=N:=⟨_,rfl⟩;have hNl:(refF l id).length=N:=by unfold refF;rw [List.length_map,hN]
 obtain ⟨ar,capr,rfl,hN0,_,hcell⟩:=hrow;rw [hNl] at hlk hcell hN0;have hNb:N≤1000000:=by rw [←hN];exact Nat.le_trans (List.length_filter_le _ _) (zcs hok).1
 have HN:=zH hN;have HC:=zH hcell;have HLK:=zH hlk;have hlk1:=hlk ((w.alloc (.cells #[.string ⟨#[]⟩,.string ⟨#[]⟩] 83)).alloc (.cells #[.string ⟨#[]⟩,.string ⟨#[]⟩] 83)) (by repeat' (first | exact Below.refl _ _ | refine Below.drew ?_ | refine Below.drewN' ?_ | refine Below.setCell ?_ (by first | omega | (simp;done) | exact Below.size (by assumption) | (simp;omega)) _ | refine Below.alloc ?_ (by first | omega | (simp;done) | exact Below.size (by assumption) | (simp;omega)) _ | refine Below.trans ?_ (Below.mono (by assumption) ?_) | (first | omega | (simp;done) | exact Below.size (by assumption) | (simp;omega))));clear hp hok hN hNl hcell hlk hsz;go_enter Tryz.func109,Tryz.ntmps109;obtain ⟨pz,p0,p1,p2,p3⟩:=rk4 HPR.out;go_wp2_with fail;generalize hw1:(w.alloc _).alloc _=w1;have B1:=gB2 hw1;have H4:=gA21 hw1;have H6:=gA22 hw1;have hz1:w1.heap.size=w.heap.size+2:=by rw [←hw1];simp
 clear hw1 hlk1;clear p0 p1 p2 p3 pz;go_loopw [22] (fun i wr=>∃(k:Nat) (ca cb:ByteArray),i=.int .i64 k∧k≤N∧Hid (NbSt l id k ca cb)∧Below w.heap.size w wr∧w.heap.size+2≤wr.heap.size∧wr.heap[w.heap.size]?=some (.cells #[.string ⟨#[]⟩,.string ⟨#[]⟩] 83)∧wr.heap[w.heap.size+1]?=some (.cells #[.string ca,.string cb] 83)) (fun i _=>N - (intOf i).toNat);case atStart=>exact ⟨0,⟨#[]⟩,⟨#[]⟩,rfl,Nat.zero_le _,zH ⟨by decide,by decide,fun j x h=>absurd h (Nat.not_lt_zero j)⟩,B1,by omega,H4,H6⟩
 case round =>
  obtain ⟨k,ca,cb,rfl,hk,HST,hbr,hszr,h4,h6⟩:=hrel;have BW:=zH hbr;have H4:=zH h4;have H6:=zH h6;clear h4 h6;by_cases hlt:k<N
  ·obtain ⟨o,ho⟩:∃o,(zax l id)[k]?=some o:=⟨(zax l id)[k]'(by rw [HN.out];exact hlt),List.getElem?_eq_getElem _⟩;obtain ⟨b,off,ha,hcell⟩:=HC.out (by omega);subst ha;have c0:=cell_later hbr (hcell k o.id (by unfold refF;rw [List.getElem?_map,ho];rfl));have hom:o∈zax l id:=zM ho;have hol:o∈l:=(List.mem_filter.1 hom).1;have hid:id∈o.refs:=of_decide_eq_true (List.mem_filter.1 hom).2;have HOM:=zH hom;have HOI:=zH ho;have hsz:=HPL.out.size HOK.out hol;have HSZ:=zH hsz.2;obtain ⟨vr,vt,hcap,hlo,_⟩:=(HPL.out.objs.on hbr).look (zla HOK.out hol) hsz.1;have hlo1:=hlo wr (Below.refl _ _);obtain ⟨⟨hr,ht,_⟩,hcv⟩:=hcap;have hr:zaj wr vr o.refs:=hr;have ht:zba wr vt o.tags:=ht;have hcv:CapV vr:=hcv;have HR:=zH hr;obtain ⟨aq,capq,evq,hnq,_,hcq⟩:=hr;obtain ⟨at1,capt,evt,_⟩:=ht;subst evq evt;have hcapq:o.refs.length≤capq:=hcv _ _ _ rfl;have HPR2:=zH (zab hbr HPR.out);obtain ⟨hil,-,-⟩:=zhh hid;have hMb:o.refs.length≤2000:=by have:=zda HOK.out hol;simp only [zay,Bool.and_eq_true,decide_eq_true_eq] at this;have:=this.1.1.2;omega
   obtain ⟨M,hM⟩:∃M,o.refs.length=M:=⟨_,rfl⟩;obtain ⟨i,hi⟩:∃i,idxR id o.refs=i:=⟨_,rfl⟩;have IX:=zH (fun W (hb:Below wr.heap.size wr W)=>(show Calls Tryz.prog 83 #[.slice aq M capq,.string id] W fun e w'=>e=.returned (.int .i64 i)∧w'=W from by
    have:=zais (.slice aq o.refs.length capq) o.refs id W (HR.out.later hb) (by omega)
    rw [if_pos hid,hi,hM] at this
    exact this))
   rw [hM] at hlo1 hcq hcapq hil hMb;rw [hi] at hil;have HM:=zH hM;have HI:=zH hi;have HCQ:=zH hcq;have HRM:=zH (show zaj wr (.slice aq M capq) o.refs from hM ▸ HR.out);clear hcell ho hom hol hid hsz hlo hcv hnq hcq hM hi;obtain ⟨pz,p0,p1,p2,p3⟩:=rk4 HPR2.out;go_wp2_with fail;generalize hwa:wr.alloc _=wa;have BX:=gB1 hwa;have HX:=gA11 hwa;have hza:wa.heap.size=wr.heap.size+1:=(by rw [←hwa];simp);have HX:=zH HX;clear hwa hlo1;clear p0 p1 p2 p3 pz;obtain ⟨xz,x0,x1,x2,x3,x4,x5⟩:=rk6 HX.out;go_quiet ((go_at_call 83;exact Calls.quiet_of_same (IX.out _ (BX.drewN'))));clear x0 x1 x2 x3 x4 x5 xz;have BB:Below wr.heap.size wr (wa.drewN nq):=BX.drewN';have BQ:Below wa.heap.size wa (wa.drewN nq):=(Below.refl _ _).drewN';have HX:=zH (zab BQ HX.out);clear BQ;generalize hwb:wa.drewN nq=wb;rw [hwb] at BB HX;have hzb:wb.heap.size=wr.heap.size+1:=(by rw [←hwb];exact hza);have H4:=zH (zab BB H4.out);have H6:=zH (zab BB H6.out);have BW:=zH (zac BW.out (by omega) BB);have HRB:=zH (HRM.out.later BB);clear hwb hza IX BX HR HRM;obtain ⟨kd,hkd⟩:∃z,o.kind=z:=⟨_,rfl⟩;rw [hkd] at HX;have HKD:=zH hkd;clear hkd;by_cases h2:kd=2
   ·subst h2;obtain ⟨xz,x0,x1,x2,x3,x4,x5⟩:=rk6 HX.out;by_cases hi0:i=0
    ·have HNONE:=zH (zex HOM.out (zzb HKD.out (Or.inl (HI.out.trans hi0))));subst hi0;obtain ⟨rz,r0,r1⟩:=rk2 H4.out;have rf0:=frozen_of_row wb _ 0 _ _ H4.out;have rf1:=frozen_of_row wb _ 1 _ _ H4.out;obtain ⟨qz,q0,q1⟩:=rk2 H6.out;go_wp2;refine bodyPost_ret (v:=.tuple #[.agg #[.string ca,.string cb],.bool false]) ?_ rfl ⟨ca,cb,?_,?_,?_⟩
     ·simp [results,Tryz.results109,go_sem,r0,r1]
     ·rw [HNONE.out];rfl
     ·intro p h;rw [HNONE.out] at h;cases h
     ·exact ((BW.out.setCell (p:=⟨w.heap.size,0,none⟩) zR _).setCell (p:=⟨w.heap.size,1,none⟩) zR _)
    ·have hi0b:((i:Int)==0)=false:=(by rw [beq_eq_false_iff_ne];omega);by_cases hi1:i=M - 1
     ·have HNONE:=zH (zex HOM.out (zzb HKD.out (Or.inr (Or.inl (by rw [HI.out,HM.out];exact hi1)))));have hi1b:((i:Int)==(M:Int) - 1)=true:=(by rw [beq_iff_eq];omega);clear hi1;obtain ⟨rz,r0,r1⟩:=rk2 H4.out;have rf0:=frozen_of_row wb _ 0 _ _ H4.out;have rf1:=frozen_of_row wb _ 1 _ _ H4.out;obtain ⟨qz,q0,q1⟩:=rk2 H6.out;go_wp2;refine bodyPost_ret (v:=.tuple #[.agg #[.string ca,.string cb],.bool false]) ?_ rfl ⟨ca,cb,?_,?_,?_⟩
      ·simp [results,Tryz.results109,go_sem,r0,r1]
      ·rw [HNONE.out];rfl
      ·intro p h;rw [HNONE.out] at h;cases h
      ·exact ((BW.out.setCell (p:=⟨w.heap.size,0,none⟩) zR _).setCell (p:=⟨w.heap.size,1,none⟩) zR _)
     ·have hi1b:((i:Int)==(M:Int) - 1)=false:=(by rw [beq_eq_false_iff_ne];omega);have wi:IntKind.i64.wrap ((i:Int)+1)=(i:Int)+1:=IntWalk.i64_in _ (by omega);have hti:((i:Int)+1).toNat=i+1:=(by omega);have hne:¬capq=i+1:=(by omega);have CT:=zH (show Calls Tryz.prog 44 #[.slice (aq.map fun x=>x.add (i+1)) (M - (i+1)) (capq - (i+1)),.string id] wb fun e w'=>e=.returned (.bool (decide (id∈o.refs.drop (i+1))))∧w'=wb from by
       have:=zdk _ _ id wb (HRB.out.drop hcapq (q:=i+1) (by omega))
       rw [if_neg hne] at this
       exact this)
      obtain ⟨ct,hct⟩:∃z,decide (id∈o.refs.drop (i+1))=z:=⟨_,rfl⟩;rw [hct] at CT;have HCT:=zH hct;clear hct;cases ct with
      |true =>
       have HNONE:=zH (zex HOM.out (zzb HKD.out (Or.inr (Or.inr (by rw [HI.out];exact of_decide_eq_true HCT.out)))));clear hi0 hi1;obtain ⟨rz,r0,r1⟩:=rk2 H4.out;have rf0:=frozen_of_row wb _ 0 _ _ H4.out;have rf1:=frozen_of_row wb _ 1 _ _ H4.out;obtain ⟨qz,q0,q1⟩:=rk2 H6.out;go_wp2_with (go_at_call 44;refine CT.out.mono ?_;rintro e' w' ⟨rfl,hw'⟩;rw [hw'];clear hw' w');refine bodyPost_ret (v:=.tuple #[.agg #[.string ca,.string cb],.bool false]) ?_ rfl ⟨ca,cb,?_,?_,?_⟩
       ·simp [results,Tryz.results109,go_sem,r0,r1]
       ·rw [HNONE.out];rfl
       ·intro p h;rw [HNONE.out] at h;cases h
       ·exact ((BW.out.setCell (p:=⟨w.heap.size,0,none⟩) zR _).setCell (p:=⟨w.heap.size,1,none⟩) zR _)
      |false =>
       have HGO:=zH (fun (pv nx:Nat) (e1:pv=(i+M - 1) % M) (e2:nx=(i+1) % M)=>zabk (o:=o) (id:=id) (Or.inl ⟨HKD.out,by
        rw [HI.out,HM.out]
        rintro (c | c | c)
        ·exact hi0 c
        ·exact hi1 c
        ·exact of_decide_eq_false HCT.out c⟩) (pv:=pv) (nx:=nx) (by rw [HI.out,HM.out];exact e1) (by rw [HI.out,HM.out];exact e2))
       clear hi0 hi1;obtain ⟨nx,hnx⟩:∃z,z=(i+1) % M:=⟨_,rfl⟩;obtain ⟨pv,hpv⟩:∃z,z=(i+M - 1) % M:=⟨_,rfl⟩;have hnM:nx<M:=(by rw [hnx];exact Nat.mod_lt _ (by omega));have hpM:pv<M:=(by rw [hpv];exact Nat.mod_lt _ (by omega));have HNB:=zH (HGO.out pv nx hpv hnx);obtain ⟨ra,hra⟩:∃ra,ra=zcc o pv:=⟨_,rfl⟩;obtain ⟨rb,hrb⟩:∃rb,rb=zcc o nx:=⟨_,rfl⟩;rw [←hra,←hrb] at HNB;have g0:o.refs[pv]?=some ra:=(by rw [hra];exact zfb o pv (by rw [HM.out];exact hpM));have g1:o.refs[nx]?=some rb:=(by rw [hrb];exact zfb o nx (by rw [HM.out];exact hnM));obtain ⟨br2,offr,har,hcr⟩:=HCQ.out (by omega);subst har;have d0:=cell_later BB (hcr pv ra g0);have d1:=cell_later BB (hcr nx rb g1);have z0:=HSZ.out ra (zM g0);have z1:=HSZ.out rb (zM g1);have m1:((i:Int)+(M:Int) - 1).tmod (M:Int)=(pv:Int):=by rw [hpv,Int.natCast_emod,Int.tmod_eq_emod_of_nonneg (by omega)];congr 1;omega
       have m2:((i:Int)+1).tmod (M:Int)=(nx:Int):=(by rw [hnx,Int.natCast_emod,Int.tmod_eq_emod_of_nonneg (by omega)];rfl);have wj1:IntKind.i64.wrap ((i:Int)+(M:Int))=(i:Int)+(M:Int):=IntWalk.i64_in _ (by omega);have wj2:IntKind.i64.wrap ((i:Int)+(M:Int) - 1)=(i:Int)+(M:Int) - 1:=IntWalk.i64_in _ (by omega);have wj3:IntKind.i64.wrap ((i:Int)+1)=(i:Int)+1:=IntWalk.i64_in _ (by omega);have b0:(0:Int)≤(pv:Int):=(by omega);have b1:(pv:Int)<(M:Int):=(by omega);have b2:((pv:Int)).toNat=pv:=(by omega);have b3:(0:Int)≤(nx:Int):=(by omega);have b4:(nx:Int)<(M:Int):=(by omega);have b5:((nx:Int)).toNat=nx:=(by omega);clear hcr g0 g1 hra hrb hnx hpv;go_wp2_with (go_at_call 44;refine CT.out.mono ?_;rintro e' w' ⟨rfl,hw'⟩;rw [hw'];clear hw' w');go_quiet (fail);clear x0 x1 x2 x3 x4 x5 xz;have BQ:Below wb.heap.size wb (wb.drewN nq):=(Below.refl _ _).drewN';have H4:=zH (zab BQ H4.out);have H6:=zH (zab BQ H6.out);have BW:=zH (zac BW.out (by omega) BQ);generalize hwq:wb.drewN nq=wq;rw [hwq] at H4 H6 BW;have HZQ:=zH (show wq.heap.size=wr.heap.size+1 by rw [←hwq];exact hzb);clear m1 m2 wj1 wj2 wj3 b0 b1 b2 b3 b4 b5 d0 d1 hwq BQ;have zmn:(minB ra rb).size≤140737488355328:=(by unfold minB;split;exact z1;exact z0);have zmx:(maxB ra rb).size≤140737488355328:=(by unfold maxB;split;exact z1;exact z0);obtain ⟨zca,zcb,hst⟩:=HST.out;have HSTP:=zH hst;clear hst;obtain ⟨rz,r0,r1⟩:=rk2 H4.out;obtain ⟨qz,q0,q1⟩:=rk2 H6.out;go_upto_region 17 with fail;clear r0 r1 rz;clear q0 q1 qz;generalize hwt:wq.alloc _=wt;have BQ:=gB1 hwt;have HP:=gA11 hwt;have HZT:=zH (show wt.heap.size=wq.heap.size+1 by rw [←hwt];simp);have H4:=zH (zab BQ H4.out);have H6:=zH (zab BQ H6.out);have BW:=zH (zac BW.out (by have:=HZQ.out;omega) BQ);have HP:=zH HP;clear hwt BQ;by_cases hab:ra=rb
       ·have HNONE:=zH (zex HOM.out (show nbrO o id=none by rw [HNB.out,if_pos hab]));subst hab;obtain ⟨rz,r0,r1⟩:=rk2 H4.out;have rf0:=frozen_of_row wt _ 0 _ _ H4.out;have rf1:=frozen_of_row wt _ 1 _ _ H4.out;obtain ⟨qz,q0,q1⟩:=rk2 H6.out;go_wp2;refine bodyPost_ret (v:=.tuple #[.agg #[.string ca,.string cb],.bool false]) ?_ rfl ⟨ca,cb,?_,?_,?_⟩
        ·simp [results,Tryz.results109,go_sem,r0,r1]
        ·rw [HNONE.out];rfl
        ·intro p h;rw [HNONE.out] at h;cases h
        ·exact ((BW.out.setCell (p:=⟨w.heap.size,0,none⟩) zR _).setCell (p:=⟨w.heap.size,1,none⟩) zR _)
       ·have HNB:=zH (show nbrO o id=some (minB ra rb,maxB ra rb) by rw [HNB.out,if_neg hab];rfl);have habb:=zfh hab;clear hab;have hneq:=fun W=>zuh (minB ra rb,maxB ra rb) (ca,cb) W zmn zmx zca zcb;simp only [] at hneq;by_cases hk0:k=0
        ·have HNS:=zH (show NbSt l id (k+1) (minB ra rb) (maxB ra rb) from ⟨zmn,zmx,fun j x hj hx=>by
          obtain rfl:j=k:=by omega
          rw [HOI.out] at hx
          injection hx with hx
          rw [←hx];exact HNB.out⟩)
         have hkb:decide ((0:Int)<(k:Int))=false:=decide_eq_false (by omega);have hkb2:decide (0<k)=false:=decide_eq_false (by omega);clear hk0 hneq;obtain ⟨pz,p0,p1⟩:=rk2 HP.out;obtain ⟨qz,q0,q1⟩:=rk2 H6.out;have qf0:=frozen_of_row wt _ 0 _ _ H6.out;have qf1:=frozen_of_row wt _ 1 _ _ H6.out;go_wp2;go_roundw;case rel =>
          have hzq:=HZQ.out;have hzt:=HZT.out;have r6:=zbl (i:=1) (v:=.string (maxB ra rb)) (zbl (i:=0) (v:=.string (minB ra rb)) H6.out);have r4:=zai (a:=⟨w.heap.size+1,1,none⟩) (v:=.string (maxB ra rb)) (zai (a:=⟨w.heap.size+1,0,none⟩) (v:=.string (minB ra rb)) H4.out (by simp)) (by simp);exact ⟨k+1,minB ra rb,maxB ra rb,by go_num,by omega,HNS,(BW.out.setCell (p:=⟨w.heap.size+1,0,none⟩) (by simp) _).setCell (p:=⟨w.heap.size+1,1,none⟩) (by simp) _,by simp;omega,r4,by simpa using r6⟩
         case measure=>simp [intOf];omega
        ·have hkb:decide ((0:Int)<(k:Int))=true:=decide_eq_true (by omega);have hkb2:decide (0<k)=true:=decide_eq_true (by omega);obtain ⟨x0,hx0⟩:∃x,(zax l id)[0]?=some x:=⟨(zax l id)[0]'(by rw [HN.out];omega),List.getElem?_eq_getElem _⟩;have HX0:=zH (And.intro (zM hx0) (HSTP.out 0 x0 (by omega) hx0));clear hx0 hk0;by_cases hpair:(minB ra rb,maxB ra rb)=(ca,cb)
         ·have HNS:=zH (show NbSt l id (k+1) (minB ra rb) (maxB ra rb) from ⟨zmn,zmx,fun j x hj hx=>by
           by_cases hjk:j=k
           ·subst hjk
            rw [HOI.out] at hx
            injection hx with hx
            rw [←hx];exact HNB.out
           ·rw [hpair];exact HSTP.out j x (by omega) hx⟩)
          rw [decide_eq_true hpair] at hneq;clear hpair;obtain ⟨pz,p0,p1⟩:=rk2 HP.out;obtain ⟨qz,q0,q1⟩:=rk2 H6.out;have qf0:=frozen_of_row wt _ 0 _ _ H6.out;have qf1:=frozen_of_row wt _ 1 _ _ H6.out;go_wp2;go_roundw;case rel =>
           have hzq:=HZQ.out;have hzt:=HZT.out;have r6:=zbl (i:=1) (v:=.string (maxB ra rb)) (zbl (i:=0) (v:=.string (minB ra rb)) H6.out);have r4:=zai (a:=⟨w.heap.size+1,1,none⟩) (v:=.string (maxB ra rb)) (zai (a:=⟨w.heap.size+1,0,none⟩) (v:=.string (minB ra rb)) H4.out (by simp)) (by simp);exact ⟨k+1,minB ra rb,maxB ra rb,by go_num,by omega,HNS,(BW.out.setCell (p:=⟨w.heap.size+1,0,none⟩) (by simp) _).setCell (p:=⟨w.heap.size+1,1,none⟩) (by simp) _,by simp;omega,r4,by simpa using r6⟩
          case measure=>simp [intOf];omega
         ·have HNONE:=zH (zql HOM.out HX0.out.1 HNB.out HX0.out.2 hpair);rw [decide_eq_false hpair] at hneq;clear hpair;obtain ⟨pz,p0,p1⟩:=rk2 HP.out;obtain ⟨rz,r0,r1⟩:=rk2 H4.out;have rf0:=frozen_of_row wt _ 0 _ _ H4.out;have rf1:=frozen_of_row wt _ 1 _ _ H4.out;obtain ⟨qz,q0,q1⟩:=rk2 H6.out;go_wp2;refine bodyPost_ret (v:=.tuple #[.agg #[.string ca,.string cb],.bool false]) ?_ rfl ⟨ca,cb,?_,?_,?_⟩
          ·simp [results,Tryz.results109,go_sem,r0,r1]
          ·rw [HNONE.out];rfl
          ·intro p h;rw [HNONE.out] at h;cases h
          ·exact ((BW.out.setCell (p:=⟨w.heap.size,0,none⟩) zR _).setCell (p:=⟨w.heap.size,1,none⟩) zR _)
   ·have h2b:(kd==2)=false:=(by rw [beq_eq_false_iff_ne];exact h2);by_cases h3:kd=3
    ·subst h3;obtain ⟨xz,x0,x1,x2,x3,x4,x5⟩:=rk6 HX.out;by_cases h4:M<4
     ·have HNONE:=zH (zex HOM.out (zalz HKD.out (by rw [HM.out];exact h4)));have h4b:decide ((M:Int)<4)=true:=decide_eq_true (by omega);clear h4;obtain ⟨rz,r0,r1⟩:=rk2 H4.out;have rf0:=frozen_of_row wb _ 0 _ _ H4.out;have rf1:=frozen_of_row wb _ 1 _ _ H4.out;obtain ⟨qz,q0,q1⟩:=rk2 H6.out;go_wp2;refine bodyPost_ret (v:=.tuple #[.agg #[.string ca,.string cb],.bool false]) ?_ rfl ⟨ca,cb,?_,?_,?_⟩
      ·simp [results,Tryz.results109,go_sem,r0,r1]
      ·rw [HNONE.out];rfl
      ·intro p h;rw [HNONE.out] at h;cases h
      ·exact ((BW.out.setCell (p:=⟨w.heap.size,0,none⟩) zR _).setCell (p:=⟨w.heap.size,1,none⟩) zR _)
     ·have h4b:decide ((M:Int)<4)=false:=decide_eq_false (by omega);have HGO:=zH (fun (pv nx:Nat) (e1:pv=(i+M - 1) % M) (e2:nx=(i+1) % M)=>zabk (o:=o) (id:=id) (Or.inr ⟨HKD.out,by rw [HM.out];exact h4⟩) (pv:=pv) (nx:=nx) (by rw [HI.out,HM.out];exact e1) (by rw [HI.out,HM.out];exact e2));clear h4;obtain ⟨nx,hnx⟩:∃z,z=(i+1) % M:=⟨_,rfl⟩;obtain ⟨pv,hpv⟩:∃z,z=(i+M - 1) % M:=⟨_,rfl⟩;have hnM:nx<M:=(by rw [hnx];exact Nat.mod_lt _ (by omega));have hpM:pv<M:=(by rw [hpv];exact Nat.mod_lt _ (by omega));have HNB:=zH (HGO.out pv nx hpv hnx);obtain ⟨ra,hra⟩:∃ra,ra=zcc o pv:=⟨_,rfl⟩;obtain ⟨rb,hrb⟩:∃rb,rb=zcc o nx:=⟨_,rfl⟩;rw [←hra,←hrb] at HNB;have g0:o.refs[pv]?=some ra:=(by rw [hra];exact zfb o pv (by rw [HM.out];exact hpM));have g1:o.refs[nx]?=some rb:=(by rw [hrb];exact zfb o nx (by rw [HM.out];exact hnM));obtain ⟨br2,offr,har,hcr⟩:=HCQ.out (by omega);subst har;have d0:=cell_later BB (hcr pv ra g0);have d1:=cell_later BB (hcr nx rb g1);have z0:=HSZ.out ra (zM g0);have z1:=HSZ.out rb (zM g1);have m1:((i:Int)+(M:Int) - 1).tmod (M:Int)=(pv:Int):=by rw [hpv,Int.natCast_emod,Int.tmod_eq_emod_of_nonneg (by omega)];congr 1;omega
      have m2:((i:Int)+1).tmod (M:Int)=(nx:Int):=(by rw [hnx,Int.natCast_emod,Int.tmod_eq_emod_of_nonneg (by omega)];rfl);have wj1:IntKind.i64.wrap ((i:Int)+(M:Int))=(i:Int)+(M:Int):=IntWalk.i64_in _ (by omega);have wj2:IntKind.i64.wrap ((i:Int)+(M:Int) - 1)=(i:Int)+(M:Int) - 1:=IntWalk.i64_in _ (by omega);have wj3:IntKind.i64.wrap ((i:Int)+1)=(i:Int)+1:=IntWalk.i64_in _ (by omega);have b0:(0:Int)≤(pv:Int):=(by omega);have b1:(pv:Int)<(M:Int):=(by omega);have b2:((pv:Int)).toNat=pv:=(by omega);have b3:(0:Int)≤(nx:Int):=(by omega);have b4:(nx:Int)<(M:Int):=(by omega);have b5:((nx:Int)).toNat=nx:=(by omega);clear hcr g0 g1 hra hrb hnx hpv;go_wp2_with fail;go_quiet (fail);clear x0 x1 x2 x3 x4 x5 xz;have BQ:Below wb.heap.size wb (wb.drewN nq):=(Below.refl _ _).drewN';have H4:=zH (zab BQ H4.out);have H6:=zH (zab BQ H6.out);have BW:=zH (zac BW.out (by omega) BQ);generalize hwq:wb.drewN nq=wq;rw [hwq] at H4 H6 BW;have HZQ:=zH (show wq.heap.size=wr.heap.size+1 by rw [←hwq];exact hzb);clear m1 m2 wj1 wj2 wj3 b0 b1 b2 b3 b4 b5 d0 d1 hwq BQ;have zmn:(minB ra rb).size≤140737488355328:=(by unfold minB;split;exact z1;exact z0);have zmx:(maxB ra rb).size≤140737488355328:=(by unfold maxB;split;exact z1;exact z0);obtain ⟨zca,zcb,hst⟩:=HST.out;have HSTP:=zH hst;clear hst;obtain ⟨rz,r0,r1⟩:=rk2 H4.out;obtain ⟨qz,q0,q1⟩:=rk2 H6.out;go_upto_region 17 with fail;clear r0 r1 rz;clear q0 q1 qz;generalize hwt:wq.alloc _=wt;have BQ:=gB1 hwt;have HP:=gA11 hwt;have HZT:=zH (show wt.heap.size=wq.heap.size+1 by rw [←hwt];simp);have H4:=zH (zab BQ H4.out);have H6:=zH (zab BQ H6.out);have BW:=zH (zac BW.out (by have:=HZQ.out;omega) BQ);have HP:=zH HP;clear hwt BQ;by_cases hab:ra=rb
      ·have HNONE:=zH (zex HOM.out (show nbrO o id=none by rw [HNB.out,if_pos hab]));subst hab;obtain ⟨rz,r0,r1⟩:=rk2 H4.out;have rf0:=frozen_of_row wt _ 0 _ _ H4.out;have rf1:=frozen_of_row wt _ 1 _ _ H4.out;obtain ⟨qz,q0,q1⟩:=rk2 H6.out;go_wp2;refine bodyPost_ret (v:=.tuple #[.agg #[.string ca,.string cb],.bool false]) ?_ rfl ⟨ca,cb,?_,?_,?_⟩
       ·simp [results,Tryz.results109,go_sem,r0,r1]
       ·rw [HNONE.out];rfl
       ·intro p h;rw [HNONE.out] at h;cases h
       ·exact ((BW.out.setCell (p:=⟨w.heap.size,0,none⟩) zR _).setCell (p:=⟨w.heap.size,1,none⟩) zR _)
      ·have HNB:=zH (show nbrO o id=some (minB ra rb,maxB ra rb) by rw [HNB.out,if_neg hab];rfl);have habb:=zfh hab;clear hab;have hneq:=fun W=>zuh (minB ra rb,maxB ra rb) (ca,cb) W zmn zmx zca zcb;simp only [] at hneq;by_cases hk0:k=0
       ·have HNS:=zH (show NbSt l id (k+1) (minB ra rb) (maxB ra rb) from ⟨zmn,zmx,fun j x hj hx=>by
         obtain rfl:j=k:=by omega
         rw [HOI.out] at hx
         injection hx with hx
         rw [←hx];exact HNB.out⟩)
        have hkb:decide ((0:Int)<(k:Int))=false:=decide_eq_false (by omega);have hkb2:decide (0<k)=false:=decide_eq_false (by omega);clear hk0 hneq;obtain ⟨pz,p0,p1⟩:=rk2 HP.out;obtain ⟨qz,q0,q1⟩:=rk2 H6.out;have qf0:=frozen_of_row wt _ 0 _ _ H6.out;have qf1:=frozen_of_row wt _ 1 _ _ H6.out;go_wp2;go_roundw;case rel =>
         have hzq:=HZQ.out;have hzt:=HZT.out;have r6:=zbl (i:=1) (v:=.string (maxB ra rb)) (zbl (i:=0) (v:=.string (minB ra rb)) H6.out);have r4:=zai (a:=⟨w.heap.size+1,1,none⟩) (v:=.string (maxB ra rb)) (zai (a:=⟨w.heap.size+1,0,none⟩) (v:=.string (minB ra rb)) H4.out (by simp)) (by simp);exact ⟨k+1,minB ra rb,maxB ra rb,by go_num,by omega,HNS,(BW.out.setCell (p:=⟨w.heap.size+1,0,none⟩) (by simp) _).setCell (p:=⟨w.heap.size+1,1,none⟩) (by simp) _,by simp;omega,r4,by simpa using r6⟩
        case measure=>simp [intOf];omega
       ·have hkb:decide ((0:Int)<(k:Int))=true:=decide_eq_true (by omega);have hkb2:decide (0<k)=true:=decide_eq_true (by omega);obtain ⟨x0,hx0⟩:∃x,(zax l id)[0]?=some x:=⟨(zax l id)[0]'(by rw [HN.out];omega),List.getElem?_eq_getElem _⟩;have HX0:=zH (And.intro (zM hx0) (HSTP.out 0 x0 (by omega) hx0));clear hx0 hk0;by_cases hpair:(minB ra rb,maxB ra rb)=(ca,cb)
        ·have HNS:=zH (show NbSt l id (k+1) (minB ra rb) (maxB ra rb) from ⟨zmn,zmx,fun j x hj hx=>by
          by_cases hjk:j=k
          ·subst hjk
           rw [HOI.out] at hx
           injection hx with hx
           rw [←hx];exact HNB.out
          ·rw [hpair];exact HSTP.out j x (by omega) hx⟩)
         rw [decide_eq_true hpair] at hneq;clear hpair;obtain ⟨pz,p0,p1⟩:=rk2 HP.out;obtain ⟨qz,q0,q1⟩:=rk2 H6.out;have qf0:=frozen_of_row wt _ 0 _ _ H6.out;have qf1:=frozen_of_row wt _ 1 _ _ H6.out;go_wp2;go_roundw;case rel =>
          have hzq:=HZQ.out;have hzt:=HZT.out;have r6:=zbl (i:=1) (v:=.string (maxB ra rb)) (zbl (i:=0) (v:=.string (minB ra rb)) H6.out);have r4:=zai (a:=⟨w.heap.size+1,1,none⟩) (v:=.string (maxB ra rb)) (zai (a:=⟨w.heap.size+1,0,none⟩) (v:=.string (minB ra rb)) H4.out (by simp)) (by simp);exact ⟨k+1,minB ra rb,maxB ra rb,by go_num,by omega,HNS,(BW.out.setCell (p:=⟨w.heap.size+1,0,none⟩) (by simp) _).setCell (p:=⟨w.heap.size+1,1,none⟩) (by simp) _,by simp;omega,r4,by simpa using r6⟩
         case measure=>simp [intOf];omega
        ·have HNONE:=zH (zql HOM.out HX0.out.1 HNB.out HX0.out.2 hpair);rw [decide_eq_false hpair] at hneq;clear hpair;obtain ⟨pz,p0,p1⟩:=rk2 HP.out;obtain ⟨rz,r0,r1⟩:=rk2 H4.out;have rf0:=frozen_of_row wt _ 0 _ _ H4.out;have rf1:=frozen_of_row wt _ 1 _ _ H4.out;obtain ⟨qz,q0,q1⟩:=rk2 H6.out;go_wp2;refine bodyPost_ret (v:=.tuple #[.agg #[.string ca,.string cb],.bool false]) ?_ rfl ⟨ca,cb,?_,?_,?_⟩
         ·simp [results,Tryz.results109,go_sem,r0,r1]
         ·rw [HNONE.out];rfl
         ·intro p h;rw [HNONE.out] at h;cases h
         ·exact ((BW.out.setCell (p:=⟨w.heap.size,0,none⟩) zR _).setCell (p:=⟨w.heap.size,1,none⟩) zR _)
    ·have h3b:(kd==3)=false:=(by rw [beq_eq_false_iff_ne];exact h3);have HNONE:=zH (zex HOM.out (zahq (by rw [HKD.out];exact h2) (by rw [HKD.out];exact h3)));clear h2 h3;obtain ⟨xz,x0,x1,x2,x3,x4,x5⟩:=rk6 HX.out;obtain ⟨rz,r0,r1⟩:=rk2 H4.out;have rf0:=frozen_of_row wb _ 0 _ _ H4.out;have rf1:=frozen_of_row wb _ 1 _ _ H4.out;obtain ⟨qz,q0,q1⟩:=rk2 H6.out;go_wp2;refine bodyPost_ret (v:=.tuple #[.agg #[.string ca,.string cb],.bool false]) ?_ rfl ⟨ca,cb,?_,?_,?_⟩
     ·simp [results,Tryz.results109,go_sem,r0,r1]
     ·rw [HNONE.out];rfl
     ·intro p h;rw [HNONE.out] at h;cases h
     ·exact ((BW.out.setCell (p:=⟨w.heap.size,0,none⟩) zR _).setCell (p:=⟨w.heap.size,1,none⟩) zR _)
  ·obtain rfl:k=N:=(by omega);have mixed:Tryz.prog.follows .mixedOrders=true:=(by kernel_rfl);obtain ⟨bd,hbd⟩:∃z,decide (0<k)=z:=⟨_,rfl⟩;have hbd2:decide ((0:Int)<(k:Int))=bd:=(by rw [←hbd,Bool.eq_iff_iff,decide_eq_true_eq,decide_eq_true_eq];omega);have HE:=zH (show bd=(zcr l id).isSome∧∀p,zcr l id=some p→p=(ca,cb) by
    rcases Nat.eq_zero_or_pos k with h0 | h0
    ·have hnil:zax l id=[]:=List.length_eq_zero_iff.1 (HN.out.trans h0)
     rw [zqm hnil,←hbd,h0]
     exact ⟨rfl,fun p h=>by cases h⟩
    ·have hall:zcr l id=some (ca,cb):=zqo (fun e=>by have:=HN.out;rw [e] at this;simp at this;omega) (fun x hx=>by
      obtain ⟨j,hj⟩:=List.getElem?_of_mem hx
      have hjk:=(List.getElem?_eq_some_iff.1 hj).1
      rw [HN.out] at hjk
      exact HST.out.2.2 j x hjk hj)
     rw [hall,←hbd,decide_eq_true h0]
     exact ⟨rfl,fun p h=>by injection h with h;exact h.symm⟩)
   clear hlt;go_upto_region 21 with fail;refine wp_region_mix 9 (fun W=>Below w.heap.size w W∧W.heap[w.heap.size+1]?=some (.cells #[.string ca,.string cb] 83)) (fun W=>(Below w.heap.size w W∧W.heap[w.heap.size+1]?=some (.cells #[.string ca,.string cb] 83))∧W.heap[w.heap.size]?=some (.cells #[.string ⟨#[]⟩,.string ⟨#[]⟩] 83)) mixed (by kernel_rfl) (by kernel_rfl) (by kernel_rfl) (((StableW.below _ _ zR).and (StableW.row _ _)).and (StableW.row _ _)) (fun W hW=>hW.1) ⟨⟨hbr.drew,zab (Below.refl wr.heap.size wr).drew H6.out⟩,zab (Below.refl wr.heap.size wr).drew H4.out⟩ ?_;apply Exists.intro;refine ⟨fun W hW=>?_,?_⟩
   ·have HA:=zH hW.2;have HB:=zH (zab hW.1 HPR.out);have hlb:=fun p:zam W=>HLK.out p.at' (zac hW.1 zR p.below);obtain ⟨qz,q0,q1⟩:=rk2 HA.out;have qq0:=zaa q0;have qq1:=zaa q1;clear q0 q1;obtain ⟨pz,p0,p1,p2,p3⟩:=rk4 HB.out;have qp0:=zaa p0;have qp1:=zaa p1;have qp2:=zaa p2;have qp3:=zaa p3;clear p0 p1 p2 p3;simp only [List.take_succ_cons,List.take_zero];repeat (go_big_quiet_step (fail))
    exact wpQuiet_nil rfl
   ·simp only [List.drop_succ_cons,List.drop_zero];refine tailM_step (ι:=Unit) (fun _=>undef) (fun _ W=>(Below w.heap.size w W∧W.heap[w.heap.size+1]?=some (.cells #[.string ca,.string cb] 83))∧W.heap[w.heap.size]?=some (.cells #[.string ca,.string cb] 83)) rfl (fun _=>((StableW.below _ _ zR).and (StableW.row _ _)).and (StableW.row _ _)) (fun _ _ h=>h.1) (fun W hS K hK=>?_) (fun _=>?_)
    ·obtain ⟨⟨hS1,hS2⟩,hS3⟩:=hS;have HS3:=zH hS3;clear hS3;obtain ⟨ccz,cc0,cc1⟩:=rk2 HS3.out;have ccf0:=frozen_of_row W _ 0 _ _ HS3.out;have ccf1:=frozen_of_row W _ 1 _ _ HS3.out;have K1:=zH (zbf [.string ca,.string cb] 0 W _ HS3.out);have K2:=zH (zak (zal (g:=w.heap.size) [.string ca,.string cb] 0 W) hS2 (fun c=>by injection c with c;omega));have K3:=zH (hS1.grown (zal (g:=w.heap.size) [.string ca,.string cb] 0 W) hS1.size (fun j hj=>by injection hj with hj;omega));simp only [World.setCells] at K1 K2 K3;go_simp;exact hK () _ ⟨⟨K3.out,K2.out⟩,K1.out⟩
    simp only [Act.put];refine tailM_pure (.bool bd) rfl (((StableW.below _ _ zR).and (StableW.row _ _)).and (StableW.row _ _)) (fun _ h=>h.1) (fun W hS K hK=>?_) (tailM_nil fun W hW=>?_)
    ·go_simp;exact hK
    obtain ⟨⟨hW1,-⟩,hW2⟩:=hW;have H4:=zH hW2;clear hW2;simp only [Act.put,List.setIfInBounds_toArray,List.set_cons_succ,List.set_cons_zero];obtain ⟨rz,r0,r1⟩:=rk2 H4.out;go_wp2;refine bodyPost_ret (v:=.tuple #[.agg #[.string ca,.string cb],.bool bd]) ?_ rfl ⟨ca,cb,?_,HE.out.2,hW1⟩
    ·simp [results,Tryz.results109,go_sem,r0,r1]
    ·rw [HE.out.1]
end Go.Proofs.YtibpaaajghbkoaaGreat
