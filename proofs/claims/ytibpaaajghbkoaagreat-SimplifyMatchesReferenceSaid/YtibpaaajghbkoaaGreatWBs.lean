/-     -/
import Derived.Test.YtibpaaajghbkoaaGreatWAv
import Derived.Test.YtibpaaajghbkoaaGreatWBr
import Derived.Test.YtibpaaajghbkoaaGreatWBq
import Derived.Deep.RegionHeld3
namespace Go.Proofs.YtibpaaajghbkoaaGreat
open Go.RowKit Go.Maps Go.ChangeMaps Go.Sort
abbrev SlD:=Option Addr × Nat × Nat
def zarm (x:SlD):List Value:=[.slice x.1 x.2.1 x.2.2]
def zaae (w:World) (v:Value) (ls:List (List ByteArray)):Prop :=
 ∃L:List SlD,RowE zarm 1 w v L∧L.length=ls.length∧∀(i:Nat) (x:SlD) (ids:List ByteArray),L[i]?=some x→ls[i]?=some ids→zaj w (.slice x.1 x.2.1 x.2.2) ids
theorem zaae.on {w w':World} {v:Value} {ls:List (List ByteArray)} (h:zaae w v ls) (hb:Below w.heap.size w w'):zaae w' v ls:=by obtain ⟨L,h1,h2,h3⟩:=h;exact ⟨L,h1.later hb,h2,fun i x ids hx hi=>(h3 i x ids hx hi).later hb⟩
end Go.Proofs.YtibpaaajghbkoaaGreat

namespace Go.Proofs.YtibpaaajghbkoaaGreat
open Go.RowKit Go.Sort
theorem zvm (a b:ByteArray) (px py qx qy:Int) (vo:Option Addr) (n c:Nat) (w:World) :
  Calls Tryz.prog 176 #[.agg #[.string a,.string b,.int .i64 px,.int .i64 py,.int .i64 qx,.int .i64 qy,.slice vo n c]] w fun e w'=>e=.returned (.agg #[.int .i64 px,.int .i64 py,.int .i64 qx,.int .i64 qy])∧Below w.heap.size w w':=by
 go_enter Tryz.func176,Tryz.ntmps176;go_wp2;refine bodyPost_ret (v:=.agg #[.int .i64 px,.int .i64 py,.int .i64 qx,.int .i64 qy]) ?_ rfl ⟨rfl,(by repeat' (first | exact Below.refl _ _ | refine Below.drew ?_ | refine Below.drewN' ?_ | refine Below.setCell ?_ (by first | omega | (simp;done) | exact Below.size (by assumption) | (simp;omega)) _ | refine Below.alloc ?_ (by first | omega | (simp;done) | exact Below.size (by assumption) | (simp;omega)) _ | refine Below.trans ?_ (Below.mono (by assumption) ?_) | (first | omega | (simp;done) | exact Below.size (by assumption) | (simp;omega))))⟩;simp [results,Tryz.results176,go_sem]
end Go.Proofs.YtibpaaajghbkoaaGreat

namespace Go.Proofs.YtibpaaajghbkoaaGreat
open Go.RowKit Go.Sort
theorem zor (a b:ByteArray) (w:World) (ha:a.size≤140737488355328) (hb:b.size≤140737488355328) :
  Calls Tryz.prog 124 #[.string a,.string b] w fun e w'=>∃(g n:Nat),e=.returned (.agg #[.string ⟨#[]⟩,.int .i64 2,.slice (some ⟨g,0,none⟩) n n])∧zaj w' (.slice (some ⟨g,0,none⟩) n n) (idsK (key2 a b))∧Below w.heap.size w w':=by
 have hmin:=zlj Tryz.prog;have hmax':=zlk Tryz.prog;by_cases e:a=b
 ·subst e;have HK:=zH (show idsK (key2 a a)=[a] by rw [zaim];unfold idsK;rw [if_pos rfl]);rw [HK.out];have HS:=zH (show ∀(W:World) (c:Nat),W.heap[c]?=some (.cells #[.string a] 9)→zaj W (.slice (some ⟨c,0,none⟩) 1 1) [a] from fun W c h=>zaj.of_block (l:=[a]) rfl h (by simp) (fun s hs=>by rw [List.mem_singleton.1 hs];exact ha) 1 rfl);clear ha hb;go_enter Tryz.func124,Tryz.ntmps124;go_wp2;refine bodyPost_ret (v:=.agg #[.string ⟨#[]⟩,.int .i64 2,.slice (some ⟨w.heap.size+1,0,none⟩) 1 1]) ?_ rfl ⟨_,_,rfl,HS.out _ _ ?_,(by repeat' (first | exact Below.refl _ _ | refine Below.drew ?_ | refine Below.drewN' ?_ | refine Below.setCell ?_ (by first | omega | (simp;done) | exact Below.size (by assumption) | (simp;omega)) _ | refine Below.alloc ?_ (by first | omega | (simp;done) | exact Below.size (by assumption) | (simp;omega)) _ | refine Below.trans ?_ (Below.mono (by assumption) ?_) | (first | omega | (simp;done) | exact Below.size (by assumption) | (simp;omega))))⟩
  ·simp [results,Tryz.results124,go_sem]
  ·exact zfj w _ _
 ·have HK:=zH (show idsK (key2 a b)=[minB a b,maxB a b] by unfold idsK;rw [if_neg (zaio e)];rfl);rw [HK.out];have n1:=zcj e;have HS:=zH (show ∀(W:World) (c:Nat),W.heap[c]?=some (.cells #[.string (minB a b),.string (maxB a b)] 9)→zaj W (.slice (some ⟨c,0,none⟩) 2 2) [minB a b,maxB a b] from fun W c h=>zaj.of_block (l:=[minB a b,maxB a b]) rfl h (by simp) (fun s hs=>by
   simp only [List.mem_cons,List.not_mem_nil,or_false] at hs
   rcases hs with rfl | rfl
   ·unfold minB;split<;>assumption
   ·unfold maxB;split<;>assumption) 2 rfl)
  clear ha hb;go_enter Tryz.func124,Tryz.ntmps124;go_wp2;refine bodyPost_ret (v:=.agg #[.string ⟨#[]⟩,.int .i64 2,.slice (some ⟨w.heap.size+1,0,none⟩) 2 2]) ?_ rfl ⟨_,_,rfl,HS.out _ _ ?_,(by repeat' (first | exact Below.refl _ _ | refine Below.drew ?_ | refine Below.drewN' ?_ | refine Below.setCell ?_ (by first | omega | (simp;done) | exact Below.size (by assumption) | (simp;omega)) _ | refine Below.alloc ?_ (by first | omega | (simp;done) | exact Below.size (by assumption) | (simp;omega)) _ | refine Below.trans ?_ (Below.mono (by assumption) ?_) | (first | omega | (simp;done) | exact Below.size (by assumption) | (simp;omega))))⟩
  ·simp [results,Tryz.results124,go_sem]
  ·exact zfj w _ _
theorem zafk (L:List zeh):∀u∈L.flatMap zeg,u.oneCell'=true:=fun u hu=>by obtain ⟨x,_,hu⟩:=List.mem_flatMap.1 hu;exact znj x u hu
def VOwn (w:World) (base:Nat) (v:Value) (ks:List KeyD):Prop :=
 ∃L:List zeh,w.ownsRow base 102 3 v L.length (L.flatMap zeg)∧L.map (·.1)=ks∧∀x∈L,zaj w (.slice x.2.1 x.2.2.1 x.2.2.2) (idsK x.1)
theorem VOwn.on {w w':World} {base:Nat} {v:Value} {ks:List KeyD} (h:VOwn w base v ks) (hb:Below w.heap.size w w'):VOwn w' base v ks:=by obtain ⟨L,h1,h2,h3⟩:=h;exact ⟨L,zaq h1 hb,h2,fun x hx=>(h3 x hx).later hb⟩
theorem VOwn.vios {w:World} {base:Nat} {v:Value} {ks:List KeyD} (h:VOwn w base v ks):zkg w v ks:=by obtain ⟨L,h1,h2,h3⟩:=h;exact ⟨L,RowE.of_own zgv rfl h1,h2,h3⟩
theorem VOwn.nil (w:World) (base:Nat):VOwn w base (.slice none 0 0) []:=⟨[],World.ownsRow_nil _ _ _ _,rfl,fun x hx=>by cases hx⟩
theorem zaoc {w:World} {base n i:Nat} {v:Value} {L:List zeh} {k:KeyD} {ks:List KeyD} {a:Option Addr} {m c:Nat} (hL:L.map (·.1)=ks) (hs:∀x∈L,zaj w (.slice x.2.1 x.2.2.1 x.2.2.2) (idsK x.1)) (hi:zaj w (.slice a m c) (idsK k)) (hn:L.length=n) (hin:i≤n)
  (ho:w.ownsRow base 102 3 v (i+1+(n - i)) ((L.take i).flatMap zeg++zeg (k,a,m,c)++(L.drop i).flatMap zeg)):VOwn w base v (ks.take i++k :: ks.drop i):=by
 refine ⟨L.take i++(k,a,m,c) :: L.drop i,?_,?_,fun x hx=>?_⟩
 ·rw [show (L.take i++(k,a,m,c) :: L.drop i).length=i+1+(n - i) by rw [List.length_append,List.length_take,List.length_cons,List.length_drop,hn];omega];rw [show (L.take i++(k,a,m,c) :: L.drop i).flatMap zeg=(L.take i).flatMap zeg++zeg (k,a,m,c)++(L.drop i).flatMap zeg by simp];exact ho
 ·rw [List.map_append,List.map_cons,List.map_take,List.map_drop,hL]
 ·rcases List.mem_append.1 hx with hx | hx
  ·exact hs x (List.mem_of_mem_take hx)
  ·rcases List.mem_cons.1 hx with rfl | hx
   ·exact hi
   ·exact hs x (List.mem_of_mem_drop hx)
theorem zun {B:Nat} {w w':World} (h:Below B w w') {g i:Nat} (hg:g<B) {v:Value} (hc:w.cell? ⟨g,i,none⟩=some v):w'.cell? ⟨g,i,none⟩=some v:=(znm (h.block g hg)).trans hc
def PreK (ks:List KeyD) (k:KeyD) (i:Nat):Prop:=∀j p,j<i→ks[j]?=some p→ltK p k=true
theorem PreK.succ {ks:List KeyD} {k p:KeyD} {i:Nat} (h:PreK ks k i) (hp:ks[i]?=some p) (hl:ltK p k=true):PreK ks k (i+1):=fun j q hj hq=>by
 by_cases e:j=i
 ·subst e;rw [hp] at hq;cases hq;exact hl
 ·exact h j q (by omega) hq
set_option maxRecDepth 100000 in
set_option maxHeartbeats 4000000 in
theorem zalm (v:Value) (ks:List KeyD) (k:KeyD) (a:Option Addr) (m c:Nat) (base:Nat) (w:World) (hv:VOwn w base v ks) (hi:zaj w (.slice a m c) (idsK k)) (hks:∀x∈ks,OrdP x) (hk:OrdP k) (hn:ks.length≤1000000000) (hbase:base≤w.heap.size) :
  Calls Tryz.prog 123 #[v,.agg #[.string ⟨#[]⟩,.int .i64 2,.slice a m c]] w fun e w'=>∃v',e=.returned v'∧VOwn w' base v' (insK k ks)∧Below w.heap.size w w':=by
 have mixed:Tryz.prog.follows .mixedOrders=true:=by kernel_rfl
 obtain ⟨i0,hi',hi0,hi1,hi2⟩:=info_parts zant;have HV:=zH hv;have HI:=zH hi;have HVG:=zH (zaak hv.vios);obtain ⟨av,cv,hvv,_⟩:=zaak hv.vios;subst hvv;obtain ⟨L,hown,hL1,hL2⟩:=id hv;have hcap:=zabf hown;have HR:=zH (RowE.of_own zgv rfl hown);have HL1:=zH hL1;have HL2:=zH hL2;have hln:L.length=ks.length:=by rw [←hL1,List.length_map]
 rw [hln] at hcap;obtain ⟨n,hN⟩:∃n,n=ks.length:=⟨_,rfl⟩;rw [←hN] at HV HVG hn hcap HR hln ⊢;have HN:=zH hN;have HLN:=zH hln;have HB:=zH (fun (va vb:Value) (p q:KeyD) W h1 h2 hp hq=>(show Calls Tryz.prog 177 #[va,vb] W fun e w'=>e=.returned (.bool (ltK p q))∧Below W.heap.size W w' by
  have h:=zyu va vb (idsK p) (idsK q) W h1 h2
  rw [zzk hp hq] at h
  exact h))
 have HKS:=zH hks;have HKO:=zH hk;clear hv hi hks hk hN hown hL1 hL2 hln;go_enter Tryz.func123,Tryz.ntmps123
 go_upto_block 0 with fail
 generalize hw1:w.alloc _=w1;have BX:=gB1 hw1;have HX:=gA11 hw1;have HX1:=zH HX;have hz1:w.heap.size<w1.heap.size:=zaf HX;clear hw1 HX;go_cut [5] from 7 to 23 (fun v5 wx=>∃i:Nat,v5=.int .i64 i∧i≤n∧PreK ks k i∧(∀p,ks[i]?=some p→ltK p k=false)∧Below w1.heap.size w1 wx)
 case first =>
  go_wp2_with fail;go_loopw [5] (fun v5 wr=>∃i:Nat,v5=.int .i64 i∧i≤n∧PreK ks k i∧Below w1.heap.size w1 wr) (fun v5 _=>n - (intOf v5).toNat);case atStart=>exact ⟨0,rfl,by omega,(fun j p hj=>by omega),Below.refl _ _⟩
  case round =>
   obtain ⟨i,rfl,hin,hpre,hbr⟩:=hrel;have HPRE:=zH hpre;have HXr:=zab hbr HX1.out;have BR:=zac BX (by omega) hbr;clear hpre;by_cases hlt:i<n;case neg =>
    obtain rfl:i=n:=(by omega);have HS:=zH (show ∀p,ks[i]?=some p→ltK p k=false from fun p hp=>by have:=(List.getElem?_eq_some_iff.1 hp).1;rw [←HN.out] at this;omega);have hd:decide ((i:Int)<(i:Int))=false:=decide_eq_false (by omega);go_wp2_with fail;refine zae mixed (by kernel_rfl) ?_;repeat (go_big_quiet_step (fail))
    refine wpQuiet_nil ?_;intro w8 hw';obtain ⟨⟨wq,hbq⟩,hw''⟩:=hw';subst hw'';go_wp2;go_meet;case rel=>exact ⟨_,rfl,by omega,HPRE.out,HS.out,hbr.trans (hbq.mono hbr.size)⟩
   obtain ⟨p,hp⟩:∃p,ks[i]?=some p:=⟨ks[i]'(by rw [←HN.out];exact hlt),List.getElem?_eq_getElem _⟩;obtain ⟨ao,co,hv,hc⟩:=HVG.out;injection hv with e1 e2 e3;subst e1;obtain ⟨b,off,hab,hcell⟩:=hc (by omega);subst hab;obtain ⟨vi,c0,c1,c2,hst⟩:=hcell i p hp;obtain ⟨ia,ic,hvi,_⟩:=id hst;subst hvi;have q2:=zaa (cell_later BR c2);have bz:=zag (cell_later BR c2);have hd:decide ((i:Int)<(n:Int))=true:=decide_eq_true (by omega);have hd':(i:Int)<(n:Int):=(by omega);have hi1:(0:Int)≤(i:Int):=(by omega);have BF:=zH (fun (W:World) (hb:Below w.heap.size w W)=>HB.out _ _ p k W (hst.later hb) (HI.out.later hb) (HKS.out p (zM hp)) HKO.out);have HGT:=zH (fun (h:ltK p k=true)=>HPRE.out.succ hp h);have HST:=zH (fun (h:ltK p k=false)=>(show ∀q,ks[i]?=some q→ltK q k=false from fun q hq=>by rw [hp] at hq;injection hq with hq;rw [←hq];exact h));have HXh:=zH HXr;generalize (idsK p).length=np at q2 BF;obtain ⟨xz,x0,x1,x2⟩:=rk3 HXh.out;have qx0:=zaa x0;have qx1:=zaa x1;have qx2:=zaa x2;clear x0 x1 x2;clear hcell hc hp e2 e3 c0 c1 c2 hst HXr;cases hl:ltK p k with
   |true =>
    have HP2:=zH (HGT.out hl);rw [hl] at BF;clear hl;go_wp2_with fail;refine zae mixed (by kernel_rfl) ?_;repeat (go_big_quiet_step ((go_at_call 177;exact zad (BF.out _ (BR.trans ((zam.below _).mono BR.size))))))
    refine wpQuiet_nil ?_;intro w8 hw';obtain ⟨⟨wq,hbq⟩,hw''⟩:=hw';subst hw'';have hbr8:=hbr.trans (hbq.mono hbr.size);clear q2;go_wp2;go_roundw;case rel=>exact ⟨i+1,by go_num,by omega,HP2.out,hbr8⟩
    case measure=>simp [intOf];omega
   |false =>
    have HS:=zH (HST.out hl);rw [hl] at BF;clear hl;go_wp2_with fail;refine zae mixed (by kernel_rfl) ?_;repeat (go_big_quiet_step ((go_at_call 177;exact zad (BF.out _ (BR.trans ((zam.below _).mono BR.size))))))
    refine wpQuiet_nil ?_;intro w8 hw';obtain ⟨⟨wq,hbq⟩,hw''⟩:=hw';subst hw'';have hbr8:=hbr.trans (hbq.mono hbr.size);clear q2;go_wp2;go_meet;case rel=>exact ⟨i,rfl,by omega,HPRE.out,HS.out,hbr8⟩
 case rest =>
  obtain ⟨i,rfl,hin,hpre,hst,hbr⟩:=hcut;have HPRE:=zH hpre;have HSTO:=zH hst;obtain ⟨w2,rfl⟩:∃z:World,z=wc:=⟨_,rfl⟩;have BR:=zac BX (by omega) hbr;have HXr:=zH (zab hbr HX1.out);have hs2:=hbr.size;clear hpre hst;go_upto_region 4 with fail;go_cut [37] from 23 to 38 (fun v37 wx=>∃fnd:Bool,v37=.bool fnd∧(fnd=true→ks[i]?=some k)∧(fnd=false→∀p,ks[i]?=some p→p≠k)∧Below w2.heap.size w2 wx)
  case first =>
   by_cases hlt:i<n;case neg =>
    obtain rfl:i=n:=(by omega);have HS:=zH (show ∀p,ks[i]?=some p→p≠k from fun p hp=>by have:=(List.getElem?_eq_some_iff.1 hp).1;rw [←HN.out] at this;omega);have hd:decide ((i:Int)<(i:Int))=false:=decide_eq_false (by omega);go_wp2_with fail;refine zae mixed (by kernel_rfl) ?_;repeat (go_big_quiet_step (fail))
    refine wpQuiet_nil ?_;intro w8 hw';obtain ⟨⟨wq,hbq⟩,hw''⟩:=hw';subst hw'';go_wp2;go_meet;case rel=>exact ⟨false,rfl,(fun h=>by cases h),fun _=>HS.out,hbq⟩
   obtain ⟨p,hp⟩:∃p,ks[i]?=some p:=⟨ks[i]'(by rw [←HN.out];exact hlt),List.getElem?_eq_getElem _⟩;obtain ⟨ao,co,hv,hc⟩:=HVG.out;injection hv with e1 e2 e3;subst e1;obtain ⟨b,off,hab,hcell⟩:=hc (by omega);subst hab;obtain ⟨vi,c0,c1,c2,hst⟩:=hcell i p hp;obtain ⟨ia,ic,hvi,_⟩:=id hst;subst hvi;have q2:=zaa (cell_later BR c2);have bz:=zag (cell_later BR c2);have hd:decide ((i:Int)<(n:Int))=true:=decide_eq_true (by omega);have hd':(i:Int)<(n:Int):=(by omega);have hi1:(0:Int)≤(i:Int):=(by omega);have BF:=zH (fun (W:World) (hb:Below w.heap.size w W)=>HB.out _ _ k p W (HI.out.later hb) (hst.later hb) HKO.out (HKS.out p (zM hp)));have HPK:=zH (HSTO.out p hp);have HX1':=zH hp;generalize (idsK p).length=np at q2 BF;obtain ⟨xz,x0,x1,x2⟩:=rk3 HXr.out;have qx0:=zaa x0;have qx1:=zaa x1;have qx2:=zaa x2;clear x0 x1 x2;clear hcell hc hp e2 e3 c0 c1 c2 hst;cases hl:ltK k p with
   |true =>
    have HS:=zH (show ∀q,ks[i]?=some q→q≠k from fun q hq e=>by rw [HX1'.out] at hq;injection hq with hq;rw [hq,e,zcl] at hl;cases hl)
    rw [hl] at BF;clear hl;go_wp2_with fail;refine zae mixed (by kernel_rfl) ?_;repeat (go_big_quiet_step ((go_at_call 177;exact zad (BF.out _ (BR.trans ((zam.below _).mono BR.size))))))
    refine wpQuiet_nil ?_;intro w8 hw';obtain ⟨⟨wq,hbq⟩,hw''⟩:=hw';subst hw'';have hbr8:=hbr.trans (hbq.mono hbr.size);clear q2;go_wp2;go_meet;case rel=>exact ⟨false,rfl,(fun h=>by cases h),fun _=>HS.out,hbq⟩
   |false =>
    have HS:=zH (show ks[i]?=some k by rw [HX1'.out,zhw HPK.out hl]);rw [hl] at BF;clear hl;go_wp2_with fail;refine zae mixed (by kernel_rfl) ?_;repeat (go_big_quiet_step ((go_at_call 177;exact zad (BF.out _ (BR.trans ((zam.below _).mono BR.size))))))
    refine wpQuiet_nil ?_;intro w8 hw';obtain ⟨⟨wq,hbq⟩,hw''⟩:=hw';subst hw'';have hbr8:=hbr.trans (hbq.mono hbr.size);clear q2;go_wp2;go_meet;case rel=>exact ⟨true,rfl,fun _=>HS.out,(fun h=>by cases h),hbq⟩
  case rest =>
   obtain ⟨fnd,rfl,hf1,hf2,hbq⟩:=hcut;obtain ⟨w3,rfl⟩:∃z:World,z=wc:=⟨_,rfl⟩;have hb3:=hbr.trans (hbq.mono hs2);have B3:=zac BX (by omega) hb3;have HX3:=zH (zab hb3 HX1.out);have hSK:zaqd ks k i:=⟨by rw [←HN.out];exact hin,HPRE.out,HSTO.out⟩;cases fnd with
   |true =>have HF:=zH (show VOwn w3 base (.slice av n cv) (insK k ks) by rw [zwj hSK (hf1 rfl)];exact HV.out.on B3);clear hf1 hf2 hSK;go_wp2;go_ret;exact ⟨_,rfl,HF.out,B3⟩
   |false =>
    have HINS:=zH (zair hSK (hf2 rfl));have SRC1:=zH (fun (W:World) (hb:Below w.heap.size w W)=>zuz zgv (by decide) (HR.out.later hb) hin cv);have SRC2:=zH (fun (W:World) (hb:Below w.heap.size w W)=>zva zgv (by decide) (HR.out.later hb) hin hcap);have LT:=zH (show ((L.take i).flatMap zeg).length=i * 3 by rw [zbs zeg 3 zgv,List.length_take,HLN.out,Nat.min_eq_left hin]);have LD:=zH (show ((L.drop i).flatMap zeg).length=(n - i) * 3 by rw [zbs zeg 3 zgv,List.length_drop,HLN.out]);have s1:(0:Int)≤(i:Int):=(by omega);have s2:(i:Int)≤(n:Int):=(by omega);have s3:(n:Int)≤(cv:Int):=(by omega);have s4:(i:Int)≤(cv:Int):=(by omega);clear hf1 hf2 hSK;have BA:=(Below.refl w3.heap.size w3).alloc zR (.cells #[] 102);have BwA:=zac B3 (by have:=B3.size;omega) BA;go_wp2_with (at_builtin;refine zev rfl (.tmp 39) (.tmp 42) 55 rfl w3.heap.size 102 i0 (.agg #[.string ⟨#[]⟩,.int .i64 0,.slice none 0 0]) 3 48 Tryz.underlying55 hi' hi0 hi1 hi2 rfl (by decide) _ 0 [] rfl (World.ownsRow_made _ #[] 0 zR (by decide) rfl) i ((L.take i).flatMap zeg) (SRC1.out _ BwA) LT.out (zafk _) (by unfold maxLen;omega) (by omega) BA.size ?_;intro v7 w7 hown7 hgrow7 hbel7;have B37:=BA.trans hbel7;have B7:=zac B3 (by have:=B3.size;omega) B37;have HX7:=zH (zab B37 HX3.out);obtain ⟨a7,c7,hv7⟩:=zjy hown7;subst hv7;have O7:=zH (show w7.ownsRow w3.heap.size 102 3 (.slice a7 i c7) i ((L.take i).flatMap zeg) by simpa using hown7);clear hown7 hgrow7 hbel7 BA BwA);have HS7:=zH hs2;have hz37:=B37.size;have hwz:w.heap.size≤w3.heap.size:=B3.size;have hwl:w.heap.size<w3.heap.size:=zaf HX3.out;have S2:=zH (fun (W:World) (hb:Below w3.heap.size w7 W)=>SRC2.out W (B7.trans (hb.mono hwz)));obtain ⟨xz,x0,x1,x2⟩:=rk3 HX7.out;clear SRC1 SRC2 hbr hb3 hbq BX BR;go_region_held3 (fun w'=>w'.cell? ⟨w.heap.size,0,none⟩=some (.string ⟨#[]⟩)∧w'.cell? ⟨w.heap.size,1,none⟩=some (.int .i64 2)∧w'.cell? ⟨w.heap.size,2,none⟩=some (.slice a m c)∧Below w3.heap.size w7 w')
     (first
      |exact ⟨x0,x1,x2,(Below.refl _ _).drew⟩
      |(have hq:=‹_∧_∧_∧Below w3.heap.size w7 _›;exact ⟨zer hq.1,zer hq.2.1,zer hq.2.2.1,hq.2.2.2.alloc (Nat.le_trans hz37 hq.2.2.2.size) _⟩)
      |(have hq:=‹_∧_∧_∧Below w3.heap.size w7 _›;have B:=hq.2.2.2.trans hbA;exact ⟨zun B hwl x0,zun B hwl x1,zun B hwl x2,B⟩)
      |assumption)
     (first
      |(rw [if_pos (by rfl)];refine zcv _ (.tmp 44) (.tmp 46) 55 rfl w3.heap.size 102 i0 (.agg #[.string ⟨#[]⟩,.int .i64 0,.slice none 0 0]) 3 48 Tryz.underlying55 hi' hi0 hi1 hi2 rfl (by decide) _ i ((L.take i).flatMap zeg) rfl (by first | exact zaq (O7.out.alloc _) (Below.refl _ _).drew | exact O7.out.alloc _) 1 (zeg (k,a,m,c)) (by exact ⟨some _,_,rfl,Or.inr ⟨_,rfl,zec _ _ _⟩⟩) (zgv (k,a,m,c)) (znj (k,a,m,c)) (by unfold maxLen;omega) (by omega) (by first | exact Nat.le_trans hz37 (‹_∧_∧_∧Below w3.heap.size w7 _›).2.2.2.size | (simp;omega)) ?_;intro v1 w1' hown1 hgrow1 hbA)
      |(rw [if_pos (by rfl)];refine zcv _ (.tmp 47) (.tmp 50) 55 rfl w3.heap.size 102 i0 (.agg #[.string ⟨#[]⟩,.int .i64 0,.slice none 0 0]) 3 48 Tryz.underlying55 hi' hi0 hi1 hi2 rfl (by decide) _ (i+1) ((L.take i).flatMap zeg++zeg (k,a,m,c)) rfl hown1 (n - i) ((L.drop i).flatMap zeg) (S2.out _ (‹_∧_∧_∧Below w3.heap.size w7 _›).2.2.2) LD.out (zafk _) (by unfold maxLen;omega) (by omega) (by first | exact Nat.le_trans hz37 (‹_∧_∧_∧Below w3.heap.size w7 _›).2.2.2.size | (simp;omega)) ?_;intro v2 w2' hown2 hgrow2 hbA))
    all_goals (
     have BF:=zH (‹_∧_∧_∧Below w3.heap.size w7 _›).2.2.2
     have HO2:=zH hown2
     have BFw:=zH (B7.trans (BF.out.mono hwz))
     have HF:=zH (show VOwn _ base v2 (insK k ks) by
      rw [HINS.out]
      exact zaoc HL1.out (fun x hx=>(HL2.out x hx).later BFw.out) (HI.out.later BFw.out) HLN.out hin (zpg HO2.out (Nat.le_trans hbase hwz)))
     clear hown1 hown2 hgrow1 hgrow2 hbA HO2 BF
     go_wp2
     all_goals (
      go_ret
      exact ⟨_,rfl,HF.out,BFw.out⟩))
end Go.Proofs.YtibpaaajghbkoaaGreat

namespace Go.Proofs.YtibpaaajghbkoaaGreat
open Go.RowKit Go.Sort
def ordR (p q:KeyD) (s t:Sg):Bool:=decide (zav s t=0) || (decide (zav s t=1) && comK p q)
set_option maxRecDepth 100000 in
set_option maxHeartbeats 4000000 in
theorem zadj (p q:KeyD) (s t:Sg) (pa qa:Option Addr) (pn pc qn qc:Nat) (w:World) :
  Calls Tryz.prog 122 #[.agg #[.string p.1,.string p.2,.int .i64 s.1.1,.int .i64 s.1.2,.int .i64 s.2.1,.int .i64 s.2.2,.slice pa pn pc],.agg #[.string q.1,.string q.2,.int .i64 t.1.1,.int .i64 t.1.2,.int .i64 t.2.1,.int .i64 t.2.2,.slice qa qn qc]] w fun e w'=>e=.returned (.bool (ordR p q s t))∧Below w.heap.size w w':=by
 have mixed:Tryz.prog.follows .mixedOrders=true:=by kernel_rfl
 have MT:=zH (fun W=>zadm s t W);unfold ordR;generalize zav s t=kd at MT ⊢;obtain ⟨p1,p2⟩:=p;obtain ⟨q1,q2⟩:=q;obtain ⟨⟨ax,ay⟩,⟨bx,by1⟩⟩:=s;obtain ⟨⟨cx,cy⟩,⟨dx,dy⟩⟩:=t;have HCK:=zH (show comK (p1,p2) (q1,q2)=(decide (p1=q1∨p1=q2) || decide (p2=q1∨p2=q2)) from rfl);obtain ⟨com,hcom⟩:∃z,z=comK (p1,p2) (q1,q2):=⟨_,rfl⟩;rw [←hcom] at HCK ⊢;obtain ⟨res,hres⟩:∃z,z=(decide (kd=0) || (decide (kd=1) && com)):=⟨_,rfl⟩;rw [←hres];have HRES:=zH hres;clear hcom hres;simp only [];go_enter Tryz.func122,Tryz.ntmps122;go_upto_region 1 with fail;generalize hw1:(w.alloc _).alloc _=w1;have BX:=gB2 hw1;have HA:=gA21 hw1;have HB:=gA22 hw1;have HA1:=zH HA;have HB1:=zH HB;have hz1:w.heap.size+1<w1.heap.size:=zaf HB;clear hw1 HA HB;obtain ⟨xz,x0,x1,x2,x3,x4,x5,x6⟩:=rk7 HA1.out;have qx0:=zaa x0;have qx1:=zaa x1;have qx2:=zaa x2;have qx3:=zaa x3;have qx4:=zaa x4;have qx5:=zaa x5;have qx6:=zaa x6;clear x0 x1 x2 x3 x4 x5 x6;obtain ⟨yz,y0,y1,y2,y3,y4,y5,y6⟩:=rk7 HB1.out;have qy0:=zaa y0;have qy1:=zaa y1;have qy2:=zaa y2;have qy3:=zaa y3;have qy4:=zaa y4;have qy5:=zaa y5;have qy6:=zaa y6;clear y0 y1 y2 y3 y4 y5 y6;go_wp2_with fail;refine zae mixed (by kernel_rfl) ?_;repeat (go_big_quiet_step (first | (go_at_call 176;exact zad (zvm _ _ _ _ _ _ _ _ _ _)) | (go_at_call 175;exact zad (MT.out _))))
 refine wpQuiet_nil ?_;intro w8 hw';obtain ⟨⟨wq,hbq⟩,hw''⟩:=hw';subst hw'';have B2:=zac BX (by omega) hbq;have HA2:=zH (zab hbq HA1.out);have HB2:=zH (zab hbq HB1.out);have hz2:=hbq.size;clear hbq BX HA1 HB1;go_upto_region 2 with fail;obtain ⟨w2,rfl⟩:∃z:World,z=w8:=⟨_,rfl⟩;go_cut [6] from 12 to 38 (fun v6 wx=>v6=.bool com∧wx=w2)
 case first =>
  obtain ⟨xz,x0,x1,x2,x3,x4,x5,x6⟩:=rk7 HA2.out;obtain ⟨yz,y0,y1,y2,y3,y4,y5,y6⟩:=rk7 HB2.out;by_cases e1:p1=q1
  ·have HC:=zH (show com=true by rw [HCK.out];simp [e1]);subst e1;go_wp2;go_meet;case rel=>exact ⟨by rw [HC.out]<;>rfl,rfl⟩
  by_cases e2:p1=q2
  ·have HC:=zH (show com=true by rw [HCK.out];simp [e2]);have n1:=zcj e1;subst e2;go_wp2;go_meet;case rel=>exact ⟨by rw [HC.out]<;>rfl,rfl⟩
  by_cases e3:p2=q1
  ·have HC:=zH (show com=true by rw [HCK.out];simp [e3]);have n1:=zcj e1;have n2:=zcj e2;subst e3;go_wp2;go_meet;case rel=>exact ⟨by rw [HC.out]<;>rfl,rfl⟩
  by_cases e4:p2=q2
  ·have HC:=zH (show com=true by rw [HCK.out];simp [e4]);have n1:=zcj e1;have n2:=zcj e2;have n3:=zcj e3;subst e4;go_wp2;go_meet;case rel=>exact ⟨by rw [HC.out]<;>rfl,rfl⟩
  have HC:=zH (show com=false by rw [HCK.out];simp [e1,e2,e3,e4]);have n1:=zcj e1;have n2:=zcj e2;have n3:=zcj e3;have n4:=zcj e4;clear e1 e2 e3 e4;go_wp2;go_meet;case rel=>exact ⟨by rw [HC.out]<;>rfl,rfl⟩
 case rest =>
  obtain ⟨rfl,hw⟩:=hcut;rw [hw];clear hw;by_cases k0:kd=0
  ·have HC:=zH (show res=true by rw [HRES.out];simp [k0]);subst k0;go_wp2;go_ret;exact ⟨by rw [HC.out]<;>rfl,B2⟩
  have m0:(kd==0)=false:=beq_false_of_ne k0;by_cases k1:kd=1
  ·subst k1;cases com with
   |true =>have HC:=zH (show res=true by rw [HRES.out];rfl);go_wp2;go_ret;exact ⟨by rw [HC.out]<;>rfl,B2⟩
   |false =>have HC:=zH (show res=false by rw [HRES.out];rfl);go_wp2;go_ret;exact ⟨by rw [HC.out]<;>rfl,B2⟩
  ·have HC:=zH (show res=false by rw [HRES.out];simp [k0,k1]);have m1:(kd==1)=false:=beq_false_of_ne k1;go_wp2;go_ret;exact ⟨by rw [HC.out]<;>rfl,B2⟩
end Go.Proofs.YtibpaaajghbkoaaGreat
