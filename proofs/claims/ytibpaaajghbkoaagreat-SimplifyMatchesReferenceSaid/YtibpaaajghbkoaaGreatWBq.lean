/-  -/
import Derived.Test.YtibpaaajghbkoaaGreatWBp
import Derived.Deep.RegionHeld3
namespace Go.Proofs.YtibpaaajghbkoaaGreat
open Go.RowKit Go.Sort
def zakm (l:List ObjD) (acc:List (KeyD × List ByteArray)) (k:KeyD) (id:ByteArray) (base:Nat) (v:Value) (w:World) (e:Ending) (w':World):Prop :=
 ∃v',e=.returned v'∧BrAt w' base v' l (rput k id acc)∧w.grownBy w' v.ownBlock∧(v'.ownBlock=v.ownBlock∨∀j,v'.ownBlock=some j→w.heap.size≤j)
def zsx (acc:List (KeyD × List ByteArray)) (k:KeyD) (i:Nat):Prop:=i≤acc.length∧zxn acc k i∧∀p,acc[i]?=some p→ltK p.1 k=false
theorem zalp {acc:List (KeyD × List ByteArray)} {k:KeyD} {i:Nat} {p:KeyD × List ByteArray} (h:zxn acc k i) (hp:acc[i]?=some p) (hl:ltK p.1 k=true):zxn acc k (i+1):=fun j q hj hq=>by
 by_cases e:j=i
 ·subst e;rw [hp] at hq;cases hq;exact hl
 ·exact h j q (by omega) hq
def zacl (l:List ObjD) (acc:List (KeyD × List ByteArray)) (k:KeyD) (id:ByteArray) (base:Nat) (v:Value) (w:World) (i:Nat) (wx:World) (v0:Value):Prop :=
 ∃(L1:List BrM) (acc1:List (KeyD × List ByteArray)) (ids:List ByteArray),wx.ownsRow base 175 7 v0 L1.length (L1.flatMap zgx)∧L1.map (·.1)=acc1.map (·.1)∧(∀x∈L1,x.2.1=segB l x.1) ∧
  (∀(j:Nat) (x:BrM) (p:KeyD × List ByteArray),L1[j]?=some x→acc1[j]?=some p→OwR wx v0 x p.2)∧acc1[i]?=some (k,ids)∧rput k id acc=acc1.set i (k,zro ids id)∧w.grownBy wx v.ownBlock ∧
  (v0.ownBlock=v.ownBlock∨∀j,v0.ownBlock=some j→w.heap.size≤j)∧acc1.length≤acc.length+1∧ids.length≤100000
theorem zov {w w':World} (h:Below w.heap.size w w') (row:Option Nat):w.grownBy w' row:=⟨h.1,h.2,h.3,h.4,fun k hk _=>h.5 k hk⟩
theorem zala {α:Type} {l:List α} {i:Nat} {x:α} (h:l[i]?=some x):l.set i x=l:=by
 apply List.ext_getElem?;intro j;by_cases e:i=j
 ·subst e;rw [List.getElem?_set_self (List.getElem?_eq_some_iff.1 h).1,h]
 ·rw [List.getElem?_set_ne e]
theorem zakv (ids:List ByteArray):∀u∈ids.map Value.string,u.oneCell'=true:=fun u hu=>by obtain ⟨s,_,rfl⟩:=List.mem_map.1 hu;rfl
theorem zaof {w:World} {a:Option Addr} {n c q:Nat} {ids:List ByteArray} (h:zaj w (.slice a n c) ids) (hq:q=ids.length):znr w (.slice a n c) q (ids.map Value.string):=by
 obtain ⟨a',c',e,_,_,hc⟩:=h;injection e with e1 e2 e3;subst e1 e2 e3 hq;refine ⟨_,_,rfl,?_⟩;by_cases h0:ids.length=0
 ·exact Or.inl h0
 ·obtain ⟨b,off,ha,hcell⟩:=hc (by omega);refine Or.inr ⟨_,ha,fun j u hu=>?_⟩;rw [List.getElem?_map] at hu;obtain ⟨s,hs,rfl⟩:=Option.map_eq_some_iff.1 hu;rw [Addr.add_lit];exact hcell j s hs
theorem zaot {w:World} {base size n m c g:Nat} {e:TypeId} {xs:List Value} (h:w.ownsRow base e size (.slice (some ⟨g,0,none⟩) m c) n xs):∃cur,w.heap[g]?=some (.cells cur e):=by
 rcases h.2 with ⟨h1,_⟩ | ⟨g',cap,cur,h1,_,hc,_⟩
 ·cases h1
 ·injection h1 with a;injection a with a;injection a with a;subst a;exact ⟨cur,hc⟩
theorem zagn {w w6 w9:World} {row:Option Nat} {g:Nat} (h1:w.grownBy w6 row) (h2:w6.grownBy w9 (some g)) (hor:some g=row∨w.heap.size≤g):w.grownBy w9 row :=
 ⟨h2.os.trans h1.os,h2.tape.trans h1.tape,h2.output.trans h1.output,Nat.le_trans h1.size h2.size,fun k hk hne=>(h2.block k (Nat.lt_of_lt_of_le hk h1.size) (fun e=>by
  rcases hor with hor | hor
  ·exact hne (e.trans hor)
  ·injection e with e;omega)).trans (h1.block k hk hne)⟩
theorem zaln {l:List ObjD} {w6 w8:World} {base g1 m c1 i n8 c8:Nat} {a8:Option Addr} {L1:List BrM} {acc1:List (KeyD × List ByteArray)} {k:KeyD} {sg:Sg} {sl:Option Addr × Nat × Nat} {ids:List ByteArray} {id:ByteArray}
  (O8:w8.ownsRow base 175 7 (.slice (some ⟨g1,0,none⟩) m c1) m (L1.flatMap zgx)) (hm:m=L1.length) (hx:L1[i]?=some (k,sg,sl)) (q2:L1.map (·.1)=acc1.map (·.1)) (q3:∀x∈L1,x.2.1=segB l x.1)
  (q4:∀(j:Nat) (x:BrM) (p:KeyD × List ByteArray),L1[j]?=some x→acc1[j]?=some p→OwR w6 (.slice (some ⟨g1,0,none⟩) m c1) x p.2) (b68:Below w6.heap.size w6 w8) (hg1:g1<w6.heap.size)
  (own8:w8.ownsRow w6.heap.size 9 1 (.slice a8 n8 c8) n8 ((ids++[id]).map Value.string)) (hn8:n8=(ids++[id]).length) (hz:∀s∈ids++[id],s.size≤140737488355328) (hl:n8≤100001) :
  BrAt (w8.setCell ⟨g1,i * 7+6,none⟩ (.slice a8 n8 c8)) base (.slice (some ⟨g1,0,none⟩) m c1) l (acc1.set i (k,ids++[id]))∧w6.grownBy (w8.setCell ⟨g1,i * 7+6,none⟩ (.slice a8 n8 c8)) (some g1):=by
 obtain ⟨hO,hg⟩:=zvz zgd O8 hm hx (x':=(k,sg,a8,n8,c8)) (o:=6) (vs:=[.slice a8 n8 c8]) (by simp) (fun r hr=>by rcases (show r=0∨r=1∨r=2∨r=3∨r=4∨r=5∨r=6 by omega) with rfl | rfl | rfl | rfl | rfl | rfl | rfl<;>rfl)
 have hg':w8.grownBy (w8.setCell ⟨g1,i * 7+6,none⟩ (.slice a8 n8 c8)) (some g1):=hg;have hO':(w8.setCell ⟨g1,i * 7+6,none⟩ (.slice a8 n8 c8)).ownsRow base 175 7 (.slice (some ⟨g1,0,none⟩) m c1) m ((L1.set i (k,sg,a8,n8,c8)).flatMap zgx):=hO;have hil:=(List.getElem?_eq_some_iff.1 hx).1;have hp:∃g8,a8=some ⟨g8,0,none⟩∧w6.heap.size≤g8∧g8<w8.heap.size:=by
  rcases own8.2 with ⟨h,h0⟩ | ⟨g,_,_,h,h1,h2,_⟩
  ·rw [hn8] at h0;simp at h0
  ·injection h with h;exact ⟨g,h,h1,zaf h2⟩
 obtain ⟨g8,rfl,h81,h82⟩:=hp;have hown9:=own8.kept hg' (Or.inr (fun c=>by injection c with c;have c':g8=g1:=c;omega));refine ⟨⟨L1.set i (k,sg,some ⟨g8,0,none⟩,n8,c8),by rw [List.length_set,←hm];exact hO',?_,fun x hx'=>?_,fun j x p hx' hp=>?_⟩,⟨hg'.os.trans b68.os,hg'.tape.trans b68.tape,hg'.output.trans b68.output,Nat.le_trans b68.size hg'.size,fun k hk hne=>(hg'.block k (Nat.lt_of_lt_of_le hk b68.size) hne).trans (b68.block k hk)⟩⟩
 ·rw [List.map_set,List.map_set,q2]
 ·rcases List.mem_or_eq_of_mem_set hx' with h | rfl
  ·exact q3 x h
  ·exact q3 (k,sg,sl) (zM hx)
 ·by_cases e:i=j
  ·subst e;have hal:i<acc1.length:=(by rw [←zacf q2];exact hil);rw [List.getElem?_set_self hil] at hx';rw [List.getElem?_set_self hal] at hp;injection hx' with hx';injection hp with hp;subst hx' hp;have hs:=zaj.of_own (ids:=ids++[id]) (v:=.slice (some ⟨g8,0,none⟩) n8 c8) (by rw [←hn8];exact hown9) (by rw [←hn8];omega) hz;exact Or.inr ⟨g8,n8,c8,rfl,hs,(fun c=>by injection c with c;have c':g1=g8:=c;omega),Nat.lt_of_lt_of_le h82 hg'.size⟩
  ·rw [List.getElem?_set_ne e] at hx' hp;exact ((q4 j x p hx' hp).on b68).kept hg' (Or.inl rfl)
theorem zaoo {l:List ObjD} {acc:List (KeyD × List ByteArray)} {k1 k2 id:ByteArray} {base n i:Nat} {v v3:Value} {w w5 w':World} {L:List BrM} {px py qx qy:Int} (h1:L.map (·.1)=acc.map (·.1)) (h2:∀x∈L,x.2.1=segB l x.1)
  (h3:∀(i:Nat) (x:BrM) (p:KeyD × List ByteArray),L[i]?=some x→acc[i]?=some p→OwR w v x p.2) (hna:acc.length=n) (hN:L.length=n) (hi:i≤n) (hsg:segB l (k1,k2)=((px,py),(qx,qy))) (hg:rput (k1,k2) id acc=acc.take i++((k1,k2),[id]) :: acc.drop i)
  (hbase:base≤w.heap.size) (hb:Below w.heap.size w w')
  (hown:w'.ownsRow w5.heap.size 175 7 v3 (0+i+1+(n - i)) ([]++(L.take i).flatMap zgx++zgx ((k1,k2),((px,py),(qx,qy)),none,0,0)++(L.drop i).flatMap zgx)) (hz:w.heap.size≤w5.heap.size) :
  zacl l acc (k1,k2) id base v w i w' v3:=by
 have hnew:∀j,v3.ownBlock=some j→w.heap.size≤j:=fun j hj=>Nat.le_trans hz (hown.lt j hj).1;have hiL:(L.take i).length=i:=by rw [List.length_take,hN];omega
 have hiA:(acc.take i).length=i:=by rw [List.length_take,hna];omega
 refine ⟨L.take i++((k1,k2),((px,py),(qx,qy)),none,0,0) :: L.drop i,acc.take i++((k1,k2),[]) :: acc.drop i,[],?_,?_,fun x hx=>?_,fun j x p hx hp=>?_,?_,?_,zov hb _,Or.inr hnew,?_,by simp⟩
 ·have h4:=zpg hown (Nat.le_trans hbase hz);rw [show (L.take i++((k1,k2),((px,py),(qx,qy)),none,0,0) :: L.drop i).length=0+i+1+(n - i) by rw [List.length_append,hiL,List.length_cons,List.length_drop,hN];omega];rw [show (L.take i++((k1,k2),((px,py),(qx,qy)),none,0,0) :: L.drop i).flatMap zgx=[]++(L.take i).flatMap zgx++zgx ((k1,k2),((px,py),(qx,qy)),none,0,0)++(L.drop i).flatMap zgx by simp];exact h4
 ·rw [List.map_append,List.map_cons,List.map_append,List.map_cons,List.map_take,List.map_drop,List.map_take,List.map_drop,h1]
 ·rcases List.mem_append.1 hx with hx | hx
  ·exact h2 x (List.mem_of_mem_take hx)
  ·rcases List.mem_cons.1 hx with rfl | hx
   ·exact hsg.symm
   ·exact h2 x (List.mem_of_mem_drop hx)
 ·by_cases hj:j<i
  ·rw [List.getElem?_append_left (by rw [hiL];exact hj),List.getElem?_take,if_pos hj] at hx;rw [List.getElem?_append_left (by rw [hiA];exact hj),List.getElem?_take,if_pos hj] at hp;exact (h3 j x p hx hp).new ((h3 j x p hx hp).on hb) hnew
  ·rw [List.getElem?_append_right (by rw [hiL];omega),hiL] at hx;rw [List.getElem?_append_right (by rw [hiA];omega),hiA] at hp;by_cases hj2:j=i
   ·subst hj2;rw [Nat.sub_self] at hx hp;have ex:((k1,k2),((px,py),(qx,qy)),none,0,0)=x:=(by simpa using hx);have ep:((k1,k2),([]:List ByteArray))=p:=(by simpa using hp);rw [←ex,←ep];exact Or.inl ⟨rfl,rfl⟩
   ·obtain ⟨q,hq⟩:∃q,j - i=q+1:=⟨j - i - 1,by omega⟩;rw [hq,List.getElem?_cons_succ,List.getElem?_drop] at hx hp;exact (h3 _ x p hx hp).new ((h3 _ x p hx hp).on hb) hnew
 ·rw [List.getElem?_append_right (by rw [hiA];exact Nat.le_refl _),hiA,Nat.sub_self];rfl
 ·rw [hg,zvo (by rw [hna];exact hi)]
 ·rw [List.length_append,hiA,List.length_cons,List.length_drop,hna];omega
theorem zabi {l:List ObjD} {r:ByteArray} (h:(zbi l r).isSome=true):∃j,posO r l=some j∧∃o,l[j]?=some o∧o.kind=1∧ptO l r=(o.x,o.y):=by
 cases hp:posO r l with
 |none=>rw [zel l r hp] at h;cases h
 |some j =>
  obtain ⟨o,ho,_⟩:=zdt r l j hp;have e:=zfl l r j hp o ho;rw [e] at h;by_cases hk:o.kind=1
  ·rw [if_pos hk] at e;exact ⟨j,rfl,o,ho,hk,by unfold ptO;rw [e];rfl⟩
  ·rw [if_neg hk] at h;cases h
theorem zadx {w:World} {a:Option Addr} {n c:Nat} {l:List ObjD} (h:zbb w (.slice a n c) l) {o:ObjD} (ho:o∈l):∃b off,a=some ⟨b,off,none⟩∧∀(i:Nat) (o:ObjD),l[i]?=some o→zxo w b (off+i * 6) o:=by obtain ⟨a',cap,e,_,hc⟩:=h;injection e with e1 e2 e3;subst e1;exact hc (List.length_pos_of_mem ho)
theorem zabf {w:World} {base size n:Nat} {e:TypeId} {ao:Option Addr} {m c:Nat} {xs:List Value} (h:w.ownsRow base e size (.slice ao m c) n xs):n≤c:=by
 rcases h.2 with ⟨h1,h2⟩ | ⟨g,cap,cur,h1,_,_,h2,_⟩
 ·omega
 ·injection h1 with a b d;subst d;exact h2
theorem zzy (w:World) (cs:List Value) (t:TypeId) (j:Nat) (u:Value) (h:cs[j]?=some u):(w.alloc (.cells cs.toArray t)).cell? ((⟨w.heap.size,0,none⟩:Addr).add j)=some u:=zec w cs t j u h
theorem zyw (w:World) (o:Obj) {base size:Nat} {e:TypeId} (cur:Array Value) (cap:Nat) (hb:base≤w.heap.size) (hm:cap≤maxLen) (hs:cur.size=cap * size) :
  ((w.alloc o).alloc (.cells cur e)).ownsRow base e size (.slice (some ⟨w.heap.size+1,0,none⟩) 0 cap) 0 []:=by
 have:=World.ownsRow_made (w:=w.alloc o) (e:=e) (base:=base) (size:=size) cur cap (by rw [World.size_alloc];omega) hm hs;rwa [World.size_alloc] at this
set_option maxRecDepth 100000 in
set_option maxHeartbeats 8000000 in
theorem zalf (v vm:Value) (l:List ObjD) (acc:List (KeyD × List ByteArray)) (k:KeyD) (id:ByteArray) (base:Nat) (w:World) (hv:BrAt w base v l acc) (hm:zbb w vm l) (hok:zas l=true) (hk1:(zbi l k.1).isSome=true) (hk2:(zbi l k.2).isSome=true)
  (hn:acc.length≤100000) (ho:∀p∈acc,p.2.length≤100000) (hbase:base≤w.heap.size) (hid:id.size≤140737488355328) :
  Calls Tryz.prog 174 #[v,.agg #[vm],.agg #[.string k.1,.string k.2],.string id] w (zakm l acc k id base v w):=by
 have mixed:Tryz.prog.follows .mixedOrders=true:=by kernel_rfl
 obtain ⟨i0,hi,hi0,hi1,hi2⟩:=info_parts zara;obtain ⟨L,hown,hL1,hL2,hL3⟩:=hv;have HL1:=zH hL1;have HL2:=zH hL2;have HL3:=zH hL3;have HLN:=zH (zacf hL1);have HO:=zH ho;have HM:=zH hm;have HFD:=zH (fun (id:ByteArray) (W:World) (hb:Below w.heap.size w W)=>zqc vm l id W (hm.later hb) hok);have HK1:=zH hk1;have HK2:=zH hk2;have HOK:=zH hok;have HRW:=zH (RowE.of_own zgd rfl hown);have HOWN:=zH hown;obtain ⟨av,cv,rfl⟩:=zjy hown;obtain ⟨am,cm,rfl,_⟩:=hm;obtain ⟨n,hN⟩:∃n,L.length=n:=⟨_,rfl⟩;rw [hN] at HRW HOWN HLN HL3 ⊢;have hna:acc.length=n:=by rw [←HLN.out]
 have HN:=zH hN;rw [hna] at hn;have HNA:=zH hna;obtain ⟨k1,k2⟩:=k;simp only [] at HK1 HK2 ⊢;clear hL1 hL2 hL3 ho hk1 hk2 hok hown hN hna;go_enter Tryz.func174,Tryz.ntmps174
 go_upto_block 0 with fail
 generalize hw1:(w.alloc _).alloc _=w1;have BX:=gB2 hw1;have HA:=gA21 hw1;have HB:=gA22 hw1;have HA1:=zH HA;have HB1:=zH HB;have hz1:w.heap.size+2≤w1.heap.size:=by have:=zaf HB;omega
 clear hw1 HA HB;go_cut [9] from 12 to 48 (fun v9 wx=>∃i:Nat,v9=.int .i64 i∧zsx acc (k1,k2) i∧Below w1.heap.size w1 wx)
 case first =>
  go_wp2_with fail;go_loopw [9] (fun v9 wx=>∃i:Nat,v9=.int .i64 i∧i≤n∧zxn acc (k1,k2) i∧Below w1.heap.size w1 wx) (fun v9 _=>n - (intOf v9).toNat);case atStart=>exact ⟨0,rfl,by omega,(fun j p hj=>by omega),Below.refl _ _⟩
  case round =>
   obtain ⟨i,rfl,hin,hpre,hbr⟩:=hrel;have HPRE:=zH hpre;have HBr:=zH (zab hbr HB1.out);have BR:=zac BX (by omega) hbr;clear hpre;by_cases hlt:i<n;case neg =>
    obtain rfl:i=n:=(by omega);have HS:=zH (show zsx acc (k1,k2) i from ⟨by rw [HNA.out];exact Nat.le_refl _,HPRE.out,fun p hp=>by have:=(List.getElem?_eq_some_iff.1 hp).1;rw [HNA.out] at this;omega⟩);go_wp2_with fail;go_quiet (fail);go_wp2;go_meet;case rel=>exact ⟨i,rfl,HS.out,hbr.drewN'⟩
   obtain ⟨p,hp⟩:∃p,acc[i]?=some p:=⟨acc[i]'(by rw [HNA.out];exact hlt),List.getElem?_eq_getElem _⟩;obtain ⟨x,hx⟩:∃x,L[i]?=some x:=⟨L[i]'(by rw [HN.out];exact hlt),List.getElem?_eq_getElem _⟩;have hxp:x.1=p.1:=by have h:=congrArg (fun M=>M[i]?) HL1.out;simp only [List.getElem?_map,hx,hp,Option.map_some] at h;injection h
   obtain ⟨ao,co,hv,hc⟩:=HRW.out;injection hv with e1 e2 e3;subst e1;obtain ⟨b,off,hab,hcell⟩:=hc (by rw [HN.out];omega);subst hab;have d0':=cell_later BR (hcell i x hx 0 _ rfl);have d0:wr.cell? ⟨b,off+i * 7,none⟩=some (.string x.1.1):=d0';have d1:=cell_later BR (hcell i x hx 1 _ rfl);have bz:=zag d0;rw [hxp] at d0 d1;have HGT:=zH (fun (h:ltK p.1 (k1,k2)=true)=>zalp HPRE.out hp h);have HST:=zH (fun (h:ltK p.1 (k1,k2)=false)=>(show zsx acc (k1,k2) i from ⟨by rw [HNA.out];exact hin,HPRE.out,fun q hq=>by rw [hp] at hq;injection hq with hq;rw [←hq];exact h⟩));have HLK:=zH (show ltK p.1 (k1,k2)=(ltB p.1.1 k1 || (decide (p.1.1=k1) && ltB p.1.2 k2)) from rfl);obtain ⟨a1,ha1⟩:∃z,z=p.1.1:=⟨_,rfl⟩;obtain ⟨a2,ha2⟩:∃z,z=p.1.2:=⟨_,rfl⟩;rw [←ha1,←ha2] at HLK;rw [←ha1] at d0;rw [←ha2] at d1;obtain ⟨qz,q0,q1⟩:=rk2 HBr.out;clear hcell hc hp hx hxp d0' ha1 ha2 e2 e3;have hi0:(0:Int)≤(i:Int):=(by omega);have hi1:(i:Int)<(n:Int):=(by omega);cases l1:ltB a1 k1 with
   |true =>
    have HN':=zH (HGT.out (by rw [HLK.out,l1];rfl));have HN:=zH (show i+1≤n∧zxn acc (k1,k2) (i+1) from ⟨by omega,HN'.out⟩);have LQ:Op.bytesLess a1.toList k1.toList=true:=l1;clear l1;go_wp2_with fail;go_quiet (fail);go_wp2;go_roundw;case rel=>exact ⟨i+1,by go_num,HN.out.1,HN.out.2,hbr.drewN'⟩
    case measure=>simp [intOf];omega
   |false =>
    have LQ:Op.bytesLess a1.toList k1.toList=false:=l1;by_cases e4:a1=k1
    ·cases l2:ltB a2 k2 with
     |true =>
      have HN':=zH (HGT.out (by rw [HLK.out,l1,l2,decide_eq_true e4];rfl));have HN:=zH (show i+1≤n∧zxn acc (k1,k2) (i+1) from ⟨by omega,HN'.out⟩);have LR:Op.bytesLess a2.toList k2.toList=true:=l2;clear l1 l2;subst e4;go_wp2_with fail;go_quiet (fail);go_wp2;go_roundw;case rel=>exact ⟨i+1,by go_num,HN.out.1,HN.out.2,hbr.drewN'⟩
      case measure=>simp [intOf];omega
     |false =>have HS:=zH (HST.out (by rw [HLK.out,l1,l2];simp));have LR:Op.bytesLess a2.toList k2.toList=false:=l2;clear l1 l2;subst e4;go_wp2_with fail;go_quiet (fail);go_wp2;go_meet;case rel=>exact ⟨i,rfl,HS.out,hbr.drewN'⟩
    ·have HS:=zH (HST.out (by rw [HLK.out,l1,decide_eq_false e4];rfl));have n1:=zcj e4;clear l1;go_wp2_with fail;go_quiet (fail);go_wp2;go_meet;case rel=>exact ⟨i,rfl,HS.out,hbr.drewN'⟩
 case rest =>
  obtain ⟨i,rfl,hst,BQ⟩:=hcut;have HST:=zH hst;clear hst;obtain ⟨w2,rfl⟩:∃z:World,z=wc:=⟨_,rfl⟩;have B2:=zac BX (by omega) BQ;have hz2:=BQ.size;have HB2:=zH (zab BQ HB1.out);have HA2:=zH (zab BQ HA1.out);clear BQ;have hil:i≤n:=by have:=HST.out.1;rw [HNA.out] at this;exact this
  go_upto_region 4 with fail;go_cut [71] from 48 to 72 (fun v71 wx=>∃fnd:Bool,v71=.bool (!fnd)∧(fnd=true→∃p,acc[i]?=some p∧p.1=(k1,k2))∧(fnd=false→∀p,acc[i]?=some p→p.1≠(k1,k2))∧Below w2.heap.size w2 wx)
  case first =>
   by_cases hlt:i<n;case neg =>
    obtain rfl:i=n:=(by omega);have HS:=zH (show ∀p,acc[i]?=some p→p.1≠(k1,k2) from fun p hp=>by have:=(List.getElem?_eq_some_iff.1 hp).1;rw [HNA.out] at this;omega);go_wp2_with fail;go_quiet (fail);go_wp2;go_meet;case rel=>exact ⟨false,rfl,(fun h=>by cases h),fun _=>HS.out,(Below.refl _ _).drewN'⟩
   obtain ⟨p,hp⟩:∃p,acc[i]?=some p:=⟨acc[i]'(by rw [HNA.out];exact hlt),List.getElem?_eq_getElem _⟩;obtain ⟨x,hx⟩:∃x,L[i]?=some x:=⟨L[i]'(by rw [HN.out];exact hlt),List.getElem?_eq_getElem _⟩;have hxp:x.1=p.1:=by have h:=congrArg (fun M=>M[i]?) HL1.out;simp only [List.getElem?_map,hx,hp,Option.map_some] at h;injection h
   obtain ⟨ao,co,hv,hc⟩:=HRW.out;injection hv with e1 e2 e3;subst e1;obtain ⟨b,off,hab,hcell⟩:=hc (by rw [HN.out];omega);subst hab;have d0':=cell_later B2 (hcell i x hx 0 _ rfl);have d0:w2.cell? ⟨b,off+i * 7,none⟩=some (.string x.1.1):=d0';have d1:=cell_later B2 (hcell i x hx 1 _ rfl);have bz:=zag d0;rw [hxp] at d0 d1;have HP:=zH hp;obtain ⟨a1,ha1⟩:∃z,z=p.1.1:=⟨_,rfl⟩;obtain ⟨a2,ha2⟩:∃z,z=p.1.2:=⟨_,rfl⟩;have HPA:=zH (show p.1=(a1,a2) by rw [ha1,ha2]);rw [←ha1] at d0;rw [←ha2] at d1;obtain ⟨qz,q0,q1⟩:=rk2 HB2.out;clear hcell hc hp hx hxp d0' ha1 ha2 e2 e3;have hi0:(0:Int)≤(i:Int):=(by omega);have hi1:(i:Int)<(n:Int):=(by omega);have hi2:((i:Int)==(n:Int))=false:=beq_false_of_ne (by omega);have hi3:¬(i:Int)=(n:Int):=(by omega);by_cases e4:a1=k1
   ·by_cases e5:a2=k2
    ·have HF:=zH (show ∃p,acc[i]?=some p∧p.1=(k1,k2) from ⟨p,HP.out,by rw [HPA.out,e4,e5]⟩);clear HPA;subst e4 e5;go_wp2_with fail;go_quiet (fail);go_wp2;go_meet;case rel=>exact ⟨true,rfl,fun _=>HF.out,(fun h=>by cases h),(Below.refl _ _).drewN'⟩
    ·have HS:=zH (show ∀p,acc[i]?=some p→p.1≠(k1,k2) from fun q hq=>by rw [HP.out] at hq;injection hq with hq;rw [←hq,HPA.out];exact fun c=>e5 (by injection c))
     have n1:=zcj e5;clear HPA;subst e4;go_wp2_with fail;go_quiet (fail);go_wp2;go_meet;case rel=>exact ⟨false,rfl,(fun h=>by cases h),fun _=>HS.out,(Below.refl _ _).drewN'⟩
   ·have HS:=zH (show ∀p,acc[i]?=some p→p.1≠(k1,k2) from fun q hq=>by rw [HP.out] at hq;injection hq with hq;rw [←hq,HPA.out];exact fun c=>e4 (by injection c))
    have n1:=zcj e4;clear HPA;go_wp2_with fail;go_quiet (fail);go_wp2;go_meet;case rel=>exact ⟨false,rfl,(fun h=>by cases h),fun _=>HS.out,(Below.refl _ _).drewN'⟩
  case rest =>
   obtain ⟨fnd,rfl,hf1,hf2,BQ⟩:=hcut;obtain ⟨w3,rfl⟩:∃z:World,z=wc:=⟨_,rfl⟩;have B3:=zac B2 (by omega) BQ;have hz3:=BQ.size;replace HB2:=zH (zab BQ HB2.out);replace HA2:=zH (zab BQ HA2.out);have HF1:=zH hf1;have HF2:=zH hf2;clear BQ hf1 hf2;go_upto_if 71 with fail;go_cut [0] from 72 to 107 (fun v0 wx=>zacl l acc (k1,k2) id base (.slice av n cv) w i wx v0)
   case first =>
    cases fnd with
    |true =>
     obtain ⟨⟨pk,pids⟩,hp,hpk⟩:=HF1.out rfl;simp only [] at hpk;subst hpk;have HMID:=zH (show zacl l acc (k1,k2) id base (.slice av n cv) w i w3 (.slice av n cv) from
      ⟨L,acc,pids,by rw [HN.out];exact zaq HOWN.out B3,HL1.out,HL2.out,fun j x p hx hp=>(HL3.out j x p hx hp).on B3,hp,zaav HST.out.2.1 hp rfl,zov B3 _,Or.inl rfl,by omega,HO.out _ (zM hp)⟩)
     clear hp;go_wp2;go_meet;case rel=>exact HMID.out
    |false =>
     have HG:=zH (zaay (id:=id) HST.out.2.1 HST.out.1 (fun p hp=>⟨HST.out.2.2 p hp,HF2.out rfl p hp⟩));obtain ⟨j1,hj1,o1,ho1,hj1k,hj1q⟩:=zabi HK1.out;obtain ⟨j2,hj2,o2,ho2,hj2k,hj2q⟩:=zabi HK2.out;obtain ⟨b,off,hab,hcell⟩:=zadx HM.out (zM ho1);subst hab;have HC1:=zH (fun (W:World) (hb:Below w.heap.size w W)=>(hcell j1 o1 ho1).later hb);have HC2:=zH (fun (W:World) (hb:Below w.heap.size w W)=>(hcell j2 o2 ho2).later hb);have HX1:=zH (show idxO k1 l=(j1:Int) by unfold idxO;rw [hj1]);have HX2:=zH (show idxO k2 l=(j2:Int) by unfold idxO;rw [hj2]);have F1:=zH (fun (W:World) (hb:Below w.heap.size w W)=>HFD.out k1 W hb);have F2:=zH (fun (W:World) (hb:Below w.heap.size w W)=>HFD.out k2 W hb);rw [HX1.out] at F1;rw [HX2.out] at F2;have hl1:=(List.getElem?_eq_some_iff.1 ho1).1;have hl2:=(List.getElem?_eq_some_iff.1 ho2).1;have HSG:=zH (show segB l (k1,k2)=((o1.x,o1.y),(o2.x,o2.y)) by unfold segB;rw [hj1q,hj2q]);have jj1:(0:Int)≤(j1:Int):=(by omega);have jj2:(j1:Int)<(l.length:Int):=(by omega);have jj3:(0:Int)≤(j2:Int):=(by omega);have jj4:(j2:Int)<(l.length:Int):=(by omega);clear hj1 hj2 hj1q hj2q hj1k hj2k ho1 ho2 hcell;go_wp2_with fail;refine wp_region_mix 23 (fun W=>Below w3.heap.size w3 W) (fun W=>Below w3.heap.size w3 W) mixed (by kernel_rfl) (by kernel_rfl) (by kernel_rfl) (StableW.below _ _ zR) (fun W hW=>hW) (Below.refl _ _).drew ?_;apply Exists.intro;refine ⟨fun W hW=>?_,?_⟩
     ·have BW:=zac B3 zR hW;have HAh:=zH (zab hW HA2.out);have HBh:=zH (zab hW HB2.out);obtain ⟨xz,x0⟩:=rk1 HAh.out;have qx0:=zaa x0;clear x0;obtain ⟨yz,y0,y1⟩:=rk2 HBh.out;have qy0:=zaa y0;have qy1:=zaa y1;clear y0 y1;obtain ⟨vr1,vt1,-,-,c2,c3,-⟩:=HC1.out W BW;obtain ⟨vr2,vt2,-,-,d2,d3,-⟩:=HC2.out W BW;have f2:=zaa c2;have f3:=zaa c3;have g2:=zaa d2;have g3:=zaa d3;have fz:=zag c2;clear c2 c3 d2 d3;simp only [List.take_succ_cons,List.take_zero];iterate 10 (go_big_quiet_step ((go_at_call 119;exact zad (F1.out _ (zac BW zR (zam.below _))))))
      repeat (go_big_quiet_step ((go_at_call 119;exact zad (F2.out _ (zac BW zR (zam.below _))))))
      exact wpQuiet_nil rfl
     ·simp only [List.drop_succ_cons,List.drop_zero];refine tailM_step (ι:=Nat) (fun g=>.pointer (some ⟨g,0,none⟩)) (fun g W=>Below w3.heap.size w3 W∧W.heap[g]?=some (.cells #[.string ⟨#[]⟩,.string ⟨#[]⟩,.int .i64 0,.int .i64 0,.int .i64 0,.int .i64 0,.slice none 0 0] 175)∧w3.heap.size≤g) rfl (fun g=>(StableW.below _ _ zR).and ((StableW.row _ _).and (StableW.const _))) (fun _ _ h=>h.1) (fun W hS K hK=>?_) (fun g=>?_)
      ·go_simp;exact hK W.heap.size _ ⟨hS.alloc hS.size _,zan _ _,hS.size⟩
      simp only [Act.put,List.setIfInBounds_toArray,List.set_cons_succ,List.set_cons_zero];refine tailM_step (ι:=Unit) (fun _=>undef) (fun _ W=>Below w3.heap.size w3 W∧W.heap[g]?=some (.cells #[.string k1,.string k2,.int .i64 o1.x,.int .i64 o1.y,.int .i64 o2.x,.int .i64 o2.y,.slice none 0 0] 175)∧w3.heap.size≤g) rfl (fun _=>(StableW.below _ _ zR).and ((StableW.row _ _).and (StableW.const _))) (fun _ _ h=>h.1) (fun W hS K hK=>?_) (fun _=>?_)
      ·obtain ⟨hS1,hS2,hS3⟩:=hS;have HS2:=zH hS2;clear hS2;obtain ⟨ccz,cc0,cc1,cc2,cc3,cc4,cc5,cc6⟩:=rk7 HS2.out;have ccf0:=frozen_of_row W _ 0 _ _ HS2.out;have ccf1:=frozen_of_row W _ 1 _ _ HS2.out;have ccf2:=frozen_of_row W _ 2 _ _ HS2.out;have ccf3:=frozen_of_row W _ 3 _ _ HS2.out;have ccf4:=frozen_of_row W _ 4 _ _ HS2.out;have ccf5:=frozen_of_row W _ 5 _ _ HS2.out;have ccf6:=frozen_of_row W _ 6 _ _ HS2.out;have H1:=zH (zbf [.string k1,.string k2,.int .i64 o1.x,.int .i64 o1.y,.int .i64 o2.x,.int .i64 o2.y,.slice none 0 0] 0 W _ HS2.out);have H3:=zH (hS1.grown (zal (g:=g) [.string k1,.string k2,.int .i64 o1.x,.int .i64 o1.y,.int .i64 o2.x,.int .i64 o2.y,.slice none 0 0] 0 W) hS1.size (fun j hj=>by injection hj with hj;omega));simp only [World.setCells] at H1 H3;go_simp;exact hK () _ ⟨H3.out,H1.out,hS3⟩
      simp only [Act.put];refine tailM_nil fun W hW=>?_;obtain ⟨hW1,hW2,hW3⟩:=hW;have HNB:=zH hW2;clear hW2;obtain ⟨w5,rfl⟩:∃z:World,z=W:=⟨_,rfl⟩;go_wp2_with fail;have B5:=zac B3 zR hW1;obtain ⟨xz,x0,x1,x2,x3,x4,x5,x6⟩:=rk7 HNB.out;have R5:=HRW.out.later B5;have hcap:=zabf HOWN.out;have s1:(0:Int)≤(i:Int):=(by omega);have s2:(i:Int)≤(n:Int):=(by omega);have s3:(n:Int)≤(cv:Int):=(by omega);have s4:(i:Int)≤(cv:Int):=(by omega);have LT:((L.take i).flatMap zgx).length=i * 7:=(by rw [zbs zgx 7 zgd,List.length_take,HN.out,Nat.min_eq_left hil]);have LD:((L.drop i).flatMap zgx).length=(n - i) * 7:=(by rw [zbs zgx 7 zgd,List.length_drop,HN.out]);go_region_held3 (fun w'=>w'.cell? ⟨g,0,none⟩=some (.string k1)∧w'.cell? ⟨g,1,none⟩=some (.string k2)∧w'.cell? ⟨g,2,none⟩=some (.int .i64 o1.x)∧w'.cell? ⟨g,3,none⟩=some (.int .i64 o1.y)∧w'.cell? ⟨g,4,none⟩=some (.int .i64 o2.x)∧w'.cell? ⟨g,5,none⟩=some (.int .i64 o2.y)∧w'.cell? ⟨g,6,none⟩=some (.slice none 0 0)∧Below w5.heap.size w5 w')
       (first
        |exact ⟨x0,x1,x2,x3,x4,x5,x6,(Below.refl _ _).drew⟩
        |(have hq:=‹_∧_∧_∧_∧_∧_∧_∧Below w5.heap.size w5 _›;exact ⟨zer hq.1,zer hq.2.1,zer hq.2.2.1,zer hq.2.2.2.1,zer hq.2.2.2.2.1,zer hq.2.2.2.2.2.1,zer hq.2.2.2.2.2.2.1,hq.2.2.2.2.2.2.2.alloc hq.2.2.2.2.2.2.2.size _⟩)
        |(have hq:=‹_∧_∧_∧_∧_∧_∧_∧Below w5.heap.size w5 _›;have B:=hq.2.2.2.2.2.2.2.trans hbA;exact ⟨cell_later B x0,cell_later B x1,cell_later B x2,cell_later B x3,cell_later B x4,cell_later B x5,cell_later B x6,B⟩)
        |assumption)
       (first
        |(rw [if_pos (by rfl)];refine zcv _ (.tmp 95) (.tmp 98) 172 rfl w5.heap.size 175 i0 (.agg #[.string ⟨#[]⟩,.string ⟨#[]⟩,.int .i64 0,.int .i64 0,.int .i64 0,.int .i64 0,.slice none 0 0]) 7 88 Tryz.underlying172 hi hi0 hi1 hi2 rfl (by decide) _ 0 [] rfl (by first | exact World.ownsRow_made _ #[] 0 (by first | exact Nat.le_refl _ | exact (‹_∧_∧_∧_∧_∧_∧_∧Below w5.heap.size w5 _›).2.2.2.2.2.2.2.size | (simp;done) | (simp;omega)) (by decide) rfl | exact (World.ownsRow_made _ #[] 0 (by first | exact Nat.le_refl _ | exact (‹_∧_∧_∧_∧_∧_∧_∧Below w5.heap.size w5 _›).2.2.2.2.2.2.2.size | (simp;done) | (simp;omega)) (by decide) rfl).alloc _ | exact zyw _ _ #[] 0 zR (by decide) rfl) i ((L.take i).flatMap zgx) (zuz zgd (by decide) (R5.later (‹_∧_∧_∧_∧_∧_∧_∧Below w5.heap.size w5 _›).2.2.2.2.2.2.2) hil _) LT (zajz _) (by unfold maxLen;omega) (by omega) (by first | exact Nat.le_refl _ | exact (‹_∧_∧_∧_∧_∧_∧_∧Below w5.heap.size w5 _›).2.2.2.2.2.2.2.size | (simp;done) | (simp;omega)) ?_;intro v1 w1' hown1 hgrow1 hbA)
        |(rw [if_pos (by rfl)];refine zcv _ (.tmp 99) (.tmp 101) 172 rfl w5.heap.size 175 i0 (.agg #[.string ⟨#[]⟩,.string ⟨#[]⟩,.int .i64 0,.int .i64 0,.int .i64 0,.int .i64 0,.slice none 0 0]) 7 88 Tryz.underlying172 hi hi0 hi1 hi2 rfl (by decide) _ (0+i) ([]++(L.take i).flatMap zgx) rfl (by first | exact hown1 | exact hown1.alloc _) 1 (zgx ((k1,k2),((o1.x,o1.y),(o2.x,o2.y)),none,0,0)) (by first | exact ⟨some _,_,rfl,Or.inr ⟨_,rfl,zec _ _ _⟩⟩ | exact ⟨some _,_,rfl,Or.inr ⟨_,rfl,fun j u hu=>hgrow1.cell (zfs _ _ _ _ j u hu) (by rw [Addr.add_lit];show some (w5.heap.size+1)≠some w5.heap.size;simp)⟩⟩ | exact ⟨some _,_,rfl,Or.inr ⟨_,rfl,fun j u hu=>hgrow1.cell (zer (zzy _ _ _ j u hu)) (by rw [Addr.add_lit];show some w5.heap.size≠some (w5.heap.size+1);simp)⟩⟩) (zgd ((k1,k2),((o1.x,o1.y),(o2.x,o2.y)),none,0,0)) (zww ((k1,k2),((o1.x,o1.y),(o2.x,o2.y)),none,0,0)) (by unfold maxLen;omega) (by omega) (by first | exact Nat.le_refl _ | exact (‹_∧_∧_∧_∧_∧_∧_∧Below w5.heap.size w5 _›).2.2.2.2.2.2.2.size | (simp;done) | (simp;omega)) ?_;intro v2 w2' hown2 hgrow2 hbA)
        |(rw [if_pos (by rfl)];refine zcv _ (.tmp 102) (.tmp 105) 172 rfl w5.heap.size 175 i0 (.agg #[.string ⟨#[]⟩,.string ⟨#[]⟩,.int .i64 0,.int .i64 0,.int .i64 0,.int .i64 0,.slice none 0 0]) 7 88 Tryz.underlying172 hi hi0 hi1 hi2 rfl (by decide) _ (0+i+1) ([]++(L.take i).flatMap zgx++zgx ((k1,k2),((o1.x,o1.y),(o2.x,o2.y)),none,0,0)) rfl hown2 (n - i) ((L.drop i).flatMap zgx) (zva zgd (by decide) (R5.later (‹_∧_∧_∧_∧_∧_∧_∧Below w5.heap.size w5 _›).2.2.2.2.2.2.2) hil hcap) LD (zajz _) (by unfold maxLen;omega) (by omega) (by first | exact Nat.le_refl _ | exact (‹_∧_∧_∧_∧_∧_∧_∧Below w5.heap.size w5 _›).2.2.2.2.2.2.2.size | (simp;done) | (simp;omega)) ?_;intro v3 w4' hown3 hgrow3 hbA))
      all_goals (
       have B9:=zH (‹_∧_∧_∧_∧_∧_∧_∧Below w5.heap.size w5 _›).2.2.2.2.2.2.2
       have HO3:=zH hown3
       clear hown1 hown2 hown3 hgrow1 hgrow2 hgrow3 hbA
       have HMID:=zH (show zacl l acc (k1,k2) id base (.slice av n cv) w i w4' v3 from zaoo HL1.out HL2.out HL3.out HNA.out HN.out hil HSG.out HG.out hbase (B5.trans (B9.out.mono (by omega))) (HO3.out) (Nat.le_trans (by omega:w.heap.size≤w3.heap.size) hW1.size))
       clear HO3 B9
       go_wp2
       all_goals (
        go_meet
        case rel=>exact HMID.out))
   case rest =>
    obtain ⟨w6,rfl⟩:∃z:World,z=wc:=⟨_,rfl⟩;obtain ⟨L1,acc1,ids,q1,q2,q3,q4,q5,q6,q7,q8,q9,q10⟩:=hcut;have hml:=zacf q2;have hil1:i<L1.length:=(by rw [hml];exact (List.getElem?_eq_some_iff.1 q5).1);obtain ⟨x1,hx1⟩:∃x,L1[i]?=some x:=⟨L1[i]'hil1,List.getElem?_eq_getElem _⟩;have hOR:=q4 i x1 _ hx1 q5;have hk1:x1.1=(k1,k2):=by have h:=congrArg (fun M=>M[i]?) q2;simp only [List.getElem?_map,hx1,q5,Option.map_some] at h;injection h
    obtain ⟨xk,sg,sa,sn,sc⟩:=x1;simp only [] at hk1;subst hk1;obtain ⟨a1,c1,hv0⟩:=zjy q1;subst hv0;obtain ⟨m,hm⟩:∃m,m=L1.length:=⟨_,rfl⟩;rw [←hm] at q1 hil1 hml q4 hOR q8 ⊢;obtain ⟨g1,hg1⟩:∃g,a1=some ⟨g,0,none⟩:=by
     rcases q1.2 with ⟨h,h0⟩ | ⟨g,_,_,h,_⟩
     ·omega
     ·injection h with h;exact ⟨g,h⟩
    subst hg1;have O6:=zH q1;have Q2:=zH q2;have Q3:=zH q3;have Q4:=zH q4;have Q5:=zH q5;have Q6:=zH q6;have Q7:=zH q7;have Q8:=zH q8;have HMm:=zH hm;have HX1:=zH hx1;have HOR:=zH hOR;have hmb:m≤100001:=(by rw [hml];have:=HNA.out;omega);have hgl:=q1.lt g1 rfl;have hsr:=hOR.row;obtain ⟨ax,cx,hvx,hcx⟩:=RowE.of_own zgd hm q1;injection hvx with e1 e2 e3;obtain ⟨b1,off1,hb1,hcell⟩:=hcx (by rw [←hm];omega);rw [←e1] at hb1;injection hb1 with hb1;injection hb1 with e4 e5;subst e4 e5;have d6:w6.cell? ⟨g1,i * 7+6,none⟩=some (.slice sa sn sc):=by have:=hcell i _ hx1 6 _ rfl;rwa [Nat.zero_add] at this
    have dz:=zag d6;have hstr:=zH hsr;obtain ⟨as',cs',hsl,hil2,hiz,hic⟩:=hsr;injection hsl with f1 f2 f3;subst f1 f2 f3;have HIC:=zH hic;clear q2 q3 q4 q5 q6 q7 q8 hm hx1 hOR hcell hcx e1 e2 e3 hic;have t1:(0:Int)≤(i:Int):=(by omega);have t2:(i:Int)<(m:Int):=(by omega);have HML:=zH hml;obtain ⟨q,hq⟩:∃q,q=ids.length:=⟨_,rfl⟩;rw [←hq] at d6 hil2;have HQ:=zH hq;have HQB:=zH (show q≤100000 by rw [hq];exact q10);clear hml hq;go_upto_region 8 with fail;go_cut [127] from 113 to 128 (fun v127 wx=>v127=.bool (decide (ids.getLast?≠some id))∧wx=w6)
    case first =>
     by_cases h0:q=0
     ·have hnil:ids=[]:=List.length_eq_zero_iff.1 (by rw [←HQ.out];exact h0);have HD:=zH (show decide (ids.getLast?≠some id)=true by rw [hnil];simp);have e1:((q:Int)==0)=true:=(by rw [h0];rfl);clear hnil h0;go_wp2;go_meet;case rel=>exact ⟨by rw [HD.out]<;>rfl,rfl⟩
     ·obtain ⟨nn,hnn⟩:∃z,q=z+1:=⟨q - 1,by omega⟩;obtain ⟨ls,hls⟩:∃s,ids[nn]?=some s:=⟨ids[nn]'(by rw [←HQ.out];omega),List.getElem?_eq_getElem _⟩;have hgl:ids.getLast?=some ls:=(by rw [List.getLast?_eq_getElem?,←HQ.out,hnn,Nat.add_sub_cancel];exact hls);have HD:=zH (show decide (ids.getLast?≠some id)=decide (ls≠id) by rw [hgl];simp);obtain ⟨bs,os,hsb,hcs⟩:=HIC.out (by rw [←HQ.out];omega);subst hsb;have v0:=hcs nn ls hls;have vz:=zag v0;have hqb:=HQB.out;have wk:IntKind.i64.wrap ((q:Int) - 1)=(nn:Int):=(IntWalk.i64_in _ (by omega)).trans (by omega);have e1:((q:Int)==0)=false:=beq_false_of_ne (by omega);have e2:¬(q:Int)=0:=(by omega);have e4:(0:Int)≤(nn:Int):=(by omega);have e5:(nn:Int)<(q:Int):=(by omega);clear hcs hls hgl h0 hnn;by_cases e3:ls=id
      ·have HE:=zH (show decide (ids.getLast?≠some id)=false by rw [HD.out];simp [e3]);subst e3;go_wp2;go_meet;case rel=>exact ⟨by rw [HE.out]<;>rfl,rfl⟩
      ·have HE:=zH (show decide (ids.getLast?≠some id)=true by rw [HD.out];simp [e3]);have n1:=zcj e3;go_wp2;go_meet;case rel=>exact ⟨by rw [HE.out]<;>rfl,rfl⟩
    case rest =>
     obtain ⟨rfl,hw⟩:=hcut;rw [hw];clear hw;cases hdd:decide (ids.getLast?≠some id) with
     |false =>
      have HPP:=zH (show zakm l acc (k1,k2) id base (.slice av n cv) w (.returned (.slice (some ⟨g1,0,none⟩) m c1)) w6 from by
       have hl:ids.getLast?=some id:=by
        have h:=of_decide_eq_false hdd
        exact Classical.byContradiction h
       refine ⟨_,rfl,?_,Q7.out,Q8.out⟩
       rw [Q6.out,show zro ids id=ids from if_pos hl,zala Q5.out]
       exact ⟨L1,by rw [←HMm.out];exact O6.out,Q2.out,Q3.out,Q4.out⟩)
      clear hdd;go_wp2;go_ret;exact HPP.out
     |true =>
      have HAD:=zH (show zro ids id=ids++[id] from if_neg (of_decide_eq_true hdd));clear hdd;obtain ⟨i1,hj,hj0,hj1,hj2⟩:=info_parts zkv;have SRC:=zH (fun (W:World) (hb:Below w6.heap.size w6 W)=>(show znr W (.slice sa q sc) q (ids.map Value.string) by have h:=zaof (hstr.out.later hb) HQ.out;rwa [←HQ.out] at h));have HLQ:=zH (show (ids.map Value.string).length=q * 1 by rw [List.length_map,HQ.out,Nat.mul_one]);have hqb:=HQB.out;have B67:=(Below.refl w6.heap.size w6).alloc zR (.cells #[] 9);go_wp2_with (first
       |(at_builtin;refine zev rfl (.tmp 130) (.tmp 135) 31 rfl w6.heap.size 9 i1 (.string ⟨#[]⟩) 1 16 Tryz.underlying31 hj hj0 hj1 hj2 rfl (by decide) _ 0 [] rfl (World.ownsRow_made _ #[] 0 zR (by decide) rfl) q (ids.map Value.string) (SRC.out _ B67) HLQ.out (zakv ids) (by unfold maxLen;omega) (by omega) B67.size ?_;intro v7 w7 hown7 hgrow7 hbel7)
       |(at_builtin;refine zev rfl (.tmp 136) (.tmp 138) 31 rfl w6.heap.size 9 i1 (.string ⟨#[]⟩) 1 16 Tryz.underlying31 hj hj0 hj1 hj2 rfl (by decide) _ (0+q) ([]++ids.map Value.string) rfl (hown7.alloc _) 1 [.string id] ⟨some _,_,rfl,Or.inr ⟨_,rfl,zec _ _ _⟩⟩ rfl (by simp [Value.oneCell']) (by unfold maxLen;omega) (by omega) (by simp;have:=B67.size;have:=hbel7.size;omega) ?_;intro v8 w8 hown8 hgrow8 hbel8;have B68:=(B67.trans hbel7).trans (((Below.refl w6.heap.size w7).alloc (Nat.le_trans B67.size hbel7.size) _).trans hbel8);have O8:=zaq O6.out B68;have d68:=cell_later B68 d6;have d6z:=zag d68;obtain ⟨a8,c8,hv8⟩:=zjy hown8;subst hv8;have HOWN8:=zH hown8;have HB68:=zH B68;have HO8:=zH O8;obtain ⟨cu8,hh8⟩:=zaot O8;have f68:=frozen_of_row w8 _ (i * 7+6) _ _ hh8;clear hown7 hgrow7 hbel7 hown8 hgrow8 hbel8 B68 O8 hh8 d6 dz))
      refine bodyPost_ret (v:=.slice (some ⟨g1,0,none⟩) m c1) ?_ rfl ?_
      ·simp [results,Tryz.results174,go_sem]
      ·have hd:=zaln HO8.out HMm.out HX1.out Q2.out Q3.out Q4.out HB68.out hgl.2 (n8:=q+1) (c8:=c8) (a8:=a8) (ids:=ids) (id:=id) (by have h:=HOWN8.out;simpa using h) (by rw [List.length_append,HQ.out];rfl) (fun s hs=>by
        rcases List.mem_append.1 hs with hs | hs
        ·exact hiz s hs
        ·rw [List.mem_singleton.1 hs];exact hid) (by omega)
       refine ⟨_,rfl,?_,zagn Q7.out hd.2 ?_,Q8.out⟩
       ·rw [Q6.out,HAD.out];exact hd.1
       ·rcases Q8.out with h | h
        ·exact Or.inl h
        ·exact Or.inr (h g1 rfl)
end Go.Proofs.YtibpaaajghbkoaaGreat
