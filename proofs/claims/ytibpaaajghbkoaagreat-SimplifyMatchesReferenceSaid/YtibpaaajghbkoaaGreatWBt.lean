/-  -/
import Derived.Test.YtibpaaajghbkoaaGreatWBs
namespace Go.Proofs.YtibpaaajghbkoaaGreat
open Go.RowKit Go.Sort
theorem zajk (l:List ObjD) (p q:KeyD):ordR p q (segB l p) (segB l q) = !zdj l p q:=by
 unfold ordR zdj;by_cases h0:zav (segB l p) (segB l q)=0
 ·simp [h0]
 ·by_cases h1:zav (segB l p) (segB l q)=1
  ·simp [h1]
  ·simp [h0,h1]
def CkSt (l:List ObjD) (w4 W:World) (v:Value) (pre:List KeyD):Prop :=
 VOwn W w4.heap.size v (setK pre)∧(∀x∈pre,OrdP x∧x.1∈l.map (·.id)∧x.2∈l.map (·.id))∧Below w4.heap.size w4 W
theorem CkSt.on {l:List ObjD} {w4 W W':World} {v:Value} {pre:List KeyD} (h:CkSt l w4 W v pre) (hb:Below W.heap.size W W'):CkSt l w4 W' v pre:=⟨h.1.on hb,h.2.1,h.2.2.trans (hb.mono h.2.2.size)⟩
theorem CkSt.stable (l:List ObjD) (w4:World) (v:Value) (pre:List KeyD):StableW fun W=>CkSt l w4 W v pre:=fun _ _ h h2=>h.on h2
theorem StableW.str (v:Value) (ids:List ByteArray):StableW fun W=>zaj W v ids:=fun _ _ h h2=>h.later h2
theorem zakz {l:List ObjD} (hl:l.length≤1000) {pre:List KeyD} (h:∀x∈pre,OrdP x∧x.1∈l.map (·.id)∧x.2∈l.map (·.id)):(setK pre).length≤1000000000:=by have:=zmm.len (l:=l) (N:=setK pre) ⟨(zdm pre).nodup,fun key hk=>h key (zlp.1 hk)⟩;have h2:=Nat.mul_le_mul hl hl;omega
theorem zacc {l:List ObjD} (hl:l.length≤1000) {w4 W:World} {v:Value} {pre:List KeyD} (h:CkSt l w4 W v pre) {x y:ByteArray} (hx:x∈l.map (·.id)) (hy:y∈l.map (·.id)) {a:Option Addr} {m c:Nat} (hi:zaj W (.slice a m c) (idsK (key2 x y))) :
  Calls Tryz.prog 123 #[v,.agg #[.string ⟨#[]⟩,.int .i64 2,.slice a m c]] W fun e w'=>∃v',e=.returned v'∧CkSt l w4 w' v' (pre++[key2 x y])∧Below W.heap.size W w':=by
 refine (zalm v (setK pre) (key2 x y) a m c w4.heap.size W h.1 hi (fun z hz=>(h.2.1 z (zlp.1 hz)).1) (znd x y) (zakz hl h.2.1) h.2.2.size).mono ?_;rintro e w' ⟨v',he,hv,hb⟩;refine ⟨v',he,⟨by rw [zafy];exact hv,fun z hz=>?_,h.2.2.trans (hb.mono h.2.2.size)⟩,hb⟩;rcases List.mem_append.1 hz with hz | hz
 ·exact h.2.1 z hz
 ·rw [List.mem_singleton.1 hz];refine ⟨znd x y,?_⟩;rcases zhy x y with e | e<;>rw [e]
  ·exact ⟨hx,hy⟩
  ·exact ⟨hy,hx⟩
theorem zpb {w:World} {a:Option Addr} {n c:Nat} {ids:List ByteArray} (h:zaj w (.slice a n c) ids):n=ids.length∧n≤140737488355328∧(0<n→∃b off,a=some ⟨b,off,none⟩∧∀(i:Nat) (s:ByteArray),ids[i]?=some s→w.cell? ⟨b,off+i,none⟩=some (.string s)):=by obtain ⟨a',c',e,hl,_,hc⟩:=h;injection e with e1 e2 e3;subst e1 e2 e3;exact ⟨rfl,hl,hc⟩
theorem zagr {l:List ObjD} {p q:KeyD} {x:Nat} (h:0<x→zdj l p q=true) (hx:x=(ownF l l p).length∨zdj l p q=false):ownX l p q x=zyy l p q:=by
 unfold zyy;cases hc:zdj l p q with
 |true =>
  rcases hx with hx | hx
  ·rw [hx,if_pos rfl]
  ·rw [hc] at hx;cases hx
 |false =>
  have:x=0:=by
   rcases Nat.eq_zero_or_pos x with h0 | h0
   ·exact h0
   ·rw [h h0] at hc;cases hc
  subst this;rw [if_neg (by simp)];rfl
theorem zaal {W:World} {g:Nat} {t:TypeId} {u v:Value} (h:W.heap[g]?=some (.cells #[u,v] t)) {m:Nat} (hm:m<2):W.cell? ⟨g,m,none⟩=some (if m=0 then u else v):=by have:=cell_of_row W _ m _ _ _ h;rw [this];rcases (show m=0∨m=1 by omega) with rfl | rfl<;>rfl
theorem znh {W:World} {g:Nat} {t:TypeId} {a b c d:Value} (h:W.heap[g]?=some (.cells #[a,b,c,d] t)) {m:Nat} (hm:m<2):W.cell? ⟨g,m * 2,none⟩=some (if m=0 then a else c)∧W.cell? ⟨g,m * 2+1,none⟩=some (if m=0 then b else d):=by have h1:=cell_of_row W _ (m * 2) _ _ _ h;have h2:=cell_of_row W _ (m * 2+1) _ _ _ h;rw [h1,h2];rcases (show m=0∨m=1 by omega) with rfl | rfl<;>exact ⟨rfl,rfl⟩
set_option maxRecDepth 100000 in
set_option maxHeartbeats 8000000 in
theorem zagj (a:Option Addr) (n cap:Nat) (l:List ObjD) (w:World) (hok:zas l=true) (hl:l.length≤1000) (hz:∀x∈l,x.id.size≤140737488355328)
  (hrb:∀W,Below w.heap.size w W→Calls Tryz.prog 121 #[.agg #[.slice a n cap]] W fun e w'=>∃v',e=.returned v'∧zru w' v' l∧Below W.heap.size W w') :
  Calls Tryz.prog 67 #[.agg #[.slice a n cap]] w fun e w'=>∃v',e=.returned v'∧zkg w' v' (zdf l)∧Below w.heap.size w w':=by
 have mixed:Tryz.prog.follows .mixedOrders=true:=by kernel_rfl
 have RB:=zH hrb;have HKI:=zH (fun k (hk:k∈zau l)=>(show k.1∈l.map (·.id)∧k.2∈l.map (·.id) from ⟨zmb (zfg hk).1,zmb (zfg hk).2⟩));have HZO:=zH hz;have hkl:=zabs hok;have hkb:(zau l).length≤2000000000:=by omega
 have HL:=zH hl;clear hok hl hz hkl hrb;go_enter Tryz.func67,Tryz.ntmps67;go_wp2_with fail;have B1:Below w.heap.size w (w.alloc (.cells #[.slice a n cap] 24)):=(Below.refl _ _).alloc zR _;have hz1:w.heap.size<(w.alloc (.cells #[.slice a n cap] 24)).heap.size:=by simp
 refine (RB.out _ B1).mono ?_;rintro e w4 ⟨vB,rfl,hbs,hb⟩;have B4:=zac B1 (by omega) hb;have hz4:=B4.size;obtain ⟨ao,co,rfl,hc⟩:=zapz hbs;obtain ⟨N,hN⟩:∃N,(zau l).length=N:=⟨_,rfl⟩;rw [hN] at hc hkb ⊢;have HN:=zH hN;have HC:=zH hc;clear hb B1 hz1 hbs hc hN RB;go_wp2_with fail;go_loopw [3,5] (fun v3 v5 wr=>∃i:Nat,v5=.int .i64 i∧i≤N∧CkSt l w4 wr v3 (allN l i)) (fun _ v5 _=>N - (intOf v5).toNat);case atStart=>exact ⟨0,rfl,by omega,VOwn.nil _ _,(fun x hx=>by cases hx),Below.refl _ _⟩
 case round =>
  obtain ⟨i,rfl,hin,hck⟩:=hrel;have HCK:=zH hck;have B5:=zac B4 (by omega) hck.2.2;clear hck;by_cases hlt:i<N
  ·obtain ⟨p,hp⟩:∃p,(zau l)[i]?=some p:=⟨(zau l)[i]'(by rw [HN.out];exact hlt),List.getElem?_eq_getElem _⟩;obtain ⟨b,off,hab,hcell⟩:=HC.out (by omega);subst hab;have HCE:=zH hcell;obtain ⟨pa,pc,c0,c1,c2,c3,c4,c5,c6,hst⟩:=hcell i p hp;have HST:=zH hst;obtain ⟨pn,hpn⟩:∃z,z=(ownF l l p).length:=⟨_,rfl⟩;rw [←hpn] at c6 HST;have HPN:=zH hpn;have hpb:=(zpb HST.out).2.1;have HAT:=zH (zid hp);have HPI:=zH (HKI.out p (zM hp));have hi1:(0:Int)≤(i:Int):=(by omega);have hi2:(i:Int)<(N:Int):=(by omega);have HC0:=zH c0;have HC1:=zH c1;have HC2:=zH c2;have HC3:=zH c3;have HC4:=zH c4;have HC5:=zH c5;have HC6:=zH c6;clear hcell hp c0 c1 c2 c3 c4 c5 c6 hst hpn;go_wp2_with fail;obtain ⟨wo,rfl⟩:∃z:World,z=wr:=⟨_,rfl⟩;go_loopw [3,6] (fun v3 v6 wr=>∃k:Nat,v6=.int .i64 k∧k≤i∧CkSt l w4 wr v3 (allN l i++ownR l p k)) (fun _ v6 _=>i - (intOf v6).toNat);case atStart=>exact ⟨0,rfl,by omega,by simpa [ownR] using HCK.out⟩
   case round =>
    obtain ⟨k,rfl,hki,hck⟩:=hrel;have HCK2:=zH hck;have B6:=zac B4 (by omega) hck.2.2;clear hck;by_cases hlk:k<i
    ·obtain ⟨q,hq⟩:∃q,(zau l)[k]?=some q:=⟨(zau l)[k]'(by rw [HN.out];omega),List.getElem?_eq_getElem _⟩;obtain ⟨qa,qc,d0,d1,d2,d3,d4,d5,d6,hsq⟩:=HCE.out k q hq;have HSQ:=zH hsq;obtain ⟨qn,hqn⟩:∃z,z=(ownF l l q).length:=⟨_,rfl⟩;rw [←hqn] at d6 HSQ;have HQN:=zH hqn;have hqb:=(zpb HSQ.out).2.1;have HAQ:=zH (zid hq);have hk1:(0:Int)≤(k:Int):=(by omega);have hk2:(k:Int)<(N:Int):=(by omega);have HD0:=zH d0;have HD1:=zH d1;have HD2:=zH d2;have HD3:=zH d3;have HD4:=zH d4;have HD5:=zH d5;have HD6:=zH d6;have HLK:=zH hlk;clear hq d0 d1 d2 d3 d4 d5 d6 hsq hqn;obtain ⟨cr,hcr⟩:∃z,z=zdj l p q:=⟨_,rfl⟩;have RO:=zH (fun W=>zadj p q (segB l p) (segB l q) pa qa pn pc qn qc W);rw [zajk,←hcr] at RO;have HCR:=zH hcr;clear hcr;go_wp2_with fail;obtain ⟨wp,rfl⟩:∃z:World,z=wr:=⟨_,rfl⟩;go_loopw [3,7] (fun v3 v7 wr=>∃x:Nat,v7=.int .i64 x∧x≤pn∧(0<x→cr=true)∧CkSt l w4 wr v3 (allN l i++ownR l p k++ownX l p q x)) (fun _ v7 _=>pn - (intOf v7).toNat);case atStart=>exact ⟨0,rfl,by omega,(fun h=>by omega),by simpa [ownX] using HCK2.out⟩
     case round =>
      obtain ⟨x,rfl,hxn,hx0,hck⟩:=hrel;have HCK3:=zH hck;have HX0:=zH hx0;have hb7:=hck.2.2;have B7:=zac B4 (by omega) hb7;clear hck hx0;have q0:=zaa (cell_later hb7 HC0.out);have q1:=zaa (cell_later hb7 HC1.out);have q2:=zaa (cell_later hb7 HC2.out);have q3:=zaa (cell_later hb7 HC3.out);have q4:=zaa (cell_later hb7 HC4.out);have q5:=zaa (cell_later hb7 HC5.out);have q6:=zaa (cell_later hb7 HC6.out);have r0:=zaa (cell_later hb7 HD0.out);have r1:=zaa (cell_later hb7 HD1.out);have r2:=zaa (cell_later hb7 HD2.out);have r3:=zaa (cell_later hb7 HD3.out);have r4:=zaa (cell_later hb7 HD4.out);have r5:=zaa (cell_later hb7 HD5.out);have r6:=zaa (cell_later hb7 HD6.out);have bz:=zag (cell_later hb7 HC0.out);by_cases hlx:x<pn
      ·have hd:decide ((x:Int)<(pn:Int))=true:=decide_eq_true (by omega);have hd':(x:Int)<(pn:Int):=(by omega);have hx1:(0:Int)≤(x:Int):=(by omega);have HLX:=zH hlx;cases cr with
       |false =>
        have HE:=zH (zagr (l:=l) (p:=p) (q:=q) (x:=x) (fun h=>by rw [←HCR.out];exact HX0.out h) (Or.inr HCR.out.symm));have HRN:=zH (show CkSt l w4 wr u3 (allN l i++ownR l p (k+1)) by
         have h:=HCK3.out
         rw [HE.out] at h
         rw [show ownR l p (k+1)=ownR l p k++zyy l p q by unfold ownR;rw [ziz,HAQ.out],←List.append_assoc];exact h)
        go_wp2_with fail;refine zae mixed (by kernel_rfl) ?_;repeat (go_big_quiet_step ((go_at_call 122;exact zad (RO.out _))))
        refine wpQuiet_nil ?_;intro w8 hw';obtain ⟨⟨wq,hbq⟩,hw''⟩:=hw';subst hw'';clear q0 q1 q2 q3 q4 q5 q6 r0 r1 r2 r3 r4 r5 r6;go_wp2;go_roundw;case rel=>exact ⟨k+1,by go_num,by have:=HLK.out;omega,HRN.out.on hbq⟩
        case measure=>have:=HLK.out;simp [intOf];omega
       |true =>
        go_wp2_with fail;refine zae mixed (by kernel_rfl) ?_;repeat (go_big_quiet_step ((go_at_call 122;exact zad (RO.out _))))
        refine wpQuiet_nil ?_;intro w8 hw';obtain ⟨⟨wq,hbq⟩,hw''⟩:=hw';subst hw'';clear q0 q1 q2 q3 q4 q5 q6 r0 r1 r2 r3 r4 r5 r6;replace HCK3:=zH (HCK3.out.on hbq);clear hb7 B7 hbq bz;obtain ⟨ws,rfl⟩:∃z:World,z=w8:=⟨_,rfl⟩;obtain ⟨xo,hxo⟩:∃s,(ownF l l p)[x]?=some s:=⟨(ownF l l p)[x]'(by rw [←HPN.out];exact hlx),List.getElem?_eq_getElem _⟩;obtain ⟨bp,opp,hpa,hcp⟩:=(zpb HST.out).2.2 (by omega);subst hpa;have HCP:=zH (hcp x xo hxo);have HXI:=zH (ztm (zM hxo));have HOX:=zH (zags (q:=q) hxo);clear hcp hxo;go_wp2_with fail;go_loopw [3,8] (fun v3 v8 wr=>∃y:Nat,v8=.int .i64 y∧y≤qn∧CkSt l w4 wr v3 (allN l i++ownR l p k++ownX l p q x++((ownF l l q).take y).map fun z=>key2 xo z)) (fun _ v8 _=>qn - (intOf v8).toNat);case atStart=>exact ⟨0,rfl,by omega,by simpa using HCK3.out⟩
        case round =>
         obtain ⟨y,rfl,hyn,hck⟩:=hrel;have HCK4:=zH hck;have hb8:=hck.2.2;clear hck;have r6:=cell_later hb8 HD6.out;have rz:=zag r6;by_cases hly:y<qn
         ·obtain ⟨yo,hyo⟩:∃s,(ownF l l q)[y]?=some s:=⟨(ownF l l q)[y]'(by rw [←HQN.out];exact hly),List.getElem?_eq_getElem _⟩;obtain ⟨bq,oq,hqa,hcq⟩:=(zpb HSQ.out).2.2 (by omega);subst hqa;have HCQ:=zH (hcq y yo hyo);have HYI:=zH (ztm (zM hyo));have HPRE:=zH (show (allN l i++ownR l p k++ownX l p q x++((ownF l l q).take y).map fun z=>key2 xo z)++[key2 xo yo]=allN l i++ownR l p k++ownX l p q x++((ownF l l q).take (y+1)).map fun z=>key2 xo z by rw [List.take_add_one,hyo,List.map_append,←List.append_assoc];rfl)
          have hd2:decide ((y:Int)<(qn:Int))=true:=decide_eq_true (by omega);have hy2:(y:Int)<(qn:Int):=(by omega);have hy1:(0:Int)≤(y:Int):=(by omega);have HLY:=zH hly;clear hcq hyo;generalize (allN l i++ownR l p k++ownX l p q x++((ownF l l q).take y).map fun z=>key2 xo z)=pre at HCK4 HPRE;go_wp2_with fail;clear r6 rz;refine wp_region_mix 17 (fun W=>Below w4.heap.size w4 W) (fun W=>CkSt l w4 W u3 pre) mixed (by kernel_rfl) (by kernel_rfl) (by kernel_rfl) (CkSt.stable _ _ _ _) (fun W hW=>hW.2.2) (HCK4.out.on (Below.refl _ _).drew) ?_;apply Exists.intro;refine ⟨fun W hW=>?_,?_⟩
          ·have q6:=zaa (cell_later hW HC6.out);have r6:=zaa (cell_later hW HD6.out);have s6:=zaa (cell_later hW HCP.out);have t6:=zaa (cell_later hW HCQ.out);have bz:=zag (cell_later hW HC6.out);have bz1:=zag (cell_later hW HCP.out);have bz2:=zag (cell_later hW HCQ.out);simp only [List.take_succ_cons,List.take_zero];repeat (go_big_quiet_step (fail))
           exact wpQuiet_nil rfl
          ·simp only [List.drop_succ_cons,List.drop_zero];refine tailM_step (ι:=Nat × Nat) (fun g=>.agg #[.string ⟨#[]⟩,.int .i64 2,.slice (some ⟨g.1,0,none⟩) g.2 g.2]) (fun g W=>CkSt l w4 W u3 pre∧zaj W (.slice (some ⟨g.1,0,none⟩) g.2 g.2) (idsK (key2 xo yo))) rfl (fun _=>(CkSt.stable _ _ _ _).and (StableW.str _ _)) (fun _ _ h=>h.1.2.2) (fun W hS K hK=>?_) (fun g=>?_)
           ·go_simp;refine (zor xo yo W (zlr HZO.out HXI.out) (zlr HZO.out HYI.out)).mono ?_;rintro e w6 ⟨g,n,rfl,hst,hb⟩;exact hK (g,n) w6 ⟨hS.on hb,hst⟩
           simp only [Act.put,List.setIfInBounds_toArray,List.set_cons_succ,List.set_cons_zero];refine tailM_step (ι:=Value) (fun v=>v) (fun v' W=>CkSt l w4 W v' (pre++[key2 xo yo])) rfl (fun _=>CkSt.stable _ _ _ _) (fun _ _ h=>h.2.2) (fun W hS K hK=>?_) (fun v'=>?_)
           ·go_simp;refine (zacc HL.out hS.1 HXI.out HYI.out hS.2).mono ?_;rintro e w6 ⟨v6,rfl,hck6,_⟩;exact hK v6 w6 hck6
           simp only [Act.put,List.setIfInBounds_toArray,List.set_cons_succ,List.set_cons_zero];refine tailM_pure v' rfl (CkSt.stable _ _ _ _) (fun _ h=>h.2.2) (fun W hS K hK=>?_) (tailM_nil fun W hW=>?_)
           ·go_simp;exact hK
           rw [HPRE.out] at hW;have HW:=zH hW;clear hW;simp only [Act.put,List.setIfInBounds_toArray,List.set_cons_succ,List.set_cons_zero];have hly:=HLY.out;go_wp2;go_roundw;case rel=>exact ⟨y+1,by go_num,by omega,HW.out⟩
           case measure=>simp [intOf];omega
         ·obtain rfl:y=qn:=(by omega);have hd2:decide ((y:Int)<(y:Int))=false:=decide_eq_false (by omega);have hy2:¬(y:Int)<(y:Int):=(by omega);have HRN:=zH (show CkSt l w4 wr u3 (allN l i++ownR l p k++ownX l p q (x+1)) by
           have h:=HCK4.out
           rw [List.take_of_length_le (by rw [←HQN.out];exact Nat.le_refl _),List.append_assoc,←HOX.out] at h
           exact h)
          have hlx:=HLX.out;go_wp2;go_roundw;case rel=>exact ⟨x+1,by go_num,by omega,(fun _=>by simp),HRN.out⟩
          case measure=>simp [intOf];omega
      ·obtain rfl:x=pn:=(by omega);have hd:decide ((x:Int)<(x:Int))=false:=decide_eq_false (by omega);have hd':¬(x:Int)<(x:Int):=(by omega);have HE:=zH (zagr (l:=l) (p:=p) (q:=q) (x:=x) (fun h=>by rw [←HCR.out];exact HX0.out h) (Or.inl HPN.out));have HRN:=zH (show CkSt l w4 wr u3 (allN l i++ownR l p (k+1)) by
        have h:=HCK3.out
        rw [HE.out] at h
        rw [show ownR l p (k+1)=ownR l p k++zyy l p q by unfold ownR;rw [ziz,HAQ.out],←List.append_assoc];exact h)
       go_wp2_with fail;refine zae mixed (by kernel_rfl) ?_;repeat (go_big_quiet_step (fail))
       refine wpQuiet_nil ?_;intro w8 hw';obtain ⟨⟨wq,hbq⟩,hw''⟩:=hw';subst hw'';clear q0 q1 q2 q3 q4 q5 q6 r0 r1 r2 r3 r4 r5 r6;go_wp2;go_roundw;case rel=>exact ⟨k+1,by go_num,by have:=HLK.out;omega,HRN.out.on hbq⟩
       case measure=>have:=HLK.out;simp [intOf];omega
    ·obtain rfl:k=i:=(by omega);have hd:decide ((k:Int)<(k:Int))=false:=decide_eq_false (by omega);obtain ⟨wp,rfl⟩:∃z:World,z=wr:=⟨_,rfl⟩;go_wp2_with fail;go_loopw [3,9] (fun v3 v9 wr=>∃m:Nat,v9=.int .i64 m∧m≤k+1∧CkSt l w4 wr v3 (allN l k++ownR l p k++zqk l p m)) (fun _ v9 _=>k+1 - (intOf v9).toNat);case atStart=>exact ⟨0,rfl,by omega,by simpa [zqk] using HCK2.out⟩
     case round =>
      obtain ⟨m,rfl,hmk,hck⟩:=hrel;have HCK3:=zH hck;have hbwa:=hck.2.2;have hzwa:=hbwa.size;clear hck;by_cases hlm:m<k+1
      ·obtain ⟨q,hq⟩:∃q,(zau l)[m]?=some q:=⟨(zau l)[m]'(by rw [HN.out];omega),List.getElem?_eq_getElem _⟩;obtain ⟨qa,qc,d0,d1,d2,d3,d4,d5,_,_⟩:=HCE.out m q hq;have HAQ:=zH (zid hq);have HQI:=zH (HKI.out q (zM hq));have HD0:=zH d0;have HD1:=zH d1;have HD2:=zH d2;have HD3:=zH d3;have HD4:=zH d4;have HD5:=zH d5;have hm1:(0:Int)≤(m:Int):=(by omega);have hm2:(m:Int)<(N:Int):=(by omega);have hm3:(m:Int)≤(k:Int):=(by omega);have hm4:decide ((m:Int)≤(k:Int))=true:=decide_eq_true hm3;have HLM:=zH hlm;clear hq d0 d1 d2 d3 d4 d5;obtain ⟨wa,rfl⟩:∃z:World,z=wr:=⟨_,rfl⟩;go_wp2_with fail;refine wp_region_mix 10 (fun W=>Below w4.heap.size w4 W) (fun W=>Below wa.heap.size wa W) mixed (by kernel_rfl) (by kernel_rfl) (by kernel_rfl) (StableW.below _ _ zR) (fun W hW=>hbwa.trans (hW.mono hzwa)) (Below.refl _ _).drew ?_;apply Exists.intro;refine ⟨fun W hW=>?_,?_⟩
       ·have q0:=zaa (cell_later hW HC0.out);have q1:=zaa (cell_later hW HC1.out);have q2:=zaa (cell_later hW HC2.out);have q3:=zaa (cell_later hW HC3.out);have q4:=zaa (cell_later hW HC4.out);have q5:=zaa (cell_later hW HC5.out);have r0:=zaa (cell_later hW HD0.out);have r1:=zaa (cell_later hW HD1.out);have r2:=zaa (cell_later hW HD2.out);have r3:=zaa (cell_later hW HD3.out);have r4:=zaa (cell_later hW HD4.out);have r5:=zaa (cell_later hW HD5.out);have bz:=zag (cell_later hW HC0.out);simp only [List.take_succ_cons,List.take_zero];repeat (go_big_quiet_step (fail))
        exact wpQuiet_nil rfl
       simp only [List.drop_succ_cons,List.drop_zero];refine tailM_step (ι:=Nat) (fun g=>.slice (some ⟨g,0,none⟩) 2 2) (fun g W=>Below wa.heap.size wa W∧W.heap[g]?=some (.cells #[.string p.1,.string p.2] 9)) rfl (fun _=>(StableW.below _ _ zR).and (StableW.row _ _)) (fun _ W h=>hbwa.trans (h.1.mono hzwa)) (fun W hS K hK=>?_) (fun g1=>?_)
       ·go_simp;exact hK W.heap.size _ ⟨hS.alloc hS.size _,zan _ _⟩
       simp only [Act.put,List.setIfInBounds_toArray,List.set_cons_succ,List.set_cons_zero];refine tailM_pure (.slice (some ⟨g1,0,none⟩) 2 2) rfl ((StableW.below _ _ zR).and (StableW.row _ _)) (fun W h=>hbwa.trans (h.1.mono hzwa)) (fun W hS K hK=>?_) (tailM_nil fun W hW=>?_)
       ·go_simp;exact hK
       obtain ⟨hW1,hWG⟩:=hW;obtain ⟨wb,rfl⟩:∃z:World,z=W:=⟨_,rfl⟩;have hbwb:=hbwa.trans (hW1.mono hzwa);have hzwb:=hbwb.size;have Hg1:=zH hWG;have HBwb:=zH hW1;clear hWG hW1;simp only [Act.put,List.setIfInBounds_toArray,List.set_cons_succ,List.set_cons_zero];go_wp2_with fail;refine wp_region_mix 10 (fun W=>Below w4.heap.size w4 W) (fun W=>Below wb.heap.size wb W) mixed (by kernel_rfl) (by kernel_rfl) (by kernel_rfl) (StableW.below _ _ zR) (fun W hW=>hbwb.trans (hW.mono hzwb)) (Below.refl _ _).drew ?_;apply Exists.intro;refine ⟨fun W hW=>?_,?_⟩
       ·have q0:=zaa (cell_later hW HC0.out);have q1:=zaa (cell_later hW HC1.out);have q2:=zaa (cell_later hW HC2.out);have q3:=zaa (cell_later hW HC3.out);have q4:=zaa (cell_later hW HC4.out);have q5:=zaa (cell_later hW HC5.out);have r0:=zaa (cell_later hW HD0.out);have r1:=zaa (cell_later hW HD1.out);have r2:=zaa (cell_later hW HD2.out);have r3:=zaa (cell_later hW HD3.out);have r4:=zaa (cell_later hW HD4.out);have r5:=zaa (cell_later hW HD5.out);have bz:=zag (cell_later hW HC0.out);simp only [List.take_succ_cons,List.take_zero];repeat (go_big_quiet_step (fail))
        exact wpQuiet_nil rfl
       simp only [List.drop_succ_cons,List.drop_zero];refine tailM_step (ι:=Nat) (fun g=>.slice (some ⟨g,0,none⟩) 2 2) (fun g W=>Below wb.heap.size wb W∧W.heap[g]?=some (.cells #[.string q.1,.string q.2] 9)) rfl (fun _=>(StableW.below _ _ zR).and (StableW.row _ _)) (fun _ W h=>hbwb.trans (h.1.mono hzwb)) (fun W hS K hK=>?_) (fun g2=>?_)
       ·go_simp;exact hK W.heap.size _ ⟨hS.alloc hS.size _,zan _ _⟩
       simp only [Act.put,List.setIfInBounds_toArray,List.set_cons_succ,List.set_cons_zero];refine tailM_pure (.slice (some ⟨g2,0,none⟩) 2 2) rfl ((StableW.below _ _ zR).and (StableW.row _ _)) (fun W h=>hbwb.trans (h.1.mono hzwb)) (fun W hS K hK=>?_) (tailM_nil fun W hW=>?_)
       ·go_simp;exact hK
       obtain ⟨hW1,hWG⟩:=hW;obtain ⟨wd,rfl⟩:∃z:World,z=W:=⟨_,rfl⟩;have hbwd:=hbwb.trans (hW1.mono hzwb);have hzwd:=hbwd.size;have Hg2:=zH hWG;have HBwd:=zH hW1;clear hWG hW1;simp only [Act.put,List.setIfInBounds_toArray,List.set_cons_succ,List.set_cons_zero];go_wp2_with fail;refine wp_region_mix 10 (fun W=>Below w4.heap.size w4 W) (fun W=>Below wd.heap.size wd W) mixed (by kernel_rfl) (by kernel_rfl) (by kernel_rfl) (StableW.below _ _ zR) (fun W hW=>hbwd.trans (hW.mono hzwd)) (Below.refl _ _).drew ?_;apply Exists.intro;refine ⟨fun W hW=>?_,?_⟩
       ·have q0:=zaa (cell_later hW HC0.out);have q1:=zaa (cell_later hW HC1.out);have q2:=zaa (cell_later hW HC2.out);have q3:=zaa (cell_later hW HC3.out);have q4:=zaa (cell_later hW HC4.out);have q5:=zaa (cell_later hW HC5.out);have r0:=zaa (cell_later hW HD0.out);have r1:=zaa (cell_later hW HD1.out);have r2:=zaa (cell_later hW HD2.out);have r3:=zaa (cell_later hW HD3.out);have r4:=zaa (cell_later hW HD4.out);have r5:=zaa (cell_later hW HD5.out);have bz:=zag (cell_later hW HC0.out);simp only [List.take_succ_cons,List.take_zero];repeat (go_big_quiet_step (fail))
        exact wpQuiet_nil rfl
       simp only [List.drop_succ_cons,List.drop_zero];refine tailM_step (ι:=Nat) (fun g=>.slice (some ⟨g,0,none⟩) 2 2) (fun g W=>Below wd.heap.size wd W∧W.heap[g]?=some (.cells #[.int .i64 (segB l p).1.1,.int .i64 (segB l p).1.2,.int .i64 (segB l p).2.1,.int .i64 (segB l p).2.2] 33)) rfl (fun _=>(StableW.below _ _ zR).and (StableW.row _ _)) (fun _ W h=>hbwd.trans (h.1.mono hzwd)) (fun W hS K hK=>?_) (fun g3=>?_)
       ·go_simp;exact hK W.heap.size _ ⟨hS.alloc hS.size _,zan _ _⟩
       simp only [Act.put,List.setIfInBounds_toArray,List.set_cons_succ,List.set_cons_zero];refine tailM_pure (.slice (some ⟨g3,0,none⟩) 2 2) rfl ((StableW.below _ _ zR).and (StableW.row _ _)) (fun W h=>hbwd.trans (h.1.mono hzwd)) (fun W hS K hK=>?_) (tailM_nil fun W hW=>?_)
       ·go_simp;exact hK
       obtain ⟨hW1,hWG⟩:=hW;obtain ⟨wf,rfl⟩:∃z:World,z=W:=⟨_,rfl⟩;have hbwf:=hbwd.trans (hW1.mono hzwd);have hzwf:=hbwf.size;have Hg3:=zH hWG;have HBwf:=zH hW1;clear hWG hW1;simp only [Act.put,List.setIfInBounds_toArray,List.set_cons_succ,List.set_cons_zero];go_wp2_with fail;refine wp_region_mix 10 (fun W=>Below w4.heap.size w4 W) (fun W=>Below wf.heap.size wf W) mixed (by kernel_rfl) (by kernel_rfl) (by kernel_rfl) (StableW.below _ _ zR) (fun W hW=>hbwf.trans (hW.mono hzwf)) (Below.refl _ _).drew ?_;apply Exists.intro;refine ⟨fun W hW=>?_,?_⟩
       ·have q0:=zaa (cell_later hW HC0.out);have q1:=zaa (cell_later hW HC1.out);have q2:=zaa (cell_later hW HC2.out);have q3:=zaa (cell_later hW HC3.out);have q4:=zaa (cell_later hW HC4.out);have q5:=zaa (cell_later hW HC5.out);have r0:=zaa (cell_later hW HD0.out);have r1:=zaa (cell_later hW HD1.out);have r2:=zaa (cell_later hW HD2.out);have r3:=zaa (cell_later hW HD3.out);have r4:=zaa (cell_later hW HD4.out);have r5:=zaa (cell_later hW HD5.out);have bz:=zag (cell_later hW HC0.out);simp only [List.take_succ_cons,List.take_zero];repeat (go_big_quiet_step (fail))
        exact wpQuiet_nil rfl
       simp only [List.drop_succ_cons,List.drop_zero];refine tailM_step (ι:=Nat) (fun g=>.slice (some ⟨g,0,none⟩) 2 2) (fun g W=>Below wf.heap.size wf W∧W.heap[g]?=some (.cells #[.int .i64 (segB l q).1.1,.int .i64 (segB l q).1.2,.int .i64 (segB l q).2.1,.int .i64 (segB l q).2.2] 33)) rfl (fun _=>(StableW.below _ _ zR).and (StableW.row _ _)) (fun _ W h=>hbwf.trans (h.1.mono hzwf)) (fun W hS K hK=>?_) (fun g4=>?_)
       ·go_simp;exact hK W.heap.size _ ⟨hS.alloc hS.size _,zan _ _⟩
       simp only [Act.put,List.setIfInBounds_toArray,List.set_cons_succ,List.set_cons_zero];refine tailM_pure (.slice (some ⟨g4,0,none⟩) 2 2) rfl ((StableW.below _ _ zR).and (StableW.row _ _)) (fun W h=>hbwf.trans (h.1.mono hzwf)) (fun W hS K hK=>?_) (tailM_nil fun W hW=>?_)
       ·go_simp;exact hK
       obtain ⟨hW1,hWG⟩:=hW;obtain ⟨wg,rfl⟩:∃z:World,z=W:=⟨_,rfl⟩;have hbwg:=hbwf.trans (hW1.mono hzwf);have hzwg:=hbwg.size;have Hg4:=zH hWG;have HBwg:=zH hW1;clear hWG hW1;simp only [Act.put,List.setIfInBounds_toArray,List.set_cons_succ,List.set_cons_zero];replace Hg1:=zH (zab HBwg.out (zab HBwf.out (zab HBwd.out Hg1.out)));replace Hg2:=zH (zab HBwg.out (zab HBwf.out Hg2.out));replace Hg3:=zH (zab HBwg.out Hg3.out);replace HCK3:=zH ((((HCK3.out.on HBwb.out).on HBwd.out).on HBwf.out).on HBwg.out);have HNX:=zH (show allN l k++ownR l p k++zqk l p m++zje l p q 4=allN l k++ownR l p k++zqk l p (m+1) by rw [show zqk l p (m+1)=zqk l p m++zje l p q 4 by unfold zqk;rw [ziz,HAQ.out],←List.append_assoc])
       generalize allN l k++ownR l p k++zqk l p m=pre at HCK3 HNX;clear HBwb HBwd HBwf HBwg;go_wp2_with fail;go_loopw [3,14] (fun v3 v14 wr=>∃x:Nat,v14=.int .i64 x∧x≤4∧CkSt l w4 wr v3 (pre++zje l p q x)∧Below wg.heap.size wg wr) (fun _ v14 _=>4 - (intOf v14).toNat);case atStart=>exact ⟨0,rfl,by omega,by simpa [zje] using HCK3.out,Below.refl _ _⟩
       case round =>
        obtain ⟨x,rfl,hx4,hck,hbg⟩:=hrel;have HCK4:=zH hck;clear hck;by_cases hlx:x<4
        ·obtain ⟨mx,hmx⟩:∃z,z=x % 2:=⟨_,rfl⟩;obtain ⟨dx,hdx⟩:∃z,z=x / 2:=⟨_,rfl⟩;have mx2:mx<2:=(by omega);have dx2:dx<2:=(by omega);have tm:(x:Int).tmod 2=(mx:Int):=(by rw [Int.tmod_eq_emod_of_nonneg (by omega)];omega);have td:(x:Int).tdiv 2=(dx:Int):=(by rw [Int.tdiv_eq_ediv_of_nonneg (by omega)];omega);have mi0:(0:Int)≤(mx:Int):=(by omega);have mi1:(mx:Int)<2:=(by omega);have di0:(0:Int)≤(dx:Int):=(by omega);have di1:(dx:Int)<2:=(by omega);have xi1:(x:Int)<4:=(by omega);obtain ⟨ea,hea⟩:∃z,z=endA p x:=⟨_,rfl⟩;obtain ⟨eb,heb⟩:∃z,z=endB q x:=⟨_,rfl⟩;have HEA:=zH (show ea∈l.map (·.id) by rw [hea];unfold endA;split;exact HPI.out.1;exact HPI.out.2);have HEB:=zH (show eb∈l.map (·.id) by rw [heb];unfold endB;split;exact HQI.out.1;exact HQI.out.2);have CA:=zH (show wg.cell? ⟨g1,mx,none⟩=some (.string ea) by rw [zaal Hg1.out mx2,hea];unfold endA;rw [←hmx];split<;>rfl)
         have CB:=zH (show wg.cell? ⟨g2,dx,none⟩=some (.string eb) by rw [zaal Hg2.out dx2,heb];unfold endB;rw [←hdx];split<;>rfl)
         have CC0:=zH (show wg.cell? ⟨g3,mx * 2,none⟩=some (.int .i64 (ptO l ea).1) by rw [(znh Hg3.out mx2).1,hea];unfold endA;rw [←hmx];split<;>rfl)
         have CC1:=zH (show wg.cell? ⟨g3,mx * 2+1,none⟩=some (.int .i64 (ptO l ea).2) by rw [(znh Hg3.out mx2).2,hea];unfold endA;rw [←hmx];split<;>rfl)
         have CD0:=zH (show wg.cell? ⟨g4,dx * 2,none⟩=some (.int .i64 (ptO l eb).1) by rw [(znh Hg4.out dx2).1,heb];unfold endB;rw [←hdx];split<;>rfl)
         have CD1:=zH (show wg.cell? ⟨g4,dx * 2+1,none⟩=some (.int .i64 (ptO l eb).2) by rw [(znh Hg4.out dx2).2,heb];unfold endB;rw [←hdx];split<;>rfl)
         have HNT:=zH (show zje l p q (x+1)=zje l p q x++(if ea≠eb∧ptO l ea=ptO l eb then [key2 ea eb] else []) by rw [hea,heb];exact ziz _ _)
         generalize ptO l ea=pta at CC0 CC1 HNT;generalize ptO l eb=ptb at CD0 CD1 HNT;have HLX:=zH hlx;clear hmx hdx hea heb;go_upto_region 26 with fail;obtain ⟨wh,rfl⟩:∃z:World,z=wr:=⟨_,rfl⟩;go_cut [155] from 132 to 156 (fun v155 wx=>v155=.bool (decide (ea≠eb∧pta=ptb))∧Below wh.heap.size wh wx)
         case first =>
          have q0:=zaa (cell_later hbg CA.out);have q1:=zaa (cell_later hbg CB.out);have q2:=zaa (cell_later hbg CC0.out);have q3:=zaa (cell_later hbg CC1.out);have q4:=zaa (cell_later hbg CD0.out);have q5:=zaa (cell_later hbg CD1.out);have z0:=zag (cell_later hbg CA.out);have z1:=zag (cell_later hbg CB.out);have z2:=zag (cell_later hbg CC0.out);have z3:=zag (cell_later hbg CD0.out);have nq:=zdc pta ptb;by_cases e:ea=eb
          ·have HD:=zH (show decide (ea≠eb∧pta=ptb)=false from decide_eq_false fun h=>h.1 e);subst e;go_wp2_with fail;refine zae mixed (by kernel_rfl) ?_;repeat (go_big_quiet_step (fail))
           refine wpQuiet_nil ?_;intro w8 hw';obtain ⟨⟨wq,hbq⟩,hw''⟩:=hw';subst hw'';clear q0 q1 q2 q3 q4 q5;go_wp2;go_meet;case rel=>exact ⟨by rw [HD.out]<;>rfl,hbq⟩
          ·have n1:=zcj e;by_cases e2:pta=ptb
           ·have HD:=zH (show decide (ea≠eb∧pta=ptb)=true from decide_eq_true ⟨e,e2⟩);rw [decide_eq_true e2] at nq;clear e2;go_wp2_with fail;refine zae mixed (by kernel_rfl) ?_;repeat (go_big_quiet_step (fail))
            refine wpQuiet_nil ?_;intro w8 hw';obtain ⟨⟨wq,hbq⟩,hw''⟩:=hw';subst hw'';clear q0 q1 q2 q3 q4 q5;go_wp2;go_meet;case rel=>exact ⟨by rw [HD.out]<;>rfl,hbq⟩
           ·have HD:=zH (show decide (ea≠eb∧pta=ptb)=false from decide_eq_false fun h=>e2 h.2);rw [decide_eq_false e2] at nq;clear e2;go_wp2_with fail;refine zae mixed (by kernel_rfl) ?_;repeat (go_big_quiet_step (fail))
            refine wpQuiet_nil ?_;intro w8 hw';obtain ⟨⟨wq,hbq⟩,hw''⟩:=hw';subst hw'';clear q0 q1 q2 q3 q4 q5;go_wp2;go_meet;case rel=>exact ⟨by rw [HD.out]<;>rfl,hbq⟩
         case rest =>
          obtain ⟨rfl,hbc⟩:=hcut;obtain ⟨wi,rfl⟩:∃z:World,z=wc:=⟨_,rfl⟩;have HCKi:=zH (HCK4.out.on hbc);have hbi:=hbg.trans (hbc.mono hbg.size);clear hbc;cases hdd:decide (ea≠eb∧pta=ptb) with
          |false =>
           have HRN:=zH (show CkSt l w4 wi u3 (pre++zje l p q (x+1)) by rw [HNT.out,if_neg (of_decide_eq_false hdd),List.append_nil];exact HCKi.out)
           clear hdd;have hlx:=HLX.out;go_wp2;go_roundw;case rel=>exact ⟨x+1,by go_num,by omega,HRN.out,hbi⟩
           case measure=>simp [intOf];omega
          |true =>
           have HPRE:=zH (show pre++zje l p q x++[key2 ea eb]=pre++zje l p q (x+1) by rw [HNT.out,if_pos (of_decide_eq_true hdd),List.append_assoc])
           generalize pre++zje l p q x=prx at HCKi HPRE;clear hdd;go_wp2_with fail;refine wp_region_mix 11 (fun W=>Below wg.heap.size wg W) (fun W=>CkSt l w4 W u3 prx∧Below wg.heap.size wg W) mixed (by kernel_rfl) (by kernel_rfl) (by kernel_rfl) ((CkSt.stable _ _ _ _).and (StableW.below _ _ zR)) (fun W hW=>hW.2) ⟨HCKi.out.on (Below.refl _ _).drew,hbi.drew⟩ ?_;apply Exists.intro;refine ⟨fun W hW=>?_,?_⟩
           ·have q0:=zaa (cell_later hW CA.out);have q1:=zaa (cell_later hW CB.out);have z0:=zag (cell_later hW CA.out);have z1:=zag (cell_later hW CB.out);simp only [List.take_succ_cons,List.take_zero];repeat (go_big_quiet_step (fail))
            exact wpQuiet_nil rfl
           ·simp only [List.drop_succ_cons,List.drop_zero];refine tailM_step (ι:=Nat × Nat) (fun g=>.agg #[.string ⟨#[]⟩,.int .i64 2,.slice (some ⟨g.1,0,none⟩) g.2 g.2]) (fun g W=>(CkSt l w4 W u3 prx∧Below wg.heap.size wg W)∧zaj W (.slice (some ⟨g.1,0,none⟩) g.2 g.2) (idsK (key2 ea eb))) rfl (fun _=>((CkSt.stable _ _ _ _).and (StableW.below _ _ zR)).and (StableW.str _ _)) (fun _ _ h=>h.1.2) (fun W hS K hK=>?_) (fun g=>?_)
            ·go_simp;refine (zor ea eb W (zlr HZO.out HEA.out) (zlr HZO.out HEB.out)).mono ?_;rintro e w6 ⟨g,n,rfl,hst,hb⟩;exact hK (g,n) w6 ⟨⟨hS.1.on hb,hS.2.trans (hb.mono hS.2.size)⟩,hst⟩
            simp only [Act.put,List.setIfInBounds_toArray,List.set_cons_succ,List.set_cons_zero];refine tailM_step (ι:=Value) (fun v=>v) (fun v' W=>CkSt l w4 W v' (prx++[key2 ea eb])∧Below wg.heap.size wg W) rfl (fun _=>(CkSt.stable _ _ _ _).and (StableW.below _ _ zR)) (fun _ _ h=>h.2) (fun W hS K hK=>?_) (fun v'=>?_)
            ·go_simp;refine (zacc HL.out hS.1.1 HEA.out HEB.out hS.2).mono ?_;rintro e w6 ⟨v6,rfl,hck6,hb⟩;exact hK v6 w6 ⟨hck6,hS.1.2.trans (hb.mono hS.1.2.size)⟩
            simp only [Act.put,List.setIfInBounds_toArray,List.set_cons_succ,List.set_cons_zero];refine tailM_pure v' rfl ((CkSt.stable _ _ _ _).and (StableW.below _ _ zR)) (fun _ h=>h.2) (fun W hS K hK=>?_) (tailM_nil fun W hW=>?_)
            ·go_simp;exact hK
            rw [HPRE.out] at hW;have HW:=zH hW;clear hW;simp only [Act.put,List.setIfInBounds_toArray,List.set_cons_succ,List.set_cons_zero];have hlx:=HLX.out;go_wp2;go_roundw;case rel=>exact ⟨x+1,by go_num,by omega,HW.out.1,HW.out.2⟩
            case measure=>simp [intOf];omega
        ·obtain rfl:x=4:=(by omega);have HRN:=zH (show CkSt l w4 wr u3 (allN l k++ownR l p k++zqk l p (m+1)) by
          have h:=HCK4.out
          rw [HNX.out] at h;exact h)
         have hlm:=HLM.out;go_wp2;go_roundw;case rel=>exact ⟨m+1,by go_num,by omega,HRN.out⟩
         case measure=>simp [intOf];omega
      ·obtain rfl:m=k+1:=(by omega);have hm3:¬((k+1:Nat):Int)≤(k:Int):=(by omega);have hm4:decide (((k+1:Nat):Int)≤(k:Int))=false:=decide_eq_false hm3;have HRN:=zH (show CkSt l w4 wr u3 (allN l (k+1)) by
        have h:=HCK3.out
        rw [show allN l (k+1)=allN l k++zaaz l k from ziz _ _]
        unfold zaaz
        rw [HAT.out,←List.append_assoc];exact h)
       go_wp2;go_roundw;case rel=>exact ⟨k+1,by go_num,by omega,HRN.out⟩
       case measure=>simp [intOf];omega
  ·obtain rfl:i=N:=(by omega);have HF:=zH (show zkg wr u3 (zdf l) by
    have h:=HCK.out.1.vios
    rw [←HN.out,zaff] at h
    exact h)
   go_wp2;go_ret;exact ⟨_,rfl,HF.out,B5⟩
end Go.Proofs.YtibpaaajghbkoaaGreat
