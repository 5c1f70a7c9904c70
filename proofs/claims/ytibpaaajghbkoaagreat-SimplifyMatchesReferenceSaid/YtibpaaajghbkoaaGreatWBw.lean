/-       -/
import Derived.Test.YtibpaaajghbkoaaGreatWBl
import Derived.Test.YtibpaaajghbkoaaGreatWAm
import Derived.BigQuiet
import Derived.Test.YtibpaaajghbkoaaGreatWAl
import Derived.KernelRfl
import Derived.Test.YtibpaaajghbkoaaGreatWAb
import Derived.Test.YtibpaaajghbkoaaGreatRows
import Derived.Test.YtibpaaajghbkoaaGreatWAa
namespace Go.Proofs.YtibpaaajghbkoaaGreat
open Go.RowKit Go.Sort
theorem sfTg:Tryz.prog.stoodInHeld 74=false:=by kernel_rfl
theorem foTg:Tryz.prog.underlying 74=some (.struct (Tryz.prog.fieldsOf 74)):=by kernel_rfl
theorem zabx (a b:ByteArray) (w:World):(Op.equalIn 10000 74 (.agg #[.string a,.string b]) (.agg #[.string a,.string b])).run Tryz.prog w=.ok true w:=by rw [show (10000:Nat)=9999+1 from rfl,run_equalIn_struct _ _ _ _ _ foTg sfTg];simp [Program.fieldsOf,Tryz.underlying74,Op.eqFields,go_sem]
theorem zajf (x y:Int) (w:World):(Op.equalIn 10000 33 (.agg #[.int .i64 x,.int .i64 y]) (.agg #[.int .i64 x,.int .i64 y])).run Tryz.prog w=.ok true w:=by rw [show (10000:Nat)=9999+1 from rfl,run_equalIn_struct _ _ _ _ _ fo37 sf37];simp [Program.fieldsOf,Tryz.underlying33,Op.eqFields,go_sem]
abbrev obV (o:ObjD) (vr vt:Value):Value:=.agg #[.string o.id,.int .i64 o.kind,.int .i64 o.x,.int .i64 o.y,vr,vt]
set_option maxRecDepth 100000 in
set_option maxHeartbeats 4000000 in
theorem zadh (o:ObjD) (vr vt ur ut:Value) (w:World) (hr:zaj w vr o.refs) (ht:zba w vt o.tags) (gr:zaj w ur o.refs) (gt:zba w ut o.tags) :
  Calls Tryz.prog 31 #[obV o vr vt,obV o ur ut] w fun e w'=>e=.returned (.bool true)∧Below w.heap.size w w':=by
 have hpe:=fun W=>zajf o.x o.y W;obtain ⟨a1,c1,rfl,hn1,_,hc1⟩:=hr;obtain ⟨a2,c2,rfl,hn2,_,hc2⟩:=ht;obtain ⟨a3,c3,rfl,_,_,hc3⟩:=gr;obtain ⟨a4,c4,rfl,_,_,hc4⟩:=gt;obtain ⟨nr,hnr⟩:∃n,o.refs.length=n:=⟨_,rfl⟩;obtain ⟨nt,hnt⟩:∃n,o.tags.length=n:=⟨_,rfl⟩;rw [hnr] at hn1 hc1 hc3 ⊢;rw [hnt] at hn2 hc2 hc4 ⊢;have HNR:=zH hnr;have HNT:=zH hnt;have HC1:=zH hc1;have HC2:=zH hc2;have HC3:=zH hc3;have HC4:=zH hc4;clear hnr hnt hc1 hc2 hc3 hc4;go_enter Tryz.func31,Tryz.ntmps31;go_wp2_with fail;generalize hw1:(w.alloc _).alloc _=w1;have B1:=gB2 hw1;have H2:=gA21 hw1;have H3:=gA22 hw1;clear hw1;have H2:=zH H2;have H3:=zH H3;go_loopw [5] (fun i wr=>∃k:Nat,i=.int .i64 k∧k≤nr∧Below w.heap.size w wr∧wr.heap[w.heap.size]?=some (.cells #[.string o.id,.int .i64 o.kind,.int .i64 o.x,.int .i64 o.y,.slice a1 nr c1,.slice a2 nt c2] 36)∧wr.heap[w.heap.size+1]?=some (.cells #[.string o.id,.int .i64 o.kind,.int .i64 o.x,.int .i64 o.y,.slice a3 nr c3,.slice a4 nt c4] 36)) (fun i _=>nr - (intOf i).toNat);case atStart=>exact ⟨0,rfl,Nat.zero_le _,B1,H2.out,H3.out⟩
 case round =>
  obtain ⟨k,rfl,hk,hbr,h2,h3⟩:=hrel;have G2:=zH h2;have G3:=zH h3;clear h2 h3;by_cases hlt:k<nr
  ·obtain ⟨s,hs⟩:∃s,o.refs[k]?=some s:=⟨o.refs[k]'(by rw [HNR.out];exact hlt),List.getElem?_eq_getElem _⟩;obtain ⟨b1,f1,e1,q1⟩:=HC1.out (by omega);obtain ⟨b3,f3,e3,q3⟩:=HC3.out (by omega);subst e1 e3;have d0:=cell_later hbr (q1 k s hs);have d1:=cell_later hbr (q3 k s hs);clear q1 q3 hs;obtain ⟨xz,x0,x1,x2,x3,x4,x5⟩:=rk6 G2.out;obtain ⟨yz,y0,y1,y2,y3,y4,y5⟩:=rk6 G3.out;go_wp2_with fail;go_quiet (fail);clear x0 x1 x2 x3 x4 x5 xz;clear y0 y1 y2 y3 y4 y5 yz;have BQ:Below wr.heap.size wr (wr.drewN nq):=(Below.refl _ _).drewN';go_wp2;go_roundw;case rel=>exact ⟨k+1,by go_num,by omega,hbr.drewN',zab BQ G2.out,zab BQ G3.out⟩
   case measure=>simp [intOf];omega
  ·obtain rfl:k=nr:=(by omega);obtain ⟨wv,rfl⟩:∃z:World,z=wr:=⟨_,rfl⟩;obtain ⟨xz,x0,x1,x2,x3,x4,x5⟩:=rk6 G2.out;obtain ⟨yz,y0,y1,y2,y3,y4,y5⟩:=rk6 G3.out;go_wp2_with fail;clear x0 x1 x2 x3 x4 x5 xz;clear y0 y1 y2 y3 y4 y5 yz;go_loopw [6] (fun i wr=>∃j:Nat,i=.int .i64 j∧j≤nt∧Below w.heap.size w wr∧wr.heap[w.heap.size]?=some (.cells #[.string o.id,.int .i64 o.kind,.int .i64 o.x,.int .i64 o.y,.slice a1 k c1,.slice a2 nt c2] 36)∧wr.heap[w.heap.size+1]?=some (.cells #[.string o.id,.int .i64 o.kind,.int .i64 o.x,.int .i64 o.y,.slice a3 k c3,.slice a4 nt c4] 36)) (fun i _=>nt - (intOf i).toNat);case atStart=>exact ⟨0,rfl,Nat.zero_le _,hbr,G2.out,G3.out⟩
   case round =>
    obtain ⟨j,rfl,hj,hbr2,h2,h3⟩:=hrel;have G2:=zH h2;have G3:=zH h3;clear h2 h3;by_cases hlt2:j<nt
    ·obtain ⟨t,ht⟩:∃t,o.tags[j]?=some t:=⟨o.tags[j]'(by rw [HNT.out];exact hlt2),List.getElem?_eq_getElem _⟩;obtain ⟨b2,f2,e2,q2⟩:=HC2.out (by omega);obtain ⟨b4,f4,e4,q4⟩:=HC4.out (by omega);subst e2 e4;have d0:=cell_later hbr2 (q2 j t ht).1;have d1:=cell_later hbr2 (q2 j t ht).2;have d2:=cell_later hbr2 (q4 j t ht).1;have d3:=cell_later hbr2 (q4 j t ht).2;have hte:=fun W=>zabx t.key t.val W;clear q2 q4 ht;obtain ⟨xz,x0,x1,x2,x3,x4,x5⟩:=rk6 G2.out;obtain ⟨yz,y0,y1,y2,y3,y4,y5⟩:=rk6 G3.out;go_wp2_with fail;go_quiet (fail);clear x0 x1 x2 x3 x4 x5 xz;clear y0 y1 y2 y3 y4 y5 yz;have BQ:Below wr.heap.size wr (wr.drewN nq):=(Below.refl _ _).drewN';go_wp2;go_roundw;case rel=>exact ⟨j+1,by go_num,by omega,hbr2.drewN',zab BQ G2.out,zab BQ G3.out⟩
     case measure=>simp [intOf];omega
    ·obtain rfl:j=nt:=(by omega);obtain ⟨xz,x0,x1,x2,x3,x4,x5⟩:=rk6 G2.out;obtain ⟨yz,y0,y1,y2,y3,y4,y5⟩:=rk6 G3.out;go_wp2;go_ret;exact ⟨rfl,hbr2⟩
end Go.Proofs.YtibpaaajghbkoaaGreat

namespace Go.Proofs.YtibpaaajghbkoaaGreat
open Go.RowKit Go.Sort
set_option maxRecDepth 100000 in
set_option maxHeartbeats 2000000 in
theorem zadi (v u:Value) (l:List ObjD) (w:World) (hv:zbb w v l) (hu:zbb w u l) :
  Calls Tryz.prog 11 #[.agg #[v],.agg #[u]] w fun e w'=>e=.returned (.bool true)∧Below w.heap.size w w':=by
 have mixed:Tryz.prog.follows .mixedOrders=true:=by kernel_rfl
 obtain ⟨a1,c1,rfl,hn1,hc1⟩:=hv;obtain ⟨a2,c2,rfl,hn2,hc2⟩:=hu;obtain ⟨N,hN⟩:∃N,l.length=N:=⟨_,rfl⟩;rw [hN] at hn1 hc1 hc2 ⊢;have HN:=zH hN;have HC1:=zH hc1;have HC2:=zH hc2;clear hN hc1 hc2 hn2;go_enter Tryz.func11,Tryz.ntmps11;go_wp2_with fail;generalize hw1:(w.alloc _).alloc _=w1;have B1:=gB2 hw1;have H2:=gA21 hw1;have H3:=gA22 hw1;clear hw1;have H2:=zH H2;have H3:=zH H3;go_loopw [5] (fun i wr=>∃k:Nat,i=.int .i64 k∧k≤N∧Below w.heap.size w wr∧wr.heap[w.heap.size]?=some (.cells #[.slice a1 N c1] 24)∧wr.heap[w.heap.size+1]?=some (.cells #[.slice a2 N c2] 24)) (fun i _=>N - (intOf i).toNat);case atStart=>exact ⟨0,rfl,Nat.zero_le _,B1,H2.out,H3.out⟩
 case round =>
  obtain ⟨wq,rfl⟩:∃z:World,z=wr:=⟨_,rfl⟩;obtain ⟨k,rfl,hk,hbr,h2,h3⟩:=hrel;have G2:=zH h2;have G3:=zH h3;clear h2 h3;by_cases hlt:k<N
  ·obtain ⟨o,ho⟩:∃o,l[k]?=some o:=⟨l[k]'(by rw [HN.out];exact hlt),List.getElem?_eq_getElem _⟩;obtain ⟨b1,f1,e1,q1⟩:=HC1.out (by omega);obtain ⟨b2,f2,e2,q2⟩:=HC2.out (by omega);subst e1 e2;obtain ⟨vr,vt,x0,x1,x2,x3,x4,x5,hr1,ht1,_⟩:=(q1 k o ho).later hbr;obtain ⟨ur,ut,y0,y1,y2,y3,y4,y5,hr2,ht2,_⟩:=(q2 k o ho).later hbr;have RS:=zH (fun W (hb:Below wq.heap.size wq W)=>zadh o vr vt ur ut W (hr1.later hb) (ht1.later hb) (hr2.later hb) (ht2.later hb));obtain ⟨p1,pc1,ev1,_⟩:=hr1;obtain ⟨p2,pc2,ev2,_⟩:=ht1;obtain ⟨p3,pc3,ev3,_⟩:=hr2;obtain ⟨p4,pc4,ev4,_⟩:=ht2;subst ev1 ev2 ev3 ev4;have bz1:=zag x0;have bz2:=zag y0;clear q1 q2 ho;have zz:=zaf G2.out;have zz3:=zaf G3.out;have m0:=cell_of_row wq _ 0 _ _ _ G2.out;have m1:=cell_of_row wq _ 0 _ _ _ G3.out;simp only [List.getElem?_toArray,List.getElem?_cons_zero] at m0 m1;go_wp2_with fail;have q0:=zaa x0;have q1:=zaa x1;have q2:=zaa x2;have q3:=zaa x3;have q4:=zaa x4;have q5:=zaa x5;have r0:=zaa y0;have r1:=zaa y1;have r2:=zaa y2;have r3:=zaa y3;have r4:=zaa y4;have r5:=zaa y5;have n0:=zaa m0;have n1:=zaa m1;clear x0 x1 x2 x3 x4 x5 y0 y1 y2 y3 y4 y5 m0 m1;refine zae mixed (by kernel_rfl) ?_;repeat (go_big_quiet_step ((go_at_call 31;exact zad (RS.out _ (zam.below _)))))
   refine wpQuiet_nil ?_;intro w8 hw';obtain ⟨⟨wz,hbq⟩,hw''⟩:=hw';subst hw'';clear q0 q1 q2 q3 q4 q5 r0 r1 r2 r3 r4 r5 n0 n1;have B8:=zH (hbr.trans (hbq.mono hbr.size));have G2:=zH (zab hbq G2.out);have G3:=zH (zab hbq G3.out);clear hbq;go_wp2;go_roundw;case rel=>exact ⟨k+1,by go_num,by omega,B8.out,G2.out,G3.out⟩
   case measure=>simp [intOf];omega
  ·obtain rfl:k=N:=(by omega);obtain ⟨mz,m0⟩:=rk1 G2.out;go_wp2;go_ret;exact ⟨rfl,hbr⟩
set_option maxHeartbeats 1000000 in
theorem zaeo (v u:Value) (l:List ByteArray) (w:World) (hv:zaj w v l) (hu:zaj w u l) :
  Calls Tryz.prog 41 #[v,u] w fun e w'=>e=.returned (.bool true)∧Below w.heap.size w w':=by
 obtain ⟨a1,c1,rfl,hn1,_,hc1⟩:=hv;obtain ⟨a2,c2,rfl,_,_,hc2⟩:=hu;obtain ⟨N,hN⟩:∃N,l.length=N:=⟨_,rfl⟩;rw [hN] at hn1 hc1 hc2 ⊢;have HN:=zH hN;have HC1:=zH hc1;have HC2:=zH hc2;clear hN hc1 hc2;go_enter Tryz.func41,Tryz.ntmps41;go_wp2_with fail;go_loopw [13] (fun i wr=>∃k:Nat,i=.int .i64 k∧k≤N∧Below w.heap.size w wr) (fun i _=>N - (intOf i).toNat);case atStart=>exact ⟨0,rfl,Nat.zero_le _,Below.refl _ _⟩
 case round =>
  obtain ⟨k,rfl,hk,hbr⟩:=hrel;by_cases hlt:k<N
  ·obtain ⟨s,hs⟩:∃s,l[k]?=some s:=⟨l[k]'(by rw [HN.out];exact hlt),List.getElem?_eq_getElem _⟩;obtain ⟨b1,f1,e1,q1⟩:=HC1.out (by omega);obtain ⟨b2,f2,e2,q2⟩:=HC2.out (by omega);subst e1 e2;have d0:=cell_later hbr (q1 k s hs);have d1:=cell_later hbr (q2 k s hs);clear q1 q2 hs;go_wp2_with fail;go_quiet (fail);go_wp2;go_roundw;case rel=>exact ⟨k+1,by go_num,by omega,hbr.drewN'⟩
   case measure=>simp [intOf];omega
  ·obtain rfl:k=N:=(by omega);go_wp2;go_ret;exact ⟨rfl,hbr⟩
set_option maxHeartbeats 1000000 in
theorem zadg (v u:Value) (l:List ByteArray) (w:World) (hv:zaj w v l) (hu:zaj w u l) :
  Calls Tryz.prog 28 #[v,u] w fun e w'=>e=.returned (.bool true)∧Below w.heap.size w w':=by
 obtain ⟨a1,c1,rfl,hn1,_,hc1⟩:=hv;obtain ⟨a2,c2,rfl,_,_,hc2⟩:=hu;obtain ⟨N,hN⟩:∃N,l.length=N:=⟨_,rfl⟩;rw [hN] at hn1 hc1 hc2 ⊢;have HN:=zH hN;have HC1:=zH hc1;have HC2:=zH hc2;clear hN hc1 hc2;go_enter Tryz.func28,Tryz.ntmps28;go_wp2_with fail;go_loopw [5] (fun i wr=>∃k:Nat,i=.int .i64 k∧k≤N∧Below w.heap.size w wr) (fun i _=>N - (intOf i).toNat);case atStart=>exact ⟨0,rfl,Nat.zero_le _,Below.refl _ _⟩
 case round =>
  obtain ⟨k,rfl,hk,hbr⟩:=hrel;by_cases hlt:k<N
  ·obtain ⟨s,hs⟩:∃s,l[k]?=some s:=⟨l[k]'(by rw [HN.out];exact hlt),List.getElem?_eq_getElem _⟩;obtain ⟨b1,f1,e1,q1⟩:=HC1.out (by omega);obtain ⟨b2,f2,e2,q2⟩:=HC2.out (by omega);subst e1 e2;have d0:=cell_later hbr (q1 k s hs);have d1:=cell_later hbr (q2 k s hs);clear q1 q2 hs;go_wp2_with fail;go_quiet (fail);go_wp2;go_roundw;case rel=>exact ⟨k+1,by go_num,by omega,hbr.drewN'⟩
   case measure=>simp [intOf];omega
  ·obtain rfl:k=N:=(by omega);go_wp2;go_ret;exact ⟨rfl,hbr⟩
set_option maxHeartbeats 1000000 in
theorem zaen (v u:Value) (l:List TagD) (w:World) (hv:zba w v l) (hu:zba w u l) :
  Calls Tryz.prog 42 #[v,u] w fun e w'=>e=.returned (.bool true)∧Below w.heap.size w w':=by
 obtain ⟨a1,c1,rfl,hn1,_,hc1⟩:=hv;obtain ⟨a2,c2,rfl,_,_,hc2⟩:=hu;obtain ⟨N,hN⟩:∃N,l.length=N:=⟨_,rfl⟩;rw [hN] at hn1 hc1 hc2 ⊢;have HN:=zH hN;have HC1:=zH hc1;have HC2:=zH hc2;clear hN hc1 hc2;go_enter Tryz.func42,Tryz.ntmps42;go_wp2_with fail;go_loopw [13] (fun i wr=>∃k:Nat,i=.int .i64 k∧k≤N∧Below w.heap.size w wr) (fun i _=>N - (intOf i).toNat);case atStart=>exact ⟨0,rfl,Nat.zero_le _,Below.refl _ _⟩
 case round =>
  obtain ⟨k,rfl,hk,hbr⟩:=hrel;by_cases hlt:k<N
  ·obtain ⟨t,ht⟩:∃t,l[k]?=some t:=⟨l[k]'(by rw [HN.out];exact hlt),List.getElem?_eq_getElem _⟩;obtain ⟨b1,f1,e1,q1⟩:=HC1.out (by omega);obtain ⟨b2,f2,e2,q2⟩:=HC2.out (by omega);subst e1 e2;have d0:=cell_later hbr (q1 k t ht).1;have d1:=cell_later hbr (q1 k t ht).2;have d2:=cell_later hbr (q2 k t ht).1;have d3:=cell_later hbr (q2 k t ht).2;have hte:=fun W=>zabx t.key t.val W;clear q1 q2 ht;go_wp2_with fail;go_quiet (fail);go_wp2;go_roundw;case rel=>exact ⟨k+1,by go_num,by omega,hbr.drewN'⟩
   case measure=>simp [intOf];omega
  ·obtain rfl:k=N:=(by omega);go_wp2;go_ret;exact ⟨rfl,hbr⟩
end Go.Proofs.YtibpaaajghbkoaaGreat

namespace Go.Proofs.YtibpaaajghbkoaaGreat
open Go.RowKit Go.Sort
set_option maxRecDepth 100000 in
set_option maxHeartbeats 2000000 in
theorem zafz (o:ObjD) (vr vt ur ut:Value) (w:World) (hr:zaj w vr o.refs) (ht:zba w vt o.tags) (gr:zaj w ur o.refs) (gt:zba w ut o.tags) :
  Calls Tryz.prog 20 #[obV o vr vt,obV o ur ut] w fun e w'=>e=.returned (.bool true)∧Below w.heap.size w w':=by
 have hpe:=fun W=>zajf o.x o.y W;have ES:=zH (fun W (hb:Below w.heap.size w W)=>zaeo vr ur o.refs W (hr.later hb) (gr.later hb));have ET:=zH (fun W (hb:Below w.heap.size w W)=>zaen vt ut o.tags W (ht.later hb) (gt.later hb));obtain ⟨a1,c1,rfl,_⟩:=hr;obtain ⟨a2,c2,rfl,_⟩:=ht;obtain ⟨a3,c3,rfl,_⟩:=gr;obtain ⟨a4,c4,rfl,_⟩:=gt;go_enter Tryz.func20,Tryz.ntmps20;go_wp2_with fail;generalize hw1:(w.alloc _).alloc _=w1;have B1:=gB2 hw1;have H2:=gA21 hw1;have H3:=gA22 hw1;clear hw1;refine (ES.out _ B1).mono ?_;rintro e w2 ⟨rfl,hb⟩;have B2:=zac B1 zR hb;have H2:=zH (zab hb H2);have H3:=zH (zab hb H3);clear hb B1 ES;obtain ⟨xz,x0,x1,x2,x3,x4,x5⟩:=rk6 H2.out;obtain ⟨yz,y0,y1,y2,y3,y4,y5⟩:=rk6 H3.out;go_wp2_with fail;refine (ET.out _ B2).mono ?_;rintro e w3 ⟨rfl,hb⟩;have B3:=zac B2 zR hb;clear x0 x1 x2 x3 x4 x5 xz;clear y0 y1 y2 y3 y4 y5 yz;go_wp2;go_ret;exact ⟨rfl,B3⟩
set_option maxRecDepth 100000 in
set_option maxHeartbeats 2000000 in
theorem zaep (v u:Value) (l:List ObjD) (w:World) (hv:zbb w v l) (hu:zbb w u l) :
  Calls Tryz.prog 60 #[v,u,.func (.func 20) #[] #[]] w fun e w'=>e=.returned (.bool true)∧Below w.heap.size w w':=by
 obtain ⟨a1,c1,rfl,hn1,hc1⟩:=hv;obtain ⟨a2,c2,rfl,hn2,hc2⟩:=hu;obtain ⟨N,hN⟩:∃N,l.length=N:=⟨_,rfl⟩;rw [hN] at hn1 hc1 hc2 ⊢;have HN:=zH hN;have HC1:=zH hc1;have HC2:=zH hc2;clear hN hc1 hc2 hn2;go_enter Tryz.func60,Tryz.ntmps60;go_wp2_with fail;go_loopw [17] (fun i wr=>∃k:Nat,i=.int .i64 k∧k≤N∧Below w.heap.size w wr) (fun i _=>N - (intOf i).toNat);case atStart=>exact ⟨0,rfl,Nat.zero_le _,Below.refl _ _⟩
 case round =>
  obtain ⟨wq,rfl⟩:∃z:World,z=wr:=⟨_,rfl⟩;obtain ⟨k,rfl,hk,hbr⟩:=hrel;by_cases hlt:k<N
  ·obtain ⟨o,ho⟩:∃o,l[k]?=some o:=⟨l[k]'(by rw [HN.out];exact hlt),List.getElem?_eq_getElem _⟩;obtain ⟨b1,f1,e1,q1⟩:=HC1.out (by omega);obtain ⟨b2,f2,e2,q2⟩:=HC2.out (by omega);subst e1 e2;obtain ⟨vr,vt,x0,x1,x2,x3,x4,x5,hr1,ht1,_⟩:=(q1 k o ho).later hbr;obtain ⟨ur,ut,y0,y1,y2,y3,y4,y5,hr2,ht2,_⟩:=(q2 k o ho).later hbr;have RS:=zH (fun W (hb:Below wq.heap.size wq W)=>zafz o vr vt ur ut W (hr1.later hb) (ht1.later hb) (hr2.later hb) (ht2.later hb));obtain ⟨p1,pc1,ev1,_⟩:=hr1;obtain ⟨p2,pc2,ev2,_⟩:=ht1;obtain ⟨p3,pc3,ev3,_⟩:=hr2;obtain ⟨p4,pc4,ev4,_⟩:=ht2;subst ev1 ev2 ev3 ev4;have bz1:=zag x0;have bz2:=zag y0;clear q1 q2 ho;go_wp2_with fail;refine (RS.out _ (by repeat' (first | exact Below.refl _ _ | refine Below.drew ?_ | refine Below.drewN' ?_ | refine Below.setCell ?_ (by first | omega | (simp;done) | exact Below.size (by assumption) | (simp;omega)) _ | refine Below.alloc ?_ (by first | omega | (simp;done) | exact Below.size (by assumption) | (simp;omega)) _ | refine Below.trans ?_ (Below.mono (by assumption) ?_) | (first | omega | (simp;done) | exact Below.size (by assumption) | (simp;omega))))).mono ?_;rintro e w3 ⟨rfl,hb⟩;have B3:=zH (hbr.trans ((((Below.refl wq.heap.size wq).alloc zR _).alloc (by simp) _ |>.trans (hb.mono (by simp;omega))).mono hbr.size));clear hb x0 x1 x2 x3 x4 x5 y0 y1 y2 y3 y4 y5;go_wp2;go_roundw;case rel=>exact ⟨k+1,by go_num,by omega,B3.out⟩
   case measure=>simp [intOf];omega
  ·obtain rfl:k=N:=(by omega);go_wp2;go_ret;exact ⟨rfl,hbr⟩
set_option maxHeartbeats 1000000 in
theorem zrn (v u:Value) (l:List ObjD) (w:World) (hv:zbb w v l) (hu:zbb w u l) :
  Calls Tryz.prog 29 #[.agg #[v],.agg #[u]] w fun e w'=>e=.returned (.bool true)∧Below w.heap.size w w':=by
 have EF:=zH (fun W (hb:Below w.heap.size w W)=>zaep v u l W (hv.later hb) (hu.later hb));obtain ⟨a1,c1,rfl,_⟩:=hv;obtain ⟨a2,c2,rfl,_⟩:=hu;have B1:Below w.heap.size w ((w.alloc (.cells #[.slice a1 l.length c1] 24)).alloc (.cells #[.slice a2 l.length c2] 24)):=(by repeat' (first | exact Below.refl _ _ | refine Below.drew ?_ | refine Below.drewN' ?_ | refine Below.setCell ?_ (by first | omega | (simp;done) | exact Below.size (by assumption) | (simp;omega)) _ | refine Below.alloc ?_ (by first | omega | (simp;done) | exact Below.size (by assumption) | (simp;omega)) _ | refine Below.trans ?_ (Below.mono (by assumption) ?_) | (first | omega | (simp;done) | exact Below.size (by assumption) | (simp;omega))));go_enter Tryz.func29,Tryz.ntmps29;go_wp2_with fail;refine (EF.out _ B1).mono ?_;rintro e w2 ⟨rfl,hb⟩;have B2:=zac B1 zR hb;go_wp2;go_ret;exact ⟨rfl,B2⟩
def zani (o:ObjD) (w:World) (e:Ending) (w':World):Prop:=(∃r,e=.returned (.bool r)∧(r=true→o.refs.length≤40))∧Below w.heap.size w w'
set_option maxRecDepth 100000 in
set_option maxHeartbeats 4000000 in
theorem zamp (o:ObjD) (vr vt:Value) (w:World) (hr:zaj w vr o.refs) (ht:zba w vt o.tags) :
  Calls Tryz.prog 61 #[obV o vr vt,.int .i64 40] w (zani o w):=by
 obtain ⟨a1,c1,rfl,hn1,hs1,hc1⟩:=hr;obtain ⟨a2,c2,rfl,hn2,hs2,hc2⟩:=ht;have B1:Below w.heap.size w (w.alloc (.cells #[.string o.id,.int .i64 o.kind,.int .i64 o.x,.int .i64 o.y,.slice a1 o.refs.length c1,.slice a2 o.tags.length c2] 36)):=(Below.refl _ _).alloc zR _;have H2:=zan w (.cells #[.string o.id,.int .i64 o.kind,.int .i64 o.x,.int .i64 o.y,.slice a1 o.refs.length c1,.slice a2 o.tags.length c2] 36);by_cases z1:(300:Int)<o.id.size
 ·have zb:decide ((300:Int)<o.id.size)=true:=decide_eq_true z1;go_enter Tryz.func61,Tryz.ntmps61;go_wp2;go_ret;exact ⟨⟨false,rfl,fun h=>by cases h⟩,B1⟩
 have zb:decide ((300:Int)<o.id.size)=false:=decide_eq_false z1;by_cases z2:(40:Int)<o.refs.length
 ·have zb2:decide ((40:Int)<o.refs.length)=true:=decide_eq_true z2;clear z1;go_enter Tryz.func61,Tryz.ntmps61;go_wp2;go_ret;exact ⟨⟨false,rfl,fun h=>by cases h⟩,B1⟩
 have zb2:decide ((40:Int)<o.refs.length)=false:=decide_eq_false z2;by_cases z3:(65:Int)<o.tags.length
 ·have zb3:decide ((65:Int)<o.tags.length)=true:=decide_eq_true z3;clear z1 z2;go_enter Tryz.func61,Tryz.ntmps61;go_wp2;go_ret;exact ⟨⟨false,rfl,fun h=>by cases h⟩,B1⟩
 have zb3:decide ((65:Int)<o.tags.length)=false:=decide_eq_false z3;have HR:=zH (show o.refs.length≤40 by omega);obtain ⟨nr,hnr⟩:∃n,o.refs.length=n:=⟨_,rfl⟩;obtain ⟨nt,hnt⟩:∃n,o.tags.length=n:=⟨_,rfl⟩;rw [hnr] at hn1 hc1 zb2 z2 B1 H2 ⊢;rw [hnt] at hn2 hc2 zb3 z3 B1 H2 ⊢;have HNR:=zH hnr;have HNT:=zH hnt;have HC1:=zH hc1;have HC2:=zH hc2;have HS1:=zH hs1;have HS2:=zH hs2;have hnr40:nr≤40:=by rw [←hnr];exact HR.out
 have hnt65:nt≤65:=by omega
 clear hnr hnt hc1 hc2 hs1 hs2 z1 z2 z3;go_enter Tryz.func61,Tryz.ntmps61;go_wp2_with fail;generalize hw1:w.alloc _=w1;rw [hw1] at B1 H2;clear hw1 zb zb2 zb3;go_loopw [5] (fun i wr=>∃k:Nat,i=.int .i64 k∧k≤nr∧Below w.heap.size w wr∧wr.heap[w.heap.size]?=some (.cells #[.string o.id,.int .i64 o.kind,.int .i64 o.x,.int .i64 o.y,.slice a1 nr c1,.slice a2 nt c2] 36)) (fun i _=>nr - (intOf i).toNat);case atStart=>exact ⟨0,rfl,Nat.zero_le _,B1,H2⟩
 case round =>
  obtain ⟨k,rfl,hk,hbr,h2⟩:=hrel;have G2:=zH h2;clear h2;by_cases hlt:k<nr
  ·obtain ⟨s,hs⟩:∃s,o.refs[k]?=some s:=⟨o.refs[k]'(by rw [HNR.out];exact hlt),List.getElem?_eq_getElem _⟩;obtain ⟨b1,f1,e1,q1⟩:=HC1.out (by omega);subst e1;have d0:=cell_later hbr (q1 k s hs);have hz:=HS1.out s (zM hs);clear q1 hs;obtain ⟨xz,x0,x1,x2,x3,x4,x5⟩:=rk6 G2.out;by_cases hb:(300:Int)<s.size
   ·have hbb:decide ((300:Int)<s.size)=true:=decide_eq_true hb;clear hb;go_wp2;go_ret;exact ⟨⟨false,rfl,fun h=>by cases h⟩,hbr⟩
   ·have hbb:decide ((300:Int)<s.size)=false:=decide_eq_false hb;clear hb;go_wp2;go_roundw;case rel=>exact ⟨k+1,by go_num,by omega,hbr,G2.out⟩
    case measure=>simp [intOf];omega
  ·obtain rfl:k=nr:=(by omega);obtain ⟨wv,rfl⟩:∃z:World,z=wr:=⟨_,rfl⟩;obtain ⟨xz,x0,x1,x2,x3,x4,x5⟩:=rk6 G2.out;go_wp2_with fail;clear x0 x1 x2 x3 x4 x5 xz;go_loopw [6] (fun i wr=>∃j:Nat,i=.int .i64 j∧j≤nt∧Below w.heap.size w wr∧wr.heap[w.heap.size]?=some (.cells #[.string o.id,.int .i64 o.kind,.int .i64 o.x,.int .i64 o.y,.slice a1 k c1,.slice a2 nt c2] 36)) (fun i _=>nt - (intOf i).toNat);case atStart=>exact ⟨0,rfl,Nat.zero_le _,hbr,G2.out⟩
   case round =>
    obtain ⟨j,rfl,hj,hbr2,h2⟩:=hrel;have G2:=zH h2;clear h2;by_cases hlt2:j<nt
    ·obtain ⟨t,ht⟩:∃t,o.tags[j]?=some t:=⟨o.tags[j]'(by rw [HNT.out];exact hlt2),List.getElem?_eq_getElem _⟩;obtain ⟨b2,f2,e2,q2⟩:=HC2.out (by omega);subst e2;have d0:=cell_later hbr2 (q2 j t ht).1;have d1:=cell_later hbr2 (q2 j t ht).2;obtain ⟨hz1,hz2⟩:=HS2.out t (zM ht);have wz:IntKind.i64.wrap ((t.key.size:Int)+t.val.size)=(t.key.size:Int)+t.val.size:=IntWalk.i64_in _ (by omega);clear q2 ht;obtain ⟨xz,x0,x1,x2,x3,x4,x5⟩:=rk6 G2.out;obtain ⟨bd,hbd⟩:∃z,decide ((600:Int)<(t.key.size:Int)+t.val.size)=z:=⟨_,rfl⟩;cases bd with
     |true =>go_wp2_with fail;go_quiet (fail);go_wp2;go_ret;exact ⟨⟨false,rfl,fun h=>by cases h⟩,hbr2.drewN'⟩
     |false =>
      go_wp2_with fail;go_quiet (fail);clear x0 x1 x2 x3 x4 x5 xz;have BQ:Below wr.heap.size wr (wr.drewN nq):=(Below.refl _ _).drewN';go_wp2;go_roundw;case rel=>exact ⟨j+1,by go_num,by omega,hbr2.drewN',zab BQ G2.out⟩
      case measure=>simp [intOf];omega
    ·obtain rfl:j=nt:=(by omega);obtain ⟨xz,x0,x1,x2,x3,x4,x5⟩:=rk6 G2.out;go_wp2;go_ret;exact ⟨⟨true,rfl,fun _=>HR.out⟩,hbr2⟩
end Go.Proofs.YtibpaaajghbkoaaGreat

namespace Go.Proofs.YtibpaaajghbkoaaGreat
open Go.RowKit Go.Sort
def zacn (l:List ObjD) (w:World) (e:Ending) (w':World):Prop:=(∃r,e=.returned (.bool r)∧(r=true→l.length≤25∧∀o∈l,o.refs.length≤40))∧Below w.heap.size w w'
set_option maxRecDepth 100000 in
set_option maxHeartbeats 2000000 in
theorem zajc (v:Value) (l:List ObjD) (w:World) (hv:zbb w v l) :
  Calls Tryz.prog 30 #[.agg #[v],.int .i64 25] w (zacn l w):=by
 obtain ⟨a,c,rfl,hn,hc⟩:=hv;obtain ⟨N,hN⟩:∃N,l.length=N:=⟨_,rfl⟩;rw [hN] at hn hc ⊢;have HN:=zH hN;have HC:=zH hc;clear hN hc;have B1:Below w.heap.size w (w.alloc (.cells #[.slice a N c] 24)):=(Below.refl _ _).alloc zR _;have H2:=zan w (.cells #[.slice a N c] 24);by_cases hbig:(N:Int)≤25;case neg =>
  have hb:decide ((N:Int)≤25)=false:=decide_eq_false hbig;have hp:decide ((0:Int)<(N:Int))=true:=decide_eq_true (by omega);have hp2:decide (0<N)=true:=decide_eq_true (by omega);have hb3:decide (N≤25)=false:=decide_eq_false (by omega);clear hbig;go_enter Tryz.func30,Tryz.ntmps30;go_wp2_with fail;refine wp_loop_rounds 2 ?_;rw [rounds_succ];go_wp2;go_ret;exact ⟨⟨false,rfl,fun h=>by cases h⟩,B1⟩
 have hb:decide ((N:Int)≤25)=true:=decide_eq_true hbig;have hb3:decide (N≤25)=true:=decide_eq_true (by omega);have hN25:N≤25:=by omega
 clear hbig;go_enter Tryz.func30,Tryz.ntmps30;go_wp2_with fail;generalize hw1:w.alloc _=w1;rw [hw1] at B1 H2;clear hw1;go_loopw [5] (fun i wr=>∃k:Nat,i=.int .i64 k∧k≤N∧(∀o∈l.take k,o.refs.length≤40)∧Below w.heap.size w wr∧wr.heap[w.heap.size]?=some (.cells #[.slice a N c] 24)) (fun i _=>N - (intOf i).toNat);case atStart=>exact ⟨0,rfl,Nat.zero_le _,(fun o ho=>by simp at ho),B1,H2⟩
 case round =>
  obtain ⟨wq,rfl⟩:∃z:World,z=wr:=⟨_,rfl⟩;obtain ⟨k,rfl,hk,hrs,hbr,h2⟩:=hrel;have G2:=zH h2;have HRS:=zH hrs;clear h2 hrs;by_cases hlt:k<N
  ·obtain ⟨o,ho⟩:∃o,l[k]?=some o:=⟨l[k]'(by rw [HN.out];exact hlt),List.getElem?_eq_getElem _⟩;obtain ⟨b1,f1,e1,q1⟩:=HC.out (by omega);subst e1;obtain ⟨vr,vt,x0,x1,x2,x3,x4,x5,hr1,ht1,_⟩:=(q1 k o ho).later hbr;have FO:=zH (zamp o vr vt wq hr1 ht1);obtain ⟨p1,pc1,ev1,_⟩:=hr1;obtain ⟨p2,pc2,ev2,_⟩:=ht1;subst ev1 ev2;have bz1:=zag x0;have HO:=zH ho;clear q1 ho;obtain ⟨mz,m0⟩:=rk1 G2.out;go_wp2_with fail;refine FO.out.mono ?_;rintro e w3 ⟨⟨r,rfl,hr⟩,hb⟩;have B3:=hbr.trans (hb.mono hbr.size);have G3:=zH (zab hb G2.out);have HRR:=zH hr;clear hb x0 x1 x2 x3 x4 x5 hr FO;clear m0 mz;cases r with
   |false =>go_wp2;go_ret;exact ⟨⟨false,rfl,fun h=>by cases h⟩,B3⟩
   |true =>
    have HR2:=zH (show ∀q∈l.take (k+1),q.refs.length≤40 from fun q hq=>by
     rw [zbn HO.out] at hq
     rcases List.mem_append.1 hq with h | h
     ·exact HRS.out q h
     ·rw [List.mem_singleton.1 h];exact HRR.out rfl)
    go_wp2;go_roundw;case rel=>exact ⟨k+1,by go_num,by omega,HR2.out,B3,G3.out⟩
    case measure=>simp [intOf];omega
  ·obtain rfl:k=N:=(by omega);have HE:=zH (show l.length≤25∧∀o∈l,o.refs.length≤40 by
    refine ⟨by rw [HN.out];exact hN25,fun o ho=>HRS.out o ?_⟩
    rw [List.take_of_length_le (by rw [HN.out];exact Nat.le_refl _)]
    exact ho)
   obtain ⟨mz,m0⟩:=rk1 G2.out;go_wp2;go_ret;exact ⟨⟨true,rfl,fun _=>HE.out⟩,hbr⟩
set_option maxHeartbeats 1000000 in
theorem zamq (v:Value) (l:List ObjD) (w:World) (hv:zbb w v l) :
  Calls Tryz.prog 10 #[.agg #[v]] w (zacn l w):=by
 have FM:=zH (fun W (hb:Below w.heap.size w W)=>zajc v l W (hv.later hb));obtain ⟨a,c,rfl,_⟩:=hv;have B1:Below w.heap.size w (w.alloc (.cells #[.slice a l.length c] 24)):=(Below.refl _ _).alloc zR _;go_enter Tryz.func10,Tryz.ntmps10;go_wp2_with fail;refine (FM.out _ B1).mono ?_;rintro e w2 ⟨⟨r,rfl,hr⟩,hb⟩;have B2:=zac B1 zR hb;have HR:=zH hr;clear hr;go_wp2;go_ret;exact ⟨⟨r,rfl,HR.out⟩,B2⟩
end Go.Proofs.YtibpaaajghbkoaaGreat

namespace Go.Proofs.YtibpaaajghbkoaaGreat
def smA:ObjD:=⟨⟨#[97]⟩,1,0,10,[],[]⟩
def smB:ObjD:=⟨⟨#[98]⟩,1,4,11,[],[]⟩
def smC:ObjD:=⟨⟨#[99]⟩,1,8,10,[],[]⟩
def smD:ObjD:=⟨⟨#[100]⟩,1,4,10,[],[]⟩
def smE:ObjD:=⟨⟨#[101]⟩,1,4,5,[],[]⟩
def smV:ObjD:=⟨⟨#[118]⟩,2,0,0,[⟨#[100]⟩,⟨#[101]⟩],[]⟩
def smW:ObjD:=⟨⟨#[119]⟩,2,0,0,[⟨#[97]⟩,⟨#[98]⟩,⟨#[99]⟩],[]⟩
def smX:ObjD:=⟨⟨#[119]⟩,2,0,0,[⟨#[97]⟩,⟨#[99]⟩],[]⟩
def sm1:List ObjD:=[smA,smB,smC,smW]
def sm2:List ObjD:=[smA,smB,smC,smD,smE,smV,smW]
theorem sm_8:simP sm1 8=[smA,smC,smX]:=by kernel_rfl
theorem sm_7:simP sm1 7=sm1:=by kernel_rfl
theorem zaoh:simP sm2 8=sm2:=by kernel_rfl
theorem zaqm:simP sm1 (-1)=sm1:=by kernel_rfl
end Go.Proofs.YtibpaaajghbkoaaGreat

namespace Go.Proofs.YtibpaaajghbkoaaGreat
open Go.RowKit
def znf:Nat→Int
 |0=>1048576
 |n+1=>(znf n).tdiv 2
def tolP (z:Int):Int:=if z<0∨17<z then 0 else (znf z.toNat).tdiv 64 * (znf z.toNat).tdiv 64
theorem zaiu (n:Nat):0≤znf n∧znf n≤1048576:=by
 induction n with
 |zero=>decide
 |succ n ih =>show 0≤(znf n).tdiv 2∧(znf n).tdiv 2≤1048576;rw [Int.tdiv_eq_ediv_of_nonneg ih.1];omega
set_option maxRecDepth 100000 in
set_option maxHeartbeats 4000000 in
theorem zxx (z:Int) (w:World):Calls Tryz.prog 14 #[.int .i64 z] w fun e w'=>e=.returned (.int .i64 (tolP z))∧w'=w:=by
 by_cases h1:z<0
 ·have d1:decide (z<0)=true:=decide_eq_true h1;have HE:=zH (show tolP z=0 by unfold tolP;rw [if_pos (Or.inl h1)]);go_enter Tryz.func14,Tryz.ntmps14;go_wp2;go_ret;exact ⟨by rw [HE.out]<;>rfl,rfl⟩
 ·have d1:decide (z<0)=false:=decide_eq_false h1;by_cases h2:17<z
  ·have d2:decide (17<z)=true:=decide_eq_true h2;have HE:=zH (show tolP z=0 by unfold tolP;rw [if_pos (Or.inr h2)]);go_enter Tryz.func14,Tryz.ntmps14;go_wp2;go_ret;exact ⟨by rw [HE.out]<;>rfl,rfl⟩
  ·have hz:z=0∨z=1∨z=2∨z=3∨z=4∨z=5∨z=6∨z=7∨z=8∨z=9∨z=10∨z=11∨z=12∨z=13∨z=14∨z=15∨z=16∨z=17:=(by omega);clear d1 h1 h2;rcases hz with rfl | rfl | rfl | rfl | rfl | rfl | rfl | rfl | rfl | rfl | rfl | rfl | rfl | rfl | rfl | rfl | rfl | rfl;all_goals
    go_enter Tryz.func14,Tryz.ntmps14;go_wp2;go_ret;exact ⟨by rfl,rfl⟩
set_option maxRecDepth 100000 in
set_option maxHeartbeats 4000000 in
theorem zale (z:Int) (w:World):Calls Tryz.prog 15 #[.int .i64 z] w fun e w'=>e=.returned (.int .i64 (tolP z))∧w'=w:=by
 by_cases h1:z<0
 ·have d1:decide (z<0)=true:=decide_eq_true h1;have HE:=zH (show tolP z=0 by unfold tolP;rw [if_pos (Or.inl h1)]);go_enter Tryz.func15,Tryz.ntmps15;go_wp2;go_ret;exact ⟨by rw [HE.out]<;>rfl,rfl⟩
 ·have d1:decide (z<0)=false:=decide_eq_false h1;by_cases h2:17<z
  ·have d2:decide (17<z)=true:=decide_eq_true h2;have HE:=zH (show tolP z=0 by unfold tolP;rw [if_pos (Or.inr h2)]);go_enter Tryz.func15,Tryz.ntmps15;go_wp2;go_ret;exact ⟨by rw [HE.out]<;>rfl,rfl⟩
  ·have d2:decide (17<z)=false:=decide_eq_false h2;obtain ⟨n,rfl⟩:∃n:Nat,z=n:=⟨z.toNat,by omega⟩;have HE:=zH (show tolP n=(znf n).tdiv 64 * (znf n).tdiv 64 by unfold tolP;rw [if_neg (by omega)];rfl);clear h1;go_enter Tryz.func15,Tryz.ntmps15;go_wp2_with fail;go_loopw [3,4] (fun v3 v4 wr=>∃k:Nat,k≤n∧v3=.int .i64 (znf k)∧v4=.int .i64 k∧wr=w) (fun _ v4 _=>n - (intOf v4).toNat);case atStart=>exact ⟨0,by omega,rfl,rfl,rfl⟩
   case round =>
    obtain ⟨k,hk,rfl,rfl,rfl⟩:=hrel;have hb:=zaiu k;have hb2:=zaiu (k+1);have HS:=zH (show znf (k+1)=(znf k).tdiv 2 from rfl);by_cases hlt:k<n
    ·rw [HS.out] at hb2;generalize znf k=j at hb hb2 HS;go_wp2;go_roundw;case rel=>exact ⟨k+1,by omega,by rw [HS.out],by go_num,by trivial⟩
     case measure=>simp [intOf];omega
    ·obtain rfl:k=n:=(by omega);generalize znf k=j at hb HE;have hq:0≤j.tdiv 64∧j.tdiv 64≤16384:=by rw [Int.tdiv_eq_ediv_of_nonneg hb.1];omega
     have hm:IntKind.i64.wrap (j.tdiv 64 * j.tdiv 64)=j.tdiv 64 * j.tdiv 64:=IntWalk.i64_in _ (by
      generalize j.tdiv 64=q at hq
      have h0:0≤q * q:=Int.mul_nonneg hq.1 hq.1
      have h1:q * q≤16384 * 16384:=Int.mul_le_mul hq.2 hq.2 hq.1 (by omega)
      omega)
     go_wp2;go_ret;exact ⟨by rw [HE.out]<;>rfl,rfl⟩
end Go.Proofs.YtibpaaajghbkoaaGreat
