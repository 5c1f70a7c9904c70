/-   -/
import Derived.Test.YtibpaaajghbkoaaGreatWBk
import Derived.Test.YtibpaaajghbkoaaGreatWAu
import Derived.Test.YtibpaaajghbkoaaGreatWBj
import Derived.Test.YtibpaaajghbkoaaGreatWBe
namespace Go.Proofs.YtibpaaajghbkoaaGreat
open Go.RowKit Go.Maps Go.Sort Go.ChangeMaps Go.Shelf
attribute [local go_sem] Oper.semAt_some
def zur (bp:Nat) (ord:List ByteArray) (l:List ObjD) (bo bn br:Nat) (vo:Value) (tol:Int) (w:World) (e:Ending) (w':World):Prop :=
 (match zhd l tol with
  |none=>e=.returned (.bool false)∧zdl w' bp ord l bo bn br vo
  |some id=>e=.returned (.bool true)∧zdl w' bp ord (zaz l id) bo bn br vo)∧zed bo bn br w w'
abbrev CaT (l:List ObjD) (tol:Int):={ x:CaM // CaOK l x∧x.1∈zop l tol }
structure StI (tol:Int) (w W0:World) (bp:Nat) (ord:List ByteArray) (l:List ObjD) (bo bn br:Nat) (vo:Value) (pre:List (CaT l tol)) (W:World):Prop where
 plan:zdl W bp ord l bo bn br vo
 h2:W.heap[w.heap.size]?=some (.cells #[.pointer (some ⟨bp,0,none⟩)] 58 (0,0))
 h4:W.heap[w.heap.size+1]?=some (.cells #[.bool false] 4 (0,0))
 none:∀x∈pre,zeq l x.1.1=false
 low:Below w.heap.size w W
 size:W0.heap.size≤W.heap.size
structure StX (tol:Int) (w W0:World) (bp:Nat) (ord:List ByteArray) (l:List ObjD) (bo bn br:Nat) (vo:Value) (pre:List (CaT l tol)) (W:World):Prop where
 ex:∃(p0:List (CaT l tol)) (x:CaT l tol),pre=p0++[x]∧(∀y∈p0,zeq l y.1.1=false)∧zeq l x.1.1=true∧zdl W bp ord (zaz l x.1.1.1) bo bn br vo
 h4:W.heap[w.heap.size+1]?=some (.cells #[.bool true] 4 (0,0))
 low:zed bo bn br w W
 size:W0.heap.size≤W.heap.size
theorem zdl.grown {W W':World} {bp:Nat} {ord:List ByteArray} {l:List ObjD} {bo bn br:Nat} {vo:Value} {row:Option Nat} (h:zdl W bp ord l bo bn br vo) (hg:W.grownBy W' row) (hr:zbg W row) (h1:some bo≠row) (h2:some bn≠row) (h3:some br≠row):zdl W' bp ord l bo bn br vo :=
 ⟨zcm rfl hg hr h.row,h.ord.grown hg hr,h.objs.grown hg hr h1,h.nods.grown hg h2,h.refs.grown hg hr h3,h.ne1,h.ne2,h.ne3⟩
theorem zdl.lts {W:World} {bp:Nat} {ord:List ByteArray} {l:List ObjD} {bo bn br:Nat} {vo:Value} (h:zdl W bp ord l bo bn br vo):bo<W.heap.size∧bn<W.heap.size∧br<W.heap.size:=⟨h.objs.lt,h.nods.lt,h.refs.lt⟩
theorem StI.own {tol:Int} {w W0:World} {bp:Nat} {ord:List ByteArray} {l:List ObjD} {bo bn br:Nat} {vo:Value} {n0:Nat} (hn:w.heap.size≤n0) (h1:bo<n0) (h2:bn<n0) (h3:br<n0):OwnFrom n0 (StI tol w W0 bp ord l bo bn br vo):=fun s A B row hs hg hr=>by
 have hr2:zbg A row:=fun r e=>(hr r e).2;have hne:∀b,b<n0→some b≠row:=fun b hb e=>by have:=(hr b e.symm).1;omega
 exact ⟨hs.plan.grown hg hr2 (hne _ h1) (hne _ h2) (hne _ h3),zcm rfl hg hr2 hs.h2,zcm rfl hg hr2 hs.h4,hs.none,hs.low.grown hg hs.low.size (fun k e=>Nat.le_trans hn (hr k e).1),Nat.le_trans hs.size hg.size⟩
theorem StX.own {tol:Int} {w W0:World} {bp:Nat} {ord:List ByteArray} {l:List ObjD} {bo bn br:Nat} {vo:Value} {n0:Nat} (hn:w.heap.size≤n0) (h1:bo<n0) (h2:bn<n0) (h3:br<n0):OwnFrom n0 (StX tol w W0 bp ord l bo bn br vo):=fun s A B row hs hg hr=>by
 have hr2:zbg A row:=fun r e=>(hr r e).2;have hne:∀b,b<n0→some b≠row:=fun b hb e=>by have:=(hr b e.symm).1;omega
 obtain ⟨p0,x,e1,e2,e3,e4⟩:=hs.ex;exact ⟨⟨p0,x,e1,e2,e3,e4.grown hg hr2 (hne _ h1) (hne _ h2) (hne _ h3)⟩,zcm rfl hg hr2 hs.h4,⟨hs.low.1.grown hg (Nat.zero_le _) (fun _ _=>Nat.zero_le _),fun k hk e1 e2 e3=>(hg.block k (Nat.lt_of_lt_of_le hk hs.low.1.size) (fun e=>by have:=(hr k e.symm).1;omega)).trans (hs.low.2 k hk e1 e2 e3)⟩,Nat.le_trans hs.size hg.size⟩
theorem zya {W:World} {b:Nat} {x:Bool} {t:TypeId} (hb:W.heap[b]?=some (.cells #[.bool x] t (0,0))) (u:Value) {c o:Nat} {s:ByteArray} (h:W.cell? ⟨c,o,none⟩=some (.string s)):(W.setCell ⟨b,0,none⟩ u).cell? ⟨c,o,none⟩=some (.string s):=by
 by_cases e:c=b
 ·subst e;rw [cell_of_row W c o _ _ _ hb] at h
  match o,h with
  |0,h=>injection h with h;cases h
  |o+1,h=>simp at h
 ·exact (World.cell?_of_block (Below.heap_setCell W ⟨b,0,none⟩ u c e)).trans h
theorem zaj.setB {W:World} {b:Nat} {x:Bool} {t:TypeId} (hb:W.heap[b]?=some (.cells #[.bool x] t (0,0))) (u:Value) {v:Value} {l:List ByteArray} (h:zaj W v l):zaj (W.setCell ⟨b,0,none⟩ u) v l:=by obtain ⟨a,cap,e,h1,h2,h3⟩:=h;refine ⟨a,cap,e,h1,h2,fun hp=>?_⟩;obtain ⟨bb,off,ha,hc⟩:=h3 hp;exact ⟨bb,off,ha,fun i s hs=>zya hb u (hc i s hs)⟩
theorem zba.setB {W:World} {b:Nat} {x:Bool} {t:TypeId} (hb:W.heap[b]?=some (.cells #[.bool x] t (0,0))) (u:Value) {v:Value} {l:List TagD} (h:zba W v l):zba (W.setCell ⟨b,0,none⟩ u) v l:=by obtain ⟨a,cap,e,h1,h2,h3⟩:=h;refine ⟨a,cap,e,h1,h2,fun hp=>?_⟩;obtain ⟨bb,off,ha,hc⟩:=h3 hp;exact ⟨bb,off,ha,fun i s hs=>⟨zya hb u (hc i s hs).1,zya hb u (hc i s hs).2⟩⟩
theorem zty {W:World} {b c:Nat} {x:Bool} {t:TypeId} (hb:W.heap[b]?=some (.cells #[.bool x] t (0,0))) (u:Value) (hn:zbg W (some c)):(W.setCell ⟨b,0,none⟩ u).heap[c]?=W.heap[c]?:=by refine Below.heap_setCell W ⟨b,0,none⟩ u c fun e=>?_;obtain ⟨o,h1,h2⟩:=hn c rfl;simp only at e;rw [e,hb] at h1;injection h1 with h1;rw [←h1] at h2;cases h2
theorem zdl.setB {W:World} {b:Nat} {x:Bool} {t:TypeId} (hb:W.heap[b]?=some (.cells #[.bool x] t (0,0))) (u:Value) {bp:Nat} {ord:List ByteArray} {l:List ObjD} {bo bn br:Nat} {vo:Value} (h:zdl W bp ord l bo bn br vo):zdl (W.setCell ⟨b,0,none⟩ u) bp ord l bo bn br vo:=by
 refine ⟨(Below.heap_setCell W ⟨b,0,none⟩ u bp fun e=>?_).trans h.row,h.ord.setB hb u,?_,?_,?_,h.ne1,h.ne2,h.ne3⟩
 ·have:=h.row;simp only at e;rw [e,hb] at this;injection this with this;injection this with this;have:=congrArg Array.size this;simp at this
 ·have hn:=h.objs.noCells;obtain ⟨O,h1,h2,h3,h4⟩:=h.objs;exact ⟨O,h1.later (zty hb u hn),h2,fun p hp=>⟨⟨(h3 p hp).1.1.setB hb u,(h3 p hp).1.2.1.setB hb u,(h3 p hp).1.2.2⟩,(h3 p hp).2⟩,h4⟩
 ·have hn:=h.nods.noCells;obtain ⟨O,h1,h2⟩:=h.nods;exact ⟨O,h1.later (zty hb u hn),h2⟩
 ·have hn:=h.refs.noCells;obtain ⟨O,h1,h2⟩:=h.refs;exact ⟨O,h1.later (zty hb u hn),fun r=>(h2 r).setB hb u⟩
theorem zed.from {bo bn br B:Nat} {w W:World} (h:zed bo bn br w W) (h1:bo<B) (h2:bn<B) (h3:br<B):KeepsFrom B w W:=⟨h.1.size,fun k o hB hk _=>(h.2 k (zaf hk) (by omega) (by omega) (by omega)).trans hk⟩
theorem zajy {l:List ObjD} {tol:Int} (h:zas l=true) {c:zii} (hc:c∈zop l tol):zas (zaz l c.1)=true∧zxp l c.1∧∃o∈l,o.id=c.1:=by
 obtain ⟨o,ho,e⟩:=List.mem_filterMap.1 hc;have hid:=zaaa e;unfold zkd at e;cases hn:zcr l o.id with
 |none=>rw [hn] at e;cases e
 |some p =>
  rw [hn] at e;simp only at e;split at e
  ·rename_i hk;rw [hid];refine ⟨zajj h hn,fun x hx ex=>?_,o,ho,rfl⟩;rw [zoi h hx ho ex];exact ⟨hk.1,zna (zda h ho) hk.1⟩
  ·cases e
theorem zafd {l:List ObjD} {tol:Int} (S:List CaM) (h:∀x∈S,CaOK l x∧x.1∈zop l tol):∃S':List (CaT l tol),S'.map (·.1)=S :=
 ⟨S.attachWith _ h,by simp [List.attach_map_subtype_val]⟩
set_option maxRecDepth 100000 in
set_option maxHeartbeats 4000000 in
theorem zakw (bp:Nat) (ord:List ByteArray) (l:List ObjD) (bo bn br:Nat) (vo:Value) (tol:Int) (w:World) (hp:zdl w bp ord l bo bn br vo) (hok:zas l=true) (hnd:ord.Nodup) (hsub:(l.map (·.id)).Sublist ord) (hol:ord.length≤1000000) :
  Calls Tryz.prog 33 #[.pointer (some ⟨bp,0,none⟩),.int .i64 tol] w (zur bp ord l bo bn br vo tol w):=by
 have B1:Below w.heap.size w ((w.alloc (.cells #[.pointer (some ⟨bp,0,none⟩)] 58)).alloc (.cells #[.bool false] 4)):=(by repeat' (first | exact Below.refl _ _ | refine Below.drew ?_ | refine Below.drewN' ?_ | refine Below.setCell ?_ (by first | omega | (simp;done) | exact Below.size (by assumption) | (simp;omega)) _ | refine Below.alloc ?_ (by first | omega | (simp;done) | exact Below.size (by assumption) | (simp;omega)) _ | refine Below.trans ?_ (Below.mono (by assumption) ?_) | (first | omega | (simp;done) | exact Below.size (by assumption) | (simp;omega))));have CA:=zH (zajx bp ord l bo bn br vo tol _ (hp.on B1) hok hnd hsub hol);refine (callsIn_wide (n:=6)).1 ?_;refine callsIn_of_wp_marks Tryz.func33 rfl trivial ?_ rfl;simp only [Tryz.ntmps33,List.size_toArray,List.length_cons,List.length_nil,Nat.reduceAdd,Nat.reduceSub,Array.replicate_succ,Array.replicate_zero,List.push_toArray,List.append_toArray,List.nil_append,List.cons_append];gi_wp2;refine ⟨trivial,(callsIn_wide.2 CA.out).mono ?_⟩;rintro e W0 ⟨Bs,S,vt,rfl,hBs,hre,hpm,hso,hcs,hsl,hb0⟩;obtain ⟨S',hS'⟩:=zafd (l:=l) (tol:=tol) S (fun x hx=>⟨hcs x hx,hpm.mem_iff.1 (List.mem_map.2 ⟨x,hx,rfl⟩)⟩);subst hS';rw [List.length_map] at hsl;have hB0:=hb0.size;rw [World.size_alloc,World.size_alloc] at hB0;have BW0:=zac B1 (by first | (simp;done) | omega | (simp;omega)) hb0;have H2:=zab hb0 (zao (o':=.cells #[.bool false] 4) (zan w (.cells #[.pointer (some ⟨bp,0,none⟩)] 58)));have H4:=zab hb0 (zfj w (.cells #[.pointer (some ⟨bp,0,none⟩)] 58) (.cells #[.bool false] 4));have hI0:StI tol w W0 bp ord l bo bn br vo [] W0:=⟨hp.on BW0,H2,H4,(fun x hx=>by cases hx),BW0,Nat.le_refl _⟩;have ST:=zH (zacw (fun x:CaT l tol=>x.1) 5 (by omega) Bs vt S' W0 W0 hre (by omega) (fun _ _=>rfl) zR hBs);obtain ⟨lo1,lo2,lo3⟩:=hp.lts;have HOK:=zH hok;have HPM:=zH hpm;have HSO:=zH hso;have HPL:=zH hp;clear hpm hso hcs hre hBs CA hb0 H2 H4 hp;gi_wp2;refine wpIn_rangeFunc_ownH rfl (by omega) (gf:=161) (lb:=#[.pointer (some ⟨Bs,0,none⟩)]) rfl trivial (enters_of Tryz.func161 (by kernel_rfl) rfl)
  ST.out KpN.trans
  (fun W l o o' hl _ _ _=>⟨fun k hk=>World.putObj_heap_other (by omega),(grownBy_putObj' W l o').size⟩) (Below.refl _ _) (fun _=>rfl)
  (StI tol w W0 bp ord l bo bn br vo)
  (fun c pre W=>c=.ret∧StX tol w W0 bp ord l bo bn br vo pre W)
  (StI.own (by omega) (by omega) (by omega) (by omega))
  (fun c s A B row hs hg hr=>⟨hs.1,StX.own (n0:=W0.heap.size) (by omega) (by omega) (by omega) (by omega) s A B row hs.2 hg hr⟩)
  hI0
  (fun x a' W=>∃Bx,W.heap[Bx]?=some (.cells (zib x.1).toArray 115 (0,0))∧W0.heap.size≤Bx∧a'={ tmps:=#[.pointer (some ⟨bp,0,none⟩),.int .i64 tol,.pointer (some ⟨w.heap.size,0,none⟩),undef,.pointer (some ⟨w.heap.size+1,0,none⟩),.pointer (some ⟨Bx,0,none⟩),.pointer (some ⟨bp,0,none⟩),.int .i64 tol,.func (.func 161) #[] #[.pointer (some ⟨Bs,0,none⟩)],.agg (zib x.1).toArray,undef,undef,undef,undef,undef,undef,undef],defers:=[] })
  (fun x a' _ X Y row hs hg hr=>by obtain ⟨Bx,h2,h3⟩:=hs;exact ⟨Bx,zcm rfl hg (fun r e=>(hr r e).2) h2,h3⟩)
  ?assign ?body ?done ?stop
 case assign =>rintro l2 pre x W K hI hK;have hsz:=hI.size;simp only [zib] at *;gi_wp2;exact hK _ _ ((KeepsOthers.alloc _ _).from _) ⟨fun k hk=>Below.heap_alloc _ _ _ (by omega),by simp⟩ ⟨hI.plan.on ((Below.refl _ _).alloc zR _),zao hI.h2,zao hI.h4,hI.none,hI.low.alloc hI.low.size _,by simp;omega⟩ ⟨W.heap.size,zan _ _,hsz,rfl⟩
 case body =>
  rintro l2 pre x a' W hl2 ⟨r,hr⟩ hI ⟨Bx,hX,hBx,rfl⟩ hlt;have hlw:=hI.low.size;have FR:=zH (zamn bp ord l bo bn br vo x.1 W hI.plan HOK.out x.2.1);obtain ⟨hd1,hd2,od,hod,hoid⟩:=zajy HOK.out x.2.2;have hzid:x.1.1.1.size≤140737488355328:=by rw [←hoid];exact (HPL.out.size HOK.out hod).1
  have DR:=zH (fun W1 (h:zdl W1 bp ord l bo bn br vo)=>zams bp ord l bo bn br vo x.1.1.1 W1 h HOK.out hd1 hd2 hzid);have H2:=zH hI.h2;have H4:=zH hI.h4;have HXX:=zH hX;have HII:=zH hI;obtain ⟨bd,hbd⟩:∃z,z=zeq l x.1.1:=⟨_,rfl⟩;rw [←hbd] at FR;have HBD:=zH hbd;clear hX hI hod hoid hd1 hd2 hbd od;obtain ⟨⟨⟨⟨xi,xs,x1,x2⟩,⟨x3,x4⟩,⟨x5,x6⟩,⟨x7,x8⟩⟩,hxp⟩,hxe⟩:∃z:CaT l tol,x=z:=⟨x,rfl⟩;have hx1:x.1=((xi,xs,x1,x2),(x3,x4),(x5,x6),(x7,x8)):=by rw [hxe]
  have HXE:=zH hx1;simp only [hx1] at FR DR HXX;rw [hx1];simp only [zib] at FR HXX ⊢;clear hxe hx1 hxp;cases bd with
  |false =>
   obtain ⟨fz,f0⟩:=rk1 H2.out;have cz:=zaf HXX.out;have c0:=cell_of_row W _ 0 _ _ _ HXX.out;have c1:=cell_of_row W _ 1 _ _ _ HXX.out;have c2:=cell_of_row W _ 2 _ _ _ HXX.out;have c3:=cell_of_row W _ 3 _ _ _ HXX.out;have c4:=cell_of_row W _ 4 _ _ _ HXX.out;have c5:=cell_of_row W _ 5 _ _ _ HXX.out;have c6:=cell_of_row W _ 6 _ _ _ HXX.out;have c7:=cell_of_row W _ 7 _ _ _ HXX.out;have c8:=cell_of_row W _ 8 _ _ _ HXX.out;have c9:=cell_of_row W _ 9 _ _ _ HXX.out;simp only [List.getElem?_toArray,List.getElem?_cons_zero,List.getElem?_cons_succ] at c0 c1 c2 c3 c4 c5 c6 c7 c8 c9;gi_wp2_with (refine ⟨trivial,?_⟩;gi_at_call 63;refine (CallsIn.inRound l2 (callsIn_wide.2 FR.out)).mono ?_;rintro e' w' ⟨rfl,hb⟩);exact ⟨KeepsFrom.of_grownBy (zls hb) (fun j e=>by cases e),⟨fun k hk=>hb.block k (by have:=HII.out.size;omega),hb.size⟩,HII.out.plan.on hb,zab hb H2.out,zab hb H4.out,fun y hy=>by
    rcases List.mem_append.1 hy with h | h
    ·exact HII.out.none y h
    ·rw [List.mem_singleton.1 h];exact HBD.out.symm,HII.out.low.trans (hb.mono hlw),Nat.le_trans HII.out.size hb.size⟩
  |true =>
   obtain ⟨fz,f0⟩:=rk1 H2.out;have cz:=zaf HXX.out;have c0:=cell_of_row W _ 0 _ _ _ HXX.out;have c1:=cell_of_row W _ 1 _ _ _ HXX.out;have c2:=cell_of_row W _ 2 _ _ _ HXX.out;have c3:=cell_of_row W _ 3 _ _ _ HXX.out;have c4:=cell_of_row W _ 4 _ _ _ HXX.out;have c5:=cell_of_row W _ 5 _ _ _ HXX.out;have c6:=cell_of_row W _ 6 _ _ _ HXX.out;have c7:=cell_of_row W _ 7 _ _ _ HXX.out;have c8:=cell_of_row W _ 8 _ _ _ HXX.out;have c9:=cell_of_row W _ 9 _ _ _ HXX.out;simp only [List.getElem?_toArray,List.getElem?_cons_zero,List.getElem?_cons_succ] at c0 c1 c2 c3 c4 c5 c6 c7 c8 c9;gi_wp2_with (refine ⟨trivial,?_⟩;gi_at_call 63;refine (CallsIn.inRound l2 (callsIn_wide.2 FR.out)).mono ?_;rintro e' w' ⟨rfl,hb⟩;have h2':=cell_of_row w' _ 0 _ _ _ (zab hb H2.out);have hc':=cell_of_row w' _ 0 _ _ _ (zab hb HXX.out);simp only [List.getElem?_toArray,List.getElem?_cons_zero] at h2' hc');refine ⟨trivial,?_⟩
   gi_at_call 64
   refine (CallsIn.inRound l2 (callsIn_wide.2 (DR.out _ (HII.out.plan.on hb)))).mono ?_;rintro e2 w2 ⟨rfl,hpl,hk3⟩;have H42:=(hk3.2 (w.heap.size+1) (Nat.lt_of_lt_of_le (zaf H4.out) hb.size) (by omega) (by omega) (by omega)).trans (zab hb H4.out);have h4c:=cell_of_row w2 _ 0 _ _ _ H42;have h4f:=frozen_of_row w2 _ 0 _ _ H42;simp only [List.getElem?_toArray,List.getElem?_cons_zero] at h4c;have HPLW:=zH hpl;have HK3:=zH hk3;have H42:=zH H42;clear hpl hk3 h2' hc';gi_wp2;refine ⟨((KeepsFrom.of_grownBy (zls hb) (fun j e=>by cases e)).trans (HK3.out.from (by omega) (by omega) (by omega))).trans ((KeepsOthers.setCell _ _ _).from _),rfl,⟨pre,x,rfl,HII.out.none,HBD.out.symm,?_⟩,?_,?_,?_⟩
   ·have:=zdl.setB H42.out (.bool true) HPLW.out;rw [HXE.out];exact this
   ·have:=zbl (i:=0) (v:=.bool true) H42.out;simpa using this
   ·have hkk:=(zed.of_below HII.out.low).trans ((zed.of_below hb).trans HK3.out);exact ⟨hkk.1.setCell (p:=⟨w.heap.size+1,0,none⟩) (Nat.zero_le _) _,fun k hk e1 e2 e3=>(Below.heap_setCell _ _ _ _ (by simp only;omega)).trans (hkk.2 k hk e1 e2 e3)⟩
   ·simpa using Nat.le_trans (Nat.le_trans HII.out.size hb.size) HK3.out.1.size
 case done =>
  rintro D ys W hD rfl hI hK;have HII:=zH hI;have hlt4:w.heap.size+1<D:=Nat.lt_of_lt_of_le (Nat.lt_of_lt_of_le (zaf hI0.h4) zR) hD;have h4c:=cell_of_row W _ 0 _ _ _ hI.h4;have h4f:=frozen_of_row W _ 0 _ _ hI.h4;simp only [List.getElem?_toArray,List.getElem?_cons_zero] at h4c;have HNO:=zH (show zhd l tol=none from zafp HPM.out fun d hd=>by
   obtain ⟨x,hx,rfl⟩:=List.mem_map.1 hd
   obtain ⟨y,hy,rfl⟩:=List.mem_map.1 hx
   exact hI.none y hy)
  have H4:=zH hI.h4;clear hI;gi_wp2;have hK1:(W.setCell ⟨w.heap.size+1,0,none⟩ (.bool false)).heap[D]?=some (.deferred (some [])):=(Below.heap_setCell _ _ _ _ (by simp only;omega)).trans hK;have hr4:=zbl (i:=0) (v:=.bool false) H4.out;have hc4:(W.setCell ⟨w.heap.size+1,0,none⟩ (.bool false)).cell? ⟨w.heap.size+1,0,none⟩=some (.bool false):=by rw [cell_of_row _ _ 0 _ _ _ hr4];rfl
  have hno:zbg (W.setCell ⟨w.heap.size+1,0,none⟩ (.bool false)) (some D):=fun r e=>by injection e with e;subst e;exact ⟨_,hK1,rfl⟩
  have hcD:=cell_kept hc4 (grownBy_putObj' _ D (.deferred none)) hno;refine ⟨by simp,.inl ⟨_,_,rfl,run_takeDeferred hK1,?_⟩⟩;refine ⟨.bool false,by simp [results,Tryz.results33,go_sem,hcD],?_⟩;have hpl:=(zdl.setB H4.out (.bool false) HII.out.plan).grown (grownBy_putObj' _ D (.deferred none)) hno (zdh (by omega)) (zdh (by omega)) (zdh (by omega));have hbl:=(HII.out.low.setCell (p:=⟨w.heap.size+1,0,none⟩) (by simp) (.bool false)).trans (belowK_b (w:=w) zR _ D _ (.deferred none) (by omega) hK1 rfl rfl);unfold zur;rw [HNO.out];exact ⟨⟨rfl,hpl⟩,zed.of_below hbl⟩
 case stop =>
  rintro D c pre W hD hpre ⟨rfl,hX⟩ hK;have hlt4:w.heap.size+1<D:=Nat.lt_of_lt_of_le (Nat.lt_of_lt_of_le (zaf hI0.h4) zR) hD;have h4c:=cell_of_row W _ 0 _ _ _ hX.h4;simp only [List.getElem?_toArray,List.getElem?_cons_zero] at h4c;obtain ⟨p0,x,e1,e2,e3,e4⟩:=hX.ex;have HSO2:=zH (show zhd l tol=some x.1.1.1 by
   subst e1
   obtain ⟨q,hq⟩:=hpre
   have hget:(S'.map (·.1)).map (·.1)=(p0.map fun y=>y.1.1)++x.1.1 :: (q.map fun y=>y.1.1):=by
    rw [←hq,List.map_map]
    simp only [List.map_append,List.map_cons,List.append_assoc,List.cons_append,List.nil_append]
    rfl
   refine zacz HPM.out HSO.out (k:=p0.length) (c:=x.1.1) ?_ e3 (fun j d hj hd=>?_)
   ·rw [hget,List.getElem?_append_right (by simp)];simp
   ·rw [hget,List.getElem?_append_left (by simpa using hj),List.getElem?_map] at hd
    obtain ⟨y,hy,rfl⟩:=Option.map_eq_some_iff.1 hd
    exact e2 y (zM hy))
  have HXX:=zH hX;have HP4:=zH e4;clear hX e1 e2 e3 e4;gi_wp2;have hno:zbg W (some D):=fun r e=>by injection e with e;subst e;exact ⟨_,hK,rfl⟩
  have hcD:=cell_kept h4c (grownBy_putObj' W D (.deferred none)) hno;refine ⟨by simp,.inl ⟨_,_,rfl,run_takeDeferred hK,?_⟩⟩;refine ⟨.bool true,by simp [results,Tryz.results33,go_sem,hcD],?_⟩;have hpl:=HP4.out.grown (grownBy_putObj' W D (.deferred none)) hno (zdh (by omega)) (zdh (by omega)) (zdh (by omega));have hgb:=grownBy_putObj' W D (.deferred none);unfold zur;rw [HSO2.out];exact ⟨⟨rfl,hpl⟩,HXX.out.low.1.grown hgb (Nat.zero_le _) (fun _ _=>Nat.zero_le _),fun k hk a1 a2 a3=>(hgb.block k (Nat.lt_of_lt_of_le hk HXX.out.low.1.size) (zdh (by omega))).trans (HXX.out.low.2 k hk a1 a2 a3)⟩
end Go.Proofs.YtibpaaajghbkoaaGreat

namespace Go.Proofs.YtibpaaajghbkoaaGreat
open Go.RowKit Go.Maps Go.Sort Go.ChangeMaps
def zape (ord:List ByteArray) (b:Nat) (W:World):Nat:=match W.heap[b]? with
 |some (.map es _)=>(ord.filter fun id=>es.toList.any fun e=>match e.key with | .string s=>decide (s=id) | _=>false).length
 |_=>0
theorem zabo {W:World} {b:Nat} {l:List ObjD} {ord:List ByteArray} (h:zcu W b (atO l)) (hok:zas l=true) (hn:ord.Nodup) (hs:(l.map (·.id)).Sublist ord):zape ord b W=l.length:=by
 obtain ⟨O,⟨es,clock,h1,_,_,h4,_⟩,h2,_,_⟩:=h;unfold zape;rw [h1];simp only;have e1:∀id,(es.toList.any fun e=>match e.key with | .string s=>decide (s=id) | _=>false)=(atO l id).isSome:=fun id=>by
  rw [←h2 id,Option.isSome_map];rw [Bool.eq_iff_iff,List.any_eq_true];constructor
  ·rintro ⟨e,he,hk⟩;obtain ⟨j,hj⟩:=List.getElem?_of_mem he;obtain ⟨p,hp,e1,_⟩:=zhe h4 hj;rw [e1] at hk;have hk:p.1=id:=of_decide_eq_true hk;cases hg:aget id O with
   |some _=>rfl
   |none=>exact absurd hk (zjm.1 hg p (zM hp))
  ·intro hk;obtain ⟨x,hx⟩:=Option.isSome_iff_exists.1 hk;obtain ⟨e,he,e1,_⟩:=zjc h4 (zdy hx);exact ⟨e,he,by rw [e1];simp⟩
 have e2:(ord.filter fun id=>es.toList.any fun e=>match e.key with | .string s=>decide (s=id) | _=>false)=ord.filter fun id=>(atO l id).isSome:=List.filter_congr fun id _=>e1 id;rw [e2];have h5:=zqg hok hn hs (fun o=>some o);have h6:l.filterMap (fun o=>some o)=l:=by
  have:∀L:List ObjD,L.filterMap (fun o=>some o)=L:=fun L=>by induction L with | nil=>rfl | cons a L ih=>rw [List.filterMap_cons,ih]
  exact this l
 rw [h6] at h5;have h7:∀A:List ByteArray,(A.filter fun id=>(atO l id).isSome).length=(A.filterMap fun id=>(atO l id).bind fun o=>some o).length:=fun A=>by
  induction A with
  |nil=>rfl
  |cons a A ih =>
   rw [List.filter_cons,List.filterMap_cons];cases hc:atO l a with
   |none=>simpa using ih
   |some o=>simpa using ih
 rw [h7,h5]
theorem zlg {W:World} {b:Nat} {x:Value} {t:TypeId} (hb:W.heap[b]?=some (.cells #[x] t (0,0))) (hx:∀s,x≠.string s) (u:Value) {c o:Nat} {s:ByteArray} (h:W.cell? ⟨c,o,none⟩=some (.string s)):(W.setCell ⟨b,0,none⟩ u).cell? ⟨c,o,none⟩=some (.string s):=by
 by_cases e:c=b
 ·subst e;rw [cell_of_row W c o _ _ _ hb] at h
  match o,h with
  |0,h=>injection h with h;exact absurd h (hx s)
  |o+1,h=>simp at h
 ·exact (World.cell?_of_block (Below.heap_setCell W ⟨b,0,none⟩ u c e)).trans h
theorem zgh.setV {W:World} {b:Nat} {x:Value} {t:TypeId} (hb:W.heap[b]?=some (.cells #[x] t (0,0))) (hx:∀s,x≠.string s) (u:Value) {y:ObM} (h:zgh W y):zgh (W.setCell ⟨b,0,none⟩ u) y:=by
 obtain ⟨⟨⟨a,cap,e,h1,h2,h3⟩,⟨a',cap',e',h1',h2',h3'⟩,hz⟩,hcap⟩:=h;refine ⟨⟨⟨a,cap,e,h1,h2,fun hp=>?_⟩,⟨a',cap',e',h1',h2',fun hp=>?_⟩,hz⟩,hcap⟩
 ·obtain ⟨bb,off,ha,hc⟩:=h3 hp;exact ⟨bb,off,ha,fun i s hs=>zlg hb hx u (hc i s hs)⟩
 ·obtain ⟨bb,off,ha,hc⟩:=h3' hp;exact ⟨bb,off,ha,fun i s hs=>⟨zlg hb hx u (hc i s hs).1,zlg hb hx u (hc i s hs).2⟩⟩
def zaqe (l:List ObjD) (tol:Int) (w:World) (e:Ending) (w':World):Prop:=∃v',e=.returned (.agg #[v'])∧ObjC w' v' (simP l tol)∧Below w.heap.size w w'
theorem zait {l:List ObjD} (h:zas l=true):(l.map (·.id)).Nodup:=by rw [List.nodup_iff_pairwise_ne,List.pairwise_map,List.pairwise_iff_getElem];intro i j hi hj hij e;have:=(zcs h).2 i j _ _ hij (List.getElem?_eq_getElem hi) (List.getElem?_eq_getElem hj);rw [e,zbp] at this;cases this
theorem zamr (l:List ObjD) (id:ByteArray):((zaz l id).map (·.id)).Sublist (l.map (·.id)):=by unfold zaz;rw [List.map_map];exact (List.filter_sublist).map _
set_option maxRecDepth 100000 in
set_option maxHeartbeats 4000000 in
theorem ziw (v:Value) (l:List ObjD) (tol:Int) (w:World) (hv:ObjC w v l) (hl:l.length≤1000) (hkl:(zau l).length≤20000) :
  Calls Tryz.prog 12 #[.agg #[v],.int .i64 tol] w (zaqe l tol w):=by
 have HV:=zH hv;obtain ⟨a,cap,hva⟩:∃a cap,v=.slice a l.length cap:=by obtain ⟨L,⟨a,cap,e,_⟩,h2,_⟩:=hv;exact ⟨a,cap,by rw [e,←h2,List.length_map]⟩
 subst hva;have B1:Below w.heap.size w ((w.alloc (.cells #[.slice a l.length cap] 24)).alloc (.cells #[.slice none 0 0] 24)):=(by repeat' (first | exact Below.refl _ _ | refine Below.drew ?_ | refine Below.drewN' ?_ | refine Below.setCell ?_ (by first | omega | (simp;done) | exact Below.size (by assumption) | (simp;omega)) _ | refine Below.alloc ?_ (by first | omega | (simp;done) | exact Below.size (by assumption) | (simp;omega)) _ | refine Below.trans ?_ (Below.mono (by assumption) ?_) | (first | omega | (simp;done) | exact Below.size (by assumption) | (simp;omega))));have OF:=zH (zaow _ l _ (hv.later B1) hl hkl);clear hv;go_enter Tryz.func12,Tryz.ntmps12;go_wp2_with fail;generalize hw1:(w.alloc _).alloc _=w1;have H2:=gA21 hw1;have H4:=gA22 hw1;rw [hw1] at OF B1;have hz1:w1.heap.size=w.heap.size+2:=by rw [←hw1];simp
 clear hw1;refine OF.out.mono ?_;rintro e w2 ⟨hb,⟨hf,rfl⟩ | ⟨hf,bp,bo,bn,br,vo,rfl,hpl,g1,g2,g3⟩⟩
 ·have BW:=zH (zac B1 (by omega) hb);have H2:=zH (zab hb H2);have H4:=zH (zab hb H4);have HSM:=zH (zyf (tol:=tol) hf);clear hb B1 hf OF;obtain ⟨mz,m0⟩:=rk1 H2.out;obtain ⟨rz,r0⟩:=rk1 H4.out;have rf0:=frozen_of_row w2 _ 0 _ _ H4.out;go_wp2;refine bodyPost_ret (v:=.agg #[.slice a l.length cap]) ?_ rfl ⟨_,rfl,?_,?_⟩
  ·simp [results,Tryz.results12,go_sem,r0]
  ·rw [HSM.out];exact HV.out.later (BW.out.setCell (p:=⟨w.heap.size+1,0,none⟩) (by simp) _)
  ·exact BW.out.setCell (p:=⟨w.heap.size+1,0,none⟩) (by simp) _
 ·have BW:=zH (zac B1 (by omega) hb);have H2:=zH (zab hb H2);have H4:=zH (zab hb H4);have HPL:=zH hpl;have HF:=zH hf;have hz2:=hb.size;clear hb B1 OF hpl hf;by_cases ht:tol<0
  ·have htb:decide (tol<0)=true:=decide_eq_true ht;have HSM:=zH (show simP l tol=l by unfold simP;rw [if_neg (fun c=>by omega)]);clear ht;obtain ⟨mz,m0⟩:=rk1 H2.out;obtain ⟨rz,r0⟩:=rk1 H4.out;have rf0:=frozen_of_row w2 _ 0 _ _ H4.out;go_wp2;refine bodyPost_ret (v:=.agg #[.slice a l.length cap]) ?_ rfl ⟨_,rfl,?_,?_⟩
   ·simp [results,Tryz.results12,go_sem,r0]
   ·rw [HSM.out];exact HV.out.later (BW.out.setCell (p:=⟨w.heap.size+1,0,none⟩) (by simp) _)
   ·exact BW.out.setCell (p:=⟨w.heap.size+1,0,none⟩) (by simp) _
  ·have htb:decide (tol<0)=false:=decide_eq_false ht;have HSM:=zH (show simP l tol=allP l tol from zyg HF.out (by omega));have hok:=(zdb.1 HF.out).1;have HND:=zH (zait hok);have hol:(l.map (·.id)).length≤1000000:=(by rw [List.length_map];omega);obtain ⟨ord,hord⟩:∃z,z=l.map (·.id):=⟨_,rfl⟩;rw [←hord] at HPL HND hol;have HORD:=zH hord;clear hord ht;obtain ⟨N,hN⟩:∃N,ord.length=N:=⟨_,rfl⟩;have HNL:=zH hN;have hNb:N≤1000000:=(by rw [←hN];exact hol);clear hN;obtain ⟨i0,hi,hi0,hi1,hi2⟩:=info_parts zabw;go_wp2_with fail;go_loopw [22] (fun _ wr=>∃l':List ObjD,zdl wr bp ord l' bo bn br vo∧fitP l'=true∧allP l' tol=allP l tol∧(l'.map (·.id)).Sublist ord∧Below w.heap.size w wr∧wr.heap[w.heap.size+1]?=some (.cells #[.slice none 0 0] 24)) (fun _ wr=>zape ord bo wr);case atStart=>exact ⟨l,HPL.out,HF.out,rfl,by rw [HORD.out];exact List.Sublist.refl _,BW.out,H4.out⟩
   case round =>
    obtain ⟨wq,rfl⟩:∃z:World,z=wr:=⟨_,rfl⟩;obtain ⟨l',hpl,hf',hall,hsub,hbw,h4⟩:=hrel;have hok':=(zdb.1 hf').1;have HM:=zH (zabo hpl.objs hok' HND.out hsub);have ST:=zH (zakw bp ord l' bo bn br vo tol wq hpl hok' HND.out hsub hol);have HPQ:=zH hpl;have HF2:=zH hf';have HALL:=zH hall;have HSUB:=zH hsub;have HBW:=zH hbw;have H4q:=zH h4;clear hpl hf' hall hsub hbw h4 hok';go_wp2_with fail;refine ST.out.mono ?_;rintro e w3 ⟨hres,hk3⟩;have B3:=zH (HBW.out.trans (hk3.below (B:=w.heap.size) (by omega) (by omega) (by omega) HBW.out.size));have H43:=zH ((hk3.2 (w.heap.size+1) (zaf H4q.out) (by omega) (by omega) (by omega)).trans H4q.out);cases hs:zhd l' tol with
    |some id =>
     rw [hs] at hres;obtain ⟨rfl,hp3⟩:=hres;have HP3:=zH hp3;have hfd:=zug HF2.out hs;have HFD:=zH hfd;have HA3:=zH (show allP (zaz l' id) tol=allP l tol by rw [←zup hs];exact HALL.out);have HS3:=zH ((zamr l' id).trans HSUB.out);have HM3:=zH (zabo hp3.objs (zdb.1 hfd).1 HND.out HS3.out);obtain ⟨od,hod,eod,-⟩:=zhp hs;have HLT:=zH (znk (id:=id) ⟨od,hod,eod⟩);clear hp3 hk3 hs hfd hod eod od ST;go_wp2;go_roundw;case rel=>exact ⟨zaz l' id,HP3.out,HFD.out,HA3.out,HS3.out,B3.out,H43.out⟩
     case measure=>rw [HM.out,HM3.out];exact HLT.out
    |none =>
     rw [hs] at hres;obtain ⟨rfl,hp3⟩:=hres;have HRES:=zH (show simP l tol=l' by rw [HSM.out,←HALL.out,zuq hs]);have HP3:=zH hp3;have hok':=(zdb.1 HF2.out).1;have HCP:=zH (zqg hok' HND.out HSUB.out (fun o=>some o));obtain ⟨ao,co,hvo,_,hzs,hco⟩:=hp3.ord;rw [HNL.out] at hvo hco;subst hvo;have HZS:=zH hzs;have HCO:=zH hco;have HR3:=zH hp3.row;clear hp3 hk3 hs hzs hco ST hok';obtain ⟨pz,p0,p1,p2,p3⟩:=rk4 HR3.out;go_wp2_with fail;clear p0 p1 p2 p3 pz;generalize hwt:w3.alloc _=wt;have BT:=gB1 hwt;have H6:=gA11 hwt;clear hwt;obtain ⟨b6,hb6⟩:∃z,z=w3.heap.size:=⟨_,rfl⟩;rw [←hb6] at H6 ⊢;have HB6:=zH hb6;clear hb6;go_loopw [28] (fun i wr=>∃(k:Nat) (vO:Value) (L':List ObM),i=.int .i64 k∧k≤N∧wr.heap[b6]?=some (.cells #[vO] 24)∧wr.ownsRow w3.heap.size 36 6 vO L'.length (L'.flatMap zgw)∧L'.map (·.1)=(ord.take k).filterMap (fun id=>(atO l' id).bind fun o=>some o)∧(∀x∈L',zgh w3 x)∧Below w3.heap.size w3 wr) (fun i _=>N - (intOf i).toNat);case atStart=>exact ⟨0,_,[],rfl,Nat.zero_le _,H6,World.ownsRow_nil _ _ _ _,rfl,(fun x hx=>by cases hx),BT⟩
     case round =>
      obtain ⟨wo,rfl⟩:∃z:World,z=wr:=⟨_,rfl⟩;obtain ⟨k,vO,L',rfl,hk,h6,hown,hmap,hcap,hbo⟩:=hrel;have H6o:=zH h6;have HO:=zH hown;have HMP:=zH hmap;have HCAP:=zH hcap;have hzo:=hbo.size;have hll:L'.length≤k:=by have:=congrArg List.length hmap;rw [List.length_map] at this;rw [this];exact Nat.le_trans (List.length_filterMap_le _ _) (by rw [List.length_take];omega)
      have HPO:=zH (HP3.out.on hbo);clear h6 hown hmap hcap;obtain ⟨aO,nO,cO,hvO⟩:∃a n c,vO=.slice a n c:=⟨_,_,_,zcy HO.out⟩;subst hvO;by_cases hlt:k<N
      ·obtain ⟨id,hid⟩:∃s,ord[k]?=some s:=⟨ord[k]'(by rw [HNL.out];exact hlt),List.getElem?_eq_getElem _⟩;obtain ⟨b,off,ha,hcell⟩:=HCO.out (by omega);subst ha;have c0:=cell_later hbo (hcell k id hid);have hz:=HZS.out id (zM hid);have HSN:=zH (show (ord.take (k+1)).filterMap (fun id=>(atO l' id).bind fun o=>some o)=(ord.take k).filterMap (fun id=>(atO l' id).bind fun o=>some o)++(match atO l' id with | none=>[] | some o=>[o]) by
        rw [zbn hid,List.filterMap_append]
        congr 1
        cases hc:atO l' id<;>simp [hc])
       have HRo:=zH HPO.out.row;clear hcell hid;cases hat:atO l' id with
       |none =>
        have hlo:=HPO.out.objs.lookNone hat hz wo (Below.refl _ _);have HM2:=zH (show L'.map (·.1)=(ord.take (k+1)).filterMap (fun id=>(atO l' id).bind fun o=>some o) by rw [HSN.out,hat,HMP.out];simp);clear hat;obtain ⟨pz,p0,p1,p2,p3⟩:=rk4 HRo.out;go_wp2;go_roundw;case rel=>exact ⟨k+1,_,L',by go_num,by omega,zao H6o.out,HO.out.alloc _,HM2.out,HCAP.out,hbo.alloc hzo _⟩
        case measure=>simp [intOf];omega
       |some o =>
        obtain ⟨vr2,vt2,hcap2,-,hlo⟩:=HP3.out.objs.look hat hz;have hlo1:=hlo wo hbo;obtain ⟨ay,capy,ev1,_⟩:=(show zaj w3 vr2 o.refs from hcap2.1.1);obtain ⟨ty,capz,ev2,_⟩:=(show zba w3 vt2 o.tags from hcap2.1.2.1);subst ev1 ev2;have HM2:=zH (show (L'++[((o,.slice ay o.refs.length capy,.slice ty o.tags.length capz):ObM)]).map (·.1)=(ord.take (k+1)).filterMap (fun id=>(atO l' id).bind fun o=>some o) by rw [HSN.out,hat,List.map_append,HMP.out];rfl);have HC2:=zH (show ∀x∈L'++[((o,.slice ay o.refs.length capy,.slice ty o.tags.length capz):ObM)],zgh w3 x from fun x hx=>by
         rcases List.mem_append.1 hx with h | h
         ·exact HCAP.out x h
         ·rw [List.mem_singleton.1 h];exact hcap2)
        have HONE:=zH (hcap2.1.one);clear hat hlo hcap2;obtain ⟨pz,p0,p1,p2,p3⟩:=rk4 HRo.out;obtain ⟨qz,q0⟩:=rk1 H6o.out;have HO2:=zH ((HO.out.alloc (.cells #[.string o.id,.int .i64 o.kind,.int .i64 o.x,.int .i64 o.y,.slice ay o.refs.length capy,.slice ty o.tags.length capz] 36)).alloc (.cells #[.string o.id,.int .i64 o.kind,.int .i64 o.x,.int .i64 o.y,.slice ay o.refs.length capy,.slice ty o.tags.length capz] 36));have H62:=zH (zao (o':=.cells #[.string o.id,.int .i64 o.kind,.int .i64 o.x,.int .i64 o.y,.slice ay o.refs.length capy,.slice ty o.tags.length capz] 36) (zao (o':=.cells #[.string o.id,.int .i64 o.kind,.int .i64 o.x,.int .i64 o.y,.slice ay o.refs.length capy,.slice ty o.tags.length capz] 36) H6o.out));go_wp2_with (at_builtin;refine wpList_append_own _ rfl _ _ 22 rfl w3.heap.size 36 i0 (.agg #[.string ⟨#[]⟩,.int .i64 0,.int .i64 0,.int .i64 0,.slice none 0 0,.slice none 0 0]) 6 88 Tryz.underlying22 hi hi0 hi1 hi2 rfl (by decide) _ _ _ rfl HO2.out ⟨wo.heap.size+1,0,none⟩ 1 1 (zgw (o,.slice ay o.refs.length capy,.slice ty o.tags.length capz)) rfl rfl (zfs wo _ _ _) HONE.out (by unfold maxLen;omega) (by omega) (by simp;omega) ?_;intro v' w9 hown9 hgrow9 _;obtain ⟨a9,n9,c9,hv9⟩:∃a n c,v'=.slice a n c:=⟨_,_,_,zcy hown9⟩;subst hv9;have HO9:=zH hown9;have HG9:=zH hgrow9;have H69:=zH (zak hgrow9 H62.out (zcn H62.out HO2.out (by decide)));clear hown9 hgrow9;have y0:=cell_of_row w9 _ 0 _ _ _ H69.out;have yf0:=frozen_of_row w9 _ 0 _ _ H69.out;simp only [List.getElem?_toArray,List.getElem?_cons_zero] at y0);go_roundw;case rel =>
         have hset:=zal (g:=b6) [.slice a9 n9 c9] 0 w9;have hr:=zbl (i:=0) (v:=.slice a9 n9 c9) H69.out;have hb2:=(hbo.alloc hzo (.cells #[.string o.id,.int .i64 o.kind,.int .i64 o.x,.int .i64 o.y,.slice ay o.refs.length capy,.slice ty o.tags.length capz] 36)).alloc (by simp;omega) (.cells #[.string o.id,.int .i64 o.kind,.int .i64 o.x,.int .i64 o.y,.slice ay o.refs.length capy,.slice ty o.tags.length capz] 36);have hb9:=hb2.grown HG9.out hb2.size (fun j hj=>(zap HO2.out j hj).1);refine ⟨k+1,.slice a9 n9 c9,_,by go_num,by omega,by simpa using hr,?_,HM2.out,HC2.out,?_⟩
         ·have h1:=HO9.out.kept hset (Or.inr (fun c=>zcn H69.out HO9.out (by decide) c.symm));simp only [World.setCells] at h1;rw [List.length_append,List.flatMap_append];simpa using h1
         ·exact hb9.grown hset hb9.size (fun j hj=>by injection hj with hj;have:=HB6.out;omega)
        case measure=>simp [intOf];omega
      ·obtain rfl:k=N:=(by omega);have H4o:=zH (zab hbo H43.out);have hlx:=zaf H43.out;obtain ⟨qz,q0⟩:=rk1 H6o.out;obtain ⟨rz,r0⟩:=rk1 H4o.out;have rf0:=frozen_of_row wo _ 0 _ _ H4o.out;go_wp2;have hset:=zal (g:=w.heap.size+1) [.slice aO nO cO] 0 wo;have hown2:=HO.out.kept hset (Or.inr (fun c=>zcn H4o.out HO.out (by decide) c.symm));refine bodyPost_ret (v:=.agg #[.slice aO nO cO]) ?_ rfl ⟨_,rfl,⟨L',RowE.of_own zjj rfl hown2,?_,fun x hx=>((HCAP.out x hx).later hbo).setV H4o.out (by simp) _⟩,?_⟩
       ·simp [results,Tryz.results12,go_sem,r0]
       ·rw [HRES.out,HMP.out,List.take_of_length_le (by rw [HNL.out];exact Nat.le_refl _)];have e:∀A:List ObjD,A.filterMap (fun o=>some o)=A:=fun A=>by induction A with | nil=>rfl | cons q A ih=>rw [List.filterMap_cons,ih]
        rw [HCP.out,e]
       ·exact ((B3.out.trans (hbo.mono B3.out.size)).setCell (p:=⟨w.heap.size+1,0,none⟩) (by simp) _)
end Go.Proofs.YtibpaaajghbkoaaGreat
