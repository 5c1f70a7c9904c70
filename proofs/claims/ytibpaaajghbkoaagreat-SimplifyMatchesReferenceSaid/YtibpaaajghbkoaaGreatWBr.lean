/-    -/
import Derived.Test.YtibpaaajghbkoaaGreatWAi
import Derived.Test.YtibpaaajghbkoaaGreatWBq
import Derived.Test.YtibpaaajghbkoaaGreatWBf
import Derived.Test.YtibpaaajghbkoaaGreatWAm
import Derived.Deep.CutBlock
import Derived.Deep.CutRange
namespace Go.Proofs.YtibpaaajghbkoaaGreat
def ownX (l:List ObjD) (p q:KeyD) (n:Nat):List KeyD:=((ownF l l p).take n).flatMap fun x=>(ownF l l q).map fun y=>key2 x y
def zyy (l:List ObjD) (p q:KeyD):List KeyD:=if zdj l p q=true then ownX l p q (ownF l l p).length else []
def endA (p:KeyD) (x:Nat):ByteArray:=if x % 2=0 then p.1 else p.2
def endB (q:KeyD) (x:Nat):ByteArray:=if x / 2=0 then q.1 else q.2
def zaox (l:List ObjD) (p q:KeyD) (x:Nat):List KeyD:=if endA p x≠endB q x∧ptO l (endA p x)=ptO l (endB q x) then [key2 (endA p x) (endB q x)] else []
def zje (l:List ObjD) (p q:KeyD) (n:Nat):List KeyD:=(List.range n).flatMap (zaox l p q)
def atK (l:List ObjD) (i:Nat):KeyD:=((zau l)[i]?).getD (⟨#[]⟩,⟨#[]⟩)
def ownR (l:List ObjD) (p:KeyD) (n:Nat):List KeyD:=(List.range n).flatMap fun k=>zyy l p (atK l k)
def zqk (l:List ObjD) (p:KeyD) (n:Nat):List KeyD:=(List.range n).flatMap fun k=>zje l p (atK l k) 4
def zaaz (l:List ObjD) (i:Nat):List KeyD:=ownR l (atK l i) i++zqk l (atK l i) (i+1)
def allN (l:List ObjD) (n:Nat):List KeyD:=(List.range n).flatMap (zaaz l)
theorem ziz {β:Type} (f:Nat→List β) (n:Nat):(List.range (n+1)).flatMap f=(List.range n).flatMap f++f n:=by rw [List.range_succ,List.flatMap_append];simp
theorem zafy (ks:List KeyD) (k:KeyD):setK (ks++[k])=insK k (setK ks):=by unfold setK;rw [List.foldl_append];rfl
theorem zags {l:List ObjD} {p q:KeyD} {n:Nat} {x:ByteArray} (h:(ownF l l p)[n]?=some x):ownX l p q (n+1)=ownX l p q n++(ownF l l q).map fun y=>key2 x y:=by unfold ownX;rw [List.take_add_one,h,List.flatMap_append];simp
theorem zid {l:List ObjD} {i:Nat} {p:KeyD} (h:(zau l)[i]?=some p):atK l i=p:=by unfold atK;rw [h];rfl
theorem zagt {l:List ObjD} {p q key:KeyD}:key∈zyy l p q↔OwnN l p q key:=by
 unfold zyy OwnN ownX;split
 ·rename_i hc;simp only [hc,true_and,List.take_length,List.mem_flatMap,List.mem_map];constructor
  ·rintro ⟨x,hx,y,hy,rfl⟩;exact ⟨x,hx,y,hy,rfl⟩
  ·rintro ⟨x,hx,y,hy,rfl⟩;exact ⟨x,hx,y,hy,rfl⟩
 ·rename_i hc;simp [hc]
theorem zahf {l:List ObjD} {p q key:KeyD} {x:Nat}:key∈zaox l p q x↔endA p x≠endB q x∧ptO l (endA p x)=ptO l (endB q x)∧key=key2 (endA p x) (endB q x):=by
 unfold zaox;split
 ·rename_i h;simp [h.1,h.2]
 ·rename_i h;constructor
  ·intro h';cases h'
  ·rintro ⟨h1,h2,_⟩;exact absurd ⟨h1,h2⟩ h
theorem zadz {l:List ObjD} {p q key:KeyD}:key∈zje l p q 4↔zaaf l p q key:=by
 unfold zje zaaf;simp only [List.mem_flatMap,List.mem_range,zahf];constructor
 ·rintro ⟨x,_,h1,h2,h3⟩;refine ⟨_,_,?_,?_,h1,h2,h3⟩
  ·unfold endA;split
   ·exact Or.inl rfl
   ·exact Or.inr rfl
  ·unfold endB;split
   ·exact Or.inl rfl
   ·exact Or.inr rfl
 ·rintro ⟨a,b,ha,hb,h1,h2,h3⟩;have hx:∃x,x<4∧endA p x=a∧endB q x=b:=by
   rcases ha with rfl | rfl<;>rcases hb with rfl | rfl
   ·exact ⟨0,by omega,rfl,rfl⟩
   ·exact ⟨2,by omega,rfl,rfl⟩
   ·exact ⟨1,by omega,rfl,rfl⟩
   ·exact ⟨3,by omega,rfl,rfl⟩
  obtain ⟨x,hx,rfl,rfl⟩:=hx;exact ⟨x,hx,h1,h2,h3⟩
theorem zanh {l:List ObjD} {key:KeyD}:key∈allN l (zau l).length↔key∈badP l:=by
 rw [zand];unfold allN zaaz ownR zqk;simp only [List.mem_flatMap,List.mem_range,List.mem_append,zagt,zadz];constructor
 ·rintro ⟨i,hi,⟨k,hk,h⟩ | ⟨k,hk,h⟩⟩
  ·have h1:=List.getElem?_eq_getElem hi;have h2:=List.getElem?_eq_getElem (show k<(zau l).length by omega);rw [zid h1,zid h2] at h;exact Or.inr ⟨i,k,_,_,hk,h1,h2,h⟩
  ·have h1:=List.getElem?_eq_getElem hi;have h2:=List.getElem?_eq_getElem (show k<(zau l).length by omega);rw [zid h1,zid h2] at h;exact Or.inl ⟨i,k,_,_,by omega,h1,h2,h⟩
 ·rintro (⟨i,k,p,q,hik,hi,hk,h⟩ | ⟨i,k,p,q,hik,hi,hk,h⟩)
  ·exact ⟨i,(List.getElem?_eq_some_iff.1 hi).1,Or.inr ⟨k,by omega,by rw [zid hi,zid hk];exact h⟩⟩
  ·exact ⟨i,(List.getElem?_eq_some_iff.1 hi).1,Or.inl ⟨k,by omega,by rw [zid hi,zid hk];exact h⟩⟩
theorem zaff (l:List ObjD):setK (allN l (zau l).length)=zdf l :=
 zkn (zdm _) (zmh l) fun x=>by rw [zlp,zanh,zfr]
def zaqd (ks:List KeyD) (k:KeyD) (i:Nat):Prop:=i≤ks.length∧(∀j p,j<i→ks[j]?=some p→ltK p k=true)∧∀p,ks[i]?=some p→ltK p k=false
theorem zair {k:KeyD}:∀{ks:List KeyD} {i:Nat},zaqd ks k i→(∀p,ks[i]?=some p→p≠k)→insK k ks=ks.take i++k :: ks.drop i
 |[],i,h,_=>by
  have:i=0:=by simpa using h.1
  subst this;rfl
 |q :: ks,0,h,hn=>by have h1:=h.2.2 q rfl;rw [insK,if_neg (by rw [h1];simp),if_neg (hn q rfl)];rfl
 |q :: ks,i+1,h,hn=>by rw [insK,if_pos (h.2.1 0 q (by omega) rfl),zair (ks:=ks) (i:=i) ⟨by simpa using h.1,fun j p hj hp=>h.2.1 (j+1) p (by omega) (by simpa using hp),fun p hp=>h.2.2 p (by simpa using hp)⟩ (fun p hp=>hn p (by simpa using hp))];rfl
theorem zwj {k:KeyD}:∀{ks:List KeyD} {i:Nat},zaqd ks k i→ks[i]?=some k→insK k ks=ks
 |[],i,_,hn=>by simp at hn
 |q :: ks,0,h,hn=>by
  have e:q=k:=by simpa using hn
  subst e;rw [insK,if_neg (by rw [zcl];simp),if_pos rfl]
 |q :: ks,i+1,h,hn=>by rw [insK,if_pos (h.2.1 0 q (by omega) rfl),zwj (ks:=ks) (i:=i) ⟨by simpa using h.1,fun j p hj hp=>h.2.1 (j+1) p (by omega) (by simpa using hp),fun p hp=>h.2.2 p (by simpa using hp)⟩ (by simpa using hn)]
structure zaai (l objs:List ObjD) (o:ObjD) (j:Nat) (acc:List (KeyD × List ByteArray)):Prop where
 owns:Owns acc (zgg l objs o j)
 sort:zfm acc
theorem zaai.step {l:List ObjD} (hok:zas l=true) {i:Nat} {o:ObjD} (ho:l[i]?=some o) {j:Nat} (hj:j<zdp o) {acc:List (KeyD × List ByteArray)} (h:zaai l (l.take i) o j acc):zaai l (l.take i) o (j+1) (rput (zds o j) o.id acc) :=
 have hno:=fun k=>zue hok ho l k
 ⟨h.owns.rput h.sort (zds o j) o.id (zagp hno j _) (zlm hj hno),zpy _ _ h.sort⟩
theorem zux {l:List ObjD} {i:Nat} {o:ObjD} (ho:l[i]?=some o):l.take (i+1)=l.take i++[o]:=by rw [List.take_add_one,ho];rfl
theorem zaax (k:KeyD) (id:ByteArray):∀acc:List (KeyD × List ByteArray),(rput k id acc).length≤acc.length+1
 |[]=>by simp [rput]
 |q :: acc=>by
  rw [rput];split
  ·have:=zaax k id acc;simp;omega
  ·split<;>simp
theorem zaaw {k:KeyD} {id:ByteArray} {n:Nat}:∀{acc:List (KeyD × List ByteArray)},(∀p∈acc,p.2.length≤n)→∀p∈rput k id acc,p.2.length≤n+1
 |[],_,p,hp=>by rw [rput,List.mem_singleton] at hp;subst hp;simp
 |q :: acc,h,p,hp=>by
  have h0:=h q (List.mem_cons_self ..);rw [rput] at hp;split at hp
  ·rcases List.mem_cons.1 hp with rfl | hp
   ·omega
   ·exact zaaw (fun p hp=>h p (List.mem_cons_of_mem _ hp)) p hp
  ·split at hp
   ·rcases List.mem_cons.1 hp with rfl | hp
    ·show (if q.2.getLast?=some id then q.2 else q.2++[id]).length≤n+1;split
     ·omega
     ·rw [List.length_append];simp;omega
    ·have:=h p (List.mem_cons_of_mem _ hp);omega
   ·rcases List.mem_cons.1 hp with rfl | hp
    ·simp
    ·have:=h p hp;omega
def zxu (M:Nat) (acc:List (KeyD × List ByteArray)):Prop:=acc.length≤M∧∀p∈acc,p.2.length≤M
theorem zxu.step {M:Nat} {acc:List (KeyD × List ByteArray)} (h:zxu M acc) (k:KeyD) (id:ByteArray):zxu (M+1) (rput k id acc):=⟨Nat.le_trans (zaax k id acc) (by have:=h.1;omega),zaaw h.2⟩
theorem zxu.mono {M M':Nat} {acc:List (KeyD × List ByteArray)} (h:zxu M acc) (hm:M≤M'):zxu M' acc:=⟨Nat.le_trans h.1 hm,fun p hp=>Nat.le_trans (h.2 p hp) hm⟩
structure znw (l:List ObjD) (i:Nat) (acc:List (KeyD × List ByteArray)):Prop where
 owns:Owns acc (ownF l (l.take i))
 sort:zfm acc
theorem znw.start {l:List ObjD} {i:Nat} {acc:List (KeyD × List ByteArray)} (h:znw l i acc) (o:ObjD):zaai l (l.take i) o 0 acc:=⟨h.owns.congr fun k=>(zog l _ o k).symm,h.sort⟩
theorem znw.next {l:List ObjD} {i:Nat} {o:ObjD} {acc:List (KeyD × List ByteArray)} (ho:l[i]?=some o) (hb:isB l o=true) (h:zaai l (l.take i) o (zdp o) acc):znw l (i+1) acc:=⟨h.owns.congr fun k=>by rw [zux ho,zqe,if_pos hb],h.sort⟩
theorem znw.skip {l:List ObjD} {i:Nat} {o:ObjD} {acc:List (KeyD × List ByteArray)} (ho:l[i]?=some o) (hb:isB l o=false) (h:znw l i acc):znw l (i+1) acc:=⟨h.owns.congr fun k=>by rw [zux ho,zqe,if_neg (by rw [hb];simp)],h.sort⟩
theorem znw.all {l:List ObjD} {acc:List (KeyD × List ByteArray)} (h:znw l l.length acc):acc=zcq l:=zafb h.sort (by have:=h.owns;rwa [List.take_length] at this)
theorem znw.nil (l:List ObjD):znw l 0 []:=⟨Owns.nil fun _=>rfl,List.Pairwise.nil⟩
theorem zadb {l:List ObjD} {o:ObjD} (hs:zfn l o=true) {j:Nat} (hj:j<zdp o):(zbi l (zds o j).1).isSome=true∧(zbi l (zds o j).2).isSome=true:=by
 have hall:∀x∈o.refs,(zbi l x).isSome=true:=by unfold zfn at hs;exact List.all_eq_true.1 hs
 have hm:zds o j∈zbh o:=zM (zpt hj);exact ⟨hall _ (zgk hm (Or.inl rfl)),hall _ (zgk hm (Or.inr rfl))⟩
end Go.Proofs.YtibpaaajghbkoaaGreat

namespace Go.Proofs.YtibpaaajghbkoaaGreat
open Go.RowKit Go.Sort
def zru (w:World) (v:Value) (l:List ObjD):Prop :=
 ∃L:List BrM,RowE zgx 7 w v L∧L.map (·.1)=zau l∧∀x∈L,x.2.1=segB l x.1∧zaj w (.slice x.2.2.1 x.2.2.2.1 x.2.2.2.2) (ownF l l x.1)
theorem zru.later {w w':World} {v:Value} {l:List ObjD} (h:zru w v l) (hb:Below w.heap.size w w'):zru w' v l:=by obtain ⟨L,h1,h2,h3⟩:=h;exact ⟨L,h1.later hb,h2,fun x hx=>⟨(h3 x hx).1,(h3 x hx).2.later hb⟩⟩
theorem BrAt.brs {w:World} {base:Nat} {v:Value} {l:List ObjD} (h:BrAt w base v l (zcq l)):zru w v l:=by
 obtain ⟨L,h1,h2,h3,h4⟩:=h;have hm:(zcq l).map (·.1)=zau l:=by unfold zcq;rw [List.map_map];exact List.map_id _
 refine ⟨L,RowE.of_own zgd rfl h1,h2.trans hm,fun x hx=>⟨h3 x hx,?_⟩⟩;obtain ⟨i,hi⟩:=List.getElem?_of_mem hx;have hl:=(List.getElem?_eq_some_iff.1 hi).1;rw [zacf h2] at hl;have hp:=List.getElem?_eq_getElem hl;have e:x.1=((zcq l)[i]).1:=by have:=congrArg (fun M=>M[i]?) h2;simp only [List.getElem?_map,hi,hp,Option.map_some] at this;injection this
 have e2:=(zaw.1 (List.getElem_mem hl)).2;have:=(h4 i x _ hi hp).row;rwa [e2,←e] at this
theorem zru.nil (w:World):zru w (.slice none 0 0) []:=⟨[],⟨none,0,rfl,fun h=>by simp at h⟩,rfl,fun x hx=>by cases hx⟩
theorem zapz {w:World} {v:Value} {l:List ObjD} (h:zru w v l):∃(ao:Option Addr) (cap:Nat),v=.slice ao (zau l).length cap∧(0<(zau l).length→∃b off,ao=some ⟨b,off,none⟩∧∀(i:Nat) (k:KeyD),(zau l)[i]?=some k →
  ∃(a:Option Addr) (c:Nat),w.cell? ⟨b,off+i * 7,none⟩=some (.string k.1)∧w.cell? ⟨b,off+i * 7+1,none⟩=some (.string k.2)∧w.cell? ⟨b,off+i * 7+2,none⟩=some (.int .i64 (segB l k).1.1)∧w.cell? ⟨b,off+i * 7+3,none⟩=some (.int .i64 (segB l k).1.2) ∧
   w.cell? ⟨b,off+i * 7+4,none⟩=some (.int .i64 (segB l k).2.1)∧w.cell? ⟨b,off+i * 7+5,none⟩=some (.int .i64 (segB l k).2.2)∧w.cell? ⟨b,off+i * 7+6,none⟩=some (.slice a (ownF l l k).length c)∧zaj w (.slice a (ownF l l k).length c) (ownF l l k)):=by
 obtain ⟨L,⟨ao,cap,rfl,hc⟩,h2,h3⟩:=h;have hn:L.length=(zau l).length:=by rw [←h2,List.length_map]
 rw [hn] at hc ⊢;refine ⟨ao,cap,rfl,fun h0=>?_⟩;obtain ⟨b,off,rfl,hcell⟩:=hc h0;refine ⟨b,off,rfl,fun i k hk=>?_⟩;have hi:i<L.length:=by rw [hn];exact (List.getElem?_eq_some_iff.1 hk).1
 have hx:=List.getElem?_eq_getElem hi;have e:L[i].1=k:=by have:=congrArg (fun M=>M[i]?) h2;simp only [List.getElem?_map,hx,hk,Option.map_some] at this;injection this
 generalize L[i]=x at hx e;obtain ⟨xk,sg,a,n,c⟩:=x;simp only [] at e;subst e;obtain ⟨h4,h5⟩:=h3 _ (zM hx);simp only [] at h4 h5;subst h4;obtain ⟨a',c',hsl,_⟩:=id h5;injection hsl with f1 f2 f3;subst f2;exact ⟨a,c,hcell i _ hx 0 _ rfl,hcell i _ hx 1 _ rfl,hcell i _ hx 2 _ rfl,hcell i _ hx 3 _ rfl,hcell i _ hx 4 _ rfl,hcell i _ hx 5 _ rfl,hcell i _ hx 6 _ rfl,h5⟩
def sdP (o:ObjD):List KeyD:=if o.kind=2∨o.kind=3 then zbh o else []
theorem zadf (o:ObjD) (vr vt:Value) (w:World) (hr:zaj w vr o.refs) (ht:zba w vt o.tags) (hob:zay o=true) (hl:o.refs.length≤100000) :
  Calls Tryz.prog 173 #[.agg #[.string o.id,.int .i64 o.kind,.int .i64 o.x,.int .i64 o.y,vr,vt]] w fun e w'=>∃v',e=.returned v'∧w'.ownsRow w.heap.size 83 2 v' (sdP o).length ((sdP o).flatMap zhf)∧Below w.heap.size w w':=by
 unfold sdP;split
 ·rename_i hk;refine zade o vr vt w hr ht ?_ hl;rcases hk with hk | hk
  ·exact Or.inl hk
  ·refine Or.inr ⟨hk,?_⟩;simp only [zay,Bool.and_eq_true,decide_eq_true_eq] at hob;obtain ⟨⟨⟨⟨⟨⟨h1,h2⟩,_⟩,h4⟩,h5⟩,h6⟩,h7⟩:=hob;rw [hk] at h4;have h8:(3:Int)≤(o.refs.length:Int):=h4;omega
 ·rename_i hk;refine (zyl o vr vt w hr ht ⟨fun h=>hk (Or.inl h),fun h=>hk (Or.inr h)⟩).mono ?_;rintro e w' ⟨rfl,hb⟩;exact ⟨_,rfl,World.ownsRow_nil _ _ _ _,hb⟩
def zgz (o:ObjD) (vr vt vs:Value) (w2:World) (Bo base1 m:Nat) (W:World):Prop :=
 Below w2.heap.size w2 W∧W.heap[Bo]?=some (.cells #[.string o.id,.int .i64 o.kind,.int .i64 o.x,.int .i64 o.y,vr,vt] 36)∧W.ownsRow base1 83 2 vs m ((zbh o).flatMap zhf)
theorem zgz.on {o:ObjD} {vr vt vs:Value} {w2 W W':World} {Bo base1 m:Nat} (h:zgz o vr vt vs w2 Bo base1 m W) (h2:Below W.heap.size W W'):zgz o vr vt vs w2 Bo base1 m W' :=
 ⟨h.1.trans (h2.mono h.1.size),zab h2 h.2.1,zaq h.2.2 h2⟩
theorem zgz.stable (o:ObjD) (vr vt vs:Value) (w2:World) (Bo base1 m:Nat):StableW (zgz o vr vt vs w2 Bo base1 m):=fun _ _ h h2=>h.on h2
theorem StableW.br (base:Nat) (v:Value) (l:List ObjD) (acc:List (KeyD × List ByteArray)):StableW fun W=>BrAt W base v l acc:=fun _ _ h h2=>h.on h2
theorem zsi {w:World} {base size n g:Nat} {e e':TypeId} {v:Value} {xs:List Value} {cs:Array Value} (h:w.ownsRow base e size v n xs) (hr:w.heap[g]?=some (.cells cs e')) (hne:e≠e'):some g≠v.ownBlock:=by
 intro c;rcases h.2 with ⟨rfl,_⟩ | ⟨g',cap,cur,rfl,_,hc,_⟩
 ·cases c
 ·have c':g=g':=by injection c
  subst c';rw [hc] at hr;injection hr with hr;injection hr with h1 h2;exact hne h2
theorem zadu {w:World} {base base' size size' n n':Nat} {e e':TypeId} {v v':Value} {xs xs':List Value} (h:w.ownsRow base e size v n xs) (h':w.ownsRow base' e' size' v' n' xs') (hne:e≠e'):v'.ownBlock=none∨v'.ownBlock≠v.ownBlock:=by
 rcases h'.2 with ⟨rfl,_⟩ | ⟨g',cap,cur,rfl,_,hc,_⟩
 ·exact Or.inl rfl
 ·exact Or.inr (zsi h hc hne)
theorem zgz.put {l:List ObjD} {o:ObjD} {vr vt vs v:Value} {w2 W W':World} {Bo base1 m:Nat} {acc:List (KeyD × List ByteArray)} (hk:zgz o vr vt vs w2 Bo base1 m W) (hv:BrAt W w2.heap.size v l acc) (hg:W.grownBy W' v.ownBlock):zgz o vr vt vs w2 Bo base1 m W':=by obtain ⟨L,ho,_⟩:=hv;exact ⟨hk.1.grown hg hk.1.size (fun j ej=>(ho.lt j ej).1),(hg.block Bo (zaf hk.2.1) (zsi ho hk.2.1 (by decide))).trans hk.2.1,hk.2.2.kept hg (zadu ho hk.2.2 (by decide))⟩
end Go.Proofs.YtibpaaajghbkoaaGreat

namespace Go.Proofs.YtibpaaajghbkoaaGreat
open Go.RowKit
theorem zfc {s:Sg} (h:zbd s=true):zat s.1=true∧zat s.2=true:=by unfold zbd at h;rw [Bool.and_eq_true] at h;exact h
def zzp (s t:Sg):List Pt:=[s.1,s.2,t.1,t.2]
def comR (s t:Sg) (i:Nat):List Pt:=((zzp s t).take i).foldl (addC s t) []
theorem zxe (s t:Sg) (i:Nat) (e:Pt) (h:(zzp s t)[i]?=some e):comR s t (i+1)=addC s t (comR s t i) e:=by obtain ⟨hk,rfl⟩:=List.getElem?_eq_some_iff.1 h;unfold comR;rw [List.take_succ_eq_append_getElem hk,List.foldl_append];rfl
theorem zaca (s t:Sg):∀i:Nat,(comR s t i).length≤i
 |0=>by simp [comR]
 |i+1=>by
  have ih:=zaca s t i;cases h:(zzp s t)[i]? with
  |none =>
   have hl:(zzp s t).length≤i:=List.getElem?_eq_none_iff.1 h;have:comR s t (i+1)=comR s t i:=by unfold comR;rw [List.take_of_length_le hl,List.take_of_length_le (by omega)]
   rw [this];omega
  |some e =>
   rw [zxe s t i e h];unfold addC;split
   ·omega
   ·split
    ·rw [List.length_append];simp;omega
    ·omega
theorem zwm {s t:Sg} (hs:zbd s=true) (ht:zbd t=true) {i:Nat} {e:Pt} (h:(zzp s t)[i]?=some e):zat e=true:=by
 have:=zM h;unfold zzp at this;simp only [List.mem_cons,List.not_mem_nil,or_false] at this;rcases this with rfl | rfl | rfl | rfl
 ·exact (zfc hs).1
 ·exact (zfc hs).2
 ·exact (zfc ht).1
 ·exact (zfc ht).2
theorem zaks {l:List Pt} {j:Nat} {x:Pt} (e:Pt) (h:l[j]?=some x):decide (e∈l.take (j+1))=(decide (e∈l.take j) || decide (x=e)):=by obtain ⟨hk,rfl⟩:=List.getElem?_eq_some_iff.1 h;rw [List.take_succ_eq_append_getElem hk,Bool.eq_iff_iff];simp only [List.mem_append,List.mem_singleton,Bool.or_eq_true,decide_eq_true_eq];exact or_congr Iff.rfl eq_comm
theorem zapo:(Tryz.prog.info? 33).map (fun i=>(i.zero,i.size,i.bytes))=some (some (.agg #[.int .i64 0,.int .i64 0]),2,16):=by kernel_rfl
set_option maxRecDepth 100000 in
set_option maxHeartbeats 4000000 in
theorem zadl (s t:Sg) (w:World) (h:(zbd s && zbd t)=false) :
  Calls Tryz.prog 175 #[sgV s,sgV t] w fun e w'=>e=.returned (.int .i64 0)∧Below w.heap.size w w':=by
 have IS:=zH (fun w=>zju s w);have IT:=zH (fun w=>zju t w);obtain ⟨ns,hs⟩:∃z,zbd s=z:=⟨_,rfl⟩;obtain ⟨nt,ht⟩:∃z,zbd t=z:=⟨_,rfl⟩;rw [hs] at IS h;rw [ht] at IT h;clear hs ht;obtain ⟨⟨ax,ay⟩,⟨bx,by1⟩⟩:=s;obtain ⟨⟨cx,cy⟩,⟨dx,dy⟩⟩:=t;cases ns with
 |false =>clear h IT;go_enter Tryz.func175,Tryz.ntmps175;go_wp2_with fail;generalize hw1:(w.alloc _).alloc _=w1;have B1:=gB2 hw1;have H1:=gA21 hw1;have H2:=gA22 hw1;have H1:=zH H1;have H2:=zH H2;clear hw1;refine (IS.out _).mono ?_;rintro e w2 ⟨rfl,hb⟩;have B2:=zac B1 zR hb;replace H1:=zH (zab hb H1.out);replace H2:=zH (zab hb H2.out);clear hb B1;obtain ⟨bz,b0,b1,b2,b3⟩:=rk4 H2.out;go_wp2;go_ret;exact ⟨rfl,B2⟩
 |true =>
  cases nt with
  |true=>cases h
  |false =>clear h;go_enter Tryz.func175,Tryz.ntmps175;go_wp2_with fail;generalize hw1:(w.alloc _).alloc _=w1;have B1:=gB2 hw1;have H1:=gA21 hw1;have H2:=gA22 hw1;have H1:=zH H1;have H2:=zH H2;clear hw1;refine (IS.out _).mono ?_;rintro e w2 ⟨rfl,hb⟩;have B2:=zac B1 zR hb;replace H1:=zH (zab hb H1.out);replace H2:=zH (zab hb H2.out);clear hb B1;obtain ⟨bz,b0,b1,b2,b3⟩:=rk4 H2.out;go_wp2_with fail;refine (IT.out _).mono ?_;rintro e w3 ⟨rfl,hb⟩;have B3:=zac B2 zR hb;clear b0 b1 b2 b3 bz;replace H1:=zH (zab hb H1.out);replace H2:=zH (zab hb H2.out);clear hb B2;go_wp2;go_ret;exact ⟨rfl,B3⟩
set_option maxRecDepth 100000 in
set_option maxHeartbeats 4000000 in
theorem zyn (s t:Sg) (w:World) (h:zbd s=true) (h':zbd t=true) (hm:s=t∨(s.1=t.2∧s.2=t.1)) :
  Calls Tryz.prog 175 #[sgV s,sgV t] w fun e w'=>e=.returned (.int .i64 4)∧Below w.heap.size w w':=by
 have IS:=zH (fun w=>zju s w);have IT:=zH (fun w=>zju t w);rw [h] at IS;rw [h'] at IT;have eq1:=zzo s t;have eq2:=zdc s.1 t.2;have eq3:=zdc s.2 t.1;have eqg:=eg37;have eqg2:=eg39;obtain ⟨d1,h1⟩:∃z,decide (s=t)=z:=⟨_,rfl⟩;rw [h1] at eq1;cases d1 with
 |true =>clear h1 hm eq2 eq3 h h';obtain ⟨⟨ax,ay⟩,⟨bx,by1⟩⟩:=s;obtain ⟨⟨cx,cy⟩,⟨dx,dy⟩⟩:=t;simp only [] at eq1 IS IT ⊢;go_enter Tryz.func175,Tryz.ntmps175;go_wp2_with fail;generalize hw1:(w.alloc _).alloc _=w1;have B1:=gB2 hw1;have H1:=gA21 hw1;have H2:=gA22 hw1;have H1:=zH H1;have H2:=zH H2;clear hw1;refine (IS.out _).mono ?_;rintro e w2 ⟨rfl,hb⟩;have B2:=zac B1 zR hb;replace H1:=zH (zab hb H1.out);replace H2:=zH (zab hb H2.out);clear hb B1;obtain ⟨bz,b0,b1,b2,b3⟩:=rk4 H2.out;go_wp2_with fail;refine (IT.out _).mono ?_;rintro e w3 ⟨rfl,hb⟩;have B3:=zac B2 zR hb;clear b0 b1 b2 b3 bz;replace H1:=zH (zab hb H1.out);replace H2:=zH (zab hb H2.out);clear hb B2;obtain ⟨az,a0,a1,a2,a3⟩:=rk4 H1.out;obtain ⟨bz,b0,b1,b2,b3⟩:=rk4 H2.out;go_wp2_with fail;go_wp2;go_ret;exact ⟨rfl,B3⟩
 |false =>have hm:=hm.resolve_left (of_decide_eq_false h1);rw [decide_eq_true hm.1] at eq2;rw [decide_eq_true hm.2] at eq3;clear h1 hm h h';obtain ⟨⟨ax,ay⟩,⟨bx,by1⟩⟩:=s;obtain ⟨⟨cx,cy⟩,⟨dx,dy⟩⟩:=t;simp only [] at eq1 eq2 eq3 IS IT ⊢;go_enter Tryz.func175,Tryz.ntmps175;go_wp2_with fail;generalize hw1:(w.alloc _).alloc _=w1;have B1:=gB2 hw1;have H1:=gA21 hw1;have H2:=gA22 hw1;have H1:=zH H1;have H2:=zH H2;clear hw1;refine (IS.out _).mono ?_;rintro e w2 ⟨rfl,hb⟩;have B2:=zac B1 zR hb;replace H1:=zH (zab hb H1.out);replace H2:=zH (zab hb H2.out);clear hb B1;obtain ⟨bz,b0,b1,b2,b3⟩:=rk4 H2.out;go_wp2_with fail;refine (IT.out _).mono ?_;rintro e w3 ⟨rfl,hb⟩;have B3:=zac B2 zR hb;clear b0 b1 b2 b3 bz;replace H1:=zH (zab hb H1.out);replace H2:=zH (zab hb H2.out);clear hb B2;obtain ⟨az,a0,a1,a2,a3⟩:=rk4 H1.out;obtain ⟨bz,b0,b1,b2,b3⟩:=rk4 H2.out;go_wp2_with fail;go_wp2;go_ret;exact ⟨rfl,B3⟩
theorem zaap (a b:Int):IntKind.i64.wrap (sgn a * sgn b)=sgn a * sgn b:=by
 have h1:=zpv a;have h2:=zpv b;have h:-1≤sgn a * sgn b∧sgn a * sgn b≤1:=by
  obtain h | h | h:sgn a=-1∨sgn a=0∨sgn a=1:=by omega
  ·rw [h];omega
  ·rw [h];omega
  ·rw [h];omega
 exact IntWalk.i64_in _ (by omega)
set_option maxRecDepth 100000 in
set_option maxHeartbeats 8000000 in
theorem zyo (s t:Sg) (w:World) (h:zbd s=true) (h':zbd t=true) (hm:¬(s=t∨(s.1=t.2∧s.2=t.1))) :
  Calls Tryz.prog 175 #[sgV s,sgV t] w fun e w'=>e=.returned (.int .i64 (zav s t))∧Below w.heap.size w w':=by
 have mixed:Tryz.prog.follows .mixedOrders=true:=by kernel_rfl
 have IS:=zH (fun w=>zju s w);have IT:=zH (fun w=>zju t w);rw [h] at IS;rw [h'] at IT;obtain ⟨C,hC⟩:∃C,C=comR s t:=⟨_,rfl⟩;obtain ⟨E,hE⟩:∃E,E=zzp s t:=⟨_,rfl⟩;have HCS:=zH (fun i e (he:E[i]?=some e)=>(show C (i+1)=addC s t (C i) e by rw [hC];exact zxe s t i e (by rw [←hE];exact he)));have HCL:=zH (fun i=>(show (C i).length≤i by rw [hC];exact zaca s t i));have HC4:=zH (show C 4=zbe s t by rw [hC];rfl);have HC0:=zH (show C 0=[] by rw [hC];rfl);have OS:=zH (fun i e (he:E[i]?=some e) w=>zmr s e h (zwm h h' (by rw [←hE];exact he)) w);have OT:=zH (fun i e (he:E[i]?=some e) w=>zmr t e h' (zwm h h' (by rw [←hE];exact he)) w);have ES:=zH (fun e w=>zaba s e w);have ET:=zH (fun e w=>zaba t e w);have R1:=zH (fun w=>zjv s.1 s.2 t.1 (zfc h).1 (zfc h).2 (zfc h').1 w);have R2:=zH (fun w=>zjv s.1 s.2 t.2 (zfc h).1 (zfc h).2 (zfc h').2 w);have R3:=zH (fun w=>zjv t.1 t.2 s.1 (zfc h').1 (zfc h').2 (zfc h).1 w);have R4:=zH (fun w=>zjv t.1 t.2 s.2 (zfc h').1 (zfc h').2 (zfc h).2 w);have HM:=zH (show zav s t=zja (C 4) (if sgn (crs s.1 s.2 t.1) * sgn (crs s.1 s.2 t.2)<0∧sgn (crs t.1 t.2 s.1) * sgn (crs t.1 t.2 s.2)<0 then 3 else 0) (fun e=>if endR s e && endR t e then 1 else 2) by rw [HC4.out];unfold zav;rw [h,h',if_neg (by simp),if_neg hm])
 have HEl:=zH (show E.length=4 by rw [hE];rfl);have HEf:=zH (show E=[s.1,s.2,t.1,t.2] from hE);obtain ⟨fs,hfs⟩:∃f,f=onR s:=⟨_,rfl⟩;obtain ⟨ft,hft⟩:∃f,f=onR t:=⟨_,rfl⟩;have HAC:=zH (show ∀l e,addC s t l e=if decide (e∈l) then l else if fs e && ft e then l++[e] else l by rw [hfs,hft];exact fun _ _=>rfl);rw [←hfs] at OS;rw [←hft] at OT;have eqg:=eg37;have eqg2:=eg39;have eq1:=zzo s t;have eq2:=zdc s.1 t.2;have eq3:=zdc s.2 t.1;rw [decide_eq_false (fun c=>hm (Or.inl c))] at eq1;obtain ⟨d1,h1⟩:∃z,decide (s.1=t.2)=z:=⟨_,rfl⟩;rw [h1] at eq2;have HD:=zH (show d1=true→decide (s.2=t.1)=false from fun c=>decide_eq_false (fun c2=>hm (Or.inr ⟨of_decide_eq_true (h1.trans c),c2⟩)));obtain ⟨d2,h2⟩:∃z,decide (s.2=t.1)=z:=⟨_,rfl⟩;rw [h2] at eq3 HD;have HEV:=zH (show (E.flatMap zfu)=[.int .i64 s.1.1,.int .i64 s.1.2,.int .i64 s.2.1,.int .i64 s.2.2,.int .i64 t.1.1,.int .i64 t.1.2,.int .i64 t.2.1,.int .i64 t.2.2] by rw [hE];rfl);obtain ⟨r,hr⟩:∃z,z=zav s t:=⟨_,rfl⟩;rw [←hr] at HM ⊢;clear h1 h2 hm h h' hC hE hfs hft hr;obtain ⟨⟨ax,ay⟩,⟨bx,by1⟩⟩:=s;obtain ⟨⟨cx,cy⟩,⟨dx,dy⟩⟩:=t;simp only [] at eq1 eq2 eq3 HEV R1 R2 R3 R4 HM HEf;obtain ⟨i0,hi,hi0,hi1,hi2⟩:=info_parts zapo;go_enter Tryz.func175,Tryz.ntmps175;go_wp2_with fail;generalize hw1:(w.alloc _).alloc _=w1;have B1:=gB2 hw1;have H1:=gA21 hw1;have H2:=gA22 hw1;have H1:=zH H1;have H2:=zH H2;clear hw1;refine (IS.out _).mono ?_;rintro e w2 ⟨rfl,hb⟩;have B2:=zac B1 zR hb;replace H1:=zH (zab hb H1.out);replace H2:=zH (zab hb H2.out);clear hb B1;obtain ⟨bz,b0,b1,b2,b3⟩:=rk4 H2.out;go_wp2_with fail;refine (IT.out _).mono ?_;rintro e w3 ⟨rfl,hb⟩;have B3:=zac B2 zR hb;clear b0 b1 b2 b3 bz;replace H1:=zH (zab hb H1.out);replace H2:=zH (zab hb H2.out);clear hb B2;obtain ⟨az,a0,a1,a2,a3⟩:=rk4 H1.out;obtain ⟨bz,b0,b1,b2,b3⟩:=rk4 H2.out;go_upto_region 3 with fail;have key:d1=false∨(d1=true∧d2=false):=by
  cases d1 with
  |false=>exact Or.inl rfl
  |true=>exact Or.inr ⟨rfl,HD.out rfl⟩
 go_cut [34] from 18 to 35 (fun v34 wx=>v34=.bool false∧Below w3.heap.size w3 wx)
 case first =>
  rcases key with rfl | ⟨rfl,rfl⟩
  ·go_wp2;go_meet;case rel=>exact ⟨rfl,Below.refl _ _⟩
  ·go_wp2;go_meet;case rel=>exact ⟨rfl,Below.refl _ _⟩
 case rest =>
  obtain ⟨rfl,hb⟩:=hcut;obtain ⟨w4,rfl⟩:∃z:World,z=wc:=⟨_,rfl⟩;clear a0 a1 a2 a3 az;clear b0 b1 b2 b3 bz;have B4:=zac B3 zR hb;replace H1:=zH (zab hb H1.out);replace H2:=zH (zab hb H2.out);clear hb B3 key eq1 eq2 eq3;obtain ⟨az,a0,a1,a2,a3⟩:=rk4 H1.out;obtain ⟨bz,b0,b1,b2,b3⟩:=rk4 H2.out;go_wp2_with fail;clear a0 a1 a2 a3 az;clear b0 b1 b2 b3 bz;generalize hw5:w4.alloc _=w5;have BX:=gB1 hw5;have HX:=gA11 hw5;have B5:=zac B4 zR BX;have hz5:w.heap.size+2≤w5.heap.size:=by have h2:=zaf H2.out;have:=BX.size;omega
  replace H1:=zH (zab BX H1.out);replace H2:=zH (zab BX H2.out);obtain ⟨aE,haE⟩:∃a,a=(⟨w4.heap.size,0,none⟩:Addr):=⟨_,rfl⟩;have HR:=RowE.of_block (l:=E) (cap:=4) zeb (by rw [HEV.out]) HX 4 HEl.out.symm;rw [←haE] at HR ⊢;obtain ⟨a',cap',hsl,hc⟩:=HR;injection hsl with e1 e2 e3;subst e1 e3;obtain ⟨bE,oE,hae2,hcE⟩:=hc (by rw [HEl.out];omega);injection hae2 with hae2;subst hae2;have HCE:=zH hcE;clear hw5 BX HX haE hcE B4 e2 hc;go_loopw [6,7] (fun v6 i wr=>∃k:Nat,i=.int .i64 k∧k≤4∧wr.ownsRow w5.heap.size 33 2 v6 (C k).length ((C k).flatMap zfu)∧Below w5.heap.size w5 wr) (fun _ i _=>4 - (intOf i).toNat);case atStart=>exact ⟨0,rfl,by omega,by rw [HC0.out];exact World.ownsRow_nil _ _ _ _,Below.refl _ _⟩
  case round =>
   obtain ⟨k,rfl,hk,hown,hbr⟩:=hrel;have HOWN:=zH hown;have hzr:=hbr.size;have BR:=zac B5 (by omega) hbr;have HL:=zH (HCL.out k);obtain ⟨G,hG⟩:∃G,G=C k:=⟨_,rfl⟩;rw [←hG] at HOWN HL;have HG:=zH hG;clear hown hG;by_cases hlt:k<4
   ·obtain ⟨e,he⟩:∃e,E[k]?=some e:=⟨E[k]'(by rw [HEl.out];exact hlt),List.getElem?_eq_getElem _⟩;have HA:=zH ((HCS.out k e he).trans (HAC.out _ _));have OSe:=zH (OS.out k e he);have OTe:=zH (OT.out k e he);have d0':=cell_later hbr (HCE.out k e he 0 _ rfl);have d0:wr.cell? ⟨bE,oE+k * 2,none⟩=some (.int .i64 e.1):=d0';have d1:=cell_later hbr (HCE.out k e he 1 _ rfl);obtain ⟨ao,cap,hV,hcV⟩:=RowE.of_own zeb rfl HOWN.out;subst hV;clear he d0';go_wp2_with fail;obtain ⟨w6,rfl⟩:∃z:World,z=wr:=⟨_,rfl⟩;go_loopw [8,9] (fun v8 i wx=>∃j:Nat,i=.int .i64 j∧j≤G.length∧v8=.bool (decide (e∈G.take j))∧Below w6.heap.size w6 wx) (fun _ i _=>G.length - (intOf i).toNat);case atStart=>exact ⟨0,rfl,by omega,by simp,Below.refl _ _⟩
    case round =>
     obtain ⟨j,rfl,hj,rfl,hbx⟩:=hrel;have hL:=HL.out;by_cases hlj:j<G.length
     ·obtain ⟨g,hg⟩:∃g,G[j]?=some g:=⟨G[j]'hlj,List.getElem?_eq_getElem _⟩;have HT:=zH (zaks e hg);obtain ⟨bV,oV,rfl,hcell⟩:=hcV (by omega);have v0':=cell_later hbx (hcell j g hg 0 _ rfl);have v0:wr.cell? ⟨bV,oV+j * 2,none⟩=some (.int .i64 g.1):=v0';have v1:=cell_later hbx (hcell j g hg 1 _ rfl);have eqp:=zdc g e;obtain ⟨t,ht⟩:∃t,t=decide (e∈G.take j):=⟨_,rfl⟩;obtain ⟨d,hd⟩:∃d,d=decide (g=e):=⟨_,rfl⟩;rw [←ht,←hd] at HT;rw [←ht];rw [←hd] at eqp;clear v0' hcell hcV hg ht hd;cases t with
      |true =>
       have HE:=zH (show Value.bool true=.bool (decide (e∈G.take (j+1))) by rw [HT.out];rfl);clear v0 v1 d0 d1;go_wp2_with fail;go_quiet (fail);go_wp2;go_roundw;case rel=>exact ⟨j+1,by go_num,by omega,HE.out,hbx.drewN'⟩
       case measure=>simp [intOf];omega
      |false =>
       have HE:=zH (show Value.bool d=.bool (decide (e∈G.take (j+1))) by rw [HT.out];rfl);have d0:=cell_later hbx d0;have d1:=cell_later hbx d1;go_wp2_with fail;go_quiet (fail);go_wp2;go_roundw;case rel=>exact ⟨j+1,by go_num,by omega,HE.out,hbx.drewN'⟩
       case measure=>simp [intOf];omega
     ·obtain rfl:j=G.length:=(by omega);rw [List.take_length];have HAG:=zH (show C (k+1)=if decide (e∈G) then G else if fs e && ft e then G++[e] else G by rw [HA.out,HG.out]);obtain ⟨tw,htw⟩:∃z,z=decide (e∈G):=⟨_,rfl⟩;rw [←htw] at HAG ⊢;have HX1:=zH (zab (hbr.trans (hbx.mono hzr)) H1.out);have HX2:=zH (zab (hbr.trans (hbx.mono hzr)) H2.out);have BX:=zac hbr zR (hbx.mono zR);have hzx:=hbx.size;have OX:=zH (zaq HOWN.out hbx);have e0:=cell_later hbx d0;have e1:=cell_later hbx d1;clear d0 d1 htw hcV;cases tw with
      |true =>
       have HN:=zH (show C (k+1)=G by rw [HAG.out];rfl);clear e0 e1;go_wp2_with fail;go_quiet (fail);go_wp2;go_roundw;case rel=>exact ⟨k+1,by go_num,by omega,by rw [HN.out];exact (zaq OX.out ((Below.refl _ _).drewN')),BX.drewN'⟩
       case measure=>simp [intOf];omega
      |false =>
       obtain ⟨f1,hf1⟩:∃z,z=fs e:=⟨_,rfl⟩;obtain ⟨f2,hf2⟩:∃z,z=ft e:=⟨_,rfl⟩;rw [←hf1] at OSe HAG;rw [←hf2] at OTe HAG;clear hf1 hf2;cases f1 with
       |false =>
        have HN:=zH (show C (k+1)=G by rw [HAG.out];rfl);have e0':=e0;have e1':=e1;obtain ⟨az,a0,a1,a2,a3⟩:=rk4 HX1.out;obtain ⟨bz,b0,b1,b2,b3⟩:=rk4 HX2.out;have qa0:=zaa a0;have qa1:=zaa a1;have qa2:=zaa a2;have qa3:=zaa a3;have qb0:=zaa b0;have qb1:=zaa b1;have qb2:=zaa b2;have qb3:=zaa b3;have qe0:=zaa e0;have qe1:=zaa e1;clear a0 a1 a2 a3 az;clear b0 b1 b2 b3 bz;clear e0 e1;have e0:=zag e0';go_wp2_with fail;refine zae mixed (by kernel_rfl) ?_;iterate 9 (go_big_quiet_step ((go_at_call 178;exact zad (OSe.out _))))
        repeat (go_big_quiet_step ((go_at_call 178;exact zad (OTe.out _))))
        refine wpQuiet_nil ?_;intro w8 hw';obtain ⟨⟨wq,hbq⟩,hw''⟩:=hw';subst hw'';clear qa0 qa1 qa2 qa3 qb0 qb1 qb2 qb3 qe0 qe1;go_wp2;go_roundw;case rel=>exact ⟨k+1,by go_num,by omega,by rw [HN.out];exact zaq OX.out hbq,zac BX zR hbq⟩
        case measure=>simp [intOf];omega
       |true =>
        cases f2 with
        |false =>
         have HN:=zH (show C (k+1)=G by rw [HAG.out];rfl);have e0':=e0;have e1':=e1;obtain ⟨az,a0,a1,a2,a3⟩:=rk4 HX1.out;obtain ⟨bz,b0,b1,b2,b3⟩:=rk4 HX2.out;have qa0:=zaa a0;have qa1:=zaa a1;have qa2:=zaa a2;have qa3:=zaa a3;have qb0:=zaa b0;have qb1:=zaa b1;have qb2:=zaa b2;have qb3:=zaa b3;have qe0:=zaa e0;have qe1:=zaa e1;clear a0 a1 a2 a3 az;clear b0 b1 b2 b3 bz;clear e0 e1;have e0:=zag e0';go_wp2_with fail;refine zae mixed (by kernel_rfl) ?_;iterate 9 (go_big_quiet_step ((go_at_call 178;exact zad (OSe.out _))))
         repeat (go_big_quiet_step ((go_at_call 178;exact zad (OTe.out _))))
         refine wpQuiet_nil ?_;intro w8 hw';obtain ⟨⟨wq,hbq⟩,hw''⟩:=hw';subst hw'';clear qa0 qa1 qa2 qa3 qb0 qb1 qb2 qb3 qe0 qe1;go_wp2;go_roundw;case rel=>exact ⟨k+1,by go_num,by omega,by rw [HN.out];exact zaq OX.out hbq,zac BX zR hbq⟩
         case measure=>simp [intOf];omega
        |true =>
         have HN:=zH (show C (k+1)=G++[e] by rw [HAG.out];rfl);have e0':=e0;have e1':=e1;obtain ⟨az,a0,a1,a2,a3⟩:=rk4 HX1.out;obtain ⟨bz,b0,b1,b2,b3⟩:=rk4 HX2.out;have qa0:=zaa a0;have qa1:=zaa a1;have qa2:=zaa a2;have qa3:=zaa a3;have qb0:=zaa b0;have qb1:=zaa b1;have qb2:=zaa b2;have qb3:=zaa b3;have qe0:=zaa e0;have qe1:=zaa e1;clear a0 a1 a2 a3 az;clear b0 b1 b2 b3 bz;clear e0 e1;have e0:=zag e0';go_wp2_with fail;refine zae mixed (by kernel_rfl) ?_;iterate 9 (go_big_quiet_step ((go_at_call 178;exact zad (OSe.out _))))
         repeat (go_big_quiet_step ((go_at_call 178;exact zad (OTe.out _))))
         refine wpQuiet_nil ?_;intro w8 hw';obtain ⟨⟨wq,hbq⟩,hw''⟩:=hw';subst hw'';clear qa0 qa1 qa2 qa3 qb0 qb1 qb2 qb3 qe0 qe1;have BQ:=zac BX zR hbq;have OQ:=zH (zaq OX.out hbq);have e0:=cell_later hbq e0';have e1:=cell_later hbq e1';have hzq:=hbq.size;clear hbq;go_wp2_with (at_builtin;refine wpList_append_own _ rfl _ _ 50 rfl w5.heap.size 33 i0 (.agg #[.int .i64 0,.int .i64 0]) 2 16 Tryz.underlying50 hi hi0 hi1 hi2 rfl (by decide) _ _ _ rfl (OQ.out.alloc _) ⟨w8.heap.size,0,none⟩ 1 1 (zfu e) rfl rfl (zdv (zan _ _)) (zrb _) (by unfold maxLen;omega) (by omega) (by simp;omega) ?_;intro v' w9 hown9 hgrow9 _);have B9:=(BQ.alloc (by omega) _).grown hgrow9 (by simp;omega) (fun j hj=>(OQ.out.lt j hj).1);have O9:=zH (show w9.ownsRow w5.heap.size 33 2 v' (C (k+1)).length ((C (k+1)).flatMap zfu) by rw [HN.out,List.flatMap_append,List.length_append];simpa using hown9)
         clear hown9 hgrow9;go_roundw;case rel=>exact ⟨k+1,by go_num,by omega,O9.out,B9⟩
         case measure=>simp [intOf];omega
   ·obtain rfl:k=4:=(by omega);clear hlt;have HMG:=HM.out;rw [←HG.out] at HMG;obtain ⟨ao,cap,hV,hcV⟩:=RowE.of_own zeb rfl HOWN.out;subst hV;have BW:=zH BR;have HX1:=zH (zab hbr H1.out);have HX2:=zH (zab hbr H2.out);clear BR hbr hzr;rcases G with _ | ⟨c,_ | ⟨c2,l⟩⟩
    ·have HE:=zH (show r=if sgn (crs (ax,ay) (bx,by1) (cx,cy)) * sgn (crs (ax,ay) (bx,by1) (dx,dy))<0∧sgn (crs (cx,cy) (dx,dy) (ax,ay)) * sgn (crs (cx,cy) (dx,dy) (bx,by1))<0 then 3 else 0 from HMG);clear HMG hcV;obtain ⟨n1,hn1⟩:∃z,z=crs (ax,ay) (bx,by1) (cx,cy):=⟨_,rfl⟩;obtain ⟨n2,hn2⟩:∃z,z=crs (ax,ay) (bx,by1) (dx,dy):=⟨_,rfl⟩;obtain ⟨n3,hn3⟩:∃z,z=crs (cx,cy) (dx,dy) (ax,ay):=⟨_,rfl⟩;obtain ⟨n4,hn4⟩:∃z,z=crs (cx,cy) (dx,dy) (bx,by1):=⟨_,rfl⟩;rw [←hn1] at R1 HE;rw [←hn2] at R2 HE;rw [←hn3] at R3 HE;rw [←hn4] at R4 HE;have W1:=zH (zaap n1 n2);have W2:=zH (zaap n3 n4);have w1':=W1.out;have w2':=W2.out;clear hn1 hn2 hn3 hn4;by_cases hx:sgn n1 * sgn n2<0;case neg =>
      have hx1:decide (sgn n1 * sgn n2<0)=false:=decide_eq_false hx;have HR:=zH (show r=0 by rw [HE.out,if_neg (fun c=>hx c.1)]);obtain ⟨az,a0,a1,a2,a3⟩:=rk4 HX1.out;obtain ⟨bz,b0,b1,b2,b3⟩:=rk4 HX2.out;have qa0:=zaa a0;have qa1:=zaa a1;have qa2:=zaa a2;have qa3:=zaa a3;have qb0:=zaa b0;have qb1:=zaa b1;have qb2:=zaa b2;have qb3:=zaa b3;clear a0 a1 a2 a3 az;clear b0 b1 b2 b3 bz;go_wp2_with fail;refine zae mixed (by kernel_rfl) ?_;iterate 7 (go_big_quiet_step ((go_at_call 235;exact zad (R1.out _))))
      iterate 7 (go_big_quiet_step ((go_at_call 235;exact zad (R2.out _))))
      iterate 10 (go_big_quiet_step ((go_at_call 235;exact zad (R3.out _))))
      repeat (go_big_quiet_step ((go_at_call 235;exact zad (R4.out _))))
      refine wpQuiet_nil ?_;intro w8 hw';obtain ⟨⟨wq,hbq⟩,hw''⟩:=hw';subst hw'';clear qa0 qa1 qa2 qa3 qb0 qb1 qb2 qb3;go_wp2;go_ret;exact ⟨by rw [HR.out]<;>rfl,zac BW.out zR hbq⟩
     have hx1:decide (sgn n1 * sgn n2<0)=true:=decide_eq_true hx;by_cases hy:sgn n3 * sgn n4<0;case neg =>
      have hy1:decide (sgn n3 * sgn n4<0)=false:=decide_eq_false hy;have HR:=zH (show r=0 by rw [HE.out,if_neg (fun c=>hy c.2)]);obtain ⟨az,a0,a1,a2,a3⟩:=rk4 HX1.out;obtain ⟨bz,b0,b1,b2,b3⟩:=rk4 HX2.out;have qa0:=zaa a0;have qa1:=zaa a1;have qa2:=zaa a2;have qa3:=zaa a3;have qb0:=zaa b0;have qb1:=zaa b1;have qb2:=zaa b2;have qb3:=zaa b3;clear a0 a1 a2 a3 az;clear b0 b1 b2 b3 bz;go_wp2_with fail;refine zae mixed (by kernel_rfl) ?_;iterate 7 (go_big_quiet_step ((go_at_call 235;exact zad (R1.out _))))
      iterate 7 (go_big_quiet_step ((go_at_call 235;exact zad (R2.out _))))
      iterate 10 (go_big_quiet_step ((go_at_call 235;exact zad (R3.out _))))
      repeat (go_big_quiet_step ((go_at_call 235;exact zad (R4.out _))))
      refine wpQuiet_nil ?_;intro w8 hw';obtain ⟨⟨wq,hbq⟩,hw''⟩:=hw';subst hw'';clear qa0 qa1 qa2 qa3 qb0 qb1 qb2 qb3;go_wp2;go_ret;exact ⟨by rw [HR.out]<;>rfl,zac BW.out zR hbq⟩
     have hy1:decide (sgn n3 * sgn n4<0)=true:=decide_eq_true hy;have HR:=zH (show r=3 by rw [HE.out,if_pos ⟨hx,hy⟩]);obtain ⟨az,a0,a1,a2,a3⟩:=rk4 HX1.out;obtain ⟨bz,b0,b1,b2,b3⟩:=rk4 HX2.out;have qa0:=zaa a0;have qa1:=zaa a1;have qa2:=zaa a2;have qa3:=zaa a3;have qb0:=zaa b0;have qb1:=zaa b1;have qb2:=zaa b2;have qb3:=zaa b3;clear a0 a1 a2 a3 az;clear b0 b1 b2 b3 bz;go_wp2_with fail;refine zae mixed (by kernel_rfl) ?_;iterate 7 (go_big_quiet_step ((go_at_call 235;exact zad (R1.out _))))
     iterate 7 (go_big_quiet_step ((go_at_call 235;exact zad (R2.out _))))
     iterate 10 (go_big_quiet_step ((go_at_call 235;exact zad (R3.out _))))
     repeat (go_big_quiet_step ((go_at_call 235;exact zad (R4.out _))))
     refine wpQuiet_nil ?_;intro w8 hw';obtain ⟨⟨wq,hbq⟩,hw''⟩:=hw';subst hw'';clear qa0 qa1 qa2 qa3 qb0 qb1 qb2 qb3;go_wp2;go_ret;exact ⟨by rw [HR.out]<;>rfl,zac BW.out zR hbq⟩
    ·have HE:=zH (show r=if endR ((ax,ay),bx,by1) c && endR ((cx,cy),dx,dy) c then 1 else 2 from HMG);clear HMG;have ES1:=zH (ES.out c);have ET1:=zH (ET.out c);obtain ⟨g1,hg1⟩:∃z,z=endR ((ax,ay),bx,by1) c:=⟨_,rfl⟩;obtain ⟨g2,hg2⟩:∃z,z=endR ((cx,cy),dx,dy) c:=⟨_,rfl⟩;rw [←hg1] at ES1 HE;rw [←hg2] at ET1 HE;clear hg1 hg2;obtain ⟨bV,oV,rfl,hcell⟩:=hcV (by simp);have v0':=hcell 0 c rfl 0 _ rfl;have v0:wr.cell? ⟨bV,oV,none⟩=some (.int .i64 c.1):=(by simpa using v0');have v1':=hcell 0 c rfl 1 _ rfl;have v1:wr.cell? ⟨bV,oV+1,none⟩=some (.int .i64 c.2):=(by simpa using v1');clear hcell hcV v0' v1';cases g1 with
     |false =>
      have HR:=zH (show r=2 from HE.out);obtain ⟨az,a0,a1,a2,a3⟩:=rk4 HX1.out;obtain ⟨bz,b0,b1,b2,b3⟩:=rk4 HX2.out;have qa0:=zaa a0;have qa1:=zaa a1;have qa2:=zaa a2;have qa3:=zaa a3;have qb0:=zaa b0;have qb1:=zaa b1;have qb2:=zaa b2;have qb3:=zaa b3;have qv0:=zaa v0;have qv1:=zaa v1;have vz:=zag v0;clear a0 a1 a2 a3 az;clear b0 b1 b2 b3 bz;clear v0 v1;go_wp2_with fail;refine zae mixed (by kernel_rfl) ?_;iterate 5 (go_big_quiet_step ((go_at_call 234;exact zad (ES1.out _))))
      repeat (go_big_quiet_step ((go_at_call 234;exact zad (ET1.out _))))
      refine wpQuiet_nil ?_;intro w8 hw';obtain ⟨⟨wq,hbq⟩,hw''⟩:=hw';subst hw'';clear qa0 qa1 qa2 qa3 qb0 qb1 qb2 qb3 qv0 qv1;go_wp2;go_ret;exact ⟨by rw [HR.out]<;>rfl,zac BW.out zR hbq⟩
     |true =>
      cases g2 with
      |false =>
       have HR:=zH (show r=2 from HE.out);obtain ⟨az,a0,a1,a2,a3⟩:=rk4 HX1.out;obtain ⟨bz,b0,b1,b2,b3⟩:=rk4 HX2.out;have qa0:=zaa a0;have qa1:=zaa a1;have qa2:=zaa a2;have qa3:=zaa a3;have qb0:=zaa b0;have qb1:=zaa b1;have qb2:=zaa b2;have qb3:=zaa b3;have qv0:=zaa v0;have qv1:=zaa v1;have vz:=zag v0;clear a0 a1 a2 a3 az;clear b0 b1 b2 b3 bz;clear v0 v1;go_wp2_with fail;refine zae mixed (by kernel_rfl) ?_;iterate 5 (go_big_quiet_step ((go_at_call 234;exact zad (ES1.out _))))
       repeat (go_big_quiet_step ((go_at_call 234;exact zad (ET1.out _))))
       refine wpQuiet_nil ?_;intro w8 hw';obtain ⟨⟨wq,hbq⟩,hw''⟩:=hw';subst hw'';clear qa0 qa1 qa2 qa3 qb0 qb1 qb2 qb3 qv0 qv1;go_wp2;go_ret;exact ⟨by rw [HR.out]<;>rfl,zac BW.out zR hbq⟩
      |true =>
       have HR:=zH (show r=1 from HE.out);obtain ⟨az,a0,a1,a2,a3⟩:=rk4 HX1.out;obtain ⟨bz,b0,b1,b2,b3⟩:=rk4 HX2.out;have qa0:=zaa a0;have qa1:=zaa a1;have qa2:=zaa a2;have qa3:=zaa a3;have qb0:=zaa b0;have qb1:=zaa b1;have qb2:=zaa b2;have qb3:=zaa b3;have qv0:=zaa v0;have qv1:=zaa v1;have vz:=zag v0;clear a0 a1 a2 a3 az;clear b0 b1 b2 b3 bz;clear v0 v1;go_wp2_with fail;refine zae mixed (by kernel_rfl) ?_;iterate 5 (go_big_quiet_step ((go_at_call 234;exact zad (ES1.out _))))
       repeat (go_big_quiet_step ((go_at_call 234;exact zad (ET1.out _))))
       refine wpQuiet_nil ?_;intro w8 hw';obtain ⟨⟨wq,hbq⟩,hw''⟩:=hw';subst hw'';clear qa0 qa1 qa2 qa3 qb0 qb1 qb2 qb3 qv0 qv1;go_wp2;go_ret;exact ⟨by rw [HR.out]<;>rfl,zac BW.out zR hbq⟩
    ·have HE:=zH (show r=5 from HMG);clear HMG hcV;have hg1:decide ((1:Int)<((c :: c2 :: l).length:Int))=true:=decide_eq_true (by simp;omega);have hg2:(1:Int)<((c :: c2 :: l).length:Int):=(by simp;omega);obtain ⟨n,hn⟩:∃n,n=(c :: c2 :: l).length:=⟨_,rfl⟩;rw [←hn] at hg1 hg2 ⊢;clear hn HOWN HL HG;go_wp2;go_ret;exact ⟨by rw [HE.out]<;>rfl,BW.out⟩
theorem zadm (s t:Sg) (w:World) :
  Calls Tryz.prog 175 #[sgV s,sgV t] w fun e w'=>e=.returned (.int .i64 (zav s t))∧Below w.heap.size w w':=by
 cases h:(zbd s && zbd t) with
 |false =>
  have:zav s t=0:=by unfold zav;rw [h];rfl
  rw [this];exact zadl s t w h
 |true =>
  have h2:=h;rw [Bool.and_eq_true] at h2;by_cases hm:s=t∨(s.1=t.2∧s.2=t.1)
  ·have:zav s t=4:=(by unfold zav;rw [h,if_neg (by simp),if_pos hm]);rw [this];exact zyn s t w h2.1 h2.2 hm
  ·exact zyo s t w h2.1 h2.2 hm
end Go.Proofs.YtibpaaajghbkoaaGreat
