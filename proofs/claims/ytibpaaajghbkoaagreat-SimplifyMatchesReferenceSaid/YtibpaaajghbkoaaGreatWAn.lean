/-       -/
import Derived.Test.YtibpaaajghbkoaaGreatWAi
import Derived.Test.YtibpaaajghbkoaaGreatWAm
import Derived.Test.YtibpaaajghbkoaaGreatWAl
import Derived.Test.YtibpaaajghbkoaaGreatWAf
import Derived.Laws.AppendOwn
import Derived.Laws.OwnMore
import Derived.Test.YtibpaaajghbkoaaGreatWAc
import Derived.LoopN
namespace Go.Proofs.YtibpaaajghbkoaaGreat
open Go.RowKit Go.Maps Go.ChangeMaps
theorem zaqj (w:World):(zeroValue 3).run Tryz.prog w=.ok (.int .i64 0) w:=by kernel_rfl
abbrev intV (i:Nat):Value:=.int .i64 i
theorem zef:∀x y:ByteArray,Value.string x=Value.string y→x=y:=fun x y h=>by injection h
theorem zcf {s:ByteArray} (h:s.size≤140737488355328):∃kl,keyOf Tryz.prog 9 (.string s)=some kl:=⟨_,WideMaps.keyOf_string_mk Tryz.underlying9 (by unfold maxLen;omega)⟩
def AtIs (w:World) (B:Nat) (l:List ObjD):Prop:=∃acc:List (ByteArray × Nat),zbj Tryz.prog 9 Value.string intV w B acc∧acc.length≤l.length∧∀id,aget id acc=posO id l
theorem AtIs.on {w w':World} {B:Nat} {l:List ObjD} (h:AtIs w B l) (hb:Below w.heap.size w w'):AtIs w' B l:=by obtain ⟨acc,h1,h2⟩:=h;exact ⟨acc,h1.on hb,h2⟩
theorem AtIs.lt {w:World} {B:Nat} {l:List ObjD} (h:AtIs w B l):B<w.heap.size:=by obtain ⟨acc,h1,h2⟩:=h;exact h1.lt
theorem AtIs.kept {w w':World} {B:Nat} {l:List ObjD} {row:Option Nat} (h:AtIs w B l) (hg:w.grownBy w' row) (hne:some B≠row):AtIs w' B l:=by obtain ⟨acc,h1,h2⟩:=h;exact ⟨acc,h1.kept hg hne,h2⟩
theorem AtIs.set {w:World} {B:Nat} {l:List ObjD} {a:Addr} {v:Value} (h:AtIs w B l) (hne:B≠a.block):AtIs (w.setCell a v) B l:=by obtain ⟨acc,h1,h2⟩:=h;exact ⟨acc,h1.later (Below.heap_setCell w a v B hne),h2⟩
theorem AtIs.look {w:World} {B:Nat} {l:List ObjD} (h:AtIs w B l) (id:ByteArray) (hz:id.size≤140737488355328) :
  (Instr.lookup 76 (.map (some B)) (.string id) false).run Tryz.prog w=.ok (((posO id l).map intV).getD (.int .i64 0)) w:=by
 obtain ⟨acc,h1,h2,h3⟩:=h;have:=h1.look keyS zef Tryz.underlying76 (zaqj w) id (zcf hz);rw [this,h3]
theorem AtIs.lookOk {w:World} {B:Nat} {l:List ObjD} (h:AtIs w B l) (id:ByteArray) (hz:id.size≤140737488355328) :
  (Instr.lookup 76 (.map (some B)) (.string id) true).run Tryz.prog w=.ok (.tuple #[((posO id l).map intV).getD (.int .i64 0),.bool (posO id l).isSome]) w:=by
 obtain ⟨acc,h1,h2,h3⟩:=h;have:=h1.lookOk keyS zef Tryz.underlying76 (zaqj w) id (zcf hz);rw [this,h3]
theorem zvv (id:ByteArray) (o:ObjD):∀l:List ObjD,posO id (l++[o])=match posO id l with
  |some i=>some i
  |none=>if o.id=id then some l.length else none
 |[]=>by simp [posO]
 |x :: l=>by
  rw [List.cons_append,posO,posO,zvv id o l];by_cases h:x.id=id
  ·simp [h]
  ·rw [if_neg h,if_neg h];cases posO id l with
   |some i=>rfl
   |none =>
    by_cases h2:o.id=id
    ·simp [h2]
    ·simp [h2]
theorem zjx {l:List ObjD} (h:zas l=true) {k:Nat} {o:ObjD} (ho:l[k]?=some o):posO o.id (l.take k)=none:=by
 cases hp:posO o.id (l.take k) with
 |none=>rfl
 |some i =>
  obtain ⟨x,hx,e⟩:=zdt _ _ _ hp;rw [List.getElem?_take] at hx;split at hx
  ·rename_i hi;have:=(zcs h).2 i k x o hi hx ho;rw [e,zbp] at this;cases this
  ·cases hx
theorem zaoq {l:List ObjD} (h:zas l=true) {k:Nat} {o:ObjD} (ho:l[k]?=some o) {acc:List (ByteArray × Nat)} (ha:∀id,aget id acc=posO id (l.take k)) (id:ByteArray):aget id (aput o.id k acc)=posO id (l.take (k+1)):=by
 obtain ⟨hk,e⟩:=List.getElem?_eq_some_iff.1 ho;rw [List.take_succ_eq_append_getElem hk,e,zvv];by_cases hi:o.id=id
 ·subst hi;rw [zby,zjx h ho,if_pos rfl];simp;omega
 ·rw [zci _ hi,ha,if_neg hi];cases posO id (l.take k)<;>rfl
set_option maxRecDepth 100000 in
set_option maxHeartbeats 4000000 in
theorem zaqq (v:Value) (l:List ObjD) (w:World) (hv:zbb w v l) (hok:zas l=true) :
  Calls Tryz.prog 45 #[.agg #[v]] w fun e w'=>∃B:Nat,e=.returned (.tuple #[.agg #[v,.map (some B)],.bool true])∧w.heap.size≤B∧AtIs w' B l∧Below w.heap.size w w':=by
 have VD:=zH (fun w' hb=>zrv v l w' (hv.later (w':=w') hb));rw [hok] at VD;obtain ⟨a,cap,rfl,hn,hc⟩:=hv;have HOK:=zH hok;have hmax:l.length≤1000000:=(zcs hok).1;generalize hN:l.length=N at *;have HN:=zH hN;have HC:=zH hc;clear hN hc hok;have hmm:=@run_makeMap Tryz.prog;go_enter Tryz.func45,Tryz.ntmps45;go_wp2_with fail;generalize hw1:(w.alloc _).alloc _=w1;have B1:=gB2 hw1;have H1:=gA21 hw1;have H2:=gA22 hw1;have hz1:w.heap.size+2≤w1.heap.size:=by rw [←hw1];simp
 clear hw1;refine (VD.out _ B1).mono ?_;rintro e w2 ⟨rfl,hb⟩;have B2:=zac B1 zR hb;have H1:=zH (zab hb H1);have H2:=zH (zab hb H2);have hz2:=hb.size;clear hb B1 VD;obtain ⟨mz,m0⟩:=rk1 H1.out;go_wp2;have MP:=(zbj.made Tryz.prog 9 Value.string intV w2).on ((Below.refl _ _).alloc zR (.cells #[.slice a N cap,.map (some w2.heap.size)] 78));have B3:Below w.heap.size w ((w2.alloc (.map #[] 0)).alloc (.cells #[.slice a N cap,.map (some w2.heap.size)] 78)):=(B2.alloc (by omega) _).alloc (by simp;omega) _;generalize hw3:(w2.alloc _).alloc _=w3;have HP:=gA22 hw3;have B23:=gB2 hw3;rw [hw3] at MP B3;have hz3:w3.heap.size=w2.heap.size+2:=by rw [←hw3];simp
 have H2:=zH (zab B23 H2.out);have HP:=zH HP;clear m0 mz;clear hw3 H1 B23;obtain ⟨Bm,hBm⟩:∃b,b=w2.heap.size:=⟨_,rfl⟩;rw [←hBm] at MP HP hz3 ⊢;have hzz:w.heap.size+2≤Bm:=by omega
 clear hz1 hz2 hBm;go_loopw [17] (fun i wr=>∃(k:Nat) (acc:List (ByteArray × Nat)),i=.int .i64 k∧k≤N∧zbj Tryz.prog 9 Value.string intV wr Bm acc∧acc.length≤k∧(∀id,aget id acc=posO id (l.take k))∧w3.grownBy wr (some Bm)) (fun i _=>N - (intOf i).toNat);case atStart=>exact ⟨0,[],rfl,by omega,MP,by simp,fun id=>by simp [aget,posO],World.grownBy.refl _ _⟩
 case round =>
  obtain ⟨k,acc,rfl,hk,hmap,hal,hacc,hg⟩:=hrel;have HA:=zH hacc;have hszr:=hg.size;clear hacc;have HP2:=zH (zak hg HP.out (fun h=>by injection h;omega));obtain ⟨pz,p0,p1⟩:=rk2 HP2.out;have BR:Below w.heap.size w wr:=B3.grown hg (by omega) (fun j hj=>by cases hj;omega);by_cases hlt:k<N
  ·obtain ⟨o,ho⟩:∃o,l[k]?=some o:=⟨l[k]'(by rw [HN.out];exact hlt),List.getElem?_eq_getElem _⟩;obtain ⟨b,off,ha,hcell⟩:=HC.out (by omega);subst ha;obtain ⟨vr,vt,c0,c1,c2,c3,c4,c5,hr,ht,hzo⟩:=(hcell k o ho).later BR;have HO:=zH (zaoq HOK.out ho HA.out);obtain ⟨ar,capr,evr,_⟩:=hr;obtain ⟨at1,capt,evt,_⟩:=ht;subst evr evt;obtain ⟨w5,hrun,hm5,hg5⟩:=(hmap.on ((Below.refl _ _).alloc zR (.cells #[.string o.id,.int .i64 o.kind,.int .i64 o.x,.int .i64 o.y,.slice ar o.refs.length capr,.slice at1 o.tags.length capt] 36))).put keyS zef Tryz.underlying76 (by unfold maxLen;omega) o.id (zcf hzo) k;have bz:=zag c0;have HG:=zH (((World.grownBy_alloc wr (.cells #[.string o.id,.int .i64 o.kind,.int .i64 o.x,.int .i64 o.y,.slice ar o.refs.length capr,.slice at1 o.tags.length capt] 36) (some Bm)).trans hg5));have HL:=zH (zde o.id k acc);clear hcell ho hmap hg5 HA;go_wp2;go_roundw;case rel=>exact ⟨k+1,aput o.id k acc,by go_num,by omega,hm5,by have:=HL.out;omega,HO.out,hg.trans HG.out⟩
   case measure=>simp [intOf];omega
  ·obtain rfl:k=N:=(by omega);have H2r:=zH (zak hg H2.out (fun h=>by injection h;omega));have hlen:=HN.out;have HAT:AtIs wr Bm l:=⟨acc,hmap,by omega,fun id=>by rw [HA.out,List.take_of_length_le (by omega)]⟩;clear hmap H2 HP HA;obtain ⟨rz,r0,r1⟩:=rk2 H2r.out;have rf0:=frozen_of_row wr _ 0 _ _ H2r.out;have rf1:=frozen_of_row wr _ 1 _ _ H2r.out;clear hlen;go_wp2;refine bodyPost_ret (v:=.tuple #[.agg #[.slice a k cap,.map (some Bm)],.bool true]) ?_ rfl ⟨Bm,rfl,by omega,?_,?_⟩
   ·simp [results,Tryz.results45,go_sem,r0,r1]
   ·exact (HAT.set (a:=⟨w.heap.size+1,0,none⟩) (by simp only;omega)).set (a:=⟨w.heap.size+1,1,none⟩) (by simp only;omega)
   ·exact ((BR.setCell (p:=⟨w.heap.size+1,0,none⟩) (by simp) _).setCell (p:=⟨w.heap.size+1,1,none⟩) (by simp) _)
end Go.Proofs.YtibpaaajghbkoaaGreat

namespace Go.Proofs.YtibpaaajghbkoaaGreat
theorem zqm {l:List ObjD} {id:ByteArray} (h:zax l id=[]):zcr l id=none:=by unfold zcr;rw [h]
theorem zqo {l:List ObjD} {id:ByteArray} {p:KeyD} (hne:zax l id≠[]) (h:∀x∈zax l id,nbrO x id=some p):zcr l id=some p:=by
 unfold zcr;cases hr:zax l id with
 |nil=>exact absurd hr hne
 |cons o os =>rw [hr] at h;simp only [h o (List.mem_cons_self ..)];rw [if_pos];rw [List.all_eq_true];exact fun x hx=>decide_eq_true (h x (List.mem_cons_of_mem _ hx))
theorem zqn {l:List ObjD} {id:ByteArray} {p:KeyD} (h:zcr l id=some p) {x:ObjD} (hx:x∈zax l id):nbrO x id=some p:=by have:=List.mem_filter.1 hx;exact (zjf h).2 x this.1 (of_decide_eq_true this.2)
theorem zex {l:List ObjD} {id:ByteArray} {x:ObjD} (hx:x∈zax l id) (h:nbrO x id=none):zcr l id=none:=by
 cases hn:zcr l id with
 |none=>rfl
 |some p=>rw [zqn hn hx] at h;cases h
theorem zql {l:List ObjD} {id:ByteArray} {x y:ObjD} {p q:KeyD} (hx:x∈zax l id) (hy:y∈zax l id) (h:nbrO x id=some p) (h2:nbrO y id=some q) (hne:p≠q):zcr l id=none:=by
 cases hn:zcr l id with
 |none=>rfl
 |some r =>rw [zqn hn hx] at h;rw [zqn hn hy] at h2;injection h with h;injection h2 with h2;exact absurd (h.symm.trans h2) hne
theorem znx:∀{L ord:List ByteArray},L.Sublist ord→ord.Nodup→ord.filter (fun x=>decide (x∈L))=L
 |_,_,.slnil,_=>rfl
 |_,_,.cons (l₁:=L) (l₂:=O) a h,hn=>by obtain ⟨h1,h2⟩:=List.nodup_cons.1 hn;have ha:a ∉ L:=fun c=>h1 (h.subset c);rw [List.filter_cons,if_neg (by simpa using ha)];exact znx h h2
 |_,_,.cons_cons (l₁:=L) (l₂:=O) a h,hn=>by obtain ⟨h1,h2⟩:=List.nodup_cons.1 hn;rw [List.filter_cons,if_pos (by simp)];congr 1;rw [←znx h h2];refine List.filter_congr fun x hx=>?_;have:x≠a:=fun e=>h1 (e ▸ hx);rw [Bool.eq_iff_iff];simp [this,List.mem_filter,hx]
theorem zji {α β:Type} (p:α→Bool) (f:α→Option β):∀(l:List α),(∀x∈l,p x=false→f x=none)→l.filterMap f=(l.filter p).filterMap f
 |[],_=>rfl
 |a :: l,h=>by
  have ih:=zji p f l (fun x hx=>h x (List.mem_cons_of_mem _ hx));rw [List.filter_cons];cases hp:p a with
  |true=>rw [if_pos rfl,List.filterMap_cons,List.filterMap_cons,ih]
  |false=>rw [if_neg (by simp),List.filterMap_cons,h a (List.mem_cons_self ..) hp,ih]
theorem zqg {β:Type} {l:List ObjD} (h:zas l=true) {ord:List ByteArray} (hn:ord.Nodup) (hs:(l.map (·.id)).Sublist ord) (f:ObjD→Option β):ord.filterMap (fun id=>(atO l id).bind f)=l.filterMap f:=by
 rw [zji (fun x=>decide (x∈l.map (·.id))) _ ord,znx hs hn,List.filterMap_map]
 ·have:∀L:List ObjD,(∀o∈L,o∈l)→L.filterMap ((fun id=>(atO l id).bind f) ∘ fun o:ObjD=>o.id)=L.filterMap f:=by
   intro L
   induction L with
   |nil=>intro _;rfl
   |cons o L ih =>intro hL;rw [List.filterMap_cons,List.filterMap_cons,ih (fun x hx=>hL x (List.mem_cons_of_mem _ hx))];simp only [Function.comp,zla h (hL o (List.mem_cons_self ..)),Option.bind_some]
  exact this l fun o ho=>ho
 ·intro x _ hx;have hx':x ∉ l.map (·.id):=of_decide_eq_false hx;cases hc:atO l x with
  |none=>rfl
  |some o =>obtain ⟨h1,h2⟩:=zke hc;exact absurd (List.mem_map.2 ⟨o,h1,h2⟩) hx'
def oneF (l:List ObjD) (c:zii) (r:ByteArray) (q:Pt):Bool:=decide (r=c.1∨r=c.2.2.1∨r=c.2.2.2) || !hasT (ptO l c.1) (ptO l c.2.2.1) (ptO l c.2.2.2) q
def zacm (l:List ObjD) (N:List (ByteArray × Pt)):Prop:=∀r,aget r N=if r∈zgp l then some (ptO l r) else none
theorem zacm.mem {l:List ObjD} {N:List (ByteArray × Pt)} (h:zacm l N) (hn:(N.map (·.1)).Nodup) {p:ByteArray × Pt} (hp:p∈N):p.1∈zgp l∧p.2=ptO l p.1:=by
 have h1:=zes (k:=p.1) (v:=p.2) hn hp;rw [h] at h1;split at h1
 ·rename_i h2;injection h1 with h1;exact ⟨h2,h1.symm⟩
 ·cases h1
theorem zamo {l:List ObjD} {N:List (ByteArray × Pt)} (h:zacm l N) (hn:(N.map (·.1)).Nodup) (c:zii):zeq l c=N.all fun p=>oneF l c p.1 p.2:=by
 rw [Bool.eq_iff_iff];unfold zeq oneF;rw [List.all_eq_true,List.all_eq_true];constructor
 ·intro h1 p hp;obtain ⟨h2,h3⟩:=h.mem hn hp;rw [h3];exact h1 _ h2
 ·intro h1 r hr;have h2:=h r;rw [if_pos hr] at h2;exact h1 _ (zdy h2)
theorem zaro {l:List ObjD} {id:ByteArray} {o:ObjD} (h:atO l id=some o):o.id=id:=(zke h).2
def zez (n:ByteArray) (ids:List ByteArray) (o:ObjD):ObjD:=if o.id∈ids then zbz n o else o
theorem zzr (n:ByteArray) (o:ObjD):zez n [] o=o:=by unfold zez;rw [if_neg (by simp)]
theorem zaeq (n:ByteArray) (ids:List ByteArray) (o:ObjD):(zez n ids o).id=o.id:=by unfold zez;split<;>rfl
theorem zzs {l:List ObjD} {n id:ByteArray}:(atO l id).map (zez n ((zax l n).map (·.id)))=(atO l id).map (zbz n):=by
 cases h:atO l id with
 |none=>rfl
 |some o =>
  simp only [Option.map_some,Option.some.injEq];unfold zez;split
  ·rfl
  ·rename_i hno;rw [zaic];intro hc;exact hno (List.mem_map.2 ⟨o,List.mem_filter.2 ⟨(zke h).1,decide_eq_true hc⟩,rfl⟩)
theorem zys {l:List ObjD} {n:ByteArray}:zax (zaz l n) n=[]:=by unfold zax;rw [List.filter_eq_nil_iff];intro x hx;obtain ⟨o,ho,hne,rfl⟩:=zge.1 hx;simp only [decide_eq_true_eq];intro c;exact (zio.1 c).2 rfl
theorem zuo (l:List ObjD) (id:ByteArray):atO l id=l.find? fun o=>decide (o.id=id):=by
 unfold atO
 induction l with
 |nil=>rfl
 |cons o l ih =>
  rw [posO,List.find?_cons];by_cases h:o.id=id
  ·rw [if_pos h];simp [h]
  ·rw [if_neg h];simp only [h,decide_false];rw [←ih];cases posO id l<;>rfl
theorem zaqa {l:List ObjD} (h:zas l=true) {k:Nat} {o:ObjD} (ho:l[k]?=some o) (id:ByteArray):atO (l.take (k+1)) id=if o.id=id then some o else atO (l.take k) id:=by
 obtain ⟨hk,e⟩:=List.getElem?_eq_some_iff.1 ho;rw [zuo,zuo,List.take_succ_eq_append_getElem hk,e,List.find?_append];by_cases hi:o.id=id
 ·rw [if_pos hi];have:(l.take k).find? (fun o=>decide (o.id=id))=none:=by rw [←zuo];unfold atO;subst hi;rw [zjx h ho];rfl
  rw [this];simp [hi]
 ·rw [if_neg hi];have:[o].find? (fun o=>decide (o.id=id))=none:=by simp [hi]
  rw [this,Option.or_none]
def refI (l:List ObjD) (k i:Nat) (o:ObjD) (r:ByteArray):List ByteArray:=(zax (l.take k) r).map (·.id)++if r∈o.refs.take i then [o.id] else []
def nodI (l:List ObjD) (k i:Nat) (o:ObjD) (r:ByteArray):Prop:=r∈zgp (l.take k)∨((o.kind=2∨o.kind=3)∧r∈o.refs.take i)
theorem zms (l:List ObjD) (k:Nat) (o:ObjD) (r:ByteArray):refI l k 0 o r=(zax (l.take k) r).map (·.id):=by unfold refI;simp
theorem zyr (l:List ObjD) (o:ObjD) (r:ByteArray):zax (l++[o]) r=zax l r++if r∈o.refs then [o] else []:=by
 unfold zax;rw [List.filter_append];congr 1;by_cases h:r∈o.refs
 ·rw [if_pos h];simp [h]
 ·rw [if_neg h];simp [h]
theorem zali {l:List ObjD} {k:Nat} {o:ObjD} (ho:l[k]?=some o) (r:ByteArray):refI l k o.refs.length o r=(zax (l.take (k+1)) r).map (·.id):=by obtain ⟨hk,e⟩:=List.getElem?_eq_some_iff.1 ho;unfold refI;rw [List.take_of_length_le zR,List.take_succ_eq_append_getElem hk,e,zyr,List.map_append];congr 1;split<;>rfl
theorem zpj (l:List ObjD) (k:Nat) (o:ObjD) (r:ByteArray):nodI l k 0 o r↔r∈zgp (l.take k):=by unfold nodI;simp
theorem zalt {l:List ObjD} {k:Nat} {o:ObjD} (ho:l[k]?=some o) (r:ByteArray):nodI l k o.refs.length o r↔r∈zgp (l.take (k+1)):=by
 obtain ⟨hk,e⟩:=List.getElem?_eq_some_iff.1 ho;unfold nodI;rw [List.take_of_length_le zR,List.take_succ_eq_append_getElem hk,e,zgf,zgf];constructor
 ·rintro (⟨x,hx,h1,h2⟩ | ⟨h1,h2⟩)
  ·exact ⟨x,List.mem_append_left _ hx,h1,h2⟩
  ·exact ⟨o,by simp,h1,h2⟩
 ·rintro ⟨x,hx,h1,h2⟩;rcases List.mem_append.1 hx with hx | hx
  ·exact Or.inl ⟨x,hx,h1,h2⟩
  ·rw [List.mem_singleton.1 hx] at h1 h2;exact Or.inr ⟨h1,h2⟩
theorem zagf {l:List ObjD} (h:zas l=true) {k i:Nat} {o:ObjD} (ho:l[k]?=some o) (r:ByteArray):o.id∈refI l k i o r↔r∈o.refs.take i:=by
 unfold refI;rw [List.mem_append];constructor
 ·rintro (c | c)
  ·obtain ⟨x,hx,e⟩:=List.mem_map.1 c;have hx:=(List.mem_filter.1 hx).1;have hp:=zjx h ho;obtain ⟨j,hj⟩:=List.getElem?_of_mem hx;have h1:atO (l.take k) o.id=none:=(by unfold atO;rw [hp];rfl);rw [zuo,List.find?_eq_none] at h1;exact absurd e (by simpa using h1 x hx)
  ·split at c
   ·assumption
   ·cases c
 ·intro hm;rw [if_pos hm];exact Or.inr (by simp)
theorem zabd {l:List ObjD} {k i:Nat} {o:ObjD} {s:ByteArray} (hs:o.refs[i]?=some s) (r:ByteArray):refI l k (i+1) o r=if r=s∧r ∉ o.refs.take i then refI l k i o r++[o.id] else refI l k i o r:=by
 obtain ⟨hi,e⟩:=List.getElem?_eq_some_iff.1 hs;unfold refI;rw [List.take_succ_eq_append_getElem hi,e];by_cases h1:r∈o.refs.take i
 ·rw [if_pos (List.mem_append_left _ h1),if_pos h1,if_neg (fun c=>c.2 h1)]
 ·by_cases h2:r=s
  ·rw [if_pos (by rw [h2];simp),if_neg h1,if_pos ⟨h2,h1⟩,List.append_nil]
  ·rw [if_neg (by simp [h1,h2]),if_neg h1,if_neg (fun c=>h2 c.1)]
theorem ztt {l:List ObjD} {k i:Nat} {o:ObjD} {s:ByteArray} (hs:o.refs[i]?=some s) (r:ByteArray):nodI l k (i+1) o r↔nodI l k i o r∨((o.kind=2∨o.kind=3)∧r=s):=by
 obtain ⟨hi,e⟩:=List.getElem?_eq_some_iff.1 hs;unfold nodI;rw [List.take_succ_eq_append_getElem hi,e];simp only [List.mem_append,List.mem_singleton];constructor
 ·rintro (h | ⟨h1,h2 | h2⟩)
  ·exact Or.inl (Or.inl h)
  ·exact Or.inl (Or.inr ⟨h1,h2⟩)
  ·exact Or.inr ⟨h1,h2⟩
 ·rintro ((h | ⟨h1,h2⟩) | ⟨h1,h2⟩)
  ·exact Or.inl h
  ·exact Or.inr ⟨h1,Or.inl h2⟩
  ·exact Or.inr ⟨h1,Or.inr h2⟩
theorem zalo {l:List ObjD} (h:zas l=true) {r:ByteArray} {x:ObjD} (hx:atO l r=some x) (hk:x.kind=1):ptO l r=(x.x,x.y):=by obtain ⟨h1,h2⟩:=zke hx;unfold ptO;rw [(zdi h).2 ⟨x,h1,h2,hk,rfl⟩];rfl
theorem zaiy {l:List ObjD} {o:ObjD} (ho:o∈l) {i:Nat} {r:ByteArray} (hr:o.refs[i]?=some r) (h:∀x,atO l r=some x→x.kind≠zfd o i):fitP l=false:=by
 cases hf:fitP l with
 |false=>rfl
 |true =>obtain ⟨x,hx,hk⟩:=zkc.1 ((zdb.1 hf).2.2 o ho) i r hr;exact absurd hk (h x hx)
end Go.Proofs.YtibpaaajghbkoaaGreat

namespace Go.Proofs.YtibpaaajghbkoaaGreat
open Go.RowKit
theorem zaiv {W w1:World} {n₀:Nat} {e:TypeId} {size:Nat} {v:Value} {k:Nat} {xs:List Value}
  (hrow:W.ownsRow n₀ e size v k xs) (hn₀:n₀≤W.heap.size) (hgrow:W.grownBy w1 v.ownBlock):Below n₀ W w1:=by
 refine (Below.refl n₀ W).grown hgrow hn₀ fun j ej=>?_;rcases hrow.2 with ⟨rfl,_⟩ | ⟨g,cap,cur,rfl,hb,_,_⟩
 ·simp [Value.ownBlock] at ej
 ·obtain rfl:g=j:=by simpa [Value.ownBlock] using ej
  exact hb
def znr (w:World) (x:Value) (m:Nat) (news:List Value):Prop :=
 ∃(ao:Option Addr) (c:Nat),x=.slice ao m c∧(m=0∨∃a,ao=some a∧∀j u,news[j]?=some u→w.cell? (a.add j)=some u)
theorem zrq {P:Program} (w:World) (base:Nat) (t ty e:TypeId) (i:TypeInfo) (z:Value) (size bytes:Nat) (ht:P.underlying t=some (.slice e)) (hi:P.info? e=some i) (hz:i.zero=some z)
  (hsize:i.size=size) (hby:i.bytes=bytes) (hzs:z.cells.size=size) (hsz:0<size)
  (v:Value) (n:Nat) (xs:List Value) (hown:w.ownsRow base e size v n xs)
  (x:Value) (m:Nat) (news:List Value) (hx:znr w x m news) (hl:news.length=m * size) (h1:∀u∈news,u.oneCell'=true)
  (h63:n+m≤maxLen) (hbytes:(n+m) * bytes≤140737488355328) (hbase:base≤w.heap.size) :
  ∃v' w',(Builtin.append_ #[t,t] ty #[v,x]).run P w=.ok v' w'∧w'.ownsRow base e size v' (n+m) (xs++news)∧w.grownBy w' v.ownBlock:=by
 obtain ⟨ao,c,rfl,hc⟩:=hx;cases ao with
 |some a =>
  have hnews:∀j u,news[j]?=some u→w.cell? (a.add j)=some u:=by
   rcases hc with h0 | ⟨a',ha,hcells⟩
   ·subst h0;have:news=[]:=List.length_eq_zero_iff.1 (by rw [hl,Nat.zero_mul]);subst this;intro j u h;simp at h
   ·cases ha;exact hcells
  obtain ⟨v',w',hr,h2,h3,_⟩:=run_append_own (P:=P) w base t ty e i z size bytes ht hi hz hsize hby hzs hsz v n xs hown a m c news hl hnews h1 h63 hbytes hbase;exact ⟨v',w',hr,h2,h3⟩
 |none =>
  have h0:m=0:=by
   rcases hc with h0 | ⟨a',ha,_⟩
   ·exact h0
   ·cases ha
  subst h0;have hnil:news=[]:=List.length_eq_zero_iff.1 (by rw [hl,Nat.zero_mul]);subst hnil;have hg:∀row,w.grownBy w row:=fun row=>⟨rfl,rfl,rfl,Nat.le_refl _,fun _ _ _=>rfl⟩;have hown0:=hown;rcases hown.2 with ⟨rfl,rfl⟩ | ⟨g,cap,cur,rfl,hb,hg',hn,hm,hcs,htk⟩
  ·refine ⟨_,w,?_,by simpa using hown0,hg _⟩;simp [Builtin.append_,run_underlying ht,sizeOf,typeInfo,hi,Builtin.lenOf,Builtin.firstCells]
  ·refine ⟨_,w,?_,by simpa using hown0,hg _⟩;simp [Builtin.append_,run_underlying ht,sizeOf,typeInfo,hi,Builtin.lenOf,Builtin.firstCells,hn,storeCells]
theorem zta {P:Program} (w:World) {o:Oper} {a:Act} {K:Act→World→Prop} {Q:Exit→Act→World→Prop} (s x:Operand) (t:TypeId)
  (ho:o.op=.call { callee:=.builtin .append,args:=#[s,x],argTypes:=#[t,t] })
  (base:Nat) (e:TypeId) (i:TypeInfo) (z:Value) (size bytes:Nat) (ht:P.underlying t=some (.slice e)) (hi:P.info? e=some i) (hz:i.zero=some z)
  (hsize:i.size=size) (hby:i.bytes=bytes) (hzs:z.cells.size=size) (hsz:0<size)
  (v:Value) (n:Nat) (xs:List Value) (hs:a.eval s=v) (hown:w.ownsRow base e size v n xs)
  (m:Nat) (news:List Value) (hx:znr w (a.eval x) m news) (hl:news.length=m * size) (h1:∀u∈news,u.oneCell'=true)
  (h63:n+m≤maxLen) (hbytes:(n+m) * bytes≤140737488355328) (hbase:base≤w.heap.size)
  (h:∀v' w',w'.ownsRow base e size v' (n+m) (xs++news)→w.grownBy w' v.ownBlock→K (a.put o.dst v') w'):o.wp P a w K Q:=by
 obtain ⟨v',w',hr,h2,h3⟩:=zrq (P:=P) w base t o.type e i z size bytes ht hi hz hsize hby hzs hsz v n xs hown (a.eval x) m news hx hl h1 h63 hbytes hbase;unfold Oper.wp execOp;simp only [ho,resolve,invoke,builtin,Sem.run_bind,Sem.run_pure,Result.andThen_ok,List.map_toArray,List.map_cons,List.map_nil,hs,hr];exact h v' w' h2 h3
theorem zcv {P:Program} (w:World) {o:Oper} {a:Act} {K:Act→World→Prop} {Q:Exit→Act→World→Prop} (s x:Operand) (t:TypeId)
  (ho:o.op=.call { callee:=.builtin .append,args:=#[s,x],argTypes:=#[t,t] })
  (base:Nat) (e:TypeId) (i:TypeInfo) (z:Value) (size bytes:Nat) (ht:P.underlying t=some (.slice e)) (hi:P.info? e=some i) (hz:i.zero=some z)
  (hsize:i.size=size) (hby:i.bytes=bytes) (hzs:z.cells.size=size) (hsz:0<size)
  (v:Value) (n:Nat) (xs:List Value) (hs:a.eval s=v) (hown:w.ownsRow base e size v n xs)
  (m:Nat) (news:List Value) (hx:znr w (a.eval x) m news) (hl:news.length=m * size) (h1:∀u∈news,u.oneCell'=true)
  (h63:n+m≤maxLen) (hbytes:(n+m) * bytes≤140737488355328) (hbase:base≤w.heap.size)
  (h:∀v' w',w'.ownsRow base e size v' (n+m) (xs++news)→w.grownBy w' v.ownBlock→RowKit.Below base w w'→K (a.put o.dst v') w'):o.wp P a w K Q :=
 zta w s x t ho base e i z size bytes ht hi hz hsize hby hzs hsz v n xs hs hown m news hx hl h1 h63 hbytes hbase fun v' w' h2 h3=>h v' w' h2 h3 (zaiv hown hbase h3)
theorem zpg {w:World} {base base' size n:Nat} {e:TypeId} {v:Value} {xs:List Value} (h:w.ownsRow base e size v n xs) (hb:base'≤base):w.ownsRow base' e size v n xs:=by
 refine ⟨h.1,?_⟩;rcases h.2 with h0 | ⟨g,cap,cur,h1,h2,h3⟩
 ·exact Or.inl h0
 ·exact Or.inr ⟨g,cap,cur,h1,Nat.le_trans hb h2,h3⟩
theorem zjy {w:World} {base size n:Nat} {e:TypeId} {v:Value} {xs:List Value} (h:w.ownsRow base e size v n xs):∃ao c,v=.slice ao n c:=by
 rcases h.2 with ⟨rfl,rfl⟩ | ⟨g,cap,cur,rfl,_⟩
 ·exact ⟨_,_,rfl⟩
 ·exact ⟨_,_,rfl⟩
end Go.Proofs.YtibpaaajghbkoaaGreat

namespace Go.Proofs.YtibpaaajghbkoaaGreat
open Go.RowKit
section
variable {α:Type} {enc:α→List Value} {k:Nat}
theorem zzm (hk:∀x,(enc x).length=k) (h0:0<k) (l:List α) (j:Nat) (u:Value) (h:(l.flatMap enc)[j]?=some u):∃x,l[j / k]?=some x∧(enc x)[j % k]?=some u:=by have hl:=(List.getElem?_eq_some_iff.1 h).1;rw [zbs enc k hk] at hl;have hj:j / k<l.length:=Nat.div_lt_of_lt_mul (by rw [Nat.mul_comm];exact hl);have hx:=List.getElem?_eq_getElem hj;have:=zey enc k hk l (j / k) (j % k) _ hx (Nat.mod_lt _ h0);rw [Nat.mul_comm,Nat.div_add_mod,h] at this;exact ⟨_,hx,this.symm⟩
theorem zael (hk:∀x,(enc x).length=k) (l:List α) (q:Nat):(l.take q).flatMap enc=(l.flatMap enc).take (q * k):=by
 induction l generalizing q with
 |nil=>simp
 |cons x l ih =>
  cases q with
  |zero=>simp
  |succ q =>rw [List.take_succ_cons,List.flatMap_cons,List.flatMap_cons,ih,show (q+1) * k=(enc x).length+q * k by rw [hk,Nat.add_mul];omega,List.take_length_add_append]
theorem zaol (hk:∀x,(enc x).length=k) (h0:0<k) {w:World} {ao:Option Addr} {n c:Nat} {l:List α} (h:RowE enc k w (.slice ao n c) l):znr w (.slice ao n c) n (l.flatMap enc):=by
 obtain ⟨ao',cap',hv,hc⟩:=h;injection hv with h1 h2 h3;subst h1 h2 h3;refine ⟨_,_,rfl,?_⟩;by_cases hl:l.length=0
 ·exact Or.inl hl
 ·obtain ⟨b,off,ha,hcell⟩:=hc (by omega);refine Or.inr ⟨_,ha,fun j u hu=>?_⟩;obtain ⟨x,hx,hxu⟩:=zzm hk h0 l j u hu;rw [Addr.add_lit];have:=hcell (j / k) x hx (j % k) u hxu;rw [Nat.add_assoc,Nat.mul_comm,Nat.div_add_mod] at this;exact this
theorem zuz (hk:∀x,(enc x).length=k) (h0:0<k) {w:World} {ao:Option Addr} {n cap q:Nat} {l:List α} (h:RowE enc k w (.slice ao n cap) l) (hq:q≤n) (c:Nat):znr w (.slice ao q c) q ((l.take q).flatMap enc):=by
 obtain ⟨ao',cap',hv,hc⟩:=h;injection hv with h1 h2 h3;subst h1 h2 h3;refine ⟨_,_,rfl,?_⟩;by_cases hl:q=0
 ·exact Or.inl hl
 ·obtain ⟨b,off,ha,hcell⟩:=hc (by omega);refine Or.inr ⟨_,ha,fun j u hu=>?_⟩;rw [zael hk,List.getElem?_take] at hu;split at hu
  ·obtain ⟨x,hx,hxu⟩:=zzm hk h0 l j u hu;rw [Addr.add_lit];have:=hcell (j / k) x hx (j % k) u hxu;rw [Nat.add_assoc,Nat.mul_comm,Nat.div_add_mod] at this;exact this
  ·cases hu
theorem zva (hk:∀x,(enc x).length=k) (h0:0<k) {w:World} {ao:Option Addr} {n cap q:Nat} {l:List α} (h:RowE enc k w (.slice ao n cap) l) (hq:q≤n) (hcap:n≤cap):znr w (.slice (if cap=q then ao else ao.map (·.add (q * k))) (n - q) (cap - q)) (n - q) ((l.drop q).flatMap enc):=by
 obtain ⟨ao',cap',hv,hc⟩:=h;injection hv with h1 h2 h3;subst h1 h2 h3;refine ⟨_,_,rfl,?_⟩;by_cases hl:l.length - q=0
 ·exact Or.inl hl
 ·obtain ⟨b,off,ha,hcell⟩:=hc (by omega);have hne:cap≠q:=by omega
  subst ha;refine Or.inr ⟨⟨b,off+q * k,none⟩,by rw [if_neg hne];simp [Addr.add_lit],fun j u hu=>?_⟩;obtain ⟨x,hx,hxu⟩:=zzm hk h0 (l.drop q) j u hu;rw [List.getElem?_drop] at hx;have:=hcell (q+j / k) x hx (j % k) u hxu;rw [Addr.add_lit];rw [Nat.add_mul,Nat.add_assoc,Nat.add_assoc,Nat.mul_comm (j / k),Nat.div_add_mod,←Nat.add_assoc] at this;exact this
theorem zabe (hk:∀x,(enc x).length=k) (w:World) {base:Nat} {e:TypeId} (l:List α) (hb:base≤w.heap.size) (hm:l.length≤maxLen) {cs:Array Value} (hcs:cs=(l.flatMap enc).toArray) (n:Nat) (hn:n=l.length) :
  (w.alloc (.cells cs e)).ownsRow base e k (.slice (some ⟨w.heap.size,0,none⟩) n n) n (l.flatMap enc):=by
 subst hn hcs;have hl:=zbs enc k hk l;refine ⟨hl,Or.inr ⟨_,_,_,rfl,hb,zan w _,Nat.le_refl _,hm,by simpa using hl,?_⟩⟩;show (l.flatMap enc).take _=_;exact List.take_of_length_le (by rw [hl];exact Nat.le_refl _)
end
theorem zev {P:Program} {ops:Array Oper} {rest:List Oper} {o:Oper} {a:Act} {Q:Exit→Act→World→Prop} {w:World} (hgd:o.guard=none) (s x:Operand) (t:TypeId)
  (ho:o.op=.call { callee:=.builtin .append,args:=#[s,x],argTypes:=#[t,t] })
  (base:Nat) (e:TypeId) (i:TypeInfo) (z:Value) (size bytes:Nat) (ht:P.underlying t=some (.slice e)) (hi:P.info? e=some i) (hz:i.zero=some z)
  (hsize:i.size=size) (hby:i.bytes=bytes) (hzs:z.cells.size=size) (hsz:0<size)
  (v:Value) (n:Nat) (xs:List Value) (hs:a.eval s=v) (hown:w.ownsRow base e size v n xs)
  (m:Nat) (news:List Value) (hx:znr w (a.eval x) m news) (hl:news.length=m * size) (h1:∀u∈news,u.oneCell'=true)
  (h63:n+m≤maxLen) (hbytes:(n+m) * bytes≤140737488355328) (hbase:base≤w.heap.size)
  (h:∀v' w',w'.ownsRow base e size v' (n+m) (xs++news)→w.grownBy w' v.ownBlock→RowKit.Below base w w'→wpList P ops Q rest (a.put o.dst v') w'):wpList P ops Q (o :: rest) a w :=
 wpList_plain hgd fun _ hK=>zcv w s x t ho base e i z size bytes ht hi hz hsize hby hzs hsz v n xs hs hown m news hx hl h1 h63 hbytes hbase fun v' w' h2 h3 h4=>hK _ _ (h v' w' h2 h3 h4)
end Go.Proofs.YtibpaaajghbkoaaGreat

namespace Go.Proofs.YtibpaaajghbkoaaGreat
open Go.RowKit Go.Sort
abbrev ObM:=ObjD × Value × Value
def zgw (x:ObM):List Value:=[.string x.1.id,.int .i64 x.1.kind,.int .i64 x.1.x,.int .i64 x.1.y,x.2.1,x.2.2]
theorem zjj (x:ObM):(zgw x).length=6:=rfl
def ObOK (w:World) (x:ObM):Prop:=zaj w x.2.1 x.1.refs∧zba w x.2.2 x.1.tags∧x.1.id.size≤140737488355328
theorem ObOK.later {w w':World} {x:ObM} (h:ObOK w x) (hb:Below w.heap.size w w'):ObOK w' x:=⟨h.1.later hb,h.2.1.later hb,h.2.2⟩
theorem ObOK.one {w:World} {x:ObM} (h:ObOK w x):∀v∈zgw x,v.oneCell'=true:=by
 obtain ⟨⟨a,c,e,_⟩,⟨a2,c2,e2,_⟩,_⟩:=h;intro v hv;simp only [zgw,List.mem_cons,List.not_mem_nil,or_false] at hv;rcases hv with rfl | rfl | rfl | rfl | rfl | rfl
 ·rfl
 ·rfl
 ·rfl
 ·rfl
 ·rw [e];rfl
 ·rw [e2];rfl
theorem zahb {w:World} {v:Value} {L:List ObM} (h:RowE zgw 6 w v L) (hok:∀x∈L,ObOK w x) (hn:L.length≤140737488355328):zbb w v (L.map (·.1)):=by obtain ⟨a,cap,rfl,hc⟩:=h;refine ⟨a,cap,by rw [List.length_map],by rw [List.length_map];exact hn,fun hp=>?_⟩;rw [List.length_map] at hp;obtain ⟨b,off,ha,hcell⟩:=hc hp;refine ⟨b,off,ha,fun i o hi=>?_⟩;rw [List.getElem?_map] at hi;obtain ⟨x,hx,rfl⟩:=Option.map_eq_some_iff.1 hi;obtain ⟨hr,ht,hz⟩:=hok x (zM hx);exact ⟨_,_,hcell i x hx 0 _ rfl,hcell i x hx 1 _ rfl,hcell i x hx 2 _ rfl,hcell i x hx 3 _ rfl,hcell i x hx 4 _ rfl,hcell i x hx 5 _ rfl,hr,ht,hz⟩
theorem zabw:(Tryz.prog.info? 36).map (fun i=>(i.zero,i.size,i.bytes))=some (some (.agg #[.string ⟨#[]⟩,.int .i64 0,.int .i64 0,.int .i64 0,.slice none 0 0,.slice none 0 0]),6,88):=by kernel_rfl
end Go.Proofs.YtibpaaajghbkoaaGreat

namespace Go.Proofs.YtibpaaajghbkoaaGreat
open Go.RowKit Go.Maps Go.ChangeMaps
set_option maxHeartbeats 1000000 in
theorem zady (id:ByteArray) (Bp Bm:Nat) (v:Value) (l:List ObjD) (w:World) (hz:id.size≤140737488355328) (hp:w.heap[Bp]?=some (.cells #[v,.map (some Bm)] 78)) (hat:AtIs w Bm l) (hv:zbb w v l) :
  Calls Tryz.prog 138 #[.string id,.pointer (some ⟨Bp,0,none⟩)] w fun e w'=>e=.returned (.bool (!(zbi l id).isSome))∧w'=w:=by
 obtain ⟨a,cap,rfl,hn,hc⟩:=hv;have HP:=zH hp;have hlk:=hat.lookOk id hz;clear hp hat;obtain ⟨r,hr⟩:∃r,r = !(zbi l id).isSome:=⟨_,rfl⟩;rw [←hr];cases hpo:posO id l with
 |none =>have HE:=zH (show r=true by rw [hr,zel l id hpo];rfl);rw [hpo] at hlk;simp only [Option.map_none,Option.getD_none,Option.isSome_none] at hlk;obtain ⟨pz,p0,p1⟩:=rk2 HP.out;clear hr hc hpo;go_enter Tryz.func138,Tryz.ntmps138;go_wp2;go_ret;exact ⟨by rw [HE.out]<;>rfl,rfl⟩
 |some k =>
  obtain ⟨o,ho,_⟩:=zdt id l k hpo;have hk:=(List.getElem?_eq_some_iff.1 ho).1;obtain ⟨b,off,ha,hcell⟩:=hc (by omega);subst ha;obtain ⟨vr,vt,c0,c1,c2,c3,c4,c5,hrr,ht,hzo⟩:=hcell k o ho;rw [hpo] at hlk;simp only [Option.map_some,Option.getD_some,Option.isSome_some,intV] at hlk;have HR:=zH (hr.trans (congrArg (fun z:Option (Int × Int)=>!z.isSome) (zfl l id k hpo o ho)));obtain ⟨pz,p0,p1⟩:=rk2 HP.out;have k0:(0:Int)≤(k:Int):=by omega
  have k1:(k:Int)<(l.length:Int):=by omega
  have kn:((k:Int)).toNat=k:=by omega
  clear hr hc hpo hcell hrr ht ho c0 c2 c3 c4 c5 hk;by_cases h1:o.kind=1
  ·have h1d:(o.kind != 1)=false:=(by rw [h1];rfl);have HE:=zH (show r=false by rw [HR.out,if_pos h1];rfl);generalize o.kind=kd at *;clear h1;go_enter Tryz.func138,Tryz.ntmps138;go_wp2;go_ret;exact ⟨by rw [HE.out]<;>rfl,rfl⟩
  ·have h1d:(o.kind != 1)=true:=(by rw [bne_iff_ne];exact h1);have HE:=zH (show r=true by rw [HR.out,if_neg h1];rfl);generalize o.kind=kd at *;clear h1;go_enter Tryz.func138,Tryz.ntmps138;go_wp2;go_ret;exact ⟨by rw [HE.out]<;>rfl,rfl⟩
def IdxN (r:Bool) (w:World) (e:Ending) (w':World):Prop:=(∃n:Int,e=.returned (.int .i64 n)∧(0≤n↔r=false))∧w'=w
set_option maxHeartbeats 1000000 in
theorem zamh (vr:Value) (refs:List ByteArray) (Bp Bm:Nat) (v:Value) (l:List ObjD) (w:World) (hr:zaj w vr refs) (hp:w.heap[Bp]?=some (.cells #[v,.map (some Bm)] 78)) (hat:AtIs w Bm l) (hv:zbb w v l) :
  Calls Tryz.prog 166 #[vr,.func (.func 138) #[] #[.pointer (some ⟨Bp,0,none⟩)]] w (IdxN (refs.all fun r=>(zbi l r).isSome) w):=by
 have ND:=zH (fun id hz=>zady id Bp Bm v l w hz hp hat hv);clear hp hat hv;obtain ⟨a,cap,rfl,hn,hsz,hc⟩:=hr;generalize hN:refs.length=N at *;have HN:=zH hN;have HZ:=zH hsz;have HC:=zH hc;obtain ⟨res,hres⟩:∃z,z=refs.all fun r=>(zbi l r).isSome:=⟨_,rfl⟩;rw [←hres];have HR:=zH hres;clear hN hsz hc hres;go_enter Tryz.func166,Tryz.ntmps166;go_wp2;go_loop [8] (fun i=>∃k:Nat,k≤N∧i=.int .i64 k∧∀s∈refs.take k,(zbi l s).isSome=true) (fun i=>N - (intOf i).toNat);case atStart=>exact ⟨0,by omega,rfl,by simp⟩
 case round =>
  obtain ⟨k,hk,rfl,hT⟩:=hrel;have HT:=zH hT;clear hT;by_cases hlt:k<N
  ·obtain ⟨s,hs⟩:∃s,refs[k]?=some s:=⟨refs[k]'(by rw [HN.out];exact hlt),List.getElem?_eq_getElem _⟩;obtain ⟨b,off,ha,hcell⟩:=HC.out (by omega);subst ha;have z1:=HZ.out s (zM hs);have c0:=hcell k s hs;have HS:=zH hs;clear hcell hs;go_wp2_with fail;refine (ND.out s z1).mono ?_;rintro e w2 ⟨rfl,rfl⟩;cases hq:(zbi l s).isSome
   ·have HE:=zH (show res=false by rw [HR.out,List.all_eq_false];exact ⟨s,zM HS.out,by simp [hq]⟩);clear hq;go_wp2;go_ret;exact ⟨⟨_,rfl,by rw [HE.out];simp⟩,rfl⟩
   ·have HG:=zH (zvr l refs k s HS.out HT.out hq);clear hq;go_wp2;go_round;case rel=>exact ⟨k+1,by omega,by go_num,HG.out⟩
    case measure=>simp [intOf];omega
  ·obtain rfl:k=N:=(by omega);have HE:=zH (show res=true by rw [HR.out,List.all_eq_true];have:=HT.out;rw [List.take_of_length_le (by rw [HN.out];exact Nat.le_refl _)] at this;exact this);go_wp2;go_ret;exact ⟨⟨_,rfl,by rw [HE.out];simp⟩,rfl⟩
theorem zaml (vr:Value) (refs:List ByteArray) (Bp Bm:Nat) (v:Value) (l:List ObjD) (w:World) (hr:zaj w vr refs) (hp:w.heap[Bp]?=some (.cells #[v,.map (some Bm)] 78)) (hat:AtIs w Bm l) (hv:zbb w v l) :
  Calls Tryz.prog 133 #[vr,.func (.func 138) #[] #[.pointer (some ⟨Bp,0,none⟩)]] w fun e w'=>e=.returned (.bool (!(refs.all fun r=>(zbi l r).isSome)))∧w'=w:=by
 have HI:=zH (zamh vr refs Bp Bm v l w hr hp hat hv);clear hr hp hat hv;generalize (refs.all fun r=>(zbi l r).isSome)=res at HI ⊢;go_enter Tryz.func133,Tryz.ntmps133;go_wp2_with fail;refine HI.out.mono ?_;rintro e w2 ⟨⟨n,rfl,hn⟩,rfl⟩;by_cases h0:0≤n
 ·have HR:=zH (hn.1 h0);clear hn;go_wp2;go_ret;exact ⟨zah (by rw [HR.out];first | (simp;done) | (simp;omega)),rfl⟩
 ·have HR:=zH (show res=true by
   cases hr:res
   ·exact absurd (hn.2 hr) h0
   ·rfl)
  clear hn;have h0':n<0:=by omega
  go_wp2;go_ret;exact ⟨zah (by rw [HR.out];first | (simp;done) | (simp;omega)),rfl⟩
set_option maxHeartbeats 1000000 in
theorem zahe (o:ObjD) (vr vt:Value) (Bm:Nat) (v:Value) (l:List ObjD) (w:World) (hr:zaj w vr o.refs) (ht:zba w vt o.tags) (hat:AtIs w Bm l) (hv:zbb w v l) :
  Calls Tryz.prog 84 #[.agg #[v,.map (some Bm)],.agg #[.string o.id,.int .i64 o.kind,.int .i64 o.x,.int .i64 o.y,vr,vt]] w fun e w'=>e=.returned (.bool (zfn l o))∧Below w.heap.size w w':=by
 have HS:=zH (fun w' hp hb=>zaml vr o.refs w.heap.size Bm v l w' (hr.later hb) hp (hat.on hb) (hv.later hb));have HQ:=zH (show zfn l o=(o.refs.all fun r=>(zbi l r).isSome) from rfl);generalize zfn l o=res at HQ ⊢;rw [←HQ.out] at HS;obtain ⟨a,cap,rfl,_⟩:=hv;obtain ⟨ar,capr,rfl,_⟩:=hr;obtain ⟨at1,capt,rfl,_⟩:=ht;clear HQ hat;obtain ⟨id,kind,x,y,refs,tags⟩:=o;simp only [] at HS ⊢;go_enter Tryz.func84,Tryz.ntmps84;go_wp2_with fail;have B1:Below w.heap.size w ((w.alloc (.cells #[.slice a l.length cap,.map (some Bm)] 78)).alloc (.cells #[.string id,.int .i64 kind,.int .i64 x,.int .i64 y,.slice ar refs.length capr,.slice at1 tags.length capt] 36)):=(by repeat' (first | exact Below.refl _ _ | refine Below.drew ?_ | refine Below.drewN' ?_ | refine Below.setCell ?_ (by first | omega | (simp;done) | exact Below.size (by assumption) | (simp;omega)) _ | refine Below.alloc ?_ (by first | omega | (simp;done) | exact Below.size (by assumption) | (simp;omega)) _ | refine Below.trans ?_ (Below.mono (by assumption) ?_) | (first | omega | (simp;done) | exact Below.size (by assumption) | (simp;omega))));have H1:=zao (o':=.cells #[.string id,.int .i64 kind,.int .i64 x,.int .i64 y,.slice ar refs.length capr,.slice at1 tags.length capt] 36) (zan w (.cells #[.slice a l.length cap,.map (some Bm)] 78));refine (HS.out _ H1 B1).mono ?_;rintro e w2 ⟨rfl,rfl⟩;clear H1;go_wp2;go_ret;exact ⟨by simp,B1⟩
set_option maxHeartbeats 1000000 in
theorem zvx (id:ByteArray) (Bm:Nat) (v:Value) (l:List ObjD) (w:World) (hz:id.size≤140737488355328) (hat:AtIs w Bm l) (hv:zbb w v l) (hn:(zbi l id).isSome=true) :
  Calls Tryz.prog 75 #[.agg #[v,.map (some Bm)],.string id] w fun e w'=>e=.returned (ptV (ptO l id))∧Below w.heap.size w w':=by
 have HAT:=zH hat;obtain ⟨a,cap,rfl,hn',hc⟩:=hv;cases hpo:posO id l with
 |none=>rw [zel l id hpo] at hn;cases hn
 |some k =>
  obtain ⟨o,ho,_⟩:=zdt id l k hpo;have hk:=(List.getElem?_eq_some_iff.1 ho).1;obtain ⟨b,off,ha,hcell⟩:=hc (by omega);subst ha;obtain ⟨vr,vt,c0,c1,c2,c3,c4,c5,hrr,ht,hzo⟩:=hcell k o ho;have hpt:ptO l id=(o.x,o.y):=by
   have h:=zfl l id k hpo o ho;unfold ptO;rw [h] at hn ⊢;split at hn
   ·rename_i h1;rw [if_pos h1];rfl
   ·cases hn
  rw [hpt];have hlk:=(HAT.out.on (w':=(w.alloc (.cells #[.slice (some ⟨b,off,none⟩) l.length cap,.map (some Bm)] 78)).alloc (.cells #[.int .i64 0,.int .i64 0] 33)) (by repeat' (first | exact Below.refl _ _ | refine Below.drew ?_ | refine Below.drewN' ?_ | refine Below.setCell ?_ (by first | omega | (simp;done) | exact Below.size (by assumption) | (simp;omega)) _ | refine Below.alloc ?_ (by first | omega | (simp;done) | exact Below.size (by assumption) | (simp;omega)) _ | refine Below.trans ?_ (Below.mono (by assumption) ?_) | (first | omega | (simp;done) | exact Below.size (by assumption) | (simp;omega))))).look id hz;rw [hpo] at hlk;simp only [Option.map_some,Option.getD_some,intV] at hlk;have k0:(0:Int)≤(k:Int):=by omega
  have k1:(k:Int)<(l.length:Int):=by omega
  have kn:((k:Int)).toNat=k:=by omega
  have bz:=zag c2;clear hpt hn hat hc hpo hcell hrr ht ho c0 c1 c4 c5 hk;go_enter Tryz.func75,Tryz.ntmps75;go_wp2;refine bodyPost_ret (v:=.agg #[.int .i64 o.x,.int .i64 o.y]) ?_ rfl ⟨rfl,?_⟩
  ·simp [results,Tryz.results75,go_sem]
  ·repeat' (first | exact Below.refl _ _ | refine Below.drew ?_ | refine Below.drewN' ?_ | refine Below.setCell ?_ (by first | omega | (simp;done) | exact Below.size (by assumption) | (simp;omega)) _ | refine Below.alloc ?_ (by first | omega | (simp;done) | exact Below.size (by assumption) | (simp;omega)) _ | refine Below.trans ?_ (Below.mono (by assumption) ?_) | (first | omega | (simp;done) | exact Below.size (by assumption) | (simp;omega)))
end Go.Proofs.YtibpaaajghbkoaaGreat
