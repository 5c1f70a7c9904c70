/-   -/
import Derived.Test.YtibpaaajghbkoaaGreatWBo
import Derived.Test.YtibpaaajghbkoaaGreatWBb
import Derived.Test.YtibpaaajghbkoaaGreatWBc
import Derived.Test.YtibpaaajghbkoaaGreatWAi
namespace Go.Proofs.YtibpaaajghbkoaaGreat
open Go.RowKit Go.Sort
abbrev BrM:=KeyD × Sg × (Option Addr × Nat × Nat)
def zgx (x:BrM):List Value:=[.string x.1.1,.string x.1.2,.int .i64 x.2.1.1.1,.int .i64 x.2.1.1.2,.int .i64 x.2.1.2.1,.int .i64 x.2.1.2.2,.slice x.2.2.1 x.2.2.2.1 x.2.2.2.2]
theorem zgd (x:BrM):(zgx x).length=7:=rfl
theorem zww (x:BrM):∀v∈zgx x,v.oneCell'=true:=by intro v hv;simp only [zgx,List.mem_cons,List.not_mem_nil,or_false] at hv;rcases hv with rfl | rfl | rfl | rfl | rfl | rfl | rfl<;>rfl
theorem zajz (L:List BrM):∀u∈L.flatMap zgx,u.oneCell'=true:=fun u hu=>by obtain ⟨x,_,hu⟩:=List.mem_flatMap.1 hu;exact zww x u hu
theorem zara:(Tryz.prog.info? 175).map (fun i=>(i.zero,i.size,i.bytes))=some (some (.agg #[.string ⟨#[]⟩,.string ⟨#[]⟩,.int .i64 0,.int .i64 0,.int .i64 0,.int .i64 0,.slice none 0 0]),7,88):=by kernel_rfl
def OwR (w:World) (v:Value) (x:BrM) (ids:List ByteArray):Prop :=
 (x.2.2=(none,0,0)∧ids=[])∨∃g n c,x.2.2=(some ⟨g,0,none⟩,n,c)∧zaj w (.slice (some ⟨g,0,none⟩) n c) ids∧v.ownBlock≠some g∧g<w.heap.size
theorem OwR.row {w:World} {v:Value} {x:BrM} {ids:List ByteArray} (h:OwR w v x ids):zaj w (.slice x.2.2.1 x.2.2.2.1 x.2.2.2.2) ids:=by
 rcases h with ⟨e,rfl⟩ | ⟨g,n,c,e,h,_⟩
 ·rw [e];exact zaj.nil w
 ·rw [e];exact h
theorem OwR.kept {w w':World} {v:Value} {x:BrM} {ids:List ByteArray} {row:Option Nat} (h:OwR w v x ids) (hg:w.grownBy w' row) (hr:row=v.ownBlock∨row=none):OwR w' v x ids:=by
 rcases h with h | ⟨g,n,c,h1,h2,h3,h4⟩
 ·exact Or.inl h
 ·have hne:some g≠row:=fun e=>by
   rcases hr with hr | hr
   ·exact h3 (hr.symm.trans e.symm)
   ·rw [hr] at e;cases e
  exact Or.inr ⟨g,n,c,h1,h2.same (hg.block g h4 hne),h3,Nat.lt_of_lt_of_le h4 hg.size⟩
theorem OwR.on {w w':World} {v:Value} {x:BrM} {ids:List ByteArray} (h:OwR w v x ids) (hb:Below w.heap.size w w'):OwR w' v x ids:=by
 rcases h with h | ⟨g,n,c,h1,h2,h3,h4⟩
 ·exact Or.inl h
 ·exact Or.inr ⟨g,n,c,h1,h2.same (hb.block g h4),h3,Nat.lt_of_lt_of_le h4 hb.size⟩
theorem OwR.new {w w0:World} {v v':Value} {x:BrM} {ids:List ByteArray} (h:OwR w0 v x ids) (h':OwR w v x ids) (hl:∀j,v'.ownBlock=some j→w0.heap.size≤j):OwR w v' x ids:=by
 rcases h' with h' | ⟨g,n,c,h1,h2,h3,h4⟩
 ·exact Or.inl h'
 ·rcases h with ⟨e,_⟩ | ⟨g',n',c',h1',_,_,h4'⟩
  ·rw [h1] at e;cases e
  ·rw [h1] at h1';injection h1' with e1 e2;injection e1 with e1;injection e1 with e1;subst e1;exact Or.inr ⟨g,n,c,h1,h2,fun e=>by have:=hl g e;omega,h4⟩
def BrAt (w:World) (base:Nat) (v:Value) (l:List ObjD) (acc:List (KeyD × List ByteArray)):Prop :=
 ∃L:List BrM,w.ownsRow base 175 7 v L.length (L.flatMap zgx)∧L.map (·.1)=acc.map (·.1)∧(∀x∈L,x.2.1=segB l x.1) ∧
  ∀(i:Nat) (x:BrM) (p:KeyD × List ByteArray),L[i]?=some x→acc[i]?=some p→OwR w v x p.2
theorem BrAt.nil (w:World) (base:Nat) (l:List ObjD):BrAt w base (.slice none 0 0) l []:=⟨[],World.ownsRow_nil _ _ _ _,rfl,fun x hx=>(by cases hx),fun i x p hx=>by simp at hx⟩
theorem BrAt.on {w w':World} {base:Nat} {v:Value} {l:List ObjD} {acc:List (KeyD × List ByteArray)} (h:BrAt w base v l acc) (hb:Below w.heap.size w w'):BrAt w' base v l acc:=by obtain ⟨L,h1,h2,h3,h4⟩:=h;exact ⟨L,zaq h1 hb,h2,h3,fun i x p hx hp=>(h4 i x p hx hp).on hb⟩
theorem zacf {acc:List (KeyD × List ByteArray)} {L:List BrM} (h2:L.map (·.1)=acc.map (·.1)):L.length=acc.length:=by have:=congrArg List.length h2;simpa using this
def zxn (acc:List (KeyD × List ByteArray)) (k:KeyD) (i:Nat):Prop:=∀j p,j<i→acc[j]?=some p→ltK p.1 k=true
def zro (u:List ByteArray) (id:ByteArray):List ByteArray:=if u.getLast?=some id then u else u++[id]
theorem zaay {k:KeyD} {id:ByteArray}:∀{acc:List (KeyD × List ByteArray)} {i:Nat},zxn acc k i→i≤acc.length→(∀p,acc[i]?=some p→ltK p.1 k=false∧p.1≠k)→rput k id acc=acc.take i++(k,[id]) :: acc.drop i
 |[],i,_,hi,_=>by
  have:i=0:=by simpa using hi
  subst this;rfl
 |q :: acc,0,_,_,h=>by obtain ⟨h1,h2⟩:=h q rfl;rw [rput,if_neg (by rw [h1];simp),if_neg h2];rfl
 |q :: acc,i+1,hp,hi,h=>by rw [rput,if_pos (hp 0 q (by omega) rfl),zaay (acc:=acc) (i:=i) (fun j p hj hx=>hp (j+1) p (by omega) (by simpa using hx)) (by simpa using hi) (fun p hx=>h p (by simpa using hx))];rfl
theorem zaav {k:KeyD} {id:ByteArray}:∀{acc:List (KeyD × List ByteArray)} {i:Nat} {p:KeyD × List ByteArray},zxn acc k i→acc[i]?=some p→p.1=k→rput k id acc=acc.set i (k,zro p.2 id)
 |[],i,p,_,h,_=>by simp at h
 |q :: acc,0,p,_,h,e=>by
  have hq:q=p:=by simpa using h
  subst hq;rw [rput,if_neg (by rw [e,zcl];simp),if_pos e];rfl
 |q :: acc,i+1,p,hp,h,e=>by rw [rput,if_pos (hp 0 q (by omega) rfl),zaav (acc:=acc) (i:=i) (fun j p hj hx=>hp (j+1) p (by omega) (by simpa using hx)) (by simpa using h) e];rfl
theorem zvo {k:KeyD} {id:ByteArray} {acc:List (KeyD × List ByteArray)} {i:Nat} (hi:i≤acc.length):(acc.take i++(k,[]) :: acc.drop i).set i (k,zro [] id)=acc.take i++(k,[id]) :: acc.drop i:=by rw [List.set_append_right _ _ (by simp;omega)];simp only [List.length_take];rw [show i - min i acc.length=0 by omega];rfl
end Go.Proofs.YtibpaaajghbkoaaGreat

namespace Go.Proofs.YtibpaaajghbkoaaGreat
open Go.RowKit Go.Sort
theorem zaac {a b:List ByteArray} {i:Nat} {x y:ByteArray} (hx:a[i]?=some x) (hy:b[i]?=some y):zdx (a.drop i) (b.drop i)=if x=y then zdx (a.drop (i+1)) (b.drop (i+1)) else ltB x y:=by obtain ⟨h1,rfl⟩:=List.getElem?_eq_some_iff.1 hx;obtain ⟨h2,rfl⟩:=List.getElem?_eq_some_iff.1 hy;rw [List.drop_eq_getElem_cons h1,List.drop_eq_getElem_cons h2,zdx]
theorem zsu {a b:List ByteArray} {i:Nat} (h:¬(i<a.length∧i<b.length)) (ha:i≤a.length) (hb:i≤b.length):zdx (a.drop i) (b.drop i)=decide (a.length<b.length):=by
 by_cases h1:i<a.length
 ·have h2:i=b.length:=by omega
  subst h2;rw [List.drop_length,decide_eq_false (by omega)];cases h3:a.drop b.length<;>rfl
 ·have h2:i=a.length:=by omega
  subst h2;rw [List.drop_length];cases h3:b.drop a.length with
  |nil =>have:=List.drop_eq_nil_iff.1 h3;rw [decide_eq_false (by omega)];rfl
  |cons z r =>have:¬b.length≤a.length:=fun c=>(by rw [List.drop_eq_nil_iff.2 c] at h3;cases h3);rw [decide_eq_true (by omega)];rfl
theorem zcj {x y:ByteArray} (h:¬x=y):(x.toList==y.toList)=false:=by rw [ByteArray.toList_eq,ByteArray.toList_eq];exact beq_false_of_ne (fun e=>h (ByteArray.ext (Array.toList_inj.mp e)))
set_option maxRecDepth 100000 in
set_option maxHeartbeats 2000000 in
theorem zyu (va vb:Value) (a b:List ByteArray) (w:World) (ha:zaj w va a) (hb:zaj w vb b) :
  Calls Tryz.prog 177 #[va,vb] w fun e w'=>e=.returned (.bool (zdx a b))∧Below w.heap.size w w':=by
 obtain ⟨xa,ca,rfl,hna,hza,hca⟩:=ha;obtain ⟨xb,cb,rfl,hnb,hzb,hcb⟩:=hb;have HA:=zH hca;have HB:=zH hcb;obtain ⟨na,hla⟩:∃n,a.length=n:=⟨_,rfl⟩;obtain ⟨nb,hlb⟩:∃n,b.length=n:=⟨_,rfl⟩;rw [hla] at hna HA ⊢;rw [hlb] at hnb HB ⊢;have HLA:=zH hla;have HLB:=zH hlb;obtain ⟨r,hr⟩:∃z,z=zdx a b:=⟨_,rfl⟩;rw [←hr];have HR:=zH hr;clear hca hcb hla hlb hza hzb hr;go_enter Tryz.func177,Tryz.ntmps177;go_wp2_with fail;go_loopw [5] (fun i wr=>∃k:Nat,k≤na∧k≤nb∧i=.int .i64 k∧r=zdx (a.drop k) (b.drop k)∧Below w.heap.size w wr) (fun i _=>na - (intOf i).toNat);case atStart=>exact ⟨0,by omega,by omega,rfl,HR.out,Below.refl _ _⟩
 case round =>
  obtain ⟨k,hk1,hk2,rfl,ht,hbr⟩:=hrel;have HT:=zH ht;clear ht;by_cases h1:k<na;case neg =>
   have HE:=zH (show r=decide (na<nb) by rw [HT.out,zsu (by rw [HLA.out];omega) (by rw [HLA.out];exact hk1) (by rw [HLB.out];exact hk2),HLA.out,HLB.out])
   have e1:decide ((k:Int)<(na:Int))=false:=decide_eq_false (by omega);have e2:¬(k:Int)<(na:Int):=(by omega);go_wp2;go_ret;exact ⟨by rw [HE.out]<;>rfl,hbr⟩
  by_cases h2:k<nb;case neg =>
   have HE:=zH (show r=decide (na<nb) by rw [HT.out,zsu (by rw [HLB.out];omega) (by rw [HLA.out];exact hk1) (by rw [HLB.out];exact hk2),HLA.out,HLB.out])
   have e1:decide ((k:Int)<(na:Int))=true:=decide_eq_true (by omega);have e2:decide ((k:Int)<(nb:Int))=false:=decide_eq_false (by omega);have e3:¬(k:Int)<(nb:Int):=(by omega);go_wp2;go_ret;exact ⟨by rw [HE.out]<;>rfl,hbr⟩
  have e1:decide ((k:Int)<(na:Int))=true:=decide_eq_true (by omega);have e2:decide ((k:Int)<(nb:Int))=true:=decide_eq_true (by omega);obtain ⟨x,hx⟩:∃x,a[k]?=some x:=⟨a[k]'(by rw [HLA.out];exact h1),List.getElem?_eq_getElem _⟩;obtain ⟨y,hy⟩:∃y,b[k]?=some y:=⟨b[k]'(by rw [HLB.out];exact h2),List.getElem?_eq_getElem _⟩;obtain ⟨ba,oa,hxa,ga⟩:=HA.out (by omega);subst hxa;obtain ⟨bb,ob,hxb,gb⟩:=HB.out (by omega);subst hxb;have v0:=cell_later hbr (ga k x hx);have v1:=cell_later hbr (gb k y hy);have HS:=zH (HT.out.trans (zaac hx hy));clear ga gb hx hy;by_cases hxy:x=y
  ·have HS2:=zH (show r=zdx (a.drop (k+1)) (b.drop (k+1)) by rw [HS.out,if_pos hxy]);subst hxy;clear HS;go_wp2_with fail;go_quiet (fail);go_wp2;go_roundw;case rel=>exact ⟨k+1,by omega,by omega,by go_num,HS2.out,hbr.drewN'⟩
   case measure=>simp [intOf];omega
  ·have HE:=zH (show r=Op.bytesLess x.toList y.toList by rw [HS.out,if_neg hxy];rfl);have n1:=zcj hxy;clear HS;go_wp2_with fail;go_quiet (fail);go_wp2_with fail;go_quiet (fail);go_wp2;go_ret;exact ⟨by rw [HE.out]<;>rfl,hbr.drewN'.drewN'⟩
theorem zaak {w:World} {v:Value} {ks:List KeyD} (h:zkg w v ks):∃(ao:Option Addr) (cap:Nat),v=.slice ao ks.length cap∧(0<ks.length→∃b off,ao=some ⟨b,off,none⟩∧∀(i:Nat) (k:KeyD),ks[i]?=some k→∃vi:Value,w.cell? ⟨b,off+i * 3,none⟩=some (.string ⟨#[]⟩)∧w.cell? ⟨b,off+i * 3+1,none⟩=some (.int .i64 2)∧w.cell? ⟨b,off+i * 3+2,none⟩=some vi∧zaj w vi (idsK k)):=by obtain ⟨L,hL,hk,hs⟩:=h;subst hk;obtain ⟨ao,cap,rfl,hc⟩:=hL;rw [List.length_map];refine ⟨ao,cap,rfl,fun hp=>?_⟩;obtain ⟨b,off,ha,hcell⟩:=hc hp;refine ⟨b,off,ha,fun i k hk=>?_⟩;rw [List.getElem?_map] at hk;obtain ⟨x,hx,rfl⟩:=Option.map_eq_some_iff.1 hk;exact ⟨_,hcell i x hx 0 _ rfl,hcell i x hx 1 _ rfl,hcell i x hx 2 _ rfl,hs x (zM hx)⟩
theorem zkg.later {w w':World} {v:Value} {ks:List KeyD} (h:zkg w v ks) (hb:Below w.heap.size w w'):zkg w' v ks:=by obtain ⟨L,hL,hk,hs⟩:=h;exact ⟨L,hL.later hb,hk,fun x hx=>(hs x hx).later hb⟩
theorem zkg.nil (w:World):zkg w (.slice none 0 0) []:=⟨[],⟨none,0,rfl,fun h=>by simp at h⟩,rfl,fun x hx=>by cases hx⟩
end Go.Proofs.YtibpaaajghbkoaaGreat
