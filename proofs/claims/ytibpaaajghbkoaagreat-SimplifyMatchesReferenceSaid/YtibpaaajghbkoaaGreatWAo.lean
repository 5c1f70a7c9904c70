/-    -/
import Derived.Test.YtibpaaajghbkoaaGreatWAf
import Derived.Test.YtibpaaajghbkoaaGreatWAa
import Derived.Shelf.SlSortCmp.WholeK
import Derived.Shelf.SlSortCmp.NoneTotal
import Derived.Test.YtibpaaajghbkoaaGreatWAg
import Derived.Test.YtibpaaajghbkoaaGreatWAc
import Derived.Maps.AppendAt
namespace Go.Proofs.YtibpaaajghbkoaaGreat
open Go.RowKit Go.Sort
theorem zaqu (x:ByteArray) (w:World):Calls Tryz.prog 144 #[.string x] w fun e w'=>e=.returned (.bool false)∧w'=w:=by go_enter Tryz.func144,Tryz.ntmps144;go_wp2;go_ret;exact ⟨by simp,rfl⟩
set_option maxHeartbeats 1000000 in
theorem zpo (x y:ByteArray) (w:World):Calls Tryz.prog 104 #[.string x,.string y] w fun e w'=>e=.returned (.int .i64 (cmpS x y))∧w'=w:=by
 have hn:=fun z=>zaqu z;cases h1:ltB x y
 ·cases h2:ltB y x
  ·have HR:=zH (show cmpS x y=0 by unfold cmpS;rw [h1,h2];rfl);have h3:=zxg x.toList y.toList;unfold ltB at h1 h2;rw [h1,h2] at h3;simp only [Bool.false_or,Bool.not_false] at h3;go_enter Tryz.func104,Tryz.ntmps104;go_wp2_with (go_at_call 144;refine (hn _ _).mono ?_;rintro e' w' ⟨rfl,rfl⟩);go_ret;exact ⟨by rw [HR.out];rfl,rfl⟩
  ·have HR:=zH (show cmpS x y=1 by unfold cmpS;rw [h1,h2];rfl);have h3:=zxg x.toList y.toList;unfold ltB at h1 h2;rw [h1,h2] at h3;simp only [Bool.false_or,Bool.not_true] at h3;go_enter Tryz.func104,Tryz.ntmps104;go_wp2_with (go_at_call 144;refine (hn _ _).mono ?_;rintro e' w' ⟨rfl,rfl⟩);go_ret;exact ⟨by rw [HR.out];rfl,rfl⟩
 ·have HR:=zH (show cmpS x y=-1 by unfold cmpS;rw [h1];rfl);unfold ltB at h1;go_enter Tryz.func104,Tryz.ntmps104;go_wp2_with (go_at_call 144;refine (hn _ _).mono ?_;rintro e' w' ⟨rfl,rfl⟩);go_ret;exact ⟨by rw [HR.out];rfl,rfl⟩
set_option maxHeartbeats 1000000 in
theorem zyz (x y:Int) (B:Nat) (cap:Nat) (w:World) (h0:w.cell? ⟨B,0,none⟩=some (.int .i64 x)) (h1:w.cell? ⟨B,1,none⟩=some (.int .i64 y)) :
  Calls Tryz.prog 102 #[.slice (some ⟨B,0,none⟩) 2 cap] w fun e w'=>e=.returned (.int .i64 (if x=0 then y else x))∧w'=w:=by
 obtain ⟨r,hr⟩:∃r,r=if x=0 then y else x:=⟨_,rfl⟩
 rw [←hr];by_cases hx:x=0
 ·have HR:=zH (show r=y by rw [hr,if_pos hx]);clear hr;have hxb:(x != 0)=false:=by simp [hx]
  by_cases hy:y=0
  ·have hyb:(y != 0)=false:=(by simp [hy]);have HY:=zH hy;clear hx hy;go_enter Tryz.func102,Tryz.ntmps102;go_wp2;refine wp_loop_rounds 3 ?_;rw [rounds_succ];go_wp2;rw [rounds_succ];go_wp2;rw [rounds_succ];go_wp2;go_ret;exact ⟨by rw [HR.out,HY.out];rfl,rfl⟩
  ·have hyb:(y != 0)=true:=(by simp [hy]);clear hx hy;go_enter Tryz.func102,Tryz.ntmps102;go_wp2;refine wp_loop_rounds 2 ?_;rw [rounds_succ];go_wp2;rw [rounds_succ];go_wp2;go_ret;exact ⟨by rw [HR.out];rfl,rfl⟩
 ·have HR:=zH (show r=x by rw [hr,if_neg hx]);clear hr;have hxb:(x != 0)=true:=by simp [hx]
  clear hx;go_enter Tryz.func102,Tryz.ntmps102;go_wp2;refine wp_loop_rounds 1 ?_;rw [rounds_succ];go_wp2;go_ret;exact ⟨by rw [HR.out];rfl,rfl⟩
end Go.Proofs.YtibpaaajghbkoaaGreat

namespace Go.Proofs.YtibpaaajghbkoaaGreat
open Go.RowKit Go.Lib Go.Sort Go.Shelf
def Grew (w w':World):Prop:=∃q os,w'=grow (w.drewN q) os
theorem zaet (w:World) (os:Array Obj) (q:Nat):(grow w os).drewN q=grow (w.drewN q) os:=rfl
theorem zzt (w:World) (p q:Nat):(w.drewN p).drewN q=w.drewN (p+q):=by simp [World.drewN,Nat.add_assoc]
theorem Grew.refl (w:World):Grew w w:=⟨0,#[],by rw [grow_empty];rfl⟩
theorem Grew.trans {a b c:World} (h:Grew a b) (h2:Grew b c):Grew a c:=by obtain ⟨q,os,rfl⟩:=h;obtain ⟨q2,os2,rfl⟩:=h2;exact ⟨q+q2,os++os2,by rw [zaet,zzt,grow_grow]⟩
theorem Grew.alloc {a b:World} (h:Grew a b) (o:Obj):Grew a (b.alloc o):=h.trans ⟨0,#[o],by rw [alloc_eq_grow];rfl⟩
theorem Grew.drew {a b:World} (h:Grew a b):Grew a b.drew:=h.trans ⟨1,#[],by rw [grow_empty];rfl⟩
theorem Grew.drewN {a b:World} (h:Grew a b) (n:Nat):Grew a (b.drewN n):=h.trans ⟨n,#[],by rw [grow_empty]⟩
theorem Grew.below {a b:World} (h:Grew a b):Below a.heap.size a b:=by
 obtain ⟨q,os,rfl⟩:=h;refine ⟨rfl,rfl,rfl,?_,fun k hk=>?_⟩
 ·show a.heap.size≤(a.heap++os).size;simp
 ·show (a.heap++os)[k]?=_;rw [Array.getElem?_append_left hk]
section
variable {P:Program} {ρ:Ren} {α:Type} [Inhabited α]
theorem zaei {enc:α→List Value} {k:Nat} (hk:∀x,(enc x).length=k) {w:World} {base g cap n:Nat} {e:TypeId} {l:List α} (hn:n=l.length) (h:w.ownsRow base e k (.slice (some ⟨g,0,none⟩) n cap) n (l.flatMap enc)):HoldsK enc k w g 0 l.toArray:=by
 subst hn;obtain ⟨_,⟨h0,_⟩ | ⟨g',cap',cur,hv,hb,hc,h1,h2,h3,h4⟩⟩:=h
 ·cases h0
 ·obtain ⟨rfl,rfl⟩:g=g'∧cap=cap':=by injection hv with a b c;injection a with a;injection a with a;exact ⟨a,c⟩
  intro j hj;rw [size_flatK,List.size_toArray] at hj;have hk0:0<k:=by
   rcases Nat.eq_zero_or_pos k with h | h
   ·subst h;simp at hj
   ·exact h
  have e1:(flatK enc k l.toArray)[j]! = (enc l.toArray[j / k]!)[j % k]!:=get_flatK _ _ _ _ (by simpa using hj);have hjk:j / k<l.length:=Nat.div_lt_of_lt_mul (by rw [Nat.mul_comm];exact hj);have hm:j % k<k:=Nat.mod_lt _ hk0;have e3:j / k * k+j % k=j:=by rw [Nat.mul_comm];exact Nat.div_add_mod j k
  have hj2:cur[j]?=some (enc l[j / k])[j % k]!:=by have a:=zey enc k hk l (j / k) (j % k) l[j / k] (List.getElem?_eq_getElem hjk) hm;rw [e3,←h4,List.getElem?_take,if_pos hj,Array.getElem?_toList] at a;rw [a,List.getElem?_eq_getElem (by rw [hk];exact hm),getElem!_pos _ _ (by rw [hk];exact hm)]
  have e2:l.toArray[j / k]! = l[j / k]:=by rw [getElem!_pos _ _ (by simpa using hjk)];simp
  refine ⟨?_,by simp [World.frozen?,hc]⟩;rw [e1,e2];simp only [World.cell?,hc,Nat.zero_add,Option.isSome_none,Bool.false_eq_true,if_false,id];exact hj2
theorem ztl {enc:α→List Value} {k:Nat} (hk:∀x,(enc x).length=k) {w:World} {base g cap n m:Nat} {e:TypeId} {l:List α} {d:Array α} {os:Array Obj} (hd:d.size=n)
  (h:w.ownsRow base e k (.slice (some ⟨g,0,none⟩) n cap) n (l.flatMap enc)):(sortWorldK enc k w g 0 m d os).ownsRow base e k (.slice (some ⟨g,0,none⟩) n cap) n (d.toList.flatMap enc):=by
 obtain ⟨_,⟨h0,_⟩ | ⟨g',cap',cur,hv,hb,hc,h1,h2,h3,h4⟩⟩:=h
 ·cases h0
 ·obtain ⟨rfl,rfl⟩:g=g'∧cap=cap':=by injection hv with a b c;injection a with a;injection a with a;exact ⟨a,c⟩
  have hgs:g<w.heap.size:=zaf hc;have hle:n * k≤cur.size:=by rw [h3];exact Nat.mul_le_mul_right k h1
  refine ⟨by rw [zbs enc k hk];simp [hd],Or.inr ⟨g,cap,putCells id 0 (flatK enc k d) cur,rfl,hb,?_,h1,h2,by simpa [putCells] using h3,?_⟩⟩
  ·unfold sortWorldK putRowK;show ((putRow id (Sort.ahead w m) g 0 (flatK enc k d)).heap++os)[g]?=_;rw [Array.getElem?_append_left (by simpa [Sort.ahead] using hgs)];simp [putRow,mapBlock,Sort.ahead,Array.getElem?_modify,hc,onCells]
  ·apply List.ext_getElem?;intro j;rw [List.getElem?_take,Array.getElem?_toList];by_cases hj:j<n * k
   ·have hk0:0<k:=by
     rcases Nat.eq_zero_or_pos k with h | h
     ·subst h;simp at hj
     ·exact h
    have hjd:j<d.size * k:=(by rw [hd];exact hj);have hm:j % k<k:=Nat.mod_lt _ hk0;have hjk:j / k<d.size:=Nat.div_lt_of_lt_mul (by rw [Nat.mul_comm];exact hjd);have e3:j / k * k+j % k=j:=(by rw [Nat.mul_comm];exact Nat.div_add_mod j k);have a:=zey enc k hk d.toList (j / k) (j % k) d[j / k] (by rw [Array.getElem?_toList,Array.getElem?_eq_getElem hjk]) hm;rw [e3] at a;rw [if_pos hj,a,putCells,Array.getElem?_mapIdx,Array.getElem?_eq_getElem (by omega),Option.map_some];rw [if_pos ⟨by omega,by rw [size_flatK];omega⟩,Nat.sub_zero,get_flatK _ _ _ _ hjd,getElem!_pos d _ hjk];rw [List.getElem?_eq_getElem (by rw [hk];exact hm),getElem!_pos _ _ (by rw [hk];exact hm)];rfl
   ·rw [if_neg hj,List.getElem?_eq_none (by rw [zbs enc k hk];simp [hd];omega)]
theorem zkw {enc:α→List Value} {k:Nat} {w:World} {g cap n m:Nat} {d:Array α} {os:Array Obj}:w.grownBy (sortWorldK enc k w g 0 m d os) (Value.slice (some ⟨g,0,none⟩) n cap).ownBlock:=by
 refine ⟨rfl,rfl,rfl,?_,fun i hi hne=>?_⟩
 ·unfold sortWorldK;rw [size_grow,size_putRowK];show w.heap.size≤w.heap.size+_;omega
 ·have hne':g≠i:=fun e=>hne (by subst e;rfl);show ((w.heap.modify g _)++os)[i]?=_;rw [Array.getElem?_append_left (by rw [Array.size_modify];exact hi),Array.getElem?_modify,if_neg hne']
def zack (w:World) (base k:Nat) (e:TypeId) (v:Value) (n:Nat) (enc:α→List Value) (cf:α→α→Int) (l:List α) (en:Ending) (w':World):Prop :=
 en=.returned (.tuple #[])∧∃l':List α,l'.Perm l∧l'.Pairwise (fun x y=>ltOf cf y x=false)∧w'.ownsRow base e k v n (l'.flatMap enc)∧w.grownBy w' v.ownBlock
theorem zli (L:SlLaysF0.n6 P ρ) (k:Nat) (aE:∀w,(isAgg (ρ.t 24)).run P w=.ok true w) (zE:∀w,(Go.sizeOf (ρ.t 24)).run P w=.ok k w) (enc:α→List Value) (hk:∀x,(enc x).length=k) (h1:∀x,∀v∈enc x,v.oneCell'=true) (cf:α→α→Int) (hO:SWO (ltOf cf))
  (f:Nat) (cb:Array Value) (ef:∀args w,(callFunc f args).run P w=.ok (.enter f args) w) {w:World} {base n:Nat} {e:TypeId} {v:Value} {l:List α} (hn:n=l.length) (hsz:n<4611686018427387904)
  (hcmp:∀W,w.grownBy W v.ownBlock→∀x y:α,Calls P f (#[.agg (enc x).toArray,.agg (enc y).toArray]++cb) W fun e w'=>e=.returned (.int .i64 (cf x y))∧Grew W w')
  (hrow:w.ownsRow base e k v n (l.flatMap enc)):Calls P (ρ.f 6) #[v,.func (.func f) #[] cb] w (zack w base k e v n enc cf l):=by
 rcases hrow.2 with ⟨rfl,h0⟩ | ⟨g,cap,cur,rfl,hb,hc,h2,h3,h4,h5⟩
 ·have hl:l=[]:=List.length_eq_zero_iff.1 (by omega);subst hl;refine (AnyF.slices_SortFunc_none L none 0 (.func (.func f) #[] cb) w).mono ?_;rintro en w' ⟨rfl,rfl⟩;exact ⟨rfl,[],List.Perm.refl _,List.Pairwise.nil,hrow,World.grownBy.refl _ _⟩
 ·have hH:=zaei hk hn hrow;have hs:l.toArray.size=n:=by simp [hn]
  have hC:CmpLays P f cb enc k cf g 0 l.toArray.size w:=fun m os dk hdk x y =>
   (hcmp _ (zkw (n:=n) (cap:=cap)) x y).mono fun _ _ ⟨he,q,os',hw⟩=>⟨he,q,os',hw⟩
  have:=AnyQ.slices_SortFunc L k aE zE enc hk h1 cf hO f cb g 0 cap l.toArray w ef hC hH (zaf hc) (by rw [hs];exact hsz);rw [hs] at this;refine this.mono ?_;rintro en w' ⟨rfl,d',m,os,hp,hso,rfl⟩;obtain ⟨hp1,_,hp3⟩:=hp;have hd:d'.size=n:=by rw [hp1,hs]
  have e0:d'.extract 0 n=d':=by rw [←hd];simp
  have e1:l.toArray.extract 0 n=l.toArray:=by rw [←hs];simp
  rw [e0,e1] at hp3;refine ⟨rfl,d'.toList,by simpa using hp3,?_,ztl hk hd hrow,zkw⟩;rw [List.pairwise_iff_getElem];intro i j hi hj hij;have hi':i<d'.size:=by simpa using hi
  have hj':j<d'.size:=by simpa using hj
  have:=hso i j (Nat.zero_le _) hij (by omega);rw [getElem!_pos d' i hi',getElem!_pos d' j hj'] at this;simpa using this
end
end Go.Proofs.YtibpaaajghbkoaaGreat

namespace Go.Proofs.YtibpaaajghbkoaaGreat
open Go.RowKit Go.Maps Go.ChangeMaps Go.MapKept
section
variable {κ:Type} [DecidableEq κ]
theorem zwb {ν:Type} {k:κ} {v:ν} {l:List (κ × ν)} (hn:(l.map (·.1)).Nodup) {p:κ × ν} (h:p∈aput k v l):p=(k,v)∨(p∈l∧p.1≠k):=by
 by_cases e:p.1=k
 ·have:=zes (zsv (v:=v) (k:=k) hn) (show (p.1,p.2)∈aput k v l from h);rw [e,zby] at this;left;injection this with this;exact Prod.ext e this.symm
 ·rcases zim h with h | h
  ·exact Or.inl h
  ·exact Or.inr ⟨h,e⟩
theorem zkf {ν:Type} {R:κ × ν→κ × ν→Prop} (hs:∀p q,R p q→R q p) {k:κ} {v:ν}:∀{l:List (κ × ν)},(l.map (·.1)).Nodup→l.Pairwise R→(∀p∈l,p.1≠k→R p (k,v))→(aput k v l).Pairwise R
 |[],_,_,_=>List.pairwise_singleton ..
 |q :: l,hn,hp,hk=>by
  rw [List.map_cons,List.nodup_cons] at hn;have hp':=List.pairwise_cons.1 hp;rw [aput];split
  ·rename_i e;refine List.pairwise_cons.2 ⟨fun p hm=>hs _ _ (hk p (List.mem_cons_of_mem _ hm) (fun e'=>hn.1 (List.mem_map.2 ⟨p,hm,by rw [e',e]⟩))),hp'.2⟩
  ·rename_i e;refine List.pairwise_cons.2 ⟨fun p hm=>?_,zkf hs hn.2 hp'.2 fun p hm=>hk p (List.mem_cons_of_mem _ hm)⟩;rcases zim hm with rfl | hm
   ·exact hk q (List.mem_cons_self ..) e
   ·exact hp'.1 p hm
end
section
variable {κ:Type}
def zle (p q:κ × Value × List ByteArray):Prop:=p.2.1.ownBlock=none∨p.2.1.ownBlock≠q.2.1.ownBlock
theorem zle.symm {p q:κ × Value × List ByteArray} (h:zle p q):zle q p:=by
 unfold zle at *;cases hq:q.2.1.ownBlock with
 |none=>exact Or.inl rfl
 |some g =>
  right;rcases h with h | h
  ·rw [h];simp
  ·rw [hq] at h;exact fun e=>h e.symm
def zbt (P:Program) (t:TypeId) (ek:κ→Value) (base:Nat) (e:TypeId) (w:World) (b:Nat) (acc:List (κ × Value × List ByteArray)):Prop :=
 zbj P t ek (fun p:Value × List ByteArray=>p.1) w b acc∧b<base∧(∀p∈acc,w.ownsRow base e 1 p.2.1 p.2.2.length (p.2.2.map Value.string))∧acc.Pairwise zle
variable {P:Program} {t:TypeId} {ek:κ→Value} {base:Nat} {e:TypeId} {w w':World} {b:Nat} {acc:List (κ × Value × List ByteArray)}
theorem zbt.made (P:Program) (t:TypeId) (ek:κ→Value) (e:TypeId) (w:World):zbt P t ek (w.heap.size+1) e (w.alloc (.map #[] 0)) w.heap.size [] :=
 ⟨zbj.made _ _ _ _ _,Nat.lt_succ_self _,by simp,List.Pairwise.nil⟩
theorem zbt.on (h:zbt P t ek base e w b acc) (hb:Below w.heap.size w w'):zbt P t ek base e w' b acc :=
 ⟨h.1.on hb,h.2.1,fun p hp=>by
  refine ⟨(h.2.2.1 p hp).1,?_⟩
  rcases (h.2.2.1 p hp).2 with h0 | ⟨g,cap,cur,h1,h2,h3,h4⟩
  ·exact Or.inl h0
  ·exact Or.inr ⟨g,cap,cur,h1,h2,zab hb h3,h4⟩,h.2.2.2⟩
theorem zap {w:World} {base:Nat} {e:TypeId} {size n:Nat} {v:Value} {xs:List Value} (h:w.ownsRow base e size v n xs):∀g,v.ownBlock=some g→base≤g∧g<w.heap.size:=h.lt
theorem zbt.keptBy (h:zbt P t ek base e w b acc) {row:Option Nat} (hg:w.grownBy w' row) (hb:some b≠row) (hr:∀p∈acc,p.2.1.ownBlock=none∨p.2.1.ownBlock≠row):zbt P t ek base e w' b acc :=
 ⟨h.1.kept hg hb,h.2.1,fun p hp=>(h.2.2.1 p hp).kept hg (hr p hp),h.2.2.2⟩
theorem zbt.other (h:zbt P t ek base e w b acc) {g:Nat} {cs:Array Value} {t':TypeId} (hg:w.heap[g]?=some (.cells cs t')) (ht:t'≠e):∀p∈acc,p.2.1.ownBlock≠some g:=fun p hp hc=>by
 rcases (h.2.2.1 p hp).2 with ⟨h1,_⟩ | ⟨g',cap,cur,h1,h2,h3,_⟩
 ·rw [h1] at hc;cases hc
 ·rw [h1] at hc;simp only [Value.ownBlock,Option.some.injEq] at hc;subst hc;rw [h3] at hg;injection hg with hg;injection hg with _ h5 _;exact ht h5.symm
theorem zbt.otherRow (h:zbt P t ek base e w b acc) {base' n size:Nat} {e':TypeId} {v:Value} {xs:List Value} (ho:w.ownsRow base' e' size v n xs) (ht:e'≠e):∀p∈acc,p.2.1.ownBlock=none∨p.2.1.ownBlock≠v.ownBlock:=fun p hp=>by
 rcases ho.2 with ⟨rfl,_⟩ | ⟨g,cap,cur,rfl,_,h3,_⟩
 ·cases hp:p.2.1.ownBlock<;>simp [Value.ownBlock]
 ·exact Or.inr (h.other h3 ht p hp)
def zjr:Value→Option Addr × Nat × Nat
 |.slice a n c=>(a,n,c)
 |_=>(none,0,0)
theorem zcy {w:World} {base size n:Nat} {e:TypeId} {v:Value} {xs:List Value} (h:w.ownsRow base e size v n xs):v=.slice (zjr v).1 (zjr v).2.1 (zjr v).2.2:=by rcases h.2 with ⟨rfl,_⟩ | ⟨g,cap,cur,rfl,_⟩<;>rfl
def zek [DecidableEq κ] (acc:List (κ × Value × List ByteArray)):List (κ × List ByteArray):=acc.map fun p=>(p.1,p.2.2)
theorem zgy [DecidableEq κ] (k:κ):∀acc:List (κ × Value × List ByteArray),aget k (zek acc)=(aget k acc).map (·.2)
 |[]=>rfl
 |p :: l=>by show aget k ((p.1,p.2.2) :: zek l)=_;rw [aget,aget,zgy k l];split<;>rfl
theorem zpd [DecidableEq κ] (k:κ) (v:Value) (ids:List ByteArray):∀acc:List (κ × Value × List ByteArray),zek (aput k (v,ids) acc)=aput k ids (zek acc)
 |[]=>rfl
 |p :: l=>by
  show zek (aput k (v,ids) (p :: l))=aput k ids ((p.1,p.2.2) :: zek l);rw [aput,aput];split
  ·rfl
  ·show (p.1,p.2.2) :: zek (aput k (v,ids) l)=_;rw [zpd k v ids l]
theorem zbt.look [DecidableEq κ] {T E:TypeId} (h:zbt P t ek base e w b acc) (K:Keyed P t) (hinj:∀x y,ek x=ek y→x=y) (hT:P.underlying T=some (.map t E)) (hz:(zeroValue E).run P w=.ok (.slice none 0 0) w) (k:κ) (hk:∃kl,keyOf P t (ek k)=some kl) :
  ∃v ids,(Instr.lookup T (.map (some b)) (ek k) false).run P w=.ok v w∧ids=(aget k (zek acc)).getD []∧w.ownsRow base e 1 v ids.length (ids.map Value.string):=by
 have h1:=h.1.look K hinj hT hz k hk;rw [zgy];cases hg:aget k acc with
 |none =>rw [hg] at h1;exact ⟨_,[],h1,rfl,World.ownsRow_nil _ _ _ _⟩
 |some p =>rw [hg] at h1;exact ⟨_,p.2,h1,rfl,h.2.2.1 _ (zdy hg)⟩
theorem zbt.get [DecidableEq κ] {T E:TypeId} (h:zbt P t ek base e w b acc) (K:Keyed P t) (hinj:∀x y,ek x=ek y→x=y) (hT:P.underlying T=some (.map t E)) (hz:∀w,(zeroValue E).run P w=.ok (.slice none 0 0) w) (k:κ) (hk:∃kl,keyOf P t (ek k)=some kl) :
  ∃v ids,(∀n,(Instr.lookup T (.map (some b)) (ek k) false).run P (w.drewN n)=.ok v (w.drewN n))∧ids=(aget k (zek acc)).getD []∧w.ownsRow base e 1 v ids.length (ids.map Value.string):=by
 have h1:=fun n=>(h.1.on (w':=w.drewN n) (Below.refl _ w).drewN').look K hinj hT (hz _) k hk;rw [zgy];cases hg:aget k acc with
 |none =>rw [hg] at h1;exact ⟨_,[],h1,rfl,World.ownsRow_nil _ _ _ _⟩
 |some p =>rw [hg] at h1;exact ⟨_,p.2,h1,rfl,h.2.2.1 _ (zdy hg)⟩
theorem zbt.entry [DecidableEq κ] {T E:TypeId} (h:zbt P t ek base e w b acc) (K:Keyed P t) (hinj:∀x y,ek x=ek y→x=y) (hT:P.underlying T=some (.map t E)) (hz:(zeroValue E).run P w=.ok (.slice none 0 0) w) (hroom:acc.length<maxLen) (k:κ) (hk:∃kl,keyOf P t (ek k)=some kl) :
  ∃(w1:World) (st:Int) (v:Value) (ids:List ByteArray),(Instr.mapEntry T (.map (some b)) (ek k)).run P w=.ok (.tuple #[v,.int .i64 st]) w1∧w.grownBy w1 (some b)∧w1.heap.size=w.heap.size∧ids=(aget k (zek acc)).getD [] ∧
   w1.ownsRow base e 1 v ids.length (ids.map Value.string)∧(v.ownBlock≠some b)∧(v.ownBlock=none∨∃p∈acc,v.ownBlock=p.2.1.ownBlock) ∧
   ∀(w2:World) (v':Value) (ids':List ByteArray),w1.grownBy w2 v.ownBlock→w2.ownsRow base e 1 v' ids'.length (ids'.map Value.string)→(v'.ownBlock=v.ownBlock∨∃g,v'.ownBlock=some g∧w1.heap.size≤g) →
    ∃w3,(Instr.entryStore T (.map (some b)) (.int .i64 st) v').run P w2=.ok () w3∧zbt P t ek base e w3 b (aput k (v',ids') acc)∧w2.grownBy w3 (some b):=by
 obtain ⟨hm,hbb,hrows,hap⟩:=h;have hn:=hm.nodup;obtain ⟨w1,st,hrun,hg1,hs1,hback⟩:=hm.entry K hinj hT hz hroom k hk;have notb:∀{w:World} {u:Value} {n:Nat} {xs:List Value},w.ownsRow base e 1 u n xs→u.ownBlock≠some b:=fun ho hc=>by have:=(zap ho b hc).1;omega
 have keep1:∀p∈acc,w1.ownsRow base e 1 p.2.1 p.2.2.length (p.2.2.map Value.string):=fun p hp=>(hrows p hp).kept hg1 (Or.inr (notb (hrows p hp)));obtain ⟨v,ids,hv,hids,hown,hvb,hvp,hvo⟩:∃(v:Value) (ids:List ByteArray),((aget k acc).map (fun p:Value × List ByteArray=>p.1)).getD (.slice none 0 0)=v∧ids=(aget k (zek acc)).getD []∧w1.ownsRow base e 1 v ids.length (ids.map Value.string)∧v.ownBlock≠some b ∧
   (v.ownBlock=none∨∃p∈acc,v.ownBlock=p.2.1.ownBlock)∧(∀p∈acc,p.1≠k→p.2.1.ownBlock=none∨p.2.1.ownBlock≠v.ownBlock):=by
  rw [zgy];cases hg:aget k acc with
  |none=>exact ⟨_,[],rfl,rfl,World.ownsRow_nil _ _ _ _,by simp [Value.ownBlock],Or.inl rfl,fun p _ _=>by cases hp:p.2.1.ownBlock<;>simp [Value.ownBlock]⟩
  |some q =>
   have hq:=zdy hg;refine ⟨q.1,q.2,rfl,rfl,keep1 _ hq,notb (keep1 _ hq),Or.inr ⟨_,hq,rfl⟩,fun p hp hne=>?_⟩;obtain ⟨i,hi⟩:=List.getElem?_of_mem hp;obtain ⟨j,hj⟩:=List.getElem?_of_mem hq;obtain ⟨hi1,hi2⟩:=List.getElem?_eq_some_iff.1 hi;obtain ⟨hj1,hj2⟩:=List.getElem?_eq_some_iff.1 hj;rcases Nat.lt_trichotomy i j with h | h | h
   ·have:=List.pairwise_iff_getElem.1 hap i j hi1 hj1 h;rw [hi2,hj2] at this;exact this
   ·subst h;rw [hi2] at hj2;exact absurd (by rw [hj2]) hne
   ·have:=(List.pairwise_iff_getElem.1 hap j i hj1 hi1 h).symm;rw [hi2,hj2] at this;exact this
 rw [hv] at hrun;refine ⟨w1,st,v,ids,hrun,hg1,hs1,hids,hown,hvb,hvp,fun w2 v' ids' hg2 hown' hloc=>?_⟩;have hbl:b<w1.heap.size:=by rw [hs1];exact hm.lt
 obtain ⟨w3,hrun3,hm3,hg3⟩:=hback w2 (v',ids') (hg2.block b hbl (fun c=>hvb c.symm));refine ⟨w3,hrun3,⟨hm3,hbb,fun p hp=>?_,?_⟩,hg3⟩
 ·rcases zwb hn hp with rfl | ⟨hp,hne⟩
  ·exact hown'.kept hg3 (Or.inr (notb hown'))
  ·have:=(keep1 p hp).kept hg2 (hvo p hp hne);exact this.kept hg3 (Or.inr (notb this))
 ·refine zkf (fun p q=>zle.symm) hn hap fun p hp hne=>?_;rcases hloc with h | ⟨g,h,hlt⟩
  ·unfold zle;simp only;rw [h];exact hvo p hp hne
  ·unfold zle;simp only;cases hpb:p.2.1.ownBlock with
   |none=>exact Or.inl rfl
   |some g' =>right;rw [h];intro c;injection c with c;have:=(zap (keep1 p hp) g' hpb).2;omega
theorem zaj.of_own {w:World} {base:Nat} {e:TypeId} {v:Value} {ids:List ByteArray} (h:w.ownsRow base e 1 v ids.length (ids.map Value.string)) (hl:ids.length≤140737488355328) (hz:∀s∈ids,s.size≤140737488355328):zaj w v ids:=by
 rcases h.2 with ⟨rfl,h0⟩ | ⟨g,cap,cur,rfl,hb,hc,h1,h2,h3,h4⟩
 ·exact ⟨none,0,by rw [h0],hl,hz,fun hp=>by omega⟩
 ·refine ⟨some ⟨g,0,none⟩,cap,rfl,hl,hz,fun _=>⟨g,0,rfl,fun i s hs=>?_⟩⟩;have hi:i<ids.length:=(List.getElem?_eq_some_iff.1 hs).1;have a:(ids.map Value.string)[i]?=some (.string s):=by rw [List.getElem?_map,hs];rfl
  rw [←h4,List.getElem?_take,if_pos (by omega),Array.getElem?_toList] at a;simp only [World.cell?,hc,Nat.zero_add,Option.isSome_none,Bool.false_eq_true,if_false];exact a
end
end Go.Proofs.YtibpaaajghbkoaaGreat
