/-      -/
import Derived.Test.YtibpaaajghbkoaaGreatWAf
import Derived.Test.YtibpaaajghbkoaaGreatWAg
import Derived.Test.YtibpaaajghbkoaaGreatWAh
namespace Go.Proofs.YtibpaaajghbkoaaGreat
open Go.RowKit
instance:ReflBEq ByteArray:=⟨(MapKept.bytes_beq _ _).2 rfl⟩
instance:LawfulBEq ByteArray:=⟨fun h=>(MapKept.bytes_beq _ _).1 h⟩
abbrev KeyD:=ByteArray × ByteArray
def minB (a b:ByteArray):ByteArray:=if ltB b a then b else a
def maxB (a b:ByteArray):ByteArray:=if ltB a b then b else a
def key2 (a b:ByteArray):KeyD:=(minB a b,maxB a b)
def ltK (p q:KeyD):Bool:=ltB p.1 q.1 || (decide (p.1=q.1) && ltB p.2 q.2)
theorem zku {a b:ByteArray} (h:ltB a b=true):ltB b a=false:=by
 cases h2:ltB b a with
 |false=>rfl
 |true=>have:=zdz h h2;rw [zbp] at this;cases this
theorem zgc (a b:ByteArray):key2 a b=key2 b a:=by
 unfold key2 minB maxB;cases h:ltB a b with
 |true=>rw [zku h];simp
 |false =>
  cases h2:ltB b a with
  |true=>simp
  |false=>rw [zep h h2]
theorem zaim (a:ByteArray):key2 a a=(a,a):=by unfold key2 minB maxB;rw [zbp];rfl
theorem zhy (a b:ByteArray):key2 a b=(a,b)∨key2 a b=(b,a):=by
 unfold key2 minB maxB;cases h:ltB a b with
 |true=>rw [zku h];exact Or.inl rfl
 |false =>
  cases h2:ltB b a with
  |true=>exact Or.inr rfl
  |false=>rw [zep h h2];exact Or.inl rfl
theorem zaip (a b:ByteArray):ltB (key2 a b).2 (key2 a b).1=false:=by
 unfold key2 minB maxB;simp only;cases h:ltB a b with
 |true=>rw [zku h];simpa using zku h
 |false =>
  cases h2:ltB b a with
  |true=>simpa using h
  |false=>simpa using zbp a
theorem zaeg {a b:ByteArray} (h:ltB b a=false):key2 a b=(a,b):=by
 unfold key2 minB maxB;rw [h];cases h2:ltB a b with
 |true=>rfl
 |false=>rw [zep h2 h];rfl
theorem zcl (p:KeyD):ltK p p=false:=by unfold ltK;simp [zbp]
theorem zhv {p q r:KeyD} (h:ltK p q=true) (h2:ltK q r=true):ltK p r=true:=by
 unfold ltK at *;simp only [Bool.or_eq_true,Bool.and_eq_true,decide_eq_true_eq] at *;rcases h with h | ⟨h,h'⟩<;>rcases h2 with h2 | ⟨h2,h2'⟩
 ·exact Or.inl (zdz h h2)
 ·exact Or.inl (by rw [←h2];exact h)
 ·exact Or.inl (by rw [h];exact h2)
 ·exact Or.inr ⟨h.trans h2,zdz h' h2'⟩
theorem zhw {p q:KeyD} (h:ltK p q=false) (h2:ltK q p=false):p=q:=by
 unfold ltK at *;simp only [Bool.or_eq_false_iff,Bool.and_eq_false_iff,decide_eq_false_iff_not] at *;have e1:=zep h.1 h2.1;refine Prod.ext e1 (zep ?_ ?_)
 ·rcases h.2 with h | h
  ·exact absurd e1 h
  ·exact h
 ·rcases h2.2 with h | h
  ·exact absurd e1.symm h
  ·exact h
theorem zwe {p q:KeyD} (h:ltK p q=true):ltK q p=false:=by
 cases h2:ltK q p with
 |false=>rfl
 |true=>have:=zhv h h2;rw [zcl] at this;cases this
def zdp (o:ObjD):Nat:=if o.kind=2 then o.refs.length - 1 else o.refs.length
def zcc (o:ObjD) (i:Nat):ByteArray:=(o.refs[i]?).getD ⟨#[]⟩
def zds (o:ObjD) (i:Nat):KeyD:=key2 (zcc o i) (zcc o ((i+1) % o.refs.length))
def zbh (o:ObjD):List KeyD:=(List.range (zdp o)).map (zds o)
def isB (l:List ObjD) (o:ObjD):Bool:=decide (o.kind=2∨o.kind=3) && zfn l o
def ownF (l objs:List ObjD) (k:KeyD):List ByteArray:=(objs.filter fun o=>isB l o && decide (k∈zbh o)).map (·.id)
def zgg (l objs:List ObjD) (o:ObjD) (j:Nat) (k:KeyD):List ByteArray:=ownF l objs k++if k∈(zbh o).take j then [o.id] else []
theorem zog (l objs:List ObjD) (o:ObjD) (k:KeyD):zgg l objs o 0 k=ownF l objs k:=by unfold zgg;simp
theorem zqe (l objs:List ObjD) (o:ObjD) (k:KeyD):ownF l (objs++[o]) k=if isB l o=true then zgg l objs o (zdp o) k else ownF l objs k:=by
 unfold ownF zgg;rw [List.filter_append,List.map_append];have hl:(zbh o).take (zdp o)=zbh o:=List.take_of_length_le (by simp [zbh]);rw [hl];cases h:isB l o with
 |false=>simp [h]
 |true =>
  by_cases hk:k∈zbh o
  ·simp [h,hk,ownF]
  ·simp [h,hk,ownF]
def Owns (acc:List (KeyD × List ByteArray)) (f:KeyD→List ByteArray):Prop:=∀k,aget k acc=if f k=[] then none else some (f k)
theorem Owns.nil {f:KeyD→List ByteArray} (h:∀k,f k=[]):Owns [] f:=fun k=>by rw [h,if_pos rfl];rfl
theorem Owns.getD {acc:List (KeyD × List ByteArray)} {f:KeyD→List ByteArray} (h:Owns acc f) (k:KeyD):(aget k acc).getD []=f k:=by
 rw [h k];split
 ·rename_i e;rw [e];rfl
 ·rfl
theorem Owns.congr {acc:List (KeyD × List ByteArray)} {f g:KeyD→List ByteArray} (h:Owns acc f) (e:∀k,f k=g k):Owns acc g:=fun k=>by rw [h k,e k]
theorem zue {l:List ObjD} (h:zas l=true) {i:Nat} {o:ObjD} (ho:l[i]?=some o) (l':List ObjD) (k:KeyD):o.id ∉ ownF l' (l.take i) k:=by
 intro hm;unfold ownF at hm;obtain ⟨x,hx,e⟩:=List.mem_map.1 hm;obtain ⟨j,hj⟩:=List.getElem?_of_mem (List.mem_filter.1 hx).1;rw [List.getElem?_take] at hj;split at hj
 ·rename_i hji;have:=(zcs h).2 j i x o hji hj ho;rw [e,zbp] at this;cases this
 ·cases hj
theorem zpt {o:ObjD} {j:Nat} (hj:j<zdp o):(zbh o)[j]?=some (zds o j):=by unfold zbh;rw [List.getElem?_map,List.getElem?_range hj];rfl
theorem zlm {l objs:List ObjD} {o:ObjD} {j:Nat} (hj:j<zdp o) (hno:∀k,o.id ∉ ownF l objs k) (k:KeyD) :
  zgg l objs o (j+1) k=if k=zds o j∧o.id ∉ zgg l objs o j (zds o j) then zgg l objs o j k++[o.id] else zgg l objs o j k:=by
 unfold zgg;obtain ⟨hl,hs⟩:=List.getElem?_eq_some_iff.1 (zpt hj);rw [List.take_succ_eq_append_getElem hl,hs];have hno':=hno (zds o j);by_cases hk:k=zds o j
 ·subst hk;by_cases hm:zds o j∈(zbh o).take j
  ·simp [hm]
  ·simp [hm,hno']
 ·by_cases hm:k∈(zbh o).take j
  ·simp [hk,hm]
  ·simp [hk,hm]
def zakk (acc:List (KeyD × List ByteArray)) (k:KeyD) (id:ByteArray):List (KeyD × List ByteArray) :=
 if id∈(aget k acc).getD [] then acc else aput k ((aget k acc).getD []++[id]) acc
theorem Owns.add {acc:List (KeyD × List ByteArray)} {f g:KeyD→List ByteArray} (h:Owns acc f) (k:KeyD) (id:ByteArray) (hg:∀k',g k'=if k'=k∧id ∉ f k then f k'++[id] else f k'):Owns (zakk acc k id) g:=by
 unfold zakk;rw [h.getD k];intro k';by_cases hm:id∈f k
 ·have e:g k'=f k':=by rw [hg,if_neg (fun c=>c.2 hm)]
  rw [if_pos hm,h k',e]
 ·rw [if_neg hm];by_cases hk:k'=k
  ·subst hk;have e:g k'=f k'++[id]:=(by rw [hg,if_pos ⟨rfl,hm⟩]);rw [zby,e,if_neg (by simp)]
  ·have e:g k'=f k':=(by rw [hg,if_neg (fun c=>hk c.1)]);rw [zci _ (fun e=>hk e.symm),h k',e]
def rput (k:KeyD) (id:ByteArray):List (KeyD × List ByteArray)→List (KeyD × List ByteArray)
 |[]=>[(k,[id])]
 |p :: l=>if ltK p.1 k then p :: rput k id l else if p.1=k then (k,if p.2.getLast?=some id then p.2 else p.2++[id]) :: l else (k,[id]) :: p :: l
def zfm {ν:Type} (l:List (KeyD × ν)):Prop:=l.Pairwise fun p q=>ltK p.1 q.1=true
theorem zfm.nodup {ν:Type} {l:List (KeyD × ν)} (h:zfm l):(l.map (·.1)).Nodup:=by unfold zfm at h;exact List.pairwise_map.2 (h.imp fun {a b} hab e=>by rw [e,zcl] at hab;cases hab)
theorem zabp {k:KeyD} {id:ByteArray}:∀{l:List (KeyD × List ByteArray)} {p:KeyD × List ByteArray},p∈rput k id l→p.1=k∨p∈l
 |[],p,h=>by rw [rput,List.mem_singleton] at h;rw [h];exact Or.inl rfl
 |q :: l,p,h=>by
  rw [rput] at h;split at h
  ·rcases List.mem_cons.1 h with rfl | h
   ·exact Or.inr (List.mem_cons_self ..)
   ·rcases zabp h with h | h
    ·exact Or.inl h
    ·exact Or.inr (List.mem_cons_of_mem _ h)
  ·split at h
   ·rcases List.mem_cons.1 h with rfl | h
    ·exact Or.inl rfl
    ·exact Or.inr (List.mem_cons_of_mem _ h)
   ·rcases List.mem_cons.1 h with rfl | h
    ·exact Or.inl rfl
    ·exact Or.inr h
theorem zpy (k:KeyD) (id:ByteArray):∀{l:List (KeyD × List ByteArray)},zfm l→zfm (rput k id l)
 |[],_=>List.pairwise_singleton ..
 |q :: l,h=>by
  have h':=List.pairwise_cons.1 h;rw [rput];split
  ·rename_i hlt;refine List.pairwise_cons.2 ⟨fun p hp=>?_,zpy k id h'.2⟩;rcases zabp hp with e | hp
   ·rw [e];exact hlt
   ·exact h'.1 p hp
  ·rename_i hlt;split
   ·rename_i e;exact List.pairwise_cons.2 ⟨fun p hp=>by rw [←e];exact h'.1 p hp,h'.2⟩
   ·rename_i e;have hkq:ltK k q.1=true:=by
     cases hc:ltK k q.1 with
     |true=>rfl
     |false=>exact absurd (zhw (by simpa using hlt) hc) e
    refine List.pairwise_cons.2 ⟨fun p hp=>?_,h⟩;rcases List.mem_cons.1 hp with rfl | hp
    ·exact hkq
    ·exact zhv hkq (h'.1 p hp)
theorem zaqc {ν:Type} {l:List (KeyD × ν)} {k:KeyD} (h:∀p∈l,ltK k p.1=true):aget k l=none :=
 zjm.2 fun p hp e=>by have:=h p hp;rw [e,zcl] at this;cases this
theorem zxm {k:KeyD} {id:ByteArray}:∀{l:List (KeyD × List ByteArray)},zfm l→∀k',aget k' (rput k id l)=if k'=k then (match aget k l with | none=>some [id] | some u=>some (if u.getLast?=some id then u else u++[id])) else aget k' l
 |[],_,k'=>by
  rw [rput];by_cases h:k'=k
  ·subst h;simp [aget]
  ·simp [aget,h,Ne.symm h]
 |q :: l,h,k'=>by
  have h':=List.pairwise_cons.1 h;rw [rput];split
  ·rename_i hlt;have hne:q.1≠k:=fun e=>(by rw [e,zcl] at hlt;cases hlt);rw [aget,zxm h'.2 k'];by_cases hk:k'=k
   ·subst hk;rw [if_neg hne,if_pos rfl,if_pos rfl,aget,if_neg hne]
   ·rw [if_neg hk,if_neg hk,aget]
  ·rename_i hlt;split
   ·rename_i e;by_cases hk:k'=k
    ·subst hk;rw [aget,if_pos rfl,if_pos rfl,aget,if_pos e]
    ·rw [aget,if_neg (Ne.symm hk),if_neg hk,aget,if_neg (by rw [e];exact Ne.symm hk)]
   ·rename_i e;have hkq:ltK k q.1=true:=by
     cases hc:ltK k q.1 with
     |true=>rfl
     |false=>exact absurd (zhw (by simpa using hlt) hc) e
    have hno:aget k (q :: l)=none:=zaqc fun p hp=>by
     rcases List.mem_cons.1 hp with rfl | hp
     ·exact hkq
     ·exact zhv hkq (h'.1 p hp)
    rw [hno];by_cases hk:k'=k
    ·subst hk;simp [aget]
    ·rw [aget,if_neg (Ne.symm hk),if_neg hk]
theorem Owns.rput {acc:List (KeyD × List ByteArray)} {f g:KeyD→List ByteArray} (h:Owns acc f) (hs:zfm acc) (k:KeyD) (id:ByteArray) (hlast:id∈f k↔(f k).getLast?=some id) (hg:∀k',g k'=if k'=k∧id ∉ f k then f k'++[id] else f k') :
  Owns (rput k id acc) g:=by
 intro k';rw [zxm hs];by_cases hk:k'=k
 ·subst hk;rw [if_pos rfl,h k'];by_cases he:f k'=[]
  ·have e:g k'=[]++[id]:=(by rw [hg,if_pos ⟨rfl,by rw [he];simp⟩,he]);rw [if_pos he,e,if_neg (by simp)];rfl
  ·rw [if_neg he];by_cases hm:id∈f k'
   ·have e:g k'=f k':=(by rw [hg,if_neg (fun c=>c.2 hm)]);simp only [hlast.1 hm,if_true];rw [e,if_neg he]
   ·have hl:¬(f k').getLast?=some id:=fun c=>hm (hlast.2 c);have e:g k'=f k'++[id]:=(by rw [hg,if_pos ⟨rfl,hm⟩]);simp only [hl,if_false];rw [e,if_neg (by simp)]
 ·have e:g k'=f k':=by rw [hg,if_neg (fun c=>hk c.1)]
  rw [if_neg hk,h k',e]
theorem zagp {l objs:List ObjD} {o:ObjD} (hno:∀k,o.id ∉ ownF l objs k) (j:Nat) (k:KeyD):o.id∈zgg l objs o j k↔(zgg l objs o j k).getLast?=some o.id:=by
 unfold zgg;split
 ·simp
 ·rw [List.append_nil];exact ⟨fun h=>absurd h (hno k),fun h=>absurd (List.mem_of_getLast? h) (hno k)⟩
def insK (k:KeyD):List KeyD→List KeyD
 |[]=>[k]
 |x :: l=>if ltK x k then x :: insK k l else if x=k then x :: l else k :: x :: l
def setK (ks:List KeyD):List KeyD:=ks.foldl (fun acc k=>insK k acc) []
def zns (l:List KeyD):Prop:=l.Pairwise fun p q=>ltK p q=true
theorem ztx (k:KeyD):∀(l:List KeyD) (x:KeyD),x∈insK k l↔x=k∨x∈l
 |[],x=>by simp [insK]
 |q :: l,x=>by
  rw [insK];split
  ·rw [List.mem_cons,ztx k l x,List.mem_cons];constructor
   ·rintro (h | h | h)
    ·exact Or.inr (Or.inl h)
    ·exact Or.inl h
    ·exact Or.inr (Or.inr h)
   ·rintro (h | h | h)
    ·exact Or.inr (Or.inl h)
    ·exact Or.inl h
    ·exact Or.inr (Or.inr h)
  ·split
   ·rename_i e;subst e;rw [List.mem_cons];constructor
    ·exact fun h=>Or.inr h
    ·rintro (h | h)
     ·exact Or.inl h
     ·exact h
   ·rw [List.mem_cons]
theorem zqv (k:KeyD):∀{l:List KeyD},zns l→zns (insK k l)
 |[],_=>List.pairwise_singleton ..
 |q :: l,h=>by
  have h':=List.pairwise_cons.1 h;rw [insK];split
  ·rename_i hlt;refine List.pairwise_cons.2 ⟨fun p hp=>?_,zqv k h'.2⟩;rcases (ztx k l p).1 hp with e | hp
   ·rw [e];exact hlt
   ·exact h'.1 p hp
  ·rename_i hlt;split
   ·exact h
   ·rename_i e;have hkq:ltK k q=true:=by
     cases hc:ltK k q with
     |true=>rfl
     |false=>exact absurd (zhw (by simpa using hlt) hc) e
    refine List.pairwise_cons.2 ⟨fun p hp=>?_,h⟩;rcases List.mem_cons.1 hp with rfl | hp
    ·exact hkq
    ·exact zhv hkq (h'.1 p hp)
theorem zqx:∀(ks acc:List KeyD),zns acc→zns (ks.foldl (fun acc k=>insK k acc) acc)∧∀x,x∈ks.foldl (fun acc k=>insK k acc) acc↔x∈acc∨x∈ks
 |[],acc,h=>⟨h,fun x=>by simp⟩
 |k :: ks,acc,h=>by
  rw [List.foldl_cons];obtain ⟨h1,h2⟩:=zqx ks (insK k acc) (zqv k h);refine ⟨h1,fun x=>?_⟩;rw [h2,ztx,List.mem_cons];constructor
  ·rintro ((h | h) | h)
   ·exact Or.inr (Or.inl h)
   ·exact Or.inl h
   ·exact Or.inr (Or.inr h)
  ·rintro (h | h | h)
   ·exact Or.inl (Or.inr h)
   ·exact Or.inl (Or.inl h)
   ·exact Or.inr h
theorem zdm (ks:List KeyD):zns (setK ks):=(zqx ks [] List.Pairwise.nil).1
theorem zlp {ks:List KeyD} {x:KeyD}:x∈setK ks↔x∈ks:=by unfold setK;rw [(zqx ks [] List.Pairwise.nil).2];simp
theorem zlh {α:Type} {lt:α→α→Bool} (hi:∀x,lt x x=false) (hasym:∀x y,lt x y=true→lt y x=false):∀{a b:List α},a.Pairwise (fun p q=>lt p q=true)→b.Pairwise (fun p q=>lt p q=true)→(∀x,x∈a↔x∈b)→a=b
 |[],[],_,_,_=>rfl
 |[],y :: b,_,_,h=>absurd ((h y).2 (List.mem_cons_self ..)) (by simp)
 |x :: a,[],_,_,h=>absurd ((h x).1 (List.mem_cons_self ..)) (by simp)
 |x :: a,y :: b,ha,hb,h=>by
  have ha':=List.pairwise_cons.1 ha;have hb':=List.pairwise_cons.1 hb;have e:x=y:=by
   rcases List.mem_cons.1 ((h x).1 (List.mem_cons_self ..)) with e | h1
   ·exact e
   ·rcases List.mem_cons.1 ((h y).2 (List.mem_cons_self ..)) with e | h2
    ·exact e.symm
    ·have c1:=ha'.1 y h2;have c2:=hb'.1 x h1;rw [hasym x y c1] at c2;cases c2
  subst e;rw [zlh hi hasym ha'.2 hb'.2 fun z=>?_];have hz:=h z;rw [List.mem_cons,List.mem_cons] at hz;constructor
  ·intro h1;rcases hz.1 (Or.inr h1) with e | h2
   ·subst e;have:=ha'.1 z h1;rw [hi] at this;cases this
   ·exact h2
  ·intro h1;rcases hz.2 (Or.inr h1) with e | h2
   ·subst e;have:=hb'.1 z h1;rw [hi] at this;cases this
   ·exact h2
theorem zkn {a b:List KeyD} (ha:zns a) (hb:zns b) (h:∀x,x∈a↔x∈b):a=b:=zlh zcl (fun _ _=>zwe) ha hb h
theorem zalr {a b:List (KeyD × List ByteArray)} {f:KeyD→List ByteArray} (ha:zfm a) (hb:zfm b) (h:Owns a f) (h2:Owns b f):a=b:=by
 refine zlh (lt:=fun p q:KeyD × List ByteArray=>ltK p.1 q.1) (fun p=>zcl _) (fun _ _=>zwe) ha hb fun p=>?_;have key:∀{a b:List (KeyD × List ByteArray)},zfm a→zfm b→Owns a f→Owns b f→p∈a→p∈b:=fun {a b} ha hb h h2 hp=>by have:=zes ha.nodup (show (p.1,p.2)∈a from hp);rw [h p.1,←h2 p.1] at this;exact zdy this
 exact ⟨key ha hb h h2,key hb ha h2 h⟩
def zau (l:List ObjD):List KeyD:=setK ((l.filter (isB l)).flatMap zbh)
def zcq (l:List ObjD):List (KeyD × List ByteArray):=(zau l).map fun k=>(k,ownF l l k)
theorem zbx {l:List ObjD} {k:KeyD}:k∈zau l↔∃o∈l,isB l o=true∧k∈zbh o:=by
 unfold zau;rw [zlp,List.mem_flatMap];constructor
 ·rintro ⟨o,ho,hk⟩;rw [List.mem_filter] at ho;exact ⟨o,ho.1,ho.2,hk⟩
 ·rintro ⟨o,ho,hb,hk⟩;exact ⟨o,List.mem_filter.2 ⟨ho,hb⟩,hk⟩
theorem zga {l objs:List ObjD} {k:KeyD} {id:ByteArray}:id∈ownF l objs k↔∃o∈objs,isB l o=true∧k∈zbh o∧o.id=id:=by
 unfold ownF;rw [List.mem_map];constructor
 ·rintro ⟨o,ho,e⟩;rw [List.mem_filter,Bool.and_eq_true,decide_eq_true_eq] at ho;exact ⟨o,ho.1,ho.2.1,ho.2.2,e⟩
 ·rintro ⟨o,ho,hb,hk,e⟩;exact ⟨o,List.mem_filter.2 ⟨ho,by rw [Bool.and_eq_true,decide_eq_true_eq];exact ⟨hb,hk⟩⟩,e⟩
theorem zph {l:List ObjD} {k:KeyD}:ownF l l k=[]↔k ∉ zau l:=by
 rw [zbx];constructor
 ·rintro h ⟨o,ho,hb,hk⟩;have:o.id∈ownF l l k:=zga.2 ⟨o,ho,hb,hk,rfl⟩;rw [h] at this;cases this
 ·intro h;refine List.eq_nil_iff_forall_not_mem.2 fun id hid=>?_;obtain ⟨o,ho,hb,hk,_⟩:=zga.1 hid;exact h ⟨o,ho,hb,hk⟩
theorem zlz (l:List ObjD):zfm (zcq l):=List.pairwise_map.2 (zdm _)
theorem zxf (l:List ObjD):Owns (zcq l) (ownF l l):=fun k=>by
 by_cases h:k∈zau l
 ·rw [if_neg (fun c=>(zph.1 c) h)];exact zes (zlz l).nodup (List.mem_map.2 ⟨k,h,rfl⟩)
 ·rw [if_pos (zph.2 h),zjm];intro p hp e;obtain ⟨k',hk',rfl⟩:=List.mem_map.1 hp;exact h (by rw [←e];exact hk')
theorem zafb {l:List ObjD} {a:List (KeyD × List ByteArray)} (hs:zfm a) (h:Owns a (ownF l l)):a=zcq l:=zalr hs (zlz l) h (zxf l)
theorem zaw {l:List ObjD} {p:KeyD × List ByteArray}:p∈zcq l↔p.1∈zau l∧p.2=ownF l l p.1:=by
 unfold zcq;rw [List.mem_map];constructor
 ·rintro ⟨k,hk,rfl⟩;exact ⟨hk,rfl⟩
 ·rintro ⟨h1,h2⟩;exact ⟨p.1,h1,Prod.ext rfl h2.symm⟩
def ptO (l:List ObjD) (id:ByteArray):Pt:=(zbi l id).getD (0,0)
def segB (l:List ObjD) (k:KeyD):Sg:=(ptO l k.1,ptO l k.2)
def comK (a b:KeyD):Bool:=decide (a.1=b.1∨a.1=b.2) || decide (a.2=b.1∨a.2=b.2)
def zdj (l:List ObjD) (a b:KeyD):Bool:=decide (zav (segB l a) (segB l b)≠0) && !(decide (zav (segB l a) (segB l b)=1) && comK a b)
def zcz (l:List ObjD):List ByteArray:=(zcq l).flatMap fun p=>[p.1.1,p.1.2]
def badP (l:List ObjD):List KeyD :=
 ((zcz l).flatMap fun a=>((zcz l).filter fun b=>decide (a≠b) && decide (ptO l a=ptO l b)).map (key2 a)) ++
 ((zcq l).flatMap fun p=>((zcq l).filter fun q=>decide (p.1≠q.1) && zdj l p.1 q.1).flatMap fun q=>p.2.flatMap fun x=>q.2.map (key2 x))
def zdf (l:List ObjD):List KeyD:=setK (badP l)
theorem zit {l:List ObjD} {k:KeyD}:k∈badP l ↔
  (∃a∈zcz l,∃b∈zcz l,a≠b∧ptO l a=ptO l b∧k=key2 a b) ∨
  (∃p∈zcq l,∃q∈zcq l,p.1≠q.1∧zdj l p.1 q.1=true∧∃x∈p.2,∃y∈q.2,k=key2 x y):=by
 unfold badP;rw [List.mem_append];refine or_congr ?_ ?_
 ·rw [List.mem_flatMap];constructor
  ·rintro ⟨a,ha,h⟩;obtain ⟨b,hb,rfl⟩:=List.mem_map.1 h;rw [List.mem_filter,Bool.and_eq_true,decide_eq_true_eq,decide_eq_true_eq] at hb;exact ⟨a,ha,b,hb.1,hb.2.1,hb.2.2,rfl⟩
  ·rintro ⟨a,ha,b,hb,h1,h2,rfl⟩;exact ⟨a,ha,List.mem_map.2 ⟨b,List.mem_filter.2 ⟨hb,by rw [Bool.and_eq_true,decide_eq_true_eq,decide_eq_true_eq];exact ⟨h1,h2⟩⟩,rfl⟩⟩
 ·rw [List.mem_flatMap];constructor
  ·rintro ⟨p,hp,h⟩;obtain ⟨q,hq,h⟩:=List.mem_flatMap.1 h;rw [List.mem_filter,Bool.and_eq_true,decide_eq_true_eq] at hq;obtain ⟨x,hx,h⟩:=List.mem_flatMap.1 h;obtain ⟨y,hy,rfl⟩:=List.mem_map.1 h;exact ⟨p,hp,q,hq.1,hq.2.1,hq.2.2,x,hx,y,hy,rfl⟩
  ·rintro ⟨p,hp,q,hq,h1,h2,x,hx,y,hy,rfl⟩;exact ⟨p,hp,List.mem_flatMap.2 ⟨q,List.mem_filter.2 ⟨hq,by rw [Bool.and_eq_true,decide_eq_true_eq];exact ⟨h1,h2⟩⟩,List.mem_flatMap.2 ⟨x,hx,List.mem_map.2 ⟨y,hy,rfl⟩⟩⟩⟩
theorem zajm (a b:KeyD):comK a b=comK b a:=by unfold comK;rw [Bool.eq_iff_iff];simp only [Bool.or_eq_true,decide_eq_true_eq];constructor<;>rintro ((h | h) | (h | h))<;>simp [h]
theorem zmg (l:List ObjD) (a b:KeyD):zdj l a b=zdj l b a:=by unfold zdj;rw [zch,zajm]
def idsK (k:KeyD):List ByteArray:=if k.1=k.2 then [k.1] else [k.1,k.2]
end Go.Proofs.YtibpaaajghbkoaaGreat

namespace Go.Proofs.YtibpaaajghbkoaaGreat
theorem zdi {l:List ObjD} (h:zas l=true) {r:ByteArray} {q:Int × Int}:zbi l r=some q↔∃o∈l,o.id=r∧o.kind=1∧q=(o.x,o.y):=by
 constructor
 ·intro hn;cases hp:posO r l with
  |none=>rw [zel l r hp] at hn;cases hn
  |some k =>
   obtain ⟨o,ho,e⟩:=zdt r l k hp;rw [zfl l r k hp o ho] at hn;split at hn
   ·rename_i hk;exact ⟨o,zM ho,e,hk,(Option.some.inj hn).symm⟩
   ·cases hn
 ·rintro ⟨o,ho,rfl,hk,rfl⟩;obtain ⟨k,hk'⟩:=List.getElem?_of_mem ho;rw [zfl l o.id k (zpe h hk') o hk',if_pos hk]
def zrt (a b:ObjD):Prop:=a.id=b.id∧a.kind=b.kind∧a.x=b.x∧a.y=b.y∧a.refs=b.refs
theorem zrt.refl (a:ObjD):zrt a a:=⟨rfl,rfl,rfl,rfl,rfl⟩
theorem zrt.symm {a b:ObjD} (h:zrt a b):zrt b a:=⟨h.1.symm,h.2.1.symm,h.2.2.1.symm,h.2.2.2.1.symm,h.2.2.2.2.symm⟩
theorem zrt.sides {a b:ObjD} (h:zrt a b):zbh a=zbh b:=by unfold zbh zdp zds zcc;rw [h.2.1,h.2.2.2.2]
structure SubM (l l':List ObjD):Prop where
 ok:zas l=true
 ok':zas l'=true
 fwd:∀o∈l,∃o'∈l',zrt o o'
 nod:∀o∈l,o.kind=2∨o.kind=3→∀r∈o.refs,zbi l r=zbi l' r
theorem SubM.isB {l l':List ObjD} (h:SubM l l') {o o':ObjD} (ho:o∈l) (hs:zrt o o'):isB l o=isB l' o':=by
 unfold Proofs.YtibpaaajghbkoaaGreat.isB;rw [hs.2.1];by_cases hk:o'.kind=2∨o'.kind=3
 ·rw [decide_eq_true hk,Bool.true_and,Bool.true_and];unfold zfn;rw [←hs.2.2.2.2];have hk':o.kind=2∨o.kind=3:=by rw [hs.2.1];exact hk
  rw [Bool.eq_iff_iff,List.all_eq_true,List.all_eq_true];constructor
  ·intro h2 r hr;rw [←h.nod o ho hk' r hr];exact h2 r hr
  ·intro h2 r hr;rw [h.nod o ho hk' r hr];exact h2 r hr
 ·rw [decide_eq_false hk,Bool.false_and,Bool.false_and]
theorem zpm {l:List ObjD} {o:ObjD} (h:isB l o=true):o.kind=2∨o.kind=3:=by unfold isB at h;rw [Bool.and_eq_true,decide_eq_true_eq] at h;exact h.1
theorem zvt {o:ObjD} {i:Nat} (h:i<o.refs.length):zcc o i∈o.refs:=by unfold zcc;rw [List.getElem?_eq_getElem h];exact List.getElem_mem h
theorem zfq {a b x:ByteArray}:x=(key2 a b).1∨x=(key2 a b).2↔x=a∨x=b:=by rcases zhy a b with e | e<;>rw [e];exact or_comm
theorem zgk {o:ObjD} {k:KeyD} (h:k∈zbh o) {x:ByteArray} (hx:x=k.1∨x=k.2):x∈o.refs:=by
 unfold zbh at h;obtain ⟨i,hi,rfl⟩:=List.mem_map.1 h;rw [List.mem_range] at hi;have hlt:i<o.refs.length:=by unfold zdp at hi;split at hi<;>omega
 unfold zds at hx;rcases zfq.1 hx with rfl | rfl
 ·exact zvt hlt
 ·exact zvt (Nat.mod_lt _ (by omega))
theorem SubM.keys {l l':List ObjD} (h:SubM l l') {k:KeyD} (hk:k∈zau l):k∈zau l':=by obtain ⟨o,ho,hb,hs⟩:=zbx.1 hk;obtain ⟨o',ho',hst⟩:=h.fwd o ho;exact zbx.2 ⟨o',ho',by rw [←h.isB ho hst];exact hb,by rw [←hst.sides];exact hs⟩
theorem SubM.own {l l':List ObjD} (h:SubM l l') {k:KeyD} {id:ByteArray} (hk:id∈ownF l l k):id∈ownF l' l' k:=by obtain ⟨o,ho,hb,hs,e⟩:=zga.1 hk;obtain ⟨o',ho',hst⟩:=h.fwd o ho;exact zga.2 ⟨o',ho',by rw [←h.isB ho hst];exact hb,by rw [←hst.sides];exact hs,by rw [←hst.1];exact e⟩
theorem SubM.pt {l l':List ObjD} (h:SubM l l') {k:KeyD} (hk:k∈zau l) {x:ByteArray} (hx:x=k.1∨x=k.2):ptO l x=ptO l' x:=by obtain ⟨o,ho,hb,hs⟩:=zbx.1 hk;unfold ptO;rw [h.nod o ho (zpm hb) x (zgk hs hx)]
theorem zcg {l:List ObjD} {x:ByteArray}:x∈zcz l↔∃k∈zau l,x=k.1∨x=k.2:=by
 unfold zcz;rw [List.mem_flatMap];constructor
 ·rintro ⟨p,hp,hx⟩;exact ⟨p.1,(zaw.1 hp).1,by simpa using hx⟩
 ·rintro ⟨k,hk,hx⟩;exact ⟨(k,ownF l l k),zaw.2 ⟨hk,rfl⟩,by simpa using hx⟩
theorem SubM.nodes {l l':List ObjD} (h:SubM l l') {x:ByteArray} (hx:x∈zcz l):x∈zcz l'∧ptO l x=ptO l' x:=by obtain ⟨k,hk,hx⟩:=zcg.1 hx;exact ⟨zcg.2 ⟨k,h.keys hk,hx⟩,h.pt hk hx⟩
theorem SubM.seg {l l':List ObjD} (h:SubM l l') {k:KeyD} (hk:k∈zau l):segB l k=segB l' k:=by unfold segB;rw [h.pt hk (Or.inl rfl),h.pt hk (Or.inr rfl)]
theorem SubM.bad {l l':List ObjD} (h:SubM l l') {k:KeyD} (hk:k∈badP l):k∈badP l':=by
 rw [zit] at hk ⊢;rcases hk with ⟨a,ha,b,hb,hne,hpt,e⟩ | ⟨p,hp,q,hq,hne,hc,x,hx,y,hy,e⟩
 ·obtain ⟨ha1,ha2⟩:=h.nodes ha;obtain ⟨hb1,hb2⟩:=h.nodes hb;exact Or.inl ⟨a,ha1,b,hb1,hne,by rw [←ha2,←hb2];exact hpt,e⟩
 ·obtain ⟨hp1,hp2⟩:=zaw.1 hp;obtain ⟨hq1,hq2⟩:=zaw.1 hq;rw [hp2] at hx;rw [hq2] at hy;refine Or.inr ⟨(p.1,ownF l' l' p.1),zaw.2 ⟨h.keys hp1,rfl⟩,(q.1,ownF l' l' q.1),zaw.2 ⟨h.keys hq1,rfl⟩,hne,?_,x,h.own hx,y,h.own hy,e⟩;unfold zdj at hc ⊢;rw [←h.seg hp1,←h.seg hq1];exact hc
theorem zfr {l:List ObjD} {k:KeyD}:k∈zdf l↔k∈badP l:=zlp
theorem zmh (l:List ObjD):zns (zdf l):=zdm _
theorem zns.nodup {l:List KeyD} (h:zns l):l.Nodup:=h.imp fun {a b} hab e=>by rw [e,zcl] at hab;cases hab
theorem zsh {l:List ObjD} (h:zas l=true) (l':List ObjD) (k:KeyD):(ownF l' l k).Pairwise fun a b=>ltB a b=true:=by unfold ownF;rw [List.pairwise_map];refine List.Pairwise.sublist List.filter_sublist ?_;rw [List.pairwise_iff_getElem];intro i j hi hj hij;exact (zcs h).2 i j _ _ hij (List.getElem?_eq_getElem hi) (List.getElem?_eq_getElem hj)
structure zxr (l l':List ObjD):Prop where
 to:SubM l l'
 back:∀o'∈l',isB l' o'=true→∃o∈l,zrt o o'
theorem zxr.keys {l l':List ObjD} (h:zxr l l'):zau l=zau l':=by refine zkn (zdm _) (zdm _) fun k=>⟨fun hk=>h.to.keys hk,fun hk=>?_⟩;obtain ⟨o',ho',hb,hs⟩:=zbx.1 hk;obtain ⟨o,ho,hst⟩:=h.back o' ho' hb;exact zbx.2 ⟨o,ho,by rw [h.to.isB ho hst];exact hb,by rw [hst.sides];exact hs⟩
theorem zxr.own {l l':List ObjD} (h:zxr l l') (k:KeyD):ownF l l k=ownF l' l' k:=by refine zlh zbp (fun _ _=>zku) (zsh h.to.ok l k) (zsh h.to.ok' l' k) fun id=>⟨fun hk=>h.to.own hk,fun hk=>?_⟩;obtain ⟨o',ho',hb,hs,e⟩:=zga.1 hk;obtain ⟨o,ho,hst⟩:=h.back o' ho' hb;exact zga.2 ⟨o,ho,by rw [h.to.isB ho hst];exact hb,by rw [hst.sides];exact hs,by rw [hst.1];exact e⟩
theorem zxr.borders {l l':List ObjD} (h:zxr l l'):zcq l=zcq l':=by unfold zcq;rw [h.keys];exact List.map_congr_left fun k _=>by rw [h.own k]
theorem zxr.check {l l':List ObjD} (h:zxr l l'):zdf l=zdf l':=by
 refine zkn (zmh l) (zmh l') fun k=>?_;rw [zfr,zfr];refine ⟨fun hk=>h.to.bad hk,fun hk=>?_⟩;have hpt:∀x∈zcz l',x∈zcz l∧ptO l x=ptO l' x:=fun x hx=>by
  have hx':x∈zcz l:=by obtain ⟨k,hk,hx⟩:=zcg.1 hx;exact zcg.2 ⟨k,by rw [h.keys];exact hk,hx⟩
  exact ⟨hx',(h.to.nodes hx').2⟩
 rw [zit] at hk ⊢;rcases hk with ⟨a,ha,b,hb,hne,he,e⟩ | ⟨p,hp,q,hq,hne,hc,x,hx,y,hy,e⟩
 ·exact Or.inl ⟨a,(hpt a ha).1,b,(hpt b hb).1,hne,by rw [(hpt a ha).2,(hpt b hb).2];exact he,e⟩
 ·refine Or.inr ⟨p,by rw [h.borders];exact hp,q,by rw [h.borders];exact hq,hne,?_,x,hx,y,hy,e⟩;unfold zdj at hc ⊢;rw [h.to.seg (by rw [h.keys];exact (zaw.1 hp).1),h.to.seg (by rw [h.keys];exact (zaw.1 hq).1)];exact hc
theorem zpl {l:List ObjD} {k:KeyD} (hk:k∈zau l):∃x,x∈ownF l l k:=by obtain ⟨o,ho,hb,hs⟩:=zbx.1 hk;exact ⟨o.id,zga.2 ⟨o,ho,hb,hs,rfl⟩⟩
theorem SubM.none {l l':List ObjD} (h:SubM l l') (hk:∀k∈zau l',k∈zau l) (h0:zdf l=[]):zdf l'=[]:=by
 have h0':∀k,k ∉ badP l:=fun k hk=>by have:=zfr.2 hk;rw [h0] at this;cases this
 refine List.eq_nil_iff_forall_not_mem.2 fun k hkc=>?_;rw [zfr,zit] at hkc;have hpt:∀x∈zcz l',x∈zcz l∧ptO l x=ptO l' x:=fun x hx=>by
  have hx':x∈zcz l:=by obtain ⟨k,hk',hx⟩:=zcg.1 hx;exact zcg.2 ⟨k,hk k hk',hx⟩
  exact ⟨hx',(h.nodes hx').2⟩
 rcases hkc with ⟨a,ha,b,hb,hne,he,e⟩ | ⟨p,hp,q,hq,hne,hc,x,hx,y,hy,e⟩
 ·exact h0' k (zit.2 (Or.inl ⟨a,(hpt a ha).1,b,(hpt b hb).1,hne,by rw [(hpt a ha).2,(hpt b hb).2];exact he,e⟩))
 ·have kp:=hk _ (zaw.1 hp).1;have kq:=hk _ (zaw.1 hq).1;obtain ⟨x',hx'⟩:=zpl kp;obtain ⟨y',hy'⟩:=zpl kq;refine h0' (key2 x' y') (zit.2 (Or.inr ⟨(p.1,ownF l l p.1),zaw.2 ⟨kp,rfl⟩,(q.1,ownF l l q.1),zaw.2 ⟨kq,rfl⟩,hne,?_,x',hx',y',hy',rfl⟩));unfold zdj at hc ⊢;rw [h.seg kp,h.seg kq];exact hc
end Go.Proofs.YtibpaaajghbkoaaGreat

namespace Go.Proofs.YtibpaaajghbkoaaGreat
theorem ztp {a b:ByteArray} (hab:ltB a b=true):∀{l:List ObjD},zbc b l=true→zbc a l=true
 |[],_=>rfl
 |o :: l,h=>by simp only [zbc,Bool.and_eq_true] at h ⊢;exact ⟨⟨h.1.1,zdz hab h.1.2⟩,h.2⟩
def ztj (f:Nat→ObjD→Option ObjD):Nat→List ObjD→List ObjD
 |_,[]=>[]
 |i,o :: l=>(match f i o with | some o'=>[o'] | none=>[])++ztj f (i+1) l
theorem zvy (f:Nat→ObjD→Option ObjD):∀(l:List ObjD) (j:Nat),(ztj f j l).length≤l.length
 |[],j=>Nat.le_refl _
 |o :: l,j=>by have:=zvy f l (j+1);rw [ztj,List.length_append,List.length_cons];split<;>simp<;>omega
theorem zsg (f:Nat→ObjD→Option ObjD) (hf:∀i o o',f i o=some o'→o'.id=o.id∧(zay o=true→zay o'=true)):∀(l:List ObjD) (j:Nat) (last:ByteArray),zbc last l=true→zbc last (ztj f j l)=true
 |[],_,_,_=>rfl
 |o :: l,j,last,h=>by
  simp only [zbc,Bool.and_eq_true] at h;have ih:=zsg f hf l (j+1) o.id h.2;rw [ztj];cases hfo:f j o with
  |none=>exact ztp h.1.2 ih
  |some o' =>obtain ⟨h1,h2⟩:=hf j o o' hfo;simp only [List.cons_append,List.nil_append,zbc,Bool.and_eq_true];rw [h1];exact ⟨⟨h2 h.1.1,h.1.2⟩,ih⟩
theorem zalq (f:Nat→ObjD→Option ObjD) (hf:∀i o o',f i o=some o'→o'.id=o.id∧(zay o=true→zay o'=true)) {l:List ObjD} (h:zas l=true):zas (ztj f 0 l)=true:=by simp only [zas,Bool.and_eq_true,decide_eq_true_eq] at h ⊢;exact ⟨Nat.le_trans (zvy f l 0) h.1,zsg f hf l 0 _ h.2⟩
def zxq (l l':List ObjD) (o:ObjD):Prop:=zas l=true∧zas l'=true∧(∀x,x∈l'↔x=o∨x∈l)∧(∀x∈l,o.id ∉ x.refs)∧o.id ∉ o.refs
theorem zxq.node {l l':List ObjD} {o:ObjD} (h:zxq l l' o) {r:ByteArray} (hr:r≠o.id):zbi l r=zbi l' r:=by
 obtain ⟨h1,h2,h3,h4,h5⟩:=h;refine Option.ext fun q=>?_;rw [zdi h1,zdi h2];constructor
 ·rintro ⟨x,hx,h⟩;exact ⟨x,(h3 x).2 (Or.inr hx),h⟩
 ·rintro ⟨x,hx,h⟩;rcases (h3 x).1 hx with rfl | hx
  ·exact absurd h.1.symm hr
  ·exact ⟨x,hx,h⟩
theorem zxq.isb {l l':List ObjD} {o x:ObjD} (h:zxq l l' o) (hx:o.id ∉ x.refs):isB l' x=isB l x:=by
 unfold isB zfn;congr 1;rw [Bool.eq_iff_iff,List.all_eq_true,List.all_eq_true];constructor<;>intro h2 r hr
 ·rw [h.node fun e=>hx (e ▸ hr)];exact h2 r hr
 ·rw [←h.node fun e=>hx (e ▸ hr)];exact h2 r hr
theorem zxq.keys {l l':List ObjD} {o:ObjD} (h:zxq l l' o) {k:KeyD}:k∈zau l'↔k∈zau l∨(isB l o=true∧k∈zbh o):=by
 rw [zbx,zbx];constructor
 ·rintro ⟨x,hx,hb,hs⟩;rcases (h.2.2.1 x).1 hx with rfl | hx
  ·exact Or.inr ⟨by rw [←h.isb h.2.2.2.2];exact hb,hs⟩
  ·exact Or.inl ⟨x,hx,by rw [←h.isb (h.2.2.2.1 x hx)];exact hb,hs⟩
 ·rintro (⟨x,hx,hb,hs⟩ | ⟨hb,hs⟩)
  ·exact ⟨x,(h.2.2.1 x).2 (Or.inr hx),by rw [h.isb (h.2.2.2.1 x hx)];exact hb,hs⟩
  ·exact ⟨o,(h.2.2.1 o).2 (Or.inl rfl),by rw [h.isb h.2.2.2.2];exact hb,hs⟩
theorem zxq.own {l l':List ObjD} {o:ObjD} (h:zxq l l' o) (hno:∀x∈l,x.id≠o.id) {k:KeyD}:o.id∈ownF l' l' k↔isB l o=true∧k∈zbh o:=by
 rw [zga];constructor
 ·rintro ⟨x,hx,hb,hs,e⟩;rcases (h.2.2.1 x).1 hx with rfl | hx
  ·exact ⟨by rw [←h.isb h.2.2.2.2];exact hb,hs⟩
  ·exact absurd e (hno x hx)
 ·rintro ⟨hb,hs⟩;exact ⟨o,(h.2.2.1 o).2 (Or.inl rfl),by rw [h.isb h.2.2.2.2];exact hb,hs,rfl⟩
end Go.Proofs.YtibpaaajghbkoaaGreat

namespace Go.Proofs.YtibpaaajghbkoaaGreat
theorem zos (s t:Sg):zav s (t.2,t.1)=zav s t:=by rw [←zch s,zqp,zch]
theorem zfz {l:List ObjD} (h:zas l=true) (x:ByteArray):zat (ptO l x)=true:=by
 unfold ptO;cases hn:zbi l x with
 |none=>rfl
 |some q =>obtain ⟨o,ho,_,hk,rfl⟩:=(zdi h).1 hn;have h:=zda h ho;simp only [zay,Bool.and_eq_true] at h;have h2:=h.2;rw [if_pos hk,Bool.and_eq_true] at h2;have h3:=h2.2;unfold onB at h3;rw [decide_eq_true_eq] at h3;unfold zat;rw [Option.getD_some,decide_eq_true_eq];omega
theorem zsl {l:List ObjD} (h0:zdf l=[]) {a b:ByteArray} (ha:a∈zcz l) (hb:b∈zcz l) (he:ptO l a=ptO l b):a=b:=by
 by_cases hne:a=b
 ·exact hne
 ·have:key2 a b∈zdf l:=zfr.2 (zit.2 (Or.inl ⟨a,ha,b,hb,hne,he,rfl⟩));rw [h0] at this;cases this
theorem zln {l:List ObjD} (h0:zdf l=[]) {a b:KeyD} (ha:a∈zau l) (hb:b∈zau l) (hne:a≠b):zdj l a b=false:=by
 cases hc:zdj l a b with
 |false=>rfl
 |true =>obtain ⟨x,hx⟩:=zpl ha;obtain ⟨y,hy⟩:=zpl hb;have:key2 x y∈zdf l:=zfr.2 (zit.2 (Or.inr ⟨(a,ownF l l a),zaw.2 ⟨ha,rfl⟩,(b,ownF l l b),zaw.2 ⟨hb,rfl⟩,hne,hc,x,hx,y,hy,rfl⟩));rw [h0] at this;cases this
theorem zmf {l:List ObjD} {a b:KeyD} (h:zdj l a b=false):zav (segB l a) (segB l b)=0∨(zav (segB l a) (segB l b)=1∧comK a b=true):=by
 unfold zdj at h;by_cases h0:zav (segB l a) (segB l b)=0
 ·exact Or.inl h0
 ·rw [decide_eq_true h0,Bool.true_and,Bool.not_eq_false',Bool.and_eq_true,decide_eq_true_eq] at h;exact Or.inr h
theorem zaef {l:List ObjD} {k:KeyD} (hk:k∈zau l):k.1∈zcz l∧k.2∈zcz l:=⟨zcg.2 ⟨k,hk,Or.inl rfl⟩,zcg.2 ⟨k,hk,Or.inr rfl⟩⟩
theorem zamc {l:List ObjD} {k:KeyD} (hk:k∈zau l):∃a b,k=key2 a b:=by obtain ⟨o,ho,hb,hs⟩:=zbx.1 hk;unfold zbh at hs;obtain ⟨i,_,rfl⟩:=List.mem_map.1 hs;exact ⟨_,_,rfl⟩
theorem zpc (l:List ObjD) (a b:ByteArray) (s:Sg):zav s (segB l (key2 a b))=zav s (ptO l a,ptO l b):=by
 rcases zhy a b with e | e
 ·rw [e];rfl
 ·rw [e];exact zos s (ptO l a,ptO l b)
end Go.Proofs.YtibpaaajghbkoaaGreat

namespace Go.Proofs.YtibpaaajghbkoaaGreat
theorem zabb:∀(l pre:List ByteArray),zar 2 pre l=true→∀(i:Nat) (x y:ByteArray),l[i]?=some x→l[i+1]?=some y→x≠y
 |[],_,_,i,x,y,hx,_=>by simp at hx
 |s :: l,pre,h,i,x,y,hx,hy=>by
  simp only [zar,Bool.and_eq_true] at h;cases i with
  |zero =>
   have e:s=x:=(by simpa using hx);subst e;cases l with
   |nil=>simp at hy
   |cons t l =>have e:t=y:=(by simpa using hy);subst e;have h2:=h.2;simp only [zar,Bool.and_eq_true] at h2;have h3:=h2.1.1.2;simp at h3;exact h3
  |succ i=>exact zabb l _ h.2 i x y (by simpa using hx) (by simpa using hy)
theorem ziy:∀(l pre:List ByteArray),zar 3 pre l=true→(∀s∈l,s ∉ pre)∧l.Nodup
 |[],_,_=>⟨fun s hs=>(by cases hs),List.nodup_nil⟩
 |s :: l,pre,h=>by
  simp only [zar,Bool.and_eq_true] at h;obtain ⟨h1,h2⟩:=ziy l _ h.2;have h3:=h.1.2;have h4:s ∉ pre:=fun c=>by have:pre.any (fun p=>decide (p=s))=true:=List.any_eq_true.2 ⟨s,c,decide_eq_true rfl⟩;rw [this] at h3;simp at h3
  refine ⟨fun x hx=>?_,List.nodup_cons.2 ⟨fun c=>h1 s c (by simp),h2⟩⟩;rcases List.mem_cons.1 hx with rfl | hx
  ·exact h4
  ·exact fun c=>h1 x hx (List.mem_append_left _ c)
theorem zaio {a b:ByteArray} (h:a≠b):(key2 a b).1≠(key2 a b).2:=by
 rcases zhy a b with e | e<;>rw [e]
 ·exact h
 ·exact Ne.symm h
theorem zew {o:ObjD} {i:Nat} (h:i<o.refs.length):o.refs[i]?=some (zcc o i):=by unfold zcc;rw [List.getElem?_eq_getElem h];rfl
theorem zapk {l:List ObjD} (h:zas l=true) {k:KeyD} (hk:k∈zau l):k.1≠k.2:=by
 obtain ⟨o,ho,hb,hs⟩:=zbx.1 hk;have hob:=zda h ho;simp only [zay,Bool.and_eq_true,decide_eq_true_eq] at hob;obtain ⟨⟨⟨⟨⟨⟨h1,h2⟩,_⟩,h4⟩,h5⟩,h6⟩,h7⟩:=hob;unfold zbh at hs;obtain ⟨i,hi,rfl⟩:=List.mem_map.1 hs;rw [List.mem_range] at hi;refine zaio ?_;rcases zpm hb with hk | hk
 ·rw [hk] at h6;unfold zdp at hi;rw [if_pos hk] at hi;rw [Nat.mod_eq_of_lt (by omega)];exact zabb _ _ h6 i _ _ (zew (by omega)) (zew (by omega))
 ·rw [hk] at h6 h4;unfold zdp at hi;rw [if_neg (by omega)] at hi;have hl:3≤o.refs.length:=by have h8:(3:Int)≤(o.refs.length:Int):=h4;omega
  have hn:=(ziy _ _ h6).2;have hj:=Nat.mod_lt (i+1) (show 0<o.refs.length by omega);intro e;have e1:=zew hi;have e2:=zew hj;rw [e,←e2] at e1;have:=(List.getElem?_inj hi hn).1 e1;rcases Nat.lt_or_ge (i+1) o.refs.length with h | h
  ·rw [Nat.mod_eq_of_lt h] at this;omega
  ·have h9:i+1=o.refs.length:=(by omega);rw [h9,Nat.mod_self] at this;omega
def zdx:List ByteArray→List ByteArray→Bool
 |_,[]=>false
 |[],_ :: _=>true
 |a :: x,b :: y=>if a=b then zdx x y else ltB a b
theorem zrm:∀l:List ByteArray,zdx l l=false
 |[]=>rfl
 |a :: l=>by rw [zdx,if_pos rfl,zrm l]
def OrdP (k:KeyD):Prop:=ltB k.2 k.1=false
theorem zzk {k k':KeyD} (h:OrdP k) (h':OrdP k'):zdx (idsK k) (idsK k')=ltK k k':=by
 obtain ⟨a,b⟩:=k;obtain ⟨c,d⟩:=k';unfold OrdP at h h';unfold idsK ltK;simp only at h h' ⊢;by_cases e3:a=c
 ·subst e3;simp only [zbp,Bool.false_or,decide_true,Bool.true_and];by_cases e1:a=b
  ·subst e1;rw [if_pos rfl];by_cases e2:a=d
   ·subst e2;rw [if_pos rfl,zrm,zbp]
   ·rw [if_neg e2,zdx,if_pos rfl,zdx];cases hc:ltB a d with
    |true=>rfl
    |false=>exact absurd (zep hc h') e2
  ·rw [if_neg e1];by_cases e2:a=d
   ·subst e2;rw [if_pos rfl,zdx,if_pos rfl,zdx];exact h.symm
   ·rw [if_neg e2,zdx,if_pos rfl,zdx];by_cases e4:b=d
    ·subst e4;rw [if_pos rfl,zbp];rfl
    ·rw [if_neg e4]
 ·rw [decide_eq_false e3,Bool.false_and,Bool.or_false];split<;>split<;>rw [zdx,if_neg e3]
theorem znd (a b:ByteArray):OrdP (key2 a b):=zaip a b
theorem zain {k:KeyD} (h:OrdP k):key2 k.1 k.2=k:=zaeg h
def zaaf (l:List ObjD) (p q key:KeyD):Prop:=∃a b,(a=p.1∨a=p.2)∧(b=q.1∨b=q.2)∧a≠b∧ptO l a=ptO l b∧key=key2 a b
def OwnN (l:List ObjD) (p q key:KeyD):Prop:=zdj l p q=true∧∃x∈ownF l l p,∃y∈ownF l l q,key=key2 x y
theorem zaaf.symm {l:List ObjD} {p q key:KeyD} (h:zaaf l p q key):zaaf l q p key:=by obtain ⟨a,b,h1,h2,h3,h4,h5⟩:=h;exact ⟨b,a,h2,h1,Ne.symm h3,h4.symm,by rw [h5,zgc]⟩
theorem OwnN.symm {l:List ObjD} {p q key:KeyD} (h:OwnN l p q key):OwnN l q p key:=by obtain ⟨h1,x,hx,y,hy,h2⟩:=h;exact ⟨by rw [zmg];exact h1,y,hy,x,hx,by rw [h2,zgc]⟩
theorem zand {l:List ObjD} {key:KeyD}:key∈badP l ↔
  (∃(i k:Nat) (p q:KeyD),k≤i∧(zau l)[i]?=some p∧(zau l)[k]?=some q∧zaaf l p q key) ∨
  (∃(i k:Nat) (p q:KeyD),k<i∧(zau l)[i]?=some p∧(zau l)[k]?=some q∧OwnN l p q key):=by
 rw [zit];refine or_congr ?_ ?_
 ·constructor
  ·rintro ⟨a,ha,b,hb,hne,he,e⟩;obtain ⟨p,hp,hpa⟩:=zcg.1 ha;obtain ⟨q,hq,hqb⟩:=zcg.1 hb;obtain ⟨i,hi⟩:=List.getElem?_of_mem hp;obtain ⟨k,hk⟩:=List.getElem?_of_mem hq;have hn:zaaf l p q key:=⟨a,b,hpa,hqb,hne,he,e⟩;rcases Nat.le_total k i with h | h
   ·exact ⟨i,k,p,q,h,hi,hk,hn⟩
   ·exact ⟨k,i,q,p,h,hk,hi,hn.symm⟩
  ·rintro ⟨i,k,p,q,_,hi,hk,a,b,hpa,hqb,hne,he,e⟩;exact ⟨a,zcg.2 ⟨p,zM hi,hpa⟩,b,zcg.2 ⟨q,zM hk,hqb⟩,hne,he,e⟩
 ·constructor
  ·rintro ⟨p,hp,q,hq,hne,hc,x,hx,y,hy,e⟩;obtain ⟨hp1,hp2⟩:=zaw.1 hp;obtain ⟨hq1,hq2⟩:=zaw.1 hq;rw [hp2] at hx;rw [hq2] at hy;obtain ⟨i,hi⟩:=List.getElem?_of_mem hp1;obtain ⟨k,hk⟩:=List.getElem?_of_mem hq1;have hn:OwnN l p.1 q.1 key:=⟨hc,x,hx,y,hy,e⟩;rcases Nat.lt_trichotomy k i with h | h | h
   ·exact ⟨i,k,p.1,q.1,h,hi,hk,hn⟩
   ·subst h;rw [hi] at hk;injection hk with hk;exact absurd hk hne
   ·exact ⟨k,i,q.1,p.1,h,hk,hi,hn.symm⟩
  ·rintro ⟨i,k,p,q,hik,hi,hk,hc,x,hx,y,hy,e⟩;refine ⟨(p,ownF l l p),zaw.2 ⟨zM hi,rfl⟩,(q,ownF l l q),zaw.2 ⟨zM hk,rfl⟩,fun c=>?_,hc,x,hx,y,hy,e⟩;obtain ⟨q1,e1⟩:=List.getElem?_eq_some_iff.1 hi;obtain ⟨q2,e2⟩:=List.getElem?_eq_some_iff.1 hk;have hso:zns (zau l):=zdm _;have:=List.pairwise_iff_getElem.1 hso k i q2 q1 hik;rw [e1,e2] at this;simp only at c;rw [c,zcl] at this;cases this
end Go.Proofs.YtibpaaajghbkoaaGreat
