/-   -/
import Derived.Test.YtdfenhjibnfdeaaGreatDoorQyAc
import Derived.Maps.RangeWalk
import Derived.Test.YtdfenhjibnfdeaaGreatDoorQyAv
import Derived.StringKeys
import Derived.Laws.EntriesVeiled
namespace Go.Proofs.YtdfenhjibnfdeaaGreatDoor
open Go.RowKit Go.Maps Go.ChangeMaps Go.MapKept
section
variable {κ ν:Type} [DecidableEq κ]
def aget (k:κ):List (κ × ν)→Option ν
 |[]=>none
 |p :: l=>if p.1=k then some p.2 else aget k l
def aput (k:κ) (v:ν):List (κ × ν)→List (κ × ν)
 |[]=>[(k,v)]
 |p :: l=>if p.1=k then (k,v) :: l else p :: aput k v l
theorem aget_none {k:κ}:∀{l:List (κ × ν)},aget k l=none↔∀p∈l,p.1≠k
 |[]=>by simp [aget]
 |q :: l=>by
  rw [aget]
  split
  ·rename_i h;simp [h]
  ·rename_i h;rw [aget_none];simp [h]
theorem aget_of_mem {k:κ} {v:ν}:∀{l:List (κ × ν)},(l.map (·.1)).Nodup→(k,v)∈l→aget k l=some v
 |[],_,h=>by cases h
 |q :: l,hn,h=>by
  rw [List.map_cons,List.nodup_cons] at hn
  rw [aget]
  rcases List.mem_cons.1 h with rfl | h
  ·rw [if_pos rfl]
  ·rw [if_neg,aget_of_mem hn.2 h]
   intro e
   exact hn.1 (List.mem_map.2 ⟨_,h,e.symm⟩)
theorem aput_absent {k:κ} {v:ν}:∀{l:List (κ × ν)},(∀p∈l,p.1≠k)→aput k v l=l++[(k,v)]
 |[],_=>rfl
 |q :: l,h=>by rw [aput,if_neg (h q (List.mem_cons_self ..)),aput_absent (fun p hp=>h p (List.mem_cons_of_mem _ hp))];rfl
theorem aput_at {k:κ} {v:ν}:∀{l:List (κ × ν)} {j:Nat} {p:κ × ν},(l.map (·.1)).Nodup→l[j]?=some p→p.1=k→aput k v l=l.set j (k,v)
 |[],j,p,_,h,_=>by simp at h
 |q :: l,0,p,_,h,e=>by
  have:q=p:=by simpa using h
  subst this
  rw [aput,if_pos e];rfl
 |q :: l,j+1,p,hn,h,e=>by
  rw [List.map_cons,List.nodup_cons] at hn
  have h':l[j]?=some p:=by simpa using h
  have hq:q.1≠k:=fun e'=>hn.1 (List.mem_map.2 ⟨p,List.mem_of_getElem? h',by rw [e,e']⟩)
  rw [aput,if_neg hq,aput_at hn.2 h' e];rfl
theorem mem_aput {k:κ} {v:ν}:∀{l:List (κ × ν)} {p:κ × ν},p∈aput k v l→p=(k,v)∨(p∈l)
 |[],p,h=>by simp [aput] at h;exact Or.inl h
 |q :: l,p,h=>by
  rw [aput] at h
  split at h
  ·rcases List.mem_cons.1 h with h | h
   ·exact Or.inl h
   ·exact Or.inr (List.mem_cons_of_mem _ h)
  ·rcases List.mem_cons.1 h with h | h
   ·exact Or.inr (by rw [h];exact List.mem_cons_self ..)
   ·rcases mem_aput h with h | h
    ·exact Or.inl h
    ·exact Or.inr (List.mem_cons_of_mem _ h)
end
section
variable {κ ν:Type}
def MapAt (P:Program) (t:TypeId) (ek:κ→Value) (ev:ν→Value) (w:World) (b:Nat) (l:List (κ × ν)):Prop :=
 ∃es clock,w.heap[b]?=some (.map es clock)∧es.size≤maxLen∧Stamped es clock∧es.toList.map (fun x=>(x.key,x.val))=l.map (fun p=>(ek p.1,ev p.2))∧∀p∈l,∃kl,keyOf P t (ek p.1)=some kl
variable {P:Program} {t:TypeId} {ek:κ→Value} {ev:ν→Value} {w w':World} {b:Nat} {l:List (κ × ν)}
theorem MapAt.made (P:Program) (t:TypeId) (ek:κ→Value) (ev:ν→Value) (w:World):MapAt P t ek ev (w.alloc (.map #[] 0)) w.heap.size [] :=
 ⟨#[],0,(MapKept.heap_alloc w _).1,by simp,stamped_empty 0,rfl,fun p hp=>by cases hp⟩
theorem MapAt.later (h:MapAt P t ek ev w b l) (hb:w'.heap[b]?=w.heap[b]?):MapAt P t ek ev w' b l:=by
 obtain ⟨es,clock,h1,h2⟩:=h
 exact ⟨es,clock,hb.trans h1,h2⟩
theorem MapAt.lt (h:MapAt P t ek ev w b l):b<w.heap.size:=by
 obtain ⟨es,clock,h1,_⟩:=h
 exact lt_of_block h1
theorem MapAt.on (h:MapAt P t ek ev w b l) (hb:Below w.heap.size w w'):MapAt P t ek ev w' b l:=h.later (hb.block _ h.lt)
theorem MapAt.kept {row:Option Nat} (h:MapAt P t ek ev w b l) (hg:w.grownBy w' row) (hne:some b≠row):MapAt P t ek ev w' b l:=h.later (hg.block b h.lt hne)
theorem MapAt.len (h:MapAt P t ek ev w b l):l.length≤maxLen:=by
 obtain ⟨es,clock,h1,h2,h3,h4,h5⟩:=h
 have:=congrArg List.length h4
 simp at this;omega
theorem MapAt.nodup (h:MapAt P t ek ev w b l):(l.map (·.1)).Nodup:=by
 obtain ⟨es,clock,h1,h2,h3,h4,h5⟩:=h
 have hn:=h3.2.2
 have e:es.toList.map (·.key)=(l.map (·.1)).map ek:=by
  have:=congrArg (List.map Prod.fst) h4
  rw [List.map_map,List.map_map] at this
  rw [List.map_map];exact this
 rw [e] at hn
 exact List.Pairwise.imp (fun h e=>h (by rw [e])) (List.pairwise_map.1 hn)
theorem pairs_at {es:Array MapEntry} (h4:es.toList.map (fun x=>(x.key,x.val))=l.map (fun p=>(ek p.1,ev p.2))) {j:Nat} {e:MapEntry} (h:es.toList[j]?=some e):∃p,l[j]?=some p∧e.key=ek p.1∧e.val=ev p.2:=by
 have:=congrArg (fun z=>z[j]?) h4
 simp only [List.getElem?_map,h,Option.map_some] at this
 cases hp:l[j]? with
 |none=>rw [hp] at this;cases this
 |some p =>
  rw [hp] at this
  simp only [Option.map_some,Option.some.injEq,Prod.mk.injEq] at this
  exact ⟨p,rfl,this⟩
theorem pairs_keys {es:Array MapEntry} (h4:es.toList.map (fun x=>(x.key,x.val))=l.map (fun p=>(ek p.1,ev p.2))) {p:κ × ν} (hp:p∈l):∃e∈es.toList,e.key=ek p.1∧e.val=ev p.2:=by
 have:(ek p.1,ev p.2)∈es.toList.map (fun x=>(x.key,x.val)):=by rw [h4];exact List.mem_map.2 ⟨p,hp,rfl⟩
 obtain ⟨e,he,h⟩:=List.mem_map.1 this
 simp only [Prod.mk.injEq] at h
 exact ⟨e,he,h⟩
theorem MapAt.find [DecidableEq κ] (h:MapAt P t ek ev w b l) (K:Keyed P t) (hinj:∀x y,ek x=ek y→x=y) (k:κ) (hk:∃kl,keyOf P t (ek k)=some kl) :
  ∃es clock,w.heap[b]?=some (.map es clock)∧((aget k l=none∧(Instr.findKey t (ek k) es.toList).run P w=.ok none w)∨∃j v,aget k l=some v∧(Instr.findKey t (ek k) es.toList).run P w=.ok (some (j,ev v)) w):=by
 have hn:=h.nodup
 obtain ⟨es,clock,h1,h2,h3,h4,h5⟩:=h
 obtain ⟨kl,hkl⟩:=hk
 have hkeys:∀e∈es.toList,∃l,keyOf P t e.key=some l:=fun e he=>by
  obtain ⟨j,hj⟩:=List.getElem?_of_mem he
  obtain ⟨p,hp,e1,_⟩:=pairs_at h4 hj
  rw [e1];exact h5 p (List.mem_of_getElem? hp)
 refine ⟨es,clock,h1,?_⟩
 rcases K.find w hkl es.toList hkeys with ⟨a,hno⟩ | ⟨j,e,a,hj,he⟩
 ·refine Or.inl ⟨aget_none.2 fun p hp e=>?_,a⟩
  obtain ⟨x,hx,e1,_⟩:=pairs_keys h4 hp
  exact hno x hx (by rw [e1,e])
 ·obtain ⟨p,hp,e1,e2⟩:=pairs_at h4 hj
  have hk:p.1=k:=hinj _ _ (by rw [←e1,he])
  refine Or.inr ⟨j,p.2,aget_of_mem hn ?_,by rw [a,e2]⟩
  subst hk
  exact List.mem_of_getElem? hp
theorem MapAt.look [DecidableEq κ] {T E:TypeId} {z:Value} (h:MapAt P t ek ev w b l) (K:Keyed P t) (hinj:∀x y,ek x=ek y→x=y) (hT:P.underlying T=some (.map t E)) (hz:(zeroValue E).run P w=.ok z w) (k:κ) (hk:∃kl,keyOf P t (ek k)=some kl) :
  (Instr.lookup T (.map (some b)) (ek k) false).run P w=.ok (((aget k l).map ev).getD z) w:=by
 obtain ⟨es,clock,h1,h2⟩:=h.find K hinj k hk
 obtain ⟨kl,hkl⟩:=hk
 rcases h2 with ⟨a,h2⟩ | ⟨j,v,a,h2⟩
 ·simp [Instr.lookup,run_underlying hT,MapKept.run_getObj_map h1,K.check w _ hkl,h2,a,hz,Result.andThen]
 ·simp [Instr.lookup,run_underlying hT,MapKept.run_getObj_map h1,K.check w _ hkl,h2,a,Result.andThen]
theorem MapAt.put [DecidableEq κ] {T E:TypeId} (h:MapAt P t ek ev w b l) (K:Keyed P t) (hinj:∀x y,ek x=ek y→x=y) (hT:P.underlying T=some (.map t E)) (hroom:l.length<maxLen) (k:κ) (hk:∃kl,keyOf P t (ek k)=some kl) (v:ν) :
  ∃w',(Instr.mapUpdate T (.map (some b)) (ek k) (ev v)).run P w=.ok () w'∧MapAt P t ek ev w' b (aput k v l)∧w.grownBy w' (some b):=by
 have hn:=h.nodup
 obtain ⟨es,clock,h1,h2,h3,h4,h5⟩:=h
 obtain ⟨kl,hkl⟩:=hk
 have hkeys:∀e∈es.toList,∃l,keyOf P t e.key=some l:=fun e he=>by
  obtain ⟨j,hj⟩:=List.getElem?_of_mem he
  obtain ⟨p,hp,e1,_⟩:=pairs_at h4 hj
  rw [e1];exact h5 p (List.mem_of_getElem? hp)
 have hlen:es.size=l.length:=by have:=congrArg List.length h4;simpa using this
 have good:∀p∈aput k v l,∃kl,keyOf P t (ek p.1)=some kl:=fun p hp=>by
  rcases mem_aput hp with rfl | hp
  ·exact ⟨kl,hkl⟩
  ·exact h5 p hp
 have grown:∀o:Obj,w.grownBy (setBlock w b o) (some b):=fun o=>⟨rfl,rfl,rfl,by simp [setBlock],fun i _ hi=>heap_setBlock_other h1 _ (fun e=>hi (by rw [e]))⟩
 rcases K.find w hkl es.toList hkeys with ⟨a,hno⟩ | ⟨j,e,a,hj,he⟩
 ·refine ⟨setBlock w b (.map (es.push ⟨ek k,ev v,clock⟩) (clock+1)),?_,⟨_,_,heap_setBlock_same h1 _,by simp;omega,stamped_push h3 hno,?_,good⟩,grown _⟩
  ·simp [Instr.mapUpdate,run_underlying hT,MapKept.run_getObj_map h1,K.check w false hkl,a,MapKept.run_setObj_map _ h1,Result.andThen,setBlock]
  ·rw [aput_absent (fun p hp e=>?_)]
   ·simp [h4]
   ·obtain ⟨x,hx,e1,_⟩:=pairs_keys h4 hp
    exact hno x hx (by rw [e1,e])
 ·obtain ⟨p,hp,e1,e2⟩:=pairs_at h4 hj
  have hk:p.1=k:=hinj _ _ (by rw [←e1,he])
  have hj':es[j]?=some e:=by simpa using hj
  have hkeyf:∀e',es[j]?=some e'→({ e' with key:=ek k,val:=ev v }:MapEntry).key=e'.key:=fun e' he'=>by rw [hj'] at he';cases he';exact he.symm
  refine ⟨setBlock w b (.map (es.modify j fun e'=>{ e' with key:=ek k,val:=ev v }) clock),?_,⟨_,_,heap_setBlock_same h1 _,by simpa using h2,stamped_modify h3 _ _ (fun _ _=>rfl) (fun e' _ he'=>hkeyf e' he'),?_,good⟩,grown _⟩
  ·simp [Instr.mapUpdate,run_underlying hT,MapKept.run_getObj_map h1,K.check w false hkl,a,hj',he,K.stays w hkl,MapKept.run_setObj_map _ h1,Result.andThen,setBlock]
  ·rw [aput_at hn hp hk,Array.toList_modify,modify_eq_set _ _ _ _ hj,List.map_set,List.map_set,h4]
theorem find_born_at {es:Array MapEntry} (hn:(es.toList.map (·.born)).Nodup) {j:Nat} {e:MapEntry} (hj:es[j]?=some e) (st:Int) (hst:(e.born:Int)=st):es.findIdx? (fun x=>(x.born:Int)==st)=some j:=by
 obtain ⟨hlt,he⟩:=Array.getElem?_eq_some_iff.1 hj
 refine Array.findIdx?_eq_some_iff_getElem.2 ⟨hlt,by rw [he];simp [hst],fun i hi=>?_⟩
 intro hc
 simp only [beq_iff_eq] at hc
 have hb:(es[i]'(by omega)).born=es[j].born:=by rw [he];omega
 have:=(List.pairwise_iff_getElem.1 hn) i j (by simp;omega) (by simpa using hlt) hi
 simp only [List.getElem_map,Array.getElem_toList] at this
 exact this hb
theorem MapAt.entry [DecidableEq κ] {T E:TypeId} {z:Value} (h:MapAt P t ek ev w b l) (K:Keyed P t) (hinj:∀x y,ek x=ek y→x=y) (hT:P.underlying T=some (.map t E)) (hz:(zeroValue E).run P w=.ok z w) (hroom:l.length<maxLen)
  (k:κ) (hk:∃kl,keyOf P t (ek k)=some kl) :
  ∃(w1:World) (st:Int),(Instr.mapEntry T (.map (some b)) (ek k)).run P w=.ok (.tuple #[((aget k l).map ev).getD z,.int .i64 st]) w1∧w.grownBy w1 (some b)∧w1.heap.size=w.heap.size ∧
   ∀(w2:World) (v:ν),w2.heap[b]?=w1.heap[b]?→∃w3,(Instr.entryStore T (.map (some b)) (.int .i64 st) (ev v)).run P w2=.ok () w3∧MapAt P t ek ev w3 b (aput k v l)∧w2.grownBy w3 (some b):=by
 have hn:=h.nodup
 obtain ⟨es,clock,h1,h2,h3,h4,h5⟩:=h
 obtain ⟨kl,hkl⟩:=hk
 have hkeys:∀e∈es.toList,∃l,keyOf P t e.key=some l:=fun e he=>by
  obtain ⟨j,hj⟩:=List.getElem?_of_mem he
  obtain ⟨p,hp,e1,_⟩:=pairs_at h4 hj
  rw [e1];exact h5 p (List.mem_of_getElem? hp)
 have hlen:es.size=l.length:=by have:=congrArg List.length h4;simpa using this
 have good:∀v,∀p∈aput k v l,∃kl,keyOf P t (ek p.1)=some kl:=fun v p hp=>by
  rcases mem_aput hp with rfl | hp
  ·exact ⟨kl,hkl⟩
  ·exact h5 p hp
 have grown:∀{w:World} {es:Array MapEntry} {clock:Nat},w.heap[b]?=some (.map es clock)→∀o:Obj,w.grownBy (setBlock w b o) (some b):=fun h1 o=>⟨rfl,rfl,rfl,by simp [setBlock],fun i _ hi=>heap_setBlock_other h1 _ (fun e=>hi (by rw [e]))⟩
 rcases K.find w hkl es.toList hkeys with ⟨a,hno⟩ | ⟨j,e,a,hj,he⟩
 ·have habs:∀p∈l,p.1≠k:=fun p hp e=>by
   obtain ⟨x,hx,e1,_⟩:=pairs_keys h4 hp
   exact hno x hx (by rw [e1,e])
  have hst:=stamped_push (val:=z) h3 hno
  have hj':(es.push ⟨ek k,z,clock⟩)[es.size]?=some ⟨ek k,z,clock⟩:=by simp
  refine ⟨setBlock w b (.map (es.push ⟨ek k,z,clock⟩) (clock+1)),clock,?_,grown h1 _,by simp [setBlock],fun w2 v hw2=>?_⟩
  ·simp [Instr.mapEntry,run_underlying hT,MapKept.run_getObj_map h1,K.check w false hkl,a,hz,aget_none.2 habs,MapKept.run_setObj_map _ h1,Result.andThen,setBlock,goInt]
  ·have hb2:w2.heap[b]?=some (.map (es.push ⟨ek k,z,clock⟩) (clock+1)):=hw2.trans (heap_setBlock_same h1 _)
   have hf:=find_born_at hst.2.1 hj' (clock:Int) rfl
   refine ⟨setBlock w2 b (.map ((es.push ⟨ek k,z,clock⟩).modify es.size fun e'=>{ e' with val:=ev v }) (clock+1)),?_,⟨_,_,heap_setBlock_same hb2 _,by simp;omega,stamped_modify hst _ _ (fun _ _=>rfl) (fun _ _ _=>rfl),?_,good v⟩,grown hb2 _⟩
   ·simp [Instr.entryStore,MapKept.run_getObj_map hb2,asInt,asIntOf,hf,MapKept.run_setObj_map _ hb2,Result.andThen,setBlock]
   ·rw [aput_absent habs,Array.toList_modify,modify_eq_set _ _ _ _ (by rw [Array.getElem?_toList];exact hj')]
    simp [h4]
 ·obtain ⟨p,hp,e1,e2⟩:=pairs_at h4 hj
  have hk:p.1=k:=hinj _ _ (by rw [←e1,he])
  have hget:aget k l=some p.2:=aget_of_mem hn (by subst hk;exact List.mem_of_getElem? hp)
  have hj':es[j]?=some e:=by simpa using hj
  have hkeyf:∀e',es[j]?=some e'→({ e' with key:=ek k }:MapEntry).key=e'.key:=fun e' he'=>by rw [hj'] at he';cases he';exact he.symm
  have hst:=stamped_modify h3 j (fun e'=>{ e' with key:=ek k }) (fun _ _=>rfl) (fun e' _ he'=>hkeyf e' he')
  have hl':(es.modify j fun e'=>{ e' with key:=ek k }).toList=es.toList.set j { e with key:=ek k }:=by rw [Array.toList_modify,modify_eq_set _ _ _ _ hj]
  have hj2:(es.modify j fun e'=>{ e' with key:=ek k })[j]?=some { e with key:=ek k }:=by
   rw [←Array.getElem?_toList,hl']
   have:=(List.getElem?_eq_some_iff.1 hj).1
   simp at this
   simp [this]
  refine ⟨setBlock w b (.map (es.modify j fun e'=>{ e' with key:=ek k }) clock),e.born,?_,grown h1 _,by simp [setBlock],fun w2 v hw2=>?_⟩
  ·simp [Instr.mapEntry,run_underlying hT,MapKept.run_getObj_map h1,K.check w false hkl,a,hj',he,K.stays w hkl,hget,e2,MapKept.run_setObj_map _ h1,Result.andThen,setBlock,goInt]
  ·have hb2:w2.heap[b]?=some (.map (es.modify j fun e'=>{ e' with key:=ek k }) clock):=hw2.trans (heap_setBlock_same h1 _)
   have hf:=find_born_at hst.2.1 hj2 (e.born:Int) rfl
   refine ⟨setBlock w2 b (.map ((es.modify j fun e'=>{ e' with key:=ek k }).modify j fun e'=>{ e' with val:=ev v }) clock),?_,⟨_,_,heap_setBlock_same hb2 _,by simpa using h2,stamped_modify hst _ _ (fun _ _=>rfl) (fun _ _ _=>rfl),?_,good v⟩,grown hb2 _⟩
   ·simp [Instr.entryStore,MapKept.run_getObj_map hb2,asInt,asIntOf,hf,MapKept.run_setObj_map _ hb2,Result.andThen,setBlock]
   ·rw [aput_at hn hp hk,Array.toList_modify,modify_eq_set _ _ _ _ (by rw [Array.getElem?_toList];exact hj2),hl',List.set_set,List.map_set,List.map_set,h4]
def RangeAt (ek:κ→Value) (ev:ν→Value) (w:World) (b r:Nat) (l done todo:List (κ × ν)):Prop :=
 ∃es clock seen c0,w.heap[b]?=some (.map es clock)∧Stamped es clock∧es.toList.map (fun x=>(x.key,x.val))=l.map (fun p=>(ek p.1,ev p.2)) ∧
  w.heap[r]?=some (.mapIter (some b) clock seen c0)∧clock≤c0∧(leftOf es seen).toList.map (fun x=>(x.key,x.val))=todo.map (fun p=>(ek p.1,ev p.2))∧l.Perm (done++todo)
theorem RangeAt.ne {r:Nat} {done todo:List (κ × ν)} (h:RangeAt ek ev w b r l done todo):r≠b:=by
 obtain ⟨es,clock,seen,c0,h1,_,_,h2,_⟩:=h
 intro e
 rw [e,h1] at h2;cases h2
theorem RangeAt.lt {r:Nat} {done todo:List (κ × ν)} (h:RangeAt ek ev w b r l done todo):b<w.heap.size∧r<w.heap.size:=by
 obtain ⟨es,clock,seen,c0,h1,_,_,h2,_⟩:=h
 exact ⟨lt_of_block h1,lt_of_block h2⟩
theorem RangeAt.later {r:Nat} {done todo:List (κ × ν)} (h:RangeAt ek ev w b r l done todo) (hb:w'.heap[b]?=w.heap[b]?) (hr:w'.heap[r]?=w.heap[r]?):RangeAt ek ev w' b r l done todo:=by
 obtain ⟨es,clock,seen,c0,h1,h2,h3,h4,h5⟩:=h
 exact ⟨es,clock,seen,c0,hb.trans h1,h2,h3,hr.trans h4,h5⟩
theorem RangeAt.on {r:Nat} {done todo:List (κ × ν)} (h:RangeAt ek ev w b r l done todo) (hb:Below w.heap.size w w'):RangeAt ek ev w' b r l done todo:=h.later (hb.block _ h.lt.1) (hb.block _ h.lt.2)
theorem RangeAt.kept {r:Nat} {done todo:List (κ × ν)} {row:Option Nat} (h:RangeAt ek ev w b r l done todo) (hg:w.grownBy w' row) (hb:some b≠row) (hr:some r≠row):RangeAt ek ev w' b r l done todo :=
 h.later (hg.block b h.lt.1 hb) (hg.block r h.lt.2 hr)
theorem MapAt.range {T E:TypeId} (h:MapAt P t ek ev w b l) (hT:P.underlying T=some (.map t E)) :
  ∃w',(Instr.range T (.map (some b))).run P w=.ok (.pointer (some ⟨w.heap.size,0,none⟩)) w'∧RangeAt ek ev w' b w.heap.size l [] l∧w.grownBy w' none∧w'.heap.size=w.heap.size+1:=by
 have hlt:=h.lt
 obtain ⟨es,clock,h1,h2,h3,h4,h5⟩:=h
 refine ⟨_,run_range_map w T t E b es clock hT h1,⟨es,clock,#[],clock,((MapKept.heap_alloc w _).2 b hlt).trans h1,h3,h4,(MapKept.heap_alloc w _).1,Nat.le_refl _,?_,List.Perm.refl _⟩,World.grownBy_alloc w _ none,by simp⟩
 have:leftOf es #[]=es:=by
  unfold leftOf
  exact Array.filter_eq_self.2 (fun x _=>by simp)
 rw [this,h4]
theorem left_push {es:Array MapEntry} {seen:Array Nat} {e:MapEntry} {todo:List (κ × ν)} (hn:(es.toList.map (·.born)).Nodup) (he:e∈(leftOf es seen).toList)
  (h:(leftOf es seen).toList.map (fun x=>(x.key,x.val))=todo.map (fun p=>(ek p.1,ev p.2))) :
  ∃p todo',e.key=ek p.1∧e.val=ev p.2∧(leftOf es (seen.push e.born)).toList.map (fun x=>(x.key,x.val))=todo'.map (fun p=>(ek p.1,ev p.2))∧todo.Perm (p :: todo'):=by
 have e2:(leftOf es (seen.push e.born)).toList=(leftOf es seen).toList.filter (fun x=>!(x.born==e.born)):=by
  unfold leftOf
  rw [Array.toList_filter,Array.toList_filter,List.filter_filter]
  refine List.filter_congr fun x _=>?_
  rw [contains_push]
  cases seen.contains x.born<;>cases (x.born==e.born)<;>rfl
 have hn':((leftOf es seen).toList.map (·.born)).Nodup:=by
  have:(leftOf es seen).toList=es.toList.filter (fun x=>!seen.contains x.born):=by unfold leftOf;rw [Array.toList_filter]
  rw [this]
  exact hn.sublist ((List.filter_sublist).map _)
 rw [e2]
 clear e2 hn
 generalize (leftOf es seen).toList=L at *
 induction L generalizing todo with
 |nil=>cases he
 |cons x L ih =>
  cases todo with
  |nil=>simp at h
  |cons p todo =>
   simp only [List.map_cons,List.cons.injEq,Prod.mk.injEq] at h
   rw [List.map_cons,List.nodup_cons] at hn'
   rcases List.mem_cons.1 he with rfl | he
   ·refine ⟨p,todo,h.1.1,h.1.2,?_,List.Perm.refl _⟩
    rw [List.filter_cons_of_neg (by simp),List.filter_eq_self.2 (fun y hy=>?_)]
    ·exact h.2
    ·have:y.born≠e.born:=fun c=>hn'.1 (List.mem_map.2 ⟨y,hy,c⟩)
     simp [this]
   ·obtain ⟨q,todo',a1,a2,a3,a4⟩:=ih he h.2 hn'.2
    refine ⟨q,p :: todo',a1,a2,?_,((List.Perm.cons p a4).trans (List.Perm.swap q p todo'))⟩
    have hne:x.born≠e.born:=fun c=>hn'.1 (by rw [c];exact List.mem_map.2 ⟨e,he,rfl⟩)
    rw [List.filter_cons_of_pos (by simp [hne]),List.map_cons,List.map_cons,a3,h.1.1,h.1.2]
theorem RangeAt.left {r:Nat} {done todo:List (κ × ν)} (h:RangeAt ek ev w b r l done todo):w.rangeLeft b r=todo.length:=by
 obtain ⟨es,clock,seen,c0,hb,hst,h4,hr,hsc,h5,h6⟩:=h
 have:=congrArg List.length h5
 simp only [World.rangeLeft,hb,hr]
 simpa using this
theorem RangeAt.next {r:Nat} {done todo:List (κ × ν)} (h:RangeAt ek ev w b r l done todo) :
  (todo=[]∧l.Perm done∧∀ty,(Instr.next (.pointer (some ⟨r,0,none⟩)) false ty).run P w=.ok (.tuple #[.bool false]) w) ∨
  ∃p todo' w',todo.Perm (p :: todo')∧(∀ty,(Instr.next (.pointer (some ⟨r,0,none⟩)) false ty).run P w=.ok (.tuple #[.bool true,ek p.1,ev p.2]) w')∧RangeAt ek ev w' b r l (done++[p]) todo' ∧
   w.grownBy w' (some r)∧w'.heap.size=w.heap.size∧(Instr.entry (.pointer (some ⟨r,0,none⟩))).run P w'=.ok (.tuple #[ek p.1,ev p.2]) w':=by
 have hne:=h.ne
 obtain ⟨es,clock,seen,c0,hb,hst,h4,hr,hsc,h5,h6⟩:=h
 rcases run_next_at (P:=P) w 0 r b clock c0 seen es clock hr hb hst.1 hsc with ⟨h0,hrun⟩ | ⟨e,he,w1,hal,hrun⟩
 ·have:todo=[]:=by
   have:=congrArg List.length h5
   simp [h0] at this
   exact List.length_eq_zero_iff.1 this.symm
  subst this
  exact Or.inl ⟨rfl,by simpa using h6,fun _=>hrun⟩
 ·obtain ⟨p,todo',e1,e2,e3,e4⟩:=left_push hst.2.1 he h5
  obtain ⟨hem,hes⟩:=mem_left he
  have hr1:w1.heap[r]?=some (.mapIter (some b) clock seen c0):=by rcases hal with rfl | rfl<;>exact hr
  have hb1:w1.heap[b]?=some (.map es clock):=by rcases hal with rfl | rfl<;>exact hb
  have hset:=heap_set (o':=.mapIter (some b) clock (seen.push e.born) clock) hr1
  have hb':(setBlock w1 r (.mapIter (some b) clock (seen.push e.born) clock)).heap[b]?=some (.map es clock):=(hset.2 b (fun e1=>hne e1.symm)).trans hb1
  rw [e1,e2] at hrun
  refine Or.inr ⟨p,todo',_,e4,fun _=>hrun,⟨es,clock,seen.push e.born,clock,hb',hst,h4,hset.1,Nat.le_refl _,e3,?_⟩,?_,?_,?_⟩
  ·rw [List.append_assoc]
   exact h6.trans (List.Perm.append_left done (e4.trans (by simp)))
  ·rcases hal with rfl | rfl<;>exact ⟨rfl,rfl,rfl,by simp [setBlock],fun i _ hi=>hset.2 i (fun e1=>hi (by rw [e1]))⟩
  ·rcases hal with rfl | rfl<;>simp [setBlock]
  ·rw [←e1,←e2]
   exact run_entry_at _ r b clock seen es clock e hset.1 hb' hem hst.2.1
end
end Go.Proofs.YtdfenhjibnfdeaaGreatDoor

namespace Go.Proofs.YtdfenhjibnfdeaaGreatDoor
open Go.RowKit Go.Shelf Go.Maps Go.ChangeMaps
theorem keyQ:Keyed Tryz.prog 9:=string_keyed Tryz.underlying9
theorem strQ_inj:∀x y:ByteArray,Value.string x=Value.string y→x=y:=fun x y h=>by injection h
theorem strQ_keyOf {s:ByteArray} (h:s.size≤140737488355328):∃kl,keyOf Tryz.prog 9 (.string s)=some kl:=⟨_,WideMaps.keyOf_string_mk Tryz.underlying9 (by unfold maxLen;omega)⟩
def wordN (s:ByteArray):Nat:=if s=wAll then 1 else if s=wInside then 2 else if s=wAlong then 3 else if s=wNearest then 4 else if s=wReach then 5 else if s=wCount then 6 else 0
theorem askP_word (fin:Nat) (t:TokD) (r:List TokD) (hk:t.kind=1) (hw:wordN t.text≠0):askP fin (t :: r)=askR fin (wordN t.text) r:=by
 unfold wordN at hw ⊢
 unfold askP
 simp only [if_pos hk]
 by_cases h1:t.text=wAll
 ·rw [if_pos h1,if_pos h1];rfl
 rw [if_neg h1,if_neg h1]
 by_cases h2:t.text=wInside
 ·rw [if_pos h2,if_pos h2];rfl
 rw [if_neg h2,if_neg h2]
 by_cases h3:t.text=wAlong
 ·rw [if_pos h3,if_pos h3];rfl
 rw [if_neg h3,if_neg h3]
 by_cases h4:t.text=wNearest
 ·rw [if_pos h4,if_pos h4];rfl
 rw [if_neg h4,if_neg h4]
 by_cases h5:t.text=wReach
 ·rw [if_pos h5,if_pos h5];rfl
 rw [if_neg h5,if_neg h5]
 by_cases h6:t.text=wCount
 ·rw [if_pos h6,if_pos h6];rfl
 rw [if_neg h1,if_neg h2,if_neg h3,if_neg h4,if_neg h5,if_neg h6] at hw
 exact absurd rfl hw
theorem askP_none (fin:Nat) (t:TokD) (r:List TokD) (hk:t.kind=1) (hw:wordN t.text=0):askP fin (t :: r)=.bad 5 t.off:=by
 unfold wordN at hw
 unfold askP
 simp only [if_pos hk]
 by_cases h1:t.text=wAll
 ·rw [if_pos h1] at hw;cases hw
 rw [if_neg h1] at hw ⊢
 by_cases h2:t.text=wInside
 ·rw [if_pos h2] at hw;cases hw
 rw [if_neg h2] at hw ⊢
 by_cases h3:t.text=wAlong
 ·rw [if_pos h3] at hw;cases hw
 rw [if_neg h3] at hw ⊢
 by_cases h4:t.text=wNearest
 ·rw [if_pos h4] at hw;cases hw
 rw [if_neg h4] at hw ⊢
 by_cases h5:t.text=wReach
 ·rw [if_pos h5] at hw;cases hw
 rw [if_neg h5] at hw ⊢
 by_cases h6:t.text=wCount
 ·rw [if_pos h6] at hw;cases hw
 rw [if_neg h6]
def askF (bx qb:Nat):Nat→Value
 |1=>.func (.func 90) #[] #[.pointer (some ⟨qb,0,none⟩)]
 |2=>.func (.func 91) #[] #[.pointer (some ⟨bx,0,none⟩),.pointer (some ⟨qb,0,none⟩)]
 |3=>.func (.func 93) #[] #[.pointer (some ⟨bx,0,none⟩),.pointer (some ⟨qb,0,none⟩)]
 |4=>.func (.func 96) #[] #[.pointer (some ⟨bx,0,none⟩),.pointer (some ⟨qb,0,none⟩)]
 |5=>.func (.func 97) #[] #[.pointer (some ⟨bx,0,none⟩),.pointer (some ⟨qb,0,none⟩)]
 |6=>.func (.func 98) #[] #[.pointer (some ⟨bx,0,none⟩),.pointer (some ⟨qb,0,none⟩)]
 |_=>.nilFunc
def partsL (bx qb:Nat):List (ByteArray × Value):=[(wAll,askF bx qb 1),(wInside,askF bx qb 2),(wAlong,askF bx qb 3),(wNearest,askF bx qb 4),(wReach,askF bx qb 5),(wCount,askF bx qb 6)]
theorem parts_get (bx qb:Nat) (s:ByteArray):((aget s (partsL bx qb)).map id).getD .nilFunc=askF bx qb (wordN s):=by
 unfold partsL wordN
 simp only [aget]
 by_cases h:s=wAll
 ·subst h;rfl
 rw [if_neg fun e=>h e.symm,if_neg h]
 clear h
 by_cases h:s=wInside
 ·subst h;rfl
 rw [if_neg fun e=>h e.symm,if_neg h]
 clear h
 by_cases h:s=wAlong
 ·subst h;rfl
 rw [if_neg fun e=>h e.symm,if_neg h]
 clear h
 by_cases h:s=wNearest
 ·subst h;rfl
 rw [if_neg fun e=>h e.symm,if_neg h]
 clear h
 by_cases h:s=wReach
 ·subst h;rfl
 rw [if_neg fun e=>h e.symm,if_neg h]
 clear h
 by_cases h:s=wCount
 ·subst h;rfl
 rw [if_neg fun e=>h e.symm,if_neg h]
 clear h
 rfl
theorem wordN_name {s:ByteArray} (h:wordN s≠0):nameB s=true:=by
 unfold wordN at h
 by_cases h1:s=wAll
 ·rw [h1];decide +kernel
 rw [if_neg h1] at h
 clear h1
 by_cases h1:s=wInside
 ·rw [h1];decide +kernel
 rw [if_neg h1] at h
 clear h1
 by_cases h1:s=wAlong
 ·rw [h1];decide +kernel
 rw [if_neg h1] at h
 clear h1
 by_cases h1:s=wNearest
 ·rw [h1];decide +kernel
 rw [if_neg h1] at h
 clear h1
 by_cases h1:s=wReach
 ·rw [h1];decide +kernel
 rw [if_neg h1] at h
 clear h1
 by_cases h1:s=wCount
 ·rw [h1];decide +kernel
 rw [if_neg h1] at h
 clear h1
 exact absurd rfl h
abbrev PMap (w:World) (b:Nat) (l:List (ByteArray × Value)):Prop:=MapAt Tryz.prog 9 Value.string id w b l
theorem zeroFn (w:World):(zeroValue 1).run Tryz.prog w=.ok .nilFunc w:=by kernel_rfl
theorem PMap.look {w:World} {b bx qb:Nat} (h:PMap w b (partsL bx qb)) (s:ByteArray) (hs:s.size≤140737488355328):(Instr.lookup 128 (.map (some b)) (.string s) false).run Tryz.prog w=.ok (askF bx qb (wordN s)) w:=by
 have:=MapAt.look h keyQ strQ_inj Tryz.underlying128 (zeroFn w) s (strQ_keyOf hs)
 rw [parts_get] at this
 exact this
theorem PMap.put {w:World} {b:Nat} {l:List (ByteArray × Value)} (h:PMap w b l) (hl:l.length≤6) (k:ByteArray) (hk:k.size≤100) (hn:∀p∈l,p.1≠k) (v:Value) :
  ∃w',(Instr.mapUpdate 128 (.map (some b)) (.string k) v).run Tryz.prog w=.ok () w'∧PMap w' b (l++[(k,v)])∧w.grownBy w' (some b):=by
 obtain ⟨w',h1,h2,h3⟩:=MapAt.put h keyQ strQ_inj Tryz.underlying128 (by unfold maxLen;omega) k (strQ_keyOf (by omega)) v
 rw [aput_absent hn] at h2
 exact ⟨w',h1,h2,h3⟩
theorem parts_made (w:World) (bx qb:Nat):∃w1 w2 w3 w4 w5 w6,(Instr.mapUpdate 128 (.map (some w.heap.size)) (.string ⟨#[97,108,108]⟩) (askF bx qb 1)).run Tryz.prog (w.alloc (.map #[] 0))=.ok () w1∧(Instr.mapUpdate 128 (.map (some w.heap.size)) (.string ⟨#[105,110,115,105,100,101]⟩) (askF bx qb 2)).run Tryz.prog (w1)=.ok () w2∧(Instr.mapUpdate 128 (.map (some w.heap.size)) (.string ⟨#[97,108,111,110,103]⟩) (askF bx qb 3)).run Tryz.prog (w2)=.ok () w3∧(Instr.mapUpdate 128 (.map (some w.heap.size)) (.string ⟨#[110,101,97,114,101,115,116]⟩) (askF bx qb 4)).run Tryz.prog (w3)=.ok () w4∧(Instr.mapUpdate 128 (.map (some w.heap.size)) (.string ⟨#[114,101,97,99,104]⟩) (askF bx qb 5)).run Tryz.prog (w4)=.ok () w5∧(Instr.mapUpdate 128 (.map (some w.heap.size)) (.string ⟨#[99,111,117,110,116]⟩) (askF bx qb 6)).run Tryz.prog (w5)=.ok () w6∧PMap w6 w.heap.size (partsL bx qb)∧Below w.heap.size w w6∧w.heap.size<w6.heap.size:=by
 have h0:PMap (w.alloc (.map #[] 0)) w.heap.size []:=MapAt.made _ _ _ _ w
 obtain ⟨w1,r1,h1,g1⟩:=h0.put (by simp) wAll (by decide) (by intro p hp;cases hp) (askF bx qb 1)
 obtain ⟨w2,r2,h2,g2⟩:=h1.put (by simp) wInside (by decide) (by intro p hp;simp only [List.nil_append,List.mem_cons,List.not_mem_nil,or_false] at hp;subst hp;simp only;decide) (askF bx qb 2)
 obtain ⟨w3,r3,h3,g3⟩:=h2.put (by simp) wAlong (by decide) (by intro p hp;simp only [List.nil_append,List.cons_append,List.mem_cons,List.not_mem_nil,or_false] at hp;rcases hp with rfl | rfl<;>simp only<;>decide) (askF bx qb 3)
 obtain ⟨w4,r4,h4,g4⟩:=h3.put (by simp) wNearest (by decide) (by intro p hp;simp only [List.nil_append,List.cons_append,List.mem_cons,List.not_mem_nil,or_false] at hp;rcases hp with rfl | rfl | rfl<;>simp only<;>decide) (askF bx qb 4)
 obtain ⟨w5,r5,h5,g5⟩:=h4.put (by simp) wReach (by decide) (by intro p hp;simp only [List.nil_append,List.cons_append,List.mem_cons,List.not_mem_nil,or_false] at hp;rcases hp with rfl | rfl | rfl | rfl<;>simp only<;>decide) (askF bx qb 5)
 obtain ⟨w6,r6,h6,g6⟩:=h5.put (by simp) wCount (by decide) (by intro p hp;simp only [List.nil_append,List.cons_append,List.mem_cons,List.not_mem_nil,or_false] at hp;rcases hp with rfl | rfl | rfl | rfl | rfl<;>simp only<;>decide) (askF bx qb 6)
 have b0:Below w.heap.size w (w.alloc (.map #[] 0)):=(Below.refl _ w).alloc (Nat.le_refl _) _
 have b1:=b0.grown g1 (by have:=b0.size;omega) (fun j e=>by injection e with e;omega)
 have b2:=b1.grown g2 (by have:=b1.size;omega) (fun j e=>by injection e with e;omega)
 have b3:=b2.grown g3 (by have:=b2.size;omega) (fun j e=>by injection e with e;omega)
 have b4:=b3.grown g4 (by have:=b3.size;omega) (fun j e=>by injection e with e;omega)
 have b5:=b4.grown g5 (by have:=b4.size;omega) (fun j e=>by injection e with e;omega)
 have b6:=b5.grown g6 (by have:=b5.size;omega) (fun j e=>by injection e with e;omega)
 exact ⟨w1,w2,w3,w4,w5,w6,r1,r2,r3,r4,r5,r6,h6,b6,h6.lt⟩
end Go.Proofs.YtdfenhjibnfdeaaGreatDoor
