/-    -/
import Derived.Test.YtdfenhjibnfdeaaGreatDoorQzAm
import Derived.Test.YtdfenhjibnfdeaaGreatDoorQzAk
import Derived.LoopN
import Derived.Test.YtdfenhjibnfdeaaGreatDoorQzAe
import Derived.Sort.Walk0
import Derived.Sort.LotA
import Derived.Test.YtdfenhjibnfdeaaGreatDoorQzAl
import Derived.Laws.EntriesVeiled
namespace Go.Proofs.YtdfenhjibnfdeaaGreatDoor
open Go.RowKit
def objsFrom:ByteArray→List ObjD→Bool
 |_,[]=>true
 |last,o :: l=>objOK o && ltB last o.id && objsFrom o.id l
def mapOK (l:List ObjD):Bool:=decide (l.length≤1000000) && objsFrom ⟨#[]⟩ l
theorem objsFrom_drop (ls:ByteArray) (l:List ObjD) (k:Nat) (o:ObjD) (ho:l[k]?=some o):objsFrom ls (l.drop k)=(objOK o && ltB ls o.id && objsFrom o.id (l.drop (k+1))):=by
 obtain ⟨hk,rfl⟩:=List.getElem?_eq_some_iff.1 ho
 rw [List.drop_eq_getElem_cons hk];rfl
set_option maxRecDepth 100000 in
set_option maxHeartbeats 2000000 in
theorem validM_any (v:Value) (l:List ObjD) (w:World) (hv:ObjsIs w v l) :
  Calls Tryz.prog 55 #[.agg #[v]] w fun e w'=>e=.returned (.bool (mapOK l))∧Below w.heap.size w w':=by
 obtain ⟨a,cap,rfl,hn,hc⟩:=hv
 generalize hN:l.length=N at *
 have HN:=Lib.hid hN
 have HC:=Lib.hid hc
 have VD:=Lib.hid (fun (o:ObjD) (vr vt:Value) w h1 h2 h3=>validO_any o.id o.kind o.x o.y vr vt o.refs o.tags w h1 h2 h3)
 clear hN hc
 go_enter Tryz.func55,Tryz.ntmps55
 go_wp2_with fail
 have B1:Below w.heap.size w (w.alloc (.cells #[.slice a N cap] 62)):=(Below.refl _ w).alloc (Nat.le_refl _) _
 have HM:=row_new w (.cells #[.slice a N cap] 62)
 generalize hw1:w.alloc (.cells #[.slice a N cap] 62)=w1
 rw [hw1] at B1 HM
 clear hw1
 have HMh:=Lib.hid HM
 obtain ⟨mz,m0⟩:=rk1 HM
 have HM':=Lib.hid HM
 clear HM
 go_wp2
 clear m0
 go_loopw [3,9] (fun s i wr=>∃(k:Nat) (ls:ByteArray),s=.string ls∧k≤N∧i=.int .i64 k∧objsFrom ⟨#[]⟩ l=objsFrom ls (l.drop k)∧Below w1.heap.size w1 wr) (fun _ i _=>N - (intOf i).toNat)
 case atStart=>exact ⟨0,⟨#[]⟩,rfl,by omega,rfl,rfl,Below.refl _ _⟩
 case round =>
  obtain ⟨k,ls,rfl,hk,rfl,hT,hbr⟩:=hrel
  have HT:=Lib.hid hT
  clear hT
  by_cases hlt:k<N
  ·obtain ⟨o,ho⟩:∃o,l[k]?=some o:=⟨l[k]'(by rw [HN.out];exact hlt),List.getElem?_eq_getElem _⟩
   obtain ⟨b,off,ha,hcell⟩:=HC.out (by omega)
   subst ha
   obtain ⟨vr,vt,c0,c1,c2,c3,c4,c5,hr,ht,hz⟩:=((hcell k o ho).later B1).later hbr
   have HR:=Lib.hid hr
   have HTG:=Lib.hid ht
   obtain ⟨ar,capr,evr,_⟩:=hr
   obtain ⟨at1,capt,evt,_⟩:=ht
   subst evr evt
   have HD:=Lib.hid (objsFrom_drop ls l k o ho)
   have bz:=lt_of_cell c0
   clear hcell ho
   go_wp2_with fail
   have BA:Below w1.heap.size w1 (wr.alloc (.cells #[.string o.id,.int .i64 o.kind,.int .i64 o.x,.int .i64 o.y,.slice ar o.refs.length capr,.slice at1 o.tags.length capt] 50)):=hbr.alloc hbr.size _
   have BA':Below wr.heap.size wr (wr.alloc (.cells #[.string o.id,.int .i64 o.kind,.int .i64 o.x,.int .i64 o.y,.slice ar o.refs.length capr,.slice at1 o.tags.length capt] 50)):=(Below.refl _ wr).alloc (Nat.le_refl _) _
   have HX:=row_new wr (.cells #[.string o.id,.int .i64 o.kind,.int .i64 o.x,.int .i64 o.y,.slice ar o.refs.length capr,.slice at1 o.tags.length capt] 50)
   generalize hwa:wr.alloc (.cells #[.string o.id,.int .i64 o.kind,.int .i64 o.x,.int .i64 o.y,.slice ar o.refs.length capr,.slice at1 o.tags.length capt] 50)=wa
   rw [hwa] at BA BA' HX
   clear hwa c0 c1 c2 c3 c4 c5
   refine (VD.out o _ _ _ hz (HR.out.later BA') (HTG.out.later BA')).mono ?_
   rintro e w2 ⟨rfl,hb2⟩
   have B2:=below_step BA (Nat.le_refl _) hb2
   have HX2:=row_later hb2 HX
   clear HX BA BA' hb2
   obtain ⟨xz,x0,x1,x2,x3,x4,x5⟩:=rk6 HX2
   have HX2':=Lib.hid HX2
   clear HX2
   cases hok:objOK o
   case false =>
    have HE:=Lib.hid (show mapOK l=false by unfold mapOK;rw [HT.out,HD.out,hok];simp)
    clear hok
    go_wp2
    go_ret
    exact ⟨ret_bool HE.out.symm,below_step B1 (Nat.le_refl _) B2⟩
   have LQ:=leqB o.id ls
   cases hlt2:ltB ls o.id
   case false =>
    have HE:=Lib.hid (show mapOK l=false by unfold mapOK;rw [HT.out,HD.out,hlt2];simp)
    rw [hlt2] at LQ
    clear hok hlt2
    go_wp2
    go_ret
    exact ⟨ret_bool HE.out.symm,below_step B1 (Nat.le_refl _) B2⟩
   have HG:=Lib.hid (show objsFrom ⟨#[]⟩ l=objsFrom o.id (l.drop (k+1)) by rw [HT.out,HD.out,hlt2,hok];simp)
   rw [hlt2] at LQ
   clear hok hlt2
   go_wp2
   go_roundw
   case rel=>exact ⟨k+1,o.id,rfl,by omega,by go_num,HG.out,B2⟩
   case measure=>simp [intOf];omega
  ·obtain rfl:k=N:=by omega
   have HE:=Lib.hid (show mapOK l=decide (k≤1000000) by unfold mapOK;rw [HT.out,List.drop_of_length_le (by rw [HN.out];exact Nat.le_refl _),HN.out];simp [objsFrom])
   have HM2:=row_later hbr HMh.out
   have BF:=below_step B1 (Nat.le_refl _) hbr
   clear B1 hbr HMh
   obtain ⟨mz,m0⟩:=rk1 HM2
   have HM2':=Lib.hid HM2
   clear HM2
   go_wp2
   go_ret
   exact ⟨ret_bool (by rw [HE.out,Bool.eq_iff_iff];simp;omega),BF⟩
end Go.Proofs.YtdfenhjibnfdeaaGreatDoor

namespace Go.Proofs.YtdfenhjibnfdeaaGreatDoor
open Go
def posO (id:ByteArray):List ObjD→Option Nat
 |[]=>none
 |o :: l=>if o.id=id then some 0 else (posO id l).map (·+1)
theorem posO_some (id:ByteArray):∀(l:List ObjD) (i:Nat),posO id l=some i→∃o,l[i]?=some o∧o.id=id
 |[],i,h=>by cases h
 |o :: l,i,h=>by
  rw [posO] at h
  split at h
  ·rename_i e;injection h with h;subst h;exact ⟨o,rfl,e⟩
  ·cases hp:posO id l with
   |none=>rw [hp] at h;cases h
   |some j =>
    rw [hp] at h
    simp only [Option.map_some] at h
    injection h with h
    subst h
    simpa using posO_some id l j hp
theorem posO_none (id:ByteArray):∀(l:List ObjD),posO id l=none→∀o∈l,o.id≠id
 |[],_,o,ho=>by cases ho
 |x :: l,h,o,ho=>by
  rw [posO] at h
  split at h
  ·cases h
  ·rename_i e
   cases hp:posO id l with
   |some j=>rw [hp] at h;cases h
   |none =>
    rcases List.mem_cons.1 ho with rfl | ho
    ·exact e
    ·exact posO_none id l hp o ho
theorem ltB_eqQ (a b:ByteArray):ltB a b=Sort.ltStr a.toList b.toList:=bytesLess_eq _ _
theorem ltB_trans' {a b c:ByteArray} (h1:ltB a b=true) (h2:ltB b c=true):ltB a c=true:=by rw [ltB_eqQ] at *;exact Sort.swo_ltStr.trans _ _ _ h1 h2
theorem ltB_irrefl' (a:ByteArray):ltB a a=false:=by rw [ltB_eqQ];exact Sort.swo_ltStr.irrefl _
theorem bl_total:∀(x y:List UInt8),Op.bytesLess x y=false→Op.bytesLess y x=false→x=y:=fun x y h1 h2=>by
 have:=bl_leq x y
 rw [h1,h2] at this
 simpa using this
theorem ltB_total' {a b:ByteArray} (h1:ltB a b=false) (h2:ltB b a=false):a=b:=by
 have:=bl_total _ _ h1 h2
 rw [ByteArray.toList_eq,ByteArray.toList_eq] at this
 exact ByteArray.ext (Array.toList_inj.mp this)
theorem ltB_empty (a:ByteArray) (h:a≠⟨#[]⟩):ltB ⟨#[]⟩ a=true:=by
 cases hl:ltB ⟨#[]⟩ a with
 |true=>rfl
 |false =>
  refine absurd (ltB_total' ?_ hl) h
  unfold ltB
  rw [ByteArray.toList_eq,ByteArray.toList_eq]
  cases a.data.toList<;>rfl
def insP (o:ObjD):List ObjD→List ObjD
 |[]=>[o]
 |x :: r=>if ltB x.id o.id then x :: insP o r else o :: x :: r
theorem insP_mem (o x:ObjD):∀l:List ObjD,x∈insP o l↔x=o∨x∈l
 |[]=>by simp [insP]
 |y :: r=>by
  rw [insP]
  split
  ·rw [List.mem_cons,insP_mem o x r,List.mem_cons];constructor<;>(intro h;rcases h with h | h | h<;>simp [h])
  ·simp
theorem insP_length (o:ObjD):∀l:List ObjD,(insP o l).length=l.length+1
 |[]=>rfl
 |y :: r=>by
  rw [insP]
  split
  ·simp [insP_length o r]
  ·simp
theorem objsFrom_ins (o:ObjD) (ho:objOK o=true):∀(l:List ObjD) (last:ByteArray),ltB last o.id=true→(∀x∈l,x.id≠o.id)→objsFrom last (insP o l)=objsFrom last l
 |[],last,h,_=>by simp [insP,objsFrom,ho,h]
 |x :: r,last,h,hn=>by
  rw [insP]
  split
  ·rename_i hx
   rw [objsFrom,objsFrom,objsFrom_ins o ho r x.id hx fun y hy=>hn y (List.mem_cons_of_mem _ hy)]
  ·rename_i hx
   have hx1:ltB o.id x.id=true:=by
    cases hl:ltB o.id x.id with
    |true=>rfl
    |false=>exact absurd (ltB_total' (by simpa using hx) hl) (hn x (List.mem_cons_self ..))
   rw [objsFrom,objsFrom,objsFrom,ho,h,hx1,ltB_trans' h hx1]
   simp
theorem mapOK_ins (o:ObjD) (ho:objOK o=true) (hid:o.id≠⟨#[]⟩) (l:List ObjD) (hl:l.length<1000000) (hn:∀x∈l,x.id≠o.id):mapOK (insP o l)=mapOK l:=by
 unfold mapOK
 rw [objsFrom_ins o ho l _ (ltB_empty _ hid) hn,insP_length,decide_eq_true (by omega),decide_eq_true (by omega)]
def addOne (n:List ObjD) (o:ObjD):List ObjD:=if (posO o.id n).isNone && objOK o then insP o n else n
theorem id_of {o:ObjD} (h:objOK o=true):o.id≠⟨#[]⟩:=by
 intro e
 simp only [objOK,Bool.and_eq_true,decide_eq_true_eq] at h
 have:=h.1.1.1.1.1.2
 rw [e] at this
 exact absurd this (by decide)
theorem addOne_law (n:List ObjD) (o:ObjD) (hl:n.length<1000000):mapOK (addOne n o)=mapOK n∧(∀x∈n,x∈addOne n o)∧(addOne n o).length≤n.length+1:=by
 unfold addOne
 split
 ·rename_i h
  rw [Bool.and_eq_true,Option.isNone_iff_eq_none] at h
  exact ⟨mapOK_ins o h.2 (id_of h.2) n hl (posO_none _ _ h.1),fun x hx=>(insP_mem o x n).2 (Or.inr hx),by rw [insP_length];exact Nat.le_refl _⟩
 ·exact ⟨rfl,fun x hx=>hx,by omega⟩
theorem addAll_law:∀(more n:List ObjD),n.length+more.length≤1000000→mapOK (more.foldl addOne n)=mapOK n∧∀x∈n,x∈more.foldl addOne n
 |[],n,_=>⟨rfl,fun x hx=>hx⟩
 |o :: r,n,h=>by
  rw [List.length_cons] at h
  obtain ⟨h1,h2,h3⟩:=addOne_law n o (by omega)
  obtain ⟨h4,h5⟩:=addAll_law r (addOne n o) (by omega)
  exact ⟨h4.trans h1,fun x hx=>h5 x (h2 x hx)⟩
theorem objs_sorted':∀(l:List ObjD) (last:ByteArray),objsFrom last l=true→(∀o∈l,ltB last o.id=true)∧∀(x y:ObjD),x∈l→y∈l→x.id=y.id→x=y
 |[],_,_=>⟨fun o h=>(by cases h),fun x y h=>(by cases h)⟩
 |o :: l,last,h=>by
  simp only [objsFrom,Bool.and_eq_true] at h
  obtain ⟨⟨_,h1⟩,h2⟩:=h
  obtain ⟨ha,hb⟩:=objs_sorted' l o.id h2
  refine ⟨fun x hx=>?_,fun x y hx hy e=>?_⟩
  ·rcases List.mem_cons.1 hx with rfl | hx
   ·exact h1
   ·exact ltB_trans' h1 (ha x hx)
  ·rcases List.mem_cons.1 hx with hx1 | hx1<;>rcases List.mem_cons.1 hy with hy1 | hy1
   ·rw [hx1,hy1]
   ·have:=ha y hy1;rw [←e,hx1,ltB_irrefl'] at this;cases this
   ·have:=ha x hx1;rw [e,hy1,ltB_irrefl'] at this;cases this
   ·exact hb x y hx1 hy1 e
def needC (q:QryD):Int:=if q.ask=2 then 3 else if q.ask=3 then 2 else if q.ask=5 then 1 else 0
def typeC (q:QryD):Bool:=(decide (q.ask=3) || decide (q.ask=4)) && (decide (q.kind=4) || decide (q.kind=5)) || decide (q.ask=5) && (decide (q.kind≠0) && decide (q.kind≠1))
def checkP (ek:Int) (q:QryD) (l:List ObjD):Int :=
 if (validQ q && mapOK l)=false then 1 else if typeC q then 8 else if needC q=0 then 0 else
  match posO q.id l with
  |none=>11
  |some i=>match l[i]? with
   |some o=>if o.kind=needC q then 0 else ek
   |none=>0
theorem find_kept {l n:List ObjD} (_hl:mapOK l=true) (hn:mapOK n=true) (hs:∀x∈l,x∈n) {id:ByteArray} {i:Nat} {o:ObjD} (hp:posO id l=some i) (ho:l[i]?=some o):∃j,posO id n=some j∧n[j]?=some o:=by
 obtain ⟨o',ho',hid⟩:=posO_some id l i hp
 rw [ho] at ho'
 injection ho' with ho'
 subst ho'
 have hm:=hs o (List.mem_of_getElem? ho)
 cases hq:posO id n with
 |none=>exact absurd hid (posO_none id n hq o hm)
 |some j =>
  obtain ⟨o2,h2,hid2⟩:=posO_some id n j hq
  have hn2:objsFrom ⟨#[]⟩ n=true:=by unfold mapOK at hn;rw [Bool.and_eq_true] at hn;exact hn.2
  have:=(objs_sorted' n _ hn2).2 o o2 hm (List.mem_of_getElem? h2) (hid.trans hid2.symm)
  subst this
  exact ⟨j,rfl,h2⟩
theorem types_law (ek:Int) (hek:ek≠8∧ek≠0∧ek≠1∧ek≠11) (q:QryD) (l more:List ObjD) (h:l.length+more.length≤1000000) :
  let e:=checkP ek q l
  let f:=checkP ek q (more.foldl addOne l)
  (decide (e=8)=decide (f=8))∧(e=0→f=0)∧(e=ek→f=ek)∧(decide (e=1)=decide (f=1)):=by
 obtain ⟨hm,hs⟩:=addAll_law more l h
 generalize hn:more.foldl addOne l=n at *
 intro e f
 show (decide (checkP ek q l=8)=decide (checkP ek q n=8))∧(checkP ek q l=0→checkP ek q n=0)∧(checkP ek q l=ek→checkP ek q n=ek)∧(decide (checkP ek q l=1)=decide (checkP ek q n=1))
 unfold checkP
 rw [hm]
 by_cases hv:(validQ q && mapOK l)=false
 ·rw [if_pos hv,if_pos hv];exact ⟨rfl,fun h=>h,fun h=>h,rfl⟩
 rw [if_neg hv,if_neg hv]
 by_cases ht:typeC q=true
 ·rw [if_pos ht,if_pos ht];exact ⟨rfl,fun h=>h,fun h=>h,rfl⟩
 rw [if_neg ht,if_neg ht]
 by_cases hz:needC q=0
 ·rw [if_pos hz,if_pos hz];exact ⟨rfl,fun h=>h,fun h=>h,rfl⟩
 rw [if_neg hz,if_neg hz]
 have hml:mapOK l=true:=by
  have:(validQ q && mapOK l)=true:=by simpa using hv
  rw [Bool.and_eq_true] at this;exact this.2
 have hmn:mapOK n=true:=by rw [hm];exact hml
 have hlast:∀m:List ObjD,∃r:Int,(match posO q.id m with
  |none=>(11:Int)
  |some i=>match m[i]? with
   |some o=>if o.kind=needC q then 0 else ek
   |none=>0)=r∧(r=11∨r=0∨r=ek):=fun m=>by
  refine ⟨_,rfl,?_⟩
  split
  ·exact Or.inl rfl
  ·split
   ·split
    ·exact Or.inr (Or.inl rfl)
    ·exact Or.inr (Or.inr rfl)
   ·exact Or.inr (Or.inl rfl)
 cases hp:posO q.id l with
 |none =>
  obtain ⟨r,hr,hr2⟩:=hlast n
  rw [hr]
  simp only
  refine ⟨?_,fun h=>by omega,fun h=>by omega,?_⟩<;>(rw [decide_eq_false (by omega),decide_eq_false (by omega)])
 |some i =>
  obtain ⟨o,ho,-⟩:=posO_some q.id l i hp
  obtain ⟨j,hj,hoj⟩:=find_kept hml hmn hs hp ho
  rw [hj]
  simp only [ho,hoj]
  exact ⟨trivial,fun h=>h,fun h=>h,trivial⟩
end Go.Proofs.YtdfenhjibnfdeaaGreatDoor

namespace Go.Proofs.YtdfenhjibnfdeaaGreatDoor
open Go.RowKit Go.Shelf
def FewMP (M:Nat) (l:List ObjD) (w:World) (e:Ending) (w':World):Prop:=(∃r,e=.returned (.bool r)∧(r=true→l.length≤M))∧Below w.heap.size w w'
set_option maxRecDepth 100000 in
set_option maxHeartbeats 2000000 in
theorem few12_25 (v:Value) (l:List ObjD) (w:World) (hv:ObjsIs w v l) :
  Calls Tryz.prog 24 #[.agg #[v],.int .i64 25] w (FewMP 25 l w):=by
 obtain ⟨a,c,rfl,hn,hc⟩:=hv
 obtain ⟨N,hN⟩:∃N,l.length=N:=⟨_,rfl⟩
 rw [hN] at hn hc ⊢
 have HN:=Lib.hid hN
 have HC:=Lib.hid hc
 clear hN hc
 have B1:Below w.heap.size w (w.alloc (.cells #[.slice a N c] 62)):=(Below.refl _ _).alloc (Nat.le_refl _) _
 have H2:=row_new w (.cells #[.slice a N c] 62)
 by_cases hbig:(N:Int)≤25
 case neg =>
  have hb:decide ((N:Int)≤25)=false:=decide_eq_false hbig
  have hp:decide ((0:Int)<(N:Int))=true:=decide_eq_true (by omega)
  have hp2:decide (0<N)=true:=decide_eq_true (by omega)
  have hb3:decide (N≤25)=false:=decide_eq_false (by omega)
  clear hbig
  go_enter Tryz.func24,Tryz.ntmps24
  go_wp2_with fail
  refine wp_loop_rounds 2 ?_
  rw [rounds_succ]
  go_wp2
  go_ret
  exact ⟨⟨false,rfl,fun h=>by cases h⟩,B1⟩
 have hb:decide ((N:Int)≤25)=true:=decide_eq_true hbig
 have hb3:decide (N≤25)=true:=decide_eq_true (by omega)
 have hNM:N≤25:=by omega
 clear hbig
 go_enter Tryz.func24,Tryz.ntmps24
 go_wp2_with fail
 generalize hw1:w.alloc (.cells #[.slice a N c] 62)=w1
 rw [hw1] at B1 H2
 clear hw1
 go_loopw [5] (fun i wr=>∃k:Nat,i=.int .i64 k∧k≤N∧Below w.heap.size w wr∧wr.heap[w.heap.size]?=some (.cells #[.slice a N c] 62)) (fun i _=>N - (intOf i).toNat)
 case atStart=>exact ⟨0,rfl,Nat.zero_le _,B1,H2⟩
 case round =>
  obtain ⟨wq,rfl⟩:∃z:World,z=wr:=⟨_,rfl⟩
  obtain ⟨k,rfl,hk,hbr,h2⟩:=hrel
  have G2:=Lib.hid h2
  clear h2
  by_cases hlt:k<N
  ·obtain ⟨o,ho⟩:∃o,l[k]?=some o:=⟨l[k]'(by rw [HN.out];exact hlt),List.getElem?_eq_getElem _⟩
   obtain ⟨b1,f1,e1,q1⟩:=HC.out (by omega)
   subst e1
   obtain ⟨vr,vt,x0,x1,x2,x3,x4,x5,hr1,ht1,_⟩:=(q1 k o ho).later hbr
   have FO:=Lib.hid (fewO_any o vr vt wq hr1 ht1)
   obtain ⟨p1,pc1,ev1,_⟩:=hr1
   obtain ⟨p2,pc2,ev2,_⟩:=ht1
   subst ev1 ev2
   have bz1:=lt_of_cell x0
   clear q1 ho
   obtain ⟨mz,m0⟩:=rk1 G2.out
   go_wp2_with fail
   refine FO.out.mono ?_
   rintro e w3 ⟨⟨r,rfl,-⟩,hb⟩
   have B3:=hbr.trans (hb.mono hbr.size)
   have G3:=Lib.hid (row_later hb G2.out)
   clear hb x0 x1 x2 x3 x4 x5 FO
   clear m0 mz
   cases r with
   |false =>
    go_wp2
    go_ret
    exact ⟨⟨false,rfl,fun h=>by cases h⟩,B3⟩
   |true =>
    go_wp2
    go_roundw
    case rel=>exact ⟨k+1,by go_num,by omega,B3,G3.out⟩
    case measure=>simp [intOf];omega
  ·obtain rfl:k=N:=by omega
   have HE:=Lib.hid (show l.length≤25 by rw [HN.out];exact hNM)
   obtain ⟨mz,m0⟩:=rk1 G2.out
   go_wp2
   go_ret
   exact ⟨⟨true,rfl,fun _=>HE.out⟩,hbr⟩
set_option maxRecDepth 100000 in
set_option maxHeartbeats 2000000 in
theorem few12_10 (v:Value) (l:List ObjD) (w:World) (hv:ObjsIs w v l) :
  Calls Tryz.prog 24 #[.agg #[v],.int .i64 10] w (FewMP 10 l w):=by
 obtain ⟨a,c,rfl,hn,hc⟩:=hv
 obtain ⟨N,hN⟩:∃N,l.length=N:=⟨_,rfl⟩
 rw [hN] at hn hc ⊢
 have HN:=Lib.hid hN
 have HC:=Lib.hid hc
 clear hN hc
 have B1:Below w.heap.size w (w.alloc (.cells #[.slice a N c] 62)):=(Below.refl _ _).alloc (Nat.le_refl _) _
 have H2:=row_new w (.cells #[.slice a N c] 62)
 by_cases hbig:(N:Int)≤10
 case neg =>
  have hb:decide ((N:Int)≤10)=false:=decide_eq_false hbig
  have hp:decide ((0:Int)<(N:Int))=true:=decide_eq_true (by omega)
  have hp2:decide (0<N)=true:=decide_eq_true (by omega)
  have hb3:decide (N≤10)=false:=decide_eq_false (by omega)
  clear hbig
  go_enter Tryz.func24,Tryz.ntmps24
  go_wp2_with fail
  refine wp_loop_rounds 2 ?_
  rw [rounds_succ]
  go_wp2
  go_ret
  exact ⟨⟨false,rfl,fun h=>by cases h⟩,B1⟩
 have hb:decide ((N:Int)≤10)=true:=decide_eq_true hbig
 have hb3:decide (N≤10)=true:=decide_eq_true (by omega)
 have hNM:N≤10:=by omega
 clear hbig
 go_enter Tryz.func24,Tryz.ntmps24
 go_wp2_with fail
 generalize hw1:w.alloc (.cells #[.slice a N c] 62)=w1
 rw [hw1] at B1 H2
 clear hw1
 go_loopw [5] (fun i wr=>∃k:Nat,i=.int .i64 k∧k≤N∧Below w.heap.size w wr∧wr.heap[w.heap.size]?=some (.cells #[.slice a N c] 62)) (fun i _=>N - (intOf i).toNat)
 case atStart=>exact ⟨0,rfl,Nat.zero_le _,B1,H2⟩
 case round =>
  obtain ⟨wq,rfl⟩:∃z:World,z=wr:=⟨_,rfl⟩
  obtain ⟨k,rfl,hk,hbr,h2⟩:=hrel
  have G2:=Lib.hid h2
  clear h2
  by_cases hlt:k<N
  ·obtain ⟨o,ho⟩:∃o,l[k]?=some o:=⟨l[k]'(by rw [HN.out];exact hlt),List.getElem?_eq_getElem _⟩
   obtain ⟨b1,f1,e1,q1⟩:=HC.out (by omega)
   subst e1
   obtain ⟨vr,vt,x0,x1,x2,x3,x4,x5,hr1,ht1,_⟩:=(q1 k o ho).later hbr
   have FO:=Lib.hid (fewO_any o vr vt wq hr1 ht1)
   obtain ⟨p1,pc1,ev1,_⟩:=hr1
   obtain ⟨p2,pc2,ev2,_⟩:=ht1
   subst ev1 ev2
   have bz1:=lt_of_cell x0
   clear q1 ho
   obtain ⟨mz,m0⟩:=rk1 G2.out
   go_wp2_with fail
   refine FO.out.mono ?_
   rintro e w3 ⟨⟨r,rfl,-⟩,hb⟩
   have B3:=hbr.trans (hb.mono hbr.size)
   have G3:=Lib.hid (row_later hb G2.out)
   clear hb x0 x1 x2 x3 x4 x5 FO
   clear m0 mz
   cases r with
   |false =>
    go_wp2
    go_ret
    exact ⟨⟨false,rfl,fun h=>by cases h⟩,B3⟩
   |true =>
    go_wp2
    go_roundw
    case rel=>exact ⟨k+1,by go_num,by omega,B3,G3.out⟩
    case measure=>simp [intOf];omega
  ·obtain rfl:k=N:=by omega
   have HE:=Lib.hid (show l.length≤10 by rw [HN.out];exact hNM)
   obtain ⟨mz,m0⟩:=rk1 G2.out
   go_wp2
   go_ret
   exact ⟨⟨true,rfl,fun _=>HE.out⟩,hbr⟩
set_option maxRecDepth 100000 in
set_option maxHeartbeats 4000000 in
theorem few36_any (q:QryD) (a:Option Addr) (cap:Nat) (w:World) (hc:CondIs w q.wher a) :
  Calls Tryz.prog 29 #[.agg (qryC q a cap)] w fun e w'=>∃b,e=.returned (.bool b)∧Below w.heap.size w w':=by
 have B1:=(Below.refl w.heap.size w).alloc (Nat.le_refl _) (.cells (qryC q a cap) 28)
 obtain ⟨w1,hw1⟩:∃w1,w.alloc (.cells (qryC q a cap) 28)=w1:=⟨_,rfl⟩
 have H1:=Lib.hid (row_new w (.cells (qryC q a cap) 28))
 rw [hw1] at B1 H1
 have HW:=Lib.hid hw1
 have FC:=Lib.hid (fewc_any q.wher a cap w1 (hc.later B1))
 rw [cond_cells] at FC
 clear hw1 hc
 go_enter Tryz.func29,Tryz.ntmps29
 go_wp2_with fail
 rw [HW.out]
 have xz:=lt_of_block H1.out
 have x0:=cell_of_row w1 _ 0 _ _ _ H1.out
 have x1:=cell_of_row w1 _ 1 _ _ _ H1.out
 have x2:=cell_of_row w1 _ 2 _ _ _ H1.out
 have x3:=cell_of_row w1 _ 3 _ _ _ H1.out
 have x4:=cell_of_row w1 _ 4 _ _ _ H1.out
 have x5:=cell_of_row w1 _ 5 _ _ _ H1.out
 have x6:=cell_of_row w1 _ 6 _ _ _ H1.out
 have x7:=cell_of_row w1 _ 7 _ _ _ H1.out
 have x8:=cell_of_row w1 _ 8 _ _ _ H1.out
 have x9:=cell_of_row w1 _ 9 _ _ _ H1.out
 have x10:=cell_of_row w1 _ 10 _ _ _ H1.out
 have x11:=cell_of_row w1 _ 11 _ _ _ H1.out
 have x12:=cell_of_row w1 _ 12 _ _ _ H1.out
 have x13:=cell_of_row w1 _ 13 _ _ _ H1.out
 simp only [List.getElem?_toArray,List.getElem?_cons_zero,List.getElem?_cons_succ] at x0 x1 x2 x3 x4 x5 x6 x7 x8 x9 x10 x11 x12 x13
 go_wp2_with fail
 refine FC.out.mono ?_
 rintro e w2 ⟨b,rfl,hb⟩
 have B2:=below_step B1 (Nat.le_refl _) hb
 have H2:=Lib.hid (row_later hb H1.out)
 clear hb
 clear x0 x1 x2 x3 x4 x5 x6 x7 x8 x9 x10 x11 x12 x13 xz
 cases b
 ·go_wp2
  go_ret
  exact ⟨_,rfl,B2⟩
 ·have xz:=lt_of_block H2.out
  have x0:=cell_of_row w2 _ 0 _ _ _ H2.out
  have x1:=cell_of_row w2 _ 1 _ _ _ H2.out
  have x2:=cell_of_row w2 _ 2 _ _ _ H2.out
  have x3:=cell_of_row w2 _ 3 _ _ _ H2.out
  have x4:=cell_of_row w2 _ 4 _ _ _ H2.out
  have x5:=cell_of_row w2 _ 5 _ _ _ H2.out
  have x6:=cell_of_row w2 _ 6 _ _ _ H2.out
  have x7:=cell_of_row w2 _ 7 _ _ _ H2.out
  have x8:=cell_of_row w2 _ 8 _ _ _ H2.out
  have x9:=cell_of_row w2 _ 9 _ _ _ H2.out
  have x10:=cell_of_row w2 _ 10 _ _ _ H2.out
  have x11:=cell_of_row w2 _ 11 _ _ _ H2.out
  have x12:=cell_of_row w2 _ 12 _ _ _ H2.out
  have x13:=cell_of_row w2 _ 13 _ _ _ H2.out
  simp only [List.getElem?_toArray,List.getElem?_cons_zero,List.getElem?_cons_succ] at x0 x1 x2 x3 x4 x5 x6 x7 x8 x9 x10 x11 x12 x13
  go_wp2
  go_ret
  exact ⟨_,rfl,B2⟩
set_option maxRecDepth 100000 in
set_option maxHeartbeats 4000000 in
theorem fewQ_any (q:QryD) (a:Option Addr) (cap g:Nat) (w:World) (hc:CondIs w q.wher a) (hr:w.heap[g]?=some (.cells (qryC q a cap) 28 (0,0))) :
  Calls Tryz.prog 10 #[.slice (some ⟨g,0,none⟩) 1 1] w fun e w'=>∃b,e=.returned (.bool b)∧Below w.heap.size w w':=by
 have F:=Lib.hid (few36_any q a cap w hc)
 have H1:=Lib.hid hr
 have hz:=lt_of_block hr
 clear hr hc
 go_enter Tryz.func10,Tryz.ntmps10
 go_wp2_with fail
 refine wp_loop_rounds 3 ?_
 rw [rounds_succ]
 have xz:=lt_of_block H1.out
 have x0:=cell_of_row w _ 0 _ _ _ H1.out
 have x1:=cell_of_row w _ 1 _ _ _ H1.out
 have x2:=cell_of_row w _ 2 _ _ _ H1.out
 have x3:=cell_of_row w _ 3 _ _ _ H1.out
 have x4:=cell_of_row w _ 4 _ _ _ H1.out
 have x5:=cell_of_row w _ 5 _ _ _ H1.out
 have x6:=cell_of_row w _ 6 _ _ _ H1.out
 have x7:=cell_of_row w _ 7 _ _ _ H1.out
 have x8:=cell_of_row w _ 8 _ _ _ H1.out
 have x9:=cell_of_row w _ 9 _ _ _ H1.out
 have x10:=cell_of_row w _ 10 _ _ _ H1.out
 have x11:=cell_of_row w _ 11 _ _ _ H1.out
 have x12:=cell_of_row w _ 12 _ _ _ H1.out
 have x13:=cell_of_row w _ 13 _ _ _ H1.out
 simp only [List.getElem?_toArray,List.getElem?_cons_zero,List.getElem?_cons_succ] at x0 x1 x2 x3 x4 x5 x6 x7 x8 x9 x10 x11 x12 x13
 go_wp2_with fail
 refine F.out.mono ?_
 rintro e w2 ⟨b,rfl,hb⟩
 cases b
 ·go_wp2
  go_ret
  exact ⟨_,rfl,hb⟩
 ·go_wp2
  rw [rounds_succ]
  go_wp2
  go_ret
  exact ⟨_,rfl,hb⟩
def idxO (id:ByteArray) (l:List ObjD):Int:=match posO id l with
 |some i=>i
 |none=>-1
theorem pos_at (id:ByteArray):∀(l:List ObjD) (k:Nat) (o:ObjD),l[k]?=some o→(∀(j:Nat) (y:ObjD),j<k→l[j]?=some y→y.id≠id)→o.id=id→posO id l=some k
 |x :: l,0,o,hk,_,he=>by
  have:x=o:=by simpa using hk
  subst this
  rw [posO,if_pos he]
 |x :: l,k+1,o,hk,hn,he=>by
  have h0:x.id≠id:=hn 0 x (by omega) rfl
  rw [posO,if_neg h0,pos_at id l k o (by simpa using hk) (fun j y hj hy=>hn (j+1) y (by omega) (by simpa using hy)) he];rfl
theorem pos_no (id:ByteArray):∀(l:List ObjD),(∀(j:Nat) (y:ObjD),l[j]?=some y→y.id≠id)→posO id l=none
 |[],_=>rfl
 |x :: l,hn=>by
  rw [posO,if_neg (hn 0 x rfl),pos_no id l (fun j y hy=>hn (j+1) y (by simpa using hy))];rfl
set_option maxRecDepth 100000 in
set_option maxHeartbeats 2000000 in
theorem rfind12_any (v:Value) (l:List ObjD) (id:ByteArray) (w:World) (hv:ObjsIs w v l) :
  Calls Tryz.prog 25 #[.agg #[v],.string id] w fun e w'=>e=.returned (.int .i64 (idxO id l))∧Below w.heap.size w w':=by
 obtain ⟨a,cap,rfl,hn,hc⟩:=hv
 generalize hN:l.length=N at *
 have HN:=Lib.hid hN
 have HC:=Lib.hid hc
 obtain ⟨res,hres⟩:∃r,r=idxO id l:=⟨_,rfl⟩
 rw [←hres]
 have HR:=Lib.hid hres
 clear hN hc hres
 go_enter Tryz.func25,Tryz.ntmps25
 go_wp2_with fail
 have B1:Below w.heap.size w (w.alloc (.cells #[.slice a N cap] 62)):=(Below.refl _ w).alloc (Nat.le_refl _) _
 have HM:=row_new w (.cells #[.slice a N cap] 62)
 generalize hw1:w.alloc (.cells #[.slice a N cap] 62)=w1
 rw [hw1] at B1 HM
 clear hw1
 have HMh:=Lib.hid HM
 clear HM
 go_loopw [5] (fun i wr=>∃k:Nat,k≤N∧i=.int .i64 k∧(∀(j:Nat) (y:ObjD),j<k→l[j]?=some y→y.id≠id)∧Below w1.heap.size w1 wr) (fun i _=>N - (intOf i).toNat)
 case atStart=>exact ⟨0,by omega,rfl,(fun j y h _=>by omega),Below.refl _ _⟩
 case round =>
  obtain ⟨k,hk,rfl,hT,hbr⟩:=hrel
  have HT:=Lib.hid hT
  clear hT
  have HM2:=row_later hbr HMh.out
  obtain ⟨mz,m0⟩:=rk1 HM2
  have HM2':=Lib.hid HM2
  clear HM2
  by_cases hlt:k<N
  ·obtain ⟨o,ho⟩:∃o,l[k]?=some o:=⟨l[k]'(by rw [HN.out];exact hlt),List.getElem?_eq_getElem _⟩
   obtain ⟨b,off,ha,hcell⟩:=HC.out (by omega)
   subst ha
   obtain ⟨vr,vt,c0,-,-,-,-,-,-,-,-⟩:=((hcell k o ho).later B1).later hbr
   have HO:=Lib.hid ho
   clear hcell ho
   by_cases hs:o.id=id
   ·have e1:(o.id.toList==id.toList)=true:=str_eq_true hs
    have HE:=Lib.hid (show res=k by rw [HR.out];unfold idxO;rw [pos_at id l k o HO.out HT.out hs])
    clear hs
    go_wp2
    go_ret
    exact ⟨by rw [HE.out]<;>rfl,below_step B1 (Nat.le_refl _) hbr⟩
   ·have e1:(o.id.toList==id.toList)=false:=str_eq_false hs
    have HG:Hid (∀(j:Nat) (z:ObjD),j<k+1→l[j]?=some z→z.id≠id):=Lib.hid (fun j z hj hz=>by
     by_cases hjq:j=k
     ·subst hjq
      rw [HO.out] at hz;cases hz;exact hs
     ·exact HT.out j z (by omega) hz)
    clear hs
    go_wp2
    go_roundw
    case rel=>exact ⟨k+1,by omega,by go_num,HG.out,hbr⟩
    case measure=>simp [intOf];omega
  ·obtain rfl:k=N:=by omega
   have HE:=Lib.hid (show res=-1 by
    rw [HR.out];unfold idxO
    rw [pos_no id l fun j y hj=>HT.out j y (by rw [←HN.out];exact (List.getElem?_eq_some_iff.1 hj).1) hj])
   go_wp2
   go_ret
   exact ⟨by rw [HE.out]<;>rfl,below_step B1 (Nat.le_refl _) hbr⟩
set_option maxHeartbeats 1000000 in
theorem find1_any (o:ObjD) (vr vt:Value) (p:Nat) (id:ByteArray) (w:World) (hp:w.heap[p]?=some (.cells #[.string id] 9 (0,0))) :
  Calls Tryz.prog 84 #[.agg #[.string o.id,.int .i64 o.kind,.int .i64 o.x,.int .i64 o.y,vr,vt],.pointer (some ⟨p,0,none⟩)] w fun e w'=>e=.returned (.bool (decide (o.id=id)))∧Below w.heap.size w w':=by
 have HP:=Lib.hid hp
 have B1:=(Below.refl w.heap.size w).alloc (Nat.le_refl _) (.cells #[.string o.id,.int .i64 o.kind,.int .i64 o.x,.int .i64 o.y,vr,vt] 50)
 clear hp
 by_cases hs:o.id=id
 ·have e1:(o.id.toList==id.toList)=true:=str_eq_true hs
  rw [decide_eq_true hs]
  clear hs
  go_enter Tryz.func84,Tryz.ntmps84
  obtain ⟨xz,x0⟩:=rk1 HP.out
  go_wp2
  go_ret
  exact ⟨rfl,B1⟩
 ·have e1:(o.id.toList==id.toList)=false:=str_eq_false hs
  rw [decide_eq_false hs]
  clear hs
  go_enter Tryz.func84,Tryz.ntmps84
  obtain ⟨xz,x0⟩:=rk1 HP.out
  go_wp2
  go_ret
  exact ⟨rfl,B1⟩
set_option maxRecDepth 100000 in
set_option maxHeartbeats 2000000 in
theorem idxFo_any (a:Option Addr) (cap:Nat) (l:List ObjD) (p:Nat) (id:ByteArray) (w:World) (hv:ObjsIs w (.slice a l.length cap) l) (hp:w.heap[p]?=some (.cells #[.string id] 9 (0,0))) :
  Calls Tryz.prog 83 #[.slice a l.length cap,.func (.func 84) #[] #[.pointer (some ⟨p,0,none⟩)]] w fun e w'=>e=.returned (.int .i64 (idxO id l))∧Below w.heap.size w w':=by
 obtain ⟨a0,c0,e0,hn,hc⟩:=hv
 injection e0 with e1 e2 e3
 subst e1 e3
 generalize hN:l.length=N at *
 have HN:=Lib.hid hN
 have HC:=Lib.hid hc
 have HP:=Lib.hid hp
 obtain ⟨res,hres⟩:∃r,r=idxO id l:=⟨_,rfl⟩
 rw [←hres]
 have HR:=Lib.hid hres
 clear hN hc hres hp e2
 go_enter Tryz.func83,Tryz.ntmps83
 go_wp2
 go_loopw [8] (fun i wr=>∃k:Nat,k≤N∧i=.int .i64 k∧Hid (∀(j:Nat) (y:ObjD),j<k→l[j]?=some y→y.id≠id)∧Below w.heap.size w wr) (fun i _=>N - (intOf i).toNat)
 case atStart=>exact ⟨0,by omega,rfl,Lib.hid (fun j y h _=>by omega),Below.refl _ _⟩
 case round =>
  obtain ⟨k,hk,rfl,HT,hbr⟩:=hrel
  by_cases hlt:k<N
  ·obtain ⟨o,ho⟩:∃o,l[k]?=some o:=⟨l[k]'(by rw [HN.out];exact hlt),List.getElem?_eq_getElem _⟩
   obtain ⟨b,off,ha,hcell⟩:=HC.out (by omega)
   subst ha
   obtain ⟨vr,vt,c0,c1,c2,c3,c4,c5,-,-,-⟩:=(hcell k o ho).later hbr
   have CL:=Lib.hid (find1_any o vr vt p id wr (row_later hbr HP.out))
   have HO:=Lib.hid ho
   clear hcell ho
   by_cases hs:o.id=id
   ·rw [decide_eq_true hs] at CL
    have HE:=Lib.hid (show res=k by rw [HR.out];unfold idxO;rw [pos_at id l k o HO.out HT.out hs])
    clear hs
    go_wp2_with fail
    refine CL.out.mono ?_
    rintro e w2 ⟨rfl,hb2⟩
    have B2:=below_step hbr (Nat.le_refl _) hb2
    go_wp2
    go_ret
    exact ⟨by rw [HE.out]<;>rfl,B2⟩
   ·rw [decide_eq_false hs] at CL
    have HG:Hid (∀(j:Nat) (z:ObjD),j<k+1→l[j]?=some z→z.id≠id):=Lib.hid (fun j z hj hz=>by
     by_cases hjq:j=k
     ·subst hjq
      rw [HO.out] at hz;cases hz;exact hs
     ·exact HT.out j z (by omega) hz)
    clear hs
    go_wp2_with fail
    refine CL.out.mono ?_
    rintro e w2 ⟨rfl,hb2⟩
    have B2:=below_step hbr (Nat.le_refl _) hb2
    go_wp2
    go_roundw
    case rel=>exact ⟨k+1,by omega,by go_num,HG,B2⟩
    case measure=>simp [intOf];omega
  ·obtain rfl:k=N:=by omega
   have HE:=Lib.hid (show res=-1 by
    rw [HR.out];unfold idxO
    rw [pos_no id l fun j y hj=>HT.out j y (by rw [←HN.out];exact (List.getElem?_eq_some_iff.1 hj).1) hj])
   go_wp2
   go_ret
   exact ⟨by rw [HE.out]<;>rfl,hbr⟩
set_option maxHeartbeats 1000000 in
theorem findA_any (v:Value) (l:List ObjD) (id:ByteArray) (w:World) (hv:ObjsIs w v l) :
  Calls Tryz.prog 56 #[.agg #[v],.string id] w fun e w'=>e=.returned (.int .i64 (idxO id l))∧Below w.heap.size w w':=by
 have IX:=Lib.hid (fun a cap p W h1 h2=>idxFo_any a cap l p id W h1 h2)
 have hv2:=hv
 obtain ⟨a,cap,rfl,hn,hc⟩:=hv2
 have HV:=Lib.hid hv
 clear hn hc hv
 have b1:=((Below.refl w.heap.size w).alloc (Nat.le_refl _) (.cells #[.slice a l.length cap] 62)).alloc (by simp) (.cells #[.string id] 9)
 have r1:=row_new1 w (.cells #[.slice a l.length cap] 62) (.cells #[.string id] 9)
 have B1:=Lib.hid b1
 have R1:=Lib.hid r1
 clear b1 r1
 go_enter Tryz.func56,Tryz.ntmps56
 go_wp2_with fail
 refine (IX.out _ _ _ _ (HV.out.later B1.out) R1.out).mono ?_
 rintro e w2 ⟨rfl,hb⟩
 have B2:=below_step B1.out (Nat.le_refl _) hb
 go_wp2
 go_ret
 exact ⟨rfl,B2⟩
end Go.Proofs.YtdfenhjibnfdeaaGreatDoor
