/-      -/
import Derived.Test.YtdfenhjibnfdeaaGreatDoorQzAn
import Derived.Laws.AppendOwn
import Derived.Test.YtdfenhjibnfdeaaGreatDoorQzAc
import Derived.Test.YtdfenhjibnfdeaaGreatDoorQzAb
import Derived.Test.YtdfenhjibnfdeaaGreatDoorQzAe
import Derived.Shelf.Strings.BuilderK
import Derived.Test.YtdfenhjibnfdeaaGreatDoorQzAj
import Derived.Laws.EntriesVeiled
namespace Go.Proofs.YtdfenhjibnfdeaaGreatDoor
open Go.RowKit Go.Shelf
def SrcRow (w:World) (x:Value) (m:Nat) (news:List Value):Prop :=
 ∃(ao:Option Addr) (c:Nat),x=.slice ao m c∧(m=0∨∃a,ao=some a∧∀j u,news[j]?=some u→w.cell? (a.add j)=some u)
theorem run_append_src {P:Program} (w:World) (base:Nat) (t ty e:TypeId) (i:TypeInfo) (z:Value) (size bytes:Nat) (ht:P.underlying t=some (.slice e)) (hi:P.info? e=some i) (hz:i.zero=some z)
  (hsize:i.size=size) (hby:i.bytes=bytes) (hzs:z.cells.size=size) (hsz:0<size)
  (v:Value) (n:Nat) (xs:List Value) (hown:w.ownsRow base e size v n xs)
  (x:Value) (m:Nat) (news:List Value) (hx:SrcRow w x m news) (hl:news.length=m * size) (h1:∀u∈news,u.oneCell'=true)
  (h63:n+m≤maxLen) (hbytes:(n+m) * bytes≤140737488355328) (hbase:base≤w.heap.size) :
  ∃v' w',(Builtin.append_ #[t,t] ty #[v,x]).run P w=.ok v' w'∧w'.ownsRow base e size v' (n+m) (xs++news)∧w.grownBy w' v.ownBlock:=by
 obtain ⟨ao,c,rfl,hc⟩:=hx
 cases ao with
 |some a =>
  have hnews:∀j u,news[j]?=some u→w.cell? (a.add j)=some u:=by
   rcases hc with h0 | ⟨a',ha,hcells⟩
   ·subst h0
    have:news=[]:=List.length_eq_zero_iff.1 (by rw [hl,Nat.zero_mul])
    subst this
    intro j u h;simp at h
   ·cases ha;exact hcells
  obtain ⟨v',w',hr,h2,h3,_⟩:=run_append_own (P:=P) w base t ty e i z size bytes ht hi hz hsize hby hzs hsz v n xs hown a m c news hl hnews h1 h63 hbytes hbase
  exact ⟨v',w',hr,h2,h3⟩
 |none =>
  have h0:m=0:=by
   rcases hc with h0 | ⟨a',ha,_⟩
   ·exact h0
   ·cases ha
  subst h0
  have hnil:news=[]:=List.length_eq_zero_iff.1 (by rw [hl,Nat.zero_mul])
  subst hnil
  have hg:∀row,w.grownBy w row:=fun row=>⟨rfl,rfl,rfl,Nat.le_refl _,fun _ _ _=>rfl⟩
  have hown0:=hown
  rcases hown.2 with ⟨rfl,rfl⟩ | ⟨g,cap,cur,rfl,hb,hg',hn,hm,hcs,htk⟩
  ·refine ⟨_,w,?_,by simpa using hown0,hg _⟩
   simp [Builtin.append_,run_underlying ht,sizeOf,typeInfo,hi,Builtin.lenOf,Builtin.firstCells]
  ·refine ⟨_,w,?_,by simpa using hown0,hg _⟩
   simp [Builtin.append_,run_underlying ht,sizeOf,typeInfo,hi,Builtin.lenOf,Builtin.firstCells,hn,storeCells]
theorem wp_append_src {P:Program} (w:World) {o:Oper} {a:Act} {K:Act→World→Prop} {Q:Exit→Act→World→Prop} (s x:Operand) (t:TypeId)
  (ho:o.op=.call { callee:=.builtin .append,args:=#[s,x],argTypes:=#[t,t] })
  (base:Nat) (e:TypeId) (i:TypeInfo) (z:Value) (size bytes:Nat) (ht:P.underlying t=some (.slice e)) (hi:P.info? e=some i) (hz:i.zero=some z)
  (hsize:i.size=size) (hby:i.bytes=bytes) (hzs:z.cells.size=size) (hsz:0<size)
  (v:Value) (n:Nat) (xs:List Value) (hs:a.eval s=v) (hown:w.ownsRow base e size v n xs)
  (m:Nat) (news:List Value) (hx:SrcRow w (a.eval x) m news) (hl:news.length=m * size) (h1:∀u∈news,u.oneCell'=true)
  (h63:n+m≤maxLen) (hbytes:(n+m) * bytes≤140737488355328) (hbase:base≤w.heap.size)
  (h:∀v' w',w'.ownsRow base e size v' (n+m) (xs++news)→w.grownBy w' v.ownBlock→K (a.put o.dst v') w'):o.wp P a w K Q:=by
 obtain ⟨v',w',hr,h2,h3⟩:=run_append_src (P:=P) w base t o.type e i z size bytes ht hi hz hsize hby hzs hsz v n xs hown (a.eval x) m news hx hl h1 h63 hbytes hbase
 unfold Oper.wp execOp
 simp only [ho,resolve,invoke,builtin,Sem.run_bind,Sem.run_pure,Result.andThen_ok,List.map_toArray,List.map_cons,List.map_nil,hs,hr]
 exact h v' w' h2 h3
theorem wpList_append_src {P:Program} {w:World} {ops:Array Oper} {rest:List Oper} {o:Oper} {a:Act} {Q:Exit→Act→World→Prop} (hgd:o.guard=none) (s x:Operand) (t:TypeId)
  (ho:o.op=.call { callee:=.builtin .append,args:=#[s,x],argTypes:=#[t,t] })
  (base:Nat) (e:TypeId) (i:TypeInfo) (z:Value) (size bytes:Nat) (ht:P.underlying t=some (.slice e)) (hi:P.info? e=some i) (hz:i.zero=some z)
  (hsize:i.size=size) (hby:i.bytes=bytes) (hzs:z.cells.size=size) (hsz:0<size)
  (v:Value) (n:Nat) (xs:List Value) (hs:a.eval s=v) (hown:w.ownsRow base e size v n xs)
  (m:Nat) (news:List Value) (hx:SrcRow w (a.eval x) m news) (hl:news.length=m * size) (h1:∀u∈news,u.oneCell'=true)
  (h63:n+m≤maxLen) (hbytes:(n+m) * bytes≤140737488355328) (hbase:base≤w.heap.size)
  (h:∀v' w',w'.ownsRow base e size v' (n+m) (xs++news)→w.grownBy w' v.ownBlock→wpList P ops Q rest (a.put o.dst v') w'):wpList P ops Q (o :: rest) a w :=
 wpList_plain hgd fun _ hK=>wp_append_src w s x t ho base e i z size bytes ht hi hz hsize hby hzs hsz v n xs hs hown m news hx hl h1 h63 hbytes hbase fun v' w' h2 h3=>hK _ _ (h v' w' h2 h3)
theorem own_base {w:World} {base base' size n:Nat} {e:TypeId} {v:Value} {xs:List Value} (h:w.ownsRow base e size v n xs) (hb:base'≤base):w.ownsRow base' e size v n xs:=by
 refine ⟨h.1,?_⟩
 rcases h.2 with h0 | ⟨g,cap,cur,h1,h2,h3⟩
 ·exact Or.inl h0
 ·exact Or.inr ⟨g,cap,cur,h1,Nat.le_trans hb h2,h3⟩
theorem own_form {w:World} {base size n:Nat} {e:TypeId} {v:Value} {xs:List Value} (h:w.ownsRow base e size v n xs):∃ao c,v=.slice ao n c:=by
 rcases h.2 with ⟨rfl,rfl⟩ | ⟨g,cap,cur,rfl,_⟩
 ·exact ⟨_,_,rfl⟩
 ·exact ⟨_,_,rfl⟩
theorem flat_take {α:Type} (enc:α→List Value) (k:Nat) (hk:∀x,(enc x).length=k) (l:List α) (q:Nat):(l.take q).flatMap enc=(l.flatMap enc).take (q * k):=by
 induction l generalizing q with
 |nil=>simp
 |cons x l ih =>
  cases q with
  |zero=>simp
  |succ q =>
   rw [List.take_succ_cons,List.flatMap_cons,List.flatMap_cons,ih,show (q+1) * k=(enc x).length+q * k by rw [hk,Nat.add_mul];omega,List.take_length_add_append]
abbrev ObQ:=ObjD × Value × Value
def encQ (x:ObQ):List Value:=[.string x.1.id,.int .i64 x.1.kind,.int .i64 x.1.x,.int .i64 x.1.y,x.2.1,x.2.2]
theorem encQ_len (x:ObQ):(encQ x).length=6:=rfl
def okQ (w:World) (x:ObQ):Prop:=StrRow w x.2.1 x.1.refs∧TagRow w x.2.2 x.1.tags∧x.1.id.size≤140737488355328
theorem okQ.later {w w':World} {x:ObQ} (h:okQ w x) (hb:Below w.heap.size w w'):okQ w' x:=⟨h.1.later hb,h.2.1.later hb,h.2.2⟩
theorem encQ_one {w:World} {x:ObQ} (h:okQ w x):∀v∈encQ x,v.oneCell'=true:=by
 obtain ⟨⟨a,c,e,_⟩,⟨b,d,e2,_⟩,_⟩:=h
 intro v hv
 simp only [encQ,e,e2,List.mem_cons,List.not_mem_nil,or_false] at hv
 rcases hv with rfl | rfl | rfl | rfl | rfl | rfl<;>rfl
theorem flatQ_len (M:List ObQ):(M.flatMap encQ).length=M.length * 6:=by
 induction M with
 |nil=>rfl
 |cons x M ih=>rw [List.flatMap_cons,List.length_append,ih,encQ_len,List.length_cons];omega
theorem flatQ_one {w:World} {M:List ObQ} (h:∀x∈M,okQ w x):∀v∈M.flatMap encQ,v.oneCell'=true:=fun v hv=>by
 obtain ⟨x,hx,hvx⟩:=List.mem_flatMap.1 hv
 exact encQ_one (h x hx) v hvx
theorem flatQ_at:∀(M:List ObQ) (i:Nat) (x:ObQ),M[i]?=some x→∀(j:Nat) (u:Value),(encQ x)[j]?=some u→(M.flatMap encQ)[i * 6+j]?=some u
 |[],_,_,h,_,_,_=>by cases h
 |y :: M,0,x,h,j,u,hu=>by
  injection h with h
  subst h
  have hj:j<(encQ y).length:=(List.getElem?_eq_some_iff.1 hu).1
  rw [List.flatMap_cons,show 0 * 6+j=j by omega,List.getElem?_append_left hj]
  exact hu
 |y :: M,i+1,x,h,j,u,hu=>by
  rw [List.flatMap_cons,List.getElem?_append_right (by rw [encQ_len];omega),encQ_len,show (i+1) * 6+j - 6=i * 6+j by omega]
  exact flatQ_at M i x (by simpa using h) j u hu
theorem ObjsIs.of_own {w:World} {base:Nat} {v:Value} {M:List ObQ} (h:w.ownsRow base 50 6 v M.length (M.flatMap encQ)) (hl:M.length≤1000000) (hk:∀x∈M,okQ w x):ObjsIs w v (M.map (·.1)):=by
 have hc:=fun g=>World.ownsRow.cells h (g:=g)
 rcases h.2 with ⟨rfl,h0⟩ | ⟨g,cap,cur,rfl,hb,hg,_⟩
 ·have:M=[]:=List.length_eq_zero_iff.1 h0
  subst this
  exact ⟨none,0,rfl,by simp,fun h=>by simp at h⟩
 ·refine ⟨some ⟨g,0,none⟩,cap,by simp,by simp only [List.length_map];omega,fun _=>⟨g,0,rfl,fun i o hi=>?_⟩⟩
  rw [List.getElem?_map] at hi
  cases hx:M[i]? with
  |none=>rw [hx] at hi;cases hi
  |some x =>
   rw [hx] at hi
   injection hi with hi
   subst hi
   obtain ⟨k1,k2,k3⟩:=hk x (List.mem_of_getElem? hx)
   have cc:∀(j:Nat) (u:Value),(encQ x)[j]?=some u→w.cell? ⟨g,0+(i * 6+j),none⟩=some u:=fun j u hu=>by
    have:=hc g rfl _ _ (flatQ_at M i x hx j u hu)
    rwa [Addr.add_lit] at this
   exact ⟨x.2.1,x.2.2,cc 0 _ rfl,cc 1 _ rfl,cc 2 _ rfl,cc 3 _ rfl,cc 4 _ rfl,cc 5 _ rfl,k1,k2,k3⟩
def ObjsM (w0 W:World) (v:Value) (M:List ObQ):Prop :=
 ∃a cap,v=.slice a M.length cap∧M.length≤140737488355328∧(0<M.length→∃b off,a=some ⟨b,off,none⟩∧∀(j:Nat) (u:Value),(M.flatMap encQ)[j]?=some u→W.cell? ⟨b,off+j,none⟩=some u)∧∀x∈M,okQ w0 x
theorem ObjsM.later {w0 W W':World} {v:Value} {M:List ObQ} (h:ObjsM w0 W v M) (hb:Below W.heap.size W W'):ObjsM w0 W' v M:=by
 obtain ⟨a,cap,e,hn,hc,hk⟩:=h
 refine ⟨a,cap,e,hn,fun h0=>?_,hk⟩
 obtain ⟨b,off,ha,hcell⟩:=hc h0
 exact ⟨b,off,ha,fun j u hu=>cell_later hb (hcell j u hu)⟩
theorem ObjsM.is {w0 W:World} {v:Value} {M:List ObQ} (h:ObjsM w0 W v M) (hb:Below w0.heap.size w0 W):ObjsIs W v (M.map (·.1)):=by
 obtain ⟨a,cap,e,hn,hc,hk⟩:=h
 refine ⟨a,cap,by rw [e,List.length_map],by rw [List.length_map];exact hn,fun h0=>?_⟩
 obtain ⟨b,off,ha,hcell⟩:=hc (by simpa using h0)
 refine ⟨b,off,ha,fun i o hi=>?_⟩
 rw [List.getElem?_map] at hi
 cases hx:M[i]? with
 |none=>rw [hx] at hi;cases hi
 |some x =>
  rw [hx] at hi
  injection hi with hi
  subst hi
  obtain ⟨k1,k2,k3⟩:=(hk x (List.mem_of_getElem? hx)).later hb
  have cc:∀(j:Nat) (u:Value),(encQ x)[j]?=some u→W.cell? ⟨b,off+(i * 6+j),none⟩=some u:=fun j u hu=>hcell _ _ (flatQ_at M i x hx j u hu)
  exact ⟨x.2.1,x.2.2,cc 0 _ rfl,cc 1 _ rfl,cc 2 _ rfl,cc 3 _ rfl,cc 4 _ rfl,cc 5 _ rfl,k1,k2,k3⟩
theorem ObjsM.of_own {w0 W:World} {base:Nat} {v:Value} {M:List ObQ} (h:W.ownsRow base 50 6 v M.length (M.flatMap encQ)) (hl:M.length≤140737488355328) (hk:∀x∈M,okQ w0 x):ObjsM w0 W v M:=by
 have hc:=fun g=>World.ownsRow.cells h (g:=g)
 rcases h.2 with ⟨rfl,h0⟩ | ⟨g,cap,cur,rfl,hb,hg,_⟩
 ·exact ⟨none,0,by rw [h0],hl,fun h=>by omega,hk⟩
 ·refine ⟨some ⟨g,0,none⟩,cap,rfl,hl,fun _=>⟨g,0,rfl,fun j u hu=>?_⟩,hk⟩
  have:=hc g rfl _ _ hu
  rwa [Addr.add_lit] at this
theorem flatQ_split:∀(M:List ObQ) (j:Nat) (u:Value),(M.flatMap encQ)[j]?=some u→∃x,M[j / 6]?=some x∧(encQ x)[j % 6]?=some u
 |[],j,u,h=>by simp at h
 |y :: M,j,u,h=>by
  rw [List.flatMap_cons] at h
  by_cases hj:j<6
  ·rw [List.getElem?_append_left (by rw [encQ_len];exact hj)] at h
   exact ⟨y,by rw [show j / 6=0 by omega];rfl,by rw [show j % 6=j by omega];exact h⟩
  ·rw [List.getElem?_append_right (by rw [encQ_len];omega),encQ_len] at h
   obtain ⟨x,h1,h2⟩:=flatQ_split M (j - 6) u h
   exact ⟨x,by rw [show j / 6=(j - 6) / 6+1 by omega];exact h1,by rw [show j % 6=(j - 6) % 6 by omega];exact h2⟩
theorem choose_ex {α:Type} [Inhabited α] (P:Nat→α→Prop) (n:Nat) (h:∀i,i<n→∃x,P i x):∃f:Nat→α,∀i,i<n→P i (f i) :=
 ⟨fun i=>if hi:i<n then (h i hi).choose else default,fun i hi=>by simp only [hi,dif_pos];exact (h i hi).choose_spec⟩
theorem ObjsM.of_is {w:World} {v:Value} {l:List ObjD} (h:ObjsIs w v l):∃M:List ObQ,M.map (·.1)=l∧ObjsM w w v M:=by
 obtain ⟨a,cap,e,hn,hc⟩:=h
 by_cases h0:0<l.length
 ·obtain ⟨b,off,ha,hcell⟩:=hc h0
  have ex:∀i,i<l.length→∃x:Value × Value,∀o,l[i]?=some o→(∀(j:Nat) (u:Value),(encQ (o,x))[j]?=some u→w.cell? ⟨b,off+(i * 6+j),none⟩=some u)∧okQ w (o,x):=fun i hi=>by
   obtain ⟨vr,vt,c0,c1,c2,c3,c4,c5,k1,k2,k3⟩:=hcell i l[i] (List.getElem?_eq_getElem hi)
   refine ⟨(vr,vt),fun o ho=>?_⟩
   rw [List.getElem?_eq_getElem hi] at ho
   injection ho with ho
   subst ho
   refine ⟨fun j u hu=>?_,k1,k2,k3⟩
   have hj:j<6:=(List.getElem?_eq_some_iff.1 hu).1
   match j,hj with
   |0,_=>injection hu with hu;subst hu;exact c0
   |1,_=>injection hu with hu;subst hu;exact c1
   |2,_=>injection hu with hu;subst hu;exact c2
   |3,_=>injection hu with hu;subst hu;exact c3
   |4,_=>injection hu with hu;subst hu;exact c4
   |5,_=>injection hu with hu;subst hu;exact c5
  haveI:Inhabited (Value × Value):=⟨(.bool false,.bool false)⟩
  obtain ⟨f,hf⟩:=choose_ex _ l.length ex
  have hml:((List.range l.length).map fun i=>((l[i]?).getD ⟨⟨#[]⟩,0,0,0,[],[]⟩,f i)).length=l.length:=by simp
  have hat:∀(i:Nat) (x:ObQ),((List.range l.length).map fun i=>((l[i]?).getD ⟨⟨#[]⟩,0,0,0,[],[]⟩,f i))[i]?=some x→∃hi:i<l.length,x=(l[i],f i):=fun i x hx=>by
   have hi:i<l.length:=by have:=(List.getElem?_eq_some_iff.1 hx).1;simpa using this
   refine ⟨hi,?_⟩
   rw [List.getElem?_map,List.getElem?_range hi] at hx
   simp only [Option.map_some,List.getElem?_eq_getElem hi,Option.getD_some] at hx
   injection hx with hx
   exact hx.symm
  refine ⟨_,?_,a,cap,by rw [hml];exact e,by rw [hml];exact hn,fun _=>⟨b,off,ha,fun j u hu=>?_⟩,fun x hx=>?_⟩
  ·apply List.ext_getElem?
   intro i
   rw [List.getElem?_map,List.getElem?_map]
   by_cases hi:i<l.length
   ·rw [List.getElem?_range hi];simp [hi]
   ·rw [List.getElem?_eq_none (by simpa using hi),List.getElem?_eq_none (by omega)];rfl
  ·obtain ⟨x,hx1,hx2⟩:=flatQ_split _ j u hu
   obtain ⟨hi,rfl⟩:=hat _ _ hx1
   have:=(hf _ hi _ (List.getElem?_eq_getElem hi)).1 _ _ hx2
   rwa [show j / 6 * 6+j % 6=j by omega] at this
  ·obtain ⟨i,hi,rfl⟩:=List.getElem_of_mem hx
   obtain ⟨hi2,e2⟩:=hat i _ (List.getElem?_eq_getElem hi)
   rw [e2]
   exact (hf i hi2 _ (List.getElem?_eq_getElem hi2)).2
 ·have hl:l=[]:=List.length_eq_zero_iff.1 (by omega)
  subst hl
  exact ⟨[],rfl,a,cap,e,by simp,fun h=>by simp at h,fun x hx=>by cases hx⟩
theorem insP_at (o:ObjD):∀(l:List ObjD) (q:Nat),q≤l.length→(∀(j:Nat) (y:ObjD),j<q→l[j]?=some y→ltB y.id o.id=true)→(∀y,l[q]?=some y→ltB y.id o.id=false)→insP o l=l.take q++o :: l.drop q
 |[],q,hq,_,_=>by
  have:q=0:=by simpa using hq
  subst this;rfl
 |x :: r,0,_,_,h2=>by rw [insP,h2 x rfl];simp
 |x :: r,q+1,hq,h1,h2=>by
  rw [insP,h1 0 x (by omega) rfl,if_pos rfl,insP_at o r q (by simpa using hq) (fun j y hj hy=>h1 (j+1) y (by omega) (by simpa using hy)) (fun y hy=>h2 y (by simpa using hy))]
  simp
theorem srcQ_take {w:World} {base n c q:Nat} {ao:Option Addr} {M:List ObQ} (h:w.ownsRow base 50 6 (.slice ao n c) M.length (M.flatMap encQ)) (hq:q≤M.length) (c':Nat):SrcRow w (.slice ao q c') q ((M.take q).flatMap encQ):=by
 refine ⟨ao,c',rfl,?_⟩
 by_cases h0:q=0
 ·exact Or.inl h0
 ·have hc:=fun g=>World.ownsRow.cells h (g:=g)
  rcases h.2 with ⟨_,h1⟩ | ⟨g,cap,cur,e,_⟩
  ·omega
  ·injection e with e1 e2 e3
   subst e1 e2 e3
   refine Or.inr ⟨⟨g,0,none⟩,rfl,fun j u hu=>?_⟩
   rw [flat_take encQ 6 encQ_len,List.getElem?_take] at hu
   split at hu
   ·exact hc g rfl j u hu
   ·cases hu
theorem flat_drop {α:Type} (enc:α→List Value) (k:Nat) (hk:∀x,(enc x).length=k) (l:List α) (q:Nat):(l.drop q).flatMap enc=(l.flatMap enc).drop (q * k):=by
 induction l generalizing q with
 |nil=>simp
 |cons x l ih =>
  cases q with
  |zero=>simp
  |succ q =>
   rw [List.drop_succ_cons,List.flatMap_cons,ih,show (q+1) * k=(enc x).length+q * k by rw [hk,Nat.add_mul];omega,List.drop_length_add_append]
theorem srcQ_drop {w:World} {base n c q:Nat} {ao:Option Addr} {M:List ObQ} (h:w.ownsRow base 50 6 (.slice ao n c) M.length (M.flatMap encQ)) (hq:q≤M.length) :
  SrcRow w (.slice (if c=q then ao else ao.map (·.add (q * 6))) (n - q) (c - q)) (M.length - q) ((M.drop q).flatMap encQ):=by
 have hc:=fun g=>World.ownsRow.cells h (g:=g)
 rcases h.2 with ⟨e,h1⟩ | ⟨g,cap,cur,e,_,_,hnc,_⟩
 ·injection e with e1 e2 e3
  refine ⟨_,_,by rw [e2,h1],Or.inl (by omega)⟩
 ·injection e with e1 e2 e3
  subst e1 e2 e3
  refine ⟨_,_,rfl,?_⟩
  by_cases h0:M.length - q=0
  ·exact Or.inl h0
  ·refine Or.inr ⟨⟨g,q * 6,none⟩,by rw [if_neg (by omega)];simp [Addr.add_lit],fun j u hu=>?_⟩
   rw [flat_drop encQ 6 encQ_len,List.getElem?_drop] at hu
   have:=hc g rfl _ _ hu
   rw [Addr.add_lit] at this ⊢
   rwa [Nat.zero_add] at this
end Go.Proofs.YtdfenhjibnfdeaaGreatDoor

namespace Go.Proofs.YtdfenhjibnfdeaaGreatDoor
open Go.RowKit Go.Shelf
structure BldT (T:TypeId):Prop where
 lies:liesAt Tryz.prog Tryz.prog.depth T (2 / Tryz.prog.cellsOf T) 0 92 1=true
 ne:T≠5
theorem bldB:BldT 92:=⟨by kernel_rfl,by decide⟩
theorem bdSize:(Tryz.prog.info? 92).map (·.size)=some 2:=by kernel_rfl
theorem infoU8:(Tryz.prog.info? 5).map (fun i=>(i.zero,i.size,i.bytes))=some (some (.int .u8 0),1,1):=by kernel_rfl
abbrev BldF (T:TypeId) (B b:Nat) (bs:List Value) (w:World):Prop:=Lib.IsBuilderF T 5 B b bs w
abbrev BldU (T:TypeId) (B b:Nat) (bs:List Value) (w:World):Prop:=Lib.BuilderAtF T 5 B b (.pointer (some ⟨b,0,none⟩)) bs w
variable {T:TypeId}
set_option maxRecDepth 100000 in
set_option maxHeartbeats 1000000 in
theorem bcopy_any (hT:BldT T) (B b:Nat) (bs:List Value) (w:World) (h:BldF T B b bs w) :
  Calls Tryz.prog 71 #[.pointer (some ⟨b,0,none⟩)] w fun e w'=>e=.returned (.tuple #[])∧BldU T B b bs w'∧Below B w w'∧Lib.OthersKept 5 (some b) w w':=by
 obtain ⟨j,hj,hjs⟩:=Option.map_eq_some_iff.1 bdSize
 rcases h with h | h
 ·have h0:=h.cell0
  have hsh:=h.shape
  have hfz:=h.frozen0
  go_enter Tryz.func71,Tryz.ntmps71
  go_wp2
  rw [Lib.run_to_unsafe w ⟨b,0,none⟩ Tryz.underlying89 Tryz.underlying132 hj (by rw [hjs];decide) hsh (Nat.zero_lt_succ 1)]
  simp only [Result.andThen]
  rw [Oper.upon_value]
  go_wp2
  rw [run_callFunc_extern Tryz.func103 (by kernel_rfl) (by kernel_rfl) (by kernel_rfl) (e:=Extern.AbiNoEscape.same) (by kernel_rfl)]
  rw [Lib.run_noEscape]
  simp only [Result.andThen]
  rw [Oper.upon_value]
  go_wp2
  rw [Lib.run_from_unsafe w ⟨b,0,none⟩ Tryz.underlying132 Tryz.underlying89 hj hsh hT.lies]
  simp only [Result.andThen]
  rw [Oper.upon_value]
  go_wp2
  go_end0
  exact ⟨rfl,h.used _,(Below.refl B w).setCell (p:=⟨b,0,none⟩) h.1 _,(Lib.OthersKept.refl _ _ w).setCell ⟨b,0,none⟩ rfl _⟩
 ·have h0:=h.cell0
  go_enter Tryz.func71,Tryz.ntmps71
  go_wp2
  rw [Lib.run_neq_ptr_same w _ Tryz.underlying89 hj]
  go_wp2
  go_end0
  exact ⟨rfl,h,Below.refl B _,Lib.OthersKept.refl _ _ _⟩
set_option maxRecDepth 100000 in
set_option maxHeartbeats 2000000 in
theorem bbyte_any (hT:BldT T) (B b:Nat) (bs:List Value) (c:Int) (w:World) (h:BldF T B b bs w) (hlen:bs.length+1≤140737488355328) (hBw:B≤w.heap.size) :
  Calls Tryz.prog 42 #[.pointer (some ⟨b,0,none⟩),.int .u8 c] w fun e w'=>e=.returned .nilIface∧BldU T B b (bs++[.int .u8 c]) w'∧Below B w w'∧Lib.OthersKept 5 (some b) w w':=by
 obtain ⟨i0,hi,hz0,hz1,hz2⟩:=info_parts infoU8
 have CC:=Lib.hid (bcopy_any hT B b bs w h)
 go_enter Tryz.func42,Tryz.ntmps42
 go_wp2_with (go_at_call 71;refine CC.out.mono ?_)
 rintro e w1 ⟨rfl,h1,hb1,hk1⟩
 obtain ⟨hB,v,hbk,hown,hne⟩:=h1
 have c0:w1.cell? ⟨b,0,none⟩=some (.pointer (some ⟨b,0,none⟩)):=by rw [Lib.cell_of_heap hbk];rfl
 have c1:w1.cell? ⟨b,1,none⟩=some v:=by rw [Lib.cell_of_heap hbk];rfl
 go_wp2_with (at_builtin;refine wpList_append_ownF _ rfl _ _ 90 rfl B 5 i0 (.int .u8 0) 1 1 Tryz.underlying90 hi hz0 hz1 hz2 rfl (by decide) _ _ _ rfl (hown.alloc _) ⟨w1.heap.size,0,none⟩ 1 1 [.int .u8 c] rfl rfl ?c1 ?c2 ?c3 ?c4 ?c5 ?_)
 case c1 =>
  intro j u hj
  match j,hj with
  |0,hj=>simp at hj;subst hj;simp [Addr.add]
 case c2=>intro u hu;simp at hu;subst hu;rfl
 case c3=>unfold maxLen;omega
 case c4=>omega
 case c5=>have:=hb1.size;simp;omega
 intro v' w2 hown' hgrow _
 have hlt:=lt_of_block hbk
 have hb2:w2.heap[b]?=some (.cells #[.pointer (some ⟨b,0,none⟩),v] T (0,0)):=by
  rw [hgrow.block b (by simp;omega) (fun e=>hne e.symm),Lib.alloc_old w1 _ b hlt]
  exact hbk
 have d0:w2.cell? ⟨b,0,none⟩=some (.pointer (some ⟨b,0,none⟩)):=by rw [Lib.cell_of_heap hb2];rfl
 have d1:w2.cell? ⟨b,1,none⟩=some v:=by rw [Lib.cell_of_heap hb2];rfl
 have f1:w2.frozen? ⟨b,1,none⟩=false:=Lib.frozen_of_heap hb2 1
 obtain ⟨g,cap,rfl⟩:∃g cap,v'=.slice (some ⟨g,0,none⟩) (bs.length+1) cap:=by
  rcases hown'.2 with ⟨_,h0⟩ | ⟨g,cap,cur,fz,hv,_⟩
  ·omega
  ·exact ⟨g,cap,hv⟩
 go_wp2
 go_ret
 refine ⟨rfl,?_,?_,((hk1.alloc _).grown hgrow (Lib.ownsRowF_kind (hown.alloc _))).setCell ⟨b,1,none⟩ rfl _⟩
 ·exact Lib.BuilderAtF.put (T:=T) (e:=5) hB hb2 (bs':=bs++[.int .u8 c]) (by simpa using hown') hT.ne
 ·exact ((hb1.alloc (by have:=hb1.size;omega) _).grown hgrow (by have:=hb1.size;simp;omega) (fun k hk=>(hown.lt k hk).1)).setCell (p:=⟨b,1,none⟩) hB _
set_option maxRecDepth 100000 in
set_option maxHeartbeats 2000000 in
theorem bstr_any (hT:BldT T) (B b:Nat) (bs:List Value) (s:ByteArray) (w:World) (h:BldF T B b bs w) (hlen:bs.length+s.size≤140737488355328) (hBw:B≤w.heap.size) :
  Calls Tryz.prog 43 #[.pointer (some ⟨b,0,none⟩),.string s] w fun e w'=>e=.returned (.tuple #[.int .i64 s.size,.nilIface])∧BldU T B b (bs++Lib.strCells s) w'∧Below B w w'∧Lib.OthersKept 5 (some b) w w':=by
 obtain ⟨i0,hi,hz0,hz1,hz2⟩:=info_parts infoU8
 have CC:=Lib.hid (bcopy_any hT B b bs w h)
 go_enter Tryz.func43,Tryz.ntmps43
 go_wp2_with (go_at_call 71;refine CC.out.mono ?_)
 rintro e w1 ⟨rfl,h1,hb1,hk1⟩
 obtain ⟨hB,v,hbk,hown,hne⟩:=h1
 have c0:w1.cell? ⟨b,0,none⟩=some (.pointer (some ⟨b,0,none⟩)):=by rw [Lib.cell_of_heap hbk];rfl
 have c1:w1.cell? ⟨b,1,none⟩=some v:=by rw [Lib.cell_of_heap hbk];rfl
 go_wp2_with (at_builtin;refine Lib.wpList_append_own_stringF _ rfl _ _ 90 9 rfl B 5 i0 Tryz.underlying90 Tryz.underlying9 hi hz0 hz1 hz2 _ _ _ rfl hown s rfl ?c3 ?c4 ?c5 ?_)
 case c3=>unfold maxLen;omega
 case c4=>omega
 case c5=>have:=hb1.size;omega
 intro v' w2 hown' hgrow _
 have hlt:=lt_of_block hbk
 have hb2:w2.heap[b]?=some (.cells #[.pointer (some ⟨b,0,none⟩),v] T (0,0)):=by
  rw [hgrow.block b hlt (fun e=>hne e.symm)]
  exact hbk
 have d0:w2.cell? ⟨b,0,none⟩=some (.pointer (some ⟨b,0,none⟩)):=by rw [Lib.cell_of_heap hb2];rfl
 have d1:w2.cell? ⟨b,1,none⟩=some v:=by rw [Lib.cell_of_heap hb2];rfl
 have f1:w2.frozen? ⟨b,1,none⟩=false:=Lib.frozen_of_heap hb2 1
 obtain ⟨ao,n',cap,rfl⟩:∃ao n' cap,v'=.slice ao n' cap:=by
  rcases hown'.2 with ⟨hv,_⟩ | ⟨g,cap,cur,fz,hv,_⟩
  ·exact ⟨_,_,_,hv⟩
  ·exact ⟨_,_,_,hv⟩
 go_wp2
 go_ret2
 refine ⟨rfl,?_,?_,(hk1.grown hgrow (Lib.ownsRowF_kind hown)).setCell ⟨b,1,none⟩ rfl _⟩
 ·exact Lib.BuilderAtF.put (T:=T) (e:=5) hB hb2 (bs':=bs++Lib.strCells s) (by simpa [Lib.strCells_length] using hown') hT.ne
 ·exact (hb1.grown hgrow (by have:=hb1.size;omega) (fun k hk=>(hown.lt k hk).1)).setCell (p:=⟨b,1,none⟩) hB _
set_option maxHeartbeats 1000000 in
set_option maxRecDepth 100000 in
theorem bstring_any (B b:Nat) (l:List UInt8) (w:World) (h:BldF T B b (Lib.byteCells l) w) (h0:l≠[]) :
  Calls Tryz.prog 44 #[.pointer (some ⟨b,0,none⟩)] w fun e w'=>e=.returned (.string (bytesOf l))∧Below B w w'∧Lib.OthersKept 5 (some b) w w':=by
 obtain ⟨p,hB,v,hbk,hown,hne⟩:∃p,Lib.BuilderAtF T 5 B b p (Lib.byteCells l) w:=by
  rcases h with h | h
  ·exact ⟨_,h⟩
  ·exact ⟨_,h⟩
 have hl0:l.length≠0:=by simpa using h0
 rw [Lib.byteCells_length] at hown
 obtain ⟨g,cap,cur,fz,rfl,hbg,hg,hfz,hnc,hcm,hcs,htake⟩:∃g cap cur fz,v=.slice (some ⟨g,0,none⟩) l.length cap∧B≤g∧w.heap[g]?=some (.cells cur 5 fz)∧fz.2≤l.length * 1∧l.length≤cap∧cap≤maxLen∧cur.size=cap * 1∧cur.toList.take (l.length * 1)=Lib.byteCells l:=by
  rcases hown.2 with ⟨_,hz⟩ | ⟨g,cap,cur,fz,hv,r⟩
  ·exact absurd hz hl0
  ·exact ⟨g,cap,cur,fz,hv,r⟩
 have c1:w.drew.cell? ⟨b,1,none⟩=some (.slice (some ⟨g,0,none⟩) l.length cap):=by
  have:w.drew.heap[b]?=some (.cells #[p,.slice (some ⟨g,0,none⟩) l.length cap] T (0,0)):=hbk
  rw [Lib.cell_of_heap this];rfl
 have hSD:(Builtin.unsafeSliceData_ #[90] 115 #[.slice (some ⟨g,0,none⟩) l.length cap]).run Tryz.prog w.drew=.ok (.pointer (some ⟨g,0,none⟩)) w.drew :=
  Lib.run_unsafeSliceData_row _ _ _ _ _ _ (by omega)
 have hUS:(Builtin.unsafeString_ #[115,3] 9 #[.pointer (some ⟨g,0,none⟩),.int .i64 l.length]).run Tryz.prog w.drew=.ok (.string ⟨l.toArray⟩) (w.drew.freeze ⟨g,0,none⟩ l.length):=by
  refine Lib.run_unsafeString_row w.drew 115 3 9 5 Tryz.underlying115 (by kernel_rfl) g cur.size (by have hg':w.drew.heap[g]?=some (.cells cur 5 fz):=hg;simp [World.shape?,hg']) l h0 (by omega) (by unfold maxLen at hcm;omega) ?_
  intro j x hx
  exact hown.cells (g:=g) rfl j (.int .u8 x.toNat) (by simp [Lib.byteCells,hx])
 go_enter Tryz.func44,Tryz.ntmps44
 go_wp2
 go_region
 all_goals (go_wp2;go_ret;exact ⟨rfl,Lib.below_freeze (Below.drew (Below.refl B w)) (p:=⟨g,0,none⟩) hbg _,((Lib.OthersKept.refl _ _ w).drew).freeze ⟨g,0,none⟩ _ ⟨cur,fz,hg⟩⟩)
end Go.Proofs.YtdfenhjibnfdeaaGreatDoor

namespace Go.Proofs.YtdfenhjibnfdeaaGreatDoor
open Go.RowKit Go.Shelf
theorem cells_str (l:List UInt8) (s:ByteArray):Lib.byteCells l++Lib.strCells s=Lib.byteCells (l++lstB s):=by simp [Lib.byteCells,Lib.strCells,lstB]
theorem cells_byte (l:List UInt8) (c:UInt8):Lib.byteCells l++[.int .u8 c.toNat]=Lib.byteCells (l++[c]):=by simp [Lib.byteCells]
theorem lstB_len (s:ByteArray):(lstB s).length=s.size:=by rw [lstB,Array.length_toList];rfl
def quoteB (s:ByteArray):ByteArray:=bytesOf (quoteL (lstB s))
theorem quote_take (s:ByteArray) (k:Nat) (h:k<s.size):(34 :: ((lstB s).take (k+1)).flatMap escC:List UInt8)=(34 :: ((lstB s).take k).flatMap escC)++escC s[k]:=by
 show (34 :: (s.data.toList.take (k+1)).flatMap escC:List UInt8)=_
 rw [take_snoc s k h,List.flatMap_append];simp [lstB]
theorem esc_len (c:UInt8):(escC c).length≤2:=by unfold escC;split<;>(try split)<;>simp
theorem esc_flat (l:List UInt8):(l.flatMap escC).length≤2 * l.length:=by
 induction l with
 |nil=>simp
 |cons a r ih=>have:=esc_len a;simp only [List.flatMap_cons,List.length_append,List.length_cons];omega
set_option maxRecDepth 100000 in
set_option maxHeartbeats 4000000 in
theorem quote_any (s:ByteArray) (hs:s.size≤1000000) (w:World) :
  Calls Tryz.prog 16 #[.string s] w fun e w'=>e=.returned (.string (quoteB s))∧Below w.heap.size w w':=by
 have hb0:Below w.heap.size w (w.alloc (.cells #[.pointer none,.slice none 0 0] 92)):=(Below.refl _ w).alloc (Nat.le_refl _) _
 have h0:BldF 92 w.heap.size w.heap.size (Lib.byteCells []) (w.alloc (.cells #[.pointer none,.slice none 0 0] 92)) :=
  .inl ⟨Nat.le_refl _,_,row_new w _,World.ownsRowF_of (World.ownsRow_nil _ _ _ _),by simp [Value.ownBlock]⟩
 have C0:=Lib.hid (bbyte_any bldB w.heap.size w.heap.size _ 34 _ h0 (by simp [Lib.byteCells]) hb0.size)
 clear h0
 go_enter Tryz.func16,Tryz.ntmps16
 go_wp2_with fail
 refine C0.out.mono ?_
 rintro e w1 ⟨rfl,h1,hb1,-⟩
 have h1':BldU 92 w.heap.size w.heap.size (Lib.byteCells (34 :: ((lstB s).take 0).flatMap escC)) w1:=h1
 have B1:=hb0.trans hb1
 clear h1 hb1 hb0 C0
 go_wp2
 go_loopw [9] (fun i wr=>∃k:Nat,k≤s.size∧i=.int .i64 k∧BldU 92 w.heap.size w.heap.size (Lib.byteCells (34 :: ((lstB s).take k).flatMap escC)) wr∧Below w.heap.size w wr) (fun i _=>s.size - (intOf i).toNat)
 case atStart=>exact ⟨0,by omega,rfl,h1',B1⟩
 case round =>
  clear h1' B1
  obtain ⟨k,hk,rfl,hW,hbr⟩:=hrel
  have hsz:=hbr.size
  have hlen:(34 :: ((lstB s).take k).flatMap escC:List UInt8).length≤3000000:=by
   have h1:=esc_flat ((lstB s).take k)
   have h2:((lstB s).take k).length≤s.size:=by rw [List.length_take,lstB_len];omega
   simp only [List.length_cons];omega
  by_cases hlt:k<s.size
  ·have HQ:=Lib.hid (quote_take s k hlt)
   have hu:=UInt8.toNat_lt s[k]
   by_cases e1:s[k].toNat=10
   ·have C1:=Lib.hid (bstr_any bldB _ _ _ (⟨#[92,110]⟩:ByteArray) wr (.inr hW) (by rw [Lib.byteCells_length];have:(⟨#[92,110]⟩:ByteArray).size=2:=rfl;omega) hsz)
    rw [cells_str] at C1
    have HC:=Lib.hid (show lstB (⟨#[92,110]⟩:ByteArray)=escC s[k] by rw [escC,if_pos e1];rfl)
    rw [HC.out] at C1
    clear hW
    go_wp2_with (go_at_call 43;refine C1.out.mono ?_;rintro e w2 ⟨rfl,h2,hb2,-⟩)
    go_wp2
    go_roundw
    case rel=>exact ⟨k+1,by omega,by go_num,by rw [HQ.out];exact h2,hbr.trans hb2⟩
    case measure=>simp [intOf];omega
   by_cases e2:s[k].toNat=34∨s[k].toNat=92
   ·have HC:=Lib.hid (show escC s[k]=[92]++[s[k]] by rw [escC,if_neg e1,if_pos e2];rfl)
    have C1:=Lib.hid (bbyte_any bldB _ _ _ 92 wr (.inr hW) (by rw [Lib.byteCells_length];omega) hsz)
    have C2:∀w2,BldU 92 w.heap.size w.heap.size (Lib.byteCells ((34 :: ((lstB s).take k).flatMap escC)++[92])) w2→w.heap.size≤w2.heap.size→Calls Tryz.prog 42 #[.pointer (some ⟨w.heap.size,0,none⟩),.int .u8 s[k].toNat] w2 fun e w'=>e=.returned .nilIface∧BldU 92 w.heap.size w.heap.size (Lib.byteCells (((34 :: ((lstB s).take k).flatMap escC)++[92])++[s[k]])) w'∧Below w.heap.size w2 w':=fun w2 h hz =>
     (bbyte_any bldB _ _ _ s[k].toNat w2 (.inr h) (by rw [Lib.byteCells_length];simp only [List.length_append,List.length_cons,List.length_nil] at *;omega) hz).mono fun e w' h=>⟨h.1,by have:=h.2.1;rw [cells_byte] at this;exact this,h.2.2.1⟩
    have HC2:=Lib.hid (show (34 :: ((lstB s).take k).flatMap escC)++escC s[k]=((34 :: ((lstB s).take k).flatMap escC)++[92])++[s[k]] by rw [HC.out,List.append_assoc])
    generalize 34 :: ((lstB s).take k).flatMap escC=X at *
    have HH:=Lib.hid hW
    clear hW
    rcases e2 with e2 | e2
    all_goals
     rw [e2] at C2
     have C2:=Lib.hid C2
     go_wp2_with fail
     refine C1.out.mono ?_
     rintro e w2 ⟨rfl,h2,hb2,-⟩
     have h2':BldU 92 w.heap.size w.heap.size (Lib.byteCells (X++[92])) w2:=by rw [←cells_byte];exact h2
     have C3:=Lib.hid (C2.out w2 h2' (Nat.le_trans hsz hb2.size))
     clear h2 h2'
     go_wp2_with fail
     refine C3.out.mono ?_
     rintro e w3 ⟨rfl,h3,hb3⟩
     go_wp2
     go_roundw
     case rel=>exact ⟨k+1,by omega,by go_num,by rw [HQ.out];exact (by rw [HC2.out];exact h3),(hbr.trans hb2).trans hb3⟩
     case measure=>simp [intOf];omega
   have HC:=Lib.hid (show escC s[k]=[s[k]] by rw [escC,if_neg e1,if_neg e2])
   have C1:=Lib.hid (bbyte_any bldB _ _ _ s[k].toNat wr (.inr hW) (by rw [Lib.byteCells_length];omega) hsz)
   rw [cells_byte] at C1
   have e3:¬s[k].toNat=34:=fun h=>e2 (.inl h)
   have e4:¬s[k].toNat=92:=fun h=>e2 (.inr h)
   clear hW e2
   go_wp2_with (go_at_call 42;refine C1.out.mono ?_;rintro e w2 ⟨rfl,h2,hb2,-⟩)
   go_wp2
   go_roundw
   case rel=>exact ⟨k+1,by omega,by go_num,by rw [HQ.out];exact (by rw [HC.out];exact h2),hbr.trans hb2⟩
   case measure=>simp [intOf];omega
  ·obtain rfl:k=s.size:=by omega
   have HA:=Lib.hid (show quoteL (lstB s)=(34 :: ((lstB s).take s.size).flatMap escC)++[34] by
    rw [List.take_of_length_le (by rw [lstB_len];exact Nat.le_refl _)];rfl)
   have C1:=Lib.hid (bbyte_any bldB _ _ _ 34 wr (.inr hW) (by rw [Lib.byteCells_length];omega) hsz)
   clear hW
   go_wp2_with fail
   refine C1.out.mono ?_
   rintro e w2 ⟨rfl,h2,hb2,-⟩
   have h2':BldU 92 w.heap.size w.heap.size (Lib.byteCells ((34 :: ((lstB s).take s.size).flatMap escC)++[34])) w2:=by rw [←cells_byte];exact h2
   rw [←HA.out] at h2'
   have C2:=Lib.hid (bstring_any _ _ _ w2 (.inr h2') (by unfold quoteL;simp))
   clear h2 h2'
   go_wp2_with fail
   refine C2.out.mono ?_
   rintro e w3 ⟨rfl,hb3,-⟩
   go_wp2
   go_ret
   exact ⟨rfl,(hbr.trans hb2).trans hb3⟩
end Go.Proofs.YtdfenhjibnfdeaaGreatDoor

namespace Go.Proofs.YtdfenhjibnfdeaaGreatDoor
open Go.RowKit Go.Shelf
def joinB (l:List ByteArray) (sep:ByteArray):ByteArray:=⟨(Lib.join (l.map (·.data.toList)) sep.data.toList).toArray⟩
def parT (o:Int) (s:ByteArray):ByteArray:=if o=5∨o=6 then (⟨#[40]⟩++s)++⟨#[41]⟩ else s
mutual
def textC:CondD→ByteArray
 |.mk o k v n ks =>
  if o=2 then k
  else if o=3 then (k++⟨#[32,61,32]⟩)++quoteB v
  else if o=7 then (k++⟨#[32,62,32]⟩)++itoaB n
  else if o=4 then ⟨#[110,111,116,32]⟩++(textK ks).headD ⟨#[]⟩
  else if o=5 then joinB (textK ks) ⟨#[32,97,110,100,32]⟩
  else if o=6 then joinB (textK ks) ⟨#[32,111,114,32]⟩
  else wAlways
def textK:List CondD→List ByteArray
 |[]=>[]
 |c :: r=>parT c.op (textC c) :: textK r
end
def kidT (c:CondD):ByteArray:=parT c.op (textC c)
theorem textK_map:∀ks:List CondD,textK ks=ks.map kidT
 |[]=>by rw [textK];rfl
 |c :: r=>by rw [textK,textK_map r];rfl
theorem textC_eq (o:Int) (k v:ByteArray) (n:Int) (ks:List CondD):textC (.mk o k v n ks)=if o=2 then k
  else if o=3 then (k++⟨#[32,61,32]⟩)++quoteB v
  else if o=7 then (k++⟨#[32,62,32]⟩)++itoaB n
  else if o=4 then ⟨#[110,111,116,32]⟩++(ks.map kidT).headD ⟨#[]⟩
  else if o=5 then joinB (ks.map kidT) ⟨#[32,97,110,100,32]⟩
  else if o=6 then joinB (ks.map kidT) ⟨#[32,111,114,32]⟩
  else wAlways:=by rw [textC,textK_map]
theorem join_ge (sep:List UInt8):∀(l:List ByteArray) (s:ByteArray),s∈l→s.size≤(Lib.join (l.map (·.data.toList)) sep).length
 |[],_,h=>by cases h
 |[a],s,h=>by
  rw [List.mem_singleton.1 h]
  have e:a.data.size=a.size:=rfl
  simp [Lib.join,e]
 |a :: b :: r,s,h=>by
  have e:a.data.size=a.size:=rfl
  have ih:=join_ge sep (b :: r)
  simp only [Lib.join,List.map_cons,List.intercalate_cons_cons,List.length_append,Array.length_toList] at ih ⊢
  rcases List.mem_cons.1 h with rfl | h
  ·omega
  ·have:=ih s h;omega
theorem joinB_size (l:List ByteArray) (sep:ByteArray):(joinB l sep).size=(Lib.join (l.map (·.data.toList)) sep.data.toList).length:=List.size_toArray ..
theorem kidT_size (c:CondD):(textC c).size≤(kidT c).size:=by
 unfold kidT parT
 split
 ·simp only [ByteArray.size_append];omega
 ·exact Nat.le_refl _
theorem kid_size {o:Int} {k v:ByteArray} {n:Int} {ks:List CondD} (hok:nodeOK (.mk o k v n ks)=true) {c:CondD} (h:c∈ks):(kidT c).size≤(textC (.mk o k v n ks)).size:=by
 have hm:kidT c∈ks.map kidT:=List.mem_map.2 ⟨c,h,rfl⟩
 have hk:0<ks.length:=List.length_pos_of_mem h
 have hok:nodeB o k v n ks.length=true:=hok
 rw [textC_eq]
 unfold nodeB at hok
 by_cases h1:o=1
 ·rw [if_pos h1] at hok;simp only [Bool.and_eq_true,decide_eq_true_eq] at hok;omega
 by_cases h2:o=2
 ·rw [if_neg h1,if_pos h2] at hok;simp only [Bool.and_eq_true,decide_eq_true_eq] at hok;omega
 by_cases h3:o=3
 ·rw [if_neg h1,if_neg h2,if_pos h3] at hok;simp only [Bool.and_eq_true,decide_eq_true_eq] at hok;omega
 by_cases h7:o=7
 ·rw [if_neg h1,if_neg h2,if_neg h3,if_pos h7] at hok;simp only [Bool.and_eq_true,decide_eq_true_eq] at hok;omega
 rw [if_neg h2,if_neg h3,if_neg h7]
 by_cases h4:o=4
 ·rw [if_neg h1,if_neg h2,if_neg h3,if_neg h7,if_pos h4] at hok
  rw [if_pos h4]
  simp at hok
  obtain ⟨x,rfl⟩:=List.length_eq_one_iff.1 hok.2
  rw [List.mem_singleton.1 h]
  simp only [List.map_cons,List.map_nil,List.headD_cons,ByteArray.size_append];omega
 rw [if_neg h4]
 by_cases h5:o=5
 ·rw [if_pos h5,joinB_size];exact join_ge _ _ _ hm
 rw [if_neg h5]
 by_cases h6:o=6
 ·rw [if_pos h6,joinB_size];exact join_ge _ _ _ hm
 rw [if_neg h1,if_neg h2,if_neg h3,if_neg h7,if_neg h4,if_neg (by omega)] at hok
 cases hok
theorem callC_kid {p:CondD→Bool}:∀{ks:List CondD},callL p ks=true→∀c∈ks,callC p c=true
 |[],_,_,h=>by cases h
 |x :: r,h,c,hc=>by
  rw [callL,Bool.and_eq_true] at h
  rcases List.mem_cons.1 hc with rfl | hc
  ·exact h.1
  ·exact callC_kid h.2 c hc
end Go.Proofs.YtdfenhjibnfdeaaGreatDoor

namespace Go.Proofs.YtdfenhjibnfdeaaGreatDoor
open Go.RowKit
def clsQ (n:Nat):Int :=
 if n=32∨n=9∨n=10 then 1 else if n=35 then 2 else if 97≤n∧n≤122∨65≤n∧n≤90 then 3 else if 48≤n∧n≤57 then 4 else if n=95 then 5
 else if ([59,44,46,58,40,41,123,125,91,93,61,60,62,47,45]:List Nat).contains n then 6 else if n=34 then 7 else 0
theorem cls_all:((List.range 256).all fun n=>decide (clsF n=clsQ n))=true:=by decide +kernel
theorem cls_eq {n:Nat} (h:n<256):clsF n=clsQ n:=by
 have:=List.all_eq_true.1 cls_all n (List.mem_range.2 h)
 simpa using this
def clAt (s:ByteArray) (i:Nat):Int:=if h:i<s.size then clsF s[i].toNat else 0
theorem clAt_lt {s:ByteArray} {i:Nat} (h:i<s.size):clAt s i=clsF s[i].toNat:=by rw [clAt,dif_pos h]
theorem clAt_ge {s:ByteArray} {i:Nat} (h:¬i<s.size):clAt s i=0:=by rw [clAt,dif_neg h]
set_option maxRecDepth 100000 in
set_option maxHeartbeats 1000000 in
theorem at_any (i Bt Bc:Nat) (s:ByteArray) (w:World) (ht:w.heap[Bt]?=some (.cells #[.string s] 9 (0,0))) (hc:w.heap[Bc]?=some (.cells (tabU clsF) 106 (0,0))) :
  Calls Tryz.prog 68 #[.int .i64 i,.pointer (some ⟨Bt,0,none⟩),.pointer (some ⟨Bc,0,none⟩)] w fun e w'=>e=.returned (.int .u8 (clAt s i))∧w'=w:=by
 obtain ⟨tz,t0⟩:=rk1 ht
 have ht':=Lib.hid ht
 clear ht
 by_cases hi:i<s.size
 ·have hu:=UInt8.toNat_lt s[i]
  have c0:w.cell? ⟨Bc,s[i].toNat,none⟩=some (.int .u8 (clsF s[i].toNat)):=(cell_of_row w _ s[i].toNat _ _ _ hc).trans (tabU_get _ _ hu)
  have HE:=Lib.hid (clAt_lt hi)
  have D1:decide ((s.size:Int)≤(i:Int))=false:=by rw [decide_eq_false_iff_not];omega
  have D2:decide (s.size≤i)=false:=by rw [decide_eq_false_iff_not];omega
  clear hc
  go_enter Tryz.func68,Tryz.ntmps68
  go_wp2
  go_ret
  exact ⟨ret_int HE.out.symm,rfl⟩
 ·have HE:=Lib.hid (clAt_ge hi)
  have D1:decide ((s.size:Int)≤(i:Int))=true:=by rw [decide_eq_true_eq];omega
  have D2:decide (s.size≤i)=true:=by rw [decide_eq_true_eq];omega
  clear hc
  go_enter Tryz.func68,Tryz.ntmps68
  go_wp2
  go_ret
  exact ⟨ret_int HE.out.symm,rfl⟩
set_option maxRecDepth 100000 in
theorem tokens_any (s:ByteArray) (w:World) :
  Calls Tryz.prog 41 #[.string s] w fun e w'=>∃Bt Bc Bf,e=.returned (.func (.func 69) #[] #[.pointer (some ⟨Bt,0,none⟩),.pointer (some ⟨Bf,0,none⟩)])∧w.heap.size≤Bt∧w.heap.size≤Bc∧w.heap.size≤Bf ∧
   w'.heap[Bt]?=some (.cells #[.string s] 9 (0,0))∧w'.heap[Bc]?=some (.cells (tabU clsF) 106 (0,0))∧w'.heap[Bf]?=some (.cells #[.func (.func 68) #[] #[.pointer (some ⟨Bt,0,none⟩),.pointer (some ⟨Bc,0,none⟩)]] 111 (0,0))∧Below w.heap.size w w':=by
 have hmf:∀(fn:Fn) (first cap:Array Value) (w:World),(Instr.makeFunc fn first cap).run Tryz.prog w=.ok (.func fn first cap) w:=fun _ _ _ _=>rfl
 go_enter Tryz.func41,Tryz.ntmps41
 go_wp2_with fail
 refine (classes_tab _).mono ?_;rintro e w1 ⟨rfl,hb1⟩
 have HS:=Lib.hid (show (Tryz.prog.info? 106).map (·.size)=some (tabU clsF).size by rw [tabU_size];kernel_rfl)
 have H2:=Lib.hid (show Tryz.zeroCells106.size=(tabU clsF).size by rw [←tabU_zero,tabU_size,tabU_size])
 go_wp2_with (refine wpList_store_row rfl 106 (.tmp 3) (.tmp 5) rfl w1.heap.size (tabU clsF) rfl rfl 106 Tryz.zeroCells106 (heap_alloc_new w1 _) HS.out H2.out (tabU_one _) ?_)
 have HB:=Lib.hid (setRow_heap _ w1.heap.size Tryz.zeroCells106 (tabU clsF) 106 (0,0) (heap_alloc_new w1 (.cells Tryz.zeroCells106 106)))
 have hb1s:=hb1.size
 have B2:Below w.heap.size w ((w1.alloc (.cells Tryz.zeroCells106 106)).setRow w1.heap.size (tabU clsF)):=below_setRow' ((((Below.refl _ w).alloc (Nat.le_refl _) _).trans (hb1.mono (by simp))).alloc (by simp at hb1s;omega) _) (by simp at hb1s;omega) _
 have HT:=Lib.hid (show ((w1.alloc (.cells Tryz.zeroCells106 106)).setRow w1.heap.size (tabU clsF)).heap[w.heap.size]?=some (.cells #[.string s] 9 (0,0)) by
  rw [setRow_other _ _ _ _ (by simp at hb1s;omega)]
  exact row_past (row_later hb1 (row_new w _)))
 have HZ:=Lib.hid (show ((w1.alloc (.cells Tryz.zeroCells106 106)).setRow w1.heap.size (tabU clsF)).heap.size=w1.heap.size+1 by simp)
 generalize hw2:(w1.alloc (.cells Tryz.zeroCells106 106)).setRow w1.heap.size (tabU clsF)=w2
 rw [hw2] at HB B2 HT HZ
 have bz:=lt_of_block HB.out
 clear hw2 HS H2 hb1
 go_wp2
 go_ret
 exact ⟨w.heap.size,w1.heap.size,w1.heap.size+1,rfl,Nat.le_refl _,by simp at hb1s;omega,by simp at hb1s;omega,row_past HT.out,row_past HB.out,by rw [←HZ.out];exact row_new w2 _,B2.alloc B2.size _⟩
end Go.Proofs.YtdfenhjibnfdeaaGreatDoor
