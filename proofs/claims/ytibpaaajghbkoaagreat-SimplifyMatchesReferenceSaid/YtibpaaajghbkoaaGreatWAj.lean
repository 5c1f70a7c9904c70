/-      -/
import Derived.Test.YtibpaaajghbkoaaGreatWAi
namespace Go.Proofs.YtibpaaajghbkoaaGreat
def idxR (id:ByteArray) (refs:List ByteArray):Nat:=refs.findIdx fun r=>decide (r=id)
def nbrO (o:ObjD) (id:ByteArray):Option KeyD :=
 if (o.kind=2∧¬(idxR id o.refs=0∨idxR id o.refs=o.refs.length - 1∨id∈o.refs.drop (idxR id o.refs+1)))∨(o.kind=3∧¬o.refs.length<4) then
  if zcc o ((idxR id o.refs+o.refs.length - 1) % o.refs.length)=zcc o ((idxR id o.refs+1) % o.refs.length) then none
  else some (key2 (zcc o ((idxR id o.refs+o.refs.length - 1) % o.refs.length)) (zcc o ((idxR id o.refs+1) % o.refs.length)))
 else none
def zax (l:List ObjD) (id:ByteArray):List ObjD:=l.filter fun o=>decide (id∈o.refs)
def zcr (l:List ObjD) (id:ByteArray):Option KeyD :=
 match zax l id with
 |[]=>none
 |o :: os=>match nbrO o id with
  |none=>none
  |some p=>if (os.all fun x=>decide (nbrO x id=some p))=true then some p else none
def zbq (id:ByteArray) (refs:List ByteArray):List ByteArray:=refs.filter fun r=>decide (r≠id)
def zbz (id:ByteArray) (o:ObjD):ObjD:={ o with refs:=zbq id o.refs }
def zaz (l:List ObjD) (id:ByteArray):List ObjD:=(l.filter fun o=>decide (o.id≠id)).map (zbz id)
def zgi (m:List ObjD) (D:List ByteArray):List ObjD:=(m.filter fun o=>decide (o.id ∉ D)).map fun o=>{ o with refs:=o.refs.filter fun r=>decide (r ∉ D) }
theorem zrf (m:List ObjD):zgi m []=m:=by
 unfold zgi;have h1:(m.filter fun o=>decide (o.id ∉ ([]:List ByteArray)))=m:=List.filter_eq_self.2 (fun o _=>by simp);rw [h1];have h2:(fun o:ObjD=>{ o with refs:=o.refs.filter fun r=>decide (r ∉ ([]:List ByteArray)) })=id:=by funext o;have:(o.refs.filter fun r=>decide (r ∉ ([]:List ByteArray)))=o.refs:=List.filter_eq_self.2 (fun o _=>by simp);rw [this];rfl
 rw [h2,List.map_id]
theorem zsr (m:List ObjD) (D:List ByteArray) (id:ByteArray):zaz (zgi m D) id=zgi m (id :: D):=by
 unfold zaz zgi;rw [List.filter_map,List.map_map,List.filter_filter];have e1:(m.filter fun a=>((fun o:ObjD=>decide (o.id≠id)) ∘ fun o:ObjD=>{ o with refs:=o.refs.filter fun r=>decide (r ∉ D) }) a && decide (a.id ∉ D))=m.filter fun o=>decide (o.id ∉ id :: D):=by refine List.filter_congr fun o _=>?_;rw [Bool.eq_iff_iff];simp [not_or]
 rw [e1];refine List.map_congr_left fun o _=>?_;simp only [Function.comp,zbz,zbq,List.filter_filter];congr 1;refine List.filter_congr fun r _=>?_;rw [Bool.eq_iff_iff];simp [not_or]
theorem zkt {m:List ObjD} {D:List ByteArray} {x:ObjD}:x∈zgi m D↔∃o∈m,o.id ∉ D∧x={ o with refs:=o.refs.filter fun r=>decide (r ∉ D) }:=by
 unfold zgi;rw [List.mem_map];constructor
 ·rintro ⟨o,ho,rfl⟩;rw [List.mem_filter,decide_eq_true_eq] at ho;exact ⟨o,ho.1,ho.2,rfl⟩
 ·rintro ⟨o,ho,h,rfl⟩;exact ⟨o,List.mem_filter.2 ⟨ho,decide_eq_true h⟩,rfl⟩
theorem zhh {id:ByteArray} {refs:List ByteArray} (h:id∈refs):idxR id refs<refs.length∧refs=refs.take (idxR id refs)++id :: refs.drop (idxR id refs+1)∧id ∉ refs.take (idxR id refs):=by
 have hl:idxR id refs<refs.length:=List.findIdx_lt_length_of_exists ⟨id,h,decide_eq_true rfl⟩;have he:refs[idxR id refs]=id:=of_decide_eq_true (List.findIdx_getElem (w:=hl));refine ⟨hl,?_,?_⟩
 ·conv=>lhs;rw [←List.take_append_drop (idxR id refs) refs]
  rw [List.drop_eq_getElem_cons hl,he]
 ·intro c;obtain ⟨j,hj,e⟩:=List.mem_take_iff_getElem.1 c;have:=List.not_of_lt_findIdx (p:=fun r=>decide (r=id)) (xs:=refs) (i:=j) (show j<idxR id refs by omega);simp [e] at this
def chainB:Option ByteArray→List ByteArray→Bool
 |_,[]=>true
 |p,s :: l=>decide (p≠some s) && chainB (some s) l
theorem zse:∀(l pre:List ByteArray),zar 2 pre l=(l.all zcw && chainB pre.getLast? l)
 |[],_=>rfl
 |s :: l,pre=>by rw [zar,zse l (pre++[s]),List.all_cons,chainB,zgu];cases zcw s<;>cases l.all zcw<;>by_cases h:pre.getLast?=some s<;>simp [h]
theorem zsc:∀(l pre:List ByteArray),(∀s∈l,zcw s=true)→(∀s∈l,s ∉ pre)→l.Nodup→zar 3 pre l=true
 |[],_,_,_,_=>rfl
 |s :: l,pre,h1,h2,h3=>by
  obtain ⟨h4,h5⟩:=List.nodup_cons.1 h3;have ih:=zsc l (pre++[s]) (fun x hx=>h1 x (by simp [hx])) (fun x hx c=>by
   rcases List.mem_append.1 c with c | c
   ·exact h2 x (by simp [hx]) c
   ·rw [List.mem_singleton.1 c] at hx;exact h4 hx) h5
  have h6:(pre.any fun p=>decide (p=s))=false:=by rw [List.any_eq_false];intro p hp;simp only [decide_eq_true_eq];intro e;subst e;exact h2 p (by simp) hp
  rw [zar,ih,h1 s (by simp),h6];rfl
theorem zsd:∀(k:Int) (l pre:List ByteArray),zar k pre l=true→∀s∈l,zcw s=true
 |_,[],_,_,s,hs=>by cases hs
 |k,t :: l,pre,h,s,hs=>by
  simp only [zar,Bool.and_eq_true] at h;rcases List.mem_cons.1 hs with rfl | hs
  ·exact h.1.1.1
  ·exact zsd k l _ h.2 s hs
theorem zst:∀(A B:List ByteArray) (p:Option ByteArray) (id:ByteArray),A≠[]→chainB p (A++id :: B)=true→(∀b,B.head?=some b→A.getLast?≠some b)→chainB p (A++B)=true
 |[],_,_,_,h,_,_=>absurd rfl h
 |[a],B,p,id,_,h,hb=>by
  simp only [List.cons_append,List.nil_append,chainB,Bool.and_eq_true] at h ⊢;refine ⟨h.1,?_⟩;cases B with
  |nil=>rfl
  |cons b B =>simp only [chainB,Bool.and_eq_true,decide_eq_true_eq] at h ⊢;have:=hb b rfl;exact ⟨by simpa using this,h.2.2.2⟩
 |a :: a' :: A,B,p,id,_,h,hb=>by have ih:=zst (a' :: A) B (some a) id (by simp);simp only [List.cons_append,chainB,Bool.and_eq_true] at h ih ⊢;exact ⟨h.1,ih h.2 (fun b e=>by have:=hb b e;simpa using this)⟩
theorem zol {id:ByteArray} {A B:List ByteArray} (hA:id ∉ A) (hB:id ∉ B):zbq id (A++id :: B)=A++B:=by unfold zbq;rw [List.filter_append,List.filter_cons];have h1:(A.filter fun r=>decide (r≠id))=A:=List.filter_eq_self.2 fun _ hr=>decide_eq_true fun e=>hA (e ▸ hr);have h2:(B.filter fun r=>decide (r≠id))=B:=List.filter_eq_self.2 fun _ hr=>decide_eq_true fun e=>hB (e ▸ hr);rw [h1,h2];simp
theorem zgt {id:ByteArray} {A:List ByteArray} (hA:id ∉ A):zbq id A=A:=List.filter_eq_self.2 fun _ hr=>decide_eq_true fun e=>hA (e ▸ hr)
theorem zks {o:ObjD} {id:ByteArray} {p:KeyD} (hok:zay o=true) (hid:id∈o.refs) (h:nbrO o id=some p) :
  (o.kind=2∨o.kind=3)∧∃A B,o.refs=A++id :: B∧id ∉ A∧id ∉ B∧(o.kind=2→A≠[]∧B≠[]∧∀b,B.head?=some b→A.getLast?≠some b)∧(o.kind=3→4≤o.refs.length):=by
 obtain ⟨hl,hs,hA⟩:=zhh hid;unfold nbrO at h;split at h
 ·rename_i hc;split at h
  ·cases h
  ·rename_i hne;refine ⟨hc.imp (·.1) (·.1),o.refs.take (idxR id o.refs),o.refs.drop (idxR id o.refs+1),hs,hA,?_,?_,?_⟩
   ·rcases hc with ⟨_,h2⟩ | ⟨hk,_⟩
    ·exact fun c=>h2 (Or.inr (Or.inr c))
    ·have hr:zar 3 [] o.refs=true:=by simp only [zay,Bool.and_eq_true] at hok;rw [←hk];exact hok.1.2
     have hn:=(ziy _ _ hr).2;rw [hs] at hn;have:=(List.nodup_append.1 hn).2.1;exact (List.nodup_cons.1 this).1
   ·intro hk;rcases hc with ⟨_,h2⟩ | ⟨hk3,_⟩
    ·have hi0:idxR id o.refs≠0:=fun c=>h2 (Or.inl c);have hi1:idxR id o.refs≠o.refs.length - 1:=fun c=>h2 (Or.inr (Or.inl c));refine ⟨fun c=>?_,fun c=>?_,fun b hb=>?_⟩
     ·have:=congrArg List.length c;rw [List.length_take,List.length_nil] at this;omega
     ·have:=congrArg List.length c;rw [List.length_drop,List.length_nil] at this;omega
     ·intro c;have e1:(idxR id o.refs+o.refs.length - 1) % o.refs.length=idxR id o.refs - 1:=by rw [show idxR id o.refs+o.refs.length - 1=(idxR id o.refs - 1)+o.refs.length by omega,Nat.add_mod_right,Nat.mod_eq_of_lt (by omega)]
      have e2:(idxR id o.refs+1) % o.refs.length=idxR id o.refs+1:=Nat.mod_eq_of_lt (by omega);rw [e1,e2] at hne;apply hne;unfold zcc;rw [List.head?_drop] at hb;rw [hb];rw [List.getLast?_take] at c;rw [if_neg hi0] at c;have e3:o.refs[idxR id o.refs - 1]?=some b:=by
       cases h3:o.refs[idxR id o.refs - 1]? with
       |none=>rw [List.getElem?_eq_none_iff] at h3;omega
       |some y=>rw [h3] at c;simpa using c
      rw [e3]
    ·omega
   ·intro hk;rcases hc with ⟨hk2,_⟩ | ⟨_,h4⟩
    ·omega
    ·omega
 ·cases h
theorem zzi {o:ObjD} {id:ByteArray} {p:KeyD} (hok:zay o=true) (hid:id∈o.refs) (h:nbrO o id=some p):zay (zbz id o)=true:=by
 obtain ⟨hk,A,B,hs,hA,hB,h2,h3⟩:=zks hok hid h;have hlr:(zbz id o).refs=A++B:=by show zbq id o.refs=_;rw [hs,zol hA hB]
 simp only [zay,Bool.and_eq_true,decide_eq_true_eq] at hok ⊢;obtain ⟨⟨⟨⟨⟨⟨c1,c2⟩,c3⟩,c4⟩,c5⟩,c6⟩,c7⟩:=hok;have hlen:o.refs.length=A.length+B.length+1:=by rw [hs];simp;omega
 refine ⟨⟨⟨⟨⟨⟨c1,c2⟩,c3⟩,?_⟩,?_⟩,?_⟩,?_⟩
 ·show zff o.kind≤(zbz id o).refs.length;rw [hlr,List.length_append];rcases hk with hk | hk
  ·obtain ⟨hA0,hB0,_⟩:=h2 hk;have:=List.length_pos_iff.2 hA0;have:=List.length_pos_iff.2 hB0;rw [hk];unfold zff;simp;omega
  ·have:=h3 hk;rw [hk];unfold zff;simp;omega
 ·rw [hlr,List.length_append];omega
 ·show zar o.kind [] (zbz id o).refs=true;rw [hlr];have hn:∀s∈A++B,zcw s=true:=fun s hs'=>zsd _ _ _ c6 s (by
   rw [hs]
   rcases List.mem_append.1 hs' with h | h
   ·exact List.mem_append_left _ h
   ·exact List.mem_append_right _ (List.mem_cons_of_mem _ h))
  rcases hk with hk | hk
  ·obtain ⟨hA0,hB0,hab⟩:=h2 hk;rw [hk] at c6 ⊢;rw [zse] at c6 ⊢;rw [Bool.and_eq_true] at c6 ⊢;refine ⟨List.all_eq_true.2 hn,?_⟩;rw [hs] at c6;exact zst A B _ id hA0 c6.2 hab
  ·rw [hk] at c6 ⊢;have hnd:=(ziy _ _ c6).2;rw [hs] at hnd;refine zsc _ _ hn (fun s _ c=>by cases c) ?_;rw [List.nodup_append] at hnd ⊢;exact ⟨hnd.1,(List.nodup_cons.1 hnd.2.1).2,fun a ha b hb=>hnd.2.2 a ha b (List.mem_cons_of_mem _ hb)⟩
 ·have k1:¬o.kind=1:=by omega
  have k5:¬o.kind=5:=by omega
  rw [if_neg k1,if_neg k5] at c7;show (if o.kind=1 then _ else if o.kind=5 then _ else _)=true;rw [if_neg k1,if_neg k5];exact c7
end Go.Proofs.YtibpaaajghbkoaaGreat

namespace Go.Proofs.YtibpaaajghbkoaaGreat
def minC (a b:Pt):Pt:=if lexC b a<0 then b else a
def maxC (a b:Pt):Pt:=if lexC a b<0 then b else a
def hasT (a b c p:Pt):Bool :=
 if crs a b c≠0 then decide (0≤sgn (crs a b p)∧0≤sgn (crs b c p)∧0≤sgn (crs c a p)) || decide (sgn (crs a b p)≤0∧sgn (crs b c p)≤0∧sgn (crs c a p)≤0)
 else decide (sgn (crs a b p)=0∧sgn (crs b c p)=0∧sgn (crs c a p)=0) && decide (lexC (minC a (minC b c)) p≤0) && decide (lexC p (maxC a (maxC b c))≤0)
def zgp (l:List ObjD):List ByteArray:=(l.filter fun o=>decide (o.kind=2∨o.kind=3)).flatMap (·.refs)
abbrev zii:=ByteArray × Int × KeyD
def zdr (a b c:Pt):Int:=max (crs a b c) (-(crs a b c))
def zkd (l:List ObjD) (tol:Int) (o:ObjD):Option zii :=
 match zcr l o.id with
 |none=>none
 |some p=>if o.kind=1∧o.tags.length=0∧zdr (ptO l o.id) (ptO l p.1) (ptO l p.2)≤tol then some (o.id,zdr (ptO l o.id) (ptO l p.1) (ptO l p.2),p) else none
def zop (l:List ObjD) (tol:Int):List zii:=l.filterMap (zkd l tol)
def zeq (l:List ObjD) (c:zii):Bool :=
 (zgp l).all fun r=>decide (r=c.1∨r=c.2.2.1∨r=c.2.2.2) || !hasT (ptO l c.1) (ptO l c.2.2.1) (ptO l c.2.2.2) (ptO l r)
def ltC (c d:zii):Bool:=decide (c.2.1<d.2.1) || (decide (c.2.1=d.2.1) && ltB c.1 d.1)
def minO:List zii→Option zii
 |[]=>none
 |c :: cs=>match minO cs with
  |none=>some c
  |some d=>if ltC d c=true then some d else some c
def zhd (l:List ObjD) (tol:Int):Option ByteArray:=(minO ((zop l tol).filter (zeq l))).map (·.1)
def runP:Nat→List ObjD→Int→List ObjD
 |0,l,_=>l
 |n+1,l,tol=>match zhd l tol with
  |none=>l
  |some id=>runP n (zaz l id) tol
def atO (l:List ObjD) (id:ByteArray):Option ObjD:=(posO id l).bind fun i=>l[i]?
def zfd (o:ObjD) (i:Nat):Int:=if o.kind=4∨(o.kind=5∧i≠1) then 2 else 1
def fitO (l:List ObjD) (o:ObjD):Bool:=(List.range o.refs.length).all fun i=>match atO l (zcc o i) with | none=>false | some x=>decide (x.kind=zfd o i)
def fitP (l:List ObjD):Bool:=zas l && (zdf l).isEmpty && l.all (fitO l)
def simP (l:List ObjD) (tol:Int):List ObjD:=if fitP l=true∧0≤tol then runP l.length l tol else l
theorem zjh (c:zii):ltC c c=false:=by unfold ltC;simp [zbp]
theorem zqq {a b c:zii} (h:ltC a b=true) (h2:ltC b c=true):ltC a c=true:=by
 unfold ltC at *;simp only [Bool.or_eq_true,Bool.and_eq_true,decide_eq_true_eq] at *;rcases h with h | ⟨h,h'⟩<;>rcases h2 with h2 | ⟨h2,h2'⟩
 ·left;omega
 ·left;omega
 ·left;omega
 ·right;exact ⟨by omega,zdz h' h2'⟩
theorem zqr {c d:zii} (h:ltC c d=false) (h2:ltC d c=false):c.1=d.1:=by
 unfold ltC at *;simp only [Bool.or_eq_false_iff,Bool.and_eq_false_iff,decide_eq_false_iff_not] at *;have e:c.2.1=d.2.1:=by omega
 exact zep (h.2.resolve_left (fun n=>n e)) (h2.2.resolve_left (fun n=>n e.symm))
theorem zlo:∀(L:List zii),(minO L=none→L=[])∧∀c,minO L=some c→c∈L∧∀d∈L,ltC d c=false
 |[]=>⟨fun _=>rfl,fun c h=>by cases h⟩
 |a :: L=>by
  obtain ⟨h1,h2⟩:=zlo L;rw [minO];cases hm:minO L with
  |none =>rw [h1 hm];refine ⟨fun h=>(by cases h),fun c h=>?_⟩;injection h with h;subst h;exact ⟨by simp,fun d hd=>by rw [List.mem_singleton.1 hd,zjh]⟩
  |some b =>
   obtain ⟨h3,h4⟩:=h2 b hm;simp only;split
   ·rename_i hba;refine ⟨fun h=>(by cases h),fun c h=>?_⟩;injection h with h;subst h;refine ⟨List.mem_cons_of_mem _ h3,fun d hd=>?_⟩;rcases List.mem_cons.1 hd with rfl | hd
    ·rw [Bool.eq_false_iff];intro c;have:=zqq c hba;rw [zjh] at this;cases this
    ·exact h4 d hd
   ·rename_i hba;refine ⟨fun h=>(by cases h),fun c h=>?_⟩;injection h with h;subst h;refine ⟨by simp,fun d hd=>?_⟩;rcases List.mem_cons.1 hd with rfl | hd
    ·exact zjh _
    ·rw [Bool.eq_false_iff];intro c;have h5:=h4 d hd;cases hab:ltC a b with
     |true=>rw [zqq c hab] at h5;cases h5
     |false =>
      have hba':ltC b a=false:=(by rw [Bool.eq_false_iff];exact hba);have e:=zqr hab hba';unfold ltC at c h5 hab hba';simp only [Bool.or_eq_true,Bool.and_eq_true,decide_eq_true_eq,Bool.or_eq_false_iff,Bool.and_eq_false_iff,decide_eq_false_iff_not] at c h5 hab hba';have e2:a.2.1=b.2.1:=(by omega);rw [e2,e] at c;rcases c with c | ⟨c,c'⟩
      ·exact h5.1 c
      ·rcases h5.2 with h6 | h6
       ·exact h6 c
       ·rw [h6] at c';cases c'
theorem zacz {l:List ObjD} {tol:Int} {S:List zii} (hp:S.Perm (zop l tol)) (hs:S.Pairwise fun c d=>ltC d c=false) {k:Nat} {c:zii} (hc:S[k]?=some c) (hf:zeq l c=true) (hb:∀(j:Nat) (d:zii),j<k→S[j]?=some d→zeq l d=false) :
  zhd l tol=some c.1:=by
 have hcm:c∈(zop l tol).filter (zeq l):=List.mem_filter.2 ⟨hp.mem_iff.1 (zM hc),hf⟩;unfold zhd;cases hm:minO ((zop l tol).filter (zeq l)) with
 |none=>rw [(zlo _).1 hm] at hcm;cases hcm
 |some d =>
  obtain ⟨hd,hl⟩:=(zlo _).2 d hm;obtain ⟨hd1,hd2⟩:=List.mem_filter.1 hd;obtain ⟨j,hj⟩:=List.getElem?_of_mem (hp.mem_iff.2 hd1);have h1:ltC c d=false:=hl c hcm;have h2:ltC d c=false:=by
   rcases Nat.lt_trichotomy j k with h | h | h
   ·rw [hb j d h hj] at hd2;cases hd2
   ·subst h;rw [hj] at hc;injection hc with hc;subst hc;exact zjh _
   ·obtain ⟨p1,e1⟩:=List.getElem?_eq_some_iff.1 hc;obtain ⟨p2,e2⟩:=List.getElem?_eq_some_iff.1 hj;have:=List.pairwise_iff_getElem.1 hs k j p1 p2 h;rwa [e1,e2] at this
  rw [Option.map_some,zqr h2 h1]
theorem zafp {l:List ObjD} {tol:Int} {S:List zii} (hp:S.Perm (zop l tol)) (hb:∀d∈S,zeq l d=false):zhd l tol=none:=by
 have:(zop l tol).filter (zeq l)=[]:=List.filter_eq_nil_iff.2 fun d hd=>by rw [hb d (hp.mem_iff.2 hd)];simp
 unfold zhd;rw [this];rfl
theorem zjf {l:List ObjD} {id:ByteArray} {p:KeyD} (h:zcr l id=some p):(∃o∈l,id∈o.refs)∧∀o∈l,id∈o.refs→nbrO o id=some p:=by
 unfold zcr at h;have hm:∀o,o∈zax l id↔o∈l∧id∈o.refs:=fun o=>by unfold zax;rw [List.mem_filter,decide_eq_true_eq]
 cases hr:zax l id with
 |nil=>rw [hr] at h;cases h
 |cons o os =>
  rw [hr] at h hm;simp only at h;cases hn:nbrO o id with
  |none=>rw [hn] at h;cases h
  |some q =>
   rw [hn] at h;simp only at h;split at h
   ·rename_i ha;injection h with h;subst h;refine ⟨⟨o,(hm o).1 (by simp)⟩,fun x hx hxi=>?_⟩;rcases List.mem_cons.1 ((hm x).2 ⟨hx,hxi⟩) with rfl | hx
    ·exact hn
    ·exact of_decide_eq_true (List.all_eq_true.1 ha x hx)
   ·cases h
theorem zhp {l:List ObjD} {tol:Int} {id:ByteArray} (h:zhd l tol=some id):∃o∈l,o.id=id∧o.kind=1∧o.tags=[]∧∃p,zcr l id=some p∧zdr (ptO l id) (ptO l p.1) (ptO l p.2)≤tol∧zeq l (id,zdr (ptO l id) (ptO l p.1) (ptO l p.2),p)=true:=by
 unfold zhd at h;obtain ⟨c,hm,rfl⟩:=Option.map_eq_some_iff.1 h;obtain ⟨hc1,hc2⟩:=List.mem_filter.1 ((zlo _).2 c hm).1;obtain ⟨o,ho,he⟩:=List.mem_filterMap.1 hc1;unfold zkd at he;cases hn:zcr l o.id with
 |none=>rw [hn] at he;cases he
 |some p =>
  rw [hn] at he;simp only at he;split at he
  ·rename_i hk;injection he with he;subst he;exact ⟨o,ho,rfl,hk.1,List.eq_nil_of_length_eq_zero hk.2.1,p,hn,hk.2.2,hc2⟩
  ·cases he
theorem zajj {l:List ObjD} {id:ByteArray} {p:KeyD} (h:zas l=true) (hn:zcr l id=some p):zas (zaz l id)=true:=by
 obtain ⟨_,hall⟩:=zjf hn;have e:zaz l id=ztj (fun _ o=>if o.id=id then none else if id∈o.refs∧nbrO o id=none then some o else some (zbz id o)) 0 l:=by
  unfold zaz;have gen:∀(l':List ObjD) (j:Nat),(∀o∈l',id∈o.refs→nbrO o id=some p)→(l'.filter fun o=>decide (o.id≠id)).map (zbz id)=ztj (fun _ o=>if o.id=id then none else if id∈o.refs∧nbrO o id=none then some o else some (zbz id o)) j l':=by
   intro l'
   induction l' with
   |nil=>intro _ _;rfl
   |cons o l' ih =>
    intro j hl';rw [ztj,List.filter_cons];have ih':=ih (j+1) (fun o ho=>hl' o (List.mem_cons_of_mem _ ho));by_cases hi:o.id=id
    ·simp only [hi,ne_eq,not_true_eq_false,decide_false,if_true,Bool.false_eq_true,if_false,List.nil_append];exact ih'
    ·have hno:¬(id∈o.refs∧nbrO o id=none):=fun c=>(by rw [hl' o (by simp) c.1] at c;cases c.2);simp only [hi,ne_eq,not_false_eq_true,decide_true,if_true,if_false,hno,List.map_cons,List.cons_append,List.nil_append];rw [ih']
  exact gen l 0 hall
 rw [e];refine zalq _ (fun i o o' he=>?_) h;split at he
 ·cases he
 ·split at he
  ·injection he with he;subst he;exact ⟨rfl,fun h=>h⟩
  ·rename_i hno;injection he with he;subst he;refine ⟨rfl,fun hok=>?_⟩;by_cases hid:id∈o.refs
   ·cases hb:nbrO o id with
    |none=>exact absurd ⟨hid,hb⟩ hno
    |some q=>exact zzi hok hid hb
   ·have:zbz id o=o:=(by unfold zbz;rw [zgt hid]);rw [this];exact hok
def zarp (m:List ObjD) (d:ByteArray):Prop :=
 (∃o∈m,o.id=d∧o.kind=1∧o.tags=[])∧(∃y∈m,d∈y.refs)∧∀y∈m,d∈y.refs→(y.kind=2∨y.kind=3)∧(y.kind=2→y.refs.head?≠some d∧y.refs.getLast?≠some d)
theorem zoi {m:List ObjD} (h:zas m=true) {x y:ObjD} (hx:x∈m) (hy:y∈m) (e:x.id=y.id):x=y:=by obtain ⟨i,hi⟩:=List.getElem?_of_mem hx;obtain ⟨j,hj⟩:=List.getElem?_of_mem hy;have h1:=zpe h hi;rw [e,zpe h hj] at h1;injection h1 with h1;subst h1;rw [hi] at hj;injection hj
structure zxt (m:List ObjD) (D:List ByteArray):Prop where
 okm:zas m=true
 ok:zas (zgi m D)=true
 gone:∀d∈D,zarp m d
 nodup:D.Nodup
theorem zqw {α:Type} {f:α→Bool} {l:List α} {a:α} (h:l.head?=some a) (hf:f a=true):(l.filter f).head?=some a:=by
 cases l with
 |nil=>cases h
 |cons b l =>injection h with h;subst h;rw [List.filter_cons,if_pos hf];rfl
theorem zzj {α:Type} {f:α→Bool} {l:List α} {a:α} (h:l.getLast?=some a) (hf:f a=true):(l.filter f).getLast?=some a:=by rw [List.getLast?_eq_head?_reverse] at h ⊢;rw [←List.filter_reverse];exact zqw h hf
theorem zaiw {m:List ObjD} {D:List ByteArray} {tol:Int} {id:ByteArray} (h:zxt m D) (hs:zhd (zgi m D) tol=some id):zxt m (id :: D)∧zaz (zgi m D) id=zgi m (id :: D):=by
 refine ⟨?_,zsr m D id⟩;obtain ⟨o,ho,rfl,hk,ht,p,hn,-,-⟩:=zhp hs;obtain ⟨o0,ho0,hD,e⟩:=zkt.1 ho;have hid:o.id=o0.id:=by rw [e]
 have hD':o.id ∉ D:=by rw [hid];exact hD
 obtain ⟨⟨y,hy,hyr⟩,hall⟩:=zjf hn;refine ⟨h.okm,by rw [←zsr];exact zajj h.ok hn,fun d hd=>?_,List.nodup_cons.2 ⟨hD',h.nodup⟩⟩;rcases List.mem_cons.1 hd with rfl | hd
 ·refine ⟨⟨o0,ho0,hid.symm,by rw [e] at hk;exact hk,by rw [e] at ht;exact ht⟩,?_,fun y0 hy0 hr0=>?_⟩
  ·obtain ⟨y0,hy0,_,ey⟩:=zkt.1 hy;rw [ey] at hyr;exact ⟨y0,hy0,(List.mem_filter.1 hyr).1⟩
  ·have hyD:y0.id ∉ D:=fun c=>by obtain ⟨⟨z,hz,ez,hzk,_⟩,_⟩:=h.gone _ c;rw [zoi h.okm hz hy0 ez] at hzk;rw [zna (zda h.okm hy0) hzk] at hr0;cases hr0
   have hy':({ y0 with refs:=y0.refs.filter fun r=>decide (r ∉ D) }:ObjD)∈zgi m D:=zkt.2 ⟨y0,hy0,hyD,rfl⟩;have hr':o.id∈({ y0 with refs:=y0.refs.filter fun r=>decide (r ∉ D) }:ObjD).refs:=List.mem_filter.2 ⟨hr0,decide_eq_true hD'⟩;have hb:=hall _ hy' hr';have hyok:zay ({ y0 with refs:=y0.refs.filter fun r=>decide (r ∉ D) }:ObjD)=true:=zda h.ok hy';obtain ⟨hk2,A,B,hs2,hA,hB,h2,_⟩:=zks hyok hr' hb;refine ⟨hk2,fun hk=>?_⟩;obtain ⟨hA0,hB0,_⟩:=h2 hk;constructor
   ·intro c;have:=zqw (f:=fun r=>decide (r ∉ D)) c (decide_eq_true hD');have hs3:(y0.refs.filter fun r=>decide (r ∉ D))=A++o.id :: B:=hs2;rw [hs3] at this;cases A with
    |nil=>exact hA0 rfl
    |cons a A =>have:a=o.id:=(by simpa using this);exact hA (by simp [this])
   ·intro c;have:=zzj (f:=fun r=>decide (r ∉ D)) c (decide_eq_true hD');have hs3:(y0.refs.filter fun r=>decide (r ∉ D))=A++o.id :: B:=hs2;rw [hs3] at this;cases B with
    |nil=>exact hB0 rfl
    |cons b B =>rw [List.getLast?_append,List.getLast?_cons_cons] at this;have h5:(b :: B).getLast?=some ((b :: B).getLast (by simp)):=List.getLast?_eq_some_getLast (by simp);rw [h5,Option.some_or] at this;injection this with this;exact hB (this ▸ List.getLast_mem (by simp))
 ·exact h.gone d hd
theorem zamm {m:List ObjD} (h:zas m=true):zxt m []:=⟨h,by rw [zrf];exact h,fun d hd=>(by cases hd),List.nodup_nil⟩
end Go.Proofs.YtibpaaajghbkoaaGreat

namespace Go.Proofs.YtibpaaajghbkoaaGreat
def inR (a b c p:Pt):Bool :=
 if zdr a b c=0 then onR (a,b) p || onR (b,c) p || onR (a,c) p else decide (zdr a b p+zdr b c p+zdr a c p=zdr a b c)
theorem zrg (a b c p:Pt):crs a b p+crs b c p+crs c a p=crs a b c:=by unfold crs;grind
theorem zabz (a c p:Pt):crs a c p=-crs c a p:=by unfold crs;grind
theorem zlt (a c:Pt):crs a c a=0∧crs c a a=0∧crs a a c=0:=by unfold crs;refine ⟨?_,?_,?_⟩<;>grind
theorem zui {a b c p:Pt} (hne:a≠b) (hc:crs a b c=0) (hp:crs a b p=0):crs b c p=0∧crs c a p=0:=by
 have hs:=zrg a b c p;have key:crs c a p=0:=by
  by_cases hx:b.1=a.1
  ·have hy:b.2 - a.2≠0:=fun e=>hne (Prod.ext hx.symm (by omega));have:(b.2 - a.2) * crs c a p=0:=(by unfold crs at *;grind);exact (Int.mul_eq_zero.1 this).resolve_left hy
  ·have hy:b.1 - a.1≠0:=fun e=>hx (by omega);have:(b.1 - a.1) * crs c a p=0:=(by unfold crs at *;grind);exact (Int.mul_eq_zero.1 this).resolve_left hy
 exact ⟨by omega,key⟩
theorem zafs (a b:Pt):srtS (a,b)=(a,b)∨srtS (a,b)=(b,a):=by
 unfold srtS;split
 ·exact Or.inr rfl
 ·exact Or.inl rfl
theorem zsj {a b p:Pt} (ha:zat a=true) (hb:zat b=true) (hp:zat p=true):onR (a,b) p=true↔crs a b p=0∧((keyP a≤keyP p∧keyP p≤keyP b)∨(keyP b≤keyP p∧keyP p≤keyP a)):=by
 have hle:∀{x y:Pt},zat x=true→zat y=true→(lexC x y≤0↔keyP x≤keyP y):=fun {x y} hx hy=>by rw [zei hx hy];unfold sgn;split<;>(try split)<;>omega
 have hinj:∀{x y:Pt},zat x=true→zat y=true→(x=y↔keyP x=keyP y):=fun {x y} hx hy=>⟨fun e=>by rw [e],zip hx hy⟩;have hsw:=zabz a b p;rw [←zza];unfold onQ;have hs:=zte (a,b);rcases zafs a b with e | e
 ·rw [e] at hs ⊢;simp only [Bool.and_eq_true,Bool.or_eq_true,decide_eq_true_eq,ne_eq];rw [hle ha hp,hle hp hb,hinj ha hb,hinj hp ha];rw [hle ha hb] at hs;omega
 ·rw [e] at hs ⊢;simp only [Bool.and_eq_true,Bool.or_eq_true,decide_eq_true_eq,ne_eq];rw [hle hb hp,hle hp ha,hinj hb ha,hinj hp hb];rw [hle hb ha] at hs;omega
theorem zzc {a b:Pt} (ha:zat a=true) (hb:zat b=true):zat (minC a b)=true∧keyP (minC a b)=min (keyP a) (keyP b)∧zat (maxC a b)=true∧keyP (maxC a b)=max (keyP a) (keyP b):=by
 have h1:=zei hb ha;have h2:=zei ha hb;unfold minC maxC;rw [h1,h2];rcases Int.lt_trichotomy (keyP a) (keyP b) with h | h | h
 ·rw [zafw (show 0<keyP b - keyP a by omega),zafx (show keyP a - keyP b<0 by omega),if_neg (by omega),if_pos (by omega)];exact ⟨ha,by omega,hb,by omega⟩
 ·rw [show keyP b - keyP a=0 by omega,show keyP a - keyP b=0 by omega,show sgn 0=0 from rfl,if_neg (by omega)];exact ⟨ha,by omega,ha,by omega⟩
 ·rw [zafx (show keyP b - keyP a<0 by omega),zafw (show 0<keyP a - keyP b by omega),if_pos (by omega),if_neg (by omega)];exact ⟨hb,by omega,ha,by omega⟩
theorem zanv {a b c p:Pt} (ha:zat a=true) (hb:zat b=true) (hc:zat c=true) (hp:zat p=true):hasT a b c p=inR a b c p:=by
 have hs:=zrg a b c p;have ht:=zabz a c p;have hz:zdr a b c=0↔crs a b c=0:=by unfold zdr;omega
 unfold hasT inR;by_cases h0:crs a b c=0
 ·rw [if_neg (by simp [h0]),if_pos (hz.2 h0)];have hle:∀{x y:Pt},zat x=true→zat y=true→(lexC x y≤0↔keyP x≤keyP y):=fun {x y} hx hy=>by rw [zei hx hy];unfold sgn;split<;>(try split)<;>omega
  obtain ⟨n1,k1,n2,k2⟩:=zzc hb hc;obtain ⟨n3,k3,-,-⟩:=zzc ha n1;obtain ⟨-,-,n4,k4⟩:=zzc ha n2;rw [Bool.eq_iff_iff];simp only [Bool.and_eq_true,Bool.or_eq_true,decide_eq_true_eq];rw [zij,zij,zij,hle n3 hp,hle hp n4,k3,k4,k1,k2,zsj ha hb hp,zsj hb hc hp,zsj ha hc hp];constructor
  ·rintro ⟨⟨⟨e1,e2,e3⟩,l1⟩,l2⟩;have e4:crs a c p=0:=(by omega);rw [e1,e2,e4];omega
  ·rintro ((⟨e,l⟩ | ⟨e,l⟩) | ⟨e,l⟩)
   ·have:crs b c p=0∧crs c a p=0:=by
     by_cases hne:a=b
     ·have hpa:p=a:=zip hp ha (by rw [←hne] at l;omega);rw [hpa,←hne];exact ⟨(zlt a c).1,(zlt a c).2.1⟩
     ·exact zui hne h0 e
    refine ⟨⟨⟨e,this.1,this.2⟩,?_⟩,?_⟩<;>omega
   ·have:crs c a p=0∧crs a b p=0:=by
     by_cases hne:b=c
     ·have hpa:p=b:=zip hp hb (by rw [←hne] at l;omega);rw [hpa,←hne];exact ⟨(zlt b a).1,(zlt b a).2.1⟩
     ·exact zui hne (by rw [←h0];unfold crs;grind) e
    refine ⟨⟨⟨this.2,e,this.1⟩,?_⟩,?_⟩<;>omega
   ·have e':crs c a p=0:=(by omega);have:crs a b p=0∧crs b c p=0:=by
     by_cases hne:c=a
     ·have hpa:p=c:=zip hp hc (by rw [←hne] at l;omega);rw [hpa,←hne];exact ⟨(zlt c b).1,(zlt c b).2.1⟩
     ·exact zui hne (by rw [←h0];unfold crs;grind) e'
    refine ⟨⟨⟨this.1,this.2,e'⟩,?_⟩,?_⟩<;>omega
 ·rw [if_pos h0,if_neg (fun c=>h0 (hz.1 c))];have h1:∀n:Int,(0≤sgn n↔0≤n)∧(sgn n≤0↔n≤0):=fun n=>by unfold sgn;split<;>(try split)<;>omega
  rw [Bool.eq_iff_iff];simp only [Bool.or_eq_true,decide_eq_true_eq];rw [(h1 _).1,(h1 _).1,(h1 _).1,(h1 _).2,(h1 _).2,(h1 _).2];unfold zdr;rw [ht];omega
end Go.Proofs.YtibpaaajghbkoaaGreat

namespace Go.Proofs.YtibpaaajghbkoaaGreat
def zgj (way:Bool) (n:Nat) (id:ByteArray):List ByteArray→Nat→Int→Int
 |[],_,f=>f
 |s :: l,i,f=>if s=id then (if 0≤f∨(way=true∧(i=0∨i+1=n)) then -2 else zgj way n id l (i+1) i) else zgj way n id l (i+1) f
def atR (o:ObjD) (id:ByteArray):Int:=zgj (decide (o.kind=2)) o.refs.length id o.refs 0 (-1)
theorem zakh (way:Bool) (n:Nat) (id:ByteArray):∀(A l:List ByteArray) (i:Nat) (f:Int),id ∉ A→zgj way n id (A++l) i f=zgj way n id l (i+A.length) f
 |[],l,i,f,_=>rfl
 |s :: A,l,i,f,h=>by rw [List.cons_append,zgj,if_neg (fun e=>h (by simp [e])),zakh way n id A l (i+1) f (fun c=>h (List.mem_cons_of_mem _ c)),List.length_cons,show i+1+A.length=i+(A.length+1) by omega]
theorem zaci (way:Bool) (n:Nat) (id:ByteArray):∀(l:List ByteArray) (i:Nat) (f:Int),0≤f→zgj way n id l i f=if id∈l then -2 else f
 |[],_,f,_=>by simp [zgj]
 |s :: l,i,f,h=>by
  rw [zgj];by_cases e:s=id
  ·rw [if_pos e,if_pos (Or.inl h),if_pos (by simp [e])]
  ·rw [if_neg e,zaci way n id l (i+1) f h];have:(id∈s :: l)↔id∈l:=by rw [List.mem_cons];exact ⟨fun c=>c.resolve_left (fun c=>e c.symm),Or.inr⟩
   by_cases hm:id∈l
   ·rw [if_pos hm,if_pos (this.2 hm)]
   ·rw [if_neg hm,if_neg (fun c=>hm (this.1 c))]
theorem zakg {o:ObjD} {id:ByteArray} (h:id∈o.refs):atR o id=if (o.kind=2∧(idxR id o.refs=0∨idxR id o.refs+1=o.refs.length))∨id∈o.refs.drop (idxR id o.refs+1) then -2 else (idxR id o.refs:Int):=by
 obtain ⟨hl,hs,hA⟩:=zhh h;unfold atR;obtain ⟨n,hn⟩:∃z,z=o.refs.length:=⟨_,rfl⟩;have hlen:(o.refs.take (idxR id o.refs)).length=idxR id o.refs:=by rw [List.length_take];omega
 rw [←hn] at hl ⊢
 conv=>lhs;arg 4;rw [hs]
 rw [zakh _ _ _ _ _ _ _ hA,hlen,Nat.zero_add,zgj,if_pos rfl];by_cases hw:o.kind=2∧(idxR id o.refs=0∨idxR id o.refs+1=n)
 ·rw [if_pos (Or.inr ⟨decide_eq_true hw.1,hw.2⟩),if_pos (Or.inl hw)]
 ·rw [if_neg (by
   rintro (c | c)
   ·omega
   ·exact hw ⟨of_decide_eq_true c.1,c.2⟩),zaci _ _ _ _ _ _ (by omega)]
  by_cases hd:id∈o.refs.drop (idxR id o.refs+1)
  ·rw [if_pos hd,if_pos (Or.inr hd)]
  ·rw [if_neg hd,if_neg (by rintro (c | c);exact hw c;exact hd c)]
def nbrR (o:ObjD) (id:ByteArray):Option KeyD :=
 if (o.kind≠2∧o.kind≠3)∨atR o id<0∨(o.kind=3∧o.refs.length<4) then none
 else if zcc o (((atR o id).toNat+o.refs.length - 1) % o.refs.length)=zcc o (((atR o id).toNat+1) % o.refs.length) then none
 else some (key2 (zcc o (((atR o id).toNat+o.refs.length - 1) % o.refs.length)) (zcc o (((atR o id).toNat+1) % o.refs.length)))
theorem zabj {o:ObjD} {id:ByteArray} (hok:zay o=true) (h:id∈o.refs):nbrR o id=nbrO o id:=by
 obtain ⟨hl,hs,hA⟩:=zhh h;have hat:=zakg h;have hdup:o.kind=3→id ∉ o.refs.drop (idxR id o.refs+1):=fun hk c=>by
  have hr:zar 3 [] o.refs=true:=by simp only [zay,Bool.and_eq_true] at hok;rw [←hk];exact hok.1.2
  have hn:=(ziy _ _ hr).2;rw [hs] at hn;exact (List.nodup_cons.1 (List.nodup_append.1 hn).2.1).1 c
 unfold nbrR nbrO;by_cases hc:(o.kind=2∧(idxR id o.refs=0∨idxR id o.refs+1=o.refs.length))∨id∈o.refs.drop (idxR id o.refs+1)
 ·rw [if_pos hc] at hat;rw [if_pos (Or.inr (Or.inl (by rw [hat];decide)))];rw [if_neg];rintro (⟨h1,h2⟩ | ⟨h1,h2⟩)
  ·rcases hc with ⟨_,c⟩ | c
   ·exact h2 (by rcases c with c | c;exact Or.inl c;exact Or.inr (Or.inl (by omega)))
   ·exact h2 (Or.inr (Or.inr c))
  ·rcases hc with ⟨c,_⟩ | c
   ·omega
   ·exact hdup h1 c
 ·rw [if_neg hc] at hat;rw [hat,Int.toNat_natCast];have hd:id ∉ o.refs.drop (idxR id o.refs+1):=fun c=>hc (Or.inr c);by_cases hk:(o.kind=2∧¬(idxR id o.refs=0∨idxR id o.refs=o.refs.length - 1∨id∈o.refs.drop (idxR id o.refs+1)))∨(o.kind=3∧¬o.refs.length<4)
  ·rw [if_pos hk,if_neg (by
    rintro (c | c | c)
    ·rcases hk with hk | hk
     ·exact c.1 hk.1
     ·exact c.2 hk.1
    ·omega
    ·rcases hk with hk | hk<;>omega)]
  ·rw [if_neg hk,if_pos];by_cases h2:o.kind=2
   ·exact absurd (Or.inl ⟨h2,by
     rintro (c | c | c)
     ·exact hc (Or.inl ⟨h2,Or.inl c⟩)
     ·exact hc (Or.inl ⟨h2,Or.inr (by omega)⟩)
     ·exact hd c⟩) hk
   ·by_cases h3:o.kind=3
    ·refine Or.inr (Or.inr ⟨h3,?_⟩);by_cases h4:o.refs.length<4
     ·exact h4
     ·exact absurd (Or.inr ⟨h3,h4⟩) hk
    ·exact Or.inl ⟨h2,h3⟩
theorem zut (l:List ObjD) (id:ByteArray):(l.filter fun o=>decide (o.id≠id)).map (fun o=>if id∈o.refs then zbz id o else o)=zaz l id:=by
 unfold zaz;refine List.map_congr_left fun o _=>?_;split
 ·rfl
 ·rename_i h;unfold zbz;rw [zgt h]
def zkz (l:List ObjD) (tol:Int):List ObjD→Option (ByteArray × Int)→Option (ByteArray × Int)
 |[],b=>b
 |o :: os,b=>zkz l tol os (match (zkd l tol o).filter (zeq l) with
  |none=>b
  |some c=>match b with
   |none=>some (c.1,c.2.1)
   |some d=>if c.2.1<d.2 then some (c.1,c.2.1) else some d)
theorem zaaa {l:List ObjD} {tol:Int} {o:ObjD} {c:zii} (h:zkd l tol o=some c):c.1=o.id:=by
 unfold zkd at h;split at h
 ·cases h
 ·split at h
  ·injection h with h;rw [←h]
  ·cases h
theorem zxi (l:List ObjD) (tol:Int):∀(os pre:List ObjD) (b:Option (ByteArray × Int)),(∀x∈pre,∀y∈os,ltB x.id y.id=true)→(os.Pairwise fun x y=>ltB x.id y.id=true) →
  (b=((minO ((pre.filterMap (zkd l tol)).filter (zeq l))).map fun c=>(c.1,c.2.1)))→zkz l tol os b=(minO (((pre++os).filterMap (zkd l tol)).filter (zeq l))).map fun c=>(c.1,c.2.1)
 |[],pre,b,_,_,hb=>by rw [zkz,List.append_nil,hb]
 |o :: os,pre,b,h1,h2,hb=>by
  rw [zkz];have e:pre++o :: os=(pre++[o])++os:=by simp
  rw [e];refine zxi l tol os (pre++[o]) _ (fun x hx y hy=>?_) (List.pairwise_cons.1 h2).2 ?_
  ·rcases List.mem_append.1 hx with hx | hx
   ·exact h1 x hx y (List.mem_cons_of_mem _ hy)
   ·rw [List.mem_singleton.1 hx];exact (List.pairwise_cons.1 h2).1 y hy
  ·rw [List.filterMap_append,List.filter_append];obtain ⟨L,hL⟩:∃z,z=(pre.filterMap (zkd l tol)).filter (zeq l):=⟨_,rfl⟩;have hLid:∀d∈L,ltB d.1 o.id=true:=fun d hd=>by rw [hL] at hd;obtain ⟨x,hx,he⟩:=List.mem_filterMap.1 (List.mem_filter.1 hd).1;rw [zaaa he];exact h1 x hx o (by simp)
   rw [←hL] at hb ⊢;subst hb;cases hc:zkd l tol o with
   |none=>simp [hc]
   |some c =>
    have hci:=zaaa hc;have hf1:([o].filterMap (zkd l tol)).filter (zeq l)=if zeq l c=true then [c] else []:=by simp [hc,List.filter_cons]
    rw [hf1];by_cases hf:zeq l c=true
    ·rw [if_pos hf];simp only [Option.filter,hf,if_true];have hlast:∀(L:List zii),(∀d∈L,ltB d.1 c.1=true)→(minO (L++[c])).map (fun c=>(c.1,c.2.1))=(match (minO L).map (fun c=>(c.1,c.2.1)) with | none=>some (c.1,c.2.1) | some d=>if c.2.1<d.2 then some (c.1,c.2.1) else some d):=by
      intro L hL;obtain ⟨s1,s2⟩:=zlo L;obtain ⟨s3,s4⟩:=zlo (L++[c]);cases hm:minO L with
      |none=>rw [s1 hm];rfl
      |some d =>
       obtain ⟨hd,hdl⟩:=s2 d hm;cases hm2:minO (L++[c]) with
       |none=>have:=s3 hm2;simp at this
       |some x =>
        obtain ⟨hx,hxl⟩:=s4 x hm2;have hdc:=hL d hd;have a1:=hxl d (List.mem_append_left _ hd);have a2:=hxl c (by simp);simp only [Option.map_some];rcases List.mem_append.1 hx with hx | hx
        ·have b1:=hdl x hx;have e1:=zqr a1 b1;unfold ltC at a1 a2 b1;simp only [Bool.or_eq_false_iff,Bool.and_eq_false_iff,decide_eq_false_iff_not] at a1 a2 b1;have e2:d.2.1=x.2.1:=(by omega);rw [if_neg (by omega),e1,e2]
        ·rw [List.mem_singleton.1 hx] at a1 ⊢;unfold ltC at a1;simp only [Bool.or_eq_false_iff,Bool.and_eq_false_iff,decide_eq_false_iff_not] at a1;rw [hdc] at a1;rw [if_pos (by
          have:=a1.2.resolve_right (by simp)
          omega)]
     rw [hlast L (fun d hd=>by rw [hci];exact hLid d hd)]
    ·rw [if_neg hf,List.append_nil];simp only [Option.filter,hf,if_false,Bool.false_eq_true]
theorem zakf {l:List ObjD} (h:zas l=true) (tol:Int):(zkz l tol l none).map (·.1)=zhd l tol:=by have hs:=(zcs h).2;have hp:l.Pairwise fun x y=>ltB x.id y.id=true:=List.pairwise_iff_getElem.2 fun i j hi hj hij=>hs i j _ _ hij (List.getElem?_eq_getElem hi) (List.getElem?_eq_getElem hj);rw [zxi l tol l [] none (fun x hx=>(by cases hx)) hp rfl];unfold zhd zop;rw [List.nil_append,Option.map_map];rfl
end Go.Proofs.YtibpaaajghbkoaaGreat

namespace Go.Proofs.YtibpaaajghbkoaaGreat
theorem zge {l:List ObjD} {id:ByteArray} {x:ObjD}:x∈zaz l id↔∃o∈l,o.id≠id∧x=zbz id o:=by
 unfold zaz;rw [List.mem_map];constructor
 ·rintro ⟨o,ho,rfl⟩;obtain ⟨h1,h2⟩:=List.mem_filter.1 ho;exact ⟨o,h1,of_decide_eq_true h2,rfl⟩
 ·rintro ⟨o,ho,h,rfl⟩;exact ⟨o,List.mem_filter.2 ⟨ho,decide_eq_true h⟩,rfl⟩
theorem zgf {l:List ObjD} {r:ByteArray}:r∈zgp l↔∃o∈l,(o.kind=2∨o.kind=3)∧r∈o.refs:=by
 unfold zgp;rw [List.mem_flatMap];constructor
 ·rintro ⟨o,ho,hr⟩;obtain ⟨h1,h2⟩:=List.mem_filter.1 ho;exact ⟨o,h1,of_decide_eq_true h2,hr⟩
 ·rintro ⟨o,ho,hk,hr⟩;exact ⟨o,List.mem_filter.2 ⟨ho,decide_eq_true hk⟩,hr⟩
def zxp (l:List ObjD) (id:ByteArray):Prop:=∀o∈l,o.id=id→o.kind=1∧o.refs=[]
theorem zafq {l:List ObjD} (h:zas l=true) {tol:Int} {id:ByteArray} (hs:zhd l tol=some id):zxp l id:=fun o ho e=>by obtain ⟨x,hx,rfl,hk,-⟩:=zhp hs;rw [zoi h hx ho e.symm] at hk;exact ⟨hk,zna (zda h ho) hk⟩
theorem zio {id r:ByteArray} {refs:List ByteArray}:r∈zbq id refs↔r∈refs∧r≠id:=by unfold zbq;rw [List.mem_filter,decide_eq_true_eq]
theorem zrl {l:List ObjD} {id r:ByteArray} (hn:zxp l id):r∈zgp (zaz l id)↔r∈zgp l∧r≠id:=by
 rw [zgf,zgf];constructor
 ·rintro ⟨x,hx,hk,hr⟩;obtain ⟨o,ho,hne,rfl⟩:=zge.1 hx;obtain ⟨h1,h2⟩:=zio.1 hr;exact ⟨⟨o,ho,hk,h1⟩,h2⟩
 ·rintro ⟨⟨o,ho,hk,hr⟩,hne⟩;refine ⟨zbz id o,zge.2 ⟨o,ho,fun e=>?_,rfl⟩,hk,zio.2 ⟨hr,hne⟩⟩;have:=(hn o ho e).1;omega
theorem zyt {l:List ObjD} {id r:ByteArray} (hn:zxp l id) (hr:r≠id):(zax (zaz l id) r).map (·.id)=(zax l r).map (·.id):=by
 unfold zax zaz;rw [List.filter_map,List.map_map,List.filter_filter];have e:(l.filter fun o=>((fun o:ObjD=>decide (r∈o.refs)) ∘ zbz id) o && decide (o.id≠id))=l.filter fun o=>decide (r∈o.refs):=by
  refine List.filter_congr fun o ho=>?_;rw [Bool.eq_iff_iff];simp only [Function.comp,Bool.and_eq_true,decide_eq_true_eq];constructor
  ·rintro ⟨h1,-⟩;exact (zio.1 (show r∈zbq id o.refs from h1)).1
  ·intro h1;refine ⟨(zio.2 ⟨h1,hr⟩:r∈zbq id o.refs),fun e=>?_⟩;rw [(hn o ho e).2] at h1;cases h1
 rw [e];rfl
theorem znk {l:List ObjD} {id:ByteArray} (h:∃o∈l,o.id=id):(zaz l id).length<l.length:=by
 obtain ⟨o,ho,e⟩:=h;unfold zaz;rw [List.length_map];have h1:=List.length_filter_le (fun o:ObjD=>decide (o.id≠id)) l;rcases Nat.lt_or_ge (l.filter fun o=>decide (o.id≠id)).length l.length with h2 | h2
 ·exact h2
 ·have h3:=List.length_filter_eq_length_iff.1 (show (l.filter fun o=>decide (o.id≠id)).length=l.length by omega);have:=h3 o ho;rw [e] at this;simp at this
theorem zaaq {tol:Int}:∀(n k:Nat) (l:List ObjD),l.length≤n→runP (n+k) l tol=runP n l tol
 |0,k,l,h=>by
  have e:l=[]:=List.eq_nil_of_length_eq_zero (by omega);subst e;cases k with
  |zero=>rfl
  |succ k=>rw [Nat.zero_add,runP];rfl
 |n+1,k,l,h=>by
  rw [show n+1+k=(n+k)+1 by omega,runP,runP];cases hs:zhd l tol with
  |none=>rfl
  |some id =>obtain ⟨o,ho,e,-⟩:=zhp hs;have:=znk ⟨o,ho,e⟩;exact zaaq n k _ (by omega)
def allP (l:List ObjD) (tol:Int):List ObjD:=runP l.length l tol
theorem zuq {l:List ObjD} {tol:Int} (h:zhd l tol=none):allP l tol=l:=by
 unfold allP;cases hl:l.length with
 |zero=>rfl
 |succ n=>rw [runP,h]
theorem zup {l:List ObjD} {tol:Int} {id:ByteArray} (h:zhd l tol=some id):allP l tol=allP (zaz l id) tol:=by obtain ⟨o,ho,e,-⟩:=zhp h;have:=znk ⟨o,ho,e⟩;unfold allP;obtain ⟨n,hn⟩:∃n,l.length=n+1:=⟨l.length - 1,by omega⟩;rw [hn,runP,h];simp only;obtain ⟨k,hk⟩:∃k,n=(zaz l id).length+k:=⟨n - (zaz l id).length,by omega⟩;rw [hk,zaaq _ _ _ zR]
end Go.Proofs.YtibpaaajghbkoaaGreat
