/-       -/
import Derived.Test.YtibpaaajghbkoaaGreatWAk
import Derived.Test.YtibpaaajghbkoaaGreatWAg
import Derived.MapFrom
namespace Go.Proofs.YtibpaaajghbkoaaGreat
theorem zaoy {a b c q:Pt} (hab:a≠b) (na:zat a=true) (nb:zat b=true) (nc:zat c=true) (nq:zat q=true) (hc:(c=a∧onR (c,q) b=false)∨(c=b∧onR (c,q) a=false)) (hq:onR (a,b) q=false):zav (a,b) (c,q)=1:=by
 have hs:zbd (a,b)=true:=by unfold zbd;simp [na,nb]
 have ht:zbd (c,q)=true:=by unfold zbd;simp [nc,nq]
 have hca:onR (a,b) c=true:=by
  rcases hc with ⟨rfl,_⟩ | ⟨rfl,_⟩
  ·exact (zce (_,b)).1
  ·exact (zce (a,_)).2
 have hmem:c∈zbe (a,b) (c,q):=zbm.2 ⟨Or.inr (Or.inr (Or.inl rfl)),hca,(zce (c,q)).1⟩;have one:∀x∈zbe (a,b) (c,q),x=c:=fun x hx=>by
  obtain ⟨h1,h2,h3⟩:=zbm.1 hx;rcases h1 with rfl | rfl | rfl | rfl
  ·rcases hc with ⟨rfl,_⟩ | ⟨rfl,h⟩
   ·rfl
   ·rw [h] at h3;cases h3
  ·rcases hc with ⟨rfl,h⟩ | ⟨rfl,_⟩
   ·rw [h] at h3;cases h3
   ·rfl
  ·rfl
  ·rw [hq] at h2;cases h2
 have hne:¬((a,b)=(c,q)∨(a=q∧b=c)):=by
  rintro (e | ⟨e,_⟩)
  ·injection e with _ e;rw [←e,(zce (a,b)).2] at hq;cases hq
  ·rw [←e,(zce (a,b)).1] at hq;cases hq
 unfold zav;rw [hs,ht];simp only [Bool.and_self,Bool.not_true,Bool.false_eq_true,if_false];rw [if_neg hne,zlu hmem one];simp only [zja,endR];have e1:decide (c=a∨c=b)=true:=decide_eq_true (hc.imp (·.1) (·.1));rw [e1];simp
structure zif (l:List ObjD) (n:ByteArray) (p:KeyD):Prop where
 ok:zas l=true
 none:zdf l=[]
 fit:∀o∈l,fitO l o=true
 node:zxp l n
 drop:zxt l [n]
 eq:zaz l n=zgi l [n]
 refs:∃o∈l,n∈o.refs
 nbr:∀o∈l,n∈o.refs→nbrO o n=some p
 free:∀r∈zgp l,r≠n→r≠p.1→r≠p.2→hasT (ptO l n) (ptO l p.1) (ptO l p.2) (ptO l r)=false
theorem zke {l:List ObjD} {r:ByteArray} {x:ObjD} (hx:atO l r=some x):x∈l∧x.id=r:=by
 unfold atO at hx;cases hp:posO r l with
 |none=>rw [hp] at hx;cases hx
 |some i =>rw [hp] at hx;obtain ⟨o,ho,e⟩:=zdt r l i hp;have:l[i]?=some x:=hx;rw [ho] at this;injection this with this;subst this;exact ⟨zM ho,e⟩
theorem zwl {l:List ObjD} (h:zas l=true) {o:ObjD} (hf:fitO l o=true) (hk:o.kind=2∨o.kind=3):isB l o=true:=by
 unfold isB;rw [Bool.and_eq_true,decide_eq_true_eq];refine ⟨hk,?_⟩;unfold zfn;rw [List.all_eq_true];intro r hr;obtain ⟨i,hi⟩:=List.getElem?_of_mem hr;have hl:=(List.getElem?_eq_some_iff.1 hi).1;unfold fitO at hf;have:=List.all_eq_true.1 hf i (List.mem_range.2 hl);rw [zjw hi] at this;cases hx:atO l r with
 |none=>rw [hx] at this;cases this
 |some x =>
  rw [hx] at this;have hk1:x.kind=zfd o i:=of_decide_eq_true this;have hw:zfd o i=1:=by unfold zfd;rw [if_neg (by omega)]
  obtain ⟨hm,e⟩:=zke hx;rw [(zdi h (q:=(x.x,x.y))).2 ⟨x,hm,e,by rw [hk1,hw],rfl⟩];rfl
theorem zafr {l:List ObjD} {tol:Int} {n:ByteArray} (h:zas l=true) (h0:zdf l=[]) (hf:∀o∈l,fitO l o=true) (hs:zhd l tol=some n):∃p,zif l n p∧zdr (ptO l n) (ptO l p.1) (ptO l p.2)≤tol:=by
 obtain ⟨o,ho,rfl,hk,ht,p,hn,hsz,hfr⟩:=zhp hs;obtain ⟨hr,hall⟩:=zjf hn;have hg:=zaiw (D:=[]) (m:=l) (zamm h) (by rw [zrf];exact hs);rw [zrf] at hg;refine ⟨p,⟨h,h0,hf,zafq h hs,hg.1,hg.2,hr,hall,fun r hr' h1 h2 h3=>?_⟩,hsz⟩;unfold zeq at hfr;have:=List.all_eq_true.1 hfr r hr';simp only [Bool.or_eq_true,decide_eq_true_eq,Bool.not_eq_true'] at this;rcases this with (c | c | c) | c
 ·exact absurd c h1
 ·exact absurd c h2
 ·exact absurd c h3
 ·exact c
section
variable {l:List ObjD} {n:ByteArray} {p:KeyD}
theorem zif.kind (h:zif l n p) {o:ObjD} (ho:o∈l) (hr:n∈o.refs):o.kind=2∨o.kind=3:=(zks (zda h.ok ho) hr (h.nbr o ho hr)).1
theorem zif.two (h:zif l n p):key2 p.1 n∈zau l∧key2 n p.2∈zau l∧p.1≠p.2∧p.1≠n∧p.2≠n∧OrdP p:=by obtain ⟨o,ho,hr⟩:=h.refs;obtain ⟨-,h1,h2,-,h3,h4,h5,-,-,a,b,e⟩:=znz (zda h.ok ho) hr (h.nbr o ho hr);have hb:=zwl h.ok (h.fit o ho) (h.kind ho hr);exact ⟨zbx.2 ⟨o,ho,hb,h1⟩,zbx.2 ⟨o,ho,hb,h2⟩,h3,h4,h5,by rw [e];exact znd a b⟩
theorem zif.less (h:zif l n p) {x:ObjD} (hx:x∈zaz l n):∃o∈l,o.id≠n∧x=zbz n o∧isB (zaz l n) x=isB l o:=by obtain ⟨o,ho,hne,rfl⟩:=zge.1 hx;refine ⟨o,ho,hne,rfl,?_⟩;have:=zabv h.drop o;rw [←h.eq] at this;rw [←this];congr 1;unfold zbz zbq;congr 1;refine List.filter_congr fun r _=>?_;simp
theorem zif.keys (h:zif l n p) {k:KeyD} (hk:k∈zau (zaz l n)):(k∈zau l∨k=p)∧k.1≠n∧k.2≠n:=by
 obtain ⟨x,hx,hb,hs⟩:=zbx.1 hk;obtain ⟨o,ho,hne,rfl,he⟩:=h.less hx;rw [he] at hb;have hin:∀r,r=k.1∨r=k.2→r≠n:=fun r hr=>(zio.1 (zgk hs hr)).2;refine ⟨?_,hin _ (Or.inl rfl),hin _ (Or.inr rfl)⟩;by_cases hr:n∈o.refs
 ·rcases (znz (zda h.ok ho) hr (h.nbr o ho hr)).1 k hs with c | c
  ·exact Or.inl (zbx.2 ⟨o,ho,hb,c⟩)
  ·exact Or.inr c
 ·have e:zbz n o=o:=by unfold zbz;rw [zgt hr]
  rw [e] at hs;exact Or.inl (zbx.2 ⟨o,ho,hb,hs⟩)
theorem zif.pt (h:zif l n p) {r:ByteArray} (hr:r≠n):ptO (zaz l n) r=ptO l r:=by unfold ptO;rw [h.eq,zqj h.drop (by simpa using hr)]
theorem zif.nodes (h:zif l n p):n∈zcz l∧p.1∈zcz l∧p.2∈zcz l:=by obtain ⟨k1,k2,-⟩:=h.two;exact ⟨zcg.2 ⟨_,k1,(zfq (a:=p.1) (b:=n)).2 (Or.inr rfl)⟩,zcg.2 ⟨_,k1,zfq.2 (Or.inl rfl)⟩,zcg.2 ⟨_,k2,zfq.2 (Or.inr rfl)⟩⟩
theorem zakb {r:ByteArray} (h:r∈zcz l):r∈zgp l:=by obtain ⟨k,hk,hr⟩:=zcg.1 h;obtain ⟨o,ho,hb,hs⟩:=zbx.1 hk;exact zgf.2 ⟨o,ho,zpm hb,zgk hs hr⟩
theorem zif.cross (h:zif l n p) {k:KeyD} (hk:k∈zau l) (hk1:k.1≠n) (hk2:k.2≠n) (hne:k≠p):zdj l p k=false:=by
 obtain ⟨kan,knb,hab,han,hbn,hord⟩:=h.two;obtain ⟨nn,na,nb⟩:=h.nodes;obtain ⟨np,nq⟩:=zaef hk;have near:=fun r=>zfz h.ok r;have inj:∀{r s:ByteArray},r∈zcz l→s∈zcz l→r≠s→ptO l r≠ptO l s:=fun hr hs hrs e=>hrs (zsl h.none hr hs e);have hpq:k.1≠k.2:=zapk h.ok hk;have key_ne:∀x,k≠key2 x n:=fun x e=>by
  rcases zhy x n with c | c<;>rw [c] at e
  ·exact hk2 (by rw [e])
  ·exact hk1 (by rw [e])
 have key_ne':∀x,k≠key2 n x:=fun x=>by rw [zgc];exact key_ne x
 have m1:(zav (ptO l p.1,ptO l n) (segB l k)=0)∨(k.1=p.1∨k.2=p.1):=by
  have hc:=zmf (zln h.none kan hk (fun e=>key_ne _ e.symm));rw [zch,zpc,zch] at hc;rcases hc with hc | ⟨_,hc⟩
  ·exact Or.inl hc
  ·right;unfold comK at hc;simp only [Bool.or_eq_true,decide_eq_true_eq] at hc;rcases zhy p.1 n with e | e<;>rw [e] at hc<;>simp only at hc
   ·rcases hc with (c | c) | (c | c)
    ·exact Or.inl c.symm
    ·exact Or.inr c.symm
    ·exact absurd c.symm hk1
    ·exact absurd c.symm hk2
   ·rcases hc with (c | c) | (c | c)
    ·exact absurd c.symm hk1
    ·exact absurd c.symm hk2
    ·exact Or.inl c.symm
    ·exact Or.inr c.symm
 have m2:(zav (ptO l n,ptO l p.2) (segB l k)=0)∨(k.1=p.2∨k.2=p.2):=by
  have hc:=zmf (zln h.none knb hk (fun e=>key_ne' _ e.symm));rw [zch,zpc,zch] at hc;rcases hc with hc | ⟨_,hc⟩
  ·exact Or.inl hc
  ·right;unfold comK at hc;simp only [Bool.or_eq_true,decide_eq_true_eq] at hc;rcases zhy n p.2 with e | e<;>rw [e] at hc<;>simp only at hc
   ·rcases hc with (c | c) | (c | c)
    ·exact absurd c.symm hk1
    ·exact absurd c.symm hk2
    ·exact Or.inl c.symm
    ·exact Or.inr c.symm
   ·rcases hc with (c | c) | (c | c)
    ·exact Or.inl c.symm
    ·exact Or.inr c.symm
    ·exact absurd c.symm hk1
    ·exact absurd c.symm hk2
 have san:zbd (ptO l p.1,ptO l n)=true:=by unfold zbd;simp [near]
 have snb:zbd (ptO l n,ptO l p.2)=true:=by unfold zbd;simp [near]
 have m3:zav (ptO l p.1,ptO l n) (ptO l n,ptO l p.2)=1:=by
  have hkk:key2 p.1 n≠key2 n p.2:=fun e=>by
   have h1:p.1=(key2 n p.2).1∨p.1=(key2 n p.2).2:=(by rw [←e];exact zfq.2 (Or.inl rfl));rcases zfq.1 h1 with c | c
   ·exact han c
   ·exact hab c
  have hc:=zmf (zln h.none kan knb hkk);rw [zpc,zch,zpc,zch] at hc;rcases hc with hc | ⟨hc,_⟩
  ·exact absurd ⟨(zce (ptO l p.1,ptO l n)).2,(zce (ptO l n,ptO l p.2)).1⟩ (((zhi san snb).1 hc).1 (ptO l n) (Or.inr (Or.inl rfl)))
  ·exact hc
 have free:∀r,r∈zcz l→r≠n→r≠p.1→r≠p.2→hasT (ptO l n) (ptO l p.1) (ptO l p.2) (ptO l r)=false:=fun r hr=>h.free r (zakb hr);have off:∀r,r∈zcz l→r≠n→r≠p.1→r≠p.2→onR (ptO l p.1,ptO l p.2) (ptO l r)=false:=fun r hr h1 h2 h3=>by rw [Bool.eq_false_iff];intro c;have:=zaov (near n) (near p.1) (near p.2) (near r) (inj na nb hab) c;rw [free r hr h1 h2 h3] at this;cases this
 have endA:∀c q:ByteArray,q∈zcz l→q≠n→q≠p.1→q≠p.2→((c=p.1∧zav (ptO l n,ptO l p.2) (ptO l c,ptO l q)=0)∨(c=p.2∧zav (ptO l p.1,ptO l n) (ptO l c,ptO l q)=0))→zav (ptO l p.1,ptO l p.2) (ptO l c,ptO l q)=1:=fun c q hq q1 q2 q3 hc=>by
  have scq:zbd (ptO l c,ptO l q)=true:=by unfold zbd;simp [near]
  refine zaoy (inj na nb hab) (near _) (near _) (near _) (near _) ?_ (off q hq q1 q2 q3);rcases hc with ⟨rfl,hm⟩ | ⟨rfl,hm⟩
  ·refine Or.inl ⟨rfl,?_⟩;rw [Bool.eq_false_iff];intro hc;exact ((zhi snb scq).1 hm).1 (ptO l p.2) (Or.inr (Or.inl rfl)) ⟨(zce (ptO l n,ptO l p.2)).2,hc⟩
  ·refine Or.inr ⟨rfl,?_⟩;rw [Bool.eq_false_iff];intro hc;exact ((zhi san scq).1 hm).1 (ptO l p.1) (Or.inl rfl) ⟨(zce (ptO l p.1,ptO l n)).1,hc⟩
 have sw:∀(s:Sg) (x y:ByteArray),zav s (ptO l x,ptO l y)=zav s (ptO l y,ptO l x):=fun s x y=>(zos s (ptO l y,ptO l x));have fin1:zav (segB l p) (segB l k)=1→comK p k=true→zdj l p k=false:=fun h1 h2=>by unfold zdj;rw [h1,h2];rfl
 have com:∀x,(x=p.1∨x=p.2)→(x=k.1∨x=k.2)→comK p k=true:=fun x h1 h2=>by
  unfold comK;simp only [Bool.or_eq_true,decide_eq_true_eq];rcases h1 with rfl | rfl
  ·exact Or.inl h2
  ·exact Or.inr h2
 by_cases c1:k.1=p.1
 ·have d2:k.2≠p.2:=fun e=>hne (Prod.ext c1 e);have d1:k.2≠p.1:=fun e=>hpq (c1.trans e.symm);refine fin1 ?_ (com p.1 (Or.inl rfl) (Or.inl c1.symm));refine endA k.1 k.2 nq hk2 d1 d2 (Or.inl ⟨c1,?_⟩);rcases m2 with m2 | c | c
  ·exact m2
  ·exact absurd (c1.symm.trans c) hab
  ·exact absurd c d2
 ·by_cases c2:k.2=p.1
  ·have hkp:k.1≠p.2:=fun e=>by have ho:=zamc hk;obtain ⟨a,b,e2⟩:=ho;have h1:key2 k.1 k.2=k:=zain (by rw [e2];exact znd a b);have h2:key2 p.1 p.2=p:=zain hord;rw [e,c2,zgc,h2] at h1;exact hne h1.symm
   refine fin1 ?_ (com p.1 (Or.inl rfl) (Or.inr c2.symm));show zav (ptO l p.1,ptO l p.2) (ptO l k.1,ptO l k.2)=1;rw [sw];refine endA k.2 k.1 np hk1 c1 hkp (Or.inl ⟨c2,?_⟩);rcases m2 with m2 | c | c
   ·rw [sw];exact m2
   ·exact absurd c hkp
   ·exact absurd (c2.symm.trans c) hab
  ·have n1:zav (ptO l p.1,ptO l n) (segB l k)=0:=m1.resolve_right (by rintro (c | c);exact c1 c;exact c2 c);by_cases c3:k.1=p.2
   ·have d2:k.2≠p.2:=fun e=>hpq (c3.trans e.symm);refine fin1 ?_ (com p.2 (Or.inr rfl) (Or.inl c3.symm));exact endA k.1 k.2 nq hk2 c2 d2 (Or.inr ⟨c3,n1⟩)
   ·by_cases c4:k.2=p.2
    ·refine fin1 ?_ (com p.2 (Or.inr rfl) (Or.inr c4.symm));show zav (ptO l p.1,ptO l p.2) (ptO l k.1,ptO l k.2)=1;rw [sw];refine endA k.2 k.1 np hk1 c1 c3 (Or.inr ⟨c4,?_⟩);rw [sw];exact n1
    ·have n2:zav (ptO l n,ptO l p.2) (segB l k)=0:=m2.resolve_right (by rintro (c | c);exact c3 c;exact c4 c);have:=zalv (near p.1) (near p.2) (near n) (near k.1) (near k.2) (inj na nb hab) (inj na nn han) (inj nb nn hbn) n1 n2 m3 (free k.1 np hk1 c1 c3) (free k.2 nq hk2 c2 c4);unfold zdj;rw [show zav (segB l p) (segB l k)=0 from this];rfl
theorem zif.check (h:zif l n p):zdf (zaz l n)=[]:=by
 refine List.eq_nil_iff_forall_not_mem.2 fun key hkey=>?_;obtain ⟨-,-,hab,han,hbn,-⟩:=h.two;have pn:∀x∈zcz (zaz l n),x∈zcz l∧x≠n:=fun x hx=>by
  obtain ⟨k,hk,hxk⟩:=zcg.1 hx;obtain ⟨h1,h2,h3⟩:=h.keys hk;refine ⟨?_,?_⟩
  ·rcases h1 with h1 | rfl
   ·exact zcg.2 ⟨k,h1,hxk⟩
   ·rcases hxk with rfl | rfl
    ·exact h.nodes.2.1
    ·exact h.nodes.2.2
  ·rcases hxk with rfl | rfl
   ·exact h2
   ·exact h3
 have hcr:∀k1 k2:KeyD,k1∈zau (zaz l n)→k2∈zau (zaz l n)→zdj (zaz l n) k1 k2=zdj l k1 k2:=fun k1 k2 h1 h2=>by obtain ⟨-,a1,a2⟩:=h.keys h1;obtain ⟨-,b1,b2⟩:=h.keys h2;unfold zdj segB;rw [h.pt a1,h.pt a2,h.pt b1,h.pt b2]
 rcases zit.1 (zfr.1 hkey) with ⟨a,ha,b,hb,hne,hpt,-⟩ | ⟨q1,hq1,q2,hq2,hne,hc,-⟩
 ·obtain ⟨a1,a2⟩:=pn a ha;obtain ⟨b1,b2⟩:=pn b hb;rw [h.pt a2,h.pt b2] at hpt;exact hne (zsl h.none a1 b1 hpt)
 ·have k1:=(zaw.1 hq1).1;have k2:=(zaw.1 hq2).1;rw [hcr _ _ k1 k2] at hc;obtain ⟨o1,a1,a2⟩:=h.keys k1;obtain ⟨o2,b1,b2⟩:=h.keys k2;by_cases e1:q1.1=p
  ·have e2:q2.1≠p:=fun e=>hne (e1.trans e.symm);have:=h.cross (o2.resolve_right e2) b1 b2 e2;rw [e1,this] at hc;cases hc
  ·by_cases e2:q2.1=p
   ·have:=h.cross (o1.resolve_right e1) a1 a2 e1;rw [e2,zmg,this] at hc;cases hc
   ·rw [zln h.none (o1.resolve_right e1) (o2.resolve_right e2) hne] at hc;cases hc
end
end Go.Proofs.YtibpaaajghbkoaaGreat

namespace Go.Proofs.YtibpaaajghbkoaaGreat
theorem zdb {l:List ObjD}:fitP l=true↔zas l=true∧zdf l=[]∧∀o∈l,fitO l o=true:=by unfold fitP;rw [Bool.and_eq_true,Bool.and_eq_true,List.isEmpty_iff,List.all_eq_true,and_assoc]
theorem zla {l:List ObjD} (h:zas l=true) {x:ObjD} (hx:x∈l):atO l x.id=some x:=by obtain ⟨i,hi⟩:=List.getElem?_of_mem hx;unfold atO;rw [zpe h hi];exact hi
theorem zkc {l:List ObjD} {o:ObjD}:fitO l o=true↔∀(i:Nat) (r:ByteArray),o.refs[i]?=some r→∃x,atO l r=some x∧x.kind=zfd o i:=by
 unfold fitO;rw [List.all_eq_true];constructor
 ·intro h i r hr;have:=h i (List.mem_range.2 (List.getElem?_eq_some_iff.1 hr).1);rw [zjw hr] at this;cases hx:atO l r with
  |none=>rw [hx] at this;cases this
  |some x=>rw [hx] at this;exact ⟨x,rfl,of_decide_eq_true this⟩
 ·intro h i hi;have hr:=zew (List.mem_range.1 hi);obtain ⟨x,hx,hk⟩:=h i _ hr;rw [hx];exact decide_eq_true hk
theorem zif.fits {l:List ObjD} {n:ByteArray} {p:KeyD} (h:zif l n p):fitP (zaz l n)=true:=by
 have hok:zas (zaz l n)=true:=by rw [h.eq];exact h.drop.ok
 refine zdb.2 ⟨hok,h.check,fun x hx=>?_⟩;obtain ⟨o,ho,hne,rfl,-⟩:=h.less hx;have hf:=zkc.1 (h.fit o ho);refine zkc.2 fun i r hr=>?_;have hrn:r∈o.refs∧r≠n:=zio.1 (zM hr);have key:∃j,o.refs[j]?=some r∧zfd o j=zfd (zbz n o) i:=by
  by_cases hm:n∈o.refs
  ·obtain ⟨j,hj⟩:=List.getElem?_of_mem hrn.1;have hk:=h.kind ho hm;have hw:∀(y:ObjD) (m:Nat),y.kind=2∨y.kind=3→zfd y m=1:=fun y m hy=>(by unfold zfd;rw [if_neg (by omega)]);exact ⟨j,hj,by rw [hw o j hk,hw (zbz n o) i hk]⟩
  ·have e:zbz n o=o:=(by unfold zbz;rw [zgt hm]);rw [e] at hr ⊢;exact ⟨i,hr,rfl⟩
 obtain ⟨j,hj,hw⟩:=key;obtain ⟨y,hy,hyk⟩:=hf j r hj;obtain ⟨hym,e⟩:=zke hy;subst e;have hyx:zbz n y∈zaz l n:=zge.2 ⟨y,hym,hrn.2,rfl⟩;exact ⟨zbz n y,zla hok hyx,by rw [←hw];exact hyk⟩
theorem zug {l:List ObjD} {tol:Int} {n:ByteArray} (h:fitP l=true) (hs:zhd l tol=some n):fitP (zaz l n)=true:=by obtain ⟨h1,h2,h3⟩:=zdb.1 h;obtain ⟨p,hp,-⟩:=zafr h1 h2 h3 hs;exact hp.fits
theorem zsw {P:List ObjD→Prop} {tol:Int} (hP:∀l n,fitP l=true→zhd l tol=some n→P l→P (zaz l n)):∀(k:Nat) (l:List ObjD),l.length≤k→fitP l=true→P l→fitP (allP l tol)=true∧P (allP l tol)
 |0,l,hk,hf,hp=>by have e:l=[]:=List.eq_nil_of_length_eq_zero (by omega);subst e;exact ⟨hf,hp⟩
 |k+1,l,hk,hf,hp=>by
  cases hs:zhd l tol with
  |none=>rw [zuq hs];exact ⟨hf,hp⟩
  |some n =>obtain ⟨o,ho,e,-⟩:=zhp hs;have:=znk ⟨o,ho,e⟩;rw [zup hs];exact zsw hP k _ (by omega) (zug hf hs) (hP l n hf hs hp)
theorem zyg {l:List ObjD} {tol:Int} (h:fitP l=true) (ht:0≤tol):simP l tol=allP l tol:=by unfold simP;rw [if_pos ⟨h,ht⟩];rfl
theorem zyf {l:List ObjD} {tol:Int} (h:fitP l=false):simP l tol=l:=by unfold simP;rw [if_neg (by rw [h];simp)]
end Go.Proofs.YtibpaaajghbkoaaGreat

namespace Go.Proofs.YtibpaaajghbkoaaGreat
section
variable {l:List ObjD} {n:ByteArray} {p:KeyD}
theorem zif.new (h:zif l n p):p∈zau (zaz l n):=by
 obtain ⟨o,ho,hr⟩:=h.refs;obtain ⟨-,-,-,h1,-⟩:=znz (zda h.ok ho) hr (h.nbr o ho hr);have hne:o.id≠n:=fun e=>by rw [(h.node o ho e).2] at hr;cases hr
 have hx:zbz n o∈zaz l n:=zge.2 ⟨o,ho,hne,rfl⟩;have hb:=zwl h.ok (h.fit o ho) (h.kind ho hr);refine zbx.2 ⟨_,hx,?_,h1⟩;have:=zabv h.drop o;rw [←h.eq] at this;rw [←hb,←this];congr 1;unfold zbz zbq;congr 1;refine List.filter_congr fun r _=>?_;simp
end
end Go.Proofs.YtibpaaajghbkoaaGreat

namespace Go.Proofs.YtibpaaajghbkoaaGreat
def zmi (a b:Pt):Int:=(a.1+b.1) * (b.2 - a.2)
def zjb:List Pt→Int
 |[]=>0
 |[_]=>0
 |a :: b :: r=>zmi a b+zjb (b :: r)
def cycS (r:List Pt):Int:=zjb r+(match r.getLast?,r.head? with
 |some a,some b=>zmi a b
 |_,_=>0)
theorem zpf:∀(X Y:List Pt) (a b:Pt),zjb (X++a :: b :: Y)=zjb (X++[a])+zmi a b+zjb (b :: Y)
 |[],Y,a,b=>by simp [zjb]
 |[x],Y,a,b=>by simp [zjb];omega
 |x :: y :: X,Y,a,b=>by have:=zpf (y :: X) Y a b;simp only [List.cons_append,zjb] at this ⊢;omega
theorem zane {a b n:Pt} (h:crs a b n=0):zmi a n+zmi n b=zmi a b:=by
 unfold zmi crs at *
 grind
theorem zamv {PA PB:List Pt} {a b n:Pt} (ht:zmi a n+zmi n b=zmi a b) (ha:PA.getLast?=some a∨(PA=[]∧PB.getLast?=some a)) (hb:PB.head?=some b∨(PB=[]∧PA.head?=some b)) (hl:2≤PA.length+PB.length):cycS (PA++n :: PB)=cycS (PA++PB):=by
 unfold cycS;rcases ha with ha | ⟨rfl,ha⟩
 ·obtain ⟨X,rfl⟩:=zhk ha;rcases hb with hb | ⟨rfl,hb⟩
  ·obtain ⟨Y,rfl⟩:=zgn hb;have e1:zjb (X++[a]++n :: b :: Y)=zjb (X++[a])+zmi a n+(zmi n b+zjb (b :: Y)):=by rw [List.append_assoc];have:=zpf X (b :: Y) a n;simp only [List.cons_append,List.nil_append,zjb] at this ⊢;exact this
   have e2:zjb (X++[a]++b :: Y)=zjb (X++[a])+zmi a b+zjb (b :: Y):=by rw [List.append_assoc];exact zpf X Y a b
   have e3:(X++[a]++n :: b :: Y).getLast?=(X++[a]++b :: Y).getLast?:=by rw [List.getLast?_append (l:=X++[a]) (l':=n :: b :: Y),List.getLast?_append (l:=X++[a]) (l':=b :: Y),List.getLast?_cons_cons]
   have e4:(X++[a]++n :: b :: Y).head?=(X++[a]++b :: Y).head?:=(by cases X<;>rfl);rw [e1,e2,e3,e4];omega
  ·obtain ⟨Z,hZ⟩:=zgn hb;have e1:zjb (X++[a]++n :: [])=zjb (X++[a])+zmi a n:=by rw [List.append_assoc];have:=zpf X [] a n;simp only [List.cons_append,List.nil_append,zjb] at this ⊢;omega
   have e3:(X++[a]++n :: []).getLast?=some n:=zgu (X++[a]) n;have e5:(X++[a]++([]:List Pt)).getLast?=some a:=(by rw [List.append_nil];exact zgu X a);have e4:(X++[a]++n :: []).head?=some b:=(by rw [hZ];rfl);have e6:(X++[a]++([]:List Pt)).head?=some b:=(by rw [hZ];rfl);rw [e1,e3,e4,e5,e6,List.append_nil];simp only;omega
 ·obtain ⟨X,rfl⟩:=zhk ha;rcases hb with hb | ⟨hb,_⟩
  ·obtain ⟨Y,hY⟩:=zgn hb;have e1:zjb ([]++n :: (X++[a]))=zmi n b+zjb (X++[a]):=by rw [hY];rfl
   have e3:([]++n :: (X++[a])).getLast?=some a:=zgu (n :: X) a;have e5:([]++(X++[a])).getLast?=some a:=zgu X a;have e4:([]++n :: (X++[a])).head?=some n:=rfl;have e6:([]++(X++[a])).head?=some b:=(by rw [hY];rfl);rw [e1,e3,e4,e5,e6];simp only [List.nil_append];omega
  ·simp at hb
theorem zif.ring {l:List ObjD} {n:ByteArray} {p:KeyD} (h:zif l n p) (hz:crs (ptO l p.1) (ptO l p.2) (ptO l n)=0) {o:ObjD} (ho:o∈l):cycS ((zbq n o.refs).map (ptO l))=cycS (o.refs.map (ptO l)):=by
 by_cases hr:n∈o.refs
 ·obtain ⟨A,B,a,b,hs,hA,hB,hp,hne,ha,hb⟩:=zabl (zda h.ok ho) hr (h.nbr o ho hr);have hlok:=zzi (zda h.ok ho) hr (h.nbr o ho hr);have hR:(zbz n o).refs=A++B:=by show zbq n o.refs=_;rw [hs,zol hA hB]
  have hkind:=h.kind ho hr;have hl:2≤A.length+B.length:=by
   simp only [zay,Bool.and_eq_true,decide_eq_true_eq] at hlok;have h4:zff o.kind≤(zbz n o).refs.length:=hlok.1.1.1.2;rw [hR,List.length_append] at h4;rcases hkind with hk | hk
   ·rw [hk] at h4;unfold zff at h4;simp at h4;omega
   ·rw [hk] at h4;unfold zff at h4;simp at h4;omega
  have hcr:crs (ptO l a) (ptO l b) (ptO l n)=0:=by
   rw [hp] at hz;rcases zhy a b with e | e<;>rw [e] at hz
   ·exact hz
   ·have:=zbk (ptO l a) (ptO l b) (ptO l n);simp only at hz;omega
  have e:zbq n o.refs=A++B:=hR;rw [e,hs,List.map_append,List.map_append,List.map_cons];refine (zamv (zane hcr) ?_ ?_ (by rw [List.length_map,List.length_map];exact hl)).symm
  ·rcases ha with ha | ⟨rfl,_,ha⟩
   ·left;rw [List.getLast?_map,ha];rfl
   ·right;refine ⟨rfl,?_⟩;rw [List.getLast?_map,ha];rfl
  ·rcases hb with hb | ⟨rfl,_,hb⟩
   ·left;rw [List.head?_map,hb];rfl
   ·right;refine ⟨rfl,?_⟩;rw [List.head?_map,hb];rfl
 ·rw [zgt hr]
structure zarq (m l':List ObjD) (D:List ByteArray):Prop where
 gone:zxt m D
 eq:l'=zgi m D
 on:∀d∈D,∃k∈zau l',onR (segB l' k) (ptO m d)=true
 ring:∀o∈m,cycS ((o.refs.filter fun r=>decide (r ∉ D)).map (ptO m))=cycS (o.refs.map (ptO m))
end Go.Proofs.YtibpaaajghbkoaaGreat

namespace Go.Proofs.YtibpaaajghbkoaaGreat
open Go Go.RowKit Go.Maps Go.ChangeMaps Go.MapKept
section
variable {κ ν:Type}
def adel [DecidableEq κ] (k:κ) (l:List (κ × ν)):List (κ × ν):=l.filter fun p=>decide (p.1≠k)
theorem zpq [DecidableEq κ] (k k':κ):∀l:List (κ × ν),aget k' (adel k l)=if k'=k then none else aget k' l
 |[]=>by simp [adel,aget]
 |(k0,v) :: l=>by
  have ih:=zpq k k' l;unfold adel at ih ⊢;rw [List.filter_cons];by_cases h:k0=k
  ·subst h;rw [if_neg (by simp),ih];by_cases h2:k'=k0
   ·rw [if_pos h2,if_pos h2]
   ·rw [if_neg h2,if_neg h2,aget,if_neg (fun e=>h2 e.symm)]
  ·rw [if_pos (by simpa using h)];by_cases h2:k'=k
   ·subst h2;rw [if_pos rfl,aget,if_neg h,ih,if_pos rfl]
   ·rw [if_neg h2,aget,aget];by_cases h3:k0=k'
    ·rw [if_pos h3,if_pos h3]
    ·rw [if_neg h3,if_neg h3,ih,if_neg h2]
variable {P:Program} {t:TypeId} {ek:κ→Value} {ev:ν→Value} {w w':World} {b:Nat} {l:List (κ × ν)}
theorem zanw [DecidableEq κ] {k:κ}:∀{l:List (κ × ν)} {j:Nat} {p:κ × ν},(l.map (·.1)).Nodup→l[j]?=some p→p.1=k→adel k l=l.eraseIdx j
 |[],j,p,_,h,_=>by simp at h
 |x :: l,0,p,hn,h,hk=>by
  have e:x=p:=by simpa using h
  subst e;obtain ⟨h1,h2⟩:=List.nodup_cons.1 hn;unfold adel;rw [List.filter_cons,if_neg (by simp [hk])];show _=l;refine List.filter_eq_self.2 fun y hy=>decide_eq_true fun e=>h1 ?_;exact List.mem_map.2 ⟨y,hy,e.trans hk.symm⟩
 |x :: l,j+1,p,hn,h,hk=>by
  obtain ⟨h1,h2⟩:=List.nodup_cons.1 hn;have hj:l[j]?=some p:=by simpa using h
  have hx:x.1≠k:=fun e=>h1 (by
   have:x.1=p.1:=e.trans hk.symm
   exact List.mem_map.2 ⟨p,zM hj,this.symm⟩)
  have ih:=zanw h2 hj hk;unfold adel at ih ⊢;rw [List.filter_cons,if_pos (by simpa using hx),ih];rfl
theorem zaeu [DecidableEq κ] {k:κ} {l:List (κ × ν)} (h:∀p∈l,p.1≠k):adel k l=l:=List.filter_eq_self.2 fun p hp=>decide_eq_true (h p hp)
theorem zbj.delete [DecidableEq κ] {T E ty:TypeId} (h:zbj P t ek ev w b l) (K:Keyed P t) (hinj:∀x y,ek x=ek y→x=y) (hT:P.underlying T=some (.map t E)) (k:κ) (hk:∃kl,keyOf P t (ek k)=some kl) :
  ∃w',(Builtin.delete_ #[T,t] ty #[.map (some b),ek k]).run P w=.ok (.tuple #[]) w'∧zbj P t ek ev w' b (adel k l)∧w.grownBy w' (some b)∧w'.heap.size=w.heap.size:=by
 have hn:=h.nodup;obtain ⟨es,clock,h1,h2,h3,h4,h5⟩:=h;obtain ⟨kl,hkl⟩:=hk;have hkeys:∀e∈es.toList,∃l,keyOf P t e.key=some l:=fun e he=>by obtain ⟨j,hj⟩:=List.getElem?_of_mem he;obtain ⟨p,hp,e1,_⟩:=zhe h4 hj;rw [e1];exact h5 p (zM hp)
 have grown:∀o:Obj,w.grownBy (setBlock w b o) (some b):=fun o=>⟨rfl,rfl,rfl,by simp [setBlock],fun i _ hi=>heap_setBlock_other h1 _ (fun e=>hi (by rw [e]))⟩;rcases K.find w hkl es.toList hkeys with ⟨a,hno⟩ | ⟨j,e,a,hj,he⟩
 ·refine ⟨setBlock w b (.map es clock),?_,?_,grown _,by simp [setBlock]⟩
  ·simp [Builtin.delete_,run_underlying hT,MapKept.run_getObj_map h1,K.check w _ hkl,a,MapKept.run_setObj_map _ h1,Result.andThen,setBlock]
  ·rw [zaeu (fun p hp e=>?_)]
   ·exact ⟨es,clock,heap_setBlock_same h1 _,h2,h3,h4,h5⟩
   ·obtain ⟨x,hx,e1,_⟩:=zjc h4 hp;exact hno x hx (by rw [e1,e])
 ·obtain ⟨p,hp,e1,e2⟩:=zhe h4 hj;have hkk:p.1=k:=hinj _ _ (by rw [←e1,he]);have hjl:j<es.toList.length:=(List.getElem?_eq_some_iff.1 hj).1;have hjs:j<es.size:=by simpa using hjl
  have hsub:(es.eraseIdxIfInBounds j).toList=es.toList.eraseIdx j:=by unfold Array.eraseIdxIfInBounds;rw [dif_pos hjs];simp
  refine ⟨setBlock w b (.map (es.eraseIdxIfInBounds j) clock),?_,⟨_,_,heap_setBlock_same h1 _,Nat.le_trans (MapFrom.size_erase es j) h2,stamped_erase h3 j,?_,?_⟩,grown _,by simp [setBlock]⟩
  ·simp [Builtin.delete_,run_underlying hT,MapKept.run_getObj_map h1,K.check w _ hkl,a,MapKept.run_setObj_map _ h1,Result.andThen,setBlock]
  ·rw [hsub,zanw hn hp hkk];have em:∀{α β:Type} (f:α→β) (L:List α) (i:Nat),(L.eraseIdx i).map f=(L.map f).eraseIdx i:=by
    intro α β f L
    induction L with
    |nil=>intro i;cases i<;>rfl
    |cons x L ih =>
     intro i;cases i with
     |zero=>rfl
     |succ i=>simp only [List.eraseIdx_cons_succ,List.map_cons,ih]
   rw [em,h4,em]
  ·intro q hq;exact h5 q (List.mem_filter.1 hq).1
end
end Go.Proofs.YtibpaaajghbkoaaGreat

namespace Go.Proofs.YtibpaaajghbkoaaGreat
theorem zxj {l:List ObjD} (h:zas l=true) {id:ByteArray} {x:ObjD}:atO l id=some x↔x∈l∧x.id=id:=by
 constructor
 ·exact zke
 ·rintro ⟨hx,rfl⟩;exact zla h hx
theorem zaqb {l:List ObjD} {n:ByteArray} (h:zas l=true) (h2:zas (zaz l n)=true) (id:ByteArray):atO (zaz l n) id=if id=n then none else (atO l id).map (zbz n):=by
 by_cases e:id=n
 ·rw [if_pos e];cases hx:atO (zaz l n) id with
  |none=>rfl
  |some x =>obtain ⟨hm,hi⟩:=(zxj h2).1 hx;obtain ⟨o,ho,hne,rfl⟩:=zge.1 hm;exact absurd (hi.trans e) hne
 ·rw [if_neg e];cases hx:atO l id with
  |none =>
   cases hy:atO (zaz l n) id with
   |none=>rfl
   |some y =>obtain ⟨hm,hi⟩:=(zxj h2).1 hy;obtain ⟨o,ho,hne,rfl⟩:=zge.1 hm;have:=(zxj h (id:=id)).2 ⟨ho,hi⟩;rw [hx] at this;cases this
  |some x =>obtain ⟨hm,hi⟩:=(zxj h).1 hx;exact (zxj h2).2 ⟨zge.2 ⟨x,hm,by rw [hi];exact e,rfl⟩,hi⟩
theorem zaic {n:ByteArray} {o:ObjD} (h:n ∉ o.refs):zbz n o=o:=by unfold zbz;rw [zgt h]
theorem zaop {l:List ObjD} {n:ByteArray} (h:zas l=true) (h2:zas (zaz l n)=true) {r:ByteArray} (hr:r≠n):ptO (zaz l n) r=ptO l r:=by
 unfold ptO;congr 1;cases h1:zbi l r with
 |none =>
  cases h3:zbi (zaz l n) r with
  |none=>rfl
  |some q =>obtain ⟨o,ho,e1,e2,e3⟩:=(zdi h2).1 h3;obtain ⟨x,hx,_,rfl⟩:=zge.1 ho;rw [(zdi h).2 ⟨x,hx,e1,e2,e3⟩] at h1;cases h1
 |some q =>obtain ⟨o,ho,e1,e2,e3⟩:=(zdi h).1 h1;exact (zdi h2).2 ⟨zbz n o,zge.2 ⟨o,ho,by rw [e1];exact hr,rfl⟩,e1,e2,e3⟩
end Go.Proofs.YtibpaaajghbkoaaGreat
