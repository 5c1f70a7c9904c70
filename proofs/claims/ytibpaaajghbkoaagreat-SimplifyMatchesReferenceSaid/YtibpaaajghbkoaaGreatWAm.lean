/-     -/
import Derived.Test.YtibpaaajghbkoaaGreatWAd
import Derived.Test.YtibpaaajghbkoaaGreatWAf
import Derived.StillTail
import Derived.Test.YtibpaaajghbkoaaGreatWAh
import Derived.Test.YtibpaaajghbkoaaGreatWAa
import Derived.Laws.StructEq
namespace Go.Proofs.YtibpaaajghbkoaaGreat
open Go.RowKit
def StableW (S:World→Prop):Prop:=∀w w',S w→Below w.heap.size w w'→S w'
abbrev ByW (w:World):World→Prop:=fun w'=>∃p:zam w,w'=p.at'
section
variable (P:Program) (md:Region.Mode) (ops:Array Oper) (S0:World→Prop) (Q:Act→World→Prop)
def zdg (o:Oper) (a:Act) (v:Value):Prop:=∀w,S0 w→o.quietAt P a (ByW w) w v
def zdn (o:Oper) (a:Act) (K:Act→(World→Prop)→Prop) (S:World→Prop):Prop :=
 ∃(ι:Type) (val:ι→Value) (T:ι→World→Prop),(∀x,StableW (T x))∧(∀x w,T x w→S0 w) ∧
  (∀w,S w→o.wp P a w (fun a' w'=>∃x,a'=a.put o.dst (val x)∧T x w') (fun _ _ _=>False))∧∀x,K (a.put o.dst (val x)) (T x)
def opM (i:Nat) (K:Act→(World→Prop)→Prop) (a:Act) (S:World→Prop):Prop :=
 match ops[i]? with
 |none=>K a S
 |some o=>if Region.wanted o (yielded ops a.tmps) then (∃v,zdg P S0 o a v∧K (a.put o.dst v) S)∨zdn P S0 o a K S else K (a.put o.dst undef) S
def anyM:Nat→Array Bool→Act→(World→Prop)→Prop
 |0,listed,a,S=>Region.ready md ops listed=[]∧∀w,S w→Q a w
 |fuel+1,listed,a,S=>(Region.ready md ops listed=[]→∀w,S w→Q a w) ∧
  ∀i∈Region.ready md ops listed,opM P ops S0 i (anyM fuel (listed.setIfInBounds i true)) a S
def zme:List Oper→Act→Act→Prop
 |[],a,b=>a=b
 |o :: rest,a,b=>if Region.wanted o (yielded ops a.tmps) then ∃v,zdg P S0 o a v∧zme rest (a.put o.dst v) b else zme rest (a.put o.dst undef) b
def zft:List Oper→Act→(World→Prop)→Prop
 |[],a,S=>∀w,S w→Q a w
 |o :: rest,a,S=>if Region.wanted o (yielded ops a.tmps) then zdn P S0 o a (zft rest) S else zft rest (a.put o.dst undef) S
end
section
variable {P:Program} {md:Region.Mode} {ops:Array Oper} {S0:World→Prop} {Q:Act→World→Prop}
theorem zmt (a:Act) (x:Option Tmp) (v:Value):(a.put x v).tmps.size=a.tmps.size:=by cases x<;>simp [Act.put]
theorem zmu (a:Act) (x:Option Tmp) (v:Value):(a.put x v).defers=a.defers:=by cases x<;>rfl
theorem zoe {a:Act} {x y:Option Tmp} {v u u':Value} (h:∀d,x=some d→y≠some d) (e:(a.put x v).put y u=(a.put x v).put y u'):a.put y u=a.put y u':=by
 cases y with
 |none=>rfl
 |some d =>
  cases x with
  |none=>exact e
  |some c =>
   have hne:c≠d:=fun he=>h c rfl (by rw [he]);have e1:=congrArg (fun b:Act=>b.tmps[d]?) e;simp only [Act.put] at e1;rcases Nat.lt_or_ge d a.tmps.size with hd | hd
   ·simp [hd] at e1;rw [e1]
   ·simp only [Act.put];rw [Array.setIfInBounds_eq_of_size_le (by omega),Array.setIfInBounds_eq_of_size_le (by omega)]
theorem zkl {o:Oper} {a b:Act} {K K':Act→World→Prop} {Q':Exit→Act→World→Prop} {r:Result Next}
  (hK:∀u w,K (a.put o.dst u) w→K' (b.put o.dst u) w) (hdef:∀d w,¬K ({ a with defers:=d :: a.defers }.put o.dst undef) w)
  (h:o.upon P a K (fun _ _ _=>False) r):o.upon P b K' Q' r:=by
 cases r with
 |ok n w' =>
  cases n<;>simp only [Oper.upon] at h ⊢;case value v=>exact hK _ _ h
  case skip=>exact hK _ _ h
  case defer d=>exact absurd h (hdef d w')
  case enter f args =>
   refine Calls.mono h ?_;intro e w'' h2;cases e with
   |returned v=>exact hK _ _ h2
   |panicked c=>exact h2.elim
   |outgrown =>obtain ⟨_,_,h3⟩:=(h2:LetsOut _);exact h3.elim
  case row row args =>exact Rows.mono h fun v w'' h2=>hK _ _ h2
 |halt x w' =>cases x<;>simp only [Oper.upon] at h
theorem zdg.of_put {oi oj:Oper} {a:Act} {v u:Value} (hsj:∀cs b,oj.op≠.select cs b) (h1:∀d,oi.dst=some d→d ∉ oj.looksAt ops) (h:zdg P S0 oj (a.put oi.dst v) u):zdg P S0 oj a u:=by intro w hw;have:=h w hw;unfold Oper.quietAt at this ⊢;rwa [execOp_put oj hsj a oi.dst v h1] at this
theorem zdg.put {oi oj:Oper} {a:Act} {v u:Value} (hsi:∀cs b,oi.op≠.select cs b) (h3:∀d,oj.dst=some d→d ∉ oi.looksAt ops) (h:zdg P S0 oi a v):zdg P S0 oi (a.put oj.dst u) v:=by intro w hw;have:=h w hw;unfold Oper.quietAt at this ⊢;rwa [execOp_put oi hsi a oj.dst u h3]
theorem zdn.of_put {oi oj:Oper} {a:Act} {v:Value} {K:Act→(World→Prop)→Prop} {S:World→Prop} (hsj:∀cs b,oj.op≠.select cs b) (h1:∀d,oi.dst=some d→d ∉ oj.looksAt ops) (h2:∀d,oi.dst=some d→oj.dst≠some d)
  (h:zdn P S0 oj (a.put oi.dst v) K S):zdn P S0 oj a (fun a' S'=>StableW S'∧(∀w,S' w→S0 w)∧K (a'.put oi.dst v) S') S:=by
 obtain ⟨ι,val,T,hst,hs0,hw,hk⟩:=h;refine ⟨ι,val,T,hst,hs0,fun w hS=>?_,fun x=>⟨hst x,hs0 x,by rw [←Act.put_comm a v (val x) h2];exact hk x⟩⟩;have:=hw w hS;unfold Oper.wp at this ⊢;rw [execOp_put oj hsj a oi.dst v h1] at this;refine zkl ?_ ?_ this
 ·rintro u w' ⟨x,hx,hT⟩;exact ⟨x,zoe h2 hx,hT⟩
 ·rintro d w' ⟨x,hx,-⟩;have:=congrArg Act.defers hx;simp only [zmu] at this;have:=congrArg List.length this;simp at this
theorem zdn.mono {o:Oper} {a:Act} {K K':Act→(World→Prop)→Prop} {S:World→Prop} (hK:∀a' S',StableW S'→(∀w,S' w→S0 w)→K a' S'→K' a' S') (h:zdn P S0 o a K S):zdn P S0 o a K' S:=by obtain ⟨ι,val,T,hst,hs0,hw,hk⟩:=h;exact ⟨ι,val,T,hst,hs0,hw,fun x=>hK _ _ (hst x) (hs0 x) (hk x)⟩
theorem zbu {Q':Exit→Act→World→Prop} (hQ:∀a w,Q a w→Q' .normal a w):∀(fuel:Nat) (listed:Array Bool) (a:Act) (S:World→Prop),StableW S→(∀w,S w→S0 w) →
  anyM P md ops S0 Q fuel listed a S→∀w,S w→wpAny P md ops Q' fuel listed a w
 |0,_,_,_,_,_,h,w,hw=>⟨h.1,hQ _ _ (h.2 w hw)⟩
 |fuel+1,listed,a,S,hst,hs0,h,w,hw=>by
  refine ⟨fun h0=>hQ _ _ (h.1 h0 w hw),fun i hi=>?_⟩;have hi':=h.2 i hi;unfold opM at hi';unfold wpOp;cases ho:ops[i]? with
  |none=>simp only [ho] at hi' ⊢;exact zbu hQ fuel _ _ S hst hs0 hi' w hw
  |some o =>
   simp only [ho] at hi' ⊢;by_cases hwd:Region.wanted o (yielded ops a.tmps)=true
   ·simp only [hwd,if_true] at hi' ⊢;refine Or.inl ?_;rcases hi' with ⟨v,hq,hk⟩ | hl
    ·have h1:=hq w (hs0 w hw);unfold Oper.quietAt at h1;unfold Oper.wp;generalize (execOp a.eval o).run P w=r at h1 ⊢;cases r with
     |ok n w' =>
      cases n<;>simp only [Oper.quietUpon] at h1<;>simp only [Oper.upon];case value u =>
       obtain ⟨e1,e2⟩:=h1;rw [e1,e2];exact zbu hQ fuel _ _ S hst hs0 hk w hw
      case skip =>obtain ⟨e1,e2⟩:=h1;rw [e1,←e2];exact zbu hQ fuel _ _ S hst hs0 hk w hw
      case enter f args =>obtain ⟨e1,hc⟩:=h1;rw [e1];refine hc.mono ?_;rintro e w'' ⟨rfl,p,rfl⟩;exact zbu hQ fuel _ _ S hst hs0 hk _ (hst _ _ hw p.below)
     |halt x w'=>simp only [Oper.quietUpon] at h1
    ·obtain ⟨ι,val,T,hst',hs0',hw',hk⟩:=hl;have h1:=hw' w hw;unfold Oper.wp at h1 ⊢;refine zkl ?_ ?_ h1
     ·rintro u w'' ⟨x,hx,hT⟩;rw [hx];exact zbu hQ fuel _ _ (T x) (hst' x) (hs0' x) (hk x) w'' hT
     ·rintro d w'' ⟨x,hx,-⟩;have:=congrArg Act.defers hx;simp only [zmu] at this;have:=congrArg List.length this;simp at this
   ·simp only [hwd] at hi' ⊢;exact zbu hQ fuel _ _ S hst hs0 hi' w hw
def zie (P:Program) (ops:Array Oper) (S0:World→Prop) (o:Oper) (v:Value) (a:Act):Prop :=
 (Region.wanted o (yielded ops a.tmps)=true∧zdg P S0 o a v)∨(Region.wanted o (yielded ops a.tmps)=false∧v=undef)
theorem zie.opM {i:Nat} {o:Oper} {v:Value} {a:Act} {S:World→Prop} (hi:ops[i]?=some o) (hy:zie P ops S0 o v a) {K:Act→(World→Prop)→Prop} (h:K (a.put o.dst v) S):opM P ops S0 i K a S:=by
 unfold Proofs.YtibpaaajghbkoaaGreat.opM;simp only [hi];rcases hy with ⟨hw,hv⟩ | ⟨hw,rfl⟩
 ·simp only [hw,if_true];exact Or.inl ⟨v,hv,h⟩
 ·simp only [hw,Bool.false_eq_true,if_false];exact h
theorem zhl {i:Nat} {oi:Oper} {v:Value} (hi:ops[i]?=some oi) (hsel:∀(j:Nat) (o:Oper) cs b,ops[j]?=some o→o.op≠.select cs b) :
  ∀(fuel:Nat) (listed:Array Bool) (a:Act) (S:World→Prop),StableW S→(∀w,S w→S0 w) →
   (∀j oj,ops[j]?=some oj→j≠i→listed.getD j true=false→(∀e∈oj.after,Region.binds md e=true→e.on≠i)→oi.apart ops oj=true) →
   i∈Region.ready md ops listed→zie P ops S0 oi v a →
   anyM P md ops S0 Q fuel (listed.setIfInBounds i true) (a.put oi.dst v) S→anyM P md ops S0 Q (fuel+1) listed a S:=by
 intro fuel
 induction fuel with
 |zero =>
  intro listed a S _ _ _ hr hy H;refine ⟨fun h=>(by rw [h] at hr;cases hr),fun j hj=>?_⟩;by_cases hji:j=i
  ·subst hji;exact hy.opM hi H
  ·have:=ready_mono hj hji;rw [H.1] at this;cases this
 |succ fuel ih =>
  intro listed a S hst hs0 hfree hr hy H;refine ⟨fun h=>(by rw [h] at hr;cases hr),fun j hj=>?_⟩;by_cases hji:j=i
  ·subst hji;exact hy.opM hi H
  ·have h1:=H.2 j (ready_mono hj hji);obtain ⟨hjun,oj,hoj,hall⟩:=mem_ready.1 hj;have hnot:∀e∈oj.after,Region.binds md e=true→e.on≠i:=fun e he hb heq=>by
    have h1:=hall e he hb;have h0:=(mem_ready.1 hr).1;rw [heq] at h1;rcases Nat.lt_or_ge i listed.size with h' | h'
    ·simp [h'] at h0 h1;rw [h0] at h1;cases h1
    ·simp [Array.getElem?_eq_none h'] at h1
   obtain ⟨a1,a2,a3⟩:=Oper.apart_spec (hfree j oj hoj hji hjun hnot);have hsi:=fun cs b=>hsel i oi cs b hi;have hsj:=fun cs b=>hsel j oj cs b hoj;have keep:∀u,zie P ops S0 oi v (a.put oj.dst u):=fun u=>by
    rcases hy with ⟨hw,hv⟩ | ⟨hw,e⟩
    ·exact Or.inl ⟨by rw [wanted_put oi a oj.dst u a3];exact hw,hv.put hsi a3⟩
    ·exact Or.inr ⟨by rw [wanted_put oi a oj.dst u a3];exact hw,e⟩
   have hfree':∀k ok,ops[k]?=some ok→k≠i→(listed.setIfInBounds j true).getD k true=false →
     (∀e∈ok.after,Region.binds md e=true→e.on≠i)→oi.apart ops ok=true:=fun k ok hk hki hun hno=>by
    refine hfree k ok hk hki ?_ hno;by_cases hjk:j=k
    ·subst hjk;exact hjun
    ·rw [getD_set_ne true hjk] at hun;exact hun
   have next:∀(b:Act) (S':World→Prop),StableW S'→(∀w,S' w→S0 w)→zie P ops S0 oi v b →
     anyM P md ops S0 Q fuel ((listed.setIfInBounds i true).setIfInBounds j true) (b.put oi.dst v) S'→anyM P md ops S0 Q (fuel+1) (listed.setIfInBounds j true) b S':=fun b S' h1 h2 h3 h4=>by
    refine ih (listed.setIfInBounds j true) b S' h1 h2 hfree' (ready_mono hr (Ne.symm hji)) h3 ?_;rw [Array.setIfInBounds_comm _ _ hji];exact h4
   unfold opM at h1 ⊢;simp only [hoj] at h1 ⊢;rw [wanted_put oj a oi.dst v a1] at h1;by_cases hw:Region.wanted oj (yielded ops a.tmps)=true
   ·simp only [hw,if_true] at h1 ⊢;rcases h1 with ⟨u,hu,hk⟩ | hl
    ·refine Or.inl ⟨u,hu.of_put hsj a1,next _ S hst hs0 (keep u) ?_⟩;rw [←Act.put_comm a v u a2];exact hk
    ·refine Or.inr ?_;obtain ⟨ι,val,T,hst',hs0',hw',hk⟩:=hl.of_put hsj a1 a2;exact ⟨ι,val,T,hst',hs0',hw',fun x=>next _ _ (hst' x) (hs0' x) (keep (val x)) (hk x).2.2⟩
   ·simp only [hw] at h1 ⊢;refine next _ S hst hs0 (keep undef) ?_
    rw [←Act.put_comm a v undef a2];exact h1
def zeu (ops:Array Oper) (k:Nat) (listed:Array Bool):Prop:=listed.size=ops.size∧∀j,j<ops.size→∀d,listed.getD j d=decide (j<k)
theorem zeu.start:zeu ops 0 (Array.replicate ops.size false):=⟨by simp,fun j hj d=>by simp [hj]⟩
theorem zeu.step {k:Nat} {listed:Array Bool} (h:zeu ops k listed):zeu ops (k+1) (listed.setIfInBounds k true):=by
 refine ⟨by simp [h.1],fun j hj d=>?_⟩;by_cases e:k=j
 ·subst e;have:k<listed.size:=by rw [h.1];exact hj
  simp [this]
 ·rw [getD_set_ne d e,h.2 j hj d,decide_eq_decide];omega
theorem zkb (hs:Region.noSelect ops=true) {b:Act} {S:World→Prop} (hst:StableW S) (hs0:∀w,S w→S0 w) (f:Nat) :
  ∀(l:List Oper) (k:Nat) (listed:Array Bool) (a:Act),zeu ops k listed→(∀j o,l[j]?=some o→ops[k+j]?=some o)→Region.lexFrom md ops (l.length+f) k listed=true →
   zme P ops S0 l a b→(∀listed',zeu ops (k+l.length) listed'→Region.lexFrom md ops f (k+l.length) listed'=true→anyM P md ops S0 Q f listed' b S)→anyM P md ops S0 Q (l.length+f) listed a S
 |[],k,listed,a,hd,_,hB,h,hK=>by have e:a=b:=h;subst e;simp only [List.length_nil,Nat.zero_add] at hB ⊢;exact hK listed hd hB
 |o :: l,k,listed,a,hd,hl,hB,h,hK=>by
  have h0:ops[k]?=some o:=by simpa using hl 0 o rfl
  have e1:(o :: l).length+f=(l.length+f)+1:=by simp;omega
  rw [e1] at hB ⊢;simp only [Region.lexFrom,Bool.and_eq_true] at hB;obtain ⟨⟨hr,hf⟩,hB'⟩:=hB;have step:∀v,zme P ops S0 l (a.put o.dst v) b→anyM P md ops S0 Q (l.length+f) (listed.setIfInBounds k true) (a.put o.dst v) S:=fun v hv =>
   zkb hs hst hs0 f l (k+1) _ _ hd.step (fun j o' hj=>by have:=hl (j+1) o' (by simpa using hj);rw [←this];congr 1;omega) hB' hv
    (fun listed' hd' hB2=>by
     have e:k+1+l.length=k+(o :: l).length:=by simp;omega
     rw [e] at hd' hB2
     exact hK listed' hd' hB2)
  unfold zme at h;by_cases hw:Region.wanted o (yielded ops a.tmps)=true
  ·simp only [hw,if_true] at h;obtain ⟨v,hv,hh⟩:=h;exact zhl h0 (Region.noSelect_spec hs) _ listed a S hst hs0 (Region.free_spec h0 hf) (by simpa using hr) (Or.inl ⟨hw,hv⟩) (step v hh)
  ·simp only [hw] at h;exact zhl h0 (Region.noSelect_spec hs) _ listed a S hst hs0 (Region.free_spec h0 hf) (by simpa using hr) (Or.inr ⟨by simpa using hw,rfl⟩) (step undef h)
theorem zjp {n:Nat} (hc:Region.chainB md ops n=true) :
  ∀(l:List Oper) (k:Nat) (listed:Array Bool) (a:Act) (S:World→Prop),n≤k→zeu ops k listed→(∀j,l[j]?=ops[k+j]?)→Region.lexFrom md ops l.length k listed=true →
   zft P ops S0 Q l a S→anyM P md ops S0 Q l.length listed a S
 |[],k,listed,a,S,_,_,_,hB,h=>⟨by simpa [Region.lexFrom] using hB,h⟩
 |o :: l,k,listed,a,S,hn,hd,hl,hB,h=>by
  have h0:ops[k]?=some o:=by simpa using (hl 0).symm
  have hkz:k<ops.size:=(Array.getElem?_eq_some_iff.1 h0).1;simp only [List.length_cons,Region.lexFrom,Bool.and_eq_true] at hB;obtain ⟨⟨hr,hf⟩,hB'⟩:=hB;have hr':k∈Region.ready md ops listed:=by simpa using hr
  refine ⟨fun e=>(by rw [e] at hr';cases hr'),fun i hi=>?_⟩;have hik:i=k:=by
   obtain ⟨hun,oi,hoi,hall⟩:=mem_ready.1 hi;have hiz:i<ops.size:=(Array.getElem?_eq_some_iff.1 hoi).1;have h1:=hd.2 i hiz true;rw [hun] at h1;have h2:¬i<k:=of_decide_eq_false h1.symm;rcases Nat.lt_or_eq_of_le (Nat.le_of_not_lt h2) with h3 | h3
   ·have h4:=List.all_eq_true.1 hc i (List.mem_range.2 hiz);simp only [Bool.or_eq_true,decide_eq_true_eq] at h4;rcases h4 with h4 | h4
    ·omega
    ·obtain ⟨o',ho',e,he,hb,hon⟩:=Region.waitsFor_spec h4;have:o'=oi:=Option.some.inj (ho'.symm.trans hoi);subst this;have h5:=hall e he hb;rw [hon,hd.2 (i - 1) (by omega) false] at h5;have:=of_decide_eq_true h5;omega
   ·exact h3.symm
  subst hik;have step:∀b S',zft P ops S0 Q l b S'→anyM P md ops S0 Q l.length (listed.setIfInBounds i true) b S':=fun b S' hb =>
   zjp hc l (i+1) _ b S' (by omega) hd.step (fun j=>by have:=hl (j+1);simpa [Nat.add_assoc,Nat.add_comm 1 j] using this) hB' hb
  unfold opM;unfold zft at h;simp only [h0];by_cases hw:Region.wanted o (yielded ops a.tmps)=true
  ·simp only [hw,if_true] at h ⊢;exact Or.inr (h.mono fun a' S' _ _ hk=>step a' S' hk)
  ·simp only [hw] at h ⊢;exact step _ S h
def zre:List Oper→Nat→Bool
 |[],_=>true
 |o :: l,n=>(match o.dst with
  |some d=>decide (d<n) && l.all fun o'=>o'.dst != some d
  |none=>false) && zre l n
theorem zhs {C:World→Prop} {b:Act} {d:Tmp}:∀(l:List Oper) (a:Act),(l.all fun o'=>o'.dst != some d)=true→wpQuiet P ops C (fun a'=>a'=b) l a→b.tmps[d]?=a.tmps[d]?
 |[],a,_,h=>by have e:a=b:=h;rw [e]
 |o :: l,a,hl,h=>by
  simp only [List.all_cons,Bool.and_eq_true] at hl;have hne:o.dst≠some d:=by simpa using hl.1
  have key:∀v,wpQuiet P ops C (fun a'=>a'=b) l (a.put o.dst v)→b.tmps[d]?=a.tmps[d]?:=fun v hv=>by
   rw [zhs l _ hl.2 hv];cases ho:o.dst with
   |none=>rfl
   |some c =>have:c≠d:=fun e=>hne (by rw [ho,e]);simp [Act.put,Array.getElem?_setIfInBounds_ne this]
  unfold wpQuiet at h;by_cases hw:Region.wanted o (yielded ops a.tmps)=true
  ·simp only [hw,if_true] at h;obtain ⟨v,_,hv⟩:=h;exact key v hv
  ·simp only [hw] at h;exact key undef h
theorem zcp {b:Act}:∀(l:List Oper) (a:Act),zre l a.tmps.size=true→(∃w,S0 w)→(∀w,S0 w→wpQuiet P ops (ByW w) (fun a'=>a'=b) l a)→zme P ops S0 l a b
 |[],a,_,⟨w,hw⟩,h=>h w hw
 |o :: l,a,hd,⟨w0,hw0⟩,h=>by
  unfold zre at hd;rw [Bool.and_eq_true] at hd;cases ho:o.dst with
  |none=>rw [ho] at hd;simp at hd
  |some d =>
   rw [ho] at hd;simp only [Bool.and_eq_true,decide_eq_true_eq] at hd;obtain ⟨⟨hdz,hdl⟩,hd2⟩:=hd;unfold zme;by_cases hw:Region.wanted o (yielded ops a.tmps)=true
   ·simp only [hw,if_true];have hall:∀w,S0 w→∃v,(∀w',ByW w w'→o.quietAt P a (ByW w) w' v)∧wpQuiet P ops (ByW w) (fun a'=>a'=b) l (a.put o.dst v):=fun w hS=>by have:=h w hS;unfold wpQuiet at this;simp only [hw,if_true] at this;exact this
    obtain ⟨v0,h1,h2⟩:=hall w0 hw0;have uni:∀w v,wpQuiet P ops (ByW w) (fun a'=>a'=b) l (a.put o.dst v)→b.tmps[d]?=some v:=fun w v hv=>by rw [zhs l _ hdl hv,ho];simp [Act.put,hdz]
    refine ⟨v0,fun w hS=>?_,?_⟩
    ·obtain ⟨v,h3,h4⟩:=hall w hS;have e:v=v0:=Option.some.inj ((uni w v h4).symm.trans (uni w0 v0 h2));rw [←e];exact h3 w ⟨⟨w,Below.refl _ _⟩,rfl⟩
    ·refine zcp l _ (by rw [zmt];exact hd2) ⟨w0,hw0⟩ fun w hS=>?_;obtain ⟨v,h3,h4⟩:=hall w hS;have e:v=v0:=Option.some.inj ((uni w v h4).symm.trans (uni w0 v0 h2));rw [←e];exact h4
   ·simp only [hw];refine zcp l _ (by rw [zmt];exact hd2) ⟨w0,hw0⟩ fun w hS=>?_;have:=h w hS;unfold wpQuiet at this;simp only [hw] at this;exact this
theorem wp_region_mix {id:Nat} {Q':Exit→Act→World→Prop} {a:Act} {w:World} {l:List Oper} (n:Nat) (S0 S1:World→Prop) (hm:P.follows .mixedOrders=true)
  (hB:Region.lexB .any l.toArray=true) (hc:Region.chainB .any l.toArray n=true) (hd:zre (l.take n) a.tmps.size=true) (hst:StableW S1) (h10:∀W,S1 W→S0 W) (h1:S1 w.drew)
  (hh:∃b,(∀W,S0 W→wpQuiet P l.toArray (ByW W) (fun a'=>a'=b) (l.take n) a)∧zft P l.toArray S0 (fun a' w'=>Q' .normal a' w') (l.drop n) b S1) :
  (Code.region id l.toArray true).wp P Q' a w:=by
 obtain ⟨b,hq,ht⟩:=hh;simp only [Region.lexB,Bool.and_eq_true] at hB;refine wp_region_any hm (zbu (Q:=fun a' w'=>Q' .normal a' w') (S0:=S0) (fun _ _ h=>h) _ _ _ S1 hst h10 ?_ _ h1);have hlen:l.toArray.size=(l.take n).length+(l.drop n).length:=by rw [List.size_toArray,←List.length_append,List.take_append_drop]
 rw [hlen];refine zkb hB.1 hst h10 (l.drop n).length (l.take n) 0 _ a (by rw [←hlen];exact zeu.start) (fun j o hj=>?_) (by rw [←hlen];exact hB.2) (zcp _ _ hd ⟨_,h10 _ h1⟩ hq) (fun listed' hd' hB'=>?_)
 ·rw [List.getElem?_take] at hj;rw [Nat.zero_add,List.getElem?_toArray];split at hj
  ·exact hj
  ·cases hj
 ·rcases Nat.lt_or_ge n l.length with hn | hn
  ·have e:(l.take n).length=n:=(by rw [List.length_take];omega);rw [e,Nat.zero_add] at hd' hB';exact zjp hc (l.drop n) n listed' b S1 zR hd' (fun j=>by rw [List.getElem?_drop,List.getElem?_toArray]) hB' ht
  ·have e:l.drop n=[]:=List.drop_of_length_le hn;rw [e] at ht hB' ⊢;exact ⟨by simpa [Region.lexFrom] using hB',ht⟩
theorem tailM_step {o:Oper} {rest:List Oper} {a:Act} {S:World→Prop} {ι:Type} (val:ι→Value) (T:ι→World→Prop) (hw:Region.wanted o (yielded ops a.tmps)=true) (hst:∀x,StableW (T x)) (hs0:∀x w,T x w→S0 w)
  (hrun:∀w,S w→∀K:Act→World→Prop,(∀x w',T x w'→K (a.put o.dst (val x)) w')→o.wp P a w K (fun _ _ _=>False)) (hk:∀x,zft P ops S0 Q rest (a.put o.dst (val x)) (T x)):zft P ops S0 Q (o :: rest) a S:=by
 unfold zft;rw [if_pos hw];exact ⟨ι,val,T,hst,hs0,fun w hS=>hrun w hS _ fun x w' hT=>⟨x,rfl,hT⟩,hk⟩
theorem tailM_pure {o:Oper} {rest:List Oper} {a:Act} {S:World→Prop} (v:Value) (hw:Region.wanted o (yielded ops a.tmps)=true) (hst:StableW S) (hs0:∀w,S w→S0 w)
  (hrun:∀w,S w→∀K:Act→World→Prop,K (a.put o.dst v) w→o.wp P a w K (fun _ _ _=>False)) (hk:zft P ops S0 Q rest (a.put o.dst v) S):zft P ops S0 Q (o :: rest) a S :=
 tailM_step (ι:=Unit) (fun _=>v) (fun _=>S) hw (fun _=>hst) (fun _=>hs0) (fun w hS K hK=>hrun w hS K (hK () w hS)) fun _=>hk
theorem tailM_nil {a:Act} {S:World→Prop} (h:∀w,S w→Q a w):zft P ops S0 Q [] a S:=h
end
theorem StableW.below (B:Nat) (w:World) (hB:B≤w.heap.size):StableW fun W=>Below B w W:=fun _ _ h h'=>h.trans (h'.mono (Nat.le_trans hB h.size))
theorem StableW.and {S T:World→Prop} (h:StableW S) (k:StableW T):StableW fun W=>S W∧T W:=fun _ _ h1 h2=>⟨h _ _ h1.1 h2,k _ _ h1.2 h2⟩
theorem StableW.row (b:Nat) (o:Obj):StableW fun W=>W.heap[b]?=some o:=fun _ _ h h2=>zab h2 h
theorem StableW.const (p:Prop):StableW fun _=>p:=fun _ _ h _=>h
theorem StableW.owns (B:Nat) (e:TypeId) (size:Nat) (v:Value) (n:Nat) (xs:List Value):StableW fun W=>W.ownsRow B e size v n xs:=fun _ _ h h2=>zaq h h2
end Go.Proofs.YtibpaaajghbkoaaGreat

namespace Go.Proofs.YtibpaaajghbkoaaGreat
open Go.RowKit
def zfu (p:Int × Int):List Value:=[.int .i64 p.1,.int .i64 p.2]
theorem zeb (p:Int × Int):(zfu p).length=2:=rfl
theorem zrb (p:Int × Int):∀v∈zfu p,v.oneCell'=true:=by intro v hv;simp only [zfu,List.mem_cons,List.not_mem_nil,or_false] at hv;rcases hv with rfl | rfl<;>rfl
abbrev ptV (p:Pt):Value:=.agg #[.int .i64 p.1,.int .i64 p.2]
abbrev sgV (s:Sg):Value:=.agg #[.int .i64 s.1.1,.int .i64 s.1.2,.int .i64 s.2.1,.int .i64 s.2.2]
theorem zaea {l:List Pt} {k:Nat} {p:Pt} (hp:l[k]?=some p) (h:∀q∈l.take k,zat q=true) (hn:zat p=true):∀q∈l.take (k+1),zat q=true:=by
 obtain ⟨hk,rfl⟩:=List.getElem?_eq_some_iff.1 hp;rw [List.take_succ_eq_append_getElem hk];intro q hq;rcases List.mem_append.1 hq with hq | hq
 ·exact h q hq
 ·rw [List.mem_singleton.1 hq];exact hn
set_option maxRecDepth 100000 in
set_option maxHeartbeats 2000000 in
theorem ztu (v:Value) (l:List Pt) (w:World) (hl:l.length≤1000) (hv:RowE zfu 2 w v l) :
  Calls Tryz.prog 48 #[v] w fun e w'=>e=.returned (.bool (l.all zat))∧Below w.heap.size w w':=by
 obtain ⟨a,cap,rfl,hc⟩:=hv;obtain ⟨N,hN⟩:∃N,l.length=N:=⟨_,rfl⟩;rw [hN] at hl hc ⊢;have HN:=zH hN;have HC:=zH hc;obtain ⟨res,hres⟩:∃z,z=l.all zat:=⟨_,rfl⟩;rw [←hres];have HR:=zH hres;clear hN hc hres;go_enter Tryz.func48,Tryz.ntmps48;go_wp2;go_loopw [7] (fun i wr=>∃k:Nat,k≤N∧i=.int .i64 k∧(∀q∈l.take k,zat q=true)∧Below w.heap.size w wr) (fun i _=>N - (intOf i).toNat);case atStart=>exact ⟨0,by omega,rfl,by simp,Below.refl _ _⟩
 case round =>
  obtain ⟨k,hk,rfl,hT,hbr⟩:=hrel;have HT:=zH hT;clear hT;have hsz:=hbr.size;by_cases hlt:k<N
  ·obtain ⟨p,hp⟩:∃p,l[k]?=some p:=⟨l[k]'(by rw [HN.out];exact hlt),List.getElem?_eq_getElem _⟩;obtain ⟨b,off,ha,hcell⟩:=HC.out (by omega);subst ha;have c0:=cell_later hbr (hcell k p hp 0 _ rfl);have c1:=cell_later hbr (hcell k p hp 1 _ rfl);have c0':wr.cell? ⟨b,off+k * 2,none⟩=some (.int .i64 p.1):=c0;have HP:=zH hp;obtain ⟨x,y⟩:=p;simp only [] at c0' c1;clear c0 hcell hp;by_cases h1:2097152<max x y
   ·have h1d:decide (2097152<max x y)=true:=decide_eq_true h1;have HE:=zH (show res=false by
     rw [HR.out,List.all_eq_false]
     exact ⟨_,zM HP.out,by unfold zat;rw [decide_eq_true_eq];simp only;omega⟩)
    go_wp2;go_ret;exact ⟨by rw [HE.out]<;>rfl,hbr.alloc hbr.size _⟩
   have h1d:decide (2097152<max x y)=false:=decide_eq_false h1;by_cases h2:min x y < -2097152
   ·have h2d:decide (min x y < -2097152)=true:=decide_eq_true h2;have HE:=zH (show res=false by
     rw [HR.out,List.all_eq_false]
     exact ⟨_,zM HP.out,by unfold zat;rw [decide_eq_true_eq];simp only;omega⟩)
    go_wp2;go_ret;exact ⟨by rw [HE.out]<;>rfl,hbr.alloc hbr.size _⟩
   have h2d:decide (min x y < -2097152)=false:=decide_eq_false h2;have HG:=zH (zaea HP.out HT.out (by unfold zat;rw [decide_eq_true_eq];simp only;omega));go_wp2;go_roundw;case rel=>exact ⟨k+1,by omega,by go_num,HG.out,hbr.alloc hbr.size _⟩
   case measure=>simp [intOf];omega
  ·obtain rfl:k=N:=(by omega);have HE:=zH (show res=true by
    rw [HR.out,List.all_eq_true]
    have:=HT.out
    rw [List.take_of_length_le (by rw [HN.out];exact Nat.le_refl _)] at this
    exact this)
   go_wp2;go_ret;exact ⟨by rw [HE.out]<;>rfl,hbr⟩
set_option maxHeartbeats 1000000 in
theorem zanm (a b:Pt) (ha:zat a=true) (hb:zat b=true) (w:World) :
  Calls Tryz.prog 88 #[ptV a,ptV b] w fun e w'=>e=.returned (.agg #[.int .i64 (b.1 - a.1),.int .i64 (b.2 - a.2)])∧Below w.heap.size w w':=by
 have h1:=zem ha;have h2:=zem hb;obtain ⟨ax,ay⟩:=a;obtain ⟨bx,by1⟩:=b;simp only [] at h1 h2 ⊢;obtain ⟨l1,l2,l3,l4⟩:=h1;obtain ⟨m1,m2,m3,m4⟩:=h2;clear ha hb;go_enter Tryz.func88,Tryz.ntmps88;go_wp2;refine bodyPost_ret (v:=.agg #[.int .i64 (bx - ax),.int .i64 (by1 - ay)]) ?_ rfl ⟨rfl,?_⟩
 ·simp [results,Tryz.results88,go_sem]
 ·repeat' (first | exact Below.refl _ _ | refine Below.drew ?_ | refine Below.drewN' ?_ | refine Below.setCell ?_ (by first | omega | (simp;done) | exact Below.size (by assumption) | (simp;omega)) _ | refine Below.alloc ?_ (by first | omega | (simp;done) | exact Below.size (by assumption) | (simp;omega)) _ | refine Below.trans ?_ (Below.mono (by assumption) ?_) | (first | omega | (simp;done) | exact Below.size (by assumption) | (simp;omega)))
theorem zil {x y B C:Int} (hB:-B≤x∧x≤B) (hC:-C≤y∧y≤C):-(B * C)≤x * y∧x * y≤B * C:=by
 have h0:0≤B:=by omega
 have h1:0≤C:=by omega
 have key:∀x y:Int,0≤x→x≤B→0≤y→y≤C→0≤x * y∧x * y≤B * C:=fun x y a b c d =>
  ⟨Int.mul_nonneg a c,Int.mul_le_mul b d c h0⟩
 rcases Int.le_total 0 x with hx | hx<;>rcases Int.le_total 0 y with hy | hy
 ·have:=key x y hx (by omega) hy (by omega);omega
 ·have:=key x (-y) hx (by omega) (by omega) (by omega);rw [Int.mul_neg] at this;omega
 ·have:=key (-x) y (by omega) (by omega) hy (by omega);rw [Int.neg_mul] at this;omega
 ·have:=key (-x) (-y) (by omega) (by omega) (by omega) (by omega);rw [Int.neg_mul_neg] at this;omega
def zrz (v:Pt):Prop:=-4194304≤v.1∧v.1≤4194304∧-4194304≤v.2∧v.2≤4194304
theorem zamw {v u:Pt} (hv:zrz v) (hu:zrz u):-35184372088832≤v.1 * u.2 - v.2 * u.1∧v.1 * u.2 - v.2 * u.1≤35184372088832:=by have h1:=zil (show -4194304≤v.1∧v.1≤4194304 from ⟨hv.1,hv.2.1⟩) (show -4194304≤u.2∧u.2≤4194304 from ⟨hu.2.2.1,hu.2.2.2⟩);have h2:=zil (show -4194304≤v.2∧v.2≤4194304 from ⟨hv.2.2.1,hv.2.2.2⟩) (show -4194304≤u.1∧u.1≤4194304 from ⟨hu.1,hu.2.1⟩);omega
set_option maxHeartbeats 1000000 in
theorem zajl (v u:Pt) (hv:zrz v) (hu:zrz u) (w:World) :
  Calls Tryz.prog 89 #[ptV v,ptV u] w fun e w'=>e=.returned (.int .i64 (v.1 * u.2 - v.2 * u.1))∧Below w.heap.size w w':=by
 have h1:=zil (show -4194304≤v.1∧v.1≤4194304 from ⟨hv.1,hv.2.1⟩) (show -4194304≤u.2∧u.2≤4194304 from ⟨hu.2.2.1,hu.2.2.2⟩);have h2:=zil (show -4194304≤v.2∧v.2≤4194304 from ⟨hv.2.2.1,hv.2.2.2⟩) (show -4194304≤u.1∧u.1≤4194304 from ⟨hu.1,hu.2.1⟩);obtain ⟨vx,vy⟩:=v;obtain ⟨ux,uy⟩:=u;simp only [] at h1 h2 ⊢;have w1:IntKind.i64.wrap (vx * uy)=vx * uy:=IntWalk.i64_in _ (by omega);have w2:IntKind.i64.wrap (vy * ux)=vy * ux:=IntWalk.i64_in _ (by omega);have w3:IntKind.i64.wrap (vx * uy - vy * ux)=vx * uy - vy * ux:=IntWalk.i64_in _ (by omega);clear hv hu h1 h2;go_enter Tryz.func89,Tryz.ntmps89;go_wp2;go_ret;exact ⟨rfl,(by repeat' (first | exact Below.refl _ _ | refine Below.drew ?_ | refine Below.drewN' ?_ | refine Below.setCell ?_ (by first | omega | (simp;done) | exact Below.size (by assumption) | (simp;omega)) _ | refine Below.alloc ?_ (by first | omega | (simp;done) | exact Below.size (by assumption) | (simp;omega)) _ | refine Below.trans ?_ (Below.mono (by assumption) ?_) | (first | omega | (simp;done) | exact Below.size (by assumption) | (simp;omega))))⟩
end Go.Proofs.YtibpaaajghbkoaaGreat

namespace Go.Proofs.YtibpaaajghbkoaaGreat
open Go.RowKit
theorem zamx (n:Int):Lib.compareInt n 0=sgn n:=by unfold Lib.compareInt sgn;split<;>(try split)<;>(try split)<;>(try split)<;>omega
theorem zfe {a b:Pt} (ha:zat a=true) (hb:zat b=true):zrz (b.1 - a.1,b.2 - a.2):=by have h1:=zem ha;have h2:=zem hb;unfold zrz;simp only;omega
set_option maxRecDepth 100000 in
set_option maxHeartbeats 2000000 in
theorem zfp (a b c:Pt) (ha:zat a=true) (hb:zat b=true) (hc:zat c=true) (w:World) :
  Calls Tryz.prog 50 #[ptV a,ptV b,ptV c] w fun e w'=>e=.returned (.int .i64 (sgn (crs a b c)))∧Below w.heap.size w w':=by
 have NR:=zH (fun (v:Value) w' hv=>by
  have:=ztu v [a,b,c] w' (by simp) hv
  rw [show [a,b,c].all zat=true by simp [ha,hb,hc]] at this
  exact this)
 have T1:=zH (fun w=>zanm a b ha hb w);have T2:=zH (fun w=>zanm a c ha hc w);have CR:=zH (fun w=>zajl (b.1 - a.1,b.2 - a.2) (c.1 - a.1,c.2 - a.2) (zfe ha hb) (zfe ha hc) w);have CP:=zH (fun w=>Tryz.cmp_Compare_int (crs a b c) 0 w);have HE:=zH (zamx (crs a b c));have HC:=zH (show (b.1 - a.1) * (c.2 - a.2) - (b.2 - a.2) * (c.1 - a.1)=crs a b c from rfl);generalize crs a b c=n at CP HE HC ⊢;simp only [HC.out] at CR;clear ha hb hc HC;obtain ⟨ax,ay⟩:=a;obtain ⟨bx,by1⟩:=b;obtain ⟨cx,cy⟩:=c;simp only [] at T1 T2 CR NR ⊢;go_enter Tryz.func50,Tryz.ntmps50;go_wp2_with fail;have H4:=zan ((((w.alloc (.cells #[.int .i64 ax,.int .i64 ay] 33)).alloc (.cells #[.int .i64 bx,.int .i64 by1] 33)).alloc (.cells #[.int .i64 cx,.int .i64 cy] 33))) (.cells #[.int .i64 ax,.int .i64 ay,.int .i64 bx,.int .i64 by1,.int .i64 cx,.int .i64 cy] 33);generalize hw1:(((w.alloc _).alloc _).alloc _).alloc _=w1;have B1:=gB4 hw1;have H1:=gA41 hw1;have H2:=gA42 hw1;have H3:=gA43 hw1;have H4':w1.heap[w.heap.size+3]?=some (.cells #[.int .i64 ax,.int .i64 ay,.int .i64 bx,.int .i64 by1,.int .i64 cx,.int .i64 cy] 33):=by rw [←hw1];simpa using H4
 clear hw1 H4;have H1:=zH H1;have H2:=zH H2;have H3:=zH H3;refine (NR.out _ w1 (RowE.of_block (l:=[(ax,ay),(bx,by1),(cx,cy)]) zeb rfl H4' 3 rfl)).mono ?_;rintro e w2 ⟨rfl,hb⟩;have B2:=zac B1 zR hb;replace H1:=zH (zab hb H1.out);replace H2:=zH (zab hb H2.out);replace H3:=zH (zab hb H3.out);clear hb H4' B1 NR;obtain ⟨az,a0,a1⟩:=rk2 H1.out;obtain ⟨bz,b0,b1⟩:=rk2 H2.out;obtain ⟨cz,c0,c1⟩:=rk2 H3.out;go_wp2_with fail;refine (T1.out _).mono ?_;rintro e w3 ⟨rfl,hb⟩;have B3:=zac B2 zR hb;clear a0 a1 az;clear b0 b1 bz;clear c0 c1 cz;replace H1:=zH (zab hb H1.out);replace H2:=zH (zab hb H2.out);replace H3:=zH (zab hb H3.out);clear hb B2;obtain ⟨az,a0,a1⟩:=rk2 H1.out;obtain ⟨cz,c0,c1⟩:=rk2 H3.out;go_wp2_with fail;refine (T2.out _).mono ?_;rintro e w4 ⟨rfl,hb⟩;have B4:=zac B3 zR hb;clear a0 a1 az;clear c0 c1 cz;clear hb B3;go_wp2_with fail;refine (CR.out _).mono ?_;rintro e w5 ⟨rfl,hb⟩;have B5:=zac B4 zR hb;clear hb B4;go_wp2_with fail;refine (CP.out _).mono ?_;rintro e w6 ⟨rfl,rfl⟩;go_wp2;go_ret;exact ⟨by rw [HE.out]<;>rfl,B5⟩
def zia:List Pt→Int
 |[]=>0
 |p :: l=>if Lib.compareInt p.1 p.2=0 then zia l else Lib.compareInt p.1 p.2
theorem zqy (l:List Pt) (k:Nat) (p:Pt) (hp:l[k]?=some p):zia (l.drop k)=if Lib.compareInt p.1 p.2=0 then zia (l.drop (k+1)) else Lib.compareInt p.1 p.2:=by obtain ⟨hk,rfl⟩:=List.getElem?_eq_some_iff.1 hp;rw [List.drop_eq_getElem_cons hk];rfl
theorem zso (p q:Pt):zia [(p.1,q.1),(p.2,q.2)]=lexC p q:=by unfold zia zia zia lexC Lib.compareInt;simp only;split<;>(try split)<;>(try split)<;>(try split)<;>(try split)<;>(try split)<;>omega
set_option maxRecDepth 100000 in
set_option maxHeartbeats 2000000 in
theorem zaja (v:Value) (l:List Pt) (w:World) (hl:l.length≤1000) (hv:RowE zfu 2 w v l) :
  Calls Tryz.prog 91 #[v] w fun e w'=>e=.returned (.int .i64 (zia l))∧Below w.heap.size w w':=by
 obtain ⟨a,cap,rfl,hc⟩:=hv;obtain ⟨N,hN⟩:∃N,l.length=N:=⟨_,rfl⟩;rw [hN] at hl hc ⊢;have HN:=zH hN;have HC:=zH hc;obtain ⟨res,hres⟩:∃z,zia l=z:=⟨_,rfl⟩;rw [hres];have HR:=zH hres;have CP:=zH (fun x y w=>Tryz.cmp_Compare_int x y w);clear hN hc hres;go_enter Tryz.func91,Tryz.ntmps91;go_wp2;go_loopw [8] (fun i wr=>∃k:Nat,k≤N∧i=.int .i64 k∧Hid (zia (l.drop k)=res)∧Below w.heap.size w wr) (fun i _=>N - (intOf i).toNat);case atStart=>exact ⟨0,by omega,rfl,HR,Below.refl _ _⟩
 case round =>
  obtain ⟨k,hk,rfl,hT,hbr⟩:=hrel;have hsz:=hbr.size;by_cases hlt:k<N
  ·obtain ⟨p,hp⟩:∃p,l[k]?=some p:=⟨l[k]'(by rw [HN.out];exact hlt),List.getElem?_eq_getElem _⟩;obtain ⟨b,off,ha,hcell⟩:=HC.out (by omega);subst ha;have c0:=cell_later hbr (hcell k p hp 0 _ rfl);have c1:=cell_later hbr (hcell k p hp 1 _ rfl);have c0':wr.cell? ⟨b,off+k * 2,none⟩=some (.int .i64 p.1):=c0;have HD:=zH (zqy l k p hp);obtain ⟨x,y⟩:=p;simp only [] at c0' c1 HD;clear c0 hcell hp;go_wp2_with fail;refine (CP.out x y _).mono ?_;rintro e w2 ⟨rfl,rfl⟩;obtain ⟨c,hcv⟩:∃z,z=Lib.compareInt x y:=⟨_,rfl⟩;rw [←hcv] at HD ⊢;clear hcv;by_cases h0:c=0
   ·subst h0;have HG:Hid (zia (l.drop (k+1))=res):=zH (by rw [←hT.out,HD.out,if_pos rfl]);go_wp2;go_roundw;case rel=>exact ⟨k+1,by omega,by go_num,HG,hbr.alloc hbr.size _⟩
    case measure=>simp [intOf];omega
   ·have h0d:(c != 0)=true:=(by rw [bne_iff_ne];exact h0);have HE:=zH (show res=c by rw [←hT.out,HD.out,if_neg h0]);go_wp2;go_ret;exact ⟨by rw [HE.out]<;>rfl,hbr.alloc hbr.size _⟩
  ·obtain rfl:k=N:=(by omega);have HE:=zH (show res=0 by rw [←hT.out,List.drop_of_length_le (by rw [HN.out];exact Nat.le_refl _)];rfl);go_wp2;go_ret;exact ⟨by rw [HE.out]<;>rfl,hbr⟩
set_option maxHeartbeats 1000000 in
theorem zkx (p q:Pt) (w:World) :
  Calls Tryz.prog 51 #[ptV p,ptV q] w fun e w'=>e=.returned (.int .i64 (lexC p q))∧Below w.heap.size w w':=by
 have FR:=zH (fun (v:Value) w' hv=>by
  have:=zaja v [(p.1,q.1),(p.2,q.2)] w' (by simp) hv
  rw [zso] at this
  exact this)
 generalize lexC p q=n at FR ⊢;obtain ⟨px,py⟩:=p;obtain ⟨qx,qy⟩:=q;simp only [] at FR ⊢;go_enter Tryz.func51,Tryz.ntmps51;go_wp2_with fail;refine (FR.out _ _ (RowE.of_block (l:=[(px,qx),(py,qy)]) zeb rfl (zth w (.cells #[.int .i64 px,.int .i64 py] 33) (.cells #[.int .i64 qx,.int .i64 qy] 33) (.cells #[.int .i64 px,.int .i64 qx,.int .i64 py,.int .i64 qy] 130)) 2 rfl)).mono ?_;rintro e w2 ⟨rfl,hb⟩;have B2:=zac (B:=w.heap.size) (a:=w) (by repeat' (first | exact Below.refl _ _ | refine Below.drew ?_ | refine Below.drewN' ?_ | refine Below.setCell ?_ (by first | omega | (simp;done) | exact Below.size (by assumption) | (simp;omega)) _ | refine Below.alloc ?_ (by first | omega | (simp;done) | exact Below.size (by assumption) | (simp;omega)) _ | refine Below.trans ?_ (Below.mono (by assumption) ?_) | (first | omega | (simp;done) | exact Below.size (by assumption) | (simp;omega)))) zR hb;go_wp2;go_ret;exact ⟨rfl,B2⟩
end Go.Proofs.YtibpaaajghbkoaaGreat

namespace Go.Proofs.YtibpaaajghbkoaaGreat
open Go.RowKit
theorem sf37:Tryz.prog.stoodInHeld 33=false:=by kernel_rfl
theorem eg37:Tryz.prog.eqGuardType Tryz.prog.depth 33=false:=by kernel_rfl
theorem fo37:Tryz.prog.underlying 33=some (.struct (Tryz.prog.fieldsOf 33)):=by kernel_rfl
theorem sf39:Tryz.prog.stoodInHeld 48=false:=by kernel_rfl
theorem eg39:Tryz.prog.eqGuardType Tryz.prog.depth 48=false:=by kernel_rfl
theorem fo39:Tryz.prog.underlying 48=some (.struct (Tryz.prog.fieldsOf 48)):=by kernel_rfl
theorem zdc (p q:Pt) (w:World):(binOp .eql 33 (.agg #[.int .i64 p.1,.int .i64 p.2]) (.agg #[.int .i64 q.1,.int .i64 q.2])).run Tryz.prog w=.ok (.bool (decide (p=q))) w:=by
 simp only [run_eql_struct];rw [show (10000:Nat)=9999+1 from rfl,run_equalIn_struct _ _ _ _ _ fo37 sf37];simp [Program.fieldsOf,Tryz.underlying33,Op.eqFields,go_sem];obtain ⟨a,b⟩:=p;obtain ⟨c,d⟩:=q;simp only [Prod.mk.injEq]
 (repeat' split)<;>simp_all
theorem zahn (p q:Pt) (w:World):(binOp .neq 33 (.agg #[.int .i64 p.1,.int .i64 p.2]) (.agg #[.int .i64 q.1,.int .i64 q.2])).run Tryz.prog w=.ok (.bool (!decide (p=q))) w:=by
 simp only [run_neq_struct];rw [show (10000:Nat)=9999+1 from rfl,run_equalIn_struct _ _ _ _ _ fo37 sf37];simp [Program.fieldsOf,Tryz.underlying33,Op.eqFields,go_sem];obtain ⟨a,b⟩:=p;obtain ⟨c,d⟩:=q;simp only [Prod.mk.injEq]
 (repeat' split)<;>simp_all
theorem zzo (s t:Sg) (w:World):(binOp .eql 48 (.agg #[.int .i64 s.1.1,.int .i64 s.1.2,.int .i64 s.2.1,.int .i64 s.2.2]) (.agg #[.int .i64 t.1.1,.int .i64 t.1.2,.int .i64 t.2.1,.int .i64 t.2.2])).run Tryz.prog w=.ok (.bool (decide (s=t))) w:=by
 simp only [run_eql_struct];rw [show (10000:Nat)=9999+1 from rfl,run_equalIn_struct _ _ _ _ _ fo39 sf39];simp [Program.fieldsOf,Tryz.underlying48,Op.eqFields,go_sem];obtain ⟨⟨a,b⟩,⟨c,d⟩⟩:=s;obtain ⟨⟨a',b'⟩,⟨c',d'⟩⟩:=t;simp only [Prod.mk.injEq]
 (repeat' split)<;>simp_all
set_option maxRecDepth 100000 in
set_option maxHeartbeats 2000000 in
theorem zny (s:Sg) (w:World) :
  Calls Tryz.prog 49 #[sgV s] w fun e w'=>e=.returned (sgV (srtS s))∧Below w.heap.size w w':=by
 have CP:=zH (fun w=>zkx s.1 s.2 w);have HS:=zH (show srtS s=if 0<lexC s.1 s.2 then (s.2,s.1) else s from rfl);generalize lexC s.1 s.2=c at CP HS;generalize srtS s=r at HS ⊢;obtain ⟨⟨ax,ay⟩,⟨bx,by1⟩⟩:=s;simp only [] at CP HS ⊢;go_enter Tryz.func49,Tryz.ntmps49;go_wp2_with fail;have H1:=zao (o':=.cells #[.int .i64 0,.int .i64 0,.int .i64 0,.int .i64 0] 48) (zan w (.cells #[.int .i64 ax,.int .i64 ay,.int .i64 bx,.int .i64 by1] 48));have H2:=zfj w (.cells #[.int .i64 ax,.int .i64 ay,.int .i64 bx,.int .i64 by1] 48) (.cells #[.int .i64 0,.int .i64 0,.int .i64 0,.int .i64 0] 48);refine (CP.out _).mono ?_;rintro e w2 ⟨rfl,hb⟩;have B2:Below w.heap.size w w2:=zac (by repeat' (first | exact Below.refl _ _ | refine Below.drew ?_ | refine Below.drewN' ?_ | refine Below.setCell ?_ (by first | omega | (simp;done) | exact Below.size (by assumption) | (simp;omega)) _ | refine Below.alloc ?_ (by first | omega | (simp;done) | exact Below.size (by assumption) | (simp;omega)) _ | refine Below.trans ?_ (Below.mono (by assumption) ?_) | (first | omega | (simp;done) | exact Below.size (by assumption) | (simp;omega)))) zR hb;have H1:=zH (zab hb H1);have H2:=zH (zab hb H2);clear hb CP;obtain ⟨az,a0,a1,a2,a3⟩:=rk4 H1.out;have af0:=frozen_of_row w2 _ 0 _ _ H1.out;have af1:=frozen_of_row w2 _ 1 _ _ H1.out;have af2:=frozen_of_row w2 _ 2 _ _ H1.out;have af3:=frozen_of_row w2 _ 3 _ _ H1.out;obtain ⟨bz,b0,b1,b2,b3⟩:=rk4 H2.out;have bf0:=frozen_of_row w2 _ 0 _ _ H2.out;have bf1:=frozen_of_row w2 _ 1 _ _ H2.out;have bf2:=frozen_of_row w2 _ 2 _ _ H2.out;have bf3:=frozen_of_row w2 _ 3 _ _ H2.out;by_cases h:0<c
 ·have hd:decide (0<c)=true:=decide_eq_true h;have HE:=zH (show r=((bx,by1),(ax,ay)) by rw [HS.out,if_pos h]);clear h;go_wp2;refine bodyPost_ret (v:=sgV ((bx,by1),(ax,ay))) ?_ rfl ⟨by rw [HE.out],?_⟩
  ·simp [results,Tryz.results49,go_sem,sgV,b0,b1,b2,b3]
  ·exact (((((((B2.setCell (p:=⟨w.heap.size,0,none⟩) zR _).setCell (p:=⟨w.heap.size,1,none⟩) zR _).setCell (p:=⟨w.heap.size,2,none⟩) zR _).setCell (p:=⟨w.heap.size,3,none⟩) zR _).setCell (p:=⟨w.heap.size+1,0,none⟩) (by simp) _).setCell (p:=⟨w.heap.size+1,1,none⟩) (by simp) _).setCell (p:=⟨w.heap.size+1,2,none⟩) (by simp) _).setCell (p:=⟨w.heap.size+1,3,none⟩) (by simp) _
 ·have hd:decide (0<c)=false:=decide_eq_false h;have HE:=zH (show r=((ax,ay),(bx,by1)) by rw [HS.out,if_neg h]);clear h;go_wp2;refine bodyPost_ret (v:=sgV ((ax,ay),(bx,by1))) ?_ rfl ⟨by rw [HE.out],?_⟩
  ·simp [results,Tryz.results49,go_sem,sgV,b0,b1,b2,b3]
  ·exact (((B2.setCell (p:=⟨w.heap.size+1,0,none⟩) (by simp) _).setCell (p:=⟨w.heap.size+1,1,none⟩) (by simp) _).setCell (p:=⟨w.heap.size+1,2,none⟩) (by simp) _).setCell (p:=⟨w.heap.size+1,3,none⟩) (by simp) _
end Go.Proofs.YtibpaaajghbkoaaGreat
