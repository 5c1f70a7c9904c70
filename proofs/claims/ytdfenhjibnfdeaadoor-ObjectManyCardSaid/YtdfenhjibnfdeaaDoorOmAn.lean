/-   -/
import Derived.Test.YtdfenhjibnfdeaaDoorOmAj
import Derived.Test.YtdfenhjibnfdeaaDoorOmAa
import Derived.OwnWalk
import Derived.Below
import Derived.StillTail
import Derived.Test.YtdfenhjibnfdeaaDoorOmAm
namespace Go.Proofs.YtdfenhjibnfdeaaDoor
open Go.RowKit
def StableW (S:World→Prop):Prop:=∀w w',S w→Below w.heap.size w w'→S w'
abbrev ByW (w:World):World→Prop:=fun w'=>∃p:BelowBy w,w'=p.at'
section
variable (P:Program) (md:Region.Mode) (ops:Array Oper) (S0:World→Prop) (Q:Act→World→Prop)
def QuietB (o:Oper) (a:Act) (v:Value):Prop:=∀w,S0 w→o.quietAt P a (ByW w) w v
def LoudB (o:Oper) (a:Act) (K:Act→(World→Prop)→Prop) (S:World→Prop):Prop :=
 ∃(ι:Type) (val:ι→Value) (T:ι→World→Prop),(∀x,StableW (T x))∧(∀x w,T x w→S0 w) ∧
  (∀w,S w→o.wp P a w (fun a' w'=>∃x,a'=a.put o.dst (val x)∧T x w') (fun _ _ _=>False))∧∀x,K (a.put o.dst (val x)) (T x)
def opM (i:Nat) (K:Act→(World→Prop)→Prop) (a:Act) (S:World→Prop):Prop :=
 match ops[i]? with
 |none=>K a S
 |some o=>if Region.wanted o (yielded ops a.tmps) then (∃v,QuietB P S0 o a v∧K (a.put o.dst v) S)∨LoudB P S0 o a K S else K (a.put o.dst undef) S
def anyM:Nat→Array Bool→Act→(World→Prop)→Prop
 |0,listed,a,S=>Region.ready md ops listed=[]∧∀w,S w→Q a w
 |fuel+1,listed,a,S=>(Region.ready md ops listed=[]→∀w,S w→Q a w) ∧
  ∀i∈Region.ready md ops listed,opM P ops S0 i (anyM fuel (listed.setIfInBounds i true)) a S
def hdMix:List Oper→Act→Act→Prop
 |[],a,b=>a=b
 |o :: rest,a,b=>if Region.wanted o (yielded ops a.tmps) then ∃v,QuietB P S0 o a v∧hdMix rest (a.put o.dst v) b else hdMix rest (a.put o.dst undef) b
def tailM:List Oper→Act→(World→Prop)→Prop
 |[],a,S=>∀w,S w→Q a w
 |o :: rest,a,S=>if Region.wanted o (yielded ops a.tmps) then LoudB P S0 o a (tailM rest) S else tailM rest (a.put o.dst undef) S
end
section
variable {P:Program} {md:Region.Mode} {ops:Array Oper} {S0:World→Prop} {Q:Act→World→Prop}
theorem put_size (a:Act) (x:Option Tmp) (v:Value):(a.put x v).tmps.size=a.tmps.size:=by cases x<;>simp [Act.put]
theorem put_defs (a:Act) (x:Option Tmp) (v:Value):(a.put x v).defers=a.defers:=by cases x<;>rfl
theorem put_cancel {a:Act} {x y:Option Tmp} {v u u':Value} (h:∀d,x=some d→y≠some d) (e:(a.put x v).put y u=(a.put x v).put y u'):a.put y u=a.put y u':=by
 cases y with
 |none=>rfl
 |some d =>
  cases x with
  |none=>exact e
  |some c =>
   have hne:c≠d:=fun he=>h c rfl (by rw [he])
   have e1:=congrArg (fun b:Act=>b.tmps[d]?) e
   simp only [Act.put] at e1
   rcases Nat.lt_or_ge d a.tmps.size with hd | hd
   ·simp [hd] at e1
    rw [e1]
   ·simp only [Act.put]
    rw [Array.setIfInBounds_eq_of_size_le (by omega),Array.setIfInBounds_eq_of_size_le (by omega)]
theorem upon_mono {o:Oper} {a b:Act} {K K':Act→World→Prop} {Q':Exit→Act→World→Prop} {r:Result Next}
  (hK:∀u w,K (a.put o.dst u) w→K' (b.put o.dst u) w) (hdef:∀d w,¬K ({ a with defers:=d :: a.defers }.put o.dst undef) w)
  (h:o.upon P a K (fun _ _ _=>False) r):o.upon P b K' Q' r:=by
 cases r with
 |ok n w' =>
  cases n<;>simp only [Oper.upon] at h ⊢
  case value v=>exact hK _ _ h
  case skip=>exact hK _ _ h
  case defer d=>exact absurd h (hdef d w')
  case enter f args =>
   refine Calls.mono h ?_
   intro e w'' h2
   cases e with
   |returned v=>exact hK _ _ h2
   |panicked c=>exact h2.elim
   |outgrown =>
    obtain ⟨_,_,h3⟩:=(h2:LetsOut _)
    exact h3.elim
  case row row args =>
   exact Rows.mono h fun v w'' h2=>hK _ _ h2
 |halt x w' =>
  cases x<;>simp only [Oper.upon] at h
theorem QuietB.of_put {oi oj:Oper} {a:Act} {v u:Value} (hsj:∀cs b,oj.op≠.select cs b) (h1:∀d,oi.dst=some d→d ∉ oj.looksAt ops) (h:QuietB P S0 oj (a.put oi.dst v) u):QuietB P S0 oj a u:=by
 intro w hw
 have:=h w hw
 unfold Oper.quietAt at this ⊢
 rwa [execOp_put oj hsj a oi.dst v h1] at this
theorem QuietB.put {oi oj:Oper} {a:Act} {v u:Value} (hsi:∀cs b,oi.op≠.select cs b) (h3:∀d,oj.dst=some d→d ∉ oi.looksAt ops) (h:QuietB P S0 oi a v):QuietB P S0 oi (a.put oj.dst u) v:=by
 intro w hw
 have:=h w hw
 unfold Oper.quietAt at this ⊢
 rwa [execOp_put oi hsi a oj.dst u h3]
theorem LoudB.of_put {oi oj:Oper} {a:Act} {v:Value} {K:Act→(World→Prop)→Prop} {S:World→Prop} (hsj:∀cs b,oj.op≠.select cs b) (h1:∀d,oi.dst=some d→d ∉ oj.looksAt ops) (h2:∀d,oi.dst=some d→oj.dst≠some d)
  (h:LoudB P S0 oj (a.put oi.dst v) K S):LoudB P S0 oj a (fun a' S'=>StableW S'∧(∀w,S' w→S0 w)∧K (a'.put oi.dst v) S') S:=by
 obtain ⟨ι,val,T,hst,hs0,hw,hk⟩:=h
 refine ⟨ι,val,T,hst,hs0,fun w hS=>?_,fun x=>⟨hst x,hs0 x,by rw [←Act.put_comm a v (val x) h2];exact hk x⟩⟩
 have:=hw w hS
 unfold Oper.wp at this ⊢
 rw [execOp_put oj hsj a oi.dst v h1] at this
 refine upon_mono ?_ ?_ this
 ·rintro u w' ⟨x,hx,hT⟩
  exact ⟨x,put_cancel h2 hx,hT⟩
 ·rintro d w' ⟨x,hx,-⟩
  have:=congrArg Act.defers hx
  simp only [put_defs] at this
  have:=congrArg List.length this
  simp at this
theorem LoudB.mono {o:Oper} {a:Act} {K K':Act→(World→Prop)→Prop} {S:World→Prop} (hK:∀a' S',StableW S'→(∀w,S' w→S0 w)→K a' S'→K' a' S') (h:LoudB P S0 o a K S):LoudB P S0 o a K' S:=by
 obtain ⟨ι,val,T,hst,hs0,hw,hk⟩:=h
 exact ⟨ι,val,T,hst,hs0,hw,fun x=>hK _ _ (hst x) (hs0 x) (hk x)⟩
theorem anyM_sound {Q':Exit→Act→World→Prop} (hQ:∀a w,Q a w→Q' .normal a w):∀(fuel:Nat) (listed:Array Bool) (a:Act) (S:World→Prop),StableW S→(∀w,S w→S0 w) →
  anyM P md ops S0 Q fuel listed a S→∀w,S w→wpAny P md ops Q' fuel listed a w
 |0,_,_,_,_,_,h,w,hw=>⟨h.1,hQ _ _ (h.2 w hw)⟩
 |fuel+1,listed,a,S,hst,hs0,h,w,hw=>by
  refine ⟨fun h0=>hQ _ _ (h.1 h0 w hw),fun i hi=>?_⟩
  have hi':=h.2 i hi
  unfold opM at hi'
  unfold wpOp
  cases ho:ops[i]? with
  |none=>simp only [ho] at hi' ⊢;exact anyM_sound hQ fuel _ _ S hst hs0 hi' w hw
  |some o =>
   simp only [ho] at hi' ⊢
   by_cases hwd:Region.wanted o (yielded ops a.tmps)=true
   ·simp only [hwd,if_true] at hi' ⊢
    refine Or.inl ?_
    rcases hi' with ⟨v,hq,hk⟩ | hl
    ·have h1:=hq w (hs0 w hw)
     unfold Oper.quietAt at h1
     unfold Oper.wp
     generalize (execOp a.eval o).run P w=r at h1 ⊢
     cases r with
     |ok n w' =>
      cases n<;>simp only [Oper.quietUpon] at h1<;>simp only [Oper.upon]
      case value u =>
       obtain ⟨e1,e2⟩:=h1
       rw [e1,e2]
       exact anyM_sound hQ fuel _ _ S hst hs0 hk w hw
      case skip =>
       obtain ⟨e1,e2⟩:=h1
       rw [e1,←e2]
       exact anyM_sound hQ fuel _ _ S hst hs0 hk w hw
      case enter f args =>
       obtain ⟨e1,hc⟩:=h1
       rw [e1]
       refine hc.mono ?_
       rintro e w'' ⟨rfl,p,rfl⟩
       exact anyM_sound hQ fuel _ _ S hst hs0 hk _ (hst _ _ hw p.below)
     |halt x w'=>simp only [Oper.quietUpon] at h1
    ·obtain ⟨ι,val,T,hst',hs0',hw',hk⟩:=hl
     have h1:=hw' w hw
     unfold Oper.wp at h1 ⊢
     refine upon_mono ?_ ?_ h1
     ·rintro u w'' ⟨x,hx,hT⟩
      rw [hx]
      exact anyM_sound hQ fuel _ _ (T x) (hst' x) (hs0' x) (hk x) w'' hT
     ·rintro d w'' ⟨x,hx,-⟩
      have:=congrArg Act.defers hx
      simp only [put_defs] at this
      have:=congrArg List.length this
      simp at this
   ·simp only [hwd] at hi' ⊢
    exact anyM_sound hQ fuel _ _ S hst hs0 hi' w hw
def YieldsM (P:Program) (ops:Array Oper) (S0:World→Prop) (o:Oper) (v:Value) (a:Act):Prop :=
 (Region.wanted o (yielded ops a.tmps)=true∧QuietB P S0 o a v)∨(Region.wanted o (yielded ops a.tmps)=false∧v=undef)
theorem YieldsM.opM {i:Nat} {o:Oper} {v:Value} {a:Act} {S:World→Prop} (hi:ops[i]?=some o) (hy:YieldsM P ops S0 o v a) {K:Act→(World→Prop)→Prop} (h:K (a.put o.dst v) S):opM P ops S0 i K a S:=by
 unfold Proofs.YtdfenhjibnfdeaaDoor.opM
 simp only [hi]
 rcases hy with ⟨hw,hv⟩ | ⟨hw,rfl⟩
 ·simp only [hw,if_true];exact Or.inl ⟨v,hv,h⟩
 ·simp only [hw,Bool.false_eq_true,if_false];exact h
theorem anyM_first {i:Nat} {oi:Oper} {v:Value} (hi:ops[i]?=some oi) (hsel:∀(j:Nat) (o:Oper) cs b,ops[j]?=some o→o.op≠.select cs b) :
  ∀(fuel:Nat) (listed:Array Bool) (a:Act) (S:World→Prop),StableW S→(∀w,S w→S0 w) →
   (∀j oj,ops[j]?=some oj→j≠i→listed.getD j true=false→(∀e∈oj.after,Region.binds md e=true→e.on≠i)→oi.apart ops oj=true) →
   i∈Region.ready md ops listed→YieldsM P ops S0 oi v a →
   anyM P md ops S0 Q fuel (listed.setIfInBounds i true) (a.put oi.dst v) S→anyM P md ops S0 Q (fuel+1) listed a S:=by
 intro fuel
 induction fuel with
 |zero =>
  intro listed a S _ _ _ hr hy H
  refine ⟨fun h=>(by rw [h] at hr;cases hr),fun j hj=>?_⟩
  by_cases hji:j=i
  ·subst hji;exact hy.opM hi H
  ·have:=ready_mono hj hji
   rw [H.1] at this
   cases this
 |succ fuel ih =>
  intro listed a S hst hs0 hfree hr hy H
  refine ⟨fun h=>(by rw [h] at hr;cases hr),fun j hj=>?_⟩
  by_cases hji:j=i
  ·subst hji;exact hy.opM hi H
  ·have h1:=H.2 j (ready_mono hj hji)
   obtain ⟨hjun,oj,hoj,hall⟩:=mem_ready.1 hj
   have hnot:∀e∈oj.after,Region.binds md e=true→e.on≠i:=fun e he hb heq=>by
    have h1:=hall e he hb
    have h0:=(mem_ready.1 hr).1
    rw [heq] at h1
    rcases Nat.lt_or_ge i listed.size with h' | h'
    ·simp [h'] at h0 h1;rw [h0] at h1;cases h1
    ·simp [Array.getElem?_eq_none h'] at h1
   obtain ⟨a1,a2,a3⟩:=Oper.apart_spec (hfree j oj hoj hji hjun hnot)
   have hsi:=fun cs b=>hsel i oi cs b hi
   have hsj:=fun cs b=>hsel j oj cs b hoj
   have keep:∀u,YieldsM P ops S0 oi v (a.put oj.dst u):=fun u=>by
    rcases hy with ⟨hw,hv⟩ | ⟨hw,e⟩
    ·exact Or.inl ⟨by rw [wanted_put oi a oj.dst u a3];exact hw,hv.put hsi a3⟩
    ·exact Or.inr ⟨by rw [wanted_put oi a oj.dst u a3];exact hw,e⟩
   have hfree':∀k ok,ops[k]?=some ok→k≠i→(listed.setIfInBounds j true).getD k true=false →
     (∀e∈ok.after,Region.binds md e=true→e.on≠i)→oi.apart ops ok=true:=fun k ok hk hki hun hno=>by
    refine hfree k ok hk hki ?_ hno
    by_cases hjk:j=k
    ·subst hjk;exact hjun
    ·rw [getD_set_ne true hjk] at hun;exact hun
   have next:∀(b:Act) (S':World→Prop),StableW S'→(∀w,S' w→S0 w)→YieldsM P ops S0 oi v b →
     anyM P md ops S0 Q fuel ((listed.setIfInBounds i true).setIfInBounds j true) (b.put oi.dst v) S'→anyM P md ops S0 Q (fuel+1) (listed.setIfInBounds j true) b S':=fun b S' h1 h2 h3 h4=>by
    refine ih (listed.setIfInBounds j true) b S' h1 h2 hfree' (ready_mono hr (Ne.symm hji)) h3 ?_
    rw [Array.setIfInBounds_comm _ _ hji]
    exact h4
   unfold opM at h1 ⊢
   simp only [hoj] at h1 ⊢
   rw [wanted_put oj a oi.dst v a1] at h1
   by_cases hw:Region.wanted oj (yielded ops a.tmps)=true
   ·simp only [hw,if_true] at h1 ⊢
    rcases h1 with ⟨u,hu,hk⟩ | hl
    ·refine Or.inl ⟨u,hu.of_put hsj a1,next _ S hst hs0 (keep u) ?_⟩
     rw [←Act.put_comm a v u a2];exact hk
    ·refine Or.inr ?_
     obtain ⟨ι,val,T,hst',hs0',hw',hk⟩:=hl.of_put hsj a1 a2
     exact ⟨ι,val,T,hst',hs0',hw',fun x=>next _ _ (hst' x) (hs0' x) (keep (val x)) (hk x).2.2⟩
   ·simp only [hw] at h1 ⊢
    refine next _ S hst hs0 (keep undef) ?_
    rw [←Act.put_comm a v undef a2];exact h1
def DoneTo (ops:Array Oper) (k:Nat) (listed:Array Bool):Prop:=listed.size=ops.size∧∀j,j<ops.size→∀d,listed.getD j d=decide (j<k)
theorem DoneTo.start:DoneTo ops 0 (Array.replicate ops.size false):=⟨by simp,fun j hj d=>by simp [hj]⟩
theorem DoneTo.step {k:Nat} {listed:Array Bool} (h:DoneTo ops k listed):DoneTo ops (k+1) (listed.setIfInBounds k true):=by
 refine ⟨by simp [h.1],fun j hj d=>?_⟩
 by_cases e:k=j
 ·subst e
  have:k<listed.size:=by rw [h.1];exact hj
  simp [this]
 ·rw [getD_set_ne d e,h.2 j hj d,decide_eq_decide];omega
theorem head_lex (hs:Region.noSelect ops=true) {b:Act} {S:World→Prop} (hst:StableW S) (hs0:∀w,S w→S0 w) (f:Nat) :
  ∀(l:List Oper) (k:Nat) (listed:Array Bool) (a:Act),DoneTo ops k listed→(∀j o,l[j]?=some o→ops[k+j]?=some o)→Region.lexFrom md ops (l.length+f) k listed=true →
   hdMix P ops S0 l a b→(∀listed',DoneTo ops (k+l.length) listed'→Region.lexFrom md ops f (k+l.length) listed'=true→anyM P md ops S0 Q f listed' b S)→anyM P md ops S0 Q (l.length+f) listed a S
 |[],k,listed,a,hd,_,hB,h,hK=>by
  have e:a=b:=h
  subst e
  simp only [List.length_nil,Nat.zero_add] at hB ⊢
  exact hK listed hd hB
 |o :: l,k,listed,a,hd,hl,hB,h,hK=>by
  have h0:ops[k]?=some o:=by simpa using hl 0 o rfl
  have e1:(o :: l).length+f=(l.length+f)+1:=by simp;omega
  rw [e1] at hB ⊢
  simp only [Region.lexFrom,Bool.and_eq_true] at hB
  obtain ⟨⟨hr,hf⟩,hB'⟩:=hB
  have step:∀v,hdMix P ops S0 l (a.put o.dst v) b→anyM P md ops S0 Q (l.length+f) (listed.setIfInBounds k true) (a.put o.dst v) S:=fun v hv =>
   head_lex hs hst hs0 f l (k+1) _ _ hd.step (fun j o' hj=>by have:=hl (j+1) o' (by simpa using hj);rw [←this];congr 1;omega) hB' hv
    (fun listed' hd' hB2=>by
     have e:k+1+l.length=k+(o :: l).length:=by simp;omega
     rw [e] at hd' hB2
     exact hK listed' hd' hB2)
  unfold hdMix at h
  by_cases hw:Region.wanted o (yielded ops a.tmps)=true
  ·simp only [hw,if_true] at h
   obtain ⟨v,hv,hh⟩:=h
   exact anyM_first h0 (Region.noSelect_spec hs) _ listed a S hst hs0 (Region.free_spec h0 hf) (by simpa using hr) (Or.inl ⟨hw,hv⟩) (step v hh)
  ·simp only [hw] at h
   exact anyM_first h0 (Region.noSelect_spec hs) _ listed a S hst hs0 (Region.free_spec h0 hf) (by simpa using hr) (Or.inr ⟨by simpa using hw,rfl⟩) (step undef h)
theorem tail_lex {n:Nat} (hc:Region.chainB md ops n=true) :
  ∀(l:List Oper) (k:Nat) (listed:Array Bool) (a:Act) (S:World→Prop),n≤k→DoneTo ops k listed→(∀j,l[j]?=ops[k+j]?)→Region.lexFrom md ops l.length k listed=true →
   tailM P ops S0 Q l a S→anyM P md ops S0 Q l.length listed a S
 |[],k,listed,a,S,_,_,_,hB,h=>⟨by simpa [Region.lexFrom] using hB,h⟩
 |o :: l,k,listed,a,S,hn,hd,hl,hB,h=>by
  have h0:ops[k]?=some o:=by simpa using (hl 0).symm
  have hkz:k<ops.size:=(Array.getElem?_eq_some_iff.1 h0).1
  simp only [List.length_cons,Region.lexFrom,Bool.and_eq_true] at hB
  obtain ⟨⟨hr,hf⟩,hB'⟩:=hB
  have hr':k∈Region.ready md ops listed:=by simpa using hr
  refine ⟨fun e=>(by rw [e] at hr';cases hr'),fun i hi=>?_⟩
  have hik:i=k:=by
   obtain ⟨hun,oi,hoi,hall⟩:=mem_ready.1 hi
   have hiz:i<ops.size:=(Array.getElem?_eq_some_iff.1 hoi).1
   have h1:=hd.2 i hiz true
   rw [hun] at h1
   have h2:¬i<k:=of_decide_eq_false h1.symm
   rcases Nat.lt_or_eq_of_le (Nat.le_of_not_lt h2) with h3 | h3
   ·have h4:=List.all_eq_true.1 hc i (List.mem_range.2 hiz)
    simp only [Bool.or_eq_true,decide_eq_true_eq] at h4
    rcases h4 with h4 | h4
    ·omega
    ·obtain ⟨o',ho',e,he,hb,hon⟩:=Region.waitsFor_spec h4
     have:o'=oi:=Option.some.inj (ho'.symm.trans hoi)
     subst this
     have h5:=hall e he hb
     rw [hon,hd.2 (i - 1) (by omega) false] at h5
     have:=of_decide_eq_true h5
     omega
   ·exact h3.symm
  subst hik
  have step:∀b S',tailM P ops S0 Q l b S'→anyM P md ops S0 Q l.length (listed.setIfInBounds i true) b S':=fun b S' hb =>
   tail_lex hc l (i+1) _ b S' (by omega) hd.step (fun j=>by have:=hl (j+1);simpa [Nat.add_assoc,Nat.add_comm 1 j] using this) hB' hb
  unfold opM
  unfold tailM at h
  simp only [h0]
  by_cases hw:Region.wanted o (yielded ops a.tmps)=true
  ·simp only [hw,if_true] at h ⊢
   exact Or.inr (h.mono fun a' S' _ _ hk=>step a' S' hk)
  ·simp only [hw] at h ⊢
   exact step _ S h
def dstsB:List Oper→Nat→Bool
 |[],_=>true
 |o :: l,n=>(match o.dst with
  |some d=>decide (d<n) && l.all fun o'=>o'.dst != some d
  |none=>false) && dstsB l n
theorem quiet_keeps {C:World→Prop} {b:Act} {d:Tmp}:∀(l:List Oper) (a:Act),(l.all fun o'=>o'.dst != some d)=true→wpQuiet P ops C (fun a'=>a'=b) l a→b.tmps[d]?=a.tmps[d]?
 |[],a,_,h=>by have e:a=b:=h;rw [e]
 |o :: l,a,hl,h=>by
  simp only [List.all_cons,Bool.and_eq_true] at hl
  have hne:o.dst≠some d:=by simpa using hl.1
  have key:∀v,wpQuiet P ops C (fun a'=>a'=b) l (a.put o.dst v)→b.tmps[d]?=a.tmps[d]?:=fun v hv=>by
   rw [quiet_keeps l _ hl.2 hv]
   cases ho:o.dst with
   |none=>rfl
   |some c =>
    have:c≠d:=fun e=>hne (by rw [ho,e])
    simp [Act.put,Array.getElem?_setIfInBounds_ne this]
  unfold wpQuiet at h
  by_cases hw:Region.wanted o (yielded ops a.tmps)=true
  ·simp only [hw,if_true] at h
   obtain ⟨v,_,hv⟩:=h
   exact key v hv
  ·simp only [hw] at h
   exact key undef h
theorem head_of_quiet {b:Act}:∀(l:List Oper) (a:Act),dstsB l a.tmps.size=true→(∃w,S0 w)→(∀w,S0 w→wpQuiet P ops (ByW w) (fun a'=>a'=b) l a)→hdMix P ops S0 l a b
 |[],a,_,⟨w,hw⟩,h=>h w hw
 |o :: l,a,hd,⟨w0,hw0⟩,h=>by
  unfold dstsB at hd
  rw [Bool.and_eq_true] at hd
  cases ho:o.dst with
  |none=>rw [ho] at hd;simp at hd
  |some d =>
   rw [ho] at hd
   simp only [Bool.and_eq_true,decide_eq_true_eq] at hd
   obtain ⟨⟨hdz,hdl⟩,hd2⟩:=hd
   unfold hdMix
   by_cases hw:Region.wanted o (yielded ops a.tmps)=true
   ·simp only [hw,if_true]
    have hall:∀w,S0 w→∃v,(∀w',ByW w w'→o.quietAt P a (ByW w) w' v)∧wpQuiet P ops (ByW w) (fun a'=>a'=b) l (a.put o.dst v):=fun w hS=>by
     have:=h w hS
     unfold wpQuiet at this
     simp only [hw,if_true] at this
     exact this
    obtain ⟨v0,h1,h2⟩:=hall w0 hw0
    have uni:∀w v,wpQuiet P ops (ByW w) (fun a'=>a'=b) l (a.put o.dst v)→b.tmps[d]?=some v:=fun w v hv=>by
     rw [quiet_keeps l _ hdl hv,ho]
     simp [Act.put,hdz]
    refine ⟨v0,fun w hS=>?_,?_⟩
    ·obtain ⟨v,h3,h4⟩:=hall w hS
     have e:v=v0:=Option.some.inj ((uni w v h4).symm.trans (uni w0 v0 h2))
     rw [←e]
     exact h3 w ⟨⟨w,Below.refl _ _⟩,rfl⟩
    ·refine head_of_quiet l _ (by rw [put_size];exact hd2) ⟨w0,hw0⟩ fun w hS=>?_
     obtain ⟨v,h3,h4⟩:=hall w hS
     have e:v=v0:=Option.some.inj ((uni w v h4).symm.trans (uni w0 v0 h2))
     rw [←e]
     exact h4
   ·simp only [hw]
    refine head_of_quiet l _ (by rw [put_size];exact hd2) ⟨w0,hw0⟩ fun w hS=>?_
    have:=h w hS
    unfold wpQuiet at this
    simp only [hw] at this
    exact this
theorem wp_region_mix {id:Nat} {Q':Exit→Act→World→Prop} {a:Act} {w:World} {l:List Oper} (n:Nat) (S0 S1:World→Prop) (hm:P.follows .mixedOrders=true)
  (hB:Region.lexB .any l.toArray=true) (hc:Region.chainB .any l.toArray n=true) (hd:dstsB (l.take n) a.tmps.size=true) (hst:StableW S1) (h10:∀W,S1 W→S0 W) (h1:S1 w.drew)
  (hh:∃b,(∀W,S0 W→wpQuiet P l.toArray (ByW W) (fun a'=>a'=b) (l.take n) a)∧tailM P l.toArray S0 (fun a' w'=>Q' .normal a' w') (l.drop n) b S1) :
  (Code.region id l.toArray true).wp P Q' a w:=by
 obtain ⟨b,hq,ht⟩:=hh
 simp only [Region.lexB,Bool.and_eq_true] at hB
 refine wp_region_any hm (anyM_sound (Q:=fun a' w'=>Q' .normal a' w') (S0:=S0) (fun _ _ h=>h) _ _ _ S1 hst h10 ?_ _ h1)
 have hlen:l.toArray.size=(l.take n).length+(l.drop n).length:=by
  rw [List.size_toArray,←List.length_append,List.take_append_drop]
 rw [hlen]
 refine head_lex hB.1 hst h10 (l.drop n).length (l.take n) 0 _ a (by rw [←hlen];exact DoneTo.start) (fun j o hj=>?_) (by rw [←hlen];exact hB.2) (head_of_quiet _ _ hd ⟨_,h10 _ h1⟩ hq) (fun listed' hd' hB'=>?_)
 ·rw [List.getElem?_take] at hj
  rw [Nat.zero_add,List.getElem?_toArray]
  split at hj
  ·exact hj
  ·cases hj
 ·rcases Nat.lt_or_ge n l.length with hn | hn
  ·have e:(l.take n).length=n:=by rw [List.length_take];omega
   rw [e,Nat.zero_add] at hd' hB'
   exact tail_lex hc (l.drop n) n listed' b S1 (Nat.le_refl _) hd' (fun j=>by rw [List.getElem?_drop,List.getElem?_toArray]) hB' ht
  ·have e:l.drop n=[]:=List.drop_of_length_le hn
   rw [e] at ht hB' ⊢
   exact ⟨by simpa [Region.lexFrom] using hB',ht⟩
theorem tailM_step {o:Oper} {rest:List Oper} {a:Act} {S:World→Prop} {ι:Type} (val:ι→Value) (T:ι→World→Prop) (hw:Region.wanted o (yielded ops a.tmps)=true) (hst:∀x,StableW (T x)) (hs0:∀x w,T x w→S0 w)
  (hrun:∀w,S w→∀K:Act→World→Prop,(∀x w',T x w'→K (a.put o.dst (val x)) w')→o.wp P a w K (fun _ _ _=>False)) (hk:∀x,tailM P ops S0 Q rest (a.put o.dst (val x)) (T x)):tailM P ops S0 Q (o :: rest) a S:=by
 unfold tailM
 rw [if_pos hw]
 exact ⟨ι,val,T,hst,hs0,fun w hS=>hrun w hS _ fun x w' hT=>⟨x,rfl,hT⟩,hk⟩
theorem tailM_pure {o:Oper} {rest:List Oper} {a:Act} {S:World→Prop} (v:Value) (hw:Region.wanted o (yielded ops a.tmps)=true) (hst:StableW S) (hs0:∀w,S w→S0 w)
  (hrun:∀w,S w→∀K:Act→World→Prop,K (a.put o.dst v) w→o.wp P a w K (fun _ _ _=>False)) (hk:tailM P ops S0 Q rest (a.put o.dst v) S):tailM P ops S0 Q (o :: rest) a S :=
 tailM_step (ι:=Unit) (fun _=>v) (fun _=>S) hw (fun _=>hst) (fun _=>hs0) (fun w hS K hK=>hrun w hS K (hK () w hS)) fun _=>hk
theorem tailM_nil {a:Act} {S:World→Prop} (h:∀w,S w→Q a w):tailM P ops S0 Q [] a S:=h
end
theorem StableW.below (B:Nat) (w:World) (hB:B≤w.heap.size):StableW fun W=>Below B w W:=fun _ _ h h'=>h.trans (h'.mono (Nat.le_trans hB h.size))
theorem StableW.and {S T:World→Prop} (h:StableW S) (k:StableW T):StableW fun W=>S W∧T W:=fun _ _ h1 h2=>⟨h _ _ h1.1 h2,k _ _ h1.2 h2⟩
theorem StableW.row (b:Nat) (o:Obj):StableW fun W=>W.heap[b]?=some o:=fun _ _ h h2=>row_later h2 h
theorem StableW.const (p:Prop):StableW fun _=>p:=fun _ _ h _=>h
end Go.Proofs.YtdfenhjibnfdeaaDoor

namespace Go.Proofs.YtdfenhjibnfdeaaDoor
open Go.RowKit Go.Shelf
def digWords (id:ByteArray) (kind:Int) (refs:List ByteArray):List ByteArray:=[wordK kind,id,decB 0,decB 0,decB refs.length]++refs
theorem strRow_own {w:World} {base n:Nat} {v:Value} {l:List ByteArray} (h:w.ownsRow base 9 1 v n (l.map Value.string)) (hn:n=l.length) (hl:l.length≤1000000) (hz:∀s∈l,s.size≤1000000):StrRow w v l:=by
 subst hn
 have hc:=fun g=>World.ownsRow.cells h (g:=g)
 rcases h.2 with ⟨rfl,h0⟩ | ⟨g,cap,cur,rfl,hr⟩
 ·exact ⟨none,0,by rw [h0],by omega,fun s hs=>by have:=hz s hs;omega,fun h=>by omega⟩
 ·refine ⟨some ⟨g,0,none⟩,cap,rfl,by omega,fun s hs=>by have:=hz s hs;omega,fun _=>⟨g,0,rfl,fun i s hi=>?_⟩⟩
  have:=hc g rfl i (.string s) (by rw [List.getElem?_map,hi];rfl)
  rwa [Addr.add_lit] at this
theorem row_grownL {w w':World} {row:Option Nat} {k:Nat} {o:Obj} (hg:w.grownBy w' row) (h:w.heap[k]?=some o) (hne:some k≠row):w'.heap[k]?=some o:=(hg.block k (lt_of_block h) hne).trans h
set_option maxRecDepth 100000 in
set_option maxHeartbeats 4000000 in
theorem digestO_any (id:ByteArray) (kind:Int) (vr vt:Value) (refs:List ByteArray) (w:World) (hz:id.size≤24) (hv:StrRow w vr refs) (ht:TagRow w vt []) (hok:objOK ⟨id,kind,0,0,refs,[]⟩=true) (hn:refs.length<100) (h0:0<refs.length) :
  Calls Tryd.prog 10 #[.agg #[.string id,.int .i64 kind,.int .i64 0,.int .i64 0,vr,vt]] w fun e w'=>e=.returned (.string (listB (digWords id kind refs)))∧Below w.heap.size w w':=by
 have B1:Below w.heap.size w (w.alloc (.cells #[.string id,.int .i64 kind,.int .i64 0,.int .i64 0,vr,vt] 29)):=(Below.refl _ w).alloc (Nat.le_refl _) _
 have VA:=Lib.hid (validO_any id kind 0 0 vr vt refs [] _ (by omega) (hv.later B1) (ht.later B1))
 have HX:=Lib.hid (row_new w (.cells #[.string id,.int .i64 kind,.int .i64 0,.int .i64 0,vr,vt] 29))
 rw [hok] at VA
 have hnm:∀s∈refs,s.size≤24:=by
  simp only [objOK,Bool.and_eq_true] at hok
  exact fun s hs=>name_size (refs_names kind refs [] hok.1.2 s hs)
 clear hok
 have HWZ:=Lib.hid (show ∀s∈digWords id kind refs,s.size<100 from fun s hs=>by
  have h1:(wordK kind).size≤10:=by unfold wordK;(repeat' split)<;>decide
  have h2:=decB_size 0 (by decide)
  have h3:=decB_size refs.length hn
  simp only [digWords,List.mem_append,List.mem_cons,List.not_mem_nil,or_false] at hs
  rcases hs with (rfl | rfl | rfl | rfl | rfl) | hs
  ·omega
  ·omega
  ·omega
  ·omega
  ·omega
  ·have:=hnm s hs;omega)
 obtain ⟨ar,cr,rfl,-,-,hcell⟩:=hv
 obtain ⟨at1,ct,rfl,-⟩:=ht
 obtain ⟨bk,off,rfl,hcl⟩:=hcell h0
 obtain ⟨N,hN⟩:∃N,refs.length=N:=⟨_,rfl⟩
 have HN:=Lib.hid hN
 rw [hN] at VA HX B1 hn h0 ⊢
 have HCL:=Lib.hid hcl
 have hs0:(wordK kind).size≤10:=by unfold wordK;(repeat' split)<;>decide
 clear hN hcl hcell
 have I0:=Lib.hid (fun W=>(show Calls Tryd.prog 15 #[.int .i64 0] W fun e w'=>e=.returned (.string (decB 0))∧Below W.heap.size W w' from (Tryd.strconv_Itoa_small 0 (by decide) W).mono fun e w' h=>⟨h.1,by rw [h.2];exact Below.refl _ _⟩))
 have IN:=Lib.hid (fun W=>(show Calls Tryd.prog 15 #[.int .i64 N] W fun e w'=>e=.returned (.string (decB N))∧Below W.heap.size W w' from (Tryd.strconv_Itoa_small N hn W).mono fun e w' h=>⟨h.1,by rw [h.2];exact Below.refl _ _⟩))
 have WD:=Lib.hid (fun W=>word_any kind W)
 go_enter Tryd.func10,Tryd.ntmps10
 go_wp2_with fail
 refine VA.out.mono ?_
 rintro e w1 ⟨rfl,hb1⟩
 have H1:=Lib.hid (row_later hb1 HX.out)
 have BW1:=below_step B1 (by simp) hb1
 have hl1:=lt_of_block H1.out
 have hmx:Tryd.prog.follows .mixedOrders=true:=by kernel_rfl
 go_wp2
 refine wp_region_mix 17 (fun W=>Below w1.heap.size w1 W) (fun W=>Below w1.heap.size w1 W) hmx (by kernel_rfl) (by kernel_rfl) (by kernel_rfl) (StableW.below _ _ (Nat.le_refl _)) (fun W hW=>hW) (Below.refl _ _).drew ?_
 apply Exists.intro
 refine ⟨fun W hW=>?_,?_⟩
 ·have HXW:=row_later hW H1.out
  clear hW
  obtain ⟨xz,x0,x1,x2,x3,x4,x5⟩:=rk6 HXW
  have HXW':=Lib.hid HXW
  clear HXW
  have d0:=cell_belowBy x0
  have d1:=cell_belowBy x1
  have d2:=cell_belowBy x2
  have d3:=cell_belowBy x3
  have d4:=cell_belowBy x4
  clear x0 x1 x2 x3 x4 x5
  simp only [List.take_succ_cons,List.take_zero]
  repeat (go_big_quiet_step (first | (go_at_call 14;exact calls_belowBy (WD.out _)) | (go_at_call 15;first | exact calls_belowBy (I0.out _) | exact calls_belowBy (IN.out _))))
  exact wpQuiet_nil rfl
 ·simp only [List.drop_succ_cons,List.drop_zero]
  refine tailM_step (ι:=Nat) (fun g=>.slice (some ⟨g,0,none⟩) 5 5) (fun g W=>Below w1.heap.size w1 W∧(W.heap[g]?=some (.cells #[.string (wordK kind),.string id,.string (decB 0),.string (decB 0),.string (decB N)] 9)∧w1.heap.size≤g)) rfl (fun g=>(StableW.below _ _ (Nat.le_refl _)).and ((StableW.row _ _).and (StableW.const _))) (fun _ _ h=>h.1) (fun W hS K hK=>?_) (fun g=>?_)
  ·go_simp
   exact hK W.heap.size _ ⟨hS.alloc hS.size _,row_new _ _,hS.size⟩
  simp only [Act.put,List.setIfInBounds_toArray,List.set_cons_succ,List.set_cons_zero]
  refine tailM_pure (.slice (some ⟨g,0,none⟩) 5 5) rfl ((StableW.below _ _ (Nat.le_refl _)).and ((StableW.row _ _).and (StableW.const _))) (fun _ h=>h.1) (fun W hS K hK=>?_) (tailM_nil fun W hW=>?_)
  ·go_simp
   exact hK
  obtain ⟨hW1,hWg,hgl⟩:=hW
  simp only [Act.put,List.setIfInBounds_toArray,List.set_cons_succ,List.set_cons_zero]
  have HB:=Lib.hid (row_later hW1 H1.out)
  have BW:=below_step BW1 (Nat.le_refl _) hW1
  obtain ⟨i0,hi,hi0,hi1,hi2⟩:=info_parts infoStrL
  have hown:W.ownsRow w.heap.size 9 1 (.slice (some ⟨g,0,none⟩) 5 5) 5 [.string (wordK kind),.string id,.string (decB 0),.string (decB 0),.string (decB N)] :=
   ⟨rfl,.inr ⟨g,5,_,rfl,Nat.le_trans BW1.size hgl,hWg,by decide,by unfold maxLen;omega,rfl,rfl⟩⟩
  have hcr:∀j u,(refs.map Value.string)[j]?=some u→W.cell? ((⟨bk,off,none⟩:Addr).add j)=some u:=fun j u hj=>by
   rw [List.getElem?_map] at hj
   obtain ⟨s,hs,rfl⟩:=Option.map_eq_some_iff.1 hj
   rw [Addr.add_lit]
   exact cell_low (HCL.out j s hs) (fun k hk=>BW.block k hk)
  have HOW:=Lib.hid hown
  have HNE:=Lib.hid (show some w.heap.size≠(Value.slice (some ⟨g,0,none⟩) 5 5).ownBlock from fun e=>by
   obtain rfl:g=w.heap.size:=by simpa [Value.ownBlock] using e.symm
   rw [HB.out] at hWg;injection hWg with hWg;injection hWg with _ hWg;exact absurd hWg (by decide))
  have hbs:=BW.size
  have hml:(refs.map Value.string).length=N * 1:=by rw [List.length_map,HN.out];omega
  clear hW1 hWg hgl hown
  obtain ⟨cz,c0,c1,c2,c3,c4,c5⟩:=rk6 HB.out
  go_wp2_with (at_builtin;refine wpList_append_own _ rfl _ _ 26 rfl w.heap.size 9 i0 (.string ⟨#[]⟩) 1 16 Tryd.underlying26 hi hi0 hi1 hi2 rfl (by decide) _ _ _ rfl HOW.out ⟨bk,off,none⟩ N cr (refs.map Value.string) (by first | rfl | exact hml) (by first | rfl | exact hml) hcr (by intro u hu;obtain ⟨s,_,rfl⟩:=List.mem_map.1 hu;rfl) (by unfold maxLen;omega) (by omega) hbs ?_;intro v' w5 hown5 hgr5 _;have HB5:=row_grownL (row:=(Value.slice (some ⟨g,0,none⟩) 5 5).ownBlock) hgr5 HB.out HNE.out;have q5:=cell_of_row w5 _ 5 _ _ _ HB5;simp only [List.getElem?_toArray,List.getElem?_cons_zero,List.getElem?_cons_succ] at q5)
  have hz5:=hgr5.size
  have B5:Below w.heap.size w w5:=BW.grown (row:=(Value.slice (some ⟨g,0,none⟩) 5 5).ownBlock) hgr5 BW.size (fun j ej=>(HOW.out.lt j ej).1)
  have HWS:=Lib.hid (show digWords id kind refs=[wordK kind,id,decB 0,decB 0,decB N]++refs by rw [digWords,HN.out])
  have hSR:StrRow w5 v' (digWords id kind refs):=by
   have e:[.string (wordK kind),.string id,.string (decB 0),.string (decB 0),.string (decB N)]++refs.map Value.string=(digWords id kind refs).map Value.string:=by rw [HWS.out];simp
   rw [e] at hown5
   refine strRow_own hown5 ?_ ?_ ?_
   ·rw [HWS.out];simp only [List.length_append,List.length_cons,List.length_nil,HN.out]
   ·rw [HWS.out];simp only [List.length_append,List.length_cons,List.length_nil,HN.out];omega
   ·intro s hs
    have:=HWZ.out s hs
    omega
  have LS:=Lib.hid (fun W (h:StrRow W v' (digWords id kind refs))=>list_any v' (digWords id kind refs) W h HWZ.out (by rw [HWS.out];simp only [List.length_append,List.length_cons,List.length_nil,HN.out];omega))
  have HSR:=Lib.hid hSR
  clear hSR hown5 hgr5 c0 c1 c2 c3 c4 c5 cz
  go_loop [3,34] (fun x i=>x=v'∧i=.int .i64 0) (fun _ _=>0)
  case atStart=>exact ⟨rfl,rfl⟩
  case round =>
   obtain ⟨rfl,rfl⟩:=hrel
   go_wp2_with fail
   refine (LS.out _ HSR.out).mono ?_
   rintro e w6 ⟨rfl,hb6⟩
   go_wp2
   go_ret
   exact ⟨rfl,below_step B5 (Nat.le_refl _) hb6⟩
end Go.Proofs.YtdfenhjibnfdeaaDoor
