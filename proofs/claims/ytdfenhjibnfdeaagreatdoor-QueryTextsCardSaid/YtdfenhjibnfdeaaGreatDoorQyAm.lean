/-      -/
import Derived.Test.YtdfenhjibnfdeaaGreatDoorQyAh
import Derived.Test.YtdfenhjibnfdeaaGreatDoorQyAe
import Derived.StillTail
import Derived.Test.YtdfenhjibnfdeaaGreatDoorQyAi
namespace Go.Proofs.YtdfenhjibnfdeaaGreatDoor
open Go.RowKit
def StableW (S:World→Prop):Prop:=∀w w',S w→Below w.heap.size w w'→S w'
abbrev ByW (w:World):World→Prop:=fun w'=>∃p:BelowBy w,w'=p.at'
section
variable (P:Program) (md:Region.Mode) (ops:Array Oper) (S0:World→Prop) (Q:Act→World→Prop)
def QuietB (o:Oper) (a:Act) (v:Value):Prop:=∀w,S0 w→o.quietAt P a (ByW w) w v
def LoudB (o:Oper) (a:Act) (K:Act→(World→Prop)→Prop) (S:World→Prop):Prop :=
 ∃(ι:Type) (val:ι→Value) (T:ι→World→Prop),(∀x,StableW (T x))∧(∀x w,T x w→S0 w) ∧
  (∀w,S w→o.wp P a w (fun a' w'=>∃x,a'=a.put o.dst (val x)∧T x w') (fun _ _ _=>False))∧∀x,K (a.put o.dst (val x)) (T x)
def opM (i:Nat) (K:Act→(World→Prop)→Prop) (a:Act) (S:World→Prop):Prop :=
 match ops[i]? with
 |none=>K a S
 |some o=>if Region.wanted o (yielded ops a.tmps) then (∃v,QuietB P S0 o a v∧K (a.put o.dst v) S)∨LoudB P S0 o a K S else K (a.put o.dst undef) S
def anyM:Nat→Array Bool→Act→(World→Prop)→Prop
 |0,listed,a,S=>Region.ready md ops listed=[]∧∀w,S w→Q a w
 |fuel+1,listed,a,S=>(Region.ready md ops listed=[]→∀w,S w→Q a w) ∧
  ∀i∈Region.ready md ops listed,opM P ops S0 i (anyM fuel (listed.setIfInBounds i true)) a S
def hdMix:List Oper→Act→Act→Prop
 |[],a,b=>a=b
 |o :: rest,a,b=>if Region.wanted o (yielded ops a.tmps) then ∃v,QuietB P S0 o a v∧hdMix rest (a.put o.dst v) b else hdMix rest (a.put o.dst undef) b
def tailM:List Oper→Act→(World→Prop)→Prop
 |[],a,S=>∀w,S w→Q a w
 |o :: rest,a,S=>if Region.wanted o (yielded ops a.tmps) then LoudB P S0 o a (tailM rest) S else tailM rest (a.put o.dst undef) S
end
section
variable {P:Program} {md:Region.Mode} {ops:Array Oper} {S0:World→Prop} {Q:Act→World→Prop}
theorem put_size (a:Act) (x:Option Tmp) (v:Value):(a.put x v).tmps.size=a.tmps.size:=by cases x<;>simp [Act.put]
theorem put_defs (a:Act) (x:Option Tmp) (v:Value):(a.put x v).defers=a.defers:=by cases x<;>rfl
theorem put_cancel {a:Act} {x y:Option Tmp} {v u u':Value} (h:∀d,x=some d→y≠some d) (e:(a.put x v).put y u=(a.put x v).put y u'):a.put y u=a.put y u':=by
 cases y with
 |none=>rfl
 |some d =>
  cases x with
  |none=>exact e
  |some c =>
   have hne:c≠d:=fun he=>h c rfl (by rw [he])
   have e1:=congrArg (fun b:Act=>b.tmps[d]?) e
   simp only [Act.put] at e1
   rcases Nat.lt_or_ge d a.tmps.size with hd | hd
   ·simp [hd] at e1
    rw [e1]
   ·simp only [Act.put]
    rw [Array.setIfInBounds_eq_of_size_le (by omega),Array.setIfInBounds_eq_of_size_le (by omega)]
theorem upon_mono {o:Oper} {a b:Act} {K K':Act→World→Prop} {Q':Exit→Act→World→Prop} {r:Result Next}
  (hK:∀u w,K (a.put o.dst u) w→K' (b.put o.dst u) w) (hdef:∀d w,¬K ({ a with defers:=d :: a.defers }.put o.dst undef) w)
  (h:o.upon P a K (fun _ _ _=>False) r):o.upon P b K' Q' r:=by
 cases r with
 |ok n w' =>
  cases n<;>simp only [Oper.upon] at h ⊢
  case value v=>exact hK _ _ h
  case skip=>exact hK _ _ h
  case defer d=>exact absurd h (hdef d w')
  case enter f args =>
   refine Calls.mono h ?_
   intro e w'' h2
   cases e with
   |returned v=>exact hK _ _ h2
   |panicked c=>exact h2.elim
   |outgrown =>
    obtain ⟨_,_,h3⟩:=(h2:LetsOut _)
    exact h3.elim
  case row row args =>
   exact Rows.mono h fun v w'' h2=>hK _ _ h2
 |halt x w' =>
  cases x<;>simp only [Oper.upon] at h
theorem QuietB.of_put {oi oj:Oper} {a:Act} {v u:Value} (hsj:∀cs b,oj.op≠.select cs b) (h1:∀d,oi.dst=some d→d ∉ oj.looksAt ops) (h:QuietB P S0 oj (a.put oi.dst v) u):QuietB P S0 oj a u:=by
 intro w hw
 have:=h w hw
 unfold Oper.quietAt at this ⊢
 rwa [execOp_put oj hsj a oi.dst v h1] at this
theorem QuietB.put {oi oj:Oper} {a:Act} {v u:Value} (hsi:∀cs b,oi.op≠.select cs b) (h3:∀d,oj.dst=some d→d ∉ oi.looksAt ops) (h:QuietB P S0 oi a v):QuietB P S0 oi (a.put oj.dst u) v:=by
 intro w hw
 have:=h w hw
 unfold Oper.quietAt at this ⊢
 rwa [execOp_put oi hsi a oj.dst u h3]
theorem LoudB.of_put {oi oj:Oper} {a:Act} {v:Value} {K:Act→(World→Prop)→Prop} {S:World→Prop} (hsj:∀cs b,oj.op≠.select cs b) (h1:∀d,oi.dst=some d→d ∉ oj.looksAt ops) (h2:∀d,oi.dst=some d→oj.dst≠some d)
  (h:LoudB P S0 oj (a.put oi.dst v) K S):LoudB P S0 oj a (fun a' S'=>StableW S'∧(∀w,S' w→S0 w)∧K (a'.put oi.dst v) S') S:=by
 obtain ⟨ι,val,T,hst,hs0,hw,hk⟩:=h
 refine ⟨ι,val,T,hst,hs0,fun w hS=>?_,fun x=>⟨hst x,hs0 x,by rw [←Act.put_comm a v (val x) h2];exact hk x⟩⟩
 have:=hw w hS
 unfold Oper.wp at this ⊢
 rw [execOp_put oj hsj a oi.dst v h1] at this
 refine upon_mono ?_ ?_ this
 ·rintro u w' ⟨x,hx,hT⟩
  exact ⟨x,put_cancel h2 hx,hT⟩
 ·rintro d w' ⟨x,hx,-⟩
  have:=congrArg Act.defers hx
  simp only [put_defs] at this
  have:=congrArg List.length this
  simp at this
theorem LoudB.mono {o:Oper} {a:Act} {K K':Act→(World→Prop)→Prop} {S:World→Prop} (hK:∀a' S',StableW S'→(∀w,S' w→S0 w)→K a' S'→K' a' S') (h:LoudB P S0 o a K S):LoudB P S0 o a K' S:=by
 obtain ⟨ι,val,T,hst,hs0,hw,hk⟩:=h
 exact ⟨ι,val,T,hst,hs0,hw,fun x=>hK _ _ (hst x) (hs0 x) (hk x)⟩
theorem anyM_sound {Q':Exit→Act→World→Prop} (hQ:∀a w,Q a w→Q' .normal a w):∀(fuel:Nat) (listed:Array Bool) (a:Act) (S:World→Prop),StableW S→(∀w,S w→S0 w) →
  anyM P md ops S0 Q fuel listed a S→∀w,S w→wpAny P md ops Q' fuel listed a w
 |0,_,_,_,_,_,h,w,hw=>⟨h.1,hQ _ _ (h.2 w hw)⟩
 |fuel+1,listed,a,S,hst,hs0,h,w,hw=>by
  refine ⟨fun h0=>hQ _ _ (h.1 h0 w hw),fun i hi=>?_⟩
  have hi':=h.2 i hi
  unfold opM at hi'
  unfold wpOp
  cases ho:ops[i]? with
  |none=>simp only [ho] at hi' ⊢;exact anyM_sound hQ fuel _ _ S hst hs0 hi' w hw
  |some o =>
   simp only [ho] at hi' ⊢
   by_cases hwd:Region.wanted o (yielded ops a.tmps)=true
   ·simp only [hwd,if_true] at hi' ⊢
    refine Or.inl ?_
    rcases hi' with ⟨v,hq,hk⟩ | hl
    ·have h1:=hq w (hs0 w hw)
     unfold Oper.quietAt at h1
     unfold Oper.wp
     generalize (execOp a.eval o).run P w=r at h1 ⊢
     cases r with
     |ok n w' =>
      cases n<;>simp only [Oper.quietUpon] at h1<;>simp only [Oper.upon]
      case value u =>
       obtain ⟨e1,e2⟩:=h1
       rw [e1,e2]
       exact anyM_sound hQ fuel _ _ S hst hs0 hk w hw
      case skip =>
       obtain ⟨e1,e2⟩:=h1
       rw [e1,←e2]
       exact anyM_sound hQ fuel _ _ S hst hs0 hk w hw
      case enter f args =>
       obtain ⟨e1,hc⟩:=h1
       rw [e1]
       refine hc.mono ?_
       rintro e w'' ⟨rfl,p,rfl⟩
       exact anyM_sound hQ fuel _ _ S hst hs0 hk _ (hst _ _ hw p.below)
     |halt x w'=>simp only [Oper.quietUpon] at h1
    ·obtain ⟨ι,val,T,hst',hs0',hw',hk⟩:=hl
     have h1:=hw' w hw
     unfold Oper.wp at h1 ⊢
     refine upon_mono ?_ ?_ h1
     ·rintro u w'' ⟨x,hx,hT⟩
      rw [hx]
      exact anyM_sound hQ fuel _ _ (T x) (hst' x) (hs0' x) (hk x) w'' hT
     ·rintro d w'' ⟨x,hx,-⟩
      have:=congrArg Act.defers hx
      simp only [put_defs] at this
      have:=congrArg List.length this
      simp at this
   ·simp only [hwd] at hi' ⊢
    exact anyM_sound hQ fuel _ _ S hst hs0 hi' w hw
def YieldsM (P:Program) (ops:Array Oper) (S0:World→Prop) (o:Oper) (v:Value) (a:Act):Prop :=
 (Region.wanted o (yielded ops a.tmps)=true∧QuietB P S0 o a v)∨(Region.wanted o (yielded ops a.tmps)=false∧v=undef)
theorem YieldsM.opM {i:Nat} {o:Oper} {v:Value} {a:Act} {S:World→Prop} (hi:ops[i]?=some o) (hy:YieldsM P ops S0 o v a) {K:Act→(World→Prop)→Prop} (h:K (a.put o.dst v) S):opM P ops S0 i K a S:=by
 unfold Proofs.YtdfenhjibnfdeaaGreatDoor.opM
 simp only [hi]
 rcases hy with ⟨hw,hv⟩ | ⟨hw,rfl⟩
 ·simp only [hw,if_true];exact Or.inl ⟨v,hv,h⟩
 ·simp only [hw,Bool.false_eq_true,if_false];exact h
theorem anyM_first {i:Nat} {oi:Oper} {v:Value} (hi:ops[i]?=some oi) (hsel:∀(j:Nat) (o:Oper) cs b,ops[j]?=some o→o.op≠.select cs b) :
  ∀(fuel:Nat) (listed:Array Bool) (a:Act) (S:World→Prop),StableW S→(∀w,S w→S0 w) →
   (∀j oj,ops[j]?=some oj→j≠i→listed.getD j true=false→(∀e∈oj.after,Region.binds md e=true→e.on≠i)→oi.apart ops oj=true) →
   i∈Region.ready md ops listed→YieldsM P ops S0 oi v a →
   anyM P md ops S0 Q fuel (listed.setIfInBounds i true) (a.put oi.dst v) S→anyM P md ops S0 Q (fuel+1) listed a S:=by
 intro fuel
 induction fuel with
 |zero =>
  intro listed a S _ _ _ hr hy H
  refine ⟨fun h=>(by rw [h] at hr;cases hr),fun j hj=>?_⟩
  by_cases hji:j=i
  ·subst hji;exact hy.opM hi H
  ·have:=ready_mono hj hji
   rw [H.1] at this
   cases this
 |succ fuel ih =>
  intro listed a S hst hs0 hfree hr hy H
  refine ⟨fun h=>(by rw [h] at hr;cases hr),fun j hj=>?_⟩
  by_cases hji:j=i
  ·subst hji;exact hy.opM hi H
  ·have h1:=H.2 j (ready_mono hj hji)
   obtain ⟨hjun,oj,hoj,hall⟩:=mem_ready.1 hj
   have hnot:∀e∈oj.after,Region.binds md e=true→e.on≠i:=fun e he hb heq=>by
    have h1:=hall e he hb
    have h0:=(mem_ready.1 hr).1
    rw [heq] at h1
    rcases Nat.lt_or_ge i listed.size with h' | h'
    ·simp [h'] at h0 h1;rw [h0] at h1;cases h1
    ·simp [Array.getElem?_eq_none h'] at h1
   obtain ⟨a1,a2,a3⟩:=Oper.apart_spec (hfree j oj hoj hji hjun hnot)
   have hsi:=fun cs b=>hsel i oi cs b hi
   have hsj:=fun cs b=>hsel j oj cs b hoj
   have keep:∀u,YieldsM P ops S0 oi v (a.put oj.dst u):=fun u=>by
    rcases hy with ⟨hw,hv⟩ | ⟨hw,e⟩
    ·exact Or.inl ⟨by rw [wanted_put oi a oj.dst u a3];exact hw,hv.put hsi a3⟩
    ·exact Or.inr ⟨by rw [wanted_put oi a oj.dst u a3];exact hw,e⟩
   have hfree':∀k ok,ops[k]?=some ok→k≠i→(listed.setIfInBounds j true).getD k true=false →
     (∀e∈ok.after,Region.binds md e=true→e.on≠i)→oi.apart ops ok=true:=fun k ok hk hki hun hno=>by
    refine hfree k ok hk hki ?_ hno
    by_cases hjk:j=k
    ·subst hjk;exact hjun
    ·rw [getD_set_ne true hjk] at hun;exact hun
   have next:∀(b:Act) (S':World→Prop),StableW S'→(∀w,S' w→S0 w)→YieldsM P ops S0 oi v b →
     anyM P md ops S0 Q fuel ((listed.setIfInBounds i true).setIfInBounds j true) (b.put oi.dst v) S'→anyM P md ops S0 Q (fuel+1) (listed.setIfInBounds j true) b S':=fun b S' h1 h2 h3 h4=>by
    refine ih (listed.setIfInBounds j true) b S' h1 h2 hfree' (ready_mono hr (Ne.symm hji)) h3 ?_
    rw [Array.setIfInBounds_comm _ _ hji]
    exact h4
   unfold opM at h1 ⊢
   simp only [hoj] at h1 ⊢
   rw [wanted_put oj a oi.dst v a1] at h1
   by_cases hw:Region.wanted oj (yielded ops a.tmps)=true
   ·simp only [hw,if_true] at h1 ⊢
    rcases h1 with ⟨u,hu,hk⟩ | hl
    ·refine Or.inl ⟨u,hu.of_put hsj a1,next _ S hst hs0 (keep u) ?_⟩
     rw [←Act.put_comm a v u a2];exact hk
    ·refine Or.inr ?_
     obtain ⟨ι,val,T,hst',hs0',hw',hk⟩:=hl.of_put hsj a1 a2
     exact ⟨ι,val,T,hst',hs0',hw',fun x=>next _ _ (hst' x) (hs0' x) (keep (val x)) (hk x).2.2⟩
   ·simp only [hw] at h1 ⊢
    refine next _ S hst hs0 (keep undef) ?_
    rw [←Act.put_comm a v undef a2];exact h1
def DoneTo (ops:Array Oper) (k:Nat) (listed:Array Bool):Prop:=listed.size=ops.size∧∀j,j<ops.size→∀d,listed.getD j d=decide (j<k)
theorem DoneTo.start:DoneTo ops 0 (Array.replicate ops.size false):=⟨by simp,fun j hj d=>by simp [hj]⟩
theorem DoneTo.step {k:Nat} {listed:Array Bool} (h:DoneTo ops k listed):DoneTo ops (k+1) (listed.setIfInBounds k true):=by
 refine ⟨by simp [h.1],fun j hj d=>?_⟩
 by_cases e:k=j
 ·subst e
  have:k<listed.size:=by rw [h.1];exact hj
  simp [this]
 ·rw [getD_set_ne d e,h.2 j hj d,decide_eq_decide];omega
theorem head_lex (hs:Region.noSelect ops=true) {b:Act} {S:World→Prop} (hst:StableW S) (hs0:∀w,S w→S0 w) (f:Nat) :
  ∀(l:List Oper) (k:Nat) (listed:Array Bool) (a:Act),DoneTo ops k listed→(∀j o,l[j]?=some o→ops[k+j]?=some o)→Region.lexFrom md ops (l.length+f) k listed=true →
   hdMix P ops S0 l a b→(∀listed',DoneTo ops (k+l.length) listed'→Region.lexFrom md ops f (k+l.length) listed'=true→anyM P md ops S0 Q f listed' b S)→anyM P md ops S0 Q (l.length+f) listed a S
 |[],k,listed,a,hd,_,hB,h,hK=>by
  have e:a=b:=h
  subst e
  simp only [List.length_nil,Nat.zero_add] at hB ⊢
  exact hK listed hd hB
 |o :: l,k,listed,a,hd,hl,hB,h,hK=>by
  have h0:ops[k]?=some o:=by simpa using hl 0 o rfl
  have e1:(o :: l).length+f=(l.length+f)+1:=by simp;omega
  rw [e1] at hB ⊢
  simp only [Region.lexFrom,Bool.and_eq_true] at hB
  obtain ⟨⟨hr,hf⟩,hB'⟩:=hB
  have step:∀v,hdMix P ops S0 l (a.put o.dst v) b→anyM P md ops S0 Q (l.length+f) (listed.setIfInBounds k true) (a.put o.dst v) S:=fun v hv =>
   head_lex hs hst hs0 f l (k+1) _ _ hd.step (fun j o' hj=>by have:=hl (j+1) o' (by simpa using hj);rw [←this];congr 1;omega) hB' hv
    (fun listed' hd' hB2=>by
     have e:k+1+l.length=k+(o :: l).length:=by simp;omega
     rw [e] at hd' hB2
     exact hK listed' hd' hB2)
  unfold hdMix at h
  by_cases hw:Region.wanted o (yielded ops a.tmps)=true
  ·simp only [hw,if_true] at h
   obtain ⟨v,hv,hh⟩:=h
   exact anyM_first h0 (Region.noSelect_spec hs) _ listed a S hst hs0 (Region.free_spec h0 hf) (by simpa using hr) (Or.inl ⟨hw,hv⟩) (step v hh)
  ·simp only [hw] at h
   exact anyM_first h0 (Region.noSelect_spec hs) _ listed a S hst hs0 (Region.free_spec h0 hf) (by simpa using hr) (Or.inr ⟨by simpa using hw,rfl⟩) (step undef h)
theorem tail_lex {n:Nat} (hc:Region.chainB md ops n=true) :
  ∀(l:List Oper) (k:Nat) (listed:Array Bool) (a:Act) (S:World→Prop),n≤k→DoneTo ops k listed→(∀j,l[j]?=ops[k+j]?)→Region.lexFrom md ops l.length k listed=true →
   tailM P ops S0 Q l a S→anyM P md ops S0 Q l.length listed a S
 |[],k,listed,a,S,_,_,_,hB,h=>⟨by simpa [Region.lexFrom] using hB,h⟩
 |o :: l,k,listed,a,S,hn,hd,hl,hB,h=>by
  have h0:ops[k]?=some o:=by simpa using (hl 0).symm
  have hkz:k<ops.size:=(Array.getElem?_eq_some_iff.1 h0).1
  simp only [List.length_cons,Region.lexFrom,Bool.and_eq_true] at hB
  obtain ⟨⟨hr,hf⟩,hB'⟩:=hB
  have hr':k∈Region.ready md ops listed:=by simpa using hr
  refine ⟨fun e=>(by rw [e] at hr';cases hr'),fun i hi=>?_⟩
  have hik:i=k:=by
   obtain ⟨hun,oi,hoi,hall⟩:=mem_ready.1 hi
   have hiz:i<ops.size:=(Array.getElem?_eq_some_iff.1 hoi).1
   have h1:=hd.2 i hiz true
   rw [hun] at h1
   have h2:¬i<k:=of_decide_eq_false h1.symm
   rcases Nat.lt_or_eq_of_le (Nat.le_of_not_lt h2) with h3 | h3
   ·have h4:=List.all_eq_true.1 hc i (List.mem_range.2 hiz)
    simp only [Bool.or_eq_true,decide_eq_true_eq] at h4
    rcases h4 with h4 | h4
    ·omega
    ·obtain ⟨o',ho',e,he,hb,hon⟩:=Region.waitsFor_spec h4
     have:o'=oi:=Option.some.inj (ho'.symm.trans hoi)
     subst this
     have h5:=hall e he hb
     rw [hon,hd.2 (i - 1) (by omega) false] at h5
     have:=of_decide_eq_true h5
     omega
   ·exact h3.symm
  subst hik
  have step:∀b S',tailM P ops S0 Q l b S'→anyM P md ops S0 Q l.length (listed.setIfInBounds i true) b S':=fun b S' hb =>
   tail_lex hc l (i+1) _ b S' (by omega) hd.step (fun j=>by have:=hl (j+1);simpa [Nat.add_assoc,Nat.add_comm 1 j] using this) hB' hb
  unfold opM
  unfold tailM at h
  simp only [h0]
  by_cases hw:Region.wanted o (yielded ops a.tmps)=true
  ·simp only [hw,if_true] at h ⊢
   exact Or.inr (h.mono fun a' S' _ _ hk=>step a' S' hk)
  ·simp only [hw] at h ⊢
   exact step _ S h
def dstsB:List Oper→Nat→Bool
 |[],_=>true
 |o :: l,n=>(match o.dst with
  |some d=>decide (d<n) && l.all fun o'=>o'.dst != some d
  |none=>false) && dstsB l n
theorem quiet_keeps {C:World→Prop} {b:Act} {d:Tmp}:∀(l:List Oper) (a:Act),(l.all fun o'=>o'.dst != some d)=true→wpQuiet P ops C (fun a'=>a'=b) l a→b.tmps[d]?=a.tmps[d]?
 |[],a,_,h=>by have e:a=b:=h;rw [e]
 |o :: l,a,hl,h=>by
  simp only [List.all_cons,Bool.and_eq_true] at hl
  have hne:o.dst≠some d:=by simpa using hl.1
  have key:∀v,wpQuiet P ops C (fun a'=>a'=b) l (a.put o.dst v)→b.tmps[d]?=a.tmps[d]?:=fun v hv=>by
   rw [quiet_keeps l _ hl.2 hv]
   cases ho:o.dst with
   |none=>rfl
   |some c =>
    have:c≠d:=fun e=>hne (by rw [ho,e])
    simp [Act.put,Array.getElem?_setIfInBounds_ne this]
  unfold wpQuiet at h
  by_cases hw:Region.wanted o (yielded ops a.tmps)=true
  ·simp only [hw,if_true] at h
   obtain ⟨v,_,hv⟩:=h
   exact key v hv
  ·simp only [hw] at h
   exact key undef h
theorem head_of_quiet {b:Act}:∀(l:List Oper) (a:Act),dstsB l a.tmps.size=true→(∃w,S0 w)→(∀w,S0 w→wpQuiet P ops (ByW w) (fun a'=>a'=b) l a)→hdMix P ops S0 l a b
 |[],a,_,⟨w,hw⟩,h=>h w hw
 |o :: l,a,hd,⟨w0,hw0⟩,h=>by
  unfold dstsB at hd
  rw [Bool.and_eq_true] at hd
  cases ho:o.dst with
  |none=>rw [ho] at hd;simp at hd
  |some d =>
   rw [ho] at hd
   simp only [Bool.and_eq_true,decide_eq_true_eq] at hd
   obtain ⟨⟨hdz,hdl⟩,hd2⟩:=hd
   unfold hdMix
   by_cases hw:Region.wanted o (yielded ops a.tmps)=true
   ·simp only [hw,if_true]
    have hall:∀w,S0 w→∃v,(∀w',ByW w w'→o.quietAt P a (ByW w) w' v)∧wpQuiet P ops (ByW w) (fun a'=>a'=b) l (a.put o.dst v):=fun w hS=>by
     have:=h w hS
     unfold wpQuiet at this
     simp only [hw,if_true] at this
     exact this
    obtain ⟨v0,h1,h2⟩:=hall w0 hw0
    have uni:∀w v,wpQuiet P ops (ByW w) (fun a'=>a'=b) l (a.put o.dst v)→b.tmps[d]?=some v:=fun w v hv=>by
     rw [quiet_keeps l _ hdl hv,ho]
     simp [Act.put,hdz]
    refine ⟨v0,fun w hS=>?_,?_⟩
    ·obtain ⟨v,h3,h4⟩:=hall w hS
     have e:v=v0:=Option.some.inj ((uni w v h4).symm.trans (uni w0 v0 h2))
     rw [←e]
     exact h3 w ⟨⟨w,Below.refl _ _⟩,rfl⟩
    ·refine head_of_quiet l _ (by rw [put_size];exact hd2) ⟨w0,hw0⟩ fun w hS=>?_
     obtain ⟨v,h3,h4⟩:=hall w hS
     have e:v=v0:=Option.some.inj ((uni w v h4).symm.trans (uni w0 v0 h2))
     rw [←e]
     exact h4
   ·simp only [hw]
    refine head_of_quiet l _ (by rw [put_size];exact hd2) ⟨w0,hw0⟩ fun w hS=>?_
    have:=h w hS
    unfold wpQuiet at this
    simp only [hw] at this
    exact this
theorem wp_region_mix {id:Nat} {Q':Exit→Act→World→Prop} {a:Act} {w:World} {l:List Oper} (n:Nat) (S0 S1:World→Prop) (hm:P.follows .mixedOrders=true)
  (hB:Region.lexB .any l.toArray=true) (hc:Region.chainB .any l.toArray n=true) (hd:dstsB (l.take n) a.tmps.size=true) (hst:StableW S1) (h10:∀W,S1 W→S0 W) (h1:S1 w.drew)
  (hh:∃b,(∀W,S0 W→wpQuiet P l.toArray (ByW W) (fun a'=>a'=b) (l.take n) a)∧tailM P l.toArray S0 (fun a' w'=>Q' .normal a' w') (l.drop n) b S1) :
  (Code.region id l.toArray true).wp P Q' a w:=by
 obtain ⟨b,hq,ht⟩:=hh
 simp only [Region.lexB,Bool.and_eq_true] at hB
 refine wp_region_any hm (anyM_sound (Q:=fun a' w'=>Q' .normal a' w') (S0:=S0) (fun _ _ h=>h) _ _ _ S1 hst h10 ?_ _ h1)
 have hlen:l.toArray.size=(l.take n).length+(l.drop n).length:=by
  rw [List.size_toArray,←List.length_append,List.take_append_drop]
 rw [hlen]
 refine head_lex hB.1 hst h10 (l.drop n).length (l.take n) 0 _ a (by rw [←hlen];exact DoneTo.start) (fun j o hj=>?_) (by rw [←hlen];exact hB.2) (head_of_quiet _ _ hd ⟨_,h10 _ h1⟩ hq) (fun listed' hd' hB'=>?_)
 ·rw [List.getElem?_take] at hj
  rw [Nat.zero_add,List.getElem?_toArray]
  split at hj
  ·exact hj
  ·cases hj
 ·rcases Nat.lt_or_ge n l.length with hn | hn
  ·have e:(l.take n).length=n:=by rw [List.length_take];omega
   rw [e,Nat.zero_add] at hd' hB'
   exact tail_lex hc (l.drop n) n listed' b S1 (Nat.le_refl _) hd' (fun j=>by rw [List.getElem?_drop,List.getElem?_toArray]) hB' ht
  ·have e:l.drop n=[]:=List.drop_of_length_le hn
   rw [e] at ht hB' ⊢
   exact ⟨by simpa [Region.lexFrom] using hB',ht⟩
theorem tailM_step {o:Oper} {rest:List Oper} {a:Act} {S:World→Prop} {ι:Type} (val:ι→Value) (T:ι→World→Prop) (hw:Region.wanted o (yielded ops a.tmps)=true) (hst:∀x,StableW (T x)) (hs0:∀x w,T x w→S0 w)
  (hrun:∀w,S w→∀K:Act→World→Prop,(∀x w',T x w'→K (a.put o.dst (val x)) w')→o.wp P a w K (fun _ _ _=>False)) (hk:∀x,tailM P ops S0 Q rest (a.put o.dst (val x)) (T x)):tailM P ops S0 Q (o :: rest) a S:=by
 unfold tailM
 rw [if_pos hw]
 exact ⟨ι,val,T,hst,hs0,fun w hS=>hrun w hS _ fun x w' hT=>⟨x,rfl,hT⟩,hk⟩
theorem tailM_pure {o:Oper} {rest:List Oper} {a:Act} {S:World→Prop} (v:Value) (hw:Region.wanted o (yielded ops a.tmps)=true) (hst:StableW S) (hs0:∀w,S w→S0 w)
  (hrun:∀w,S w→∀K:Act→World→Prop,K (a.put o.dst v) w→o.wp P a w K (fun _ _ _=>False)) (hk:tailM P ops S0 Q rest (a.put o.dst v) S):tailM P ops S0 Q (o :: rest) a S :=
 tailM_step (ι:=Unit) (fun _=>v) (fun _=>S) hw (fun _=>hst) (fun _=>hs0) (fun w hS K hK=>hrun w hS K (hK () w hS)) fun _=>hk
theorem tailM_nil {a:Act} {S:World→Prop} (h:∀w,S w→Q a w):tailM P ops S0 Q [] a S:=h
end
theorem StableW.below (B:Nat) (w:World) (hB:B≤w.heap.size):StableW fun W=>Below B w W:=fun _ _ h h'=>h.trans (h'.mono (Nat.le_trans hB h.size))
theorem StableW.and {S T:World→Prop} (h:StableW S) (k:StableW T):StableW fun W=>S W∧T W:=fun _ _ h1 h2=>⟨h _ _ h1.1 h2,k _ _ h1.2 h2⟩
theorem StableW.row (b:Nat) (o:Obj):StableW fun W=>W.heap[b]?=some o:=fun _ _ h h2=>row_later h2 h
theorem StableW.owns (B:Nat) (e:TypeId) (size:Nat) (v:Value) (n:Nat) (xs:List Value):StableW fun W=>W.ownsRow B e size v n xs:=fun _ _ h h2=>own_laterL h h2
end Go.Proofs.YtdfenhjibnfdeaaGreatDoor

namespace Go.Proofs.YtdfenhjibnfdeaaGreatDoor
open Go.RowKit
section
variable {P:Program} {md:Region.Mode} {ops:Array Oper} {S0:World→Prop} {Q:Act→World→Prop}
theorem LoudB.mk' {o:Oper} {a:Act} {S:World→Prop} {K':Act→(World→Prop)→Prop} {ι:Type} (val:ι→Value) (T:ι→World→Prop) (hst:∀x,StableW (T x)) (hs0:∀x w,T x w→S0 w)
  (hrun:∀w,S w→∀K:Act→World→Prop,(∀x w',T x w'→K (a.put o.dst (val x)) w')→o.wp P a w K (fun _ _ _=>False)) (hk:∀x,K' (a.put o.dst (val x)) (T x)):LoudB P S0 o a K' S :=
 ⟨ι,val,T,hst,hs0,fun w hS=>hrun w hS _ fun x _ hT=>⟨x,rfl,hT⟩,hk⟩
end
end Go.Proofs.YtdfenhjibnfdeaaGreatDoor

namespace Go.Proofs.YtdfenhjibnfdeaaGreatDoor
open Go.RowKit
section
variable {P:Program} {md:Region.Mode} {ops:Array Oper} {S0:World→Prop} {Q:Act→World→Prop}
def startL (n k:Nat):Array Bool:=(Array.range k).map fun i=>decide (i<n)
theorem doneTo_start {n:Nat} {listed:Array Bool} (h:DoneTo ops n listed):listed=startL n ops.size:=by
 refine Array.ext (by simp [startL,h.1]) fun i h1 h2=>?_
 have:=h.2 i (by rw [←h.1];exact h1) false
 rw [Array.getD_eq_getD_getElem?,Array.getElem?_eq_getElem h1] at this
 simpa [startL] using this
theorem any_one {fuel:Nat} {listed:Array Bool} {a:Act} {S:World→Prop} (c:Nat) {o:Oper} (hr:Region.ready md ops listed=[c]) (ho:ops[c]?=some o) (hw:Region.wanted o (yielded ops a.tmps)=true)
  (h:LoudB P S0 o a (anyM P md ops S0 Q fuel (listed.setIfInBounds c true)) S):anyM P md ops S0 Q (fuel+1) listed a S:=by
 refine ⟨fun e=>(by rw [hr] at e;cases e),fun i hi=>?_⟩
 rw [hr] at hi
 obtain rfl:i=c:=by simpa using hi
 unfold opM
 simp only [ho,hw,if_true]
 exact Or.inr h
theorem any_two {fuel:Nat} {listed:Array Bool} {a:Act} {S:World→Prop} (c d:Nat) {o o':Oper} (hr:Region.ready md ops listed=[c,d]) (ho:ops[c]?=some o) (ho':ops[d]?=some o') (hw:Region.wanted o (yielded ops a.tmps)=true) (hw':Region.wanted o' (yielded ops a.tmps)=true)
  (h:LoudB P S0 o a (anyM P md ops S0 Q fuel (listed.setIfInBounds c true)) S) (h':LoudB P S0 o' a (anyM P md ops S0 Q fuel (listed.setIfInBounds d true)) S):anyM P md ops S0 Q (fuel+1) listed a S:=by
 refine ⟨fun e=>(by rw [hr] at e;cases e),fun i hi=>?_⟩
 rw [hr] at hi
 have hi:i=c∨i=d:=by simpa using hi
 unfold opM
 rcases hi with rfl | rfl
 ·simp only [ho,hw,if_true]
  exact Or.inr h
 ·simp only [ho',hw',if_true]
  exact Or.inr h'
theorem any_quiet {fuel:Nat} {listed:Array Bool} {a:Act} {S:World→Prop} (i:Nat) (v:Value) {o:Oper} (hst:StableW S) (h10:∀w,S w→S0 w) (ho:ops[i]?=some o) (hs:Region.noSelect ops=true) (hf:Region.free md ops listed i=true) (hr:(Region.ready md ops listed).contains i=true) (hw:Region.wanted o (yielded ops a.tmps)=true)
  (hq:QuietB P S0 o a v) (h:anyM P md ops S0 Q fuel (listed.setIfInBounds i true) (a.put o.dst v) S):anyM P md ops S0 Q (fuel+1) listed a S :=
 anyM_first ho (Region.noSelect_spec hs) fuel listed a S hst h10 (Region.free_spec ho hf) (by simpa using hr) (Or.inl ⟨hw,hq⟩) h
theorem any_end {listed:Array Bool} {a:Act} {S:World→Prop} (hr:Region.ready md ops listed=[]) (h:∀w,S w→Q a w):anyM P md ops S0 Q 0 listed a S:=⟨hr,h⟩
theorem QuietB.pure {o:Oper} {a:Act} {v:Value} (h:∀w,(execOp a.eval o).run P w=.ok (.value v) w):QuietB P S0 o a v:=fun w _=>by
 show Oper.quietUpon P (ByW w) w v _
 rw [h w]
 exact ⟨rfl,rfl⟩
theorem wp_region_nodes {id:Nat} {Q':Exit→Act→World→Prop} {a:Act} {w:World} {l:List Oper} (n k:Nat) (S0 S1:World→Prop) (hm:P.follows .mixedOrders=true)
  (hs:Region.noSelect l.toArray=true) (hB:Region.lexFrom .any l.toArray l.length 0 (Array.replicate l.length false)=true) (hd:dstsB (l.take n) a.tmps.size=true) (hst:StableW S1) (h10:∀W,S1 W→S0 W) (h1:S1 w.drew) (hk:l.length=n+k)
  (hh:∃b,(∀W,S0 W→wpQuiet P l.toArray (ByW W) (fun a'=>a'=b) (l.take n) a)∧anyM P .any l.toArray S0 (fun a' w'=>Q' .normal a' w') k (startL n (n+k)) b S1) :
  (Code.region id l.toArray true).wp P Q' a w:=by
 obtain ⟨b,hq,hfr⟩:=hh
 obtain rfl:k=l.length - n:=by omega
 rw [←hk] at hfr
 have hn:n≤l.length:=by omega
 refine wp_region_any hm (anyM_sound (Q:=fun a' w'=>Q' .normal a' w') (S0:=S0) (fun _ _ h=>h) _ _ _ S1 hst h10 ?_ _ h1)
 have e:(l.take n).length=n:=by rw [List.length_take];omega
 have hle:l.toArray.size=(l.take n).length+(l.length - n):=by rw [List.size_toArray,e];omega
 rw [hle]
 refine head_lex hs hst h10 (l.length - n) (l.take n) 0 _ a (by rw [←hle];exact DoneTo.start) (fun j o hj=>?_) (by rw [←hle,List.size_toArray];exact hB) (head_of_quiet _ _ hd ⟨_,h10 _ h1⟩ hq) (fun listed' hd' _=>?_)
 ·rw [List.getElem?_take] at hj
  rw [Nat.zero_add,List.getElem?_toArray]
  split at hj
  ·exact hj
  ·cases hj
 ·rw [e,Nat.zero_add] at hd'
  have hs2:=doneTo_start hd'
  rw [List.size_toArray] at hs2
  subst hs2
  exact hfr
end
end Go.Proofs.YtdfenhjibnfdeaaGreatDoor

namespace Go.Proofs.YtdfenhjibnfdeaaGreatDoor
open Go.RowKit Go.Shelf
abbrev qryC (q:QryD) (a:Option Addr) (cap:Nat):Array Value:=#[.int .i64 q.ask,.int .i64 q.kind,.int .i64 q.wher.op,.string q.wher.key,.string q.wher.val,.int .i64 q.wher.n,.slice a q.wher.kids.length cap,.string q.id,.int .i64 q.n,.int .i64 q.x,.int .i64 q.y,.string q.key,.string q.prof,.int .i64 q.minute]
abbrev qryV (q:QryD) (a:Option Addr) (cap:Nat):Value:=.agg (qryC q a cap)
theorem words_any (w:World):Calls Tryz.prog 31 #[] w fun e w'=>e=.returned (.slice (some ⟨w.heap.size,0,none⟩) 6 6)∧StrRow w' (.slice (some ⟨w.heap.size,0,none⟩) 6 6) kindsW∧Below w.heap.size w w':=by
 have HS:=Lib.hid (strs_new w kindsW (by decide) (by decide))
 have B1:=(Below.refl w.heap.size w).alloc (Nat.le_refl _) (.cells (kindsW.map Value.string).toArray 9)
 go_enter Tryz.func31,Tryz.ntmps31
 go_wp2
 go_ret
 exact ⟨rfl,HS.out,B1⟩
theorem within_any (n lo hi:Int) (w:World):Calls Tryz.prog 35 #[.int .i64 n,.int .i64 lo,.int .i64 hi] w fun e w'=>e=.returned (.bool (decide (lo≤n∧n≤hi)))∧w'=w:=by
 by_cases h1:lo≤n
 ·have d1:decide (lo≤n)=true:=decide_eq_true h1
  by_cases h2:n≤hi
  ·have d2:decide (n≤hi)=true:=decide_eq_true h2
   rw [decide_eq_true ⟨h1,h2⟩]
   clear h1 h2
   go_enter Tryz.func35,Tryz.ntmps35
   go_wp2
   go_ret
   exact ⟨rfl,rfl⟩
  ·have d2:decide (n≤hi)=false:=decide_eq_false h2
   rw [decide_eq_false fun h=>h2 h.2]
   clear h1 h2
   go_enter Tryz.func35,Tryz.ntmps35
   go_wp2
   go_ret
   exact ⟨rfl,rfl⟩
 ·have d1:decide (lo≤n)=false:=decide_eq_false h1
  rw [decide_eq_false fun h=>h1 h.1]
  clear h1
  go_enter Tryz.func35,Tryz.ntmps35
  go_wp2
  go_ret
  exact ⟨rfl,rfl⟩
theorem emp_iff (s:ByteArray):s=emptyB↔s.toList=[]:=by
 constructor
 ·intro h;rw [h];exact str_nil rfl
 ·intro h
  rcases Nat.eq_zero_or_pos s.size with h1 | h1
  ·exact ByteArray.ext (Array.eq_empty_of_size_eq_zero h1)
  ·have:=str_not_empty h1
   rw [h] at this;cases this
def CX (w3:World) (cs:Array Value) (W:World):Prop:=Below w3.heap.size w3 W∧W.heap[w3.heap.size]?=some (.cells cs 28 (0,0))
theorem CX.stable (w3:World) (cs:Array Value):StableW (CX w3 cs):=(StableW.below _ _ (Nat.le_refl _)).and (StableW.row _ _)
theorem calls_same {P:Program} {f:FuncId} {args:Array Value} {w:World} {p:BelowBy w} {v:Value}
  (h:Calls P f args p.at' fun e w'=>e=.returned v∧w'=p.at'):Calls P f args p.at' fun e w''=>e=.returned v∧∃q:BelowBy w,w''=q.at' :=
 h.mono fun _ _w' ⟨he,hw⟩=>⟨he,p,hw⟩
end Go.Proofs.YtdfenhjibnfdeaaGreatDoor

namespace Go.Proofs.YtdfenhjibnfdeaaGreatDoor
open Go.RowKit
section
variable {P:Program} {md:Region.Mode} {ops:Array Oper} {S0:World→Prop} {Q:Act→World→Prop}
theorem LoudB.mkD {o:Oper} {a:Act} {S:World→Prop} {K':Act→(World→Prop)→Prop} (d:Option Nat) {ι:Type} (val:ι→Value) (T:ι→World→Prop) (hd:o.dst=d) (hst:∀x,StableW (T x)) (hs0:∀x w,T x w→S0 w)
  (hrun:∀w,S w→∀K:Act→World→Prop,(∀x w',T x w'→K (a.put d (val x)) w')→o.wp P a w K (fun _ _ _=>False)) (hk:∀x,K' (a.put d (val x)) (T x)):LoudB P S0 o a K' S:=by
 subst hd
 exact LoudB.mk' val T hst hs0 hrun hk
theorem node_quiet {fuel:Nat} {listed:Array Bool} {a:Act} {S:World→Prop} (i:Nat) (d:Option Nat) (v:Value) {o:Oper} (ho:ops[i]?=some o) (hd:o.dst=d) (hst:StableW S) (h10:∀w,S w→S0 w) (hs:Region.noSelect ops=true) (hf:Region.free md ops listed i=true) (hr:(Region.ready md ops listed).contains i=true) (hw:Region.wanted o (yielded ops a.tmps)=true)
  (hq:∀w,S0 w→o.quietAt P a (ByW w) w v) (h:anyM P md ops S0 Q fuel (listed.setIfInBounds i true) (a.put d v) S):anyM P md ops S0 Q (fuel+1) listed a S:=by
 subst hd
 exact any_quiet i v hst h10 ho hs hf hr hw hq h
end
theorem nodes_quiet {P:Program} {md:Region.Mode} {l:List Oper} {S0:World→Prop} {Q:Act→World→Prop} {listed:Array Bool} {a:Act} {S:World→Prop} (k n f:Nat) (hn:((l.drop k).take n).length=n) (hl:listed=startL k l.length) (hs:Region.noSelect l.toArray=true) (hst:StableW S) (h10:∀w,S w→S0 w) (hex:∃w,S0 w)
  (hB:Region.lexFrom md l.toArray (n+f) k listed=true) (hd:dstsB ((l.drop k).take n) a.tmps.size=true)
  (hh:∃b,(∀W,S0 W→wpQuiet P l.toArray (ByW W) (fun a'=>a'=b) ((l.drop k).take n) a)∧anyM P md l.toArray S0 Q f (startL (k+n) l.length) b S):anyM P md l.toArray S0 Q (n+f) listed a S:=by
 obtain ⟨b,hq,h⟩:=hh
 generalize hseg:(l.drop k).take n=seg at *
 subst hn hl
 refine head_lex hs hst h10 f seg k _ a ⟨by simp [startL],fun i hi d=>by
  have hi':i<l.length:=by simpa using hi
  simp [startL,hi']⟩ (fun j o hj=>?_) hB (head_of_quiet _ _ hd hex hq) (fun listed' hd' _=>?_)
 ·rw [←hseg,List.getElem?_take] at hj
  split at hj
  ·rw [List.getElem?_drop] at hj;simpa using hj
  ·cases hj
 ·have:=doneTo_start hd'
  rw [List.size_toArray] at this
  rw [this];exact h
end Go.Proofs.YtdfenhjibnfdeaaGreatDoor
