/-    -/
import Derived.Test.YtibpaaajghbkoaaGreatWAd
import Derived.Test.YtibpaaajghbkoaaGreatWAf
import Derived.Test.YtibpaaajghbkoaaGreatWAo
import Derived.StillTail
import Derived.Test.YtibpaaajghbkoaaGreatWAn
import Derived.Test.YtibpaaajghbkoaaGreatWAq
import Derived.Test.YtibpaaajghbkoaaGreatWAm
import Derived.RangeFuncBox
import Derived.RangeFuncNested
import Derived.RangeFuncBound
import Derived.RangeFuncCalls
import Derived.RangeFuncLeaves
import Derived.Shelf.Abstract
import Derived.OwnWalkIn
import Derived.TacticsInMore
import Derived.LoopNIn
import Derived.LoopIn
namespace Go.Proofs.YtibpaaajghbkoaaGreat.MG
open Go.RowKit
structure zxs (w:World) where
 at':World
 grew:Grew w at'
instance (w:World):Inhabited (zxs w):=⟨⟨w,Grew.refl _⟩⟩
theorem cell_grewBy {w:World} {a:Addr} {v:Value} (h:w.cell? a=some v) (p:zxs w):p.at'.cell? a=some v:=cell_later p.grew.below h
theorem calls_grewBy {P:Program} {f:FuncId} {args:Array Value} {w:World} {p:zxs w} {v:Value} (h:Calls P f args p.at' fun e w'=>e=.returned v∧Grew p.at' w'):Calls P f args p.at' fun e w''=>e=.returned v∧∃q:zxs w,w''=q.at' :=
 h.mono fun _ w' ⟨he,hb⟩=>⟨he,⟨w',p.grew.trans hb⟩,rfl⟩
def StableW (S:World→Prop):Prop:=∀w w',S w→Grew w w'→S w'
abbrev ByW (w:World):World→Prop:=fun w'=>∃p:zxs w,w'=p.at'
section
variable (P:Program) (md:Region.Mode) (ops:Array Oper) (S0:World→Prop) (Q:Act→World→Prop)
def zdg (o:Oper) (a:Act) (v:Value):Prop:=∀w,S0 w→o.quietAt P a (ByW w) w v
def zdn (o:Oper) (a:Act) (K:Act→(World→Prop)→Prop) (S:World→Prop):Prop :=
 ∃(ι:Type) (val:ι→Value) (T:ι→World→Prop),(∀x,StableW (T x))∧(∀x w,T x w→S0 w) ∧
  (∀w,S w→o.wp P a w (fun a' w'=>∃x,a'=a.put o.dst (val x)∧T x w') (fun _ _ _=>False))∧∀x,K (a.put o.dst (val x)) (T x)
def opM (i:Nat) (K:Act→(World→Prop)→Prop) (a:Act) (S:World→Prop):Prop :=
 match ops[i]? with
 |none=>K a S
 |some o=>if Region.wanted o (yielded ops a.tmps) then (∃v,zdg P S0 o a v∧K (a.put o.dst v) S)∨zdn P S0 o a K S else K (a.put o.dst undef) S
def anyM:Nat→Array Bool→Act→(World→Prop)→Prop
 |0,listed,a,S=>Region.ready md ops listed=[]∧∀w,S w→Q a w
 |fuel+1,listed,a,S=>(Region.ready md ops listed=[]→∀w,S w→Q a w) ∧
  ∀i∈Region.ready md ops listed,opM P ops S0 i (anyM fuel (listed.setIfInBounds i true)) a S
def zme:List Oper→Act→Act→Prop
 |[],a,b=>a=b
 |o :: rest,a,b=>if Region.wanted o (yielded ops a.tmps) then ∃v,zdg P S0 o a v∧zme rest (a.put o.dst v) b else zme rest (a.put o.dst undef) b
def zft:List Oper→Act→(World→Prop)→Prop
 |[],a,S=>∀w,S w→Q a w
 |o :: rest,a,S=>if Region.wanted o (yielded ops a.tmps) then zdn P S0 o a (zft rest) S else zft rest (a.put o.dst undef) S
end
section
variable {P:Program} {md:Region.Mode} {ops:Array Oper} {S0:World→Prop} {Q:Act→World→Prop}
theorem zmt (a:Act) (x:Option Tmp) (v:Value):(a.put x v).tmps.size=a.tmps.size:=by cases x<;>simp [Act.put]
theorem zmu (a:Act) (x:Option Tmp) (v:Value):(a.put x v).defers=a.defers:=by cases x<;>rfl
theorem zoe {a:Act} {x y:Option Tmp} {v u u':Value} (h:∀d,x=some d→y≠some d) (e:(a.put x v).put y u=(a.put x v).put y u'):a.put y u=a.put y u':=by
 cases y with
 |none=>rfl
 |some d =>
  cases x with
  |none=>exact e
  |some c =>
   have hne:c≠d:=fun he=>h c rfl (by rw [he]);have e1:=congrArg (fun b:Act=>b.tmps[d]?) e;simp only [Act.put] at e1;rcases Nat.lt_or_ge d a.tmps.size with hd | hd
   ·simp [hd] at e1;rw [e1]
   ·simp only [Act.put];rw [Array.setIfInBounds_eq_of_size_le (by omega),Array.setIfInBounds_eq_of_size_le (by omega)]
theorem zkl {o:Oper} {a b:Act} {K K':Act→World→Prop} {Q':Exit→Act→World→Prop} {r:Result Next}
  (hK:∀u w,K (a.put o.dst u) w→K' (b.put o.dst u) w) (hdef:∀d w,¬K ({ a with defers:=d :: a.defers }.put o.dst undef) w)
  (h:o.upon P a K (fun _ _ _=>False) r):o.upon P b K' Q' r:=by
 cases r with
 |ok n w' =>
  cases n<;>simp only [Oper.upon] at h ⊢;case value v=>exact hK _ _ h
  case skip=>exact hK _ _ h
  case defer d=>exact absurd h (hdef d w')
  case enter f args =>
   refine Calls.mono h ?_;intro e w'' h2;cases e with
   |returned v=>exact hK _ _ h2
   |panicked c=>exact h2.elim
   |outgrown =>obtain ⟨_,_,h3⟩:=(h2:LetsOut _);exact h3.elim
  case row row args =>exact Rows.mono h fun v w'' h2=>hK _ _ h2
 |halt x w' =>cases x<;>simp only [Oper.upon] at h
theorem zdg.of_put {oi oj:Oper} {a:Act} {v u:Value} (hsj:∀cs b,oj.op≠.select cs b) (h1:∀d,oi.dst=some d→d ∉ oj.looksAt ops) (h:zdg P S0 oj (a.put oi.dst v) u):zdg P S0 oj a u:=by intro w hw;have:=h w hw;unfold Oper.quietAt at this ⊢;rwa [execOp_put oj hsj a oi.dst v h1] at this
theorem zdg.put {oi oj:Oper} {a:Act} {v u:Value} (hsi:∀cs b,oi.op≠.select cs b) (h3:∀d,oj.dst=some d→d ∉ oi.looksAt ops) (h:zdg P S0 oi a v):zdg P S0 oi (a.put oj.dst u) v:=by intro w hw;have:=h w hw;unfold Oper.quietAt at this ⊢;rwa [execOp_put oi hsi a oj.dst u h3]
theorem zdn.of_put {oi oj:Oper} {a:Act} {v:Value} {K:Act→(World→Prop)→Prop} {S:World→Prop} (hsj:∀cs b,oj.op≠.select cs b) (h1:∀d,oi.dst=some d→d ∉ oj.looksAt ops) (h2:∀d,oi.dst=some d→oj.dst≠some d)
  (h:zdn P S0 oj (a.put oi.dst v) K S):zdn P S0 oj a (fun a' S'=>StableW S'∧(∀w,S' w→S0 w)∧K (a'.put oi.dst v) S') S:=by
 obtain ⟨ι,val,T,hst,hs0,hw,hk⟩:=h;refine ⟨ι,val,T,hst,hs0,fun w hS=>?_,fun x=>⟨hst x,hs0 x,by rw [←Act.put_comm a v (val x) h2];exact hk x⟩⟩;have:=hw w hS;unfold Oper.wp at this ⊢;rw [execOp_put oj hsj a oi.dst v h1] at this;refine zkl ?_ ?_ this
 ·rintro u w' ⟨x,hx,hT⟩;exact ⟨x,zoe h2 hx,hT⟩
 ·rintro d w' ⟨x,hx,-⟩;have:=congrArg Act.defers hx;simp only [zmu] at this;have:=congrArg List.length this;simp at this
theorem zdn.mono {o:Oper} {a:Act} {K K':Act→(World→Prop)→Prop} {S:World→Prop} (hK:∀a' S',StableW S'→(∀w,S' w→S0 w)→K a' S'→K' a' S') (h:zdn P S0 o a K S):zdn P S0 o a K' S:=by obtain ⟨ι,val,T,hst,hs0,hw,hk⟩:=h;exact ⟨ι,val,T,hst,hs0,hw,fun x=>hK _ _ (hst x) (hs0 x) (hk x)⟩
theorem zbu {Q':Exit→Act→World→Prop} (hQ:∀a w,Q a w→Q' .normal a w):∀(fuel:Nat) (listed:Array Bool) (a:Act) (S:World→Prop),StableW S→(∀w,S w→S0 w) →
  anyM P md ops S0 Q fuel listed a S→∀w,S w→wpAny P md ops Q' fuel listed a w
 |0,_,_,_,_,_,h,w,hw=>⟨h.1,hQ _ _ (h.2 w hw)⟩
 |fuel+1,listed,a,S,hst,hs0,h,w,hw=>by
  refine ⟨fun h0=>hQ _ _ (h.1 h0 w hw),fun i hi=>?_⟩;have hi':=h.2 i hi;unfold opM at hi';unfold wpOp;cases ho:ops[i]? with
  |none=>simp only [ho] at hi' ⊢;exact zbu hQ fuel _ _ S hst hs0 hi' w hw
  |some o =>
   simp only [ho] at hi' ⊢;by_cases hwd:Region.wanted o (yielded ops a.tmps)=true
   ·simp only [hwd,if_true] at hi' ⊢;refine Or.inl ?_;rcases hi' with ⟨v,hq,hk⟩ | hl
    ·have h1:=hq w (hs0 w hw);unfold Oper.quietAt at h1;unfold Oper.wp;generalize (execOp a.eval o).run P w=r at h1 ⊢;cases r with
     |ok n w' =>
      cases n<;>simp only [Oper.quietUpon] at h1<;>simp only [Oper.upon];case value u =>
       obtain ⟨e1,e2⟩:=h1;rw [e1,e2];exact zbu hQ fuel _ _ S hst hs0 hk w hw
      case skip =>obtain ⟨e1,e2⟩:=h1;rw [e1,←e2];exact zbu hQ fuel _ _ S hst hs0 hk w hw
      case enter f args =>obtain ⟨e1,hc⟩:=h1;rw [e1];refine hc.mono ?_;rintro e w'' ⟨rfl,p,rfl⟩;exact zbu hQ fuel _ _ S hst hs0 hk _ (hst _ _ hw p.grew)
     |halt x w'=>simp only [Oper.quietUpon] at h1
    ·obtain ⟨ι,val,T,hst',hs0',hw',hk⟩:=hl;have h1:=hw' w hw;unfold Oper.wp at h1 ⊢;refine zkl ?_ ?_ h1
     ·rintro u w'' ⟨x,hx,hT⟩;rw [hx];exact zbu hQ fuel _ _ (T x) (hst' x) (hs0' x) (hk x) w'' hT
     ·rintro d w'' ⟨x,hx,-⟩;have:=congrArg Act.defers hx;simp only [zmu] at this;have:=congrArg List.length this;simp at this
   ·simp only [hwd] at hi' ⊢;exact zbu hQ fuel _ _ S hst hs0 hi' w hw
def zie (P:Program) (ops:Array Oper) (S0:World→Prop) (o:Oper) (v:Value) (a:Act):Prop :=
 (Region.wanted o (yielded ops a.tmps)=true∧zdg P S0 o a v)∨(Region.wanted o (yielded ops a.tmps)=false∧v=undef)
theorem zie.opM {i:Nat} {o:Oper} {v:Value} {a:Act} {S:World→Prop} (hi:ops[i]?=some o) (hy:zie P ops S0 o v a) {K:Act→(World→Prop)→Prop} (h:K (a.put o.dst v) S):opM P ops S0 i K a S:=by
 unfold Proofs.YtibpaaajghbkoaaGreat.MG.opM;simp only [hi];rcases hy with ⟨hw,hv⟩ | ⟨hw,rfl⟩
 ·simp only [hw,if_true];exact Or.inl ⟨v,hv,h⟩
 ·simp only [hw,Bool.false_eq_true,if_false];exact h
theorem zhl {i:Nat} {oi:Oper} {v:Value} (hi:ops[i]?=some oi) (hsel:∀(j:Nat) (o:Oper) cs b,ops[j]?=some o→o.op≠.select cs b) :
  ∀(fuel:Nat) (listed:Array Bool) (a:Act) (S:World→Prop),StableW S→(∀w,S w→S0 w) →
   (∀j oj,ops[j]?=some oj→j≠i→listed.getD j true=false→(∀e∈oj.after,Region.binds md e=true→e.on≠i)→oi.apart ops oj=true) →
   i∈Region.ready md ops listed→zie P ops S0 oi v a →
   anyM P md ops S0 Q fuel (listed.setIfInBounds i true) (a.put oi.dst v) S→anyM P md ops S0 Q (fuel+1) listed a S:=by
 intro fuel
 induction fuel with
 |zero =>
  intro listed a S _ _ _ hr hy H;refine ⟨fun h=>(by rw [h] at hr;cases hr),fun j hj=>?_⟩;by_cases hji:j=i
  ·subst hji;exact hy.opM hi H
  ·have:=ready_mono hj hji;rw [H.1] at this;cases this
 |succ fuel ih =>
  intro listed a S hst hs0 hfree hr hy H;refine ⟨fun h=>(by rw [h] at hr;cases hr),fun j hj=>?_⟩;by_cases hji:j=i
  ·subst hji;exact hy.opM hi H
  ·have h1:=H.2 j (ready_mono hj hji);obtain ⟨hjun,oj,hoj,hall⟩:=mem_ready.1 hj;have hnot:∀e∈oj.after,Region.binds md e=true→e.on≠i:=fun e he hb heq=>by
    have h1:=hall e he hb;have h0:=(mem_ready.1 hr).1;rw [heq] at h1;rcases Nat.lt_or_ge i listed.size with h' | h'
    ·simp [h'] at h0 h1;rw [h0] at h1;cases h1
    ·simp [Array.getElem?_eq_none h'] at h1
   obtain ⟨a1,a2,a3⟩:=Oper.apart_spec (hfree j oj hoj hji hjun hnot);have hsi:=fun cs b=>hsel i oi cs b hi;have hsj:=fun cs b=>hsel j oj cs b hoj;have keep:∀u,zie P ops S0 oi v (a.put oj.dst u):=fun u=>by
    rcases hy with ⟨hw,hv⟩ | ⟨hw,e⟩
    ·exact Or.inl ⟨by rw [wanted_put oi a oj.dst u a3];exact hw,hv.put hsi a3⟩
    ·exact Or.inr ⟨by rw [wanted_put oi a oj.dst u a3];exact hw,e⟩
   have hfree':∀k ok,ops[k]?=some ok→k≠i→(listed.setIfInBounds j true).getD k true=false →
     (∀e∈ok.after,Region.binds md e=true→e.on≠i)→oi.apart ops ok=true:=fun k ok hk hki hun hno=>by
    refine hfree k ok hk hki ?_ hno;by_cases hjk:j=k
    ·subst hjk;exact hjun
    ·rw [getD_set_ne true hjk] at hun;exact hun
   have next:∀(b:Act) (S':World→Prop),StableW S'→(∀w,S' w→S0 w)→zie P ops S0 oi v b →
     anyM P md ops S0 Q fuel ((listed.setIfInBounds i true).setIfInBounds j true) (b.put oi.dst v) S'→anyM P md ops S0 Q (fuel+1) (listed.setIfInBounds j true) b S':=fun b S' h1 h2 h3 h4=>by
    refine ih (listed.setIfInBounds j true) b S' h1 h2 hfree' (ready_mono hr (Ne.symm hji)) h3 ?_;rw [Array.setIfInBounds_comm _ _ hji];exact h4
   unfold opM at h1 ⊢;simp only [hoj] at h1 ⊢;rw [wanted_put oj a oi.dst v a1] at h1;by_cases hw:Region.wanted oj (yielded ops a.tmps)=true
   ·simp only [hw,if_true] at h1 ⊢;rcases h1 with ⟨u,hu,hk⟩ | hl
    ·refine Or.inl ⟨u,hu.of_put hsj a1,next _ S hst hs0 (keep u) ?_⟩;rw [←Act.put_comm a v u a2];exact hk
    ·refine Or.inr ?_;obtain ⟨ι,val,T,hst',hs0',hw',hk⟩:=hl.of_put hsj a1 a2;exact ⟨ι,val,T,hst',hs0',hw',fun x=>next _ _ (hst' x) (hs0' x) (keep (val x)) (hk x).2.2⟩
   ·simp only [hw] at h1 ⊢;refine next _ S hst hs0 (keep undef) ?_
    rw [←Act.put_comm a v undef a2];exact h1
def zeu (ops:Array Oper) (k:Nat) (listed:Array Bool):Prop:=listed.size=ops.size∧∀j,j<ops.size→∀d,listed.getD j d=decide (j<k)
theorem zeu.start:zeu ops 0 (Array.replicate ops.size false):=⟨by simp,fun j hj d=>by simp [hj]⟩
theorem zeu.step {k:Nat} {listed:Array Bool} (h:zeu ops k listed):zeu ops (k+1) (listed.setIfInBounds k true):=by
 refine ⟨by simp [h.1],fun j hj d=>?_⟩;by_cases e:k=j
 ·subst e;have:k<listed.size:=by rw [h.1];exact hj
  simp [this]
 ·rw [getD_set_ne d e,h.2 j hj d,decide_eq_decide];omega
theorem zkb (hs:Region.noSelect ops=true) {b:Act} {S:World→Prop} (hst:StableW S) (hs0:∀w,S w→S0 w) (f:Nat) :
  ∀(l:List Oper) (k:Nat) (listed:Array Bool) (a:Act),zeu ops k listed→(∀j o,l[j]?=some o→ops[k+j]?=some o)→Region.lexFrom md ops (l.length+f) k listed=true →
   zme P ops S0 l a b→(∀listed',zeu ops (k+l.length) listed'→Region.lexFrom md ops f (k+l.length) listed'=true→anyM P md ops S0 Q f listed' b S)→anyM P md ops S0 Q (l.length+f) listed a S
 |[],k,listed,a,hd,_,hB,h,hK=>by have e:a=b:=h;subst e;simp only [List.length_nil,Nat.zero_add] at hB ⊢;exact hK listed hd hB
 |o :: l,k,listed,a,hd,hl,hB,h,hK=>by
  have h0:ops[k]?=some o:=by simpa using hl 0 o rfl
  have e1:(o :: l).length+f=(l.length+f)+1:=by simp;omega
  rw [e1] at hB ⊢;simp only [Region.lexFrom,Bool.and_eq_true] at hB;obtain ⟨⟨hr,hf⟩,hB'⟩:=hB;have step:∀v,zme P ops S0 l (a.put o.dst v) b→anyM P md ops S0 Q (l.length+f) (listed.setIfInBounds k true) (a.put o.dst v) S:=fun v hv =>
   zkb hs hst hs0 f l (k+1) _ _ hd.step (fun j o' hj=>by have:=hl (j+1) o' (by simpa using hj);rw [←this];congr 1;omega) hB' hv
    (fun listed' hd' hB2=>by
     have e:k+1+l.length=k+(o :: l).length:=by simp;omega
     rw [e] at hd' hB2
     exact hK listed' hd' hB2)
  unfold zme at h;by_cases hw:Region.wanted o (yielded ops a.tmps)=true
  ·simp only [hw,if_true] at h;obtain ⟨v,hv,hh⟩:=h;exact zhl h0 (Region.noSelect_spec hs) _ listed a S hst hs0 (Region.free_spec h0 hf) (by simpa using hr) (Or.inl ⟨hw,hv⟩) (step v hh)
  ·simp only [hw] at h;exact zhl h0 (Region.noSelect_spec hs) _ listed a S hst hs0 (Region.free_spec h0 hf) (by simpa using hr) (Or.inr ⟨by simpa using hw,rfl⟩) (step undef h)
theorem zjp {n:Nat} (hc:Region.chainB md ops n=true) :
  ∀(l:List Oper) (k:Nat) (listed:Array Bool) (a:Act) (S:World→Prop),n≤k→zeu ops k listed→(∀j,l[j]?=ops[k+j]?)→Region.lexFrom md ops l.length k listed=true →
   zft P ops S0 Q l a S→anyM P md ops S0 Q l.length listed a S
 |[],k,listed,a,S,_,_,_,hB,h=>⟨by simpa [Region.lexFrom] using hB,h⟩
 |o :: l,k,listed,a,S,hn,hd,hl,hB,h=>by
  have h0:ops[k]?=some o:=by simpa using (hl 0).symm
  have hkz:k<ops.size:=(Array.getElem?_eq_some_iff.1 h0).1;simp only [List.length_cons,Region.lexFrom,Bool.and_eq_true] at hB;obtain ⟨⟨hr,hf⟩,hB'⟩:=hB;have hr':k∈Region.ready md ops listed:=by simpa using hr
  refine ⟨fun e=>(by rw [e] at hr';cases hr'),fun i hi=>?_⟩;have hik:i=k:=by
   obtain ⟨hun,oi,hoi,hall⟩:=mem_ready.1 hi;have hiz:i<ops.size:=(Array.getElem?_eq_some_iff.1 hoi).1;have h1:=hd.2 i hiz true;rw [hun] at h1;have h2:¬i<k:=of_decide_eq_false h1.symm;rcases Nat.lt_or_eq_of_le (Nat.le_of_not_lt h2) with h3 | h3
   ·have h4:=List.all_eq_true.1 hc i (List.mem_range.2 hiz);simp only [Bool.or_eq_true,decide_eq_true_eq] at h4;rcases h4 with h4 | h4
    ·omega
    ·obtain ⟨o',ho',e,he,hb,hon⟩:=Region.waitsFor_spec h4;have:o'=oi:=Option.some.inj (ho'.symm.trans hoi);subst this;have h5:=hall e he hb;rw [hon,hd.2 (i - 1) (by omega) false] at h5;have:=of_decide_eq_true h5;omega
   ·exact h3.symm
  subst hik;have step:∀b S',zft P ops S0 Q l b S'→anyM P md ops S0 Q l.length (listed.setIfInBounds i true) b S':=fun b S' hb =>
   zjp hc l (i+1) _ b S' (by omega) hd.step (fun j=>by have:=hl (j+1);simpa [Nat.add_assoc,Nat.add_comm 1 j] using this) hB' hb
  unfold opM;unfold zft at h;simp only [h0];by_cases hw:Region.wanted o (yielded ops a.tmps)=true
  ·simp only [hw,if_true] at h ⊢;exact Or.inr (h.mono fun a' S' _ _ hk=>step a' S' hk)
  ·simp only [hw] at h ⊢;exact step _ S h
def zre:List Oper→Nat→Bool
 |[],_=>true
 |o :: l,n=>(match o.dst with
  |some d=>decide (d<n) && l.all fun o'=>o'.dst != some d
  |none=>false) && zre l n
theorem zhs {C:World→Prop} {b:Act} {d:Tmp}:∀(l:List Oper) (a:Act),(l.all fun o'=>o'.dst != some d)=true→wpQuiet P ops C (fun a'=>a'=b) l a→b.tmps[d]?=a.tmps[d]?
 |[],a,_,h=>by have e:a=b:=h;rw [e]
 |o :: l,a,hl,h=>by
  simp only [List.all_cons,Bool.and_eq_true] at hl;have hne:o.dst≠some d:=by simpa using hl.1
  have key:∀v,wpQuiet P ops C (fun a'=>a'=b) l (a.put o.dst v)→b.tmps[d]?=a.tmps[d]?:=fun v hv=>by
   rw [zhs l _ hl.2 hv];cases ho:o.dst with
   |none=>rfl
   |some c =>have:c≠d:=fun e=>hne (by rw [ho,e]);simp [Act.put,Array.getElem?_setIfInBounds_ne this]
  unfold wpQuiet at h;by_cases hw:Region.wanted o (yielded ops a.tmps)=true
  ·simp only [hw,if_true] at h;obtain ⟨v,_,hv⟩:=h;exact key v hv
  ·simp only [hw] at h;exact key undef h
theorem zcp {b:Act}:∀(l:List Oper) (a:Act),zre l a.tmps.size=true→(∃w,S0 w)→(∀w,S0 w→wpQuiet P ops (ByW w) (fun a'=>a'=b) l a)→zme P ops S0 l a b
 |[],a,_,⟨w,hw⟩,h=>h w hw
 |o :: l,a,hd,⟨w0,hw0⟩,h=>by
  unfold zre at hd;rw [Bool.and_eq_true] at hd;cases ho:o.dst with
  |none=>rw [ho] at hd;simp at hd
  |some d =>
   rw [ho] at hd;simp only [Bool.and_eq_true,decide_eq_true_eq] at hd;obtain ⟨⟨hdz,hdl⟩,hd2⟩:=hd;unfold zme;by_cases hw:Region.wanted o (yielded ops a.tmps)=true
   ·simp only [hw,if_true];have hall:∀w,S0 w→∃v,(∀w',ByW w w'→o.quietAt P a (ByW w) w' v)∧wpQuiet P ops (ByW w) (fun a'=>a'=b) l (a.put o.dst v):=fun w hS=>by have:=h w hS;unfold wpQuiet at this;simp only [hw,if_true] at this;exact this
    obtain ⟨v0,h1,h2⟩:=hall w0 hw0;have uni:∀w v,wpQuiet P ops (ByW w) (fun a'=>a'=b) l (a.put o.dst v)→b.tmps[d]?=some v:=fun w v hv=>by rw [zhs l _ hdl hv,ho];simp [Act.put,hdz]
    refine ⟨v0,fun w hS=>?_,?_⟩
    ·obtain ⟨v,h3,h4⟩:=hall w hS;have e:v=v0:=Option.some.inj ((uni w v h4).symm.trans (uni w0 v0 h2));rw [←e];exact h3 w ⟨⟨w,Grew.refl _⟩,rfl⟩
    ·refine zcp l _ (by rw [zmt];exact hd2) ⟨w0,hw0⟩ fun w hS=>?_;obtain ⟨v,h3,h4⟩:=hall w hS;have e:v=v0:=Option.some.inj ((uni w v h4).symm.trans (uni w0 v0 h2));rw [←e];exact h4
   ·simp only [hw];refine zcp l _ (by rw [zmt];exact hd2) ⟨w0,hw0⟩ fun w hS=>?_;have:=h w hS;unfold wpQuiet at this;simp only [hw] at this;exact this
theorem wp_region_mix {id:Nat} {Q':Exit→Act→World→Prop} {a:Act} {w:World} {l:List Oper} (n:Nat) (S0 S1:World→Prop) (hm:P.follows .mixedOrders=true)
  (hB:Region.lexB .any l.toArray=true) (hc:Region.chainB .any l.toArray n=true) (hd:zre (l.take n) a.tmps.size=true) (hst:StableW S1) (h10:∀W,S1 W→S0 W) (h1:S1 w.drew)
  (hh:∃b,(∀W,S0 W→wpQuiet P l.toArray (ByW W) (fun a'=>a'=b) (l.take n) a)∧zft P l.toArray S0 (fun a' w'=>Q' .normal a' w') (l.drop n) b S1) :
  (Code.region id l.toArray true).wp P Q' a w:=by
 obtain ⟨b,hq,ht⟩:=hh;simp only [Region.lexB,Bool.and_eq_true] at hB;refine wp_region_any hm (zbu (Q:=fun a' w'=>Q' .normal a' w') (S0:=S0) (fun _ _ h=>h) _ _ _ S1 hst h10 ?_ _ h1);have hlen:l.toArray.size=(l.take n).length+(l.drop n).length:=by rw [List.size_toArray,←List.length_append,List.take_append_drop]
 rw [hlen];refine zkb hB.1 hst h10 (l.drop n).length (l.take n) 0 _ a (by rw [←hlen];exact zeu.start) (fun j o hj=>?_) (by rw [←hlen];exact hB.2) (zcp _ _ hd ⟨_,h10 _ h1⟩ hq) (fun listed' hd' hB'=>?_)
 ·rw [List.getElem?_take] at hj;rw [Nat.zero_add,List.getElem?_toArray];split at hj
  ·exact hj
  ·cases hj
 ·rcases Nat.lt_or_ge n l.length with hn | hn
  ·have e:(l.take n).length=n:=(by rw [List.length_take];omega);rw [e,Nat.zero_add] at hd' hB';exact zjp hc (l.drop n) n listed' b S1 zR hd' (fun j=>by rw [List.getElem?_drop,List.getElem?_toArray]) hB' ht
  ·have e:l.drop n=[]:=List.drop_of_length_le hn;rw [e] at ht hB' ⊢;exact ⟨by simpa [Region.lexFrom] using hB',ht⟩
theorem tailM_step {o:Oper} {rest:List Oper} {a:Act} {S:World→Prop} {ι:Type} (val:ι→Value) (T:ι→World→Prop) (hw:Region.wanted o (yielded ops a.tmps)=true) (hst:∀x,StableW (T x)) (hs0:∀x w,T x w→S0 w)
  (hrun:∀w,S w→∀K:Act→World→Prop,(∀x w',T x w'→K (a.put o.dst (val x)) w')→o.wp P a w K (fun _ _ _=>False)) (hk:∀x,zft P ops S0 Q rest (a.put o.dst (val x)) (T x)):zft P ops S0 Q (o :: rest) a S:=by
 unfold zft;rw [if_pos hw];exact ⟨ι,val,T,hst,hs0,fun w hS=>hrun w hS _ fun x w' hT=>⟨x,rfl,hT⟩,hk⟩
theorem tailM_pure {o:Oper} {rest:List Oper} {a:Act} {S:World→Prop} (v:Value) (hw:Region.wanted o (yielded ops a.tmps)=true) (hst:StableW S) (hs0:∀w,S w→S0 w)
  (hrun:∀w,S w→∀K:Act→World→Prop,K (a.put o.dst v) w→o.wp P a w K (fun _ _ _=>False)) (hk:zft P ops S0 Q rest (a.put o.dst v) S):zft P ops S0 Q (o :: rest) a S :=
 tailM_step (ι:=Unit) (fun _=>v) (fun _=>S) hw (fun _=>hst) (fun _=>hs0) (fun w hS K hK=>hrun w hS K (hK () w hS)) fun _=>hk
theorem tailM_nil {a:Act} {S:World→Prop} (h:∀w,S w→Q a w):zft P ops S0 Q [] a S:=h
end
theorem StableW.grew (w:World):StableW fun W=>Grew w W:=fun _ _ h h2=>h.trans h2
theorem StableW.and {S T:World→Prop} (h:StableW S) (k:StableW T):StableW fun W=>S W∧T W:=fun _ _ h1 h2=>⟨h _ _ h1.1 h2,k _ _ h1.2 h2⟩
theorem StableW.row (b:Nat) (o:Obj):StableW fun W=>W.heap[b]?=some o:=fun _ _ h h2=>zab h2.below h
theorem StableW.const (p:Prop):StableW fun _=>p:=fun _ _ h _=>h
theorem StableW.owns (B:Nat) (e:TypeId) (size:Nat) (v:Value) (n:Nat) (xs:List Value):StableW fun W=>W.ownsRow B e size v n xs:=fun _ _ h h2=>zaq h h2.below
end Go.Proofs.YtibpaaajghbkoaaGreat.MG

namespace Go.Proofs.YtibpaaajghbkoaaGreat
open Go.RowKit Go.Sort
abbrev CaM:=zii × Pt × Pt × Pt
def zib (x:CaM):List Value:=[.string x.1.1,.int .i64 x.1.2.1,.string x.1.2.2.1,.string x.1.2.2.2,.int .i64 x.2.1.1,.int .i64 x.2.1.2,.int .i64 x.2.2.1.1,.int .i64 x.2.2.1.2,.int .i64 x.2.2.2.1,.int .i64 x.2.2.2.2]
theorem zwv (x:CaM):(zib x).length=10:=rfl
theorem zwu (x:CaM):∀v∈zib x,v.oneCell'=true:=by intro v hv;simp only [zib,List.mem_cons,List.not_mem_nil,or_false] at hv;rcases hv with rfl | rfl | rfl | rfl | rfl | rfl | rfl | rfl | rfl | rfl<;>rfl
def cfCa (x y:CaM):Int:=if Lib.compareInt x.1.2.1 y.1.2.1=0 then cmpS x.1.1 y.1.1 else Lib.compareInt x.1.2.1 y.1.2.1
theorem zoz (a b:Int):(a<b∧Lib.compareInt a b=-1)∨(b<a∧Lib.compareInt a b=1)∨(a=b∧Lib.compareInt a b=0):=by
 unfold Lib.compareInt;split
 ·exact Or.inl ⟨by omega,rfl⟩
 ·split
  ·exact Or.inr (Or.inl ⟨by omega,rfl⟩)
  ·exact Or.inr (Or.inr ⟨by omega,rfl⟩)
theorem zul (x y:CaM):ltOf cfCa x y=ltC x.1 y.1:=by
 show decide (cfCa x y<0)=_;unfold cfCa ltC;rw [Bool.eq_iff_iff,decide_eq_true_eq,Bool.or_eq_true,Bool.and_eq_true,decide_eq_true_eq,decide_eq_true_eq];rcases zoz x.1.2.1 y.1.2.1 with ⟨h,e⟩ | ⟨h,e⟩ | ⟨h,e⟩
 ·rw [e,if_neg (by omega)];exact ⟨fun _=>Or.inl h,fun _=>by omega⟩
 ·rw [e,if_neg (by omega)];constructor
  ·intro c;omega
  ·rintro (c | ⟨c,_⟩)<;>omega
 ·rw [e,if_pos rfl,zuj];constructor
  ·exact fun c=>Or.inr ⟨h,c⟩
  ·rintro (c | ⟨_,c⟩)
   ·omega
   ·exact c
theorem zaeb {a b c:zii} (h:ltC a b=false) (h2:ltC b c=false):ltC a c=false:=by
 cases h3:ltC a c with
 |false=>rfl
 |true =>
  unfold ltC at h h2 h3;simp only [Bool.or_eq_true,Bool.and_eq_true,decide_eq_true_eq,Bool.or_eq_false_iff,Bool.and_eq_false_iff,decide_eq_false_iff_not] at h h2 h3;obtain ⟨p1,p2⟩:=h;obtain ⟨q1,q2⟩:=h2;rcases h3 with h3 | ⟨h3,h4⟩
  ·omega
  ·have e1:a.2.1=b.2.1:=(by omega);have e2:b.2.1=c.2.1:=(by omega);have b1:ltB a.1 b.1=false:=p2.resolve_left (fun c=>c e1);have b2:ltB b.1 c.1=false:=q2.resolve_left (fun c=>c e2);cases h5:ltB c.1 b.1 with
   |true=>have:=zdz h4 h5;rw [b1] at this;cases this
   |false=>rw [zep b2 h5] at b1;rw [h4] at b1;cases b1
theorem zari:SWO (ltOf cfCa) where
 irrefl:=fun x=>by rw [zul];exact zjh _
 trans:=fun x y z h h2=>by rw [zul] at *;exact zqq h h2
 ntrans:=fun x y z h h2=>by rw [zul] at *;exact zaeb h h2
set_option maxRecDepth 100000 in
set_option maxHeartbeats 2000000 in
theorem zapy (x y:CaM) (w:World) :
  Calls Tryz.prog 112 #[.agg (zib x).toArray,.agg (zib y).toArray] w fun e w'=>e=.returned (.int .i64 (cfCa x y))∧Grew w w':=by
 have mixed:Tryz.prog.follows .mixedOrders=true:=by kernel_rfl
 have OR:=zH (fun B c W h0 h1=>zyz (Lib.compareInt x.1.2.1 y.1.2.1) (cmpS x.1.1 y.1.1) B c W h0 h1);have C1:=zH (fun w=>Tryz.cmp_Compare_int x.1.2.1 y.1.2.1 w);have C2:=zH (fun w=>zpo x.1.1 y.1.1 w);have HQ:=zH (show cfCa x y=if Lib.compareInt x.1.2.1 y.1.2.1=0 then cmpS x.1.1 y.1.1 else Lib.compareInt x.1.2.1 y.1.2.1 from rfl);generalize cfCa x y=r at HQ ⊢;rw [←HQ.out] at OR;generalize Lib.compareInt x.1.2.1 y.1.2.1=c1 at OR C1 HQ;generalize cmpS x.1.1 y.1.1=c2 at OR C2 HQ;obtain ⟨⟨xi,xs,x1,x2⟩,⟨x3,x4⟩,⟨x5,x6⟩,⟨x7,x8⟩⟩:=x;obtain ⟨⟨yi,ys,y1,y2⟩,⟨y3,y4⟩,⟨y5,y6⟩,⟨y7,y8⟩⟩:=y;simp only [zib] at OR C1 C2 ⊢;clear HQ;go_enter Tryz.func112,Tryz.ntmps112;go_wp2_with fail;have G1:Grew w ((w.alloc (.cells #[.string xi,.int .i64 xs,.string x1,.string x2,.int .i64 x3,.int .i64 x4,.int .i64 x5,.int .i64 x6,.int .i64 x7,.int .i64 x8] 115)).alloc (.cells #[.string yi,.int .i64 ys,.string y1,.string y2,.int .i64 y3,.int .i64 y4,.int .i64 y5,.int .i64 y6,.int .i64 y7,.int .i64 y8] 115)):=((Grew.refl w).alloc _).alloc _;generalize hw1:(w.alloc _).alloc _=w1;have H1:=gA21 hw1;have H2:=gA22 hw1;rw [hw1] at G1;clear hw1;have H1:=zH H1;have H2:=zH H2;refine MG.wp_region_mix 10 (fun W=>Grew w1 W) (fun W=>Grew w1 W) mixed (by kernel_rfl) (by kernel_rfl) (by kernel_rfl) (MG.StableW.grew _) (fun W hW=>hW) (Grew.refl _).drew ?_;apply Exists.intro;refine ⟨fun W hW=>?_,?_⟩
 ·have HA:=zH (zab hW.below H1.out);have HB:=zH (zab hW.below H2.out);obtain ⟨az,a0,a1⟩:=rk2 HA.out;obtain ⟨bz,b0,b1⟩:=rk2 HB.out;have q0:=MG.cell_grewBy a0;have q1:=MG.cell_grewBy a1;have p0:=MG.cell_grewBy b0;have p1:=MG.cell_grewBy b1;clear a0 a1 az;clear b0 b1 bz;simp only [List.take_succ_cons,List.take_zero];repeat (go_big_quiet_step ((first | (go_at_call 90;exact MG.calls_grewBy ((C1.out _).mono fun _ _ ⟨he,hw⟩=>⟨he,hw ▸ Grew.refl _⟩)) | (go_at_call 104;exact MG.calls_grewBy ((C2.out _).mono fun _ _ ⟨he,hw⟩=>⟨he,hw ▸ Grew.refl _⟩)))))
  exact wpQuiet_nil rfl
 ·simp only [List.drop_succ_cons,List.drop_zero];refine MG.tailM_step (ι:=Nat) (fun g=>.slice (some ⟨g,0,none⟩) 2 2) (fun g W=>Grew w1 W∧W.heap[g]?=some (.cells #[.int .i64 c1,.int .i64 c2] 3)) rfl (fun g=>(MG.StableW.grew _).and (MG.StableW.row _ _)) (fun _ _ h=>h.1) (fun W hS K hK=>?_) (fun g=>?_)
  ·go_simp;exact hK W.heap.size _ ⟨hS.alloc _,zan _ _⟩
  simp only [Act.put,List.setIfInBounds_toArray,List.set_cons_succ,List.set_cons_zero];refine MG.tailM_pure (.int .i64 r) rfl ((MG.StableW.grew _).and (MG.StableW.row _ _)) (fun _ h=>h.1) (fun W hS K hK=>?_) ?_
  ·have HG:=zH hS.2;obtain ⟨gz,g0,g1⟩:=rk2 HG.out;go_simp;refine (OR.out _ _ _ g0 g1).mono ?_;rintro e w2 ⟨rfl,rfl⟩;go_simp;exact hK
  simp only [Act.put,List.setIfInBounds_toArray,List.set_cons_succ,List.set_cons_zero];refine MG.tailM_pure (.int .i64 r) rfl ((MG.StableW.grew _).and (MG.StableW.row _ _)) (fun _ h=>h.1) (fun W hS K hK=>?_) (MG.tailM_nil fun W hW=>?_)
  ·go_simp;exact hK
  obtain ⟨hW1,-⟩:=hW;simp only [Act.put,List.setIfInBounds_toArray,List.set_cons_succ,List.set_cons_zero];go_wp2;go_ret;exact ⟨rfl,G1.trans hW1⟩
theorem zada {w:World} {base n:Nat} {v:Value} {L:List CaM} (hn:n=L.length) (hsz:n<4611686018427387904) (hown:w.ownsRow base 115 10 v n (L.flatMap zib)) :
  Calls Tryz.prog 111 #[v,.func (.func 112) #[] #[]] w (zack w base 10 115 v n zib cfCa L) :=
 zli Tryz.sort_cand 10 Tryz.isAgg115 Tryz.sizeOf115 zib zwv zwu cfCa zari 112 #[] (enters_of Tryz.func112 (by kernel_rfl) rfl) hn hsz (fun W _ x y=>zapy x y W) hown
end Go.Proofs.YtibpaaajghbkoaaGreat

namespace Go.Proofs.YtibpaaajghbkoaaGreat
open Go.RowKit Go.Shelf
attribute [local go_sem] Oper.semAt_some
theorem zfk {w W:World} {b o:Nat} {v:Value} (h:w.cell? ⟨b,o,none⟩=some v) (hk:∀k,k<w.heap.size→W.heap[k]?=w.heap[k]?):W.cell? ⟨b,o,none⟩=some v:=by have hb:=zag h;rw [←h];simp only [World.cell?,hk b hb]
theorem zls {w w':World} (h:Below w.heap.size w w'):w.grownBy w' none:=⟨h.os,h.tape,h.output,h.size,fun k hk _=>h.block k hk⟩
def KpN (n1:Nat) (W W':World):Prop:=(∀k,k<n1→W'.heap[k]?=W.heap[k]?)∧W.heap.size≤W'.heap.size
theorem KpN.trans {n1:Nat} {A B C:World} (h:KpN n1 A B) (k:KpN n1 B C):KpN n1 A C:=⟨fun i hi=>(k.1 i hi).trans (h.1 i hi),Nat.le_trans h.2 k.2⟩
theorem zcm {A B:World} {row:Option Nat} {k:Nat} {o:Obj} (ho:o.isCells=true) (hg:A.grownBy B row) (hr:∀r,row=some r→∃o:Obj,A.heap[r]?=some o∧o.isCells=false) (h:A.heap[k]?=some o):B.heap[k]?=some o :=
 (hg.block k (zaf h) (by intro e;obtain ⟨o',h1,h2⟩:=hr k e.symm;rw [h] at h1;cases h1;rw [ho] at h2;cases h2)).trans h
def zany {α:Type} (L:List α) (J Jx:List α→World→Prop) (e:Ending) (W':World):Prop :=
 (∃v,e=.returned v)∧((∃ys,ys=L∧J ys W')∨(∃pre,pre <+: L∧Jx pre W'))
theorem zbn {α:Type} {L:List α} {k:Nat} {x:α} (h:L[k]?=some x):L.take (k+1)=L.take k++[x]:=by obtain ⟨hk,e⟩:=List.getElem?_eq_some_iff.1 h;rw [List.take_succ_eq_append_getElem hk,e]
theorem zakr (a:Option Addr) (n c:Nat) (w:World):Calls Tryz.prog 113 #[.slice a n c] w fun e w'=>e=.returned (.func (.func 161) #[] #[.pointer (some ⟨w.heap.size,0,none⟩)])∧w'=w.alloc (.cells #[.slice a n c] 163):=by go_enter Tryz.func113,Tryz.ntmps113;go_wp2;go_ret;exact ⟨rfl,rfl⟩
set_option maxRecDepth 100000 in
set_option maxHeartbeats 2000000 in
theorem zafn {α:Type} (f:α→CaM) (n:Nat) (hn:1≤n) (l Bn:Nat) (vt:Value) (L:List α) (w:World) (hv:RowE zib 10 w vt (L.map f)) (hL:L.length≤2000000000) (J Jx:List α→World→Prop)
  (W:World) (hJ:AbidesFrom W.heap.size J)
  (hY:∀pre x W1,J pre W1→pre.length<L.length→YieldAt Fence.wide (n - 1) Tryz.prog l #[.agg (zib (f x)).toArray] W1 fun e W' =>
   (e=.returned (.bool true)∧J (pre++[x]) W'∧KpN w.heap.size W1 W')∨(e=.returned (.bool false)∧Jx (pre++[x]) W'))
  (hlow:∀k,k<w.heap.size→W.heap[k]?=w.heap[k]?) (hsz:w.heap.size≤W.heap.size) (hBn:W.heap[Bn]?=some (.cells #[vt] 163 (0,0))) (h0:J [] W) :
  CallsIn Fence.wide n Tryz.prog 161 #[.func (.yield l) #[] #[],.pointer (some ⟨Bn,0,none⟩)] W (zany L J Jx):=by
 obtain ⟨a,cap,rfl,hc⟩:=hv;rw [List.length_map] at hc hBn;generalize hN:L.length=N at *;have HN:=zH hN;have HC:=zH hc;clear hN hc;refine callsIn_of_wp Tryz.func161 rfl trivial ?_ rfl;simp only [Tryz.ntmps161,List.size_toArray,List.length_cons,List.length_nil,Nat.reduceAdd,Nat.reduceSub,Array.replicate_succ,Array.replicate_zero,List.push_toArray,List.append_toArray,List.nil_append,List.cons_append];obtain ⟨fz,f0⟩:=rk1 hBn;have hBn':=zH hBn;clear hBn;gi_wp2;clear f0 fz hBn';gi_loopw [7] (fun i wr=>∃k:Nat,k≤N∧i=.int .i64 k∧J (L.take k) wr∧(∀j,j<w.heap.size→wr.heap[j]?=w.heap[j]?)∧W.heap.size≤wr.heap.size) (fun i _=>N - (intOf i).toNat);case atStart=>exact ⟨0,by omega,rfl,by simpa using h0,hlow,Nat.le_refl _⟩
 case round =>
  obtain ⟨k,hk,rfl,hJk,hlk,hsk⟩:=hrel;by_cases hlt:k<N
  ·obtain ⟨x,hx⟩:∃x,L[k]?=some x:=⟨L[k]'(by rw [HN.out];exact hlt),List.getElem?_eq_getElem _⟩;obtain ⟨b,off,ha,hcell⟩:=HC.out (by omega);subst ha;have c0q:=zfk (hcell k (f x) (by rw [List.getElem?_map,hx];rfl) 0 _ rfl) hlk;have c1:=zfk (hcell k (f x) (by rw [List.getElem?_map,hx];rfl) 1 _ rfl) hlk;have c2:=zfk (hcell k (f x) (by rw [List.getElem?_map,hx];rfl) 2 _ rfl) hlk;have c3:=zfk (hcell k (f x) (by rw [List.getElem?_map,hx];rfl) 3 _ rfl) hlk;have c4:=zfk (hcell k (f x) (by rw [List.getElem?_map,hx];rfl) 4 _ rfl) hlk;have c5:=zfk (hcell k (f x) (by rw [List.getElem?_map,hx];rfl) 5 _ rfl) hlk;have c6:=zfk (hcell k (f x) (by rw [List.getElem?_map,hx];rfl) 6 _ rfl) hlk;have c7:=zfk (hcell k (f x) (by rw [List.getElem?_map,hx];rfl) 7 _ rfl) hlk;have c8:=zfk (hcell k (f x) (by rw [List.getElem?_map,hx];rfl) 8 _ rfl) hlk;have c9:=zfk (hcell k (f x) (by rw [List.getElem?_map,hx];rfl) 9 _ rfl) hlk;have c0:wr.cell? ⟨b,off+k * 10,none⟩=some (.string (f x).1.1):=c0q;clear c0q;have HT:=zH (zbn hx);have hlen:(L.take k).length=k:=(by rw [List.length_take,HN.out];omega);have BA:Below wr.heap.size wr (wr.alloc (.cells #[.string (f x).1.1,.int .i64 (f x).1.2.1,.string (f x).1.2.2.1,.string (f x).1.2.2.2,.int .i64 (f x).2.1.1,.int .i64 (f x).2.1.2,.int .i64 (f x).2.2.1.1,.int .i64 (f x).2.2.1.2,.int .i64 (f x).2.2.2.1,.int .i64 (f x).2.2.2.2] 115)):=(Below.refl _ wr).alloc zR _;have HX3:=zan wr (.cells #[.string (f x).1.1,.int .i64 (f x).1.2.1,.string (f x).1.2.2.1,.string (f x).1.2.2.2,.int .i64 (f x).2.1.1,.int .i64 (f x).2.1.2,.int .i64 (f x).2.2.1.1,.int .i64 (f x).2.2.1.2,.int .i64 (f x).2.2.2.1,.int .i64 (f x).2.2.2.2] 115);have HJ3:=zH (hJ _ _ _ none hJk (zls BA) (fun r e=>by cases e));have HL3:=zH (show ∀j,j<w.heap.size→(wr.alloc (.cells #[.string (f x).1.1,.int .i64 (f x).1.2.1,.string (f x).1.2.2.1,.string (f x).1.2.2.2,.int .i64 (f x).2.1.1,.int .i64 (f x).2.1.2,.int .i64 (f x).2.2.1.1,.int .i64 (f x).2.2.1.2,.int .i64 (f x).2.2.2.1,.int .i64 (f x).2.2.2.2] 115)).heap[j]?=w.heap[j]? from fun j hj=>(BA.block j (by omega)).trans (hlk j hj));have hs3:=Nat.le_trans hsk BA.size;obtain ⟨fn,tmps,assign,body,hy',hR⟩:=hY (L.take k) x (wr.alloc (.cells #[.string (f x).1.1,.int .i64 (f x).1.2.1,.string (f x).1.2.2.1,.string (f x).1.2.2.2,.int .i64 (f x).2.1.1,.int .i64 (f x).2.1.2,.int .i64 (f x).2.2.1.1,.int .i64 (f x).2.2.1.2,.int .i64 (f x).2.2.2.1,.int .i64 (f x).2.2.2.2] 115)) HJ3.out (by omega);simp only [zib] at hy';have HPRE:=zH (show L.take k++[x] <+: L by rw [←HT.out];exact List.take_prefix _ _);have HR:=zH hR;clear hcell hx hJk hlk BA HX3 hR;gi_wp2;refine HR.out.mono ?_;rintro e W4 (⟨rfl,hJ4,hk4⟩ | ⟨rfl,hJx4⟩)
   ·have HJ4:=zH hJ4;have HL4:=zH (show (∀j,j<w.heap.size→W4.heap[j]?=w.heap[j]?) from fun j hj=>(hk4.1 j hj).trans (HL3.out j hj));have hs4:=Nat.le_trans hs3 hk4.2;clear hJ4 hk4;gi_wp2;go_roundw;case rel=>first | exact ⟨k+1,by omega,by go_num,by rw [HT.out];exact HJ4.out,HL4.out,hs4⟩ | ((repeat apply Exists.intro);exact ⟨⟨k+1,by omega,by go_num,by rw [HT.out];exact HJ4.out,HL4.out,hs4⟩,rfl⟩)
    case measure=>simp [intOf];omega
   ·gi_wp2;refine bodyPost_ret (results_none rfl _ _ _) rfl ?_;exact ⟨⟨_,rfl⟩,.inr ⟨_,HPRE.out,hJx4⟩⟩
  ·obtain rfl:k=N:=(by omega);have HE:=zH (show L=L.take k by rw [List.take_of_length_le (by rw [HN.out];exact Nat.le_refl _)]);gi_wp2;go_end0;exact ⟨⟨_,rfl⟩,.inl ⟨_,HE.out.symm,hJk⟩⟩
theorem zacw {α:Type} (f:α→CaM) (n:Nat) (hn:1≤n) (Bn:Nat) (vt:Value) (L:List α) (w w0:World) (hv:RowE zib 10 w vt (L.map f)) (hL:L.length≤2000000000) (hlow:∀k,k<w.heap.size→w0.heap[k]?=w.heap[k]?) (hsz:w.heap.size≤w0.heap.size)
  (hBn:w0.heap[Bn]?=some (.cells #[vt] 163 (0,0))) :
  SeqStopsK Fence.wide n Tryz.prog 161 #[.pointer (some ⟨Bn,0,none⟩)] (fun x=>#[.agg (zib (f x)).toArray]) (KpN w.heap.size) (fun ys=>ys=L) (fun pre=>pre <+: L) L.length w0:=fun l J Jx W hW hJ _ hY h0 =>
 zafn f n hn l Bn vt L w hv hL J Jx W hJ hY (fun k hk=>(hW.block k (by omega)).trans (hlow k hk)) (Nat.le_trans hsz hW.size) (zab hW hBn) h0
theorem zakq (a:Option Addr) (n c:Nat) (w:World):Calls Tryz.prog 165 #[.slice a n c] w fun e w'=>e=.returned (.func (.func 230) #[] #[.pointer (some ⟨w.heap.size,0,none⟩)])∧w'=w.alloc (.cells #[.slice a n c] 50):=by go_enter Tryz.func165,Tryz.ntmps165;go_wp2;go_ret;exact ⟨rfl,rfl⟩
set_option maxRecDepth 100000 in
set_option maxHeartbeats 2000000 in
theorem zafm (n:Nat) (hn:1≤n) (l Bn:Nat) (vt:Value) (L:List Pt) (w:World) (hv:RowE zfu 2 w vt L) (hL:L.length≤2000000000) (J Jx:List Pt→World→Prop)
  (W:World) (hJ:AbidesFrom W.heap.size J)
  (hY:∀pre x W1,J pre W1→pre.length<L.length→YieldAt Fence.wide (n - 1) Tryz.prog l #[.agg (zfu x).toArray] W1 fun e W' =>
   (e=.returned (.bool true)∧J (pre++[x]) W'∧KpN w.heap.size W1 W')∨(e=.returned (.bool false)∧Jx (pre++[x]) W'))
  (hlow:∀k,k<w.heap.size→W.heap[k]?=w.heap[k]?) (hsz:w.heap.size≤W.heap.size) (hBn:W.heap[Bn]?=some (.cells #[vt] 50 (0,0))) (h0:J [] W) :
  CallsIn Fence.wide n Tryz.prog 230 #[.func (.yield l) #[] #[],.pointer (some ⟨Bn,0,none⟩)] W (zany L J Jx):=by
 obtain ⟨a,cap,rfl,hc⟩:=hv;generalize hN:L.length=N at *;have HN:=zH hN;have HC:=zH hc;clear hN hc;refine callsIn_of_wp Tryz.func230 rfl trivial ?_ rfl;simp only [Tryz.ntmps230,List.size_toArray,List.length_cons,List.length_nil,Nat.reduceAdd,Nat.reduceSub,Array.replicate_succ,Array.replicate_zero,List.push_toArray,List.append_toArray,List.nil_append,List.cons_append];obtain ⟨fz,f0⟩:=rk1 hBn;have hBn':=zH hBn;clear hBn;gi_wp2;clear f0 fz hBn';gi_loopw [7] (fun i wr=>∃k:Nat,k≤N∧i=.int .i64 k∧J (L.take k) wr∧(∀j,j<w.heap.size→wr.heap[j]?=w.heap[j]?)∧W.heap.size≤wr.heap.size) (fun i _=>N - (intOf i).toNat);case atStart=>exact ⟨0,by omega,rfl,by simpa using h0,hlow,Nat.le_refl _⟩
 case round =>
  obtain ⟨k,hk,rfl,hJk,hlk,hsk⟩:=hrel;by_cases hlt:k<N
  ·obtain ⟨x,hx⟩:∃x,L[k]?=some x:=⟨L[k]'(by rw [HN.out];exact hlt),List.getElem?_eq_getElem _⟩;obtain ⟨b,off,ha,hcell⟩:=HC.out (by omega);subst ha;have c0q:=zfk (hcell k x hx 0 _ rfl) hlk;have c1:=zfk (hcell k x hx 1 _ rfl) hlk;have c0:wr.cell? ⟨b,off+k * 2,none⟩=some (.int .i64 x.1):=c0q;clear c0q;have HT:=zH (zbn hx);have hlen:(L.take k).length=k:=(by rw [List.length_take,HN.out];omega);have BA:Below wr.heap.size wr (wr.alloc (.cells #[.int .i64 x.1,.int .i64 x.2] 33)):=(Below.refl _ wr).alloc zR _;have HX3:=zan wr (.cells #[.int .i64 x.1,.int .i64 x.2] 33);have HJ3:=zH (hJ _ _ _ none hJk (zls BA) (fun r e=>by cases e));have HL3:=zH (show ∀j,j<w.heap.size→(wr.alloc (.cells #[.int .i64 x.1,.int .i64 x.2] 33)).heap[j]?=w.heap[j]? from fun j hj=>(BA.block j (by omega)).trans (hlk j hj));have hs3:=Nat.le_trans hsk BA.size;obtain ⟨fn,tmps,assign,body,hy',hR⟩:=hY (L.take k) x (wr.alloc (.cells #[.int .i64 x.1,.int .i64 x.2] 33)) HJ3.out (by omega);simp only [zfu] at hy';have HPRE:=zH (show L.take k++[x] <+: L by rw [←HT.out];exact List.take_prefix _ _);have HR:=zH hR;clear hcell hx hJk hlk BA HX3 hR;gi_wp2;refine HR.out.mono ?_;rintro e W4 (⟨rfl,hJ4,hk4⟩ | ⟨rfl,hJx4⟩)
   ·have HJ4:=zH hJ4;have HL4:=zH (show (∀j,j<w.heap.size→W4.heap[j]?=w.heap[j]?) from fun j hj=>(hk4.1 j hj).trans (HL3.out j hj));have hs4:=Nat.le_trans hs3 hk4.2;clear hJ4 hk4;gi_wp2;go_roundw;case rel=>first | exact ⟨k+1,by omega,by go_num,by rw [HT.out];exact HJ4.out,HL4.out,hs4⟩ | ((repeat apply Exists.intro);exact ⟨⟨k+1,by omega,by go_num,by rw [HT.out];exact HJ4.out,HL4.out,hs4⟩,rfl⟩)
    case measure=>simp [intOf];omega
   ·gi_wp2;refine bodyPost_ret (results_none rfl _ _ _) rfl ?_;exact ⟨⟨_,rfl⟩,.inr ⟨_,HPRE.out,hJx4⟩⟩
  ·obtain rfl:k=N:=(by omega);have HE:=zH (show L=L.take k by rw [List.take_of_length_le (by rw [HN.out];exact Nat.le_refl _)]);gi_wp2;go_end0;exact ⟨⟨_,rfl⟩,.inl ⟨_,HE.out.symm,hJk⟩⟩
theorem zacv (n:Nat) (hn:1≤n) (Bn:Nat) (vt:Value) (L:List Pt) (w w0:World) (hv:RowE zfu 2 w vt L) (hL:L.length≤2000000000) (hlow:∀k,k<w.heap.size→w0.heap[k]?=w.heap[k]?) (hsz:w.heap.size≤w0.heap.size)
  (hBn:w0.heap[Bn]?=some (.cells #[vt] 50 (0,0))) :
  SeqStopsK Fence.wide n Tryz.prog 230 #[.pointer (some ⟨Bn,0,none⟩)] (fun x=>#[.agg (zfu x).toArray]) (KpN w.heap.size) (fun ys=>ys=L) (fun pre=>pre <+: L) L.length w0:=fun l J Jx W hW hJ _ hY h0 =>
 zafm n hn l Bn vt L w hv hL J Jx W hJ hY (fun k hk=>(hW.block k (by omega)).trans (hlow k hk)) (Nat.le_trans hsz hW.size) (zab hW hBn) h0
end Go.Proofs.YtibpaaajghbkoaaGreat
