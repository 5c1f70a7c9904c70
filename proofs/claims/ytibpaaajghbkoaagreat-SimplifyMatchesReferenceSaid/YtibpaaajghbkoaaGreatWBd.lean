/-   -/
import Derived.Test.YtibpaaajghbkoaaGreatWBb
import Derived.Test.YtibpaaajghbkoaaGreatWBc
import Derived.Test.YtibpaaajghbkoaaGreatWAi
namespace Go.Proofs.YtibpaaajghbkoaaGreat
open Go.RowKit
section
variable {P:Program} {md:Region.Mode} {ops:Array Oper} {S0:World→Prop} {Q:Act→World→Prop}
def zaan (n k:Nat):Array Bool:=(Array.range k).map fun i=>decide (i<n)
theorem zwz {n:Nat} {listed:Array Bool} (h:zeu ops n listed):listed=zaan n ops.size:=by refine Array.ext (by simp [zaan,h.1]) fun i h1 h2=>?_;have:=h.2 i (by rw [←h.1];exact h1) false;rw [Array.getD_eq_getD_getElem?,Array.getElem?_eq_getElem h1] at this;simpa [zaan] using this
theorem zlb {fuel:Nat} {listed:Array Bool} {a:Act} {S:World→Prop} (c:Nat) {o:Oper} (hr:Region.ready md ops listed=[c]) (ho:ops[c]?=some o) (hw:Region.wanted o (yielded ops a.tmps)=true)
  (h:zdn P S0 o a (anyM P md ops S0 Q fuel (listed.setIfInBounds c true)) S):anyM P md ops S0 Q (fuel+1) listed a S:=by
 refine ⟨fun e=>(by rw [hr] at e;cases e),fun i hi=>?_⟩;rw [hr] at hi;obtain rfl:i=c:=by simpa using hi
 unfold opM;simp only [ho,hw,if_true];exact Or.inr h
theorem zaki {fuel:Nat} {listed:Array Bool} {a:Act} {S:World→Prop} (c d:Nat) {o o':Oper} (hr:Region.ready md ops listed=[c,d]) (ho:ops[c]?=some o) (ho':ops[d]?=some o') (hw:Region.wanted o (yielded ops a.tmps)=true) (hw':Region.wanted o' (yielded ops a.tmps)=true)
  (h:zdn P S0 o a (anyM P md ops S0 Q fuel (listed.setIfInBounds c true)) S) (h':zdn P S0 o' a (anyM P md ops S0 Q fuel (listed.setIfInBounds d true)) S):anyM P md ops S0 Q (fuel+1) listed a S:=by
 refine ⟨fun e=>(by rw [hr] at e;cases e),fun i hi=>?_⟩;rw [hr] at hi;have hi:i=c∨i=d:=by simpa using hi
 unfold opM;rcases hi with rfl | rfl
 ·simp only [ho,hw,if_true];exact Or.inr h
 ·simp only [ho',hw',if_true];exact Or.inr h'
theorem zjl {fuel:Nat} {listed:Array Bool} {a:Act} {S:World→Prop} (i:Nat) (v:Value) {o:Oper} (hst:StableW S) (h10:∀w,S w→S0 w) (ho:ops[i]?=some o) (hs:Region.noSelect ops=true) (hf:Region.free md ops listed i=true) (hr:(Region.ready md ops listed).contains i=true) (hw:Region.wanted o (yielded ops a.tmps)=true)
  (hq:zdg P S0 o a v) (h:anyM P md ops S0 Q fuel (listed.setIfInBounds i true) (a.put o.dst v) S):anyM P md ops S0 Q (fuel+1) listed a S :=
 zhl ho (Region.noSelect_spec hs) fuel listed a S hst h10 (Region.free_spec ho hf) (by simpa using hr) (Or.inl ⟨hw,hq⟩) h
theorem zakj {listed:Array Bool} {a:Act} {S:World→Prop} (hr:Region.ready md ops listed=[]) (h:∀w,S w→Q a w):anyM P md ops S0 Q 0 listed a S:=⟨hr,h⟩
theorem zdg.pure {o:Oper} {a:Act} {v:Value} (h:∀w,(execOp a.eval o).run P w=.ok (.value v) w):zdg P S0 o a v:=fun w _=>by show Oper.quietUpon P (ByW w) w v _;rw [h w];exact ⟨rfl,rfl⟩
theorem zkk {id:Nat} {Q':Exit→Act→World→Prop} {a:Act} {w:World} {l:List Oper} (n k:Nat) (S0 S1:World→Prop) (hm:P.follows .mixedOrders=true)
  (hs:Region.noSelect l.toArray=true) (hB:Region.lexFrom .any l.toArray l.length 0 (Array.replicate l.length false)=true) (hd:zre (l.take n) a.tmps.size=true) (hst:StableW S1) (h10:∀W,S1 W→S0 W) (h1:S1 w.drew) (hk:l.length=n+k)
  (hh:∃b,(∀W,S0 W→wpQuiet P l.toArray (ByW W) (fun a'=>a'=b) (l.take n) a)∧anyM P .any l.toArray S0 (fun a' w'=>Q' .normal a' w') k (zaan n (n+k)) b S1) :
  (Code.region id l.toArray true).wp P Q' a w:=by
 obtain ⟨b,hq,hfr⟩:=hh;obtain rfl:k=l.length - n:=by omega
 rw [←hk] at hfr;have hn:n≤l.length:=by omega
 refine wp_region_any hm (zbu (Q:=fun a' w'=>Q' .normal a' w') (S0:=S0) (fun _ _ h=>h) _ _ _ S1 hst h10 ?_ _ h1);have e:(l.take n).length=n:=by rw [List.length_take];omega
 have hle:l.toArray.size=(l.take n).length+(l.length - n):=by rw [List.size_toArray,e];omega
 rw [hle];refine zkb hs hst h10 (l.length - n) (l.take n) 0 _ a (by rw [←hle];exact zeu.start) (fun j o hj=>?_) (by rw [←hle,List.size_toArray];exact hB) (zcp _ _ hd ⟨_,h10 _ h1⟩ hq) (fun listed' hd' _=>?_)
 ·rw [List.getElem?_take] at hj;rw [Nat.zero_add,List.getElem?_toArray];split at hj
  ·exact hj
  ·cases hj
 ·rw [e,Nat.zero_add] at hd';have hs2:=zwz hd';rw [List.size_toArray] at hs2;subst hs2;exact hfr
end
end Go.Proofs.YtibpaaajghbkoaaGreat

namespace Go.Proofs.YtibpaaajghbkoaaGreat
open Go.RowKit Go.Sort
theorem zaii {l : List ObjD} (c : Nat) (h : ∀ o ∈ l, o.refs.length ≤ c) : (zau l).length ≤ c * l.length := by
  have hi : ∀ (k : KeyD) (l : List KeyD), (insK k l).length ≤ l.length + 1 := by
    intro k l
    induction l with
    | nil => simp [insK]
    | cons x l ih => rw [insK]; split; · simp; omega
                     split <;> simp
  have h1 : ∀ (ks acc : List KeyD), (ks.foldl (fun acc k => insK k acc) acc).length ≤ acc.length + ks.length := by
    intro ks
    induction ks with
    | nil => intro acc; simp
    | cons k ks ih =>intro acc;rw [List.foldl_cons];have := ih (insK k acc);have := hi k acc;simp; omega
  have h2 : ∀ os : List ObjD, (∀ o ∈ os, o.refs.length ≤ c) → (os.flatMap zbh).length ≤ c * os.length := by
    intro os
    induction os with
    | nil => intro _; simp
    | cons o os ih =>intro hr;rw [List.flatMap_cons, List.length_append];have := ih fun x hx => hr x (List.mem_cons_of_mem _ hx);have h3 := hr o (List.mem_cons_self ..);have : (zbh o).length ≤ c := (by unfold zbh zdp; rw [List.length_map, List.length_range]; split <;> omega);rw [List.length_cons, Nat.mul_succ]; omega
  have h3 := h1 ((l.filter (isB l)).flatMap zbh) [];have h4 := h2 (l.filter (isB l)) fun o ho => h o (List.mem_filter.1 ho).1;have h5 := Nat.mul_le_mul (Nat.le_refl c) (List.length_filter_le (isB l) l);unfold zau setK;simp only [List.length_nil, Nat.zero_add] at h3;omega
def zox (l M:List ObjD):Prop:=M.Sublist l∧∀o∈l,o.kind≠2→o.kind≠3→o∈M
theorem zox.nil:zox [] []:=⟨List.Sublist.refl _,fun o ho=>by cases ho⟩
theorem zox.keep {l M:List ObjD} {k:Nat} {o:ObjD} (h:zox (l.take k) M) (ho:l[k]?=some o):zox (l.take (k+1)) (M++[o]):=by
 obtain ⟨hk,rfl⟩:=List.getElem?_eq_some_iff.1 ho;rw [List.take_succ_eq_append_getElem hk];refine ⟨h.1.append (List.Sublist.refl _),fun o ho h2 h3=>?_⟩;rcases List.mem_append.1 ho with ho | ho
 ·exact List.mem_append_left _ (h.2 o ho h2 h3)
 ·exact List.mem_append_right _ ho
theorem zox.drop {l M:List ObjD} {k:Nat} {o:ObjD} (h:zox (l.take k) M) (ho:l[k]?=some o) (hk:o.kind=2∨o.kind=3):zox (l.take (k+1)) M:=by
 obtain ⟨hk',rfl⟩:=List.getElem?_eq_some_iff.1 ho;rw [List.take_succ_eq_append_getElem hk'];refine ⟨h.1.trans (List.sublist_append_left _ _),fun o ho h2 h3=>?_⟩;rcases List.mem_append.1 ho with ho | ho
 ·exact h.2 o ho h2 h3
 ·rw [List.mem_singleton.1 ho] at h2 h3;rcases hk with hk | hk
  ·exact absurd hk h2
  ·exact absurd hk h3
end Go.Proofs.YtibpaaajghbkoaaGreat
