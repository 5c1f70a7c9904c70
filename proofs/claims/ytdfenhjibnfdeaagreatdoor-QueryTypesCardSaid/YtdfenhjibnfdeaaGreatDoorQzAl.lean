/-    -/
import Derived.Test.YtdfenhjibnfdeaaGreatDoorQzAk
import Derived.Test.YtdfenhjibnfdeaaGreatDoorQzAj
namespace Go.Proofs.YtdfenhjibnfdeaaGreatDoor
open Go.RowKit
section
variable {P:Program} {md:Region.Mode} {ops:Array Oper} {S0:World→Prop} {Q:Act→World→Prop}
def startL (n k:Nat):Array Bool:=(Array.range k).map fun i=>decide (i<n)
theorem doneTo_start {n:Nat} {listed:Array Bool} (h:DoneTo ops n listed):listed=startL n ops.size:=by
 refine Array.ext (by simp [startL,h.1]) fun i h1 h2=>?_
 have:=h.2 i (by rw [←h.1];exact h1) false
 rw [Array.getD_eq_getD_getElem?,Array.getElem?_eq_getElem h1] at this
 simpa [startL] using this
theorem any_one {fuel:Nat} {listed:Array Bool} {a:Act} {S:World→Prop} (c:Nat) {o:Oper} (hr:Region.ready md ops listed=[c]) (ho:ops[c]?=some o) (hw:Region.wanted o (yielded ops a.tmps)=true)
  (h:LoudB P S0 o a (anyM P md ops S0 Q fuel (listed.setIfInBounds c true)) S):anyM P md ops S0 Q (fuel+1) listed a S:=by
 refine ⟨fun e=>(by rw [hr] at e;cases e),fun i hi=>?_⟩
 rw [hr] at hi
 obtain rfl:i=c:=by simpa using hi
 unfold opM
 simp only [ho,hw,if_true]
 exact Or.inr h
theorem any_two {fuel:Nat} {listed:Array Bool} {a:Act} {S:World→Prop} (c d:Nat) {o o':Oper} (hr:Region.ready md ops listed=[c,d]) (ho:ops[c]?=some o) (ho':ops[d]?=some o') (hw:Region.wanted o (yielded ops a.tmps)=true) (hw':Region.wanted o' (yielded ops a.tmps)=true)
  (h:LoudB P S0 o a (anyM P md ops S0 Q fuel (listed.setIfInBounds c true)) S) (h':LoudB P S0 o' a (anyM P md ops S0 Q fuel (listed.setIfInBounds d true)) S):anyM P md ops S0 Q (fuel+1) listed a S:=by
 refine ⟨fun e=>(by rw [hr] at e;cases e),fun i hi=>?_⟩
 rw [hr] at hi
 have hi:i=c∨i=d:=by simpa using hi
 unfold opM
 rcases hi with rfl | rfl
 ·simp only [ho,hw,if_true]
  exact Or.inr h
 ·simp only [ho',hw',if_true]
  exact Or.inr h'
theorem any_quiet {fuel:Nat} {listed:Array Bool} {a:Act} {S:World→Prop} (i:Nat) (v:Value) {o:Oper} (hst:StableW S) (h10:∀w,S w→S0 w) (ho:ops[i]?=some o) (hs:Region.noSelect ops=true) (hf:Region.free md ops listed i=true) (hr:(Region.ready md ops listed).contains i=true) (hw:Region.wanted o (yielded ops a.tmps)=true)
  (hq:QuietB P S0 o a v) (h:anyM P md ops S0 Q fuel (listed.setIfInBounds i true) (a.put o.dst v) S):anyM P md ops S0 Q (fuel+1) listed a S :=
 anyM_first ho (Region.noSelect_spec hs) fuel listed a S hst h10 (Region.free_spec ho hf) (by simpa using hr) (Or.inl ⟨hw,hq⟩) h
theorem any_end {listed:Array Bool} {a:Act} {S:World→Prop} (hr:Region.ready md ops listed=[]) (h:∀w,S w→Q a w):anyM P md ops S0 Q 0 listed a S:=⟨hr,h⟩
theorem QuietB.pure {o:Oper} {a:Act} {v:Value} (h:∀w,(execOp a.eval o).run P w=.ok (.value v) w):QuietB P S0 o a v:=fun w _=>by
 show Oper.quietUpon P (ByW w) w v _
 rw [h w]
 exact ⟨rfl,rfl⟩
theorem wp_region_nodes {id:Nat} {Q':Exit→Act→World→Prop} {a:Act} {w:World} {l:List Oper} (n k:Nat) (S0 S1:World→Prop) (hm:P.follows .mixedOrders=true)
  (hs:Region.noSelect l.toArray=true) (hB:Region.lexFrom .any l.toArray l.length 0 (Array.replicate l.length false)=true) (hd:dstsB (l.take n) a.tmps.size=true) (hst:StableW S1) (h10:∀W,S1 W→S0 W) (h1:S1 w.drew) (hk:l.length=n+k)
  (hh:∃b,(∀W,S0 W→wpQuiet P l.toArray (ByW W) (fun a'=>a'=b) (l.take n) a)∧anyM P .any l.toArray S0 (fun a' w'=>Q' .normal a' w') k (startL n (n+k)) b S1) :
  (Code.region id l.toArray true).wp P Q' a w:=by
 obtain ⟨b,hq,hfr⟩:=hh
 obtain rfl:k=l.length - n:=by omega
 rw [←hk] at hfr
 have hn:n≤l.length:=by omega
 refine wp_region_any hm (anyM_sound (Q:=fun a' w'=>Q' .normal a' w') (S0:=S0) (fun _ _ h=>h) _ _ _ S1 hst h10 ?_ _ h1)
 have e:(l.take n).length=n:=by rw [List.length_take];omega
 have hle:l.toArray.size=(l.take n).length+(l.length - n):=by rw [List.size_toArray,e];omega
 rw [hle]
 refine head_lex hs hst h10 (l.length - n) (l.take n) 0 _ a (by rw [←hle];exact DoneTo.start) (fun j o hj=>?_) (by rw [←hle,List.size_toArray];exact hB) (head_of_quiet _ _ hd ⟨_,h10 _ h1⟩ hq) (fun listed' hd' _=>?_)
 ·rw [List.getElem?_take] at hj
  rw [Nat.zero_add,List.getElem?_toArray]
  split at hj
  ·exact hj
  ·cases hj
 ·rw [e,Nat.zero_add] at hd'
  have hs2:=doneTo_start hd'
  rw [List.size_toArray] at hs2
  subst hs2
  exact hfr
end
end Go.Proofs.YtdfenhjibnfdeaaGreatDoor

namespace Go.Proofs.YtdfenhjibnfdeaaGreatDoor
open Go.RowKit Go.Shelf
abbrev qryC (q:QryD) (a:Option Addr) (cap:Nat):Array Value:=#[.int .i64 q.ask,.int .i64 q.kind,.int .i64 q.wher.op,.string q.wher.key,.string q.wher.val,.int .i64 q.wher.n,.slice a q.wher.kids.length cap,.string q.id,.int .i64 q.n,.int .i64 q.x,.int .i64 q.y,.string q.key,.string q.prof,.int .i64 q.minute]
abbrev qryV (q:QryD) (a:Option Addr) (cap:Nat):Value:=.agg (qryC q a cap)
theorem words_any (w:World):Calls Tryz.prog 31 #[] w fun e w'=>e=.returned (.slice (some ⟨w.heap.size,0,none⟩) 6 6)∧StrRow w' (.slice (some ⟨w.heap.size,0,none⟩) 6 6) kindsW∧Below w.heap.size w w':=by
 have HS:=Lib.hid (strs_new w kindsW (by decide) (by decide))
 have B1:=(Below.refl w.heap.size w).alloc (Nat.le_refl _) (.cells (kindsW.map Value.string).toArray 9)
 go_enter Tryz.func31,Tryz.ntmps31
 go_wp2
 go_ret
 exact ⟨rfl,HS.out,B1⟩
theorem within_any (n lo hi:Int) (w:World):Calls Tryz.prog 35 #[.int .i64 n,.int .i64 lo,.int .i64 hi] w fun e w'=>e=.returned (.bool (decide (lo≤n∧n≤hi)))∧w'=w:=by
 by_cases h1:lo≤n
 ·have d1:decide (lo≤n)=true:=decide_eq_true h1
  by_cases h2:n≤hi
  ·have d2:decide (n≤hi)=true:=decide_eq_true h2
   rw [decide_eq_true ⟨h1,h2⟩]
   clear h1 h2
   go_enter Tryz.func35,Tryz.ntmps35
   go_wp2
   go_ret
   exact ⟨rfl,rfl⟩
  ·have d2:decide (n≤hi)=false:=decide_eq_false h2
   rw [decide_eq_false fun h=>h2 h.2]
   clear h1 h2
   go_enter Tryz.func35,Tryz.ntmps35
   go_wp2
   go_ret
   exact ⟨rfl,rfl⟩
 ·have d1:decide (lo≤n)=false:=decide_eq_false h1
  rw [decide_eq_false fun h=>h1 h.1]
  clear h1
  go_enter Tryz.func35,Tryz.ntmps35
  go_wp2
  go_ret
  exact ⟨rfl,rfl⟩
theorem emp_iff (s:ByteArray):s=emptyB↔s.toList=[]:=by
 constructor
 ·intro h;rw [h];exact str_nil rfl
 ·intro h
  rcases Nat.eq_zero_or_pos s.size with h1 | h1
  ·exact ByteArray.ext (Array.eq_empty_of_size_eq_zero h1)
  ·have:=str_not_empty h1
   rw [h] at this;cases this
set_option maxRecDepth 100000 in
set_option maxHeartbeats 8000000 in
theorem validQF_any (q:QryD) (a:Option Addr) (cap:Nat) (w:World) (hc:CondIs w q.wher a) (hk:0≤q.kind∧q.kind<6) (hR:validC q.wher=false) :
  Calls Tryz.prog 12 #[qryV q a cap] w fun e w'=>e=.returned (.bool (validQ q))∧Below w.heap.size w w':=by
 have HE:=Lib.hid (show validQ q=false by simp [validQ,hR])
 rw [HE.out]
 have B1:=(Below.refl w.heap.size w).alloc (Nat.le_refl _) (.cells (qryC q a cap) 28)
 obtain ⟨w1,hw1⟩:∃w1,w.alloc (.cells (qryC q a cap) 28)=w1:=⟨_,rfl⟩
 have H1:=Lib.hid (row_new w (.cells (qryC q a cap) 28))
 rw [hw1] at B1 H1
 have HW:=Lib.hid hw1
 have hmx:Tryz.prog.follows .mixedOrders=true:=by kernel_rfl
 have HC1:=Lib.hid (hc.later B1)
 have HV:=Lib.hid (fun W (hb:Below w1.heap.size w1 W)=>valid_any q.wher a cap W (HC1.out.later hb))
 clear hc hw1
 have d0:decide (q.kind<0)=false:=by rw [decide_eq_false_iff_not];omega
 have d6:decide ((6:Int)≤q.kind)=false:=by rw [decide_eq_false_iff_not];omega
 rw [hR] at HV
 go_enter Tryz.func12,Tryz.ntmps12
 go_wp2
 rw [HW.out]
 refine wp_region_mix 6 (fun W=>Below w1.heap.size w1 W) (fun W=>Below w1.heap.size w1 W) hmx (by kernel_rfl) (by kernel_rfl) (by kernel_rfl) (StableW.below _ _ (Nat.le_refl _)) (fun W hW=>hW) (Below.refl _ _).drew ?_
 apply Exists.intro
 refine ⟨fun W hW=>?_,?_⟩
 ·have HXW:=row_later hW H1.out
  clear hW
  have xz:=lt_of_block HXW
  have x0:=cell_of_row W _ 0 _ _ _ HXW
  have x1:=cell_of_row W _ 1 _ _ _ HXW
  have x2:=cell_of_row W _ 2 _ _ _ HXW
  have x3:=cell_of_row W _ 3 _ _ _ HXW
  have x4:=cell_of_row W _ 4 _ _ _ HXW
  have x5:=cell_of_row W _ 5 _ _ _ HXW
  have x6:=cell_of_row W _ 6 _ _ _ HXW
  have x7:=cell_of_row W _ 7 _ _ _ HXW
  have x8:=cell_of_row W _ 8 _ _ _ HXW
  have x9:=cell_of_row W _ 9 _ _ _ HXW
  have x10:=cell_of_row W _ 10 _ _ _ HXW
  have x11:=cell_of_row W _ 11 _ _ _ HXW
  have x12:=cell_of_row W _ 12 _ _ _ HXW
  have x13:=cell_of_row W _ 13 _ _ _ HXW
  simp only [List.getElem?_toArray,List.getElem?_cons_zero,List.getElem?_cons_succ] at x0 x1 x2 x3 x4 x5 x6 x7 x8 x9 x10 x11 x12 x13
  have HXW':=Lib.hid HXW
  clear HXW
  have q1:=cell_belowBy x1
  clear x0 x1 x2 x3 x4 x5 x6 x7 x8 x9 x10 x11 x12 x13
  simp only [List.take_succ_cons,List.take_zero]
  repeat (go_big_quiet_step (fail))
  exact wpQuiet_nil rfl
 simp only [List.drop_succ_cons,List.drop_zero]
 refine tailM_step (ι:=Nat) (fun g=>.slice (some ⟨g,0,none⟩) 6 6) (fun g W=>Below w1.heap.size w1 W) rfl (fun g=>StableW.below _ _ (Nat.le_refl _)) (fun _ _ h=>h) (fun W hS K hK=>?_) (fun g=>?_)
 ·go_simp
  refine (words_any W).mono ?_
  rintro e w2 ⟨rfl,-,hb2⟩
  exact hK W.heap.size _ (below_step hS (Nat.le_refl _) hb2)
 simp only [Act.put,List.setIfInBounds_toArray,List.set_cons_succ,List.set_cons_zero]
 refine tailM_pure (.int .i64 6) rfl (StableW.below _ _ (Nat.le_refl _)) (fun _ h=>h) (fun W hS K hK=>?_) ?_
 ·have HXW:=row_later hS H1.out
  have yz:=lt_of_block HXW
  have y0:=cell_of_row W _ 0 _ _ _ HXW
  have y1:=cell_of_row W _ 1 _ _ _ HXW
  have y2:=cell_of_row W _ 2 _ _ _ HXW
  have y3:=cell_of_row W _ 3 _ _ _ HXW
  have y4:=cell_of_row W _ 4 _ _ _ HXW
  have y5:=cell_of_row W _ 5 _ _ _ HXW
  have y6:=cell_of_row W _ 6 _ _ _ HXW
  have y7:=cell_of_row W _ 7 _ _ _ HXW
  have y8:=cell_of_row W _ 8 _ _ _ HXW
  have y9:=cell_of_row W _ 9 _ _ _ HXW
  have y10:=cell_of_row W _ 10 _ _ _ HXW
  have y11:=cell_of_row W _ 11 _ _ _ HXW
  have y12:=cell_of_row W _ 12 _ _ _ HXW
  have y13:=cell_of_row W _ 13 _ _ _ HXW
  simp only [List.getElem?_toArray,List.getElem?_cons_zero,List.getElem?_cons_succ] at y0 y1 y2 y3 y4 y5 y6 y7 y8 y9 y10 y11 y12 y13
  have HXW':=Lib.hid HXW
  clear HXW
  go_simp
  exact hK
 simp only [Act.put,List.setIfInBounds_toArray,List.set_cons_succ,List.set_cons_zero]
 refine tailM_pure (.bool false) rfl (StableW.below _ _ (Nat.le_refl _)) (fun _ h=>h) (fun W hS K hK=>?_) ?_
 ·have HXW:=row_later hS H1.out
  have yz:=lt_of_block HXW
  have y0:=cell_of_row W _ 0 _ _ _ HXW
  have y1:=cell_of_row W _ 1 _ _ _ HXW
  have y2:=cell_of_row W _ 2 _ _ _ HXW
  have y3:=cell_of_row W _ 3 _ _ _ HXW
  have y4:=cell_of_row W _ 4 _ _ _ HXW
  have y5:=cell_of_row W _ 5 _ _ _ HXW
  have y6:=cell_of_row W _ 6 _ _ _ HXW
  have y7:=cell_of_row W _ 7 _ _ _ HXW
  have y8:=cell_of_row W _ 8 _ _ _ HXW
  have y9:=cell_of_row W _ 9 _ _ _ HXW
  have y10:=cell_of_row W _ 10 _ _ _ HXW
  have y11:=cell_of_row W _ 11 _ _ _ HXW
  have y12:=cell_of_row W _ 12 _ _ _ HXW
  have y13:=cell_of_row W _ 13 _ _ _ HXW
  simp only [List.getElem?_toArray,List.getElem?_cons_zero,List.getElem?_cons_succ] at y0 y1 y2 y3 y4 y5 y6 y7 y8 y9 y10 y11 y12 y13
  have HXW':=Lib.hid HXW
  clear HXW
  go_simp
  exact hK
 simp only [Act.put,List.setIfInBounds_toArray,List.set_cons_succ,List.set_cons_zero]
 refine tailM_pure (.bool false) rfl (StableW.below _ _ (Nat.le_refl _)) (fun _ h=>h) (fun W hS K hK=>?_) ?_
 ·have HXW:=row_later hS H1.out
  have yz:=lt_of_block HXW
  have y0:=cell_of_row W _ 0 _ _ _ HXW
  have y1:=cell_of_row W _ 1 _ _ _ HXW
  have y2:=cell_of_row W _ 2 _ _ _ HXW
  have y3:=cell_of_row W _ 3 _ _ _ HXW
  have y4:=cell_of_row W _ 4 _ _ _ HXW
  have y5:=cell_of_row W _ 5 _ _ _ HXW
  have y6:=cell_of_row W _ 6 _ _ _ HXW
  have y7:=cell_of_row W _ 7 _ _ _ HXW
  have y8:=cell_of_row W _ 8 _ _ _ HXW
  have y9:=cell_of_row W _ 9 _ _ _ HXW
  have y10:=cell_of_row W _ 10 _ _ _ HXW
  have y11:=cell_of_row W _ 11 _ _ _ HXW
  have y12:=cell_of_row W _ 12 _ _ _ HXW
  have y13:=cell_of_row W _ 13 _ _ _ HXW
  simp only [List.getElem?_toArray,List.getElem?_cons_zero,List.getElem?_cons_succ] at y0 y1 y2 y3 y4 y5 y6 y7 y8 y9 y10 y11 y12 y13
  have HXW':=Lib.hid HXW
  clear HXW
  go_simp
  exact hK
 simp only [Act.put,List.setIfInBounds_toArray,List.set_cons_succ,List.set_cons_zero]
 refine tailM_pure (.bool false) rfl (StableW.below _ _ (Nat.le_refl _)) (fun _ h=>h) (fun W hS K hK=>?_) ?_
 ·have HXW:=row_later hS H1.out
  have yz:=lt_of_block HXW
  have y0:=cell_of_row W _ 0 _ _ _ HXW
  have y1:=cell_of_row W _ 1 _ _ _ HXW
  have y2:=cell_of_row W _ 2 _ _ _ HXW
  have y3:=cell_of_row W _ 3 _ _ _ HXW
  have y4:=cell_of_row W _ 4 _ _ _ HXW
  have y5:=cell_of_row W _ 5 _ _ _ HXW
  have y6:=cell_of_row W _ 6 _ _ _ HXW
  have y7:=cell_of_row W _ 7 _ _ _ HXW
  have y8:=cell_of_row W _ 8 _ _ _ HXW
  have y9:=cell_of_row W _ 9 _ _ _ HXW
  have y10:=cell_of_row W _ 10 _ _ _ HXW
  have y11:=cell_of_row W _ 11 _ _ _ HXW
  have y12:=cell_of_row W _ 12 _ _ _ HXW
  have y13:=cell_of_row W _ 13 _ _ _ HXW
  simp only [List.getElem?_toArray,List.getElem?_cons_zero,List.getElem?_cons_succ] at y0 y1 y2 y3 y4 y5 y6 y7 y8 y9 y10 y11 y12 y13
  have HXW':=Lib.hid HXW
  clear HXW
  go_simp
  exact hK
 simp only [Act.put,List.setIfInBounds_toArray,List.set_cons_succ,List.set_cons_zero]
 refine tailM_pure (.pointer (some ⟨w.heap.size,2,none⟩)) rfl (StableW.below _ _ (Nat.le_refl _)) (fun _ h=>h) (fun W hS K hK=>?_) ?_
 ·have HXW:=row_later hS H1.out
  have yz:=lt_of_block HXW
  have y0:=cell_of_row W _ 0 _ _ _ HXW
  have y1:=cell_of_row W _ 1 _ _ _ HXW
  have y2:=cell_of_row W _ 2 _ _ _ HXW
  have y3:=cell_of_row W _ 3 _ _ _ HXW
  have y4:=cell_of_row W _ 4 _ _ _ HXW
  have y5:=cell_of_row W _ 5 _ _ _ HXW
  have y6:=cell_of_row W _ 6 _ _ _ HXW
  have y7:=cell_of_row W _ 7 _ _ _ HXW
  have y8:=cell_of_row W _ 8 _ _ _ HXW
  have y9:=cell_of_row W _ 9 _ _ _ HXW
  have y10:=cell_of_row W _ 10 _ _ _ HXW
  have y11:=cell_of_row W _ 11 _ _ _ HXW
  have y12:=cell_of_row W _ 12 _ _ _ HXW
  have y13:=cell_of_row W _ 13 _ _ _ HXW
  simp only [List.getElem?_toArray,List.getElem?_cons_zero,List.getElem?_cons_succ] at y0 y1 y2 y3 y4 y5 y6 y7 y8 y9 y10 y11 y12 y13
  have HXW':=Lib.hid HXW
  clear HXW
  go_simp
  exact hK
 simp only [Act.put,List.setIfInBounds_toArray,List.set_cons_succ,List.set_cons_zero]
 refine tailM_pure (condV q.wher a cap) rfl (StableW.below _ _ (Nat.le_refl _)) (fun _ h=>h) (fun W hS K hK=>?_) ?_
 ·have HXW:=row_later hS H1.out
  have yz:=lt_of_block HXW
  have y0:=cell_of_row W _ 0 _ _ _ HXW
  have y1:=cell_of_row W _ 1 _ _ _ HXW
  have y2:=cell_of_row W _ 2 _ _ _ HXW
  have y3:=cell_of_row W _ 3 _ _ _ HXW
  have y4:=cell_of_row W _ 4 _ _ _ HXW
  have y5:=cell_of_row W _ 5 _ _ _ HXW
  have y6:=cell_of_row W _ 6 _ _ _ HXW
  have y7:=cell_of_row W _ 7 _ _ _ HXW
  have y8:=cell_of_row W _ 8 _ _ _ HXW
  have y9:=cell_of_row W _ 9 _ _ _ HXW
  have y10:=cell_of_row W _ 10 _ _ _ HXW
  have y11:=cell_of_row W _ 11 _ _ _ HXW
  have y12:=cell_of_row W _ 12 _ _ _ HXW
  have y13:=cell_of_row W _ 13 _ _ _ HXW
  simp only [List.getElem?_toArray,List.getElem?_cons_zero,List.getElem?_cons_succ] at y0 y1 y2 y3 y4 y5 y6 y7 y8 y9 y10 y11 y12 y13
  have HXW':=Lib.hid HXW
  clear HXW
  go_simp
  exact hK
 simp only [Act.put,List.setIfInBounds_toArray,List.set_cons_succ,List.set_cons_zero]
 refine tailM_step (ι:=Unit) (fun _=>.bool false) (fun _ W=>Below w1.heap.size w1 W) rfl (fun _=>StableW.below _ _ (Nat.le_refl _)) (fun _ _ h=>h) (fun W hS K hK=>?_) (fun _=>?_)
 ·go_simp
  refine (HV.out W hS).mono ?_
  rintro e w2 ⟨rfl,hb2⟩
  exact hK () _ (below_step hS (Nat.le_refl _) hb2)
 simp only [Act.put,List.setIfInBounds_toArray,List.set_cons_succ,List.set_cons_zero]
 refine tailM_pure (.bool true) rfl (StableW.below _ _ (Nat.le_refl _)) (fun _ h=>h) (fun W hS K hK=>?_) ?_
 ·have HXW:=row_later hS H1.out
  have yz:=lt_of_block HXW
  have y0:=cell_of_row W _ 0 _ _ _ HXW
  have y1:=cell_of_row W _ 1 _ _ _ HXW
  have y2:=cell_of_row W _ 2 _ _ _ HXW
  have y3:=cell_of_row W _ 3 _ _ _ HXW
  have y4:=cell_of_row W _ 4 _ _ _ HXW
  have y5:=cell_of_row W _ 5 _ _ _ HXW
  have y6:=cell_of_row W _ 6 _ _ _ HXW
  have y7:=cell_of_row W _ 7 _ _ _ HXW
  have y8:=cell_of_row W _ 8 _ _ _ HXW
  have y9:=cell_of_row W _ 9 _ _ _ HXW
  have y10:=cell_of_row W _ 10 _ _ _ HXW
  have y11:=cell_of_row W _ 11 _ _ _ HXW
  have y12:=cell_of_row W _ 12 _ _ _ HXW
  have y13:=cell_of_row W _ 13 _ _ _ HXW
  simp only [List.getElem?_toArray,List.getElem?_cons_zero,List.getElem?_cons_succ] at y0 y1 y2 y3 y4 y5 y6 y7 y8 y9 y10 y11 y12 y13
  have HXW':=Lib.hid HXW
  clear HXW
  go_simp
  exact hK
 simp only [Act.put,List.setIfInBounds_toArray,List.set_cons_succ,List.set_cons_zero]
 refine tailM_pure (.bool true) rfl (StableW.below _ _ (Nat.le_refl _)) (fun _ h=>h) (fun W hS K hK=>?_) ?_
 ·have HXW:=row_later hS H1.out
  have yz:=lt_of_block HXW
  have y0:=cell_of_row W _ 0 _ _ _ HXW
  have y1:=cell_of_row W _ 1 _ _ _ HXW
  have y2:=cell_of_row W _ 2 _ _ _ HXW
  have y3:=cell_of_row W _ 3 _ _ _ HXW
  have y4:=cell_of_row W _ 4 _ _ _ HXW
  have y5:=cell_of_row W _ 5 _ _ _ HXW
  have y6:=cell_of_row W _ 6 _ _ _ HXW
  have y7:=cell_of_row W _ 7 _ _ _ HXW
  have y8:=cell_of_row W _ 8 _ _ _ HXW
  have y9:=cell_of_row W _ 9 _ _ _ HXW
  have y10:=cell_of_row W _ 10 _ _ _ HXW
  have y11:=cell_of_row W _ 11 _ _ _ HXW
  have y12:=cell_of_row W _ 12 _ _ _ HXW
  have y13:=cell_of_row W _ 13 _ _ _ HXW
  simp only [List.getElem?_toArray,List.getElem?_cons_zero,List.getElem?_cons_succ] at y0 y1 y2 y3 y4 y5 y6 y7 y8 y9 y10 y11 y12 y13
  have HXW':=Lib.hid HXW
  clear HXW
  go_simp
  exact hK
 simp only [Act.put,List.setIfInBounds_toArray,List.set_cons_succ,List.set_cons_zero]
 refine tailM_nil fun w3 hb3=>?_
 have B3:=below_step B1 (Nat.le_refl _) hb3
 have H3:=Lib.hid (row_later hb3 H1.out)
 clear hb3 d0 d6 HW HV H1 B1 hR
 have xz:=lt_of_block H3.out
 have x0:=cell_of_row w3 _ 0 _ _ _ H3.out
 have x1:=cell_of_row w3 _ 1 _ _ _ H3.out
 have x2:=cell_of_row w3 _ 2 _ _ _ H3.out
 have x3:=cell_of_row w3 _ 3 _ _ _ H3.out
 have x4:=cell_of_row w3 _ 4 _ _ _ H3.out
 have x5:=cell_of_row w3 _ 5 _ _ _ H3.out
 have x6:=cell_of_row w3 _ 6 _ _ _ H3.out
 have x7:=cell_of_row w3 _ 7 _ _ _ H3.out
 have x8:=cell_of_row w3 _ 8 _ _ _ H3.out
 have x9:=cell_of_row w3 _ 9 _ _ _ H3.out
 have x10:=cell_of_row w3 _ 10 _ _ _ H3.out
 have x11:=cell_of_row w3 _ 11 _ _ _ H3.out
 have x12:=cell_of_row w3 _ 12 _ _ _ H3.out
 have x13:=cell_of_row w3 _ 13 _ _ _ H3.out
 simp only [List.getElem?_toArray,List.getElem?_cons_zero,List.getElem?_cons_succ] at x0 x1 x2 x3 x4 x5 x6 x7 x8 x9 x10 x11 x12 x13
 go_wp2
 go_ret
 exact ⟨rfl,B3⟩
set_option maxRecDepth 100000 in
set_option maxHeartbeats 8000000 in
theorem validQ1_any (q:QryD) (a:Option Addr) (cap:Nat) (w:World) (hc:CondIs w q.wher a) (hk:0≤q.kind∧q.kind<6) (ha:q.ask=1) (hR:validC q.wher=true) :
  Calls Tryz.prog 12 #[qryV q a cap] w fun e w'=>e=.returned (.bool (validQ q))∧Below w.heap.size w w':=by
 have HE:=Lib.hid (show validQ q=decide (q.id.toList=[]∧q.n=0∧q.x=0∧q.y=0∧q.key.toList=[]∧q.prof.toList=[]∧q.minute=0) by unfold validQ;rw [if_pos ha,hR,decide_eq_true hk];simp only [emp_iff];rfl)
 rw [HE.out]
 clear HE
 have a1:(q.ask==1)=true:=by rw [beq_iff_eq];exact ha
 have B1:=(Below.refl w.heap.size w).alloc (Nat.le_refl _) (.cells (qryC q a cap) 28)
 obtain ⟨w1,hw1⟩:∃w1,w.alloc (.cells (qryC q a cap) 28)=w1:=⟨_,rfl⟩
 have H1:=Lib.hid (row_new w (.cells (qryC q a cap) 28))
 rw [hw1] at B1 H1
 have HW:=Lib.hid hw1
 have hmx:Tryz.prog.follows .mixedOrders=true:=by kernel_rfl
 have HC1:=Lib.hid (hc.later B1)
 have HV:=Lib.hid (fun W (hb:Below w1.heap.size w1 W)=>valid_any q.wher a cap W (HC1.out.later hb))
 clear hc hw1
 have d0:decide (q.kind<0)=false:=by rw [decide_eq_false_iff_not];omega
 have d6:decide ((6:Int)≤q.kind)=false:=by rw [decide_eq_false_iff_not];omega
 rw [hR] at HV
 go_enter Tryz.func12,Tryz.ntmps12
 go_wp2
 rw [HW.out]
 refine wp_region_mix 6 (fun W=>Below w1.heap.size w1 W) (fun W=>Below w1.heap.size w1 W) hmx (by kernel_rfl) (by kernel_rfl) (by kernel_rfl) (StableW.below _ _ (Nat.le_refl _)) (fun W hW=>hW) (Below.refl _ _).drew ?_
 apply Exists.intro
 refine ⟨fun W hW=>?_,?_⟩
 ·have HXW:=row_later hW H1.out
  clear hW
  have xz:=lt_of_block HXW
  have x0:=cell_of_row W _ 0 _ _ _ HXW
  have x1:=cell_of_row W _ 1 _ _ _ HXW
  have x2:=cell_of_row W _ 2 _ _ _ HXW
  have x3:=cell_of_row W _ 3 _ _ _ HXW
  have x4:=cell_of_row W _ 4 _ _ _ HXW
  have x5:=cell_of_row W _ 5 _ _ _ HXW
  have x6:=cell_of_row W _ 6 _ _ _ HXW
  have x7:=cell_of_row W _ 7 _ _ _ HXW
  have x8:=cell_of_row W _ 8 _ _ _ HXW
  have x9:=cell_of_row W _ 9 _ _ _ HXW
  have x10:=cell_of_row W _ 10 _ _ _ HXW
  have x11:=cell_of_row W _ 11 _ _ _ HXW
  have x12:=cell_of_row W _ 12 _ _ _ HXW
  have x13:=cell_of_row W _ 13 _ _ _ HXW
  simp only [List.getElem?_toArray,List.getElem?_cons_zero,List.getElem?_cons_succ] at x0 x1 x2 x3 x4 x5 x6 x7 x8 x9 x10 x11 x12 x13
  have HXW':=Lib.hid HXW
  clear HXW
  have q1:=cell_belowBy x1
  clear x0 x1 x2 x3 x4 x5 x6 x7 x8 x9 x10 x11 x12 x13
  simp only [List.take_succ_cons,List.take_zero]
  repeat (go_big_quiet_step (fail))
  exact wpQuiet_nil rfl
 simp only [List.drop_succ_cons,List.drop_zero]
 refine tailM_step (ι:=Nat) (fun g=>.slice (some ⟨g,0,none⟩) 6 6) (fun g W=>Below w1.heap.size w1 W) rfl (fun g=>StableW.below _ _ (Nat.le_refl _)) (fun _ _ h=>h) (fun W hS K hK=>?_) (fun g=>?_)
 ·go_simp
  refine (words_any W).mono ?_
  rintro e w2 ⟨rfl,-,hb2⟩
  exact hK W.heap.size _ (below_step hS (Nat.le_refl _) hb2)
 simp only [Act.put,List.setIfInBounds_toArray,List.set_cons_succ,List.set_cons_zero]
 refine tailM_pure (.int .i64 6) rfl (StableW.below _ _ (Nat.le_refl _)) (fun _ h=>h) (fun W hS K hK=>?_) ?_
 ·have HXW:=row_later hS H1.out
  have yz:=lt_of_block HXW
  have y0:=cell_of_row W _ 0 _ _ _ HXW
  have y1:=cell_of_row W _ 1 _ _ _ HXW
  have y2:=cell_of_row W _ 2 _ _ _ HXW
  have y3:=cell_of_row W _ 3 _ _ _ HXW
  have y4:=cell_of_row W _ 4 _ _ _ HXW
  have y5:=cell_of_row W _ 5 _ _ _ HXW
  have y6:=cell_of_row W _ 6 _ _ _ HXW
  have y7:=cell_of_row W _ 7 _ _ _ HXW
  have y8:=cell_of_row W _ 8 _ _ _ HXW
  have y9:=cell_of_row W _ 9 _ _ _ HXW
  have y10:=cell_of_row W _ 10 _ _ _ HXW
  have y11:=cell_of_row W _ 11 _ _ _ HXW
  have y12:=cell_of_row W _ 12 _ _ _ HXW
  have y13:=cell_of_row W _ 13 _ _ _ HXW
  simp only [List.getElem?_toArray,List.getElem?_cons_zero,List.getElem?_cons_succ] at y0 y1 y2 y3 y4 y5 y6 y7 y8 y9 y10 y11 y12 y13
  have HXW':=Lib.hid HXW
  clear HXW
  go_simp
  exact hK
 simp only [Act.put,List.setIfInBounds_toArray,List.set_cons_succ,List.set_cons_zero]
 refine tailM_pure (.bool false) rfl (StableW.below _ _ (Nat.le_refl _)) (fun _ h=>h) (fun W hS K hK=>?_) ?_
 ·have HXW:=row_later hS H1.out
  have yz:=lt_of_block HXW
  have y0:=cell_of_row W _ 0 _ _ _ HXW
  have y1:=cell_of_row W _ 1 _ _ _ HXW
  have y2:=cell_of_row W _ 2 _ _ _ HXW
  have y3:=cell_of_row W _ 3 _ _ _ HXW
  have y4:=cell_of_row W _ 4 _ _ _ HXW
  have y5:=cell_of_row W _ 5 _ _ _ HXW
  have y6:=cell_of_row W _ 6 _ _ _ HXW
  have y7:=cell_of_row W _ 7 _ _ _ HXW
  have y8:=cell_of_row W _ 8 _ _ _ HXW
  have y9:=cell_of_row W _ 9 _ _ _ HXW
  have y10:=cell_of_row W _ 10 _ _ _ HXW
  have y11:=cell_of_row W _ 11 _ _ _ HXW
  have y12:=cell_of_row W _ 12 _ _ _ HXW
  have y13:=cell_of_row W _ 13 _ _ _ HXW
  simp only [List.getElem?_toArray,List.getElem?_cons_zero,List.getElem?_cons_succ] at y0 y1 y2 y3 y4 y5 y6 y7 y8 y9 y10 y11 y12 y13
  have HXW':=Lib.hid HXW
  clear HXW
  go_simp
  exact hK
 simp only [Act.put,List.setIfInBounds_toArray,List.set_cons_succ,List.set_cons_zero]
 refine tailM_pure (.bool false) rfl (StableW.below _ _ (Nat.le_refl _)) (fun _ h=>h) (fun W hS K hK=>?_) ?_
 ·have HXW:=row_later hS H1.out
  have yz:=lt_of_block HXW
  have y0:=cell_of_row W _ 0 _ _ _ HXW
  have y1:=cell_of_row W _ 1 _ _ _ HXW
  have y2:=cell_of_row W _ 2 _ _ _ HXW
  have y3:=cell_of_row W _ 3 _ _ _ HXW
  have y4:=cell_of_row W _ 4 _ _ _ HXW
  have y5:=cell_of_row W _ 5 _ _ _ HXW
  have y6:=cell_of_row W _ 6 _ _ _ HXW
  have y7:=cell_of_row W _ 7 _ _ _ HXW
  have y8:=cell_of_row W _ 8 _ _ _ HXW
  have y9:=cell_of_row W _ 9 _ _ _ HXW
  have y10:=cell_of_row W _ 10 _ _ _ HXW
  have y11:=cell_of_row W _ 11 _ _ _ HXW
  have y12:=cell_of_row W _ 12 _ _ _ HXW
  have y13:=cell_of_row W _ 13 _ _ _ HXW
  simp only [List.getElem?_toArray,List.getElem?_cons_zero,List.getElem?_cons_succ] at y0 y1 y2 y3 y4 y5 y6 y7 y8 y9 y10 y11 y12 y13
  have HXW':=Lib.hid HXW
  clear HXW
  go_simp
  exact hK
 simp only [Act.put,List.setIfInBounds_toArray,List.set_cons_succ,List.set_cons_zero]
 refine tailM_pure (.bool false) rfl (StableW.below _ _ (Nat.le_refl _)) (fun _ h=>h) (fun W hS K hK=>?_) ?_
 ·have HXW:=row_later hS H1.out
  have yz:=lt_of_block HXW
  have y0:=cell_of_row W _ 0 _ _ _ HXW
  have y1:=cell_of_row W _ 1 _ _ _ HXW
  have y2:=cell_of_row W _ 2 _ _ _ HXW
  have y3:=cell_of_row W _ 3 _ _ _ HXW
  have y4:=cell_of_row W _ 4 _ _ _ HXW
  have y5:=cell_of_row W _ 5 _ _ _ HXW
  have y6:=cell_of_row W _ 6 _ _ _ HXW
  have y7:=cell_of_row W _ 7 _ _ _ HXW
  have y8:=cell_of_row W _ 8 _ _ _ HXW
  have y9:=cell_of_row W _ 9 _ _ _ HXW
  have y10:=cell_of_row W _ 10 _ _ _ HXW
  have y11:=cell_of_row W _ 11 _ _ _ HXW
  have y12:=cell_of_row W _ 12 _ _ _ HXW
  have y13:=cell_of_row W _ 13 _ _ _ HXW
  simp only [List.getElem?_toArray,List.getElem?_cons_zero,List.getElem?_cons_succ] at y0 y1 y2 y3 y4 y5 y6 y7 y8 y9 y10 y11 y12 y13
  have HXW':=Lib.hid HXW
  clear HXW
  go_simp
  exact hK
 simp only [Act.put,List.setIfInBounds_toArray,List.set_cons_succ,List.set_cons_zero]
 refine tailM_pure (.pointer (some ⟨w.heap.size,2,none⟩)) rfl (StableW.below _ _ (Nat.le_refl _)) (fun _ h=>h) (fun W hS K hK=>?_) ?_
 ·have HXW:=row_later hS H1.out
  have yz:=lt_of_block HXW
  have y0:=cell_of_row W _ 0 _ _ _ HXW
  have y1:=cell_of_row W _ 1 _ _ _ HXW
  have y2:=cell_of_row W _ 2 _ _ _ HXW
  have y3:=cell_of_row W _ 3 _ _ _ HXW
  have y4:=cell_of_row W _ 4 _ _ _ HXW
  have y5:=cell_of_row W _ 5 _ _ _ HXW
  have y6:=cell_of_row W _ 6 _ _ _ HXW
  have y7:=cell_of_row W _ 7 _ _ _ HXW
  have y8:=cell_of_row W _ 8 _ _ _ HXW
  have y9:=cell_of_row W _ 9 _ _ _ HXW
  have y10:=cell_of_row W _ 10 _ _ _ HXW
  have y11:=cell_of_row W _ 11 _ _ _ HXW
  have y12:=cell_of_row W _ 12 _ _ _ HXW
  have y13:=cell_of_row W _ 13 _ _ _ HXW
  simp only [List.getElem?_toArray,List.getElem?_cons_zero,List.getElem?_cons_succ] at y0 y1 y2 y3 y4 y5 y6 y7 y8 y9 y10 y11 y12 y13
  have HXW':=Lib.hid HXW
  clear HXW
  go_simp
  exact hK
 simp only [Act.put,List.setIfInBounds_toArray,List.set_cons_succ,List.set_cons_zero]
 refine tailM_pure (condV q.wher a cap) rfl (StableW.below _ _ (Nat.le_refl _)) (fun _ h=>h) (fun W hS K hK=>?_) ?_
 ·have HXW:=row_later hS H1.out
  have yz:=lt_of_block HXW
  have y0:=cell_of_row W _ 0 _ _ _ HXW
  have y1:=cell_of_row W _ 1 _ _ _ HXW
  have y2:=cell_of_row W _ 2 _ _ _ HXW
  have y3:=cell_of_row W _ 3 _ _ _ HXW
  have y4:=cell_of_row W _ 4 _ _ _ HXW
  have y5:=cell_of_row W _ 5 _ _ _ HXW
  have y6:=cell_of_row W _ 6 _ _ _ HXW
  have y7:=cell_of_row W _ 7 _ _ _ HXW
  have y8:=cell_of_row W _ 8 _ _ _ HXW
  have y9:=cell_of_row W _ 9 _ _ _ HXW
  have y10:=cell_of_row W _ 10 _ _ _ HXW
  have y11:=cell_of_row W _ 11 _ _ _ HXW
  have y12:=cell_of_row W _ 12 _ _ _ HXW
  have y13:=cell_of_row W _ 13 _ _ _ HXW
  simp only [List.getElem?_toArray,List.getElem?_cons_zero,List.getElem?_cons_succ] at y0 y1 y2 y3 y4 y5 y6 y7 y8 y9 y10 y11 y12 y13
  have HXW':=Lib.hid HXW
  clear HXW
  go_simp
  exact hK
 simp only [Act.put,List.setIfInBounds_toArray,List.set_cons_succ,List.set_cons_zero]
 refine tailM_step (ι:=Unit) (fun _=>.bool true) (fun _ W=>Below w1.heap.size w1 W) rfl (fun _=>StableW.below _ _ (Nat.le_refl _)) (fun _ _ h=>h) (fun W hS K hK=>?_) (fun _=>?_)
 ·go_simp
  refine (HV.out W hS).mono ?_
  rintro e w2 ⟨rfl,hb2⟩
  exact hK () _ (below_step hS (Nat.le_refl _) hb2)
 simp only [Act.put,List.setIfInBounds_toArray,List.set_cons_succ,List.set_cons_zero]
 refine tailM_pure (.bool false) rfl (StableW.below _ _ (Nat.le_refl _)) (fun _ h=>h) (fun W hS K hK=>?_) ?_
 ·have HXW:=row_later hS H1.out
  have yz:=lt_of_block HXW
  have y0:=cell_of_row W _ 0 _ _ _ HXW
  have y1:=cell_of_row W _ 1 _ _ _ HXW
  have y2:=cell_of_row W _ 2 _ _ _ HXW
  have y3:=cell_of_row W _ 3 _ _ _ HXW
  have y4:=cell_of_row W _ 4 _ _ _ HXW
  have y5:=cell_of_row W _ 5 _ _ _ HXW
  have y6:=cell_of_row W _ 6 _ _ _ HXW
  have y7:=cell_of_row W _ 7 _ _ _ HXW
  have y8:=cell_of_row W _ 8 _ _ _ HXW
  have y9:=cell_of_row W _ 9 _ _ _ HXW
  have y10:=cell_of_row W _ 10 _ _ _ HXW
  have y11:=cell_of_row W _ 11 _ _ _ HXW
  have y12:=cell_of_row W _ 12 _ _ _ HXW
  have y13:=cell_of_row W _ 13 _ _ _ HXW
  simp only [List.getElem?_toArray,List.getElem?_cons_zero,List.getElem?_cons_succ] at y0 y1 y2 y3 y4 y5 y6 y7 y8 y9 y10 y11 y12 y13
  have HXW':=Lib.hid HXW
  clear HXW
  go_simp
  exact hK
 simp only [Act.put,List.setIfInBounds_toArray,List.set_cons_succ,List.set_cons_zero]
 refine tailM_pure (.bool false) rfl (StableW.below _ _ (Nat.le_refl _)) (fun _ h=>h) (fun W hS K hK=>?_) ?_
 ·have HXW:=row_later hS H1.out
  have yz:=lt_of_block HXW
  have y0:=cell_of_row W _ 0 _ _ _ HXW
  have y1:=cell_of_row W _ 1 _ _ _ HXW
  have y2:=cell_of_row W _ 2 _ _ _ HXW
  have y3:=cell_of_row W _ 3 _ _ _ HXW
  have y4:=cell_of_row W _ 4 _ _ _ HXW
  have y5:=cell_of_row W _ 5 _ _ _ HXW
  have y6:=cell_of_row W _ 6 _ _ _ HXW
  have y7:=cell_of_row W _ 7 _ _ _ HXW
  have y8:=cell_of_row W _ 8 _ _ _ HXW
  have y9:=cell_of_row W _ 9 _ _ _ HXW
  have y10:=cell_of_row W _ 10 _ _ _ HXW
  have y11:=cell_of_row W _ 11 _ _ _ HXW
  have y12:=cell_of_row W _ 12 _ _ _ HXW
  have y13:=cell_of_row W _ 13 _ _ _ HXW
  simp only [List.getElem?_toArray,List.getElem?_cons_zero,List.getElem?_cons_succ] at y0 y1 y2 y3 y4 y5 y6 y7 y8 y9 y10 y11 y12 y13
  have HXW':=Lib.hid HXW
  clear HXW
  go_simp
  exact hK
 simp only [Act.put,List.setIfInBounds_toArray,List.set_cons_succ,List.set_cons_zero]
 refine tailM_nil fun w3 hb3=>?_
 have B3:=below_step B1 (Nat.le_refl _) hb3
 have H3:=Lib.hid (row_later hb3 H1.out)
 clear hb3 d0 d6 HW HV H1 B1 hR
 have xz:=lt_of_block H3.out
 have x0:=cell_of_row w3 _ 0 _ _ _ H3.out
 have x1:=cell_of_row w3 _ 1 _ _ _ H3.out
 have x2:=cell_of_row w3 _ 2 _ _ _ H3.out
 have x3:=cell_of_row w3 _ 3 _ _ _ H3.out
 have x4:=cell_of_row w3 _ 4 _ _ _ H3.out
 have x5:=cell_of_row w3 _ 5 _ _ _ H3.out
 have x6:=cell_of_row w3 _ 6 _ _ _ H3.out
 have x7:=cell_of_row w3 _ 7 _ _ _ H3.out
 have x8:=cell_of_row w3 _ 8 _ _ _ H3.out
 have x9:=cell_of_row w3 _ 9 _ _ _ H3.out
 have x10:=cell_of_row w3 _ 10 _ _ _ H3.out
 have x11:=cell_of_row w3 _ 11 _ _ _ H3.out
 have x12:=cell_of_row w3 _ 12 _ _ _ H3.out
 have x13:=cell_of_row w3 _ 13 _ _ _ H3.out
 simp only [List.getElem?_toArray,List.getElem?_cons_zero,List.getElem?_cons_succ] at x0 x1 x2 x3 x4 x5 x6 x7 x8 x9 x10 x11 x12 x13
 go_wp2
 all_goals
  go_ret
  refine ⟨ret_bool ?_,(B3.alloc (by have:=B3.size;simp;omega) _)⟩
  rw [Bool.eq_iff_iff]
  simp only [beq_iff_eq,decide_eq_true_eq]
  constructor
  ·intro hh
   first | (exact absurd hh (by decide)) | exact ⟨by assumption,by omega,by omega,by omega,by assumption,by assumption,by omega⟩
  ·rintro ⟨e1,e2,e3,e4,e5,e6,e7⟩
   first | rfl | omega | contradiction
def CX (w3:World) (cs:Array Value) (W:World):Prop:=Below w3.heap.size w3 W∧W.heap[w3.heap.size]?=some (.cells cs 28 (0,0))
theorem CX.stable (w3:World) (cs:Array Value):StableW (CX w3 cs):=(StableW.below _ _ (Nat.le_refl _)).and (StableW.row _ _)
theorem calls_same {P:Program} {f:FuncId} {args:Array Value} {w:World} {p:BelowBy w} {v:Value}
  (h:Calls P f args p.at' fun e w'=>e=.returned v∧w'=p.at'):Calls P f args p.at' fun e w''=>e=.returned v∧∃q:BelowBy w,w''=q.at' :=
 h.mono fun _ _w' ⟨he,hw⟩=>⟨he,p,hw⟩
end Go.Proofs.YtdfenhjibnfdeaaGreatDoor

namespace Go.Proofs.YtdfenhjibnfdeaaGreatDoor
open Go.ChangeShapes Go.WideShapes Go.ChangeAt Go.RowKit Go.Shelf Go.Joins
open Go.ChangeMaps (open_string shut_string)
section
variable {H:Type} {enc:TypeId × Value→H} {W:World}
set_option maxRecDepth 100000 in
theorem open_objs {n:Nat} {c:Value} {y:DataW H × List MemPlace} (h:TrodW enc W n 60 [c] y) (hl:Light 60 y.1):∃l:List ObjD,ObjsIs W c l:=by
 rcases Go.Deep.open_slice Tryz.underlying60 h with ⟨hcs,-⟩ | ⟨a,len,cap,m,k,D,Pl,hcs,-,hle,hm,hmm,hx,hel⟩
 ·simp at hcs
  subst hcs
  exact ⟨[],none,0,rfl,by simp,fun h=>by simp at h⟩
 ·simp at hcs
  subst hcs
  have hlm:len≤m:=by rw [hmm];split<;>omega
  have hx1:y.1=.slice ((List.range len).map D) ((List.range (m - len)).map fun j=>D (len+j)):=by rw [hx]
  rw [hx1] at hl
  have each:∀i,i<len→∃o:ObjD,∃vr vt:Value,(∀j u,([.string o.id,.int .i64 o.kind,.int .i64 o.x,.int .i64 o.y,vr,vt]:List Value)[j]?=some u→W.cell? (a.add (i * 6+j))=some u)∧StrRow W vr o.refs∧TagRow W vt o.tags∧o.id.size≤140737488355328:=by
   intro i hi
   obtain ⟨cs',h1,h2⟩:=hel i (by omega)
   obtain ⟨o,vr,vt,rfl,hr,ht,hz⟩:=open_obj h2 (light_elem Tryz.underlying60 hl (List.mem_map.2 ⟨i,List.mem_range.2 hi,rfl⟩))
   rw [cellsObj] at h1
   obtain ⟨-,-,hc⟩:=World.cells?_some h1
   refine ⟨o,vr,vt,fun j u hu=>?_,hr,ht,hz⟩
   have hj:j<6:=(List.getElem?_eq_some_iff.1 hu).1
   have:=hc j hj
   rw [Go.Deep.add_add] at this
   rw [this,hu]
  obtain ⟨f,hf⟩:=Go.Deep.choose_lt (α:=ObjD) each
  have hlen:=light_len Tryz.underlying60 (of_decide_eq_true (by kernel_rfl)) hl
  refine ⟨(List.range len).map f,some a,cap,by simp,by simpa using hlen,fun h0=>?_⟩
  obtain ⟨vr0,vt0,hp,-⟩:=hf 0 (by simpa using h0)
  have hp0:=hp 0 _ rfl
  rw [show a.add (0 * 6+0)=a by unfold Addr.add;simp] at hp0
  refine ⟨a.block,a.off,by rw [←addr_plain hp0],fun i o hi=>?_⟩
  have hil:i<len:=by have:=(List.getElem?_eq_some_iff.1 hi).1;simpa using this
  have hfs:f i=o:=by simpa [hil] using hi
  obtain ⟨vr,vt,hc,hr,ht,hz⟩:=hf i hil
  rw [hfs] at hc hr ht hz
  have hcc:∀j u,([.string o.id,.int .i64 o.kind,.int .i64 o.x,.int .i64 o.y,vr,vt]:List Value)[j]?=some u→W.cell? ⟨a.block,a.off+(i * 6+j),none⟩=some u:=fun j u hu=>by
   have:=hc j u hu
   rwa [addr_plain hp0,Go.WideShapes.add_plain] at this
  exact ⟨vr,vt,hcc 0 _ rfl,hcc 1 _ rfl,hcc 2 _ rfl,hcc 3 _ rfl,hcc 4 _ rfl,hcc 5 _ rfl,hr,ht,hz⟩
end
theorem cellsMap:Tryz.prog.cellsOf 62=1:=by kernel_rfl
theorem cellsObjs:Tryz.prog.cellsOf 60=1:=by kernel_rfl
theorem array1 {α:Type} {cs:Array α} (h:cs.size=1):∃c,cs=#[c]:=by
 obtain ⟨l⟩:=cs
 match l,h with
 |[c],_=>exact ⟨c,rfl⟩
set_option maxRecDepth 100000 in
theorem open_map {H:Type} {enc:TypeId × Value→H} {r:Reach} {b0:Nat} {W:World} {v:Value} {d:DataW H} {p:List MemPlace}
  (hv:Value.okWide Tryz.prog W r b0 62 v) (h:DataW.Trod enc Tryz.prog W 0 (fun _=>true) true 62 v d p) (hl:Light 62 d) :
  ∃(c:Value) (l:List ObjD),v=.agg #[c]∧ObjsIs W c l:=by
 obtain ⟨cs,rfl,hsz⟩:=okWide_struct Tryz.underlying62 hv
 obtain ⟨c,rfl⟩:=array1 (hsz.trans cellsMap)
 obtain ⟨fuel,hf⟩:=h
 obtain ⟨xs,m,_,hy,hlc,hlen,hf'⟩:=DataW.trod_struct Tryz.underlying62 hf
 match xs,hlen with
 |[y0],_ =>
  have g0:=hf' 0 _ rfl
  simp [cellsObjs,Value.cells] at g0
  simp only [Prod.mk.injEq] at hy
  have hl':Light 62 (.agg [y0.1]):=by rw [hy.1] at hl;simpa using hl
  obtain ⟨l,hl2⟩:=open_objs g0 (light_part Tryz.underlying62 hl' (j:=0) rfl rfl)
  exact ⟨c,l,rfl,hl2⟩
theorem cellsQuery:Tryz.prog.cellsOf 28=14:=by kernel_rfl
set_option maxRecDepth 100000 in
theorem open_query {H:Type} {enc:TypeId × Value→H} {W:World} {n:Nat} {cs:List Value} {y:DataW H × List MemPlace} (h:TrodW enc W n 28 cs y) (hl:Light 28 y.1) :
  ∃(q:QryD) (a:Option Addr) (cap:Nat),cs=(qryC q a cap).toList∧CondIs W q.wher a∧q.id.size≤140737488355328∧q.key.size≤140737488355328∧q.prof.size≤140737488355328:=by
 obtain ⟨xs,m,_,hy,hlc,hlen,hf⟩:=DataW.trod_struct Tryz.underlying28 h
 rw [cellsQuery] at hlc
 match cs,hlc with
 |[c0,c1,c2,c3,c4,c5,c6,c7,c8,c9,c10,c11,c12,c13],_ =>
  match xs,hlen with
  |[y0,y1,y2,y3,y4,y5,y6,y7,y8],_ =>
   have g0:=hf 0 _ rfl
   have g1:=hf 1 _ rfl
   have g2:=hf 2 _ rfl
   have g3:=hf 3 _ rfl
   have g4:=hf 4 _ rfl
   have g5:=hf 5 _ rfl
   have g6:=hf 6 _ rfl
   have g7:=hf 7 _ rfl
   have g8:=hf 8 _ rfl
   simp [cellsInt,cellsStr,cellsCond,cellsPoint] at g0 g1 g2 g3 g4 g5 g6 g7 g8
   have hl':Light 28 (.agg [y0.1,y1.1,y2.1,y3.1,y4.1,y5.1,y6.1,y7.1,y8.1]):=by rw [hy] at hl;simpa using hl
   obtain ⟨a0,a1,m',-,-,k0,k1⟩:=trod_struct2 Tryz.underlying26 g5
   simp [cellsInt] at k0 k1
   obtain ⟨n0,e0,-,-⟩:=DataW.trod_int Tryz.underlying3 g0
   obtain ⟨n1,e1,-,-⟩:=DataW.trod_int Tryz.underlying3 g1
   obtain ⟨c,a,cap,ec,hc⟩:=open_cond (SizeOf.sizeOf y2.1+1) (Nat.lt_succ_self _) g2 (light_part Tryz.underlying28 hl' (j:=2) rfl rfl)
   obtain ⟨s3,e3,z3⟩:=open_str g3 (light_part Tryz.underlying28 hl' (j:=3) rfl rfl)
   obtain ⟨n4,e4,-,-⟩:=DataW.trod_int Tryz.underlying3 g4
   obtain ⟨n5,e5,-,-⟩:=DataW.trod_int Tryz.underlying3 k0
   obtain ⟨n6,e6,-,-⟩:=DataW.trod_int Tryz.underlying3 k1
   obtain ⟨s7,e7,z7⟩:=open_str g6 (light_part Tryz.underlying28 hl' (j:=6) rfl rfl)
   obtain ⟨s8,e8,z8⟩:=open_str g7 (light_part Tryz.underlying28 hl' (j:=7) rfl rfl)
   obtain ⟨n9,e9,-,-⟩:=DataW.trod_int Tryz.underlying3 g8
   simp at e0 e1 e4 e5 e6 e9
   simp [condL] at ec
   obtain ⟨x2,x3,x4,x5,x6⟩:=ec
   subst e0 e1 e3 e4 e5 e6 e7 e8 e9 x2 x3 x4 x5 x6
   exact ⟨⟨n0,n1,c,s3,n4,n5,n6,s7,s8,n9⟩,a,cap,rfl,hc,z3,z7,z8⟩
set_option maxRecDepth 100000 in
theorem open_queryA {H:Type} {enc:TypeId × Value→H} {r:Reach} {b0:Nat} {W:World} {v:Value} {d:DataW H} {p:List MemPlace}
  (hv:Value.okWide Tryz.prog W r b0 28 v) (h:DataW.Trod enc Tryz.prog W 0 (fun _=>true) true 28 v d p) (hl:Light 28 d) :
  ∃(q:QryD) (a:Option Addr) (cap:Nat),v=.agg (qryC q a cap)∧CondIs W q.wher a∧q.id.size≤140737488355328∧q.key.size≤140737488355328∧q.prof.size≤140737488355328:=by
 obtain ⟨cs,rfl,hsz⟩:=okWide_struct Tryz.underlying28 hv
 obtain ⟨fuel,hf⟩:=h
 obtain ⟨q,a,cap,hcs,hr⟩:=open_query (y:=(d,p)) hf hl
 refine ⟨q,a,cap,?_,hr⟩
 obtain ⟨l⟩:=cs
 simp [Value.cells] at hcs
 rw [hcs]<;>rfl
set_option maxRecDepth 100000 in
theorem open_objsA {H:Type} {enc:TypeId × Value→H} {r:Reach} {b0:Nat} {W:World} {v:Value} {d:DataW H} {p:List MemPlace}
  (hv:Value.okWide Tryz.prog W r b0 60 v) (h:DataW.Trod enc Tryz.prog W 0 (fun _=>true) true 60 v d p) (hl:Light 60 d):∃l:List ObjD,ObjsIs W v l:=by
 obtain ⟨a0,len,cap,rfl⟩:=okWide_slice Tryz.underlying60 hv
 obtain ⟨fuel,hf⟩:=h
 exact open_objs (y:=(d,p)) (by simpa [Value.cells] using hf) hl
end Go.Proofs.YtdfenhjibnfdeaaGreatDoor
