/-        -/
import Derived.Test.YtdfenhjibnfdeaaGreatDoorQzAe
import Derived.Maps.OwnSet
import Derived.Maps.OwnOps
import Derived.Maps.Views
import Derived.StringKeys
import Derived.Deep.Quiet
import Derived.Deep.QuietTactic
namespace Go.Proofs.YtdfenhjibnfdeaaGreatDoor
open Go.RowKit
def wordK (k:Int):ByteArray :=
 if k=1 then ⟨#[110,111,100,101]⟩ else if k=2 then ⟨#[119,97,121]⟩ else if k=3 then ⟨#[97,114,101,97]⟩ else if k=4 then ⟨#[114,111,117,116,101]⟩ else if k=5 then ⟨#[116,117,114,110]⟩ else ⟨#[]⟩
def leastK (k:Int):Int:=if k=1 then 0 else if k=2 then 2 else if k=3 then 3 else if k=4 then 1 else 3
def onB (x y:Int):Bool:=decide (0≤x∧x<1048576∧0≤y∧y<1048576)
set_option maxHeartbeats 1000000 in
theorem word_any (k:Int) (w:World) :
  Calls Tryz.prog 110 #[.int .i64 k] w fun e w'=>e=.returned (.string (wordK k))∧Below w.heap.size w w':=by
 by_cases h0:k<0
 ·have e:wordK k=⟨#[]⟩:=by simp only [wordK];rw [if_neg (by omega),if_neg (by omega),if_neg (by omega),if_neg (by omega),if_neg (by omega)]
  rw [e]
  go_enter Tryz.func110,Tryz.ntmps110
  go_wp2
  go_ret
  refine ⟨rfl,?_⟩
  repeat' (first | exact Below.refl _ _ | refine Below.drew ?_ | refine Below.drewN' ?_ | refine Below.setCell ?_ (by first | omega | (simp;done) | exact Below.size (by assumption) | (simp;omega)) _ | refine Below.alloc ?_ (by first | omega | (simp;done) | exact Below.size (by assumption) | (simp;omega)) _ | refine Below.trans ?_ (Below.mono (by assumption) ?_) | (first | omega | (simp;done) | exact Below.size (by assumption) | (simp;omega)))
 by_cases h5:5<k
 ·have e:wordK k=⟨#[]⟩:=by simp only [wordK];rw [if_neg (by omega),if_neg (by omega),if_neg (by omega),if_neg (by omega),if_neg (by omega)]
  rw [e]
  go_enter Tryz.func110,Tryz.ntmps110
  go_wp2
  go_ret
  refine ⟨rfl,?_⟩
  repeat' (first | exact Below.refl _ _ | refine Below.drew ?_ | refine Below.drewN' ?_ | refine Below.setCell ?_ (by first | omega | (simp;done) | exact Below.size (by assumption) | (simp;omega)) _ | refine Below.alloc ?_ (by first | omega | (simp;done) | exact Below.size (by assumption) | (simp;omega)) _ | refine Below.trans ?_ (Below.mono (by assumption) ?_) | (first | omega | (simp;done) | exact Below.size (by assumption) | (simp;omega)))
 obtain rfl | rfl | rfl | rfl | rfl | rfl:k=0∨k=1∨k=2∨k=3∨k=4∨k=5:=by omega
 all_goals
  go_enter Tryz.func110,Tryz.ntmps110
  go_wp2
  go_ret
  refine ⟨rfl,?_⟩
  repeat' (first | exact Below.refl _ _ | refine Below.drew ?_ | refine Below.drewN' ?_ | refine Below.setCell ?_ (by first | omega | (simp;done) | exact Below.size (by assumption) | (simp;omega)) _ | refine Below.alloc ?_ (by first | omega | (simp;done) | exact Below.size (by assumption) | (simp;omega)) _ | refine Below.trans ?_ (Below.mono (by assumption) ?_) | (first | omega | (simp;done) | exact Below.size (by assumption) | (simp;omega)))
set_option maxHeartbeats 1000000 in
theorem least_any (k:Int) (h0:1≤k) (h5:k≤5) (w:World) :
  Calls Tryz.prog 112 #[.int .i64 k] w fun e w'=>e=.returned (.int .i64 (leastK k))∧w=w':=by
 have i1:∀w,(Instr.index 155 (.agg #[.int .i64 0,.int .i64 0,.int .i64 2,.int .i64 3,.int .i64 1,.int .i64 3]) (.int .i64 1)).run Tryz.prog w=.ok (.int .i64 0) w:=fun _=>by kernel_rfl
 have i2:∀w,(Instr.index 155 (.agg #[.int .i64 0,.int .i64 0,.int .i64 2,.int .i64 3,.int .i64 1,.int .i64 3]) (.int .i64 2)).run Tryz.prog w=.ok (.int .i64 2) w:=fun _=>by kernel_rfl
 have i3:∀w,(Instr.index 155 (.agg #[.int .i64 0,.int .i64 0,.int .i64 2,.int .i64 3,.int .i64 1,.int .i64 3]) (.int .i64 3)).run Tryz.prog w=.ok (.int .i64 3) w:=fun _=>by kernel_rfl
 have i4:∀w,(Instr.index 155 (.agg #[.int .i64 0,.int .i64 0,.int .i64 2,.int .i64 3,.int .i64 1,.int .i64 3]) (.int .i64 4)).run Tryz.prog w=.ok (.int .i64 1) w:=fun _=>by kernel_rfl
 have i5:∀w,(Instr.index 155 (.agg #[.int .i64 0,.int .i64 0,.int .i64 2,.int .i64 3,.int .i64 1,.int .i64 3]) (.int .i64 5)).run Tryz.prog w=.ok (.int .i64 3) w:=fun _=>by kernel_rfl
 obtain rfl | rfl | rfl | rfl | rfl:k=1∨k=2∨k=3∨k=4∨k=5:=by omega
 all_goals
  go_enter Tryz.func112,Tryz.ntmps112
  go_wp2
  go_ret
  exact ⟨rfl,rfl⟩
set_option maxHeartbeats 1000000 in
theorem on_any (x y:Int) (w:World) :
  Calls Tryz.prog 115 #[.agg #[.int .i64 x,.int .i64 y]] w fun e w'=>e=.returned (.bool (onB x y))∧Below w.heap.size w w':=by
 go_enter Tryz.func115,Tryz.ntmps115
 by_cases h1:0≤x
 case neg =>
  go_wp2
  go_ret
  refine ⟨ret_bool (by simp only [onB];symm;rw [decide_eq_false_iff_not];omega),?_⟩
  repeat' (first | exact Below.refl _ _ | refine Below.drew ?_ | refine Below.drewN' ?_ | refine Below.setCell ?_ (by first | omega | (simp;done) | exact Below.size (by assumption) | (simp;omega)) _ | refine Below.alloc ?_ (by first | omega | (simp;done) | exact Below.size (by assumption) | (simp;omega)) _ | refine Below.trans ?_ (Below.mono (by assumption) ?_) | (first | omega | (simp;done) | exact Below.size (by assumption) | (simp;omega)))
 by_cases h2:x<1048576
 case neg =>
  go_wp2
  go_ret
  refine ⟨ret_bool (by simp only [onB];symm;rw [decide_eq_false_iff_not];omega),?_⟩
  repeat' (first | exact Below.refl _ _ | refine Below.drew ?_ | refine Below.drewN' ?_ | refine Below.setCell ?_ (by first | omega | (simp;done) | exact Below.size (by assumption) | (simp;omega)) _ | refine Below.alloc ?_ (by first | omega | (simp;done) | exact Below.size (by assumption) | (simp;omega)) _ | refine Below.trans ?_ (Below.mono (by assumption) ?_) | (first | omega | (simp;done) | exact Below.size (by assumption) | (simp;omega)))
 by_cases h3:0≤y
 case neg =>
  go_wp2
  go_ret
  refine ⟨ret_bool (by simp only [onB];symm;rw [decide_eq_false_iff_not];omega),?_⟩
  repeat' (first | exact Below.refl _ _ | refine Below.drew ?_ | refine Below.drewN' ?_ | refine Below.setCell ?_ (by first | omega | (simp;done) | exact Below.size (by assumption) | (simp;omega)) _ | refine Below.alloc ?_ (by first | omega | (simp;done) | exact Below.size (by assumption) | (simp;omega)) _ | refine Below.trans ?_ (Below.mono (by assumption) ?_) | (first | omega | (simp;done) | exact Below.size (by assumption) | (simp;omega)))
 go_wp2
 go_ret
 refine ⟨ret_bool (by simp only [onB];rw [decide_eq_decide];omega),?_⟩
 repeat' (first | exact Below.refl _ _ | refine Below.drew ?_ | refine Below.drewN' ?_ | refine Below.setCell ?_ (by first | omega | (simp;done) | exact Below.size (by assumption) | (simp;omega)) _ | refine Below.alloc ?_ (by first | omega | (simp;done) | exact Below.size (by assumption) | (simp;omega)) _ | refine Below.trans ?_ (Below.mono (by assumption) ?_) | (first | omega | (simp;done) | exact Below.size (by assumption) | (simp;omega)))
set_option maxHeartbeats 1000000 in
theorem ron_any (x y:Int) (w:World) :
  Calls Tryz.prog 49 #[.agg #[.int .i64 x,.int .i64 y]] w fun e w'=>e=.returned (.bool (onB x y))∧Below w.heap.size w w':=by
 go_enter Tryz.func49,Tryz.ntmps49
 by_cases h1:0≤x
 case neg =>
  go_wp2
  go_ret
  refine ⟨ret_bool (by simp only [onB];symm;rw [decide_eq_false_iff_not];omega),?_⟩
  repeat' (first | exact Below.refl _ _ | refine Below.drew ?_ | refine Below.drewN' ?_ | refine Below.setCell ?_ (by first | omega | (simp;done) | exact Below.size (by assumption) | (simp;omega)) _ | refine Below.alloc ?_ (by first | omega | (simp;done) | exact Below.size (by assumption) | (simp;omega)) _ | refine Below.trans ?_ (Below.mono (by assumption) ?_) | (first | omega | (simp;done) | exact Below.size (by assumption) | (simp;omega)))
 by_cases h2:x<1048576
 case neg =>
  go_wp2
  go_ret
  refine ⟨ret_bool (by simp only [onB];symm;rw [decide_eq_false_iff_not];omega),?_⟩
  repeat' (first | exact Below.refl _ _ | refine Below.drew ?_ | refine Below.drewN' ?_ | refine Below.setCell ?_ (by first | omega | (simp;done) | exact Below.size (by assumption) | (simp;omega)) _ | refine Below.alloc ?_ (by first | omega | (simp;done) | exact Below.size (by assumption) | (simp;omega)) _ | refine Below.trans ?_ (Below.mono (by assumption) ?_) | (first | omega | (simp;done) | exact Below.size (by assumption) | (simp;omega)))
 by_cases h3:0≤y
 case neg =>
  go_wp2
  go_ret
  refine ⟨ret_bool (by simp only [onB];symm;rw [decide_eq_false_iff_not];omega),?_⟩
  repeat' (first | exact Below.refl _ _ | refine Below.drew ?_ | refine Below.drewN' ?_ | refine Below.setCell ?_ (by first | omega | (simp;done) | exact Below.size (by assumption) | (simp;omega)) _ | refine Below.alloc ?_ (by first | omega | (simp;done) | exact Below.size (by assumption) | (simp;omega)) _ | refine Below.trans ?_ (Below.mono (by assumption) ?_) | (first | omega | (simp;done) | exact Below.size (by assumption) | (simp;omega)))
 go_wp2
 go_ret
 refine ⟨ret_bool (by simp only [onB];rw [decide_eq_decide];omega),?_⟩
 repeat' (first | exact Below.refl _ _ | refine Below.drew ?_ | refine Below.drewN' ?_ | refine Below.setCell ?_ (by first | omega | (simp;done) | exact Below.size (by assumption) | (simp;omega)) _ | refine Below.alloc ?_ (by first | omega | (simp;done) | exact Below.size (by assumption) | (simp;omega)) _ | refine Below.trans ?_ (Below.mono (by assumption) ?_) | (first | omega | (simp;done) | exact Below.size (by assumption) | (simp;omega)))
set_option maxHeartbeats 1000000 in
theorem rword2_any (k:Int) (w:World) :
  Calls Tryz.prog 51 #[.int .i64 k] w fun e w'=>e=.returned (.string (wordK k))∧Below w.heap.size w w':=by
 by_cases h0:k<1
 ·have e:wordK k=⟨#[]⟩:=by simp only [wordK];rw [if_neg (by omega),if_neg (by omega),if_neg (by omega),if_neg (by omega),if_neg (by omega)]
  rw [e]
  go_enter Tryz.func51,Tryz.ntmps51
  go_wp2
  go_ret
  refine ⟨rfl,?_⟩
  repeat' (first | exact Below.refl _ _ | refine Below.drew ?_ | refine Below.drewN' ?_ | refine Below.setCell ?_ (by first | omega | (simp;done) | exact Below.size (by assumption) | (simp;omega)) _ | refine Below.alloc ?_ (by first | omega | (simp;done) | exact Below.size (by assumption) | (simp;omega)) _ | refine Below.trans ?_ (Below.mono (by assumption) ?_) | (first | omega | (simp;done) | exact Below.size (by assumption) | (simp;omega)))
 by_cases h5:5<k
 ·have e:wordK k=⟨#[]⟩:=by simp only [wordK];rw [if_neg (by omega),if_neg (by omega),if_neg (by omega),if_neg (by omega),if_neg (by omega)]
  rw [e]
  go_enter Tryz.func51,Tryz.ntmps51
  go_wp2
  go_ret
  refine ⟨rfl,?_⟩
  repeat' (first | exact Below.refl _ _ | refine Below.drew ?_ | refine Below.drewN' ?_ | refine Below.setCell ?_ (by first | omega | (simp;done) | exact Below.size (by assumption) | (simp;omega)) _ | refine Below.alloc ?_ (by first | omega | (simp;done) | exact Below.size (by assumption) | (simp;omega)) _ | refine Below.trans ?_ (Below.mono (by assumption) ?_) | (first | omega | (simp;done) | exact Below.size (by assumption) | (simp;omega)))
 obtain rfl | rfl | rfl | rfl | rfl:k=1∨k=2∨k=3∨k=4∨k=5:=by omega
 all_goals
  go_enter Tryz.func51,Tryz.ntmps51
  go_wp2
  go_ret
  refine ⟨rfl,?_⟩
  repeat' (first | exact Below.refl _ _ | refine Below.drew ?_ | refine Below.drewN' ?_ | refine Below.setCell ?_ (by first | omega | (simp;done) | exact Below.size (by assumption) | (simp;omega)) _ | refine Below.alloc ?_ (by first | omega | (simp;done) | exact Below.size (by assumption) | (simp;omega)) _ | refine Below.trans ?_ (Below.mono (by assumption) ?_) | (first | omega | (simp;done) | exact Below.size (by assumption) | (simp;omega)))
end Go.Proofs.YtdfenhjibnfdeaaGreatDoor

namespace Go.Proofs.YtdfenhjibnfdeaaGreatDoor
open Go.RowKit Go.Maps Go.ChangeMaps
theorem keyS:Keyed Tryz.prog 9:=string_keyed Tryz.underlying9
theorem zeroB (w:World):(zeroValue 4).run Tryz.prog w=.ok (.bool false) w:=by kernel_rfl
def SetIs (w:World) (b:Nat) (pre:List ByteArray):Prop :=
 ∃(n:Nat) (D:DataW Unit),w.ownsMap Tryz.prog 9 (plainElem Tryz.prog 4) b n D∧n≤pre.length ∧
  ∀s:ByteArray,D.atKey (.string s.data.toList) (.lit (.bool false))=.lit (.bool (pre.any fun p=>decide (p=s)))
theorem SetIs.made (w:World):SetIs (w.alloc (.map #[] 0)) w.heap.size [] :=
 ⟨0,_,World.ownsMap_made _ _ _ _,Nat.le_refl _,fun s=>by simp [DataW.atKey]⟩
theorem SetIs.later {w w':World} {b:Nat} {pre:List ByteArray} (h:SetIs w b pre) (hb:w'.heap[b]?=w.heap[b]?):SetIs w' b pre:=by
 obtain ⟨n,D,⟨es,clock,h1,h2⟩,h3⟩:=h
 exact ⟨n,D,⟨es,clock,hb.trans h1,h2⟩,h3⟩
theorem SetIs.lt {w:World} {b:Nat} {pre:List ByteArray} (h:SetIs w b pre):b<w.heap.size:=by
 obtain ⟨n,D,h1,-⟩:=h
 exact h1.lt
theorem plainBool_inv {P:Program} {e:TypeId} (he:P.underlying e=some .bool) {v:Value} {b:Bool} {ps:List MemPlace} (h:plainElem (H:=Unit) P e v=some (.lit (.bool b),ps)):v=.bool b:=by
 unfold plainElem at h
 rw [he] at h
 cases v<;>simp at h
 rw [h.1]
theorem str_key {a b:ByteArray} (h:Lit.string a.data.toList=Lit.string b.data.toList):a=b:=by
 injection h with h
 exact ByteArray.ext (Array.toList_inj.mp h)
theorem SetIs.look {w:World} {b:Nat} {pre:List ByteArray} (h:SetIs w b pre) (s:ByteArray) (hs:s.size≤maxLen) :
  (Instr.lookup 122 (.map (some b)) (.string s) false).run Tryz.prog w=.ok (.bool (pre.any fun p=>decide (p=s))) w:=by
 obtain ⟨n,D,h1,h2,h3⟩:=h
 obtain ⟨v,ps,hrun,hv⟩:=h1.lookup keyS Tryz.underlying122 (zeroB w) (plainElem_bool Tryz.underlying4 false) (WideMaps.keyOf_string_mk Tryz.underlying9 hs)
 rw [h3] at hv
 have hv':v=.bool (pre.any fun p=>decide (p=s)):=plainBool_inv Tryz.underlying4 hv
 rw [hrun,hv']
theorem SetIs.put {w:World} {b:Nat} {pre:List ByteArray} (h:SetIs w b pre) (s:ByteArray) (hs:s.size≤maxLen) (hn:pre.length<maxLen) :
  ∃w',(Instr.mapUpdate 122 (.map (some b)) (.string s) (.bool true)).run Tryz.prog w=.ok () w'∧SetIs w' b (pre++[s])∧w.grownBy w' (some b):=by
 obtain ⟨n,D,h1,h2,h3⟩:=h
 obtain ⟨w',hrun,h4,h5⟩:=h1.update keyS Tryz.underlying122 (by omega) (WideMaps.keyOf_string_mk Tryz.underlying9 hs) (plainElem_bool Tryz.underlying4 true)
 refine ⟨w',hrun,⟨n+1,_,h4,by simp;omega,fun t=>?_⟩,h5⟩
 by_cases e:t=s
 ·subst e
  rw [atKey_put_same h1.isMap (show WideAt.IsKeyLit (.string t.data.toList) from trivial)]
  simp
 ·rw [atKey_put_other (fun h=>e (str_key h)),h3]
  simp [Ne.symm e]
end Go.Proofs.YtdfenhjibnfdeaaGreatDoor

namespace Go.Proofs.YtdfenhjibnfdeaaGreatDoor
open Go.RowKit
def lastS (pre:List ByteArray):ByteArray:=pre.getLast?.getD ⟨#[]⟩
structure VSt (w:World) (Bo Bl Bs Bm:Nat) (kind:Int) (pre:List ByteArray):Prop where
 kindC:w.cell? ⟨Bo,1,none⟩=some (.int .i64 kind)
 lastC:w.heap[Bl]?=some (.cells #[.string (lastS pre)] 9 (0,0))
 seenC:w.heap[Bs]?=some (.cells #[.map (some Bm)] 122 (0,0))
 setC:SetIs w Bm pre
def okR (kind:Int) (pre:List ByteArray) (s:ByteArray):Bool :=
 nameB s && !(decide (kind=2) && decide (pre.getLast?=some s)) && !(decide (kind=3) && pre.any fun p=>decide (p=s))
theorem name_ne {s:ByteArray} (h:nameB s=true):s≠⟨#[]⟩:=by
 rintro rfl
 exact absurd h (by decide)
theorem okR_eq (kind:Int) (pre:List ByteArray) (s:ByteArray) :
  (!okR kind pre s)=(((decide (kind=2) && decide (s=lastS pre)) || (decide (kind=3) && pre.any fun p=>decide (p=s))) || !nameB s):=by
 unfold okR lastS
 cases hn:nameB s
 ·simp
 ·have hne:=name_ne hn
  have e:decide (pre.getLast?=some s)=decide (s=pre.getLast?.getD ⟨#[]⟩):=by
   rw [decide_eq_decide]
   cases pre.getLast? with
   |none=>simp [hne]
   |some t=>simp [eq_comm]
  rw [e]
  simp
theorem lastS_snoc (pre:List ByteArray) (s:ByteArray):lastS (pre++[s])=s:=by simp [lastS]
theorem Below.grow1 {B:Nat} {w w':World} {g:Nat} (hB:B≤w.heap.size) (hg:w.grownBy w' (some g)) (h:B≤g):Below B w w' :=
 (Below.refl B w).grown hg hB (fun j ej=>by cases ej;exact h)
theorem cell_same {w w':World} {b o:Nat} (h:w'.heap[b]?=w.heap[b]?):w'.cell? ⟨b,o,none⟩=w.cell? ⟨b,o,none⟩:=by
 simp only [World.cell?,h]
theorem VSt.later {w w':World} {Bo Bl Bs Bm:Nat} {kind:Int} {pre:List ByteArray} (h:VSt w Bo Bl Bs Bm kind pre) (hb:Below w.heap.size w w'):VSt w' Bo Bl Bs Bm kind pre :=
 ⟨cell_later hb h.kindC,row_later hb h.lastC,row_later hb h.seenC,h.setC.later (hb.block _ h.setC.lt)⟩
def KeptX (Bl Bm:Nat) (w w':World):Prop:=∀b,b<w.heap.size→b≠Bl→b≠Bm→w'.heap[b]?=w.heap[b]?
theorem KeptX.refl (Bl Bm:Nat) (w:World):KeptX Bl Bm w w:=fun _ _ _ _=>rfl
theorem KeptX.trans {Bl Bm:Nat} {a b c:World} (h:KeptX Bl Bm a b) (hs:a.heap.size≤b.heap.size) (k:KeptX Bl Bm b c):KeptX Bl Bm a c :=
 fun i hi h1 h2=>(k i (Nat.lt_of_lt_of_le hi hs) h1 h2).trans (h i hi h1 h2)
theorem KeptX.later {Bl Bm:Nat} {a b c:World} (h:KeptX Bl Bm a b) (hs:a.heap.size≤b.heap.size) (k:Below b.heap.size b c):KeptX Bl Bm a c :=
 h.trans hs fun i hi _ _=>k.block i hi
set_option maxRecDepth 100000 in
set_option maxHeartbeats 1000000 in
theorem wrong_any (s : ByteArray) (hs : s.size ≤ 140737488355328) (kind : Int) (pre : List ByteArray) (hn : pre.length ≤ 4000) (Bo Bl Bs Bm B : Nat) (w : World)
    (h : VSt w Bo Bl Bs Bm kind pre) (hl : B ≤ Bl) (hm : B ≤ Bm) (hBw : B ≤ w.heap.size) (n1 : Bo ≠ Bm) (n2 : Bl ≠ Bm) (n3 : Bs ≠ Bm) (n4 : Bo ≠ Bl) (n5 : Bs ≠ Bl) :
    Calls Tryz.prog 113 #[.string s, .pointer (some ⟨Bo, 0, none⟩), .pointer (some ⟨Bl, 0, none⟩), .pointer (some ⟨Bs, 0, none⟩)] w fun e w' => e = .returned (.bool (!okR kind pre s)) ∧ VSt w' Bo Bl Bs Bm kind (pre ++ [s]) ∧ Below B w w' ∧ KeptX Bl Bm w w' := by
  obtain ⟨k0, HL, HS, HM⟩ := h
  have hlook := HM.look s (by unfold maxLen; omega)
  obtain ⟨w1, hput, HM1, hg⟩ := HM.put s (by unfold maxLen; omega) (by unfold maxLen; omega)
  have HL1 : w1.heap[Bl]? = _ := (hg.block Bl (lt_of_block HL) (by simpa using n2)).trans HL
  have HS1 : w1.heap[Bs]? = _ := (hg.block Bs (lt_of_block HS) (by simpa using n3)).trans HS
  obtain ⟨lz, l0⟩ := rk1 HL
  have HL' := Lib.hid HL
  clear HL
  obtain ⟨mz, m0⟩ := rk1 HS
  have HS' := Lib.hid HS
  clear HS
  obtain ⟨qz, q0⟩ := rk1 HL1
  have qf0 := frozen_of_row w1 _ 0 _ _ HL1
  have HL1' := Lib.hid HL1
  clear HL1
  have V2 := Lib.hid (show VSt (w1.setCell ⟨Bl, 0, none⟩ (.string s)) Bo Bl Bs Bm kind (pre ++ [s]) from
    ⟨(cell_same ((Below.heap_setCell _ ⟨Bl, 0, none⟩ _ _ (by simpa using n4)).trans (hg.block Bo (lt_of_cell k0) (by simpa using n1)))).trans k0,
      by rw [lastS_snoc]; exact row_set (i := 0) HL1'.out, row_set_other HS1 (by simpa using n5), HM1.later (Below.heap_setCell _ _ _ _ (by simpa using n2.symm))⟩)
  have B2 : Below B w (w1.setCell ⟨Bl, 0, none⟩ (.string s)) := (Below.grow1 hBw hg hm).setCell (p := ⟨Bl, 0, none⟩) hl _
  have X2 := Lib.hid (show KeptX Bl Bm w (w1.setCell ⟨Bl, 0, none⟩ (.string s)) from fun b hb e1 e2 => (Below.heap_setCell _ ⟨Bl, 0, none⟩ _ _ (by simpa using e1)).trans (hg.block b hb (by simpa using e2)))
  have OK := Lib.hid (okR_eq kind pre s)
  generalize hI : (pre.any fun p => decide (p = s)) = I at *
  clear hI HM HM1 hg HS1 hn
  by_cases e2 : kind = 2
  · subst e2
    by_cases e1 : s = lastS pre
    · have q1 : (s.toList == (lastS pre).toList) = true := str_eq_true e1
      have OK2 := Lib.hid (show (!okR 2 pre s) = true by rw [OK.out]; simp [e1])
      clear e1 OK
      go_enter Tryz.func113, Tryz.ntmps113
      go_wp2_with (go_at_call 36; refine (name_any s hs _).mono ?_; rintro e w3 ⟨rfl, hb3⟩)
      go_ret
      first | exact ⟨ret_bool OK2.out.symm, V2.out, B2, X2.out⟩ | exact ⟨ret_bool OK2.out.symm, V2.out.later hb3, below_step B2 hBw hb3, X2.out.later B2.size hb3⟩
    · have q1 : (s.toList == (lastS pre).toList) = false := str_eq_false e1
      have OK2 := Lib.hid (show (!okR 2 pre s) = !nameB s by rw [OK.out]; simp [e1])
      clear e1 OK
      go_enter Tryz.func113, Tryz.ntmps113
      go_wp2_with (go_at_call 36; refine (name_any s hs _).mono ?_; rintro e w3 ⟨rfl, hb3⟩)
      go_ret
      first | exact ⟨ret_bool OK2.out.symm, V2.out, B2, X2.out⟩ | exact ⟨ret_bool OK2.out.symm, V2.out.later hb3, below_step B2 hBw hb3, X2.out.later B2.size hb3⟩
  · have f2 : (kind == 2) = false := by rw [beq_eq_false_iff_ne]; exact e2
    by_cases e3 : kind = 3
    · subst e3
      cases I
      · have OK2 := Lib.hid (show (!okR 3 pre s) = !nameB s by rw [OK.out]; simp)
        clear OK
        go_enter Tryz.func113, Tryz.ntmps113
        go_wp2_with (go_at_call 36; refine (name_any s hs _).mono ?_; rintro e w3 ⟨rfl, hb3⟩)
        go_ret
        first | exact ⟨ret_bool OK2.out.symm, V2.out, B2, X2.out⟩ | exact ⟨ret_bool OK2.out.symm, V2.out.later hb3, below_step B2 hBw hb3, X2.out.later B2.size hb3⟩
      · have OK2 := Lib.hid (show (!okR 3 pre s) = true by rw [OK.out]; simp)
        clear OK
        go_enter Tryz.func113, Tryz.ntmps113
        go_wp2_with (go_at_call 36; refine (name_any s hs _).mono ?_; rintro e w3 ⟨rfl, hb3⟩)
        go_ret
        first | exact ⟨ret_bool OK2.out.symm, V2.out, B2, X2.out⟩ | exact ⟨ret_bool OK2.out.symm, V2.out.later hb3, below_step B2 hBw hb3, X2.out.later B2.size hb3⟩
    · have f3 : (kind == 3) = false := by rw [beq_eq_false_iff_ne]; exact e3
      have OK2 := Lib.hid (show (!okR kind pre s) = !nameB s by rw [OK.out]; simp [e2, e3])
      clear OK
      go_enter Tryz.func113, Tryz.ntmps113
      go_wp2_with (go_at_call 36; refine (name_any s hs _).mono ?_; rintro e w3 ⟨rfl, hb3⟩)
      go_ret
      first | exact ⟨ret_bool OK2.out.symm, V2.out, B2, X2.out⟩ | exact ⟨ret_bool OK2.out.symm, V2.out.later hb3, below_step B2 hBw hb3, X2.out.later B2.size hb3⟩
end Go.Proofs.YtdfenhjibnfdeaaGreatDoor

namespace Go.Proofs.YtdfenhjibnfdeaaGreatDoor
open Go.RowKit
theorem refs_drop (kind:Int) (l:List ByteArray) (k:Nat) (s:ByteArray) (hs:l[k]?=some s) :
  refsFrom kind (l.take k) (l.drop k)=(okR kind (l.take k) s && refsFrom kind (l.take (k+1)) (l.drop (k+1))):=by
 obtain ⟨hk,rfl⟩:=List.getElem?_eq_some_iff.1 hs
 rw [List.drop_eq_getElem_cons hk,List.take_succ_eq_append_getElem hk];rfl
def IdxPost (r:Bool) (Bl Bm:Nat) (w0 w:World) (e:Ending) (w':World):Prop :=
 (∃n:Int,e=.returned (.int .i64 n)∧(0≤n↔r=false))∧Below w0.heap.size w0 w'∧KeptX Bl Bm w w'
set_option maxRecDepth 100000 in
set_option maxHeartbeats 1000000 in
theorem idx_any (v:Value) (l:List ByteArray) (kind:Int) (Bo Bl Bs Bm:Nat) (w0 w:World) (hl:l.length≤4000) (hv:StrRow w0 v l) (hb:Below w0.heap.size w0 w)
  (h:VSt w Bo Bl Bs Bm kind []) (m1:w0.heap.size≤Bl) (m2:w0.heap.size≤Bm) (n1:Bo≠Bm) (n2:Bl≠Bm) (n3:Bs≠Bm) (n4:Bo≠Bl) (n5:Bs≠Bl) :
  Calls Tryz.prog 63 #[v,.func (.func 113) #[] #[.pointer (some ⟨Bo,0,none⟩),.pointer (some ⟨Bl,0,none⟩),.pointer (some ⟨Bs,0,none⟩)]] w (IdxPost (refsFrom kind [] l) Bl Bm w0 w):=by
 obtain ⟨a,cap,rfl,hn,hsz,hc⟩:=hv
 generalize hN:l.length=N at *
 have HN:=Lib.hid hN
 have HZ:=Lib.hid hsz
 have HC:=Lib.hid hc
 have HV:=Lib.hid h
 clear hN hsz hc h
 go_enter Tryz.func63,Tryz.ntmps63
 go_wp2
 go_loopw [8] (fun i wr=>∃k:Nat,k≤N∧i=.int .i64 k∧refsFrom kind [] l=refsFrom kind (l.take k) (l.drop k)∧VSt wr Bo Bl Bs Bm kind (l.take k)∧Below w0.heap.size w0 wr∧w.heap.size≤wr.heap.size∧KeptX Bl Bm w wr) (fun i _=>N - (intOf i).toNat)
 case atStart=>exact ⟨0,by omega,rfl,rfl,HV.out,hb,Nat.le_refl _,KeptX.refl _ _ _⟩
 case round =>
  obtain ⟨k,hk,rfl,hT,hV,hbr,hsw,hx⟩:=hrel
  have HXX:=Lib.hid hx
  clear hx
  have HT:=Lib.hid hT
  have HVK:=Lib.hid hV
  clear hT hV
  by_cases hlt:k<N
  ·obtain ⟨s,hs⟩:∃s,l[k]?=some s:=⟨l[k]'(by rw [HN.out];exact hlt),List.getElem?_eq_getElem _⟩
   obtain ⟨b,off,ha,hcell⟩:=HC.out (by omega)
   subst ha
   have z1:=HZ.out s (List.mem_of_getElem? hs)
   have c0:=cell_later hbr (hcell k s hs)
   have bz:=lt_of_cell c0
   have HD:=Lib.hid (refs_drop kind l k s hs)
   have HK:=Lib.hid (show l.take (k+1)=l.take k++[s] by obtain ⟨hk,rfl⟩:=List.getElem?_eq_some_iff.1 hs;rw [List.take_succ_eq_append_getElem hk])
   have hlen:(l.take k).length≤4000:=by rw [List.length_take,HN.out];omega
   clear hcell hs
   go_wp2_with fail
   refine (wrong_any s z1 kind (l.take k) hlen Bo Bl Bs Bm w0.heap.size _ HVK.out m1 m2 hbr.size n1 n2 n3 n4 n5).mono ?_
   rintro e w2 ⟨rfl,hV2,hb2,hx2⟩
   have X2:=Lib.hid (HXX.out.trans hsw hx2)
   have SW2:=Nat.le_trans hsw hb2.size
   clear hx2
   have B2:=hbr.trans hb2
   have HV2:=Lib.hid hV2
   clear hV2 hb2 c0
   cases ho:okR kind (l.take k) s
   ·have HR:=Lib.hid (show refsFrom kind [] l=false by rw [HT.out,HD.out,ho];rfl)
    clear ho
    go_wp2
    go_ret
    exact ⟨⟨_,rfl,by rw [HR.out];simp⟩,B2,X2.out⟩
   ·have HG:=Lib.hid (show refsFrom kind [] l=refsFrom kind (l.take (k+1)) (l.drop (k+1)) by rw [HT.out,HD.out,ho];rfl)
    clear ho
    go_wp2
    go_roundw
    case rel=>exact ⟨k+1,by omega,by go_num,HG.out,by rw [HK.out];exact HV2.out,B2,SW2,X2.out⟩
    case measure=>simp [intOf];omega
  ·obtain rfl:k=N:=by omega
   have HR:=Lib.hid (show refsFrom kind [] l=true by rw [HT.out,List.drop_of_length_le (by rw [HN.out];exact Nat.le_refl _)];rfl)
   go_wp2
   go_ret
   exact ⟨⟨_,rfl,by rw [HR.out];simp⟩,hbr,HXX.out⟩
theorem has_any (v:Value) (l:List ByteArray) (kind:Int) (Bo Bl Bs Bm:Nat) (w0 w:World) (hl:l.length≤4000) (hv:StrRow w0 v l) (hb:Below w0.heap.size w0 w)
  (h:VSt w Bo Bl Bs Bm kind []) (m1:w0.heap.size≤Bl) (m2:w0.heap.size≤Bm) (n1:Bo≠Bm) (n2:Bl≠Bm) (n3:Bs≠Bm) (n4:Bo≠Bl) (n5:Bs≠Bl) :
  Calls Tryz.prog 114 #[v,.func (.func 113) #[] #[.pointer (some ⟨Bo,0,none⟩),.pointer (some ⟨Bl,0,none⟩),.pointer (some ⟨Bs,0,none⟩)]] w fun e w'=>e=.returned (.bool (!refsFrom kind [] l))∧Below w0.heap.size w0 w'∧KeptX Bl Bm w w':=by
 have HI:=Lib.hid (idx_any v l kind Bo Bl Bs Bm w0 w hl hv hb h m1 m2 n1 n2 n3 n4 n5)
 clear hv h
 go_enter Tryz.func114,Tryz.ntmps114
 go_wp2_with fail
 refine HI.out.mono ?_
 rintro e w2 ⟨⟨n,rfl,hn⟩,hb2,hx2⟩
 have X2:=Lib.hid hx2
 clear hx2
 by_cases h0:0≤n
 ·have HR:=Lib.hid (hn.1 h0)
  clear hn
  go_wp2
  go_ret
  exact ⟨ret_bool (by rw [HR.out];first | (simp;done) | (simp;omega)),hb2,X2.out⟩
 ·have HR:=Lib.hid (show refsFrom kind [] l=true by
   cases hr:refsFrom kind [] l
   ·exact absurd (hn.2 hr) h0
   ·rfl)
  clear hn
  have h0':n<0:=by omega
  go_wp2
  go_ret
  exact ⟨ret_bool (by rw [HR.out];first | (simp;done) | (simp;omega)),hb2,X2.out⟩
end Go.Proofs.YtdfenhjibnfdeaaGreatDoor

namespace Go.Proofs.YtdfenhjibnfdeaaGreatDoor
open Go.RowKit
def refsEnd (kind:Int) (n:Nat):Bool :=
 if kind=1 then decide (n=0) else if kind=2 then decide (2≤n) else if kind=3 then decide (3≤n) else if kind=4 then decide (1≤n) else decide (n=3)
theorem last_snoc {α:Type} (l:List α) (x:α):(l++[x]).getLast?=some x:=by simp
set_option maxRecDepth 100000 in
set_option maxHeartbeats 2000000 in
theorem rrefs_any (id:ByteArray) (kind x y:Int) (vr vt:Value) (l:List ByteArray) (w:World) (hv:StrRow w vr l) :
  Calls Tryz.prog 53 #[.agg #[.string id,.int .i64 kind,.int .i64 x,.int .i64 y,vr,vt]] w fun e w'=>e=.returned (.bool (decide (l.length≤2000) && refsFrom kind [] l && refsEnd kind l.length))∧Below w.heap.size w w':=by
 obtain ⟨a,cap,rfl,hn,hsz,hc⟩:=hv
 generalize hN:l.length=N at *
 have HN:=Lib.hid hN
 have HZ:=Lib.hid hsz
 have HC:=Lib.hid hc
 clear hN hsz hc
 by_cases h2:2000<N
 ·have HE:=Lib.hid (show (decide (N≤2000) && refsFrom kind [] l && refsEnd kind N)=false by rw [decide_eq_false (by omega)];simp)
  rw [HE.out]
  go_enter Tryz.func53,Tryz.ntmps53
  go_wp2
  go_ret
  refine ⟨rfl,?_⟩
  repeat' (first | exact Below.refl _ _ | refine Below.drew ?_ | refine Below.drewN' ?_ | refine Below.setCell ?_ (by first | omega | (simp;done) | exact Below.size (by assumption) | (simp;omega)) _ | refine Below.alloc ?_ (by first | omega | (simp;done) | exact Below.size (by assumption) | (simp;omega)) _ | refine Below.trans ?_ (Below.mono (by assumption) ?_) | (first | omega | (simp;done) | exact Below.size (by assumption) | (simp;omega)))
 have hle:decide (N≤2000)=true:=by rw [decide_eq_true_eq];omega
 rw [hle,Bool.true_and]
 clear hle
 have hmm:=@run_makeMap Tryz.prog
 go_enter Tryz.func53,Tryz.ntmps53
 go_wp2
 clear hmm
 have GO:=Lib.hid (row_past (o':=.map #[] 0) (row_new w (.cells #[.string id,.int .i64 kind,.int .i64 x,.int .i64 y,.slice a N cap,vt] 50)))
 have HM:=Lib.hid (SetIs.made (w.alloc (.cells #[.string id,.int .i64 kind,.int .i64 x,.int .i64 y,.slice a N cap,vt] 50)))
 have B0:Below w.heap.size w ((w.alloc (.cells #[.string id,.int .i64 kind,.int .i64 x,.int .i64 y,.slice a N cap,vt] 50)).alloc (.map #[] 0)):=((Below.refl _ _).alloc (Nat.le_refl _) _).alloc (by simp) _
 rw [show (w.alloc (.cells #[.string id,.int .i64 kind,.int .i64 x,.int .i64 y,.slice a N cap,vt] 50)).heap.size=w.heap.size+1 by simp] at HM
 generalize hw1:(w.alloc (.cells #[.string id,.int .i64 kind,.int .i64 x,.int .i64 y,.slice a N cap,vt] 50)).alloc (.map #[] 0)=w1
 rw [hw1] at GO HM B0
 clear hw1
 go_loopw [5] (fun i wr=>∃k:Nat,k≤N∧i=.int .i64 k∧refsFrom kind [] l=refsFrom kind (l.take k) (l.drop k)∧wr.heap[w.heap.size]?=some (.cells #[.string id,.int .i64 kind,.int .i64 x,.int .i64 y,.slice a N cap,vt] 50 (0,0))∧SetIs wr (w.heap.size+1) (l.take k)∧Below w.heap.size w wr) (fun i _=>N - (intOf i).toNat)
 case atStart=>exact ⟨0,by omega,rfl,rfl,GO.out,HM.out,B0⟩
 case round =>
  obtain ⟨k,hk,rfl,hT,hO,hM,hbr⟩:=hrel
  have HT:=Lib.hid hT
  have HMK:=Lib.hid hM
  have GOK:=Lib.hid hO
  clear hT hM
  by_cases hlt:k<N
  ·obtain ⟨s,hs⟩:∃s,l[k]?=some s:=⟨l[k]'(by rw [HN.out];exact hlt),List.getElem?_eq_getElem _⟩
   obtain ⟨b,off,ha,hcell⟩:=HC.out (by omega)
   subst ha
   have z1:=HZ.out s (List.mem_of_getElem? hs)
   have c0:=cell_later hbr (hcell k s hs)
   have bz:=lt_of_cell c0
   have HD:=Lib.hid (refs_drop kind l k s hs)
   have HK:=Lib.hid (show l.take (k+1)=l.take k++[s] by obtain ⟨hk,rfl⟩:=List.getElem?_eq_some_iff.1 hs;rw [List.take_succ_eq_append_getElem hk])
   have hlen:(l.take k).length<maxLen:=by rw [List.length_take,HN.out];unfold maxLen;omega
   have HLE:=Lib.hid hlen
   have HCL:=Lib.hid hcell
   have hlook:=fun n=>(HMK.out.later (w':=wr.drewN n) rfl).look s (by unfold maxLen;omega)
   have RN:=Lib.hid (fun w=>rname_still s z1 w)
   generalize hI:((l.take k).any fun p=>decide (p=s))=I at *
   have HI:=Lib.hid hI
   clear hcell hs hlen hI
   obtain ⟨oz,o0,o1,o2,o3,o4,o5⟩:=rk6 hO
   have hO':=Lib.hid hO
   clear hO
   clear hO'
   cases hnm:nameB s
   case false =>
    have HR:=Lib.hid (show refsFrom kind [] l=false by rw [HT.out,HD.out,okR,hnm];rfl)
    rw [hnm] at RN
    clear hnm
    go_wp2
    go_quiet ((go_at_call 50;exact Calls.quiet_of_same (RN.out _)))
    go_wp2
    go_ret
    exact ⟨ret_bool (by rw [HR.out];simp),hbr.drewN'⟩
   rw [hnm] at RN
   by_cases e3:kind=3
   ·have f2:(kind==2)=false:=by rw [beq_eq_false_iff_ne];omega
    have f3:(kind==3)=true:=by rw [beq_iff_eq];exact e3
    cases I
    ·have HG:=Lib.hid (show refsFrom kind [] l=refsFrom kind (l.take (k+1)) (l.drop (k+1)) by rw [HT.out,HD.out,okR,hnm,HI.out,e3];simp)
     clear hnm e3
     go_wp2
     go_quiet ((go_at_call 50;exact Calls.quiet_of_same (RN.out _)))
     obtain ⟨w9,hput,HM9,hg⟩:=(HMK.out.later (w':=wr.drewN nq) rfl).put s (by unfold maxLen;omega) HLE.out
     have HP9:=Lib.hid HM9
     have HG9:=Lib.hid hg
     clear HM9 hg
     go_wp2
     go_roundw
     case rel=>exact ⟨k+1,by omega,by go_num,HG.out,(HG9.out.block _ (lt_of_block (row_drewN GOK.out)) (by simp)).trans (row_drewN GOK.out),by rw [HK.out];exact HP9.out,(hbr.drewN' (n:=nq)).trans (Below.grow1 (w:=wr.drewN nq) hbr.size HG9.out (Nat.le_succ _))⟩
     case measure=>simp [intOf];omega
    ·have HR:=Lib.hid (show refsFrom kind [] l=false by rw [HT.out,HD.out,okR,hnm,HI.out,e3];simp)
     clear hnm e3
     go_wp2
     go_quiet ((go_at_call 50;exact Calls.quiet_of_same (RN.out _)))
     go_wp2
     go_ret
     exact ⟨ret_bool (by rw [HR.out];simp),hbr.drewN'⟩
   have f3:(kind==3)=false:=by rw [beq_eq_false_iff_ne];exact e3
   by_cases e2:kind=2
   ·have f2:(kind==2)=true:=by rw [beq_iff_eq];exact e2
    rcases k with _ | m
    ·have HG:=Lib.hid (show refsFrom kind [] l=refsFrom kind (l.take (0+1)) (l.drop (0+1)) by rw [HT.out,HD.out,okR,hnm,e2];simp)
     simp only [Nat.add_zero] at c0
     clear hnm e2 e3
     go_wp2
     go_quiet ((go_at_call 50;exact Calls.quiet_of_same (RN.out _)))
     obtain ⟨w9,hput,HM9,hg⟩:=(HMK.out.later (w':=wr.drewN nq) rfl).put s (by unfold maxLen;omega) HLE.out
     have HP9:=Lib.hid HM9
     have HG9:=Lib.hid hg
     clear HM9 hg
     go_wp2
     go_roundw
     case rel=>exact ⟨0+1,by omega,by go_num,HG.out,(HG9.out.block _ (lt_of_block (row_drewN GOK.out)) (by simp)).trans (row_drewN GOK.out),by rw [HK.out];exact HP9.out,(hbr.drewN' (n:=nq)).trans (Below.grow1 (w:=wr.drewN nq) hbr.size HG9.out (Nat.le_succ _))⟩
     case measure=>simp [intOf];omega
    ·obtain ⟨p,hp⟩:∃p,l[m]?=some p:=⟨l[m]'(by rw [HN.out];omega),List.getElem?_eq_getElem _⟩
     have p0:=cell_later hbr (HCL.out m p hp)
     have HLP:=Lib.hid (show (l.take (m+1)).getLast?=some p by
      obtain ⟨hm,rfl⟩:=List.getElem?_eq_some_iff.1 hp
      rw [List.take_succ_eq_append_getElem hm];exact last_snoc _ _)
     have WM:IntKind.i64.wrap (((m+1:Nat):Int) - 1)=(m:Int):=(IntWalk.i64_in _ (by omega)).trans (by omega)
     have WG:decide ((0:Int)<((m+1:Nat):Int))=true:=by rw [decide_eq_true_eq];omega
     clear hp
     by_cases eq:p=s
     ·have SE:(p.toList==s.toList)=true:=str_eq_true eq
      have HR:=Lib.hid (show refsFrom kind [] l=false by rw [HT.out,HD.out,okR,hnm,HLP.out,e2,eq];simp)
      clear hnm e2 e3 eq
      go_wp2
      go_quiet ((go_at_call 50;exact Calls.quiet_of_same (RN.out _)))
      go_wp2
      go_ret
      exact ⟨ret_bool (by rw [HR.out];simp),hbr.drewN'⟩
     ·have SE:(p.toList==s.toList)=false:=str_eq_false eq
      have HG:=Lib.hid (show refsFrom kind [] l=refsFrom kind (l.take (m+1+1)) (l.drop (m+1+1)) by rw [HT.out,HD.out,okR,hnm,HLP.out,e2];simp [eq])
      clear hnm e2 e3 eq
      go_wp2
      go_quiet ((go_at_call 50;exact Calls.quiet_of_same (RN.out _)))
      obtain ⟨w9,hput,HM9,hg⟩:=(HMK.out.later (w':=wr.drewN nq) rfl).put s (by unfold maxLen;omega) HLE.out
      have HP9:=Lib.hid HM9
      have HG9:=Lib.hid hg
      clear HM9 hg
      go_wp2
      go_roundw
      case rel=>exact ⟨m+1+1,by omega,by go_num,HG.out,(HG9.out.block _ (lt_of_block (row_drewN GOK.out)) (by simp)).trans (row_drewN GOK.out),by rw [HK.out];exact HP9.out,(hbr.drewN' (n:=nq)).trans (Below.grow1 (w:=wr.drewN nq) hbr.size HG9.out (Nat.le_succ _))⟩
      case measure=>simp [intOf];omega
   have f2:(kind==2)=false:=by rw [beq_eq_false_iff_ne];exact e2
   have HG:=Lib.hid (show refsFrom kind [] l=refsFrom kind (l.take (k+1)) (l.drop (k+1)) by rw [HT.out,HD.out,okR,hnm];simp [e2,e3])
   clear hnm e2 e3
   go_wp2
   go_quiet ((go_at_call 50;exact Calls.quiet_of_same (RN.out _)))
   obtain ⟨w9,hput,HM9,hg⟩:=(HMK.out.later (w':=wr.drewN nq) rfl).put s (by unfold maxLen;omega) HLE.out
   have HP9:=Lib.hid HM9
   have HG9:=Lib.hid hg
   clear HM9 hg
   go_wp2
   go_roundw
   case rel=>exact ⟨k+1,by omega,by go_num,HG.out,(HG9.out.block _ (lt_of_block (row_drewN GOK.out)) (by simp)).trans (row_drewN GOK.out),by rw [HK.out];exact HP9.out,(hbr.drewN' (n:=nq)).trans (Below.grow1 (w:=wr.drewN nq) hbr.size HG9.out (Nat.le_succ _))⟩
   case measure=>simp [intOf];omega
  ·obtain rfl:k=N:=by omega
   have HR:=Lib.hid (show refsFrom kind [] l=true by rw [HT.out,List.drop_of_length_le (by rw [HN.out];exact Nat.le_refl _)];rfl)
   obtain ⟨oz,o0,o1,o2,o3,o4,o5⟩:=rk6 hO
   have hO':=Lib.hid hO
   clear hO
   clear hO'
   by_cases e1:kind=1
   ·subst e1
    go_wp2
    go_ret
    exact ⟨ret_bool (by rw [HR.out,Bool.true_and];simp only [refsEnd];rw [Bool.eq_iff_iff];first | (simp;done) | (simp;omega)),hbr⟩
   have f1:(kind==1)=false:=by rw [beq_eq_false_iff_ne];exact e1
   by_cases e2:kind=2
   ·subst e2
    go_wp2
    go_ret
    exact ⟨ret_bool (by rw [HR.out,Bool.true_and];simp only [refsEnd];rw [Bool.eq_iff_iff];first | (simp;done) | (simp;omega)),hbr⟩
   have f2:(kind==2)=false:=by rw [beq_eq_false_iff_ne];exact e2
   by_cases e3:kind=3
   ·subst e3
    go_wp2
    go_ret
    exact ⟨ret_bool (by rw [HR.out,Bool.true_and];simp only [refsEnd];rw [Bool.eq_iff_iff];first | (simp;done) | (simp;omega)),hbr⟩
   have f3:(kind==3)=false:=by rw [beq_eq_false_iff_ne];exact e3
   by_cases e4:kind=4
   ·subst e4
    go_wp2
    go_ret
    exact ⟨ret_bool (by rw [HR.out,Bool.true_and];simp only [refsEnd];rw [Bool.eq_iff_iff];first | (simp;done) | (simp;omega)),hbr⟩
   have f4:(kind==4)=false:=by rw [beq_eq_false_iff_ne];exact e4
   have HE:=Lib.hid (show refsEnd kind k=decide (k=3) by rw [refsEnd,if_neg e1,if_neg e2,if_neg e3,if_neg e4])
   clear e1 e2 e3 e4
   go_wp2
   go_ret
   exact ⟨ret_bool (by rw [HR.out,Bool.true_and,HE.out,Bool.eq_iff_iff];first | (simp;done) | (simp;omega)),hbr⟩
end Go.Proofs.YtdfenhjibnfdeaaGreatDoor

namespace Go.Proofs.YtdfenhjibnfdeaaGreatDoor
open Go.RowKit
def objOK (o:ObjD):Bool :=
 decide (1≤o.kind∧o.kind≤5) && nameB o.id && tagsOK o.tags && decide (leastK o.kind≤o.refs.length) && decide (o.refs.length≤2000) && refsFrom o.kind [] o.refs &&
  (if o.kind=1 then decide (o.refs.length=0) && onB o.x o.y else if o.kind=5 then decide (o.refs.length=3) && decide (o.x=0∧o.y=0) else decide (o.x=0∧o.y=0))
theorem objOK_ref (o:ObjD):objOK o=(nameB o.id && decide (1≤o.kind∧o.kind≤5) && (if o.kind=1 then onB o.x o.y else decide (o.x=0∧o.y=0)) && tagsOK o.tags && (decide (o.refs.length≤2000) && refsFrom o.kind [] o.refs && refsEnd o.kind o.refs.length)):=by
 unfold objOK refsEnd leastK
 by_cases hk:1≤o.kind∧o.kind≤5
 ·cases nameB o.id<;>cases tagsOK o.tags<;>cases refsFrom o.kind [] o.refs<;>simp only [Bool.and_false,Bool.false_and,Bool.and_true,Bool.true_and,hk,and_self,decide_true]
  obtain h | h | h | h | h:o.kind=1∨o.kind=2∨o.kind=3∨o.kind=4∨o.kind=5:=by omega
  all_goals
   simp only [h]
   rw [Bool.eq_iff_iff]
   cases onB o.x o.y<;>first | (simp;done) | (simp;omega)
 ·simp [hk]
end Go.Proofs.YtdfenhjibnfdeaaGreatDoor

namespace Go.Proofs.YtdfenhjibnfdeaaGreatDoor
open Go.RowKit
structure BelowBy (w:World) where
 at':World
 below:Below w.heap.size w at'
instance (w:World):Inhabited (BelowBy w):=⟨⟨w,Below.refl _ _⟩⟩
theorem wp_region_quiet_below {P:Program} {id:Nat} {Q:Exit→Act→World→Prop} {a:Act} {w:World} {l:List Oper} (hm:P.follows .mixedOrders=true) (hB:Region.lexB .any l.toArray=true)
  (h:wpQuiet P l.toArray (fun w'=>∃p:BelowBy w,w'=p.at') (fun a'=>∀w',(∃p:BelowBy w,w'=p.at')→Q .normal a' w') l a):(Code.region id l.toArray true).wp P Q a w :=
 wp_region_quiet (C:=fun w'=>∃p:BelowBy w,w'=p.at') hm hB ⟨⟨w.drew,(Below.refl _ w).drew⟩,rfl⟩ (by simpa using h)
theorem cell_belowBy {w:World} {a:Addr} {v:Value} (h:w.cell? a=some v) (p:BelowBy w):p.at'.cell? a=some v:=cell_later p.below h
theorem calls_belowBy {P:Program} {f:FuncId} {args:Array Value} {w:World} {p:BelowBy w} {v:Value}
  (h:Calls P f args p.at' fun e w'=>e=.returned v∧Below p.at'.heap.size p.at' w'):Calls P f args p.at' fun e w''=>e=.returned v∧∃q:BelowBy w,w''=q.at' :=
 h.mono fun _ w' ⟨he,hb⟩=>⟨he,⟨w',below_step p.below (Nat.le_refl _) hb⟩,rfl⟩
end Go.Proofs.YtdfenhjibnfdeaaGreatDoor
