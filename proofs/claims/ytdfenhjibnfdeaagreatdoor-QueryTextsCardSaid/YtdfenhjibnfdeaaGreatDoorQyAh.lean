/-    -/
import Derived.Test.YtdfenhjibnfdeaaGreatDoorQyAe
import Derived.Maps.OwnSet
import Derived.Maps.OwnOps
import Derived.Maps.Views
import Derived.StringKeys
import Derived.Deep.Quiet
import Derived.Deep.QuietTactic
namespace Go.Proofs.YtdfenhjibnfdeaaGreatDoor
open Go.RowKit Go.Maps Go.ChangeMaps
theorem keyS:Keyed Tryz.prog 9:=string_keyed Tryz.underlying9
theorem zeroB (w:World):(zeroValue 4).run Tryz.prog w=.ok (.bool false) w:=by kernel_rfl
def SetIs (w:World) (b:Nat) (pre:List ByteArray):Prop :=
 ∃(n:Nat) (D:DataW Unit),w.ownsMap Tryz.prog 9 (plainElem Tryz.prog 4) b n D∧n≤pre.length ∧
  ∀s:ByteArray,D.atKey (.string s.data.toList) (.lit (.bool false))=.lit (.bool (pre.any fun p=>decide (p=s)))
theorem SetIs.made (w:World):SetIs (w.alloc (.map #[] 0)) w.heap.size [] :=
 ⟨0,_,World.ownsMap_made _ _ _ _,Nat.le_refl _,fun s=>by simp [DataW.atKey]⟩
theorem SetIs.later {w w':World} {b:Nat} {pre:List ByteArray} (h:SetIs w b pre) (hb:w'.heap[b]?=w.heap[b]?):SetIs w' b pre:=by
 obtain ⟨n,D,⟨es,clock,h1,h2⟩,h3⟩:=h
 exact ⟨n,D,⟨es,clock,hb.trans h1,h2⟩,h3⟩
theorem SetIs.lt {w:World} {b:Nat} {pre:List ByteArray} (h:SetIs w b pre):b<w.heap.size:=by
 obtain ⟨n,D,h1,-⟩:=h
 exact h1.lt
theorem plainBool_inv {P:Program} {e:TypeId} (he:P.underlying e=some .bool) {v:Value} {b:Bool} {ps:List MemPlace} (h:plainElem (H:=Unit) P e v=some (.lit (.bool b),ps)):v=.bool b:=by
 unfold plainElem at h
 rw [he] at h
 cases v<;>simp at h
 rw [h.1]
theorem str_key {a b:ByteArray} (h:Lit.string a.data.toList=Lit.string b.data.toList):a=b:=by
 injection h with h
 exact ByteArray.ext (Array.toList_inj.mp h)
theorem SetIs.look {w:World} {b:Nat} {pre:List ByteArray} (h:SetIs w b pre) (s:ByteArray) (hs:s.size≤maxLen) :
  (Instr.lookup 122 (.map (some b)) (.string s) false).run Tryz.prog w=.ok (.bool (pre.any fun p=>decide (p=s))) w:=by
 obtain ⟨n,D,h1,h2,h3⟩:=h
 obtain ⟨v,ps,hrun,hv⟩:=h1.lookup keyS Tryz.underlying122 (zeroB w) (plainElem_bool Tryz.underlying4 false) (WideMaps.keyOf_string_mk Tryz.underlying9 hs)
 rw [h3] at hv
 have hv':v=.bool (pre.any fun p=>decide (p=s)):=plainBool_inv Tryz.underlying4 hv
 rw [hrun,hv']
theorem SetIs.put {w:World} {b:Nat} {pre:List ByteArray} (h:SetIs w b pre) (s:ByteArray) (hs:s.size≤maxLen) (hn:pre.length<maxLen) :
  ∃w',(Instr.mapUpdate 122 (.map (some b)) (.string s) (.bool true)).run Tryz.prog w=.ok () w'∧SetIs w' b (pre++[s])∧w.grownBy w' (some b):=by
 obtain ⟨n,D,h1,h2,h3⟩:=h
 obtain ⟨w',hrun,h4,h5⟩:=h1.update keyS Tryz.underlying122 (by omega) (WideMaps.keyOf_string_mk Tryz.underlying9 hs) (plainElem_bool Tryz.underlying4 true)
 refine ⟨w',hrun,⟨n+1,_,h4,by simp;omega,fun t=>?_⟩,h5⟩
 by_cases e:t=s
 ·subst e
  rw [atKey_put_same h1.isMap (show WideAt.IsKeyLit (.string t.data.toList) from trivial)]
  simp
 ·rw [atKey_put_other (fun h=>e (str_key h)),h3]
  simp [Ne.symm e]
end Go.Proofs.YtdfenhjibnfdeaaGreatDoor

namespace Go.Proofs.YtdfenhjibnfdeaaGreatDoor
open Go.RowKit
def lastS (pre:List ByteArray):ByteArray:=pre.getLast?.getD ⟨#[]⟩
structure VSt (w:World) (Bo Bl Bs Bm:Nat) (kind:Int) (pre:List ByteArray):Prop where
 kindC:w.cell? ⟨Bo,1,none⟩=some (.int .i64 kind)
 lastC:w.heap[Bl]?=some (.cells #[.string (lastS pre)] 9 (0,0))
 seenC:w.heap[Bs]?=some (.cells #[.map (some Bm)] 122 (0,0))
 setC:SetIs w Bm pre
theorem VSt.later {w w':World} {Bo Bl Bs Bm:Nat} {kind:Int} {pre:List ByteArray} (h:VSt w Bo Bl Bs Bm kind pre) (hb:Below w.heap.size w w'):VSt w' Bo Bl Bs Bm kind pre :=
 ⟨cell_later hb h.kindC,row_later hb h.lastC,row_later hb h.seenC,h.setC.later (hb.block _ h.setC.lt)⟩
def KeptX (Bl Bm:Nat) (w w':World):Prop:=∀b,b<w.heap.size→b≠Bl→b≠Bm→w'.heap[b]?=w.heap[b]?
theorem KeptX.refl (Bl Bm:Nat) (w:World):KeptX Bl Bm w w:=fun _ _ _ _=>rfl
theorem KeptX.trans {Bl Bm:Nat} {a b c:World} (h:KeptX Bl Bm a b) (hs:a.heap.size≤b.heap.size) (k:KeptX Bl Bm b c):KeptX Bl Bm a c :=
 fun i hi h1 h2=>(k i (Nat.lt_of_lt_of_le hi hs) h1 h2).trans (h i hi h1 h2)
theorem KeptX.later {Bl Bm:Nat} {a b c:World} (h:KeptX Bl Bm a b) (hs:a.heap.size≤b.heap.size) (k:Below b.heap.size b c):KeptX Bl Bm a c :=
 h.trans hs fun i hi _ _=>k.block i hi
end Go.Proofs.YtdfenhjibnfdeaaGreatDoor

namespace Go.Proofs.YtdfenhjibnfdeaaGreatDoor
open Go.RowKit
structure BelowBy (w:World) where
 at':World
 below:Below w.heap.size w at'
instance (w:World):Inhabited (BelowBy w):=⟨⟨w,Below.refl _ _⟩⟩
theorem wp_region_quiet_below {P:Program} {id:Nat} {Q:Exit→Act→World→Prop} {a:Act} {w:World} {l:List Oper} (hm:P.follows .mixedOrders=true) (hB:Region.lexB .any l.toArray=true)
  (h:wpQuiet P l.toArray (fun w'=>∃p:BelowBy w,w'=p.at') (fun a'=>∀w',(∃p:BelowBy w,w'=p.at')→Q .normal a' w') l a):(Code.region id l.toArray true).wp P Q a w :=
 wp_region_quiet (C:=fun w'=>∃p:BelowBy w,w'=p.at') hm hB ⟨⟨w.drew,(Below.refl _ w).drew⟩,rfl⟩ (by simpa using h)
theorem cell_belowBy {w:World} {a:Addr} {v:Value} (h:w.cell? a=some v) (p:BelowBy w):p.at'.cell? a=some v:=cell_later p.below h
theorem calls_belowBy {P:Program} {f:FuncId} {args:Array Value} {w:World} {p:BelowBy w} {v:Value}
  (h:Calls P f args p.at' fun e w'=>e=.returned v∧Below p.at'.heap.size p.at' w'):Calls P f args p.at' fun e w''=>e=.returned v∧∃q:BelowBy w,w''=q.at' :=
 h.mono fun _ w' ⟨he,hb⟩=>⟨he,⟨w',below_step p.below (Nat.le_refl _) hb⟩,rfl⟩
end Go.Proofs.YtdfenhjibnfdeaaGreatDoor
