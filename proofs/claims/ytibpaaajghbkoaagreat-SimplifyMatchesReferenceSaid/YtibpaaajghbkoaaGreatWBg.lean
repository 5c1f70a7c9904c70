/-  -/
import Derived.Test.YtibpaaajghbkoaaGreatWAo
import Derived.Test.YtibpaaajghbkoaaGreatWAf
import Derived.Deep.LoopGhost
import Derived.Test.YtibpaaajghbkoaaGreatWAm
import Derived.Test.YtibpaaajghbkoaaGreatWBf
import Derived.Test.YtibpaaajghbkoaaGreatWBc
import Derived.Test.YtibpaaajghbkoaaGreatWAt
import Derived.Test.YtibpaaajghbkoaaGreatWAl
namespace Go.Proofs.YtibpaaajghbkoaaGreat
open Go.RowKit Go.Sort
theorem zanb {a b:Int} (h:a=b):(a != b)=false:=by rw [h];simp
theorem zafc {a b:Int} (h:¬a=b):(a != b)=true:=by rw [bne_iff_ne];exact h
theorem zakc {a b:Int} (h:¬a=b):(a==b)=false:=by rw [beq_eq_false_iff_ne];exact h
theorem zuc {l:List ObjD} (h:zas l=true) {o:ObjD} (ho:o∈l):(o.kind=1∧o.refs=[])∨(o.kind=2∨o.kind=3)∨(o.kind=4∨o.kind=5):=by
 have h1:=zda h ho;simp only [zay,Bool.and_eq_true,decide_eq_true_eq] at h1;obtain ⟨⟨⟨⟨⟨⟨h2,_⟩,_⟩,_⟩,_⟩,_⟩,h3⟩:=h1;by_cases hk:o.kind=1
 ·rw [if_pos hk] at h3;simp only [Bool.and_eq_true,decide_eq_true_eq] at h3;exact Or.inl ⟨hk,List.length_eq_zero_iff.1 h3.1⟩
 ·omega
theorem zajb {l:List ObjD} {r:ByteArray}:(zni r l=-1∧atO l r=none)∨∃(j:Nat) (x:ObjD),zni r l=(j:Int)∧l[j]?=some x∧atO l r=some x:=by
 unfold zni atO;cases hp:posO r l with
 |none=>exact Or.inl ⟨rfl,rfl⟩
 |some j =>obtain ⟨x,hx,_⟩:=zdt r l j hp;exact Or.inr ⟨j,x,rfl,hx,by simpa using hx⟩
end Go.Proofs.YtibpaaajghbkoaaGreat
