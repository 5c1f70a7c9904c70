/-
  No cell of these rows narrows 'for every input' (looked for: loops, veiled, ifaces, maps, wideKeys, modest, calm, conditions, laid).
  DERIVED. THE GIVEN ROWS OF THIS SEAT. 7 by the template 'for every input the law returns true; each argument reads behind the call as it read before'; 0 by the template 'total and deterministic' (their statements: YtbkomdinchiffaaGreatTotals.lean).
  GIVEN WITH THE SEED: the statements are not yours to turn. If you find one false, say at which input.
  Laid BY PROGRAM, IN A SANDBOX (cutbox-rows.mjs): the forced cells as the released guide's own fill.sh prints them over the translation 0f88873abd82b156… (all of the seat's roots in one cut). By AI agents, Wed Nov 11 2026. No macro, syntax, notation, axiom, sorry.
-/
import Derived.Test.YtbkomdinchiffaaGreatChecked
import GoSem.Claim
import GoSem.ClaimJoined
import GoSem.ClaimMapViews
import Derived.JoinedTies
import Derived.KernelRfl
namespace Go.Proofs.YtbkomdinchiffaaGreat
/- THE CELL 'sum', in the pinned program and in every row, IS THE sha256 OF THE DUMP (.gsa) THAT YtbkomdinchiffaaGreatProg.lean LOADS. Nothing in Lean hashes anything: it is a label: what it is worth is what the hold of that sum in a sandbox is worth. -/
noncomputable def Tryz.pinned : Pinned := { name := "ytbkomdinchiffaagreat", sum := "0f88873abd82b156617b2ba5d0cd86b16873704784fa134fa508a18003a77f2e", checked := Tryz.checked }
namespace Rows
def none {H : Type} : Left H := { results := [], args := [] }

/-- 'planispherelaw13.BorderMatchesReference': WHATEVER THE INPUT: true; the input reads as it did. -/
def borderMatchesReferenceSpec : ChangeSpec := { name := "borderMatchesReference", fn := fun _ => fun
  | [d] => { results := [.lit (.bool true)], args := [d] }
  | _ => none }
def borderMatchesReferenceRow : OpenClaim := { program := "ytbkomdinchiffaagreat", sum := "0f88873abd82b156617b2ba5d0cd86b16873704784fa134fa508a18003a77f2e", func := "planisphere/planispherelaw13.BorderMatchesReference", spec := "borderMatchesReference", inPlace := ["internal/bytealg.IndexByteString"], unfollowed := true, recurses := true, plainKeys := false, apart := false }
def BorderMatchesReferenceSaid : Prop := borderMatchesReferenceRow.holds Tryz.pinned (OpenSpec.ofChange borderMatchesReferenceSpec)

/-- ITS FALSE NEIGHBOUR: 'it returns false'. Refute it at one input. -/
def borderMatchesReferenceWrong : ChangeSpec := { name := "borderMatchesReference", fn := fun _ => fun
  | [d] => { results := [.lit (.bool false)], args := [d] }
  | _ => none }
def BorderMatchesReferenceWrongFalsely : Prop := borderMatchesReferenceRow.holds Tryz.pinned (OpenSpec.ofChange borderMatchesReferenceWrong)

/-- 'planispherelaw13.BorderFreeMatchesReference': WHATEVER THE INPUT: true; the input reads as it did. -/
def borderFreeMatchesReferenceSpec : ChangeSpec := { name := "borderFreeMatchesReference", fn := fun _ => fun
  | [d1, d2] => { results := [.lit (.bool true)], args := [d1, d2] }
  | _ => none }
def borderFreeMatchesReferenceRow : OpenClaim := { program := "ytbkomdinchiffaagreat", sum := "0f88873abd82b156617b2ba5d0cd86b16873704784fa134fa508a18003a77f2e", func := "planisphere/planispherelaw13.BorderFreeMatchesReference", spec := "borderFreeMatchesReference", inPlace := ["internal/bytealg.IndexByteString"], unfollowed := true, recurses := true, plainKeys := false, apart := false }
def BorderFreeMatchesReferenceSaid : Prop := borderFreeMatchesReferenceRow.holds Tryz.pinned (OpenSpec.ofChange borderFreeMatchesReferenceSpec)

/-- ITS FALSE NEIGHBOUR: 'it returns false'. Refute it at one input. -/
def borderFreeMatchesReferenceWrong : ChangeSpec := { name := "borderFreeMatchesReference", fn := fun _ => fun
  | [d1, d2] => { results := [.lit (.bool false)], args := [d1, d2] }
  | _ => none }
def BorderFreeMatchesReferenceWrongFalsely : Prop := borderFreeMatchesReferenceRow.holds Tryz.pinned (OpenSpec.ofChange borderFreeMatchesReferenceWrong)

/-- 'planispherelaw13.BorderOrder': WHATEVER THE INPUT: true; the input reads as it did. -/
def borderOrderSpec : ChangeSpec := { name := "borderOrder", fn := fun _ => fun
  | [d] => { results := [.lit (.bool true)], args := [d] }
  | _ => none }
def borderOrderRow : OpenClaim := { program := "ytbkomdinchiffaagreat", sum := "0f88873abd82b156617b2ba5d0cd86b16873704784fa134fa508a18003a77f2e", func := "planisphere/planispherelaw13.BorderOrder", spec := "borderOrder", inPlace := ["internal/bytealg.IndexByteString"], unfollowed := true, recurses := true, plainKeys := false, apart := false }
def BorderOrderSaid : Prop := borderOrderRow.holds Tryz.pinned (OpenSpec.ofChange borderOrderSpec)

/-- ITS FALSE NEIGHBOUR: 'it returns false'. Refute it at one input. -/
def borderOrderWrong : ChangeSpec := { name := "borderOrder", fn := fun _ => fun
  | [d] => { results := [.lit (.bool false)], args := [d] }
  | _ => none }
def BorderOrderWrongFalsely : Prop := borderOrderRow.holds Tryz.pinned (OpenSpec.ofChange borderOrderWrong)

/-- 'planispherelaw13.BorderOthers': WHATEVER THE INPUT: true; the input reads as it did. -/
def borderOthersSpec : ChangeSpec := { name := "borderOthers", fn := fun _ => fun
  | [d] => { results := [.lit (.bool true)], args := [d] }
  | _ => none }
def borderOthersRow : OpenClaim := { program := "ytbkomdinchiffaagreat", sum := "0f88873abd82b156617b2ba5d0cd86b16873704784fa134fa508a18003a77f2e", func := "planisphere/planispherelaw13.BorderOthers", spec := "borderOthers", inPlace := ["internal/bytealg.IndexByteString"], unfollowed := true, recurses := true, plainKeys := false, apart := false }
def BorderOthersSaid : Prop := borderOthersRow.holds Tryz.pinned (OpenSpec.ofChange borderOthersSpec)

/-- ITS FALSE NEIGHBOUR: 'it returns false'. Refute it at one input. -/
def borderOthersWrong : ChangeSpec := { name := "borderOthers", fn := fun _ => fun
  | [d] => { results := [.lit (.bool false)], args := [d] }
  | _ => none }
def BorderOthersWrongFalsely : Prop := borderOthersRow.holds Tryz.pinned (OpenSpec.ofChange borderOthersWrong)

/-- 'planispherelaw13.BorderFewer': WHATEVER THE INPUT: true; the input reads as it did. -/
def borderFewerSpec : ChangeSpec := { name := "borderFewer", fn := fun _ => fun
  | [d1, d2] => { results := [.lit (.bool true)], args := [d1, d2] }
  | _ => none }
def borderFewerRow : OpenClaim := { program := "ytbkomdinchiffaagreat", sum := "0f88873abd82b156617b2ba5d0cd86b16873704784fa134fa508a18003a77f2e", func := "planisphere/planispherelaw13.BorderFewer", spec := "borderFewer", inPlace := ["internal/bytealg.IndexByteString"], unfollowed := true, recurses := true, plainKeys := false, apart := false }
def BorderFewerSaid : Prop := borderFewerRow.holds Tryz.pinned (OpenSpec.ofChange borderFewerSpec)

/-- ITS FALSE NEIGHBOUR: 'it returns false'. Refute it at one input. -/
def borderFewerWrong : ChangeSpec := { name := "borderFewer", fn := fun _ => fun
  | [d1, d2] => { results := [.lit (.bool false)], args := [d1, d2] }
  | _ => none }
def BorderFewerWrongFalsely : Prop := borderFewerRow.holds Tryz.pinned (OpenSpec.ofChange borderFewerWrong)

/-- 'planispherelaw13.BorderShared': WHATEVER THE INPUT: true; the input reads as it did. -/
def borderSharedSpec : ChangeSpec := { name := "borderShared", fn := fun _ => fun
  | [d1, d2, d3] => { results := [.lit (.bool true)], args := [d1, d2, d3] }
  | _ => none }
def borderSharedRow : OpenClaim := { program := "ytbkomdinchiffaagreat", sum := "0f88873abd82b156617b2ba5d0cd86b16873704784fa134fa508a18003a77f2e", func := "planisphere/planispherelaw13.BorderShared", spec := "borderShared", inPlace := ["internal/bytealg.IndexByteString", "internal/bytealg.abigen_runtime_cmpstring", "slices.overlaps[planisphere/api.Object]"], unfollowed := true, recurses := true, plainKeys := false, apart := false }
def BorderSharedSaid : Prop := borderSharedRow.holds Tryz.pinned (OpenSpec.ofChange borderSharedSpec)

/-- ITS FALSE NEIGHBOUR: 'it returns false'. Refute it at one input. -/
def borderSharedWrong : ChangeSpec := { name := "borderShared", fn := fun _ => fun
  | [d1, d2, d3] => { results := [.lit (.bool false)], args := [d1, d2, d3] }
  | _ => none }
def BorderSharedWrongFalsely : Prop := borderSharedRow.holds Tryz.pinned (OpenSpec.ofChange borderSharedWrong)

/-- 'planispherelaw13.BorderFree': WHATEVER THE INPUT: true; the input reads as it did. -/
def borderFreeSpec : ChangeSpec := { name := "borderFree", fn := fun _ => fun
  | [d1, d2, d3, d4] => { results := [.lit (.bool true)], args := [d1, d2, d3, d4] }
  | _ => none }
def borderFreeRow : OpenClaim := { program := "ytbkomdinchiffaagreat", sum := "0f88873abd82b156617b2ba5d0cd86b16873704784fa134fa508a18003a77f2e", func := "planisphere/planispherelaw13.BorderFree", spec := "borderFree", inPlace := ["internal/bytealg.IndexByteString", "internal/bytealg.abigen_runtime_cmpstring", "slices.overlaps[planisphere/api.Object]"], unfollowed := true, recurses := true, plainKeys := false, apart := false }
def BorderFreeSaid : Prop := borderFreeRow.holds Tryz.pinned (OpenSpec.ofChange borderFreeSpec)

/-- ITS FALSE NEIGHBOUR: 'it returns false'. Refute it at one input. -/
def borderFreeWrong : ChangeSpec := { name := "borderFree", fn := fun _ => fun
  | [d1, d2, d3, d4] => { results := [.lit (.bool false)], args := [d1, d2, d3, d4] }
  | _ => none }
def BorderFreeWrongFalsely : Prop := borderFreeRow.holds Tryz.pinned (OpenSpec.ofChange borderFreeWrong)

/- THE SECOND FORM. 'bulk': how many values and letters a reading holds, each counted each time it is reached (what is shared counts as often as it is met; a slice's spare places count too). A statement '..UptoSaid' is the law's where the arguments, and the package variables that the reading takes, are together of bulk at most 1048576: NARROWER than '..Said'. Prove '..Said' where nothing that the law and all that it calls make is longer than what came in: it says more and counts as full. Else prove '..UptoSaid'. A law counts once. -/
mutual
def uptoBulk {H : Type} : DataW H → Nat
  | .lit (.string bytes) => bytes.length + 1
  | .lit _ => 1
  | .nil => 1
  | .ptr d => uptoBulk d + 1
  | .slice elems spare => uptoBulkAll elems + uptoBulkAll spare + 1
  | .agg parts => uptoBulkAll parts + 1
  | .iface _ d => uptoBulk d + 1
  | .map entries => uptoBulkEntries entries + 1
  | .held _ => 1
def uptoBulkAll {H : Type} : List (DataW H) → Nat
  | [] => 0
  | d :: r => uptoBulk d + uptoBulkAll r
def uptoBulkEntries {H : Type} : List (Lit × DataW H) → Nat
  | [] => 0
  | x :: r => uptoBulkEntry x + uptoBulkEntries r
def uptoBulkEntry {H : Type} : Lit × DataW H → Nat
  | (.string bytes, d) => bytes.length + uptoBulk d + 1
  | (_, d) => uptoBulk d + 1
 end
def uptoSmall : (H : Type) → List (DataW H) → Bool := fun _ ds => decide (uptoBulkAll ds ≤ 1048576)
def OpenSpec.upto (s : _root_.Go.ChangeSpec) : _root_.Go.OpenSpec := { _root_.Go.OpenSpec.ofChange s with cond := some uptoSmall }

/-- 'planispherelaw13.BorderMatchesReference', WHERE WHAT IT READS IS OF BULK AT MOST 1048576: true; the input reads as it did. -/
def borderMatchesReferenceUptoRow : OpenClaim := { program := "ytbkomdinchiffaagreat", sum := "0f88873abd82b156617b2ba5d0cd86b16873704784fa134fa508a18003a77f2e", func := "planisphere/planispherelaw13.BorderMatchesReference", spec := "borderMatchesReference", inPlace := ["internal/bytealg.IndexByteString"], unfollowed := true, recurses := true, plainKeys := false, apart := false, narrowed := true }
def BorderMatchesReferenceUptoSaid : Prop := borderMatchesReferenceUptoRow.holds Tryz.pinned (OpenSpec.upto borderMatchesReferenceSpec)

/-- 'planispherelaw13.BorderFreeMatchesReference', WHERE WHAT IT READS IS OF BULK AT MOST 1048576: true; the input reads as it did. -/
def borderFreeMatchesReferenceUptoRow : OpenClaim := { program := "ytbkomdinchiffaagreat", sum := "0f88873abd82b156617b2ba5d0cd86b16873704784fa134fa508a18003a77f2e", func := "planisphere/planispherelaw13.BorderFreeMatchesReference", spec := "borderFreeMatchesReference", inPlace := ["internal/bytealg.IndexByteString"], unfollowed := true, recurses := true, plainKeys := false, apart := false, narrowed := true }
def BorderFreeMatchesReferenceUptoSaid : Prop := borderFreeMatchesReferenceUptoRow.holds Tryz.pinned (OpenSpec.upto borderFreeMatchesReferenceSpec)

/-- 'planispherelaw13.BorderOrder', WHERE WHAT IT READS IS OF BULK AT MOST 1048576: true; the input reads as it did. -/
def borderOrderUptoRow : OpenClaim := { program := "ytbkomdinchiffaagreat", sum := "0f88873abd82b156617b2ba5d0cd86b16873704784fa134fa508a18003a77f2e", func := "planisphere/planispherelaw13.BorderOrder", spec := "borderOrder", inPlace := ["internal/bytealg.IndexByteString"], unfollowed := true, recurses := true, plainKeys := false, apart := false, narrowed := true }
def BorderOrderUptoSaid : Prop := borderOrderUptoRow.holds Tryz.pinned (OpenSpec.upto borderOrderSpec)

/-- 'planispherelaw13.BorderOthers', WHERE WHAT IT READS IS OF BULK AT MOST 1048576: true; the input reads as it did. -/
def borderOthersUptoRow : OpenClaim := { program := "ytbkomdinchiffaagreat", sum := "0f88873abd82b156617b2ba5d0cd86b16873704784fa134fa508a18003a77f2e", func := "planisphere/planispherelaw13.BorderOthers", spec := "borderOthers", inPlace := ["internal/bytealg.IndexByteString"], unfollowed := true, recurses := true, plainKeys := false, apart := false, narrowed := true }
def BorderOthersUptoSaid : Prop := borderOthersUptoRow.holds Tryz.pinned (OpenSpec.upto borderOthersSpec)

/-- 'planispherelaw13.BorderFewer', WHERE WHAT IT READS IS OF BULK AT MOST 1048576: true; the input reads as it did. -/
def borderFewerUptoRow : OpenClaim := { program := "ytbkomdinchiffaagreat", sum := "0f88873abd82b156617b2ba5d0cd86b16873704784fa134fa508a18003a77f2e", func := "planisphere/planispherelaw13.BorderFewer", spec := "borderFewer", inPlace := ["internal/bytealg.IndexByteString"], unfollowed := true, recurses := true, plainKeys := false, apart := false, narrowed := true }
def BorderFewerUptoSaid : Prop := borderFewerUptoRow.holds Tryz.pinned (OpenSpec.upto borderFewerSpec)

/-- 'planispherelaw13.BorderShared', WHERE WHAT IT READS IS OF BULK AT MOST 1048576: true; the input reads as it did. -/
def borderSharedUptoRow : OpenClaim := { program := "ytbkomdinchiffaagreat", sum := "0f88873abd82b156617b2ba5d0cd86b16873704784fa134fa508a18003a77f2e", func := "planisphere/planispherelaw13.BorderShared", spec := "borderShared", inPlace := ["internal/bytealg.IndexByteString", "internal/bytealg.abigen_runtime_cmpstring", "slices.overlaps[planisphere/api.Object]"], unfollowed := true, recurses := true, plainKeys := false, apart := false, narrowed := true }
def BorderSharedUptoSaid : Prop := borderSharedUptoRow.holds Tryz.pinned (OpenSpec.upto borderSharedSpec)

/-- 'planispherelaw13.BorderFree', WHERE WHAT IT READS IS OF BULK AT MOST 1048576: true; the input reads as it did. -/
def borderFreeUptoRow : OpenClaim := { program := "ytbkomdinchiffaagreat", sum := "0f88873abd82b156617b2ba5d0cd86b16873704784fa134fa508a18003a77f2e", func := "planisphere/planispherelaw13.BorderFree", spec := "borderFree", inPlace := ["internal/bytealg.IndexByteString", "internal/bytealg.abigen_runtime_cmpstring", "slices.overlaps[planisphere/api.Object]"], unfollowed := true, recurses := true, plainKeys := false, apart := false, narrowed := true }
def BorderFreeUptoSaid : Prop := borderFreeUptoRow.holds Tryz.pinned (OpenSpec.upto borderFreeSpec)

end Rows
end Go.Proofs.YtbkomdinchiffaaGreat
