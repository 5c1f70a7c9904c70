/-
  No cell of these rows narrows 'for every input' (looked for: loops, veiled, ifaces, maps, wideKeys, modest, calm, conditions, laid).
  DERIVED. THE GIVEN ROWS OF THIS SEAT. 6 by the template 'for every input the law returns true; each argument reads behind the call as it read before'; 0 by the template 'total and deterministic' (their statements: YtibpaaajghbkoaaGreatTotals.lean).
  GIVEN WITH THE SEED: the statements are not yours to turn. If you find one false, say at which input.
  Laid BY PROGRAM, IN A SANDBOX (cutbox-rows.mjs): the forced cells as the released guide's own fill.sh prints them over the translation 1be0df796a409d2c… (all of the seat's roots in one cut). By AI agents, Wed Nov 11 2026. No macro, syntax, notation, axiom, sorry.
-/
import Derived.Test.YtibpaaajghbkoaaGreatChecked
import GoSem.Claim
import GoSem.ClaimJoined
import GoSem.ClaimMapViews
import Derived.JoinedTies
import Derived.KernelRfl
namespace Go.Proofs.YtibpaaajghbkoaaGreat
/- THE CELL 'sum', in the pinned program and in every row, IS THE sha256 OF THE DUMP (.gsa) THAT YtibpaaajghbkoaaGreatProg.lean LOADS. Nothing in Lean hashes anything: it is a label: what it is worth is what the hold of that sum in a sandbox is worth. -/
noncomputable def Tryz.pinned : Pinned := { name := "ytibpaaajghbkoaagreat", sum := "1be0df796a409d2cad68c93e018ed62d6b81b199ca5f45c1bd67ec8002ce86e2", checked := Tryz.checked }
namespace Rows
def none {H : Type} : Left H := { results := [], args := [] }

/-- 'planispherelaw42.SimplifyMatchesReference': WHATEVER THE INPUT: true; the input reads as it did. -/
def simplifyMatchesReferenceSpec : ChangeSpec := { name := "simplifyMatchesReference", fn := fun _ => fun
  | [d1, d2, d3] => { results := [.lit (.bool true)], args := [d1, d2, d3] }
  | _ => none }
def simplifyMatchesReferenceRow : OpenClaim := { program := "ytibpaaajghbkoaagreat", sum := "1be0df796a409d2cad68c93e018ed62d6b81b199ca5f45c1bd67ec8002ce86e2", func := "planisphere/planispherelaw42.SimplifyMatchesReference", spec := "simplifyMatchesReference", inPlace := ["internal/bytealg.IndexByteString"], unfollowed := true, recurses := true, plainKeys := false, apart := false }
def SimplifyMatchesReferenceSaid : Prop := simplifyMatchesReferenceRow.holds Tryz.pinned (OpenSpec.ofChange simplifyMatchesReferenceSpec)

/-- ITS FALSE NEIGHBOUR: 'it returns false'. Refute it at one input. -/
def simplifyMatchesReferenceWrong : ChangeSpec := { name := "simplifyMatchesReference", fn := fun _ => fun
  | [d1, d2, d3] => { results := [.lit (.bool false)], args := [d1, d2, d3] }
  | _ => none }
def SimplifyMatchesReferenceWrongFalsely : Prop := simplifyMatchesReferenceRow.holds Tryz.pinned (OpenSpec.ofChange simplifyMatchesReferenceWrong)

/-- 'planispherelaw42.SimplifyFurther': WHATEVER THE INPUT: true; the input reads as it did. -/
def simplifyFurtherSpec : ChangeSpec := { name := "simplifyFurther", fn := fun _ => fun
  | [d1, d2, d3] => { results := [.lit (.bool true)], args := [d1, d2, d3] }
  | _ => none }
def simplifyFurtherRow : OpenClaim := { program := "ytibpaaajghbkoaagreat", sum := "1be0df796a409d2cad68c93e018ed62d6b81b199ca5f45c1bd67ec8002ce86e2", func := "planisphere/planispherelaw42.SimplifyFurther", spec := "simplifyFurther", inPlace := ["internal/bytealg.IndexByteString"], unfollowed := true, recurses := true, plainKeys := false, apart := false }
def SimplifyFurtherSaid : Prop := simplifyFurtherRow.holds Tryz.pinned (OpenSpec.ofChange simplifyFurtherSpec)

/-- ITS FALSE NEIGHBOUR: 'it returns false'. Refute it at one input. -/
def simplifyFurtherWrong : ChangeSpec := { name := "simplifyFurther", fn := fun _ => fun
  | [d1, d2, d3] => { results := [.lit (.bool false)], args := [d1, d2, d3] }
  | _ => none }
def SimplifyFurtherWrongFalsely : Prop := simplifyFurtherRow.holds Tryz.pinned (OpenSpec.ofChange simplifyFurtherWrong)

/-- 'planispherelaw42.SimplifyStays': WHATEVER THE INPUT: true; the input reads as it did. -/
def simplifyStaysSpec : ChangeSpec := { name := "simplifyStays", fn := fun _ => fun
  | [d1, d2] => { results := [.lit (.bool true)], args := [d1, d2] }
  | _ => none }
def simplifyStaysRow : OpenClaim := { program := "ytibpaaajghbkoaagreat", sum := "1be0df796a409d2cad68c93e018ed62d6b81b199ca5f45c1bd67ec8002ce86e2", func := "planisphere/planispherelaw42.SimplifyStays", spec := "simplifyStays", inPlace := ["internal/bytealg.IndexByteString", "internal/bytealg.abigen_runtime_cmpstring"], unfollowed := true, recurses := true, plainKeys := false, apart := false }
def SimplifyStaysSaid : Prop := simplifyStaysRow.holds Tryz.pinned (OpenSpec.ofChange simplifyStaysSpec)

/-- ITS FALSE NEIGHBOUR: 'it returns false'. Refute it at one input. -/
def simplifyStaysWrong : ChangeSpec := { name := "simplifyStays", fn := fun _ => fun
  | [d1, d2] => { results := [.lit (.bool false)], args := [d1, d2] }
  | _ => none }
def SimplifyStaysWrongFalsely : Prop := simplifyStaysRow.holds Tryz.pinned (OpenSpec.ofChange simplifyStaysWrong)

/-- 'planispherelaw42.SimplifyShares': WHATEVER THE INPUT: true; the input reads as it did. -/
def simplifySharesSpec : ChangeSpec := { name := "simplifyShares", fn := fun _ => fun
  | [d1, d2] => { results := [.lit (.bool true)], args := [d1, d2] }
  | _ => none }
def simplifySharesRow : OpenClaim := { program := "ytibpaaajghbkoaagreat", sum := "1be0df796a409d2cad68c93e018ed62d6b81b199ca5f45c1bd67ec8002ce86e2", func := "planisphere/planispherelaw42.SimplifyShares", spec := "simplifyShares", inPlace := ["internal/bytealg.IndexByteString", "internal/bytealg.abigen_runtime_cmpstring"], unfollowed := true, recurses := true, plainKeys := false, apart := false }
def SimplifySharesSaid : Prop := simplifySharesRow.holds Tryz.pinned (OpenSpec.ofChange simplifySharesSpec)

/-- ITS FALSE NEIGHBOUR: 'it returns false'. Refute it at one input. -/
def simplifySharesWrong : ChangeSpec := { name := "simplifyShares", fn := fun _ => fun
  | [d1, d2] => { results := [.lit (.bool false)], args := [d1, d2] }
  | _ => none }
def SimplifySharesWrongFalsely : Prop := simplifySharesRow.holds Tryz.pinned (OpenSpec.ofChange simplifySharesWrong)

/-- 'planispherelaw42.SimplifyFlat': WHATEVER THE INPUT: true; the input reads as it did. -/
def simplifyFlatSpec : ChangeSpec := { name := "simplifyFlat", fn := fun _ => fun
  | [d] => { results := [.lit (.bool true)], args := [d] }
  | _ => none }
def simplifyFlatRow : OpenClaim := { program := "ytibpaaajghbkoaagreat", sum := "1be0df796a409d2cad68c93e018ed62d6b81b199ca5f45c1bd67ec8002ce86e2", func := "planisphere/planispherelaw42.SimplifyFlat", spec := "simplifyFlat", inPlace := ["internal/bytealg.IndexByteString", "internal/bytealg.abigen_runtime_cmpstring"], unfollowed := true, recurses := true, plainKeys := false, apart := false }
def SimplifyFlatSaid : Prop := simplifyFlatRow.holds Tryz.pinned (OpenSpec.ofChange simplifyFlatSpec)

/-- ITS FALSE NEIGHBOUR: 'it returns false'. Refute it at one input. -/
def simplifyFlatWrong : ChangeSpec := { name := "simplifyFlat", fn := fun _ => fun
  | [d] => { results := [.lit (.bool false)], args := [d] }
  | _ => none }
def SimplifyFlatWrongFalsely : Prop := simplifyFlatRow.holds Tryz.pinned (OpenSpec.ofChange simplifyFlatWrong)

/-- 'planispherelaw42.SimplifyKeeps': WHATEVER THE INPUT: true; the input reads as it did. -/
def simplifyKeepsSpec : ChangeSpec := { name := "simplifyKeeps", fn := fun _ => fun
  | [d1, d2] => { results := [.lit (.bool true)], args := [d1, d2] }
  | _ => none }
def simplifyKeepsRow : OpenClaim := { program := "ytibpaaajghbkoaagreat", sum := "1be0df796a409d2cad68c93e018ed62d6b81b199ca5f45c1bd67ec8002ce86e2", func := "planisphere/planispherelaw42.SimplifyKeeps", spec := "simplifyKeeps", inPlace := ["internal/bytealg.IndexByteString", "internal/bytealg.abigen_runtime_cmpstring"], unfollowed := true, recurses := true, plainKeys := false, apart := false }
def SimplifyKeepsSaid : Prop := simplifyKeepsRow.holds Tryz.pinned (OpenSpec.ofChange simplifyKeepsSpec)

/-- ITS FALSE NEIGHBOUR: 'it returns false'. Refute it at one input. -/
def simplifyKeepsWrong : ChangeSpec := { name := "simplifyKeeps", fn := fun _ => fun
  | [d1, d2] => { results := [.lit (.bool false)], args := [d1, d2] }
  | _ => none }
def SimplifyKeepsWrongFalsely : Prop := simplifyKeepsRow.holds Tryz.pinned (OpenSpec.ofChange simplifyKeepsWrong)

/- THE SECOND FORM. 'bulk': how many values and letters a reading holds, each counted each time it is reached (what is shared counts as often as it is met; a slice's spare places count too). A statement '..UptoSaid' is the law's where the arguments, and the package variables that the reading takes, are together of bulk at most 1048576: NARROWER than '..Said'. Prove '..Said' where nothing that the law and all that it calls make is longer than what came in: it says more and counts as full. Else prove '..UptoSaid'. A law counts once. -/
mutual
def uptoBulk {H : Type} : DataW H → Nat
  | .lit (.string bytes) => bytes.length + 1
  | .lit _ => 1
  | .nil => 1
  | .ptr d => uptoBulk d + 1
  | .slice elems spare => uptoBulkAll elems + uptoBulkAll spare + 1
  | .agg parts => uptoBulkAll parts + 1
  | .iface _ d => uptoBulk d + 1
  | .map entries => uptoBulkEntries entries + 1
  | .held _ => 1
def uptoBulkAll {H : Type} : List (DataW H) → Nat
  | [] => 0
  | d :: r => uptoBulk d + uptoBulkAll r
def uptoBulkEntries {H : Type} : List (Lit × DataW H) → Nat
  | [] => 0
  | x :: r => uptoBulkEntry x + uptoBulkEntries r
def uptoBulkEntry {H : Type} : Lit × DataW H → Nat
  | (.string bytes, d) => bytes.length + uptoBulk d + 1
  | (_, d) => uptoBulk d + 1
 end
def uptoSmall : (H : Type) → List (DataW H) → Bool := fun _ ds => decide (uptoBulkAll ds ≤ 1048576)
def OpenSpec.upto (s : _root_.Go.ChangeSpec) : _root_.Go.OpenSpec := { _root_.Go.OpenSpec.ofChange s with cond := some uptoSmall }

/-- 'planispherelaw42.SimplifyMatchesReference', WHERE WHAT IT READS IS OF BULK AT MOST 1048576: true; the input reads as it did. -/
def simplifyMatchesReferenceUptoRow : OpenClaim := { program := "ytibpaaajghbkoaagreat", sum := "1be0df796a409d2cad68c93e018ed62d6b81b199ca5f45c1bd67ec8002ce86e2", func := "planisphere/planispherelaw42.SimplifyMatchesReference", spec := "simplifyMatchesReference", inPlace := ["internal/bytealg.IndexByteString"], unfollowed := true, recurses := true, plainKeys := false, apart := false, narrowed := true }
def SimplifyMatchesReferenceUptoSaid : Prop := simplifyMatchesReferenceUptoRow.holds Tryz.pinned (OpenSpec.upto simplifyMatchesReferenceSpec)

/-- 'planispherelaw42.SimplifyFurther', WHERE WHAT IT READS IS OF BULK AT MOST 1048576: true; the input reads as it did. -/
def simplifyFurtherUptoRow : OpenClaim := { program := "ytibpaaajghbkoaagreat", sum := "1be0df796a409d2cad68c93e018ed62d6b81b199ca5f45c1bd67ec8002ce86e2", func := "planisphere/planispherelaw42.SimplifyFurther", spec := "simplifyFurther", inPlace := ["internal/bytealg.IndexByteString"], unfollowed := true, recurses := true, plainKeys := false, apart := false, narrowed := true }
def SimplifyFurtherUptoSaid : Prop := simplifyFurtherUptoRow.holds Tryz.pinned (OpenSpec.upto simplifyFurtherSpec)

/-- 'planispherelaw42.SimplifyStays', WHERE WHAT IT READS IS OF BULK AT MOST 1048576: true; the input reads as it did. -/
def simplifyStaysUptoRow : OpenClaim := { program := "ytibpaaajghbkoaagreat", sum := "1be0df796a409d2cad68c93e018ed62d6b81b199ca5f45c1bd67ec8002ce86e2", func := "planisphere/planispherelaw42.SimplifyStays", spec := "simplifyStays", inPlace := ["internal/bytealg.IndexByteString", "internal/bytealg.abigen_runtime_cmpstring"], unfollowed := true, recurses := true, plainKeys := false, apart := false, narrowed := true }
def SimplifyStaysUptoSaid : Prop := simplifyStaysUptoRow.holds Tryz.pinned (OpenSpec.upto simplifyStaysSpec)

/-- 'planispherelaw42.SimplifyShares', WHERE WHAT IT READS IS OF BULK AT MOST 1048576: true; the input reads as it did. -/
def simplifySharesUptoRow : OpenClaim := { program := "ytibpaaajghbkoaagreat", sum := "1be0df796a409d2cad68c93e018ed62d6b81b199ca5f45c1bd67ec8002ce86e2", func := "planisphere/planispherelaw42.SimplifyShares", spec := "simplifyShares", inPlace := ["internal/bytealg.IndexByteString", "internal/bytealg.abigen_runtime_cmpstring"], unfollowed := true, recurses := true, plainKeys := false, apart := false, narrowed := true }
def SimplifySharesUptoSaid : Prop := simplifySharesUptoRow.holds Tryz.pinned (OpenSpec.upto simplifySharesSpec)

/-- 'planispherelaw42.SimplifyFlat', WHERE WHAT IT READS IS OF BULK AT MOST 1048576: true; the input reads as it did. -/
def simplifyFlatUptoRow : OpenClaim := { program := "ytibpaaajghbkoaagreat", sum := "1be0df796a409d2cad68c93e018ed62d6b81b199ca5f45c1bd67ec8002ce86e2", func := "planisphere/planispherelaw42.SimplifyFlat", spec := "simplifyFlat", inPlace := ["internal/bytealg.IndexByteString", "internal/bytealg.abigen_runtime_cmpstring"], unfollowed := true, recurses := true, plainKeys := false, apart := false, narrowed := true }
def SimplifyFlatUptoSaid : Prop := simplifyFlatUptoRow.holds Tryz.pinned (OpenSpec.upto simplifyFlatSpec)

/-- 'planispherelaw42.SimplifyKeeps', WHERE WHAT IT READS IS OF BULK AT MOST 1048576: true; the input reads as it did. -/
def simplifyKeepsUptoRow : OpenClaim := { program := "ytibpaaajghbkoaagreat", sum := "1be0df796a409d2cad68c93e018ed62d6b81b199ca5f45c1bd67ec8002ce86e2", func := "planisphere/planispherelaw42.SimplifyKeeps", spec := "simplifyKeeps", inPlace := ["internal/bytealg.IndexByteString", "internal/bytealg.abigen_runtime_cmpstring"], unfollowed := true, recurses := true, plainKeys := false, apart := false, narrowed := true }
def SimplifyKeepsUptoSaid : Prop := simplifyKeepsUptoRow.holds Tryz.pinned (OpenSpec.upto simplifyKeepsSpec)

end Rows
end Go.Proofs.YtibpaaajghbkoaaGreat
