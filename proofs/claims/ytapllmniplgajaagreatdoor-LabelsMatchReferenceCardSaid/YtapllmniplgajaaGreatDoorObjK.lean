/- When an object is valid. -/
import Derived.Test.YtapllmniplgajaaGreatDoorObjR
namespace Go.Proofs.YtapllmniplgajaaGreatDoor
open Go.RowKit

/-- Is an object valid? -/
def objOK (o : ObjD) : Bool :=
  decide (1 ≤ o.kind ∧ o.kind ≤ 5) && nameB o.id && tagsOK o.tags && decide (leastK o.kind ≤ o.refs.length) && decide (o.refs.length ≤ 2000) && refsFrom o.kind [] o.refs &&
    (if o.kind = 1 then decide (o.refs.length = 0) && onB o.x o.y else if o.kind = 5 then decide (o.refs.length = 3) && decide (o.x = 0 ∧ o.y = 0) else decide (o.x = 0 ∧ o.y = 0))
/-- The reference's order of the same conditions. -/
theorem objOK_ref (o : ObjD) : objOK o = (nameB o.id && decide (1 ≤ o.kind ∧ o.kind ≤ 5) && (if o.kind = 1 then onB o.x o.y else decide (o.x = 0 ∧ o.y = 0)) && tagsOK o.tags && (decide (o.refs.length ≤ 2000) && refsFrom o.kind [] o.refs && refsEnd o.kind o.refs.length)) := by
  unfold objOK refsEnd leastK
  by_cases hk : 1 ≤ o.kind ∧ o.kind ≤ 5
  · cases nameB o.id <;> cases tagsOK o.tags <;> cases refsFrom o.kind [] o.refs <;> simp only [Bool.and_false, Bool.false_and, Bool.and_true, Bool.true_and, hk, and_self, decide_true]
    obtain h | h | h | h | h : o.kind = 1 ∨ o.kind = 2 ∨ o.kind = 3 ∨ o.kind = 4 ∨ o.kind = 5 := by omega
    all_goals
      simp only [h]
      rw [Bool.eq_iff_iff]
      cases onB o.x o.y <;> first | (simp; done) | (simp; omega)
  · simp [hk]
end Go.Proofs.YtapllmniplgajaaGreatDoor
