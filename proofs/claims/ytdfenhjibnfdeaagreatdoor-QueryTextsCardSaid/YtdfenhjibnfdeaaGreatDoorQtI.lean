/- The plain law of QueryGaps, and the law's tokens. -/
import Derived.Test.YtdfenhjibnfdeaaGreatDoorQtG
import Derived.Test.YtdfenhjibnfdeaaGreatDoorQtH
namespace Go.Proofs.YtdfenhjibnfdeaaGreatDoor
open Go.RowKit Go.Shelf

theorem parse_ok_sim {s : ByteArray} {T L : List TokD} {G : Nat} {q : QryD} {r : List TokD} (h : lexP s = (T, 0, 0)) (hs : SimT L T) (hq : queryP G L = .ok q r) : parseQ s = if 60 < sizeC q.wher then (zeroQ, 2, 0) else (q, 0, 0) := by
  have hsim := sim_query G s.size _ _ hs
  rw [hq] at hsim
  unfold parseQ
  rw [h]
  show (match queryP s.size T with | .bad er off => _ | .ok q _ => _) = _
  cases hq2 : queryP s.size T with
  | ok q' r' => rw [hq2] at hsim; obtain ⟨rfl, -⟩ := hsim; rfl
  | bad e o => rw [hq2] at hsim; exact hsim.elim
theorem parse_bad_sim {s : ByteArray} {T L : List TokD} {G : Nat} {e : Int} {o : Nat} (h : lexP s = (T, 0, 0)) (hs : SimT L T) (hq : queryP G L = .bad e o) : (parseQ s).1 = zeroQ ∧ (parseQ s).2.1 = e := by
  have hsim := sim_query G s.size _ _ hs
  rw [hq] at hsim
  have : parseQ s = (match queryP s.size T with
    | .bad er off => (zeroQ, er, (off : Int))
    | .ok q _ => if 60 < sizeC q.wher then (zeroQ, 2, 0) else (q, 0, 0)) := by unfold parseQ; rw [h]; rfl
  rw [this]
  cases hq2 : queryP s.size T with
  | ok q' r' => rw [hq2] at hsim; exact hsim.elim
  | bad e' o' => rw [hq2] at hsim; exact ⟨rfl, hsim.symm⟩
end Go.Proofs.YtdfenhjibnfdeaaGreatDoor
namespace Go.Proofs.YtdfenhjibnfdeaaGreatDoor
open Go.RowKit Go.Shelf

end Go.Proofs.YtdfenhjibnfdeaaGreatDoor
namespace Go.Proofs.YtdfenhjibnfdeaaGreatDoor
open Go.RowKit Go.Shelf

end Go.Proofs.YtdfenhjibnfdeaaGreatDoor
