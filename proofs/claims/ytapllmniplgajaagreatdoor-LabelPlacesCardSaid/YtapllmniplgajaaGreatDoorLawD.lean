/- different: whether all labels have different Ids. -/
import Derived.Test.YtapllmniplgajaaGreatDoorLawA
import Derived.Test.YtapllmniplgajaaGreatDoorLawO
namespace Go.Proofs.YtapllmniplgajaaGreatDoor
open Go.RowKit Go.Sort

def DiffPost (l : List LabD) (w : World) (e : Ending) (w' : World) : Prop := (∃ r, e = .returned (.bool r) ∧ (r = true → DistL l)) ∧ Below w.heap.size w w'
theorem dist_take (l : List LabD) (k : Nat) (x : LabD) (hx : l[k]? = some x) (h : DistL (l.take k)) (hn : ∀ (j : Nat) (y : LabD), j < k → l[j]? = some y → y.id ≠ x.id) : DistL (l.take (k + 1)) := by
  obtain ⟨hk, rfl⟩ := List.getElem?_eq_some_iff.1 hx
  rw [List.take_succ_eq_append_getElem hk]
  refine List.pairwise_append.2 ⟨h, List.pairwise_singleton _ _, fun a ha b hb => ?_⟩
  rw [List.mem_singleton.1 hb]
  obtain ⟨j, hj, rfl⟩ := List.getElem_of_mem ha
  rw [List.length_take] at hj
  rw [List.getElem_take]
  exact hn j _ (by omega) (List.getElem?_eq_getElem (by omega))

set_option maxRecDepth 100000 in
set_option maxHeartbeats 1000000 in
theorem different_any (v : Value) (l : List LabD) (w : World) (hv : LabRow w v l) (hl : l.length ≤ 4000) :
    Calls Tryz.prog 20 #[v] w (DiffPost l w) := by
  obtain ⟨a, cap, rfl, hc⟩ := hv
  obtain ⟨N, hN⟩ : ∃ N, l.length = N := ⟨_, rfl⟩
  rw [hN] at hc hl ⊢
  have HN := Lib.hid hN
  have HC := Lib.hid hc
  clear hN hc
  go_enter Tryz.func20, Tryz.ntmps20
  go_wp2
  go_loopw [3] (fun i wr => ∃ k : Nat, k ≤ N ∧ i = .int .i64 k ∧ DistL (l.take k) ∧ Below w.heap.size w wr) (fun i _ => N - (intOf i).toNat)
  case atStart => exact ⟨0, by omega, rfl, by simp [DistL], Below.refl _ _⟩
  case round =>
    obtain ⟨k, hk, rfl, hD, hbr⟩ := hrel
    have HD := Lib.hid hD
    clear hD
    by_cases hlt : k < N
    · obtain ⟨x, hx⟩ : ∃ x, l[k]? = some x := ⟨l[k]'(by rw [HN.out]; exact hlt), List.getElem?_eq_getElem _⟩
      obtain ⟨b, off, ha, hcell⟩ := HC.out (by omega)
      subst ha
      have HCL := Lib.hid hcell
      have HX := Lib.hid hx
      clear hcell hx
      go_wp2_with fail
      go_loopw [4] (fun i w2 => ∃ q : Nat, q ≤ k ∧ i = .int .i64 q ∧ (∀ (j : Nat) (y : LabD), j < q → l[j]? = some y → y.id ≠ x.id) ∧ Below wr.heap.size wr w2) (fun i _ => k - (intOf i).toNat)
      case atStart => exact ⟨0, by omega, rfl, (fun j y h _ => by omega), Below.refl _ _⟩
      case round =>
        obtain ⟨q, hq, rfl, hT, hb2⟩ := hrel
        have HT := Lib.hid hT
        clear hT
        have BR2 := below_step hbr (Nat.le_refl _) hb2
        by_cases hqk : q < k
        · obtain ⟨y, hy⟩ : ∃ y, l[q]? = some y := ⟨l[q]'(by rw [HN.out]; omega), List.getElem?_eq_getElem _⟩
          have hqN : q < N := by omega
          have c0 : wr.cell? ⟨b, off + k * 6, none⟩ = some (.string x.id) := cell_later BR2 (HCL.out k x HX.out 0 _ rfl)
          have d0 : wr.cell? ⟨b, off + q * 6, none⟩ = some (.string y.id) := cell_later BR2 (HCL.out q y hy 0 _ rfl)
          have HY := Lib.hid hy
          clear hy
          by_cases hxy : y.id = x.id
          · have he : (y.id.toList == x.id.toList) = true := str_eq_true hxy
            clear hxy
            go_wp2_with fail
            go_quiet (fail)
            go_wp2
            go_ret
            exact ⟨⟨false, rfl, fun h => by cases h⟩, BR2.drewN'⟩
          · have he : (y.id.toList == x.id.toList) = false := str_eq_false hxy
            have HG : Hid (∀ (j : Nat) (z : LabD), j < q + 1 → l[j]? = some z → z.id ≠ x.id) := Lib.hid (fun j z hj hz => by
              by_cases hjq : j = q
              · subst hjq
                rw [HY.out] at hz; cases hz; exact hxy
              · exact HT.out j z (by omega) hz)
            clear hxy
            go_wp2_with fail
            go_quiet (fail)
            go_wp2
            go_roundw
            case rel => exact ⟨q + 1, by omega, by go_num, HG.out, hb2.drewN'⟩
            case measure => simp [intOf]; omega
        · obtain rfl : q = k := by omega
          have HG := Lib.hid (dist_take l q x HX.out HD.out HT.out)
          go_wp2
          go_roundw
          case rel => exact ⟨q + 1, by omega, by go_num, HG.out, BR2⟩
          case measure => simp [intOf]; omega
    · obtain rfl : k = N := by omega
      have HR := Lib.hid (show DistL l by have := HD.out; rw [List.take_of_length_le (by rw [HN.out]; exact Nat.le_refl _)] at this; exact this)
      go_wp2
      go_ret
      exact ⟨⟨true, rfl, fun _ => HR.out⟩, hbr⟩
end Go.Proofs.YtapllmniplgajaaGreatDoor
