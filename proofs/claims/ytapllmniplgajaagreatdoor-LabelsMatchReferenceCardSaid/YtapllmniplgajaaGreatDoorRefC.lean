/- The reference's Sorted. -/
import Derived.Test.YtapllmniplgajaaGreatDoorRefA
import Derived.Test.YtapllmniplgajaaGreatDoorLawS
import Derived.Deep.CutBlock
import Derived.Deep.CutRange
namespace Go.Proofs.YtapllmniplgajaaGreatDoor
open Go.RowKit Go.Sort Go.Lib

def SortedPost (l : List LabD) (w : World) (e : Ending) (w' : World) : Prop := ∃ v', e = .returned v' ∧ w'.ownsRow w.heap.size 47 6 v' l.length ((isort (ltOf cfL) l).flatMap encL) ∧ Below w.heap.size w w'
theorem own_cap {w : World} {base size n : Nat} {e : TypeId} {ao : Option Addr} {m c : Nat} {xs : List Value} (h : w.ownsRow base e size (.slice ao m c) n xs) : m = n ∧ n ≤ c := by
  rcases h.2 with ⟨h1, h2⟩ | ⟨g, cap, cur, h1, _, _, h2, _⟩
  · injection h1 with a b d; subst b d; omega
  · injection h1 with a b d; subst b d; exact ⟨rfl, h2⟩


set_option maxRecDepth 100000 in
set_option maxHeartbeats 4000000 in
theorem rsorted_any (v : Value) (l : List LabD) (w : World) (hv : LabRow w v l) (hl : l.length ≤ 40) :
    Calls Tryz.prog 21 #[v] w (SortedPost l w) := by
  obtain ⟨a, cap, rfl, hc⟩ := hv
  obtain ⟨i0, hi, hi0, hi1, hi2⟩ := info_parts infoLabel
  obtain ⟨N, hN⟩ : ∃ N, l.length = N := ⟨_, rfl⟩
  rw [hN] at hc hl ⊢
  have HN := Lib.hid hN
  have HC := Lib.hid hc
  clear hN hc
  go_enter Tryz.func21, Tryz.ntmps21
  go_wp2_with fail
  go_loopw [3, 4] (fun v3 i wr => ∃ (k : Nat) (ao : Option Addr) (c : Nat), k ≤ N ∧ i = .int .i64 k ∧ v3 = .slice ao k c ∧ wr.ownsRow w.heap.size 47 6 (.slice ao k c) k ((isort (ltOf cfL) (l.take k)).flatMap encL) ∧ Below w.heap.size w wr) (fun _ i _ => N - (intOf i).toNat)
  case atStart => exact ⟨0, none, 0, by omega, rfl, rfl, World.ownsRow_nil _ _ _ _, Below.refl _ _⟩
  case round =>
    obtain ⟨k, ao, c, hk, rfl, rfl, hown, hbr⟩ := hrel
    by_cases hlt : k < N
    · obtain ⟨x, hx⟩ : ∃ x, l[k]? = some x := ⟨l[k]'(by rw [HN.out]; exact hlt), List.getElem?_eq_getElem _⟩
      obtain ⟨b, off, ha, hcell⟩ := HC.out (by omega)
      subst ha
      have HCX := Lib.hid (fun i u hu => hcell k x hx i u hu)
      have hkc := (own_cap hown).2
      have HT := Lib.hid (show isort (ltOf cfL) (l.take (k + 1)) = insL (ltOf cfL) x (isort (ltOf cfL) (l.take k)) by
        obtain ⟨hk', rfl⟩ := List.getElem?_eq_some_iff.1 hx
        rw [List.take_succ_eq_append_getElem hk', isort_snoc])
      have hal : (isort (ltOf cfL) (l.take k)).length = k := by rw [isort_length, List.length_take, HN.out]; omega
      have hord := isort_ord _ swoL (l.take k)
      generalize isort (ltOf cfL) (l.take k) = acc at hown HT hal hord
      have HORD := Lib.hid hord
      have HAL := Lib.hid hal
      have HR := Lib.hid (RowE.of_own encL_len hal.symm hown)
      have HOWN := Lib.hid hown
      clear hcell hx hord hal hown
      go_upto_block 2 with fail
      go_cut [5] from 14 to 59 (fun v5 wx => ∃ q : Nat, q ≤ k ∧ v5 = .int .i64 q ∧ insL (ltOf cfL) x acc = acc.take q ++ [x] ++ acc.drop q ∧ Below wr.heap.size wr wx)
      case first =>
        obtain ⟨wo, rfl⟩ : ∃ wo, wo = wr := ⟨_, rfl⟩
        go_wp2_with fail
        go_loopw [5] (fun i w2 => ∃ q : Nat, q ≤ k ∧ i = .int .i64 q ∧ (∀ (j : Nat) (y : LabD), q ≤ j → acc[j]? = some y → ltOf cfL x y = true) ∧ Below wo.heap.size wo w2) (fun i _ => (intOf i).toNat)
        case atStart => exact ⟨k, Nat.le_refl _, rfl, (fun j y hj hy => by have := (List.getElem?_eq_some_iff.1 hy).1; rw [HAL.out] at this; omega), Below.refl _ _⟩
        case round =>
          obtain ⟨q, hq, rfl, hT, hb2⟩ := hrel
          have HTT := Lib.hid hT
          clear hT
          have BR2 := below_step hbr (Nat.le_refl _) hb2
          have c0 : wr.cell? ⟨b, off + k * 6, none⟩ = some (.string x.id) := cell_later BR2 (HCX.out 0 _ rfl)
          have c5 : wr.cell? ⟨b, off + k * 6 + 5, none⟩ = some (.int .i64 x.rank) := cell_later BR2 (HCX.out 5 _ rfl)
          rcases q with _ | m
          · have HG := Lib.hid (insL_at swoL x acc HORD.out 0 (Nat.zero_le _) (fun j y hj hy => HTT.out j y hj hy) (fun m y hm => by omega))
            go_wp2_with fail
            go_quiet (fail)
            go_wp2
            go_meet
            case rel => exact ⟨0, Nat.zero_le _, rfl, HG.out, hb2.drewN'⟩
          · obtain ⟨y, hy⟩ : ∃ y, acc[m]? = some y := ⟨acc[m]'(by rw [HAL.out]; omega), List.getElem?_eq_getElem _⟩
            obtain ⟨ao2, cap2, hv2, hco⟩ := HR.out
            obtain ⟨bo, offo, hao, hcell⟩ := hco (by rw [HAL.out]; omega)
            have hao2 : ao = some ⟨bo, offo, none⟩ := by injection hv2 with e1 _ _; rw [e1, hao]
            subst hao2
            clear hv2 hco hao ao2 cap2
            have d0 : wr.cell? ⟨bo, offo + m * 6, none⟩ = some (.string y.id) := cell_later hb2 (hcell m y hy 0 _ rfl)
            have d5 : wr.cell? ⟨bo, offo + m * 6 + 5, none⟩ = some (.int .i64 y.rank) := cell_later hb2 (hcell m y hy 5 _ rfl)
            have HY := Lib.hid hy
            clear hcell hy
            have WM : IntKind.i64.wrap (((m + 1 : Nat) : Int) - 1) = (m : Int) := (IntWalk.i64_in _ (by omega)).trans (by omega)
            have WM2 : IntKind.i64.wrap (m : Int) = (m : Int) := IntWalk.i64_in _ (by omega)
            have WG : decide ((0 : Int) < ((m + 1 : Nat) : Int)) = true := by rw [decide_eq_true_eq]; omega
            have hmk : m < k := by omega
            have hcf := cfL_lt x y
            have HTn : Hid (ltOf cfL x y = true → ∀ (j : Nat) (z : LabD), m ≤ j → acc[j]? = some z → ltOf cfL x z = true) := Lib.hid (fun h j z hj hz => by
              by_cases hjm : j = m
              · subst hjm; rw [HY.out] at hz; cases hz; exact h
              · exact HTT.out j z (by omega) hz)
            have HGn : Hid (ltOf cfL x y = false → insL (ltOf cfL) x acc = acc.take (m + 1) ++ [x] ++ acc.drop (m + 1)) := Lib.hid (fun h => insL_at swoL x acc HORD.out (m + 1) (by rw [HAL.out]; omega) (fun j z hj hz => HTT.out j z hj hz) (fun m' z hm hz => by
              obtain rfl : m' = m := by omega
              rw [HY.out] at hz; cases hz; exact h))
            by_cases e1 : x.rank < y.rank
            · have HT2 := Lib.hid (HTn.out (by rw [hcf]; simp [e1]))
              clear hcf
              go_wp2_with fail
              go_quiet (fail)
              go_wp2
              go_roundw
              case rel => exact ⟨m, by omega, by go_num, HT2.out, hb2.drewN'⟩
              case measure => simp [intOf]; try omega
            · by_cases e2 : x.rank = y.rank
              · cases e3 : ltB x.id y.id
                · have HG := Lib.hid (HGn.out (by rw [hcf]; simp [e1, e3]))
                  have LQ : Op.bytesLess x.id.toList y.id.toList = false := e3
                  clear hcf e3
                  rw [e2] at c5 e1
                  clear e2
                  go_wp2_with fail
                  go_quiet (fail)
                  go_wp2
                  go_meet
                  case rel => exact ⟨m + 1, by omega, by go_num, HG.out, hb2.drewN'⟩
                · have HT2 := Lib.hid (HTn.out (by rw [hcf]; simp [e2, e3]))
                  have LQ : Op.bytesLess x.id.toList y.id.toList = true := e3
                  clear hcf e3
                  rw [e2] at c5 e1
                  clear e2
                  go_wp2_with fail
                  go_quiet (fail)
                  go_wp2
                  go_roundw
                  case rel => exact ⟨m, by omega, by go_num, HT2.out, hb2.drewN'⟩
                  case measure => simp [intOf]; try omega
              · have HG := Lib.hid (HGn.out (by rw [hcf]; simp [e1, e2]))
                obtain ⟨xr, hxr⟩ : ∃ r, x.rank = r := ⟨_, rfl⟩
                obtain ⟨yr, hyr⟩ : ∃ r, y.rank = r := ⟨_, rfl⟩
                have e4 : (xr == yr) = false := by rw [← hxr, ← hyr]; simp [e2]
                have e5 : ¬ xr = yr := by rw [← hxr, ← hyr]; exact e2
                have e6 : ¬ xr < yr := by rw [← hxr, ← hyr]; exact e1
                rw [hxr] at c5
                rw [hyr] at d5
                have e7 : decide (xr < yr) = false := decide_eq_false e6
                have HXR := Lib.hid hxr
                clear hcf e1 e2 hxr hyr
                go_wp2_with fail
                go_quiet (fail)
                go_wp2
                go_meet
                case rel => exact ⟨m + 1, by omega, by go_num, HG.out, hb2.drewN'⟩
      case rest =>
        obtain ⟨q, hq, rfl, hG, BQ⟩ := hcut
        have HG := Lib.hid hG
        obtain ⟨w3, rfl⟩ : ∃ w3, w3 = wc := ⟨_, rfl⟩
        clear hG
        go_wp2_with fail
        have BRQ := below_step hbr (Nat.le_refl _) BQ
        have x0 : w3.cell? ⟨b, off + k * 6, none⟩ = some (.string x.id) := cell_later BRQ (HCX.out 0 _ rfl)
        have x1 : w3.cell? ⟨b, off + k * 6 + 1, none⟩ = some (.int .i64 x.x) := cell_later BRQ (HCX.out 1 _ rfl)
        have x2 : w3.cell? ⟨b, off + k * 6 + 2, none⟩ = some (.int .i64 x.y) := cell_later BRQ (HCX.out 2 _ rfl)
        have x3 : w3.cell? ⟨b, off + k * 6 + 3, none⟩ = some (.int .i64 x.w) := cell_later BRQ (HCX.out 3 _ rfl)
        have x4 : w3.cell? ⟨b, off + k * 6 + 4, none⟩ = some (.int .i64 x.h) := cell_later BRQ (HCX.out 4 _ rfl)
        have x5 : w3.cell? ⟨b, off + k * 6 + 5, none⟩ = some (.int .i64 x.rank) := cell_later BRQ (HCX.out 5 _ rfl)
        have R3 := HR.out.later BQ
        have hqk : q ≤ k := hq
        have hkq : (q : Int) ≤ k := by omega
        have hkc' : (k : Int) ≤ c := by omega
        have hqc : (q : Int) ≤ c := by omega
        have LT : ((acc.take (q)).flatMap encL).length = (q) * 6 := by rw [flat_length encL 6 encL_len, List.length_take, HAL.out, Nat.min_eq_left hq]
        have LD : ((acc.drop (q)).flatMap encL).length = (k - (q)) * 6 := by rw [flat_length encL 6 encL_len, List.length_drop, HAL.out]
        go_region_held3 (fun w' => w'.cell? ⟨b, off + k * 6, none⟩ = some (.string x.id) ∧ w'.cell? ⟨b, off + k * 6 + 1, none⟩ = some (.int .i64 x.x) ∧ w'.cell? ⟨b, off + k * 6 + 2, none⟩ = some (.int .i64 x.y) ∧ w'.cell? ⟨b, off + k * 6 + 3, none⟩ = some (.int .i64 x.w) ∧ w'.cell? ⟨b, off + k * 6 + 4, none⟩ = some (.int .i64 x.h) ∧ w'.cell? ⟨b, off + k * 6 + 5, none⟩ = some (.int .i64 x.rank) ∧ Below w3.heap.size w3 w')
          (first
            | exact ⟨x0, x1, x2, x3, x4, x5, (Below.refl _ _).drew⟩
            | (have hq := ‹_ ∧ _ ∧ _ ∧ _ ∧ _ ∧ _ ∧ Below w3.heap.size w3 _›; exact ⟨cell_upn hq.1, cell_upn hq.2.1, cell_upn hq.2.2.1, cell_upn hq.2.2.2.1, cell_upn hq.2.2.2.2.1, cell_upn hq.2.2.2.2.2.1, hq.2.2.2.2.2.2.alloc hq.2.2.2.2.2.2.size _⟩)
            | (have hq := ‹_ ∧ _ ∧ _ ∧ _ ∧ _ ∧ _ ∧ Below w3.heap.size w3 _›; have B := hq.2.2.2.2.2.2.trans hbA; exact ⟨cell_later B x0, cell_later B x1, cell_later B x2, cell_later B x3, cell_later B x4, cell_later B x5, B⟩)
            | assumption)
          (first
            | (rw [if_pos (by rfl)]; refine wp_append_own_src _ (.tmp 60) (.tmp 63) 22 rfl w3.heap.size 47 i0 (.agg #[.string ⟨#[]⟩, .int .i64 0, .int .i64 0, .int .i64 0, .int .i64 0, .int .i64 0]) 6 56 Tryz.underlying22 hi hi0 hi1 hi2 rfl (by decide) _ 0 [] rfl (by first | exact World.ownsRow_made _ #[] 0 (by first | exact Nat.le_refl _ | exact (‹_ ∧ _ ∧ _ ∧ _ ∧ _ ∧ _ ∧ Below w3.heap.size w3 _›).2.2.2.2.2.2.size | (simp; done) | (simp; omega)) (by decide) rfl | exact (World.ownsRow_made _ #[] 0 (by first | exact Nat.le_refl _ | exact (‹_ ∧ _ ∧ _ ∧ _ ∧ _ ∧ _ ∧ Below w3.heap.size w3 _›).2.2.2.2.2.2.size | (simp; done) | (simp; omega)) (by decide) rfl).alloc _ | exact owns_made1 _ _ #[] 0 (Nat.le_refl _) (by decide) rfl) (q) ((acc.take (q)).flatMap encL) (src_take (R3.later (‹_ ∧ _ ∧ _ ∧ _ ∧ _ ∧ _ ∧ Below w3.heap.size w3 _›).2.2.2.2.2.2) HAL.out.symm hqk _) LT (flat_one _) (by unfold maxLen; omega) (by omega) (by first | exact Nat.le_refl _ | exact (‹_ ∧ _ ∧ _ ∧ _ ∧ _ ∧ _ ∧ Below w3.heap.size w3 _›).2.2.2.2.2.2.size | (simp; done) | (simp; omega)) ?_; intro v1 w1 hown1 hgrow1 hbA)
            | (rw [if_pos (by rfl)]; refine wp_append_own_src _ (.tmp 64) (.tmp 69) 22 rfl w3.heap.size 47 i0 (.agg #[.string ⟨#[]⟩, .int .i64 0, .int .i64 0, .int .i64 0, .int .i64 0, .int .i64 0]) 6 56 Tryz.underlying22 hi hi0 hi1 hi2 rfl (by decide) _ (0 + (q)) ([] ++ (acc.take (q)).flatMap encL) rfl (by first | exact hown1 | exact hown1.alloc _) 1 (encL x) (by first | exact ⟨some _, _, rfl, Or.inr ⟨_, rfl, cells_new _ _ _⟩⟩ | exact ⟨some _, _, rfl, Or.inr ⟨_, rfl, fun j u hu => hgrow1.cell (cells_new1 _ _ _ _ j u hu) (by rw [Addr.add_lit]; show some (w3.heap.size + 1) ≠ some w3.heap.size; simp)⟩⟩ | exact ⟨some _, _, rfl, Or.inr ⟨_, rfl, fun j u hu => hgrow1.cell (cell_upn (cells_new0 _ _ _ j u hu)) (by rw [Addr.add_lit]; show some w3.heap.size ≠ some (w3.heap.size + 1); simp)⟩⟩) (encL_len x) (encL_one x) (by unfold maxLen; omega) (by omega) (by first | exact Nat.le_refl _ | exact (‹_ ∧ _ ∧ _ ∧ _ ∧ _ ∧ _ ∧ Below w3.heap.size w3 _›).2.2.2.2.2.2.size | (simp; done) | (simp; omega)) ?_; intro v2 w2 hown2 hgrow2 hbA)
            | (rw [if_pos (by rfl)]; refine wp_append_own_src _ (.tmp 70) (.tmp 73) 22 rfl w3.heap.size 47 i0 (.agg #[.string ⟨#[]⟩, .int .i64 0, .int .i64 0, .int .i64 0, .int .i64 0, .int .i64 0]) 6 56 Tryz.underlying22 hi hi0 hi1 hi2 rfl (by decide) _ (0 + (q) + 1) ([] ++ (acc.take (q)).flatMap encL ++ encL x) rfl hown2 (k - (q)) ((acc.drop (q)).flatMap encL) (by first | exact src_drop (R3.later (‹_ ∧ _ ∧ _ ∧ _ ∧ _ ∧ _ ∧ Below w3.heap.size w3 _›).2.2.2.2.2.2) HAL.out.symm hqk hkc | exact src_whole (R3.later (‹_ ∧ _ ∧ _ ∧ _ ∧ _ ∧ _ ∧ Below w3.heap.size w3 _›).2.2.2.2.2.2) HAL.out.symm) LD (flat_one _) (by unfold maxLen; omega) (by omega) (by first | exact Nat.le_refl _ | exact (‹_ ∧ _ ∧ _ ∧ _ ∧ _ ∧ _ ∧ Below w3.heap.size w3 _›).2.2.2.2.2.2.size | (simp; done) | (simp; omega)) ?_; intro v3 w4 hown3 hgrow3 hbA))
        all_goals (
          have B9 := below_step BRQ (Nat.le_refl _) (‹_ ∧ _ ∧ _ ∧ _ ∧ _ ∧ _ ∧ Below w3.heap.size w3 _›).2.2.2.2.2.2
          have HOW := own_base hown3 BRQ.size
          rw [show 0 + (q) + 1 + (k - (q)) = k + 1 by omega, show [] ++ (acc.take (q)).flatMap encL ++ encL x ++ (acc.drop (q)).flatMap encL = (isort (ltOf cfL) (l.take (k + 1))).flatMap encL by rw [HT.out, HG.out]; simp] at HOW
          obtain ⟨ao', c', rfl⟩ := own_form HOW
          have HOWh := Lib.hid HOW
          clear HOW hown1 hown2 hown3 hgrow1 hgrow2 hgrow3 hbA
          go_wp2
          go_roundw
          case rel => exact ⟨k + 1, ao', c', by omega, by go_num, rfl, HOWh.out, B9⟩
          case measure => simp [intOf]; omega)
    · obtain rfl : k = N := by omega
      have htk : l.take k = l := List.take_of_length_le (by rw [HN.out]; exact Nat.le_refl _)
      rw [htk] at hown
      have HOW := Lib.hid hown
      clear hown
      go_wp2
      go_ret
      exact ⟨_, rfl, by rw [HN.out]; exact HOW.out, hbr⟩
end Go.Proofs.YtapllmniplgajaaGreatDoor
