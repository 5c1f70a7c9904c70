/- The reference's Before, Ids, Same; the law's named. -/
import Derived.Test.YtbkomdinchiffaaGreatBorX
import Derived.Test.YtbkomdinchiffaaGreatBorLaw
namespace Go.Proofs.YtbkomdinchiffaaGreat
open Go.RowKit Go.Sort

theorem before_drop {a b : List ByteArray} {i : Nat} {x y : ByteArray} (hx : a[i]? = some x) (hy : b[i]? = some y) : beforeL (a.drop i) (b.drop i) = if x = y then beforeL (a.drop (i + 1)) (b.drop (i + 1)) else ltB x y := by
  obtain ⟨h1, rfl⟩ := List.getElem?_eq_some_iff.1 hx
  obtain ⟨h2, rfl⟩ := List.getElem?_eq_some_iff.1 hy
  rw [List.drop_eq_getElem_cons h1, List.drop_eq_getElem_cons h2, beforeL]
theorem before_end {a b : List ByteArray} {i : Nat} (h : ¬ (i < a.length ∧ i < b.length)) (ha : i ≤ a.length) (hb : i ≤ b.length) : beforeL (a.drop i) (b.drop i) = decide (a.length < b.length) := by
  by_cases h1 : i < a.length
  · have h2 : i = b.length := by omega
    subst h2
    rw [List.drop_length, decide_eq_false (by omega)]
    cases h3 : a.drop b.length <;> rfl
  · have h2 : i = a.length := by omega
    subst h2
    rw [List.drop_length]
    cases h3 : b.drop a.length with
    | nil =>
      have := List.drop_eq_nil_iff.1 h3
      rw [decide_eq_false (by omega)]; rfl
    | cons z r =>
      have : ¬ b.length ≤ a.length := fun c => by rw [List.drop_eq_nil_iff.2 c] at h3; cases h3
      rw [decide_eq_true (by omega)]; rfl

theorem toList_ne {x y : ByteArray} (h : ¬ x = y) : (x.toList == y.toList) = false := by
  rw [ByteArray.toList_eq, ByteArray.toList_eq]
  exact beq_false_of_ne (fun e => h (ByteArray.ext (Array.toList_inj.mp e)))
set_option maxRecDepth 100000 in
set_option maxHeartbeats 2000000 in
theorem rbefore_any (va vb : Value) (a b : List ByteArray) (w : World) (ha : StrRow w va a) (hb : StrRow w vb b) :
    Calls Tryz.prog 21 #[va, vb] w fun e w' => e = .returned (.bool (beforeL a b)) ∧ Below w.heap.size w w' := by
  obtain ⟨xa, ca, rfl, hna, hza, hca⟩ := ha
  obtain ⟨xb, cb, rfl, hnb, hzb, hcb⟩ := hb
  have HA := Lib.hid hca
  have HB := Lib.hid hcb
  obtain ⟨na, hla⟩ : ∃ n, a.length = n := ⟨_, rfl⟩
  obtain ⟨nb, hlb⟩ : ∃ n, b.length = n := ⟨_, rfl⟩
  rw [hla] at hna HA ⊢
  rw [hlb] at hnb HB ⊢
  have HLA := Lib.hid hla
  have HLB := Lib.hid hlb
  obtain ⟨r, hr⟩ : ∃ z, z = beforeL a b := ⟨_, rfl⟩
  rw [← hr]
  have HR := Lib.hid hr
  clear hca hcb hla hlb hza hzb hr
  go_enter Tryz.func21, Tryz.ntmps21
  go_wp2_with fail
  go_loopw [5] (fun i wr => ∃ k : Nat, k ≤ na ∧ k ≤ nb ∧ i = .int .i64 k ∧ r = beforeL (a.drop k) (b.drop k) ∧ Below w.heap.size w wr) (fun i _ => na - (intOf i).toNat)
  case atStart => exact ⟨0, by omega, by omega, rfl, HR.out, Below.refl _ _⟩
  case round =>
    obtain ⟨k, hk1, hk2, rfl, ht, hbr⟩ := hrel
    have HT := Lib.hid ht
    clear ht
    by_cases h1 : k < na
    case neg =>
      have HE := Lib.hid (show r = decide (na < nb) by
        rw [HT.out, before_end (by rw [HLA.out]; omega) (by rw [HLA.out]; exact hk1) (by rw [HLB.out]; exact hk2), HLA.out, HLB.out])
      have e1 : decide ((k : Int) < (na : Int)) = false := decide_eq_false (by omega)
      have e2 : ¬ (k : Int) < (na : Int) := by omega
      go_wp2
      go_ret
      exact ⟨by rw [HE.out] <;> rfl, hbr⟩
    by_cases h2 : k < nb
    case neg =>
      have HE := Lib.hid (show r = decide (na < nb) by
        rw [HT.out, before_end (by rw [HLB.out]; omega) (by rw [HLA.out]; exact hk1) (by rw [HLB.out]; exact hk2), HLA.out, HLB.out])
      have e1 : decide ((k : Int) < (na : Int)) = true := decide_eq_true (by omega)
      have e2 : decide ((k : Int) < (nb : Int)) = false := decide_eq_false (by omega)
      have e3 : ¬ (k : Int) < (nb : Int) := by omega
      go_wp2
      go_ret
      exact ⟨by rw [HE.out] <;> rfl, hbr⟩
    have e1 : decide ((k : Int) < (na : Int)) = true := decide_eq_true (by omega)
    have e2 : decide ((k : Int) < (nb : Int)) = true := decide_eq_true (by omega)
    obtain ⟨x, hx⟩ : ∃ x, a[k]? = some x := ⟨a[k]'(by rw [HLA.out]; exact h1), List.getElem?_eq_getElem _⟩
    obtain ⟨y, hy⟩ : ∃ y, b[k]? = some y := ⟨b[k]'(by rw [HLB.out]; exact h2), List.getElem?_eq_getElem _⟩
    obtain ⟨ba, oa, hxa, ga⟩ := HA.out (by omega)
    subst hxa
    obtain ⟨bb, ob, hxb, gb⟩ := HB.out (by omega)
    subst hxb
    have v0 := cell_later hbr (ga k x hx)
    have v1 := cell_later hbr (gb k y hy)
    have HS := Lib.hid (HT.out.trans (before_drop hx hy))
    clear ga gb hx hy
    by_cases hxy : x = y
    · have HS2 := Lib.hid (show r = beforeL (a.drop (k + 1)) (b.drop (k + 1)) by rw [HS.out, if_pos hxy])
      subst hxy
      clear HS
      go_wp2_with fail
      go_quiet (fail)
      go_wp2
      go_roundw
      case rel => exact ⟨k + 1, by omega, by omega, by go_num, HS2.out, hbr.drewN'⟩
      case measure => simp [intOf]; omega
    · have HE := Lib.hid (show r = Op.bytesLess x.toList y.toList by rw [HS.out, if_neg hxy]; rfl)
      have n1 := toList_ne hxy
      clear HS
      go_wp2_with fail
      go_quiet (fail)
      go_wp2_with fail
      go_quiet (fail)
      go_wp2
      go_ret
      exact ⟨by rw [HE.out] <;> rfl, hbr.drewN'.drewN'⟩

set_option maxRecDepth 100000 in
set_option maxHeartbeats 2000000 in
theorem rids_any (va vb : Value) (a b : List ByteArray) (w : World) (ha : StrRow w va a) (hb : StrRow w vb b) :
    Calls Tryz.prog 29 #[va, vb] w fun e w' => e = .returned (.bool (decide (a = b))) ∧ Below w.heap.size w w' := by
  have B1 := Lib.hid (fun W h => rbefore_any va vb a b W (ha.later (w' := W) h) (hb.later h))
  have B2 := Lib.hid (fun W h => rbefore_any vb va b a W (hb.later (w' := W) h) (ha.later h))
  rw [← ids_same]
  generalize beforeL a b = r1 at B1 ⊢
  generalize beforeL b a = r2 at B2 ⊢
  clear ha hb
  go_enter Tryz.func29, Tryz.ntmps29
  go_wp2_with fail
  refine (B1.out _ (Below.refl _ _)).mono ?_
  rintro e w2 ⟨rfl, hb2⟩
  cases r1 with
  | true =>
    go_wp2
    go_ret
    exact ⟨rfl, hb2⟩
  | false =>
    go_wp2_with fail
    refine (B2.out _ hb2).mono ?_
    rintro e w3 ⟨rfl, hb3⟩
    have B3 := below_step hb2 (Nat.le_refl _) hb3
    go_wp2
    go_ret
    exact ⟨by simp, B3⟩

theorem vios_get {w : World} {v : Value} {ks : List KeyD} (h : ViosAt w v ks) : ∃ (ao : Option Addr) (cap : Nat), v = .slice ao ks.length cap ∧ (0 < ks.length → ∃ b off, ao = some ⟨b, off, none⟩ ∧ ∀ (i : Nat) (k : KeyD), ks[i]? = some k → ∃ vi : Value, w.cell? ⟨b, off + i * 3, none⟩ = some (.string ⟨#[]⟩) ∧ w.cell? ⟨b, off + i * 3 + 1, none⟩ = some (.int .i64 2) ∧ w.cell? ⟨b, off + i * 3 + 2, none⟩ = some vi ∧ StrRow w vi (idsK k)) := by
  obtain ⟨L, hL, hk, hs⟩ := h
  subst hk
  obtain ⟨ao, cap, rfl, hc⟩ := hL
  rw [List.length_map]
  refine ⟨ao, cap, rfl, fun hp => ?_⟩
  obtain ⟨b, off, ha, hcell⟩ := hc hp
  refine ⟨b, off, ha, fun i k hk => ?_⟩
  rw [List.getElem?_map] at hk
  obtain ⟨x, hx, rfl⟩ := Option.map_eq_some_iff.1 hk
  exact ⟨_, hcell i x hx 0 _ rfl, hcell i x hx 1 _ rfl, hcell i x hx 2 _ rfl, hs x (List.mem_of_getElem? hx)⟩
theorem ViosAt.later {w w' : World} {v : Value} {ks : List KeyD} (h : ViosAt w v ks) (hb : Below w.heap.size w w') : ViosAt w' v ks := by
  obtain ⟨L, hL, hk, hs⟩ := h
  exact ⟨L, hL.later hb, hk, fun x hx => (hs x hx).later hb⟩
theorem ViosAt.nil (w : World) : ViosAt w (.slice none 0 0) [] := ⟨[], ⟨none, 0, rfl, fun h => by simp at h⟩, rfl, fun x hx => by cases hx⟩
theorem take_eq {α : Type} {a b : List α} {k : Nat} (h : a.take k = b.take k) {x y : α} (hx : a[k]? = some x) (hy : b[k]? = some y) (e : x = y) : a.take (k + 1) = b.take (k + 1) := by
  obtain ⟨h1, rfl⟩ := List.getElem?_eq_some_iff.1 hx
  obtain ⟨h2, rfl⟩ := List.getElem?_eq_some_iff.1 hy
  rw [List.take_succ_eq_append_getElem h1, List.take_succ_eq_append_getElem h2, h, e]

set_option maxRecDepth 100000 in
set_option maxHeartbeats 2000000 in
theorem rsame_any (va vb : Value) (a b : List KeyD) (w : World) (ha : ViosAt w va a) (hb : ViosAt w vb b) (hn : a.length ≤ 1000000000) :
    Calls Tryz.prog 15 #[va, vb] w fun e w' => e = .returned (.bool (decide (a = b))) ∧ Below w.heap.size w w' := by
  have mixed : Tryz.prog.follows .mixedOrders = true := by kernel_rfl
  obtain ⟨xa, ca, rfl, hca⟩ := vios_get ha
  obtain ⟨xb, cb, rfl, hcb⟩ := vios_get hb
  by_cases hl : a.length = b.length
  case neg =>
    have HE := Lib.hid (show decide (a = b) = false from decide_eq_false fun c => hl (by rw [c]))
    have e1 : ((a.length : Int) == (b.length : Int)) = false := by simp; omega
    have e2 : ¬ (a.length : Int) = (b.length : Int) := by omega
    rw [HE.out]
    clear hca hcb ha hb
    go_enter Tryz.func15, Tryz.ntmps15
    go_wp2
    go_ret
    exact ⟨rfl, Below.refl _ _⟩
  rw [← hl] at hcb ⊢
  have HA := Lib.hid hca
  have HB := Lib.hid hcb
  obtain ⟨n, hla⟩ : ∃ n, a.length = n := ⟨_, rfl⟩
  rw [hla] at HA HB hn hl ⊢
  have HLA := Lib.hid hla
  have HLB := Lib.hid hl.symm
  clear hca hcb hla hl ha hb
  go_enter Tryz.func15, Tryz.ntmps15
  go_wp2_with fail
  go_loopw [5] (fun i wr => ∃ k : Nat, k ≤ n ∧ i = .int .i64 k ∧ a.take k = b.take k ∧ Below w.heap.size w wr) (fun i _ => n - (intOf i).toNat)
  case atStart => exact ⟨0, by omega, rfl, rfl, Below.refl _ _⟩
  case round =>
    obtain ⟨k, hk, rfl, ht, hbr⟩ := hrel
    have HT := Lib.hid ht
    clear ht
    by_cases h1 : k < n
    · obtain ⟨x, hx⟩ : ∃ x, a[k]? = some x := ⟨a[k]'(by rw [HLA.out]; exact h1), List.getElem?_eq_getElem _⟩
      obtain ⟨y, hy⟩ : ∃ y, b[k]? = some y := ⟨b[k]'(by rw [HLB.out]; exact h1), List.getElem?_eq_getElem _⟩
      obtain ⟨ba, oa, hxa, ga⟩ := HA.out (by omega)
      subst hxa
      obtain ⟨bb, ob, hxb, gb⟩ := HB.out (by omega)
      subst hxb
      obtain ⟨via, a0, a1, a2, sa⟩ := ga k x hx
      obtain ⟨vib, b0, b1, b2, sb⟩ := gb k y hy
      have q0 := cell_belowBy (cell_later hbr a0)
      have q1 := cell_belowBy (cell_later hbr a1)
      have q2 := cell_belowBy (cell_later hbr a2)
      have r0 := cell_belowBy (cell_later hbr b0)
      have r1 := cell_belowBy (cell_later hbr b1)
      have r2 := cell_belowBy (cell_later hbr b2)
      have z1 := lt_of_cell (cell_later hbr a0)
      have z2 := lt_of_cell (cell_later hbr b0)
      have ID := Lib.hid (fun W h => rids_any via vib (idsK x) (idsK y) W (sa.later (w' := W) h) (sb.later h))
      have HNX := Lib.hid (fun (h : x = y) => take_eq HT.out hx hy h)
      have HNE := Lib.hid (fun (h : a = b) => (show x = y by rw [h, hy] at hx; injection hx with hx; exact hx.symm))
      obtain ⟨d, hd⟩ : ∃ d, decide (idsK x = idsK y) = d := ⟨_, rfl⟩
      rw [hd] at ID
      have HD := Lib.hid hd
      clear ga gb hx hy a0 a1 a2 b0 b1 b2 sa sb hd
      cases d with
      | true =>
        have HN := Lib.hid (HNX.out (idsK_inj (of_decide_eq_true HD.out)))
        go_wp2_with fail
        refine wp_region_quiet_below mixed (by kernel_rfl) ?_
        repeat (go_big_quiet_step ((go_at_call 29; exact calls_belowBy (ID.out _ (hbr.trans ((BelowBy.below _).mono hbr.size))))))
        refine wpQuiet_nil ?_
        intro w8 hw'
        obtain ⟨⟨wq, hbq⟩, hw''⟩ := hw'
        subst hw''
        clear q0 q1 q2 r0 r1 r2
        go_wp2
        go_roundw
        case rel => exact ⟨k + 1, by omega, by go_num, HN.out, hbr.trans (hbq.mono hbr.size)⟩
        case measure => simp [intOf]; omega
      | false =>
        have HF := Lib.hid (show decide (a = b) = false from decide_eq_false fun c => of_decide_eq_false HD.out (by rw [HNE.out c]))
        go_wp2_with fail
        refine wp_region_quiet_below mixed (by kernel_rfl) ?_
        repeat (go_big_quiet_step ((go_at_call 29; exact calls_belowBy (ID.out _ (hbr.trans ((BelowBy.below _).mono hbr.size))))))
        refine wpQuiet_nil ?_
        intro w8 hw'
        obtain ⟨⟨wq, hbq⟩, hw''⟩ := hw'
        subst hw''
        clear q0 q1 q2 r0 r1 r2
        go_wp2
        go_ret
        exact ⟨by rw [HF.out] <;> rfl, hbr.trans (hbq.mono hbr.size)⟩
    · obtain rfl : k = n := by omega
      have HF := Lib.hid (show decide (a = b) = true from decide_eq_true (by
        have h := HT.out
        rw [List.take_of_length_le (by rw [HLA.out]; exact Nat.le_refl _), List.take_of_length_le (by rw [HLB.out]; exact Nat.le_refl _)] at h
        exact h))
      go_wp2
      go_ret
      exact ⟨by rw [HF.out] <;> rfl, hbr⟩

def namedT (k : KeyD) (a b : ByteArray) : Bool := if k.1 = k.2 then decide (a = b ∧ k.1 = a) else decide (k.1 = minB a b ∧ k.2 = maxB a b)
theorem named_hit {ks : List KeyD} {i : Nat} {k : KeyD} {a b : ByteArray} (hk : ks[i]? = some k) (h : namedT k a b = true) : namedP ks a b = true := List.any_eq_true.2 ⟨k, List.mem_of_getElem? hk, h⟩
theorem named_miss {ks : List KeyD} {i : Nat} {k : KeyD} {a b : ByteArray} (hk : ks[i]? = some k) (h0 : namedP (ks.take i) a b = false) (h : namedT k a b = false) : namedP (ks.take (i + 1)) a b = false := by
  obtain ⟨h1, rfl⟩ := List.getElem?_eq_some_iff.1 hk
  rw [List.take_succ_eq_append_getElem h1]
  unfold namedP at h0 ⊢
  rw [List.any_append, h0, Bool.false_or]
  simpa [namedT] using h
set_option maxRecDepth 100000 in
set_option maxHeartbeats 2000000 in
theorem named_any (v : Value) (ks : List KeyD) (a b : ByteArray) (w : World) (hv : ViosAt w v ks) (hn : ks.length ≤ 1000000000) :
    Calls Tryz.prog 24 #[v, .string a, .string b] w fun e w' => e = .returned (.bool (namedP ks a b)) ∧ Below w.heap.size w w' := by
  have hmin := run_minB Tryz.prog
  have hmax' := run_maxB Tryz.prog
  obtain ⟨xa, ca, rfl, hca⟩ := vios_get hv
  have HA := Lib.hid hca
  obtain ⟨n, hla⟩ : ∃ n, ks.length = n := ⟨_, rfl⟩
  rw [hla] at HA hn ⊢
  have HLA := Lib.hid hla
  clear hca hla hv
  go_enter Tryz.func24, Tryz.ntmps24
  go_wp2_with fail
  go_loopw [7] (fun i wr => ∃ k : Nat, k ≤ n ∧ i = .int .i64 k ∧ namedP (ks.take k) a b = false ∧ wr = w) (fun i _ => n - (intOf i).toNat)
  case atStart => exact ⟨0, by omega, rfl, rfl, rfl⟩
  case round =>
    obtain ⟨k, hk, rfl, ht, rfl⟩ := hrel
    have HT := Lib.hid ht
    clear ht
    by_cases h1 : k < n
    · obtain ⟨x, hx⟩ : ∃ x, ks[k]? = some x := ⟨ks[k]'(by rw [HLA.out]; exact h1), List.getElem?_eq_getElem _⟩
      obtain ⟨ba, oa, hxa, ga⟩ := HA.out (by omega)
      subst hxa
      obtain ⟨via, a0, a1, a2, sa⟩ := ga k x hx
      have z1 := lt_of_cell a0
      have HH := Lib.hid (fun h => named_hit (a := a) (b := b) hx h)
      have HM := Lib.hid (fun h => named_miss (a := a) (b := b) hx HT.out h)
      obtain ⟨x1, x2⟩ := x
      by_cases e1 : x1 = x2
      · have hid : idsK (x1, x2) = [x1] := by unfold idsK; rw [if_pos e1]
        rw [hid] at sa
        obtain ⟨xs, cs, rfl, hns, hzs, hcs⟩ := sa
        obtain ⟨bs, os, rfl, hcell⟩ := hcs (by simp)
        have s0' := hcell 0 x1 rfl
        have s0 : wr.cell? ⟨bs, os, none⟩ = some (.string x1) := s0'
        have HTT := Lib.hid (show namedT (x1, x2) a b = decide (a = b ∧ x1 = a) by unfold namedT; rw [if_pos e1])
        clear ga hx hcell hcs s0' hns hzs hid e1
        simp only [List.length_cons, List.length_nil] at a2
        by_cases e2 : a = b
        · by_cases e3 : x1 = a
          · have HX := Lib.hid (HH.out (by rw [HTT.out]; exact decide_eq_true ⟨e2, e3⟩))
            subst e2 e3
            go_wp2
            go_ret
            exact ⟨by rw [HX.out] <;> rfl, Below.refl _ _⟩
          · have HX := Lib.hid (HM.out (by rw [HTT.out]; exact decide_eq_false fun c => e3 c.2))
            have n1 := toList_ne e3
            subst e2
            go_wp2
            go_roundw
            case rel => exact ⟨k + 1, by omega, by go_num, HX.out, (by first | rfl | trivial)⟩
            case measure => simp [intOf]; omega
        · have HX := Lib.hid (HM.out (by rw [HTT.out]; exact decide_eq_false fun c => e2 c.1))
          have n1 := toList_ne e2
          go_wp2
          go_roundw
          case rel => exact ⟨k + 1, by omega, by go_num, HX.out, (by first | rfl | trivial)⟩
          case measure => simp [intOf]; omega
      · have hid : idsK (x1, x2) = [x1, x2] := by unfold idsK; rw [if_neg e1]
        rw [hid] at sa
        obtain ⟨xs, cs, rfl, hns, hzs, hcs⟩ := sa
        obtain ⟨bs, os, rfl, hcell⟩ := hcs (by simp)
        have s0' := hcell 0 x1 rfl
        have s0 : wr.cell? ⟨bs, os, none⟩ = some (.string x1) := s0'
        have s1 := hcell 1 x2 rfl
        have HTT := Lib.hid (show namedT (x1, x2) a b = decide (x1 = minB a b ∧ x2 = maxB a b) by unfold namedT; rw [if_neg e1])
        clear ga hx hcell hcs s0' hns hzs hid e1
        simp only [List.length_cons, List.length_nil] at a2
        obtain ⟨mn, hmn⟩ : ∃ z, z = minB a b := ⟨_, rfl⟩
        obtain ⟨mx, hmx⟩ : ∃ z, z = maxB a b := ⟨_, rfl⟩
        have hmin' := fun w ts t => (hmin w ts t a b).trans (by rw [← hmn])
        have hmax2 := fun w ts t => (hmax' w ts t a b).trans (by rw [← hmx])
        rw [← hmn, ← hmx] at HTT
        clear hmin hmax' hmn hmx
        by_cases e2 : x1 = mn
        · by_cases e3 : x2 = mx
          · have HX := Lib.hid (HH.out (by rw [HTT.out]; exact decide_eq_true ⟨e2, e3⟩))
            subst e2 e3
            go_wp2
            go_ret
            exact ⟨by rw [HX.out] <;> rfl, Below.refl _ _⟩
          · have HX := Lib.hid (HM.out (by rw [HTT.out]; exact decide_eq_false fun c => e3 c.2))
            have n1 := toList_ne e3
            subst e2
            go_wp2
            go_roundw
            case rel => exact ⟨k + 1, by omega, by go_num, HX.out, (by first | rfl | trivial)⟩
            case measure => simp [intOf]; omega
        · have HX := Lib.hid (HM.out (by rw [HTT.out]; exact decide_eq_false fun c => e2 c.1))
          have n1 := toList_ne e2
          go_wp2
          go_roundw
          case rel => exact ⟨k + 1, by omega, by go_num, HX.out, (by first | rfl | trivial)⟩
          case measure => simp [intOf]; omega
    · obtain rfl : k = n := by omega
      have HX := Lib.hid (show namedP ks a b = false by
        have h := HT.out
        rw [List.take_of_length_le (by rw [HLA.out]; exact Nat.le_refl _)] at h
        exact h)
      go_wp2
      go_ret
      exact ⟨by rw [HX.out] <;> rfl, Below.refl _ _⟩
end Go.Proofs.YtbkomdinchiffaaGreat
