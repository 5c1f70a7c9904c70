/- GridCovers: the walk where Cover has tiles. -/
import Derived.Test.YtnilofeakdibhaaDoorGridCovLaw
namespace Go.Proofs.YtnilofeakdibhaaDoor
open Go.RowKit


set_option maxRecDepth 100000 in
set_option maxHeartbeats 1000000 in
theorem covers_ok (a b c d fx fy sx sy tz tx ty XA XB XC XD XE : Int) (nx ny : Nat) (k : Nat)
    (h1 : ∀ w, Calls Tryd.prog 13 #[.agg #[.int .i64 a, .int .i64 b], .int .i64 k] w fun e w' => e = .returned (.tuple #[.agg #[.int .i64 k, .int .i64 fx, .int .i64 fy], .int .i64 0]) ∧ Below w.heap.size w w')
    (h2 : ∀ w, Calls Tryd.prog 13 #[.agg #[.int .i64 c, .int .i64 d], .int .i64 k] w fun e w' => e = .returned (.tuple #[.agg #[.int .i64 k, .int .i64 sx, .int .i64 sy], .int .i64 0]) ∧ Below w.heap.size w w')
    (hbx : ∀ w, Calls Tryd.prog 12 #[.agg #[.int .i64 k, .int .i64 tx, .int .i64 ty]] w fun e w' => e = .returned (.tuple #[.agg #[.int .i64 XA, .int .i64 XB, .int .i64 XC, .int .i64 XD], .int .i64 XE]) ∧ Below w.heap.size w w')
    (hac : a ≤ c) (hbd : b ≤ d) (hx : 0 ≤ fx ∧ fx ≤ sx ∧ sx < 131072) (hy : 0 ≤ fy ∧ fy ≤ sy ∧ sy < 131072) (hnx : sx = fx + nx - 1) (hny : sy = fy + ny - 1)
    (hsm : (sx - fx + 1) * (sy - fy + 1) ≤ 4096)
    (hmt : covF fx fy nx tx ty (ny * nx) = ((XE == 0) && decide (XA ≤ c) && decide (a ≤ XC) && decide (XB ≤ d) && decide (b ≤ XD))) (w : World) (he : Env w) :
    Calls Tryd.prog 6 #[.agg #[.int .i64 a, .int .i64 b, .int .i64 c, .int .i64 d], .int .i64 k, .agg #[.int .i64 tz, .int .i64 tx, .int .i64 ty]] w fun e w' => e = .returned (.bool true) ∧ Below w.heap.size w w' := by
  have HE := Lib.hid he
  have HC := Lib.hid (fun w => cover_ok a b c d fx fy sx sy nx ny k h1 h2 hac hbd hx hy hnx hny hsm w)
  have HX := Lib.hid hbx
  have HM := Lib.hid hmt
  have hlen : ny * nx ≤ 4096 := by
    have e1 : sx - fx + 1 = nx := by omega
    have e2 : sy - fy + 1 = ny := by omega
    rw [e1, e2, Int.mul_comm] at hsm
    exact_mod_cast hsm
  have hn : 0 < nx := by omega
  have hn2 : 0 < ny := by omega
  have hpos := Nat.mul_pos hn2 hn
  obtain ⟨N, hN⟩ : ∃ N, N = ny * nx := ⟨_, rfl⟩
  rw [← hN] at hlen hpos
  have HN := Lib.hid hN
  clear h1 h2 he hbx hmt hN hnx hny hsm
  go_enter Tryd.func6, Tryd.ntmps6
  go_wp2_with fail
  refine (head_true _ (HE.out.later (by repeat' (first | exact Below.refl _ _ | refine Below.drew ?_ | refine Below.drewN' ?_ | refine Below.setCell ?_ (by first | omega | (simp; done) | exact Below.size (by assumption) | (simp; omega)) _ | refine Below.alloc ?_ (by first | omega | (simp; done) | exact Below.size (by assumption) | (simp; omega)) _ | refine Below.trans ?_ (Below.mono (by assumption) ?_) | (first | omega | (simp; done) | exact Below.size (by assumption) | (simp; omega)))))).mono ?_; rintro e w1 ⟨rfl, hb1⟩
  have B1 : Below w.heap.size w w1 := below_step (((Below.refl _ _).alloc (Nat.le_refl _) _).alloc (by simp) _) (Nat.le_refl _) hb1
  have S1 := hb1.size; simp at S1
  have GB := Lib.hid (row_later hb1 (row_past (row_new w _)))
  have GT := Lib.hid (row_later hb1 (row_new1 w _ _))
  clear hb1
  have HB := GB.out
  have bz := lt_of_block HB
  have b0 := cell_of_row w1 _ 0 _ _ _ HB
  have b1 := cell_of_row w1 _ 1 _ _ _ HB
  have b2 := cell_of_row w1 _ 2 _ _ _ HB
  have b3 := cell_of_row w1 _ 3 _ _ _ HB
  simp only [List.getElem?_toArray, List.getElem?_cons_zero, List.getElem?_cons_succ] at b0 b1 b2 b3
  have HB' := Lib.hid HB
  clear HB
  clear HB'
  go_wp2_with fail
  refine (HC.out _).mono ?_; rintro e w2 ⟨⟨v, rfl, g, cap, cur, hbg, hv, hg, hc⟩, hb2⟩
  rw [sqL_len, ← HN.out] at hv
  subst hv
  have hgn : g ≠ w.heap.size + 1 := by omega
  have GG := Lib.hid (row_set_other (a := ⟨w.heap.size + 1, 0, none⟩) (v := .int .i64 k) hg hgn)
  have HCC := Lib.hid hc
  clear hg hc
  have B2 := below_step B1 (Nat.le_refl _) hb2
  have S2 := hb2.size
  have GT := Lib.hid (row_later hb2 GT.out)
  have GB := Lib.hid (row_later hb2 GB.out)
  clear hb2 B1 b0 b1 b2 b3 bz
  have HT := GT.out
  have uz := lt_of_block HT
  have u0 := cell_of_row w2 _ 0 _ _ _ HT
  have u1 := cell_of_row w2 _ 1 _ _ _ HT
  have u2 := cell_of_row w2 _ 2 _ _ _ HT
  have uf0 := frozen_of_row w2 _ 0 _ _ HT
  have uf1 := frozen_of_row w2 _ 1 _ _ HT
  have uf2 := frozen_of_row w2 _ 2 _ _ HT
  simp only [List.getElem?_toArray, List.getElem?_cons_zero, List.getElem?_cons_succ] at u0 u1 u2
  have HT' := Lib.hid HT
  clear HT
  clear HT'
  go_wp2_with fail
  have C2 := B2.setCell (p := ⟨w.heap.size + 1, 0, none⟩) (by simp) (.int .i64 k)
  have GB := Lib.hid (row_set_other (a := ⟨w.heap.size + 1, 0, none⟩) (v := .int .i64 k) GB.out (by simp))
  have GT := Lib.hid (show _ = some (Obj.cells #[.int .i64 k, .int .i64 tx, .int .i64 ty] 23 (0, 0)) from row_set (i := 0) (v := .int .i64 k) GT.out)
  clear u0 u1 u2 uz uf0 uf1 uf2
  refine (HX.out _).mono ?_; rintro e w3 ⟨rfl, hb3⟩
  have B3 := below_step C2 (Nat.le_refl _) hb3
  have S3 := hb3.size; simp at S3
  have GT := Lib.hid (row_later hb3 GT.out)
  have GB := Lib.hid (row_later hb3 GB.out)
  clear C2 B2
  have HB := GB.out
  have bz := lt_of_block HB
  have b0 := cell_of_row w3 _ 0 _ _ _ HB
  have b1 := cell_of_row w3 _ 1 _ _ _ HB
  have b2 := cell_of_row w3 _ 2 _ _ _ HB
  have b3 := cell_of_row w3 _ 3 _ _ _ HB
  simp only [List.getElem?_toArray, List.getElem?_cons_zero, List.getElem?_cons_succ] at b0 b1 b2 b3
  have HB' := Lib.hid HB
  clear HB
  clear HB'
  go_wp2_with fail
  have B4 := B3.alloc B3.size (.cells #[.int .i64 XA, .int .i64 XB, .int .i64 XC, .int .i64 XD] 33)
  have GG := Lib.hid (row_past (o' := .cells #[.int .i64 XA, .int .i64 XB, .int .i64 XC, .int .i64 XD] 33) (row_later hb3 GG.out))
  have GT := Lib.hid (row_past (o' := .cells #[.int .i64 XA, .int .i64 XB, .int .i64 XC, .int .i64 XD] 33) GT.out)
  have GB := Lib.hid (row_past (o' := .cells #[.int .i64 XA, .int .i64 XB, .int .i64 XC, .int .i64 XD] 33) GB.out)
  have GX := Lib.hid (row_new w3 (.cells #[.int .i64 XA, .int .i64 XB, .int .i64 XC, .int .i64 XD] 33))
  clear hb3 b0 b1 b2 b3 bz B3
  generalize hw4 : w3.alloc (.cells #[.int .i64 XA, .int .i64 XB, .int .i64 XC, .int .i64 XD] 33) = w4
  rw [hw4] at B4 GG GT GB GX
  clear hw4
  go_loopw [16, 17] (fun f i wr => ∃ j : Nat, j ≤ N ∧ f = .bool (covF fx fy nx tx ty j) ∧ i = .int .i64 j ∧ Below w4.heap.size w4 wr) (fun _ i _ => N - (intOf i).toNat)
  case atStart => exact ⟨0, by omega, rfl, rfl, Below.refl _ _⟩
  case round =>
    obtain ⟨j, hj, rfl, rfl, hbr⟩ := hrel
    have HG := row_later hbr GG.out
    have HT := row_later hbr GT.out
    by_cases hlt : j < N
    · obtain ⟨X, Y, hX, hY, hcl⟩ := cov_cells HCC.out j (by rw [← HN.out]; exact hlt)
      have HS := Lib.hid (show covF fx fy nx tx ty (j + 1) = (covF fx fy nx tx ty j || (decide (X = tx) && decide (Y = ty))) by rw [hX, hY]; rfl)
      have HXY := Lib.hid (And.intro hX hY)
      have HCL := Lib.hid hcl
      generalize hF : covF fx fy nx tx ty j = F at *
      clear hX hY hcl hF
      rcases j with _ | m
      case zero =>
        have uz := lt_of_block HT
        have u0 := cell_of_row wr _ 0 _ _ _ HT
        have u1 := cell_of_row wr _ 1 _ _ _ HT
        have u2 := cell_of_row wr _ 2 _ _ _ HT
        simp only [List.getElem?_toArray, List.getElem?_cons_zero, List.getElem?_cons_succ] at u0 u1 u2
        have HT' := Lib.hid HT
        clear HT
        clear HT'
        have pz := lt_of_block HG
        have pa := (cell_of_row wr _ (3 * 0) _ _ _ HG).trans HCL.out.1
        have pb := (cell_of_row wr _ (3 * 0 + 1) _ _ _ HG).trans HCL.out.2.1
        have pc := (cell_of_row wr _ (3 * 0 + 2) _ _ _ HG).trans HCL.out.2.2
        simp only [Nat.mul_zero, Nat.zero_add] at pa pb pc
        go_wp2
        go_quiet (fail)
        have E1 : ((k : Int) == (k : Int)) = true := by simp
        have HXY' := HXY
        cases F
        case true =>
          go_wp2
          go_quiet (fail)
          go_wp2
          go_roundw
          case rel => exact ⟨0 + 1, by omega, by rw [HS.out]; simp [], by go_num, hbr.drewN'⟩
          case measure => simp [intOf]; try omega
        case false =>
          by_cases k1 : X = tx
          · have k1' : (X == tx) = true := by rw [beq_iff_eq]; exact k1
            by_cases k2 : Y = ty
            · have k2' : (Y == ty) = true := by rw [beq_iff_eq]; exact k2
              go_wp2
              go_quiet (fail)
              go_wp2
              go_roundw
              case rel => exact ⟨0 + 1, by omega, by rw [HS.out]; simp [k1, k2], by go_num, hbr.drewN'⟩
              case measure => simp [intOf]; try omega
            · have k2' : (Y == ty) = false := by rw [beq_eq_false_iff_ne]; exact k2
              go_wp2
              go_quiet (fail)
              go_wp2
              go_roundw
              case rel => exact ⟨0 + 1, by omega, by rw [HS.out]; simp [k2], by go_num, hbr.drewN'⟩
              case measure => simp [intOf]; try omega
          · have k1' : (X == tx) = false := by rw [beq_eq_false_iff_ne]; exact k1
            go_wp2
            go_quiet (fail)
            go_wp2
            go_roundw
            case rel => exact ⟨0 + 1, by omega, by rw [HS.out]; simp [k1], by go_num, hbr.drewN'⟩
            case measure => simp [intOf]; try omega
      case succ =>
        have WM : IntKind.i64.wrap (((m + 1 : Nat) : Int) - 1) = (m : Int) := (IntWalk.i64_in _ (by omega)).trans (by omega)
        have WG : decide ((0 : Int) < ((m + 1 : Nat) : Int)) = true := by rw [decide_eq_true_eq]; omega
        obtain ⟨X', Y', hX', hY', hcl'⟩ := cov_cells HCC.out m (by rw [← HN.out]; omega)
        have HCL' := Lib.hid hcl'
        have hst := tile_step nx m hn
        have hord : Y' < Y ∨ (Y' = Y ∧ X' < X) := by
          have := HXY.out
          omega
        clear hX' hY' hcl' hst
        have uz := lt_of_block HT
        have u0 := cell_of_row wr _ 0 _ _ _ HT
        have u1 := cell_of_row wr _ 1 _ _ _ HT
        have u2 := cell_of_row wr _ 2 _ _ _ HT
        simp only [List.getElem?_toArray, List.getElem?_cons_zero, List.getElem?_cons_succ] at u0 u1 u2
        have HT' := Lib.hid HT
        clear HT
        clear HT'
        have pz := lt_of_block HG
        have pa := (cell_of_row wr _ (3 * (m + 1)) _ _ _ HG).trans HCL.out.1
        have pb := (cell_of_row wr _ (3 * (m + 1) + 1) _ _ _ HG).trans HCL.out.2.1
        have pc := (cell_of_row wr _ (3 * (m + 1) + 2) _ _ _ HG).trans HCL.out.2.2
        have qz := lt_of_block HG
        have qa := (cell_of_row wr _ (3 * m) _ _ _ HG).trans HCL'.out.1
        have qb := (cell_of_row wr _ (3 * m + 1) _ _ _ HG).trans HCL'.out.2.1
        have qc := (cell_of_row wr _ (3 * m + 2) _ _ _ HG).trans HCL'.out.2.2
        rw [Nat.mul_comm 3] at pa pb pc qa qb qc
        rcases hord with hlt1 | ⟨rfl, hlt1⟩
        · have D1 : decide (Y < Y') = false := by rw [decide_eq_false_iff_not]; omega
          have D2 : (Y == Y') = false := by rw [beq_eq_false_iff_ne]; omega
          have D3 : ¬ (Y = Y') := by omega
          have D4 : ¬ (Y < Y') := by omega
          go_wp2
          go_quiet (fail)
          have E1 : ((k : Int) == (k : Int)) = true := by simp
          have HXY' := HXY
          cases F
          case true =>
            go_wp2
            go_quiet (fail)
            go_wp2
            go_roundw
            case rel => exact ⟨m + 1 + 1, by omega, by rw [HS.out]; simp [], by go_num, hbr.drewN'⟩
            case measure => simp [intOf]; try omega
          case false =>
            by_cases k1 : X = tx
            · have k1' : (X == tx) = true := by rw [beq_iff_eq]; exact k1
              by_cases k2 : Y = ty
              · have k2' : (Y == ty) = true := by rw [beq_iff_eq]; exact k2
                go_wp2
                go_quiet (fail)
                go_wp2
                go_roundw
                case rel => exact ⟨m + 1 + 1, by omega, by rw [HS.out]; simp [k1, k2], by go_num, hbr.drewN'⟩
                case measure => simp [intOf]; try omega
              · have k2' : (Y == ty) = false := by rw [beq_eq_false_iff_ne]; exact k2
                go_wp2
                go_quiet (fail)
                go_wp2
                go_roundw
                case rel => exact ⟨m + 1 + 1, by omega, by rw [HS.out]; simp [k2], by go_num, hbr.drewN'⟩
                case measure => simp [intOf]; try omega
            · have k1' : (X == tx) = false := by rw [beq_eq_false_iff_ne]; exact k1
              go_wp2
              go_quiet (fail)
              go_wp2
              go_roundw
              case rel => exact ⟨m + 1 + 1, by omega, by rw [HS.out]; simp [k1], by go_num, hbr.drewN'⟩
              case measure => simp [intOf]; try omega
        · have D1 : decide (Y' < Y') = false := by rw [decide_eq_false_iff_not]; omega
          have D2 : (Y' == Y') = true := by simp
          have D3 : decide (X ≤ X') = false := by rw [decide_eq_false_iff_not]; omega
          have D4 : ¬ (Y' < Y') := by omega
          have D5 : ¬ (X ≤ X') := by omega
          go_wp2
          go_quiet (fail)
          have E1 : ((k : Int) == (k : Int)) = true := by simp
          have HXY' := HXY
          cases F
          case true =>
            go_wp2
            go_quiet (fail)
            go_wp2
            go_roundw
            case rel => exact ⟨m + 1 + 1, by omega, by rw [HS.out]; simp [], by go_num, hbr.drewN'⟩
            case measure => simp [intOf]; try omega
          case false =>
            by_cases k1 : X = tx
            · have k1' : (X == tx) = true := by rw [beq_iff_eq]; exact k1
              by_cases k2 : Y' = ty
              · have k2' : (Y' == ty) = true := by rw [beq_iff_eq]; exact k2
                go_wp2
                go_quiet (fail)
                go_wp2
                go_roundw
                case rel => exact ⟨m + 1 + 1, by omega, by rw [HS.out]; simp [k1, k2], by go_num, hbr.drewN'⟩
                case measure => simp [intOf]; try omega
              · have k2' : (Y' == ty) = false := by rw [beq_eq_false_iff_ne]; exact k2
                go_wp2
                go_quiet (fail)
                go_wp2
                go_roundw
                case rel => exact ⟨m + 1 + 1, by omega, by rw [HS.out]; simp [k2], by go_num, hbr.drewN'⟩
                case measure => simp [intOf]; try omega
            · have k1' : (X == tx) = false := by rw [beq_eq_false_iff_ne]; exact k1
              go_wp2
              go_quiet (fail)
              go_wp2
              go_roundw
              case rel => exact ⟨m + 1 + 1, by omega, by rw [HS.out]; simp [k1], by go_num, hbr.drewN'⟩
              case measure => simp [intOf]; try omega
    · obtain rfl : j = N := by omega
      have HB := row_later hbr GB.out
      have HX := row_later hbr GX.out
      have RR := hbr
      have hmt := HM.out
      rw [← HN.out] at hmt
      rw [hmt]
      clear hmt HCC HG HT hj
      have D0 : ((j : Int) == 0) = false := by rw [beq_eq_false_iff_ne]; omega
      have bz := lt_of_block HB
      have b0 := cell_of_row wr _ 0 _ _ _ HB
      have b1 := cell_of_row wr _ 1 _ _ _ HB
      have b2 := cell_of_row wr _ 2 _ _ _ HB
      have b3 := cell_of_row wr _ 3 _ _ _ HB
      simp only [List.getElem?_toArray, List.getElem?_cons_zero, List.getElem?_cons_succ] at b0 b1 b2 b3
      have HB' := Lib.hid HB
      clear HB
      have xz := lt_of_block HX
      have x0 := cell_of_row wr _ 0 _ _ _ HX
      have x1 := cell_of_row wr _ 1 _ _ _ HX
      have x2 := cell_of_row wr _ 2 _ _ _ HX
      have x3 := cell_of_row wr _ 3 _ _ _ HX
      simp only [List.getElem?_toArray, List.getElem?_cons_zero, List.getElem?_cons_succ] at x0 x1 x2 x3
      have HX' := Lib.hid HX
      clear HX
      by_cases k0 : XE = 0
      case neg =>
        have k0' : (XE == 0) = false := by rw [beq_eq_false_iff_ne]; exact k0
        rw [k0']
        simp only [Bool.false_and]
        go_wp2
        go_ret
        exact ⟨rfl, below_step B4 (Nat.le_refl _) RR⟩
      subst k0
      by_cases k1 : XA ≤ c
      case neg =>
        have k1' : decide (XA ≤ c) = false := by rw [decide_eq_false_iff_not]; exact k1
        rw [k1']
        simp only [Bool.and_false, Bool.false_and]
        go_wp2
        go_ret
        exact ⟨rfl, below_step B4 (Nat.le_refl _) RR⟩
      by_cases k2 : a ≤ XC
      case neg =>
        have k2' : decide (a ≤ XC) = false := by rw [decide_eq_false_iff_not]; exact k2
        rw [k2']
        simp only [Bool.and_false, Bool.false_and]
        go_wp2
        go_ret
        exact ⟨rfl, below_step B4 (Nat.le_refl _) RR⟩
      by_cases k3 : XB ≤ d
      case neg =>
        have k3' : decide (XB ≤ d) = false := by rw [decide_eq_false_iff_not]; exact k3
        rw [k3']
        simp only [Bool.and_false, Bool.false_and]
        go_wp2
        go_ret
        exact ⟨rfl, below_step B4 (Nat.le_refl _) RR⟩
      by_cases k4 : b ≤ XD
      case neg =>
        have k4' : decide (b ≤ XD) = false := by rw [decide_eq_false_iff_not]; exact k4
        rw [k4']
        simp only [Bool.and_false]
        go_wp2
        go_ret
        exact ⟨rfl, below_step B4 (Nat.le_refl _) RR⟩
      have k1' : decide (XA ≤ c) = true := by rw [decide_eq_true_eq]; exact k1
      have k2' : decide (a ≤ XC) = true := by rw [decide_eq_true_eq]; exact k2
      have k3' : decide (XB ≤ d) = true := by rw [decide_eq_true_eq]; exact k3
      have k4' : decide (b ≤ XD) = true := by rw [decide_eq_true_eq]; exact k4
      rw [k1', k2', k3', k4']
      simp only [Bool.and_true, beq_self_eq_true]
      go_wp2
      go_ret
      exact ⟨rfl, below_step B4 (Nat.le_refl _) RR⟩

theorem of_covG {a b c d z : Int} (h : covG a b c d z = true) : 0 ≤ z ∧ z ≤ 17 ∧ 0 ≤ a ∧ 0 ≤ b ∧ c < 1048576 ∧ d < 1048576 ∧ a ≤ c ∧ b ≤ d := by
  simp only [covG, ofG, Bool.and_eq_true, decide_eq_true_eq] at h
  omega
theorem div_bd {k : Nat} (hk : k ≤ 17) {u v : Int} (h0 : 0 ≤ u) (h1 : u ≤ v) (h2 : v < 1048576) : 0 ≤ u / side k ∧ u / side k ≤ v / side k ∧ v / side k < 131072 := by
  have hs := side_bd k hk
  refine ⟨Int.ediv_nonneg h0 (by omega), Int.ediv_le_ediv (by omega) h1, ?_⟩
  rw [Int.ediv_lt_iff_lt_mul (by omega)]
  omega

theorem gridCovers_walk (a b c d z tz tx ty : Int) (w : World) (he : Env w) :
    Calls Tryd.prog 6 #[.agg #[.int .i64 a, .int .i64 b, .int .i64 c, .int .i64 d], .int .i64 z, .agg #[.int .i64 tz, .int .i64 tx, .int .i64 ty]] w fun e w' => e = .returned (.bool true) ∧ Below w.heap.size w w' := by
  cases h : covG a b c d z
  · exact covers_arg a b c d z tz tx ty h w he
  · obtain ⟨hz0, hz1, ha, hb, hc, hd, hac, hbd⟩ := of_covG h
    obtain ⟨k, rfl⟩ : ∃ k : Nat, z = k := ⟨z.toNat, by omega⟩
    have hk : k ≤ 17 := by omega
    have h1 := fun w => of_ok a b k hk (by omega) w
    have h2 := fun w => of_ok c d k hk (by omega) w
    have hx := div_bd hk ha hac hc
    have hy := div_bd hk hb hbd hd
    by_cases hs : 4096 < (c / side k - a / side k + 1) * (d / side k - b / side k + 1)
    · exact covers_limit a b c d _ _ _ _ tz tx ty k h1 h2 hac hbd hx hy hs w he
    · obtain ⟨nx, hnx⟩ : ∃ n : Nat, c / side k = a / side k + n - 1 := ⟨(c / side k - a / side k + 1).toNat, by omega⟩
      obtain ⟨ny, hny⟩ : ∃ n : Nat, d / side k = b / side k + n - 1 := ⟨(d / side k - b / side k + 1).toNat, by omega⟩
      obtain ⟨m1, m2⟩ := meet_iff a b c d tx ty k nx ny hk ha hb hc hd hnx hny (by omega)
      cases hv : validB k tx ty
      · refine covers_ok a b c d _ _ _ _ tz tx ty 0 0 0 0 1 nx ny k h1 h2 (fun w => box_arg k tx ty hv w) hac hbd hx hy hnx hny (by omega) ?_ w he
        rw [m2 hv]; rfl
      · have hp := valid_pow k hv
        refine covers_ok a b c d _ _ _ _ tz tx ty _ _ _ _ 0 nx ny k h1 h2 (fun w => box_ok tx ty k hk hp.1 hp.2 w) hac hbd hx hy hnx hny (by omega) ?_ w he
        rw [m1 hv, Bool.eq_iff_iff]
        simp [and_assoc]
end Go.Proofs.YtnilofeakdibhaaDoor
