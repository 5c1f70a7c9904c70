/- The library's merge of two ordered runs, at labels: where one of the runs has one element. -/
import Derived.Test.YtapllmniplgajaaGreatDoorLabT
namespace Go.Proofs.YtapllmniplgajaaGreatDoor
open Go.Shelf Go.RowKit Go.Lib Go.Sort
variable {P : Program}


theorem half2_go (p : Nat → Bool) (f i j : Nat) (h : i < j) : half2 p (f + 1) i j = if p ((i + j) / 2) then half2 p f ((i + j) / 2 + 1) j else half2 p f i ((i + j) / 2) := by
  rw [half2, if_pos h]
theorem half2_stop (p : Nat → Bool) (f i j : Nat) (h : ¬ i < j) : half2 p f i j = i := by
  cases f with
  | zero => rfl
  | succ f => rw [half2, if_neg h]

set_option maxHeartbeats 4000000 in
set_option maxRecDepth 1000000 in
theorem symA_any (k : Nat) (L : SortP P k) (cf : LabD → LabD → Int) (g : Nat) (cb : Array Value) (blk off cap a m b : Nat) (d0 d : Array LabD) (w0 w : World)
    (eg : ∀ args w, (callFunc g args).run P w = .ok (.enter g args) w) (hcmp : CmpLays P g cb encL k cf blk off d.size w0) (R : RowK encL k w0 blk off d0) (hs : d0.size = d.size) (S : SWK encL k w0 blk off d w)
    (hm1 : a < m) (hm2 : m ≤ a + 1) (hmb : m < b) (hb : b ≤ d.size) (hsz : d.size < 4611686018427387904) :
    Calls P 132 #[.slice (some ⟨blk, off, none⟩) d.size cap, .int .i64 a, .int .i64 m, .int .i64 b, .func (.func g) #[] cb] w fun e w' =>
      e = .returned (.tuple #[]) ∧ SWK encL k w0 blk off (bubUp a (half2 (fun h => ltOf cf d[h]! d[a]!) (b - m) m b - 1 - a) d) w' := by
  have S0 : Aside (SWK encL k w0 blk off d w) := S
  have HC : Aside _ := hcmp
  clear S hcmp
  obtain ⟨r, hr⟩ : ∃ r, half2 (fun h => ltOf cf d[h]! d[a]!) (b - m) m b = r := ⟨_, rfl⟩
  rw [hr]
  have HR : Aside (half2 (fun h => ltOf cf d[h]! d[a]!) (b - m) m b = r) := hr
  clear hr
  have mixed := L.mixed
  have t0 := L.t0
  have a0 := L.a0
  have z0 := L.z0
  have v0 := L.v0
  have t3 := L.t3
  have a3 := L.a3
  have z3 := L.z3
  have v3 := L.v3
  have t4 := L.t4
  have a4 := L.a4
  have z4 := L.z4
  have v4 := L.v4
  have t5 := L.t5
  have a5 := L.a5
  have z5 := L.z5
  have v5 := L.v5
  have t22 := L.t22
  have a22 := L.a22
  have z22 := L.z22
  have u22 := run_underlying L.t22
  have u3 := run_underlying L.t3
  have u4 := run_underlying L.t4
  have u5 := run_underlying L.t5
  have a47 := L.a47
  have z47 := L.z47
  have e1 : ∀ args w, (callFunc 155 args).run P w = .ok (.enter 155 args) w := enters_of L.f1 (by kernel_rfl) rfl
  have e2 : ∀ args w, (callFunc 145 args).run P w = .ok (.enter 145 args) w := enters_of L.f2 (by kernel_rfl) rfl
  have e3 : ∀ args w, (callFunc 132 args).run P w = .ok (.enter 132 args) w := enters_of L.f3 (by kernel_rfl) rfl
  have hmaz : (m : Int) - (a : Int) = 1 := by omega
  have hmaB : ((m : Int) - (a : Int) == 1) = true := by simp [hmaz]
  go_enter L.f3, Tryz.ntmps132
  go_wp2
  go_loopg [10, 11] (b - m) (fun kx s10 s11 wr => ∃ i j : Nat, s10 = .int .i64 i ∧ s11 = .int .i64 j ∧ m ≤ i ∧ i ≤ j ∧ j ≤ b ∧ j - i ≤ kx ∧ Aside (SWK encL k w0 blk off d wr) ∧ Aside (half2 (fun h => ltOf cf d[h]! d[a]!) kx i j = r))
  case atStart => exact ⟨m, b, rfl, rfl, Nat.le_refl _, by omega, Nat.le_refl _, Nat.le_refl _, S0, HR⟩
  case round =>
    clear S0 HR
    obtain ⟨i, j, rfl, rfl, hmi, hij, hjb, hkx, S1, HR⟩ := hrel
    by_cases hlt : i < j
    · have hltz : (i : Int) < (j : Int) := by omega
      obtain ⟨f, rfl⟩ : ∃ f, gk = f + 1 := ⟨gk - 1, by omega⟩
      obtain ⟨c, hcc⟩ : ∃ c, c = (i + j) / 2 := ⟨_, rfl⟩
      have hcz : ((i : Int) + (j : Int)) / 2 = (c : Int) := by omega
      have hic : i ≤ c := by omega
      have hcj : c < j := by omega
      have HR2 : Aside ((if ltOf cf d[c]! d[a]! then half2 (fun h => ltOf cf d[h]! d[a]!) f (c + 1) j else half2 (fun h => ltOf cf d[h]! d[a]!) f i c) = r) := by
        show _ = _
        rw [← HR.out, half2_go _ _ _ _ hlt, ← hcc]
      clear HR hcc
      have ea1 : ((c : Int)).toNat = c := by omega
      have pa1 : (0 : Int) ≤ (c : Int) := by omega
      have ba1 : (c : Int) < (d.size : Int) := by omega
      have ra1 : IntKind.i64.wrap ((c : Int)) = (c : Int) := by rw [IntKind.wrap_i64]; omega
      have ea2 : ((a : Int)).toNat = a := by omega
      have pa2 : (0 : Int) ≤ (a : Int) := by omega
      have ba2 : (a : Int) < (d.size : Int) := by omega
      have ra2 : IntKind.i64.wrap ((a : Int)) = (a : Int) := by rw [IntKind.wrap_i64]; omega
      cases hL : ltOf cf d[c]! d[a]! with
      | true =>
        have HR3 : Aside (half2 (fun h => ltOf cf d[h]! d[a]!) f (c + 1) j = r) := by show _ = _; rw [← HR2.out, hL]; rfl
        clear HR2
        obtain ⟨x, hx⟩ : ∃ x, x = d[c]! := ⟨_, rfl⟩
        obtain ⟨y, hy⟩ : ∃ y, y = d[a]! := ⟨_, rfl⟩
        have lx := S1.out.ld R hs.symm P (c) (by omega)
        have ly := S1.out.ld R hs.symm P (a) (by omega)
        rw [← hx] at lx
        rw [← hy] at ly
        have hc := S1.out.cmp HC.out rfl x y
        have hv : cf x y < 0 := by rw [hx, hy]; exact of_decide_eq_true hL
        have hd : decide (cf x y < 0) = true := decide_eq_true hv
        clear hx hy hL
        go_wp2_with fail
        go_quiet_grown (first | (go_at_fn g; refine Calls.grown_of (hc _ _)))
        have S2 : Aside (SWK encL k w0 blk off d (grow (wr.drewN nq) osq)) := S1.out.grown nq osq
        clear lx ly hc S1
        generalize grow (wr.drewN nq) osq = w2 at S2 ⊢
        clear nq osq
        go_wp2
        go_roundg f
        case measure => omega
        case rel => exact ⟨c + 1, j, by go_num, rfl, by omega, by omega, hjb, by omega, S2, HR3⟩
      | false =>
        have HR3 : Aside (half2 (fun h => ltOf cf d[h]! d[a]!) f i c = r) := by show _ = _; rw [← HR2.out, hL]; rfl
        clear HR2
        obtain ⟨x, hx⟩ : ∃ x, x = d[c]! := ⟨_, rfl⟩
        obtain ⟨y, hy⟩ : ∃ y, y = d[a]! := ⟨_, rfl⟩
        have lx := S1.out.ld R hs.symm P (c) (by omega)
        have ly := S1.out.ld R hs.symm P (a) (by omega)
        rw [← hx] at lx
        rw [← hy] at ly
        have hc := S1.out.cmp HC.out rfl x y
        have hv : ¬ cf x y < 0 := by rw [hx, hy]; exact of_decide_eq_false hL
        have hd : decide (cf x y < 0) = false := decide_eq_false hv
        clear hx hy hL
        go_wp2_with fail
        go_quiet_grown (first | (go_at_fn g; refine Calls.grown_of (hc _ _)))
        have S2 : Aside (SWK encL k w0 blk off d (grow (wr.drewN nq) osq)) := S1.out.grown nq osq
        clear lx ly hc S1
        generalize grow (wr.drewN nq) osq = w2 at S2 ⊢
        clear nq osq
        go_wp2
        go_roundg f
        case measure => omega
        case rel => exact ⟨i, c, rfl, by go_num, hmi, by omega, by omega, by omega, S2, HR3⟩
    · have hltz : ¬ (i : Int) < (j : Int) := by omega
      have hri : i = r := by have := HR.out; rw [half2_stop _ _ _ _ hlt] at this; exact this
      subst hri
      clear HR
      go_wp2
      go_loopg [13] (i - 1 - a) (fun kx s13 wr => ∃ (q : Nat) (dk : Array LabD), s13 = .int .i64 q ∧ a ≤ q ∧ q ≤ i - 1 ∧ i - 1 - q ≤ kx ∧ dk.size = d.size ∧ Aside (SWK encL k w0 blk off dk wr) ∧ Aside (bubUp q (i - 1 - q) dk = bubUp a (i - 1 - a) d))
      case atStart => exact ⟨a, d, rfl, Nat.le_refl _, by omega, Nat.le_refl _, rfl, S1, (show _ = _ from rfl)⟩
      case round =>
        clear S1
        obtain ⟨q, dk, rfl, haq, hqi, hkx2, hds, S1, HE⟩ := hrel
        by_cases hl2 : q < i - 1
        · have hl2z : (q : Int) < (i : Int) - 1 := by omega
          have HEQ := Lib.hid (show bubUp (q + 1) (i - 1 - (q + 1)) (swp dk q (q + 1)) = bubUp a (i - 1 - a) d by
            rw [← HE.out, show i - 1 - q = (i - 1 - (q + 1)) + 1 by omega]; rfl)
          clear HE
          have ea3 : ((q : Int)).toNat = q := by omega
          have pa3 : (0 : Int) ≤ (q : Int) := by omega
          have ba3 : (q : Int) < (d.size : Int) := by omega
          have ra3 : IntKind.i64.wrap ((q : Int)) = (q : Int) := by rw [IntKind.wrap_i64]; omega
          have ea4 : ((q : Int) + 1).toNat = q + 1 := by omega
          have pa4 : (0 : Int) ≤ (q : Int) + 1 := by omega
          have ba4 : (q : Int) + 1 < (d.size : Int) := by omega
          have ra4 : IntKind.i64.wrap ((q : Int) + 1) = (q : Int) + 1 := by rw [IntKind.wrap_i64]; omega
          go_wp2_with fail
          have S2 : Aside (SWK encL k w0 blk off (swp dk (q) (q + 1)) ((wr.drew.setCells blk (off + (q) * k) (encL dk[q + 1]!)).setCells blk (off + (q + 1) * k) (encL dk[q]!))) := S1.out.swapped R (q) (q + 1) (by omega) (by omega)
          have la := S1.out.ld1 R (by omega) P (q) (by omega)
          have lb := S1.out.ld1 R (by omega) P (q + 1) (by omega)
          have sa := S1.out.st1 R (by omega) P (q) (by omega) dk[q + 1]!
          have sb := S1.out.st2 R (by omega) P (q) (q + 1) (by omega) (by omega) dk[q + 1]! dk[q]!
          have na : (encL dk[q]!).length = k := R.hk _
          have nb : (encL dk[q + 1]!).length = k := R.hk _
          have HDS := Lib.hid (show (swp dk (q) (q + 1)).size = d.size by rw [size_swp]; exact hds)
          generalize swp dk (q) (q + 1) = dn at S2 HEQ HDS
          generalize encL dk[q]! = cI at S2 la sb na
          generalize encL dk[q + 1]! = cJ at S2 lb sa sb nb
          clear S1
          go_wp2_with fail
          go_big_region_o
          clear la lb sa sb
          generalize (wr.drew.setCells blk (off + (q) * k) cJ).setCells blk (off + (q + 1) * k) cI = w2 at S2 ⊢
          go_wp2
          go_roundg (i - 1 - (q + 1))
          case measure => omega
          case rel => exact ⟨q + 1, dn, by go_num, by omega, by omega, Nat.le_refl _, HDS.out, S2, HEQ.out⟩
        · have hl2z : ¬ (q : Int) < (i : Int) - 1 := by omega
          go_wp2
          (try simp only [Exit.inBlock, Exit.then]); refine bodyPost_ret (results_none rfl _ _ _) rfl ?_
          refine ⟨rfl, ?_⟩
          have := HE.out
          rw [show i - 1 - q = 0 by omega] at this
          rw [← this]; exact S1.out

set_option maxHeartbeats 4000000 in
set_option maxRecDepth 1000000 in
theorem symB_any (k : Nat) (L : SortP P k) (cf : LabD → LabD → Int) (g : Nat) (cb : Array Value) (blk off cap a m b : Nat) (d0 d : Array LabD) (w0 w : World)
    (eg : ∀ args w, (callFunc g args).run P w = .ok (.enter g args) w) (hcmp : CmpLays P g cb encL k cf blk off d.size w0) (R : RowK encL k w0 blk off d0) (hs : d0.size = d.size) (S : SWK encL k w0 blk off d w)
    (ham : a + 1 < m) (hm1 : m < b) (hm2 : b ≤ m + 1) (hb : b ≤ d.size) (hsz : d.size < 4611686018427387904) :
    Calls P 132 #[.slice (some ⟨blk, off, none⟩) d.size cap, .int .i64 a, .int .i64 m, .int .i64 b, .func (.func g) #[] cb] w fun e w' =>
      e = .returned (.tuple #[]) ∧ SWK encL k w0 blk off (bubDown m (m - half2 (fun h => !ltOf cf d[m]! d[h]!) (m - a) a m) d) w' := by
  have S0 : Aside (SWK encL k w0 blk off d w) := S
  have HC : Aside _ := hcmp
  clear S hcmp
  obtain ⟨r, hr⟩ : ∃ r, half2 (fun h => !ltOf cf d[m]! d[h]!) (m - a) a m = r := ⟨_, rfl⟩
  rw [hr]
  have HR : Aside (half2 (fun h => !ltOf cf d[m]! d[h]!) (m - a) a m = r) := hr
  clear hr
  have mixed := L.mixed
  have t0 := L.t0
  have a0 := L.a0
  have z0 := L.z0
  have v0 := L.v0
  have t3 := L.t3
  have a3 := L.a3
  have z3 := L.z3
  have v3 := L.v3
  have t4 := L.t4
  have a4 := L.a4
  have z4 := L.z4
  have v4 := L.v4
  have t5 := L.t5
  have a5 := L.a5
  have z5 := L.z5
  have v5 := L.v5
  have t22 := L.t22
  have a22 := L.a22
  have z22 := L.z22
  have u22 := run_underlying L.t22
  have u3 := run_underlying L.t3
  have u4 := run_underlying L.t4
  have u5 := run_underlying L.t5
  have a47 := L.a47
  have z47 := L.z47
  have e1 : ∀ args w, (callFunc 155 args).run P w = .ok (.enter 155 args) w := enters_of L.f1 (by kernel_rfl) rfl
  have e2 : ∀ args w, (callFunc 145 args).run P w = .ok (.enter 145 args) w := enters_of L.f2 (by kernel_rfl) rfl
  have e3 : ∀ args w, (callFunc 132 args).run P w = .ok (.enter 132 args) w := enters_of L.f3 (by kernel_rfl) rfl
  have hmaz : ¬ (m : Int) - (a : Int) = 1 := by omega
  have hmbz : (b : Int) - (m : Int) = 1 := by omega
  have hmaB : ((m : Int) - (a : Int) == 1) = false := by simp [hmaz]
  have hmbB : ((b : Int) - (m : Int) == 1) = true := by simp [hmbz]
  go_enter L.f3, Tryz.ntmps132
  go_wp2
  go_loopg [14, 15] (m - a) (fun kx s10 s11 wr => ∃ i j : Nat, s10 = .int .i64 i ∧ s11 = .int .i64 j ∧ a ≤ i ∧ i ≤ j ∧ j ≤ m ∧ j - i ≤ kx ∧ Aside (SWK encL k w0 blk off d wr) ∧ Aside (half2 (fun h => !ltOf cf d[m]! d[h]!) kx i j = r))
  case atStart => exact ⟨a, m, rfl, rfl, Nat.le_refl _, by omega, Nat.le_refl _, Nat.le_refl _, S0, HR⟩
  case round =>
    clear S0 HR
    obtain ⟨i, j, rfl, rfl, hmi, hij, hjb, hkx, S1, HR⟩ := hrel
    by_cases hlt : i < j
    · have hltz : (i : Int) < (j : Int) := by omega
      obtain ⟨f, rfl⟩ : ∃ f, gk = f + 1 := ⟨gk - 1, by omega⟩
      obtain ⟨c, hcc⟩ : ∃ c, c = (i + j) / 2 := ⟨_, rfl⟩
      have hcz : ((i : Int) + (j : Int)) / 2 = (c : Int) := by omega
      have hic : i ≤ c := by omega
      have hcj : c < j := by omega
      have HR2 : Aside ((if !ltOf cf d[m]! d[c]! then half2 (fun h => !ltOf cf d[m]! d[h]!) f (c + 1) j else half2 (fun h => !ltOf cf d[m]! d[h]!) f i c) = r) := by
        show _ = _
        rw [← HR.out, half2_go _ _ _ _ hlt, ← hcc]
      clear HR hcc
      have ea1 : ((c : Int)).toNat = c := by omega
      have pa1 : (0 : Int) ≤ (c : Int) := by omega
      have ba1 : (c : Int) < (d.size : Int) := by omega
      have ra1 : IntKind.i64.wrap ((c : Int)) = (c : Int) := by rw [IntKind.wrap_i64]; omega
      have ea2 : ((m : Int)).toNat = m := by omega
      have pa2 : (0 : Int) ≤ (m : Int) := by omega
      have ba2 : (m : Int) < (d.size : Int) := by omega
      have ra2 : IntKind.i64.wrap ((m : Int)) = (m : Int) := by rw [IntKind.wrap_i64]; omega
      cases hL : ltOf cf d[m]! d[c]! with
      | true =>
        have HR3 : Aside (half2 (fun h => !ltOf cf d[m]! d[h]!) f i c = r) := by show _ = _; rw [← HR2.out, hL]; rfl
        clear HR2
        obtain ⟨x, hx⟩ : ∃ x, x = d[m]! := ⟨_, rfl⟩
        obtain ⟨y, hy⟩ : ∃ y, y = d[c]! := ⟨_, rfl⟩
        have lx := S1.out.ld R hs.symm P (m) (by omega)
        have ly := S1.out.ld R hs.symm P (c) (by omega)
        rw [← hx] at lx
        rw [← hy] at ly
        have hc := S1.out.cmp HC.out rfl x y
        have hv : cf x y < 0 := by rw [hx, hy]; exact of_decide_eq_true hL
        have hd : decide (cf x y < 0) = true := decide_eq_true hv
        clear hx hy hL
        go_wp2_with fail
        go_quiet_grown (first | (go_at_fn g; refine Calls.grown_of (hc _ _)))
        have S2 : Aside (SWK encL k w0 blk off d (grow (wr.drewN nq) osq)) := S1.out.grown nq osq
        clear lx ly hc S1
        generalize grow (wr.drewN nq) osq = w2 at S2 ⊢
        clear nq osq
        go_wp2
        go_roundg f
        case measure => omega
        case rel => exact ⟨i, c, rfl, by go_num, hmi, by omega, by omega, by omega, S2, HR3⟩
      | false =>
        have HR3 : Aside (half2 (fun h => !ltOf cf d[m]! d[h]!) f (c + 1) j = r) := by show _ = _; rw [← HR2.out, hL]; rfl
        clear HR2
        obtain ⟨x, hx⟩ : ∃ x, x = d[m]! := ⟨_, rfl⟩
        obtain ⟨y, hy⟩ : ∃ y, y = d[c]! := ⟨_, rfl⟩
        have lx := S1.out.ld R hs.symm P (m) (by omega)
        have ly := S1.out.ld R hs.symm P (c) (by omega)
        rw [← hx] at lx
        rw [← hy] at ly
        have hc := S1.out.cmp HC.out rfl x y
        have hv : ¬ cf x y < 0 := by rw [hx, hy]; exact of_decide_eq_false hL
        have hd : decide (cf x y < 0) = false := decide_eq_false hv
        clear hx hy hL
        go_wp2_with fail
        go_quiet_grown (first | (go_at_fn g; refine Calls.grown_of (hc _ _)))
        have S2 : Aside (SWK encL k w0 blk off d (grow (wr.drewN nq) osq)) := S1.out.grown nq osq
        clear lx ly hc S1
        generalize grow (wr.drewN nq) osq = w2 at S2 ⊢
        clear nq osq
        go_wp2
        go_roundg f
        case measure => omega
        case rel => exact ⟨c + 1, j, by go_num, rfl, by omega, by omega, hjb, by omega, S2, HR3⟩
    · have hltz : ¬ (i : Int) < (j : Int) := by omega
      have hri : i = r := by have := HR.out; rw [half2_stop _ _ _ _ hlt] at this; exact this
      subst hri
      clear HR
      go_wp2
      go_loopg [17] (m - i) (fun kx s13 wr => ∃ (q : Nat) (dk : Array LabD), s13 = .int .i64 q ∧ i ≤ q ∧ q ≤ m ∧ q - i ≤ kx ∧ dk.size = d.size ∧ Aside (SWK encL k w0 blk off dk wr) ∧ Aside (bubDown q (q - i) dk = bubDown m (m - i) d))
      case atStart => exact ⟨m, d, rfl, by omega, Nat.le_refl _, Nat.le_refl _, rfl, S1, (show _ = _ from rfl)⟩
      case round =>
        clear S1
        obtain ⟨q, dk, rfl, haq, hqi, hkx2, hds, S1, HE⟩ := hrel
        by_cases hl2 : i < q
        · obtain ⟨t, rfl⟩ : ∃ t, q = t + 1 := ⟨q - 1, by omega⟩
          have hl2z : (i : Int) < (t : Int) + 1 := by omega
          have HEQ := Lib.hid (show bubDown t (t - i) (swp dk (t + 1) t) = bubDown m (m - i) d by
            rw [← HE.out, show t + 1 - i = (t - i) + 1 by omega]; rfl)
          clear HE
          have htw : IntKind.i64.wrap (((t + 1 : Nat) : Int) - 1) = (t : Int) := by rw [IntKind.wrap_i64]; omega
          have htw2 : IntKind.i64.wrap ((t : Int) + 1 - 1) = (t : Int) := by rw [IntKind.wrap_i64]; omega
          have ea3 : ((t : Int) + 1).toNat = t + 1 := by omega
          have pa3 : (0 : Int) ≤ (t : Int) + 1 := by omega
          have ba3 : (t : Int) + 1 < (d.size : Int) := by omega
          have ra3 : IntKind.i64.wrap ((t : Int) + 1) = (t : Int) + 1 := by rw [IntKind.wrap_i64]; omega
          have ea4 : ((t : Int)).toNat = t := by omega
          have pa4 : (0 : Int) ≤ (t : Int) := by omega
          have ba4 : (t : Int) < (d.size : Int) := by omega
          have ra4 : IntKind.i64.wrap ((t : Int)) = (t : Int) := by rw [IntKind.wrap_i64]; omega
          go_wp2_with fail
          have S2 : Aside (SWK encL k w0 blk off (swp dk (t + 1) (t)) ((wr.drew.setCells blk (off + (t + 1) * k) (encL dk[t]!)).setCells blk (off + (t) * k) (encL dk[t + 1]!))) := S1.out.swapped R (t + 1) (t) (by omega) (by omega)
          have la := S1.out.ld1 R (by omega) P (t + 1) (by omega)
          have lb := S1.out.ld1 R (by omega) P (t) (by omega)
          have sa := S1.out.st1 R (by omega) P (t + 1) (by omega) dk[t]!
          have sb := S1.out.st2 R (by omega) P (t + 1) (t) (by omega) (by omega) dk[t]! dk[t + 1]!
          have na : (encL dk[t + 1]!).length = k := R.hk _
          have nb : (encL dk[t]!).length = k := R.hk _
          have HDS := Lib.hid (show (swp dk (t + 1) (t)).size = d.size by rw [size_swp]; exact hds)
          generalize swp dk (t + 1) (t) = dn at S2 HEQ HDS
          generalize encL dk[t + 1]! = cI at S2 la sb na
          generalize encL dk[t]! = cJ at S2 lb sa sb nb
          clear S1
          go_wp2_with fail
          go_big_region_o
          clear la lb sa sb
          generalize (wr.drew.setCells blk (off + (t + 1) * k) cJ).setCells blk (off + (t) * k) cI = w2 at S2 ⊢
          go_wp2
          go_roundg (t - i)
          case measure => omega
          case rel => exact ⟨t, dn, by go_num, by omega, by omega, Nat.le_refl _, HDS.out, S2, HEQ.out⟩
        · have hl2z : ¬ (i : Int) < (q : Int) := by omega
          go_wp2
          (try simp only [Exit.inBlock, Exit.then]); refine bodyPost_ret (results_none rfl _ _ _) rfl ?_
          refine ⟨rfl, ?_⟩
          have := HE.out
          rw [show q - i = 0 by omega] at this
          rw [← this]; exact S1.out
end Go.Proofs.YtapllmniplgajaaGreatDoor
