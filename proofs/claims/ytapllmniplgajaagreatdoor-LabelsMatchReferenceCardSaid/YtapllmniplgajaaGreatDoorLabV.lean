/- The library's merge of two ordered runs, at labels. -/
import Derived.Test.YtapllmniplgajaaGreatDoorLabU
namespace Go.Proofs.YtapllmniplgajaaGreatDoor
open Go.Shelf Go.RowKit Go.Lib Go.Sort
variable {P : Program}


theorem symM_step (lt : LabD → LabD → Bool) (f a m b mid s0 r0 s e : Nat) (d D1 D2 : Array LabD) (h1 : a + 1 < m) (h2 : m + 1 < b) (hmid : mid = (a + b) / 2) (hs0 : s0 = if mid < m then mid + m - b else a) (hr0 : r0 = if mid < m then mid else m)
    (hs : half2 (fun c => !lt d[mid + m - 1 - c]! d[c]!) (r0 - s0) s0 r0 = s) (he : e = mid + m - s) (hD1 : D1 = if s < m ∧ m < e then rot m (e - s) (m - s) (e - m) d else d) (hD2 : D2 = if a < s ∧ s < mid then symM lt f a s mid D1 else D1) :
    symM lt (f + 1) a m b d = if mid < e ∧ e < b then symM lt f mid e b D2 else D2 := by
  subst hD2 hD1 he hs hs0 hr0 hmid
  rw [symM, if_neg (by omega), if_neg (by omega)]

set_option maxHeartbeats 8000000 in
set_option maxRecDepth 1000000 in
theorem symC_any (k : Nat) (L : SortP P k) (cf : LabD → LabD → Int) (g : Nat) (cb : Array Value) (blk off cap a m b f : Nat) (d0 d : Array LabD) (w0 w : World)
    (eg : ∀ args w, (callFunc g args).run P w = .ok (.enter g args) w) (hcmp : CmpLays P g cb encL k cf blk off d.size w0) (R : RowK encL k w0 blk off d0) (hs : d0.size = d.size) (S : SWK encL k w0 blk off d w)
    (h1 : a + 1 < m) (h2 : m + 1 < b) (hb : b ≤ d.size) (hsz : d.size < 4611686018427387904) (hf : b - a ≤ f + 1)
    (CS : ∀ (x y z : Nat) (dk : Array LabD) (wk : World), x < y → y < z → z ≤ d.size → z - x ≤ f → (SWK encL k w0 blk off dk wk ∧ dk.size = d.size) → Calls P 132 #[.slice (some ⟨blk, off, none⟩) d.size cap, .int .i64 x, .int .i64 y, .int .i64 z, .func (.func g) #[] cb] wk fun e w' =>
      e = .returned (.tuple #[]) ∧ SWK encL k w0 blk off (symM (ltOf cf) f x y z dk) w') :
    Calls P 132 #[.slice (some ⟨blk, off, none⟩) d.size cap, .int .i64 a, .int .i64 m, .int .i64 b, .func (.func g) #[] cb] w fun e w' =>
      e = .returned (.tuple #[]) ∧ SWK encL k w0 blk off (symM (ltOf cf) (f + 1) a m b d) w' := by
  have S0 : Aside (SWK encL k w0 blk off d w) := S
  have HC : Aside _ := hcmp
  clear S hcmp
  obtain ⟨mid, hmid⟩ : ∃ mid, mid = (a + b) / 2 := ⟨_, rfl⟩
  have hmidz : ((a : Int) + (b : Int)) / 2 = (mid : Int) := by omega
  obtain ⟨s0, hs0⟩ : ∃ s0, s0 = if mid < m then mid + m - b else a := ⟨_, rfl⟩
  obtain ⟨r0, hr0⟩ : ∃ r0, r0 = if mid < m then mid else m := ⟨_, rfl⟩
  have hb0 : s0 ≤ r0 ∧ a ≤ s0 ∧ r0 ≤ m ∧ mid + m - r0 ≥ m ∧ mid + m - s0 ≤ b ∧ r0 ≤ mid ∧ s0 ≤ mid ∧ 0 < mid ∧ mid < b ∧ a < mid := by
    by_cases hc : mid < m
    · rw [if_pos hc] at hs0 hr0; omega
    · rw [if_neg hc] at hs0 hr0; omega
  obtain ⟨r, hr⟩ : ∃ r, half2 (fun c => !ltOf cf d[mid + m - 1 - c]! d[c]!) (r0 - s0) s0 r0 = r := ⟨_, rfl⟩
  have HR : Aside (half2 (fun c => !ltOf cf d[mid + m - 1 - c]! d[c]!) (r0 - s0) s0 r0 = r) := hr
  have hrin := half2_in (fun c => !ltOf cf d[mid + m - 1 - c]! d[c]!) (r0 - s0) s0 r0 hb0.1
  rw [hr] at hrin
  obtain ⟨e, he⟩ : ∃ e, e = mid + m - r := ⟨_, rfl⟩
  obtain ⟨D1, hD1⟩ : ∃ D1, D1 = if r < m ∧ m < e then rot m (e - r) (m - r) (e - m) d else d := ⟨_, rfl⟩
  obtain ⟨D2, hD2⟩ : ∃ D2, D2 = if a < r ∧ r < mid then symM (ltOf cf) f a r mid D1 else D1 := ⟨_, rfl⟩
  have HE : Aside (symM (ltOf cf) (f + 1) a m b d = if mid < e ∧ e < b then symM (ltOf cf) f mid e b D2 else D2) := symM_step (ltOf cf) f a m b mid s0 r0 r e d D1 D2 h1 h2 hmid hs0 hr0 hr he hD1 hD2
  generalize symM (ltOf cf) (f + 1) a m b d = fin at HE ⊢
  have HD1 : Aside (D1 = if r < m ∧ m < e then rot m (e - r) (m - r) (e - m) d else d) := hD1
  have HD2 : Aside (D2 = if a < r ∧ r < mid then symM (ltOf cf) f a r mid D1 else D1) := hD2
  have hez : (mid : Int) + (m : Int) - (r : Int) = (e : Int) := by omega
  have CR : Aside (r < m → m < e → ∀ (wk : World), Aside (SWK encL k w0 blk off d wk) → Calls P 145 #[.slice (some ⟨blk, off, none⟩) d.size cap, .int .i64 r, .int .i64 m, .int .i64 e, .func (.func g) #[] cb] wk fun e w' => e = .returned (.tuple #[]) ∧ Aside (SWK encL k w0 blk off D1 w')) := fun q1 q2 wk q3 => by
    have := rotate_any k L blk off cap r m e d0 d (.func (.func g) #[] cb) w0 wk R hs q3.out q1 q2 (by omega) hsz
    rw [if_pos ⟨q1, q2⟩] at hD1
    rw [← hD1] at this; exact this
  have hD1s : D1.size = d.size := by
    rw [hD1]; split
    · exact rot_size _ _ _ _ _
    · rfl
  have hD2s : D2.size = d.size := by
    rw [hD2]; split
    · rw [symM_size]; exact hD1s
    · exact hD1s
  have C1 : Aside (a < r → r < mid → ∀ (wk : World), Aside (SWK encL k w0 blk off D1 wk) → Calls P 132 #[.slice (some ⟨blk, off, none⟩) d.size cap, .int .i64 a, .int .i64 r, .int .i64 mid, .func (.func g) #[] cb] wk fun e w' => e = .returned (.tuple #[]) ∧ Aside (SWK encL k w0 blk off D2 w')) := fun q1 q2 wk q3 => by
    have := CS a r mid D1 wk q1 q2 (by omega) (by omega) ⟨q3.out, hD1s⟩
    rw [if_pos ⟨q1, q2⟩] at hD2
    rw [← hD2] at this; exact this
  have C2 : Aside (mid < e → e < b → ∀ (wk : World), Aside (SWK encL k w0 blk off D2 wk) → Calls P 132 #[.slice (some ⟨blk, off, none⟩) d.size cap, .int .i64 mid, .int .i64 e, .int .i64 b, .func (.func g) #[] cb] wk fun e w' => e = .returned (.tuple #[]) ∧ Aside (SWK encL k w0 blk off fin w')) := fun q1 q2 wk q3 => by
    have := CS mid e b D2 wk q1 q2 (by omega) (by omega) ⟨q3.out, hD2s⟩
    have h := HE.out
    rw [if_pos ⟨q1, q2⟩] at h
    rw [← h] at this; exact this
  have hend : Aside (¬ (mid < e ∧ e < b) → D2 = fin) := fun q => by
    have h := HE.out
    rw [if_neg q] at h; exact h.symm
  have hD12 : Aside (¬ (a < r ∧ r < mid) → D1 = D2) := fun q => by rw [if_neg q] at hD2; exact hD2.symm
  have hD01 : Aside (¬ (r < m ∧ m < e) → d = D1) := fun q => by rw [if_neg q] at hD1; exact hD1.symm
  have hab : a < b := by omega
  have hE : e = mid + m - r := he
  have hEm : m ≤ e ∧ e ≤ b ∧ e + r ≤ mid + m ∧ mid + m ≤ e + r := by omega
  clear CS hr hD1 hD2 hD1s hD2s HD1 HD2 HE he hE hmid
  have mixed := L.mixed
  have t0 := L.t0
  have a0 := L.a0
  have z0 := L.z0
  have v0 := L.v0
  have t3 := L.t3
  have a3 := L.a3
  have z3 := L.z3
  have v3 := L.v3
  have t4 := L.t4
  have a4 := L.a4
  have z4 := L.z4
  have v4 := L.v4
  have t5 := L.t5
  have a5 := L.a5
  have z5 := L.z5
  have v5 := L.v5
  have t22 := L.t22
  have a22 := L.a22
  have z22 := L.z22
  have u22 := run_underlying L.t22
  have u3 := run_underlying L.t3
  have u4 := run_underlying L.t4
  have u5 := run_underlying L.t5
  have a47 := L.a47
  have z47 := L.z47
  have e1 : ∀ args w, (callFunc 155 args).run P w = .ok (.enter 155 args) w := enters_of L.f1 (by kernel_rfl) rfl
  have e2 : ∀ args w, (callFunc 145 args).run P w = .ok (.enter 145 args) w := enters_of L.f2 (by kernel_rfl) rfl
  have e3 : ∀ args w, (callFunc 132 args).run P w = .ok (.enter 132 args) w := enters_of L.f3 (by kernel_rfl) rfl
  have hmaB : ((m : Int) - (a : Int) == 1) = false := by simp; omega
  have hmbB : ((b : Int) - (m : Int) == 1) = false := by simp; omega
  have hmaz : ¬ (m : Int) - (a : Int) = 1 := by omega
  have hmbz : ¬ (b : Int) - (m : Int) = 1 := by omega
  have hrel1 : a ≤ s0 ∧ s0 ≤ r0 ∧ r0 ≤ m ∧ r0 ≤ mid ∧ mid + m - r0 ≥ m ∧ mid + m - s0 ≤ b := by omega
  by_cases hc : mid < m
  · rw [if_pos hc] at hs0 hr0
    have hcz : (mid : Int) < (m : Int) := by omega
    have hsz0 : (mid : Int) + (m : Int) - (b : Int) = (s0 : Int) := by omega
    have hrz0 : r0 ≤ mid ∧ mid ≤ r0 := by omega
    clear hs0 hr0
    obtain rfl : mid = r0 := by omega
    go_enter L.f3, Tryz.ntmps132
    go_wp2
    go_loopg [20, 21] (mid - s0) (fun kx s10 s11 wr => ∃ i j : Nat, s10 = .int .i64 i ∧ s11 = .int .i64 j ∧ s0 ≤ i ∧ i ≤ j ∧ j ≤ mid ∧ j - i ≤ kx ∧ Aside (SWK encL k w0 blk off d wr) ∧ Aside (half2 (fun c => !ltOf cf d[mid + m - 1 - c]! d[c]!) kx i j = r))
    case atStart => exact ⟨s0, mid, rfl, rfl, Nat.le_refl _, by omega, Nat.le_refl _, Nat.le_refl _, S0, HR⟩
    case round =>
      clear S0 HR
      obtain ⟨i, j, rfl, rfl, hmi, hij, hjb, hkx, S1, HR⟩ := hrel
      by_cases hlt : i < j
      · have hltz : (i : Int) < (j : Int) := by omega
        clear CR C1 C2 hend hD12 hD01
        obtain ⟨f1, rfl⟩ : ∃ f1, gk = f1 + 1 := ⟨gk - 1, by omega⟩
        obtain ⟨c, hcc⟩ : ∃ c, c = (i + j) / 2 := ⟨_, rfl⟩
        have hczz : ((i : Int) + (j : Int)) / 2 = (c : Int) := by omega
        have hic : i ≤ c := by omega
        have hcj : c < j := by omega
        have HR2 : Aside ((if !ltOf cf d[mid + m - 1 - c]! d[c]! then half2 (fun c => !ltOf cf d[mid + m - 1 - c]! d[c]!) f1 (c + 1) j else half2 (fun c => !ltOf cf d[mid + m - 1 - c]! d[c]!) f1 i c) = r) := by
          show _ = _
          rw [← HR.out, half2_go _ _ _ _ hlt, ← hcc]
        clear HR hcc
        obtain ⟨q, hq⟩ : ∃ q, q = mid + m - 1 - c := ⟨_, rfl⟩
        have hqz : (mid : Int) + (m : Int) - 1 - (c : Int) = (q : Int) := by omega
        have hqb : q < d.size := by omega
        rw [← hq] at HR2
        clear hq
        have ea1 : ((q : Int)).toNat = q := by omega
        have pa1 : (0 : Int) ≤ (q : Int) := by omega
        have ba1 : (q : Int) < (d.size : Int) := by omega
        have ra1 : IntKind.i64.wrap ((q : Int)) = (q : Int) := by rw [IntKind.wrap_i64]; omega
        have ea2 : ((c : Int)).toNat = c := by omega
        have pa2 : (0 : Int) ≤ (c : Int) := by omega
        have ba2 : (c : Int) < (d.size : Int) := by omega
        have ra2 : IntKind.i64.wrap ((c : Int)) = (c : Int) := by rw [IntKind.wrap_i64]; omega
        cases hL : ltOf cf d[q]! d[c]! with
        | true =>
          have HR3 : Aside (half2 (fun c => !ltOf cf d[mid + m - 1 - c]! d[c]!) f1 i c = r) := by show _ = _; rw [← HR2.out, hL]; rfl
          clear HR2
          obtain ⟨x, hx⟩ : ∃ x, x = d[q]! := ⟨_, rfl⟩
          obtain ⟨y, hy⟩ : ∃ y, y = d[c]! := ⟨_, rfl⟩
          have lx := S1.out.ld R hs.symm P (q) (by omega)
          have ly := S1.out.ld R hs.symm P (c) (by omega)
          rw [← hx] at lx
          rw [← hy] at ly
          have hc := S1.out.cmp HC.out rfl x y
          have hv : cf x y < 0 := by rw [hx, hy]; exact of_decide_eq_true hL
          have hd : decide (cf x y < 0) = true := decide_eq_true hv
          clear hx hy hL
          go_wp2_with fail
          go_quiet_grown (first | (go_at_fn g; refine Calls.grown_of (hc _ _)))
          have S2 : Aside (SWK encL k w0 blk off d (grow (wr.drewN nq) osq)) := S1.out.grown nq osq
          clear lx ly hc S1
          generalize grow (wr.drewN nq) osq = w2 at S2 ⊢
          clear nq osq
          go_wp2
          go_roundg f1
          case measure => omega
          case rel => exact ⟨i, c, rfl, by go_num, hmi, by omega, by omega, by omega, S2, HR3⟩
        | false =>
          have HR3 : Aside (half2 (fun c => !ltOf cf d[mid + m - 1 - c]! d[c]!) f1 (c + 1) j = r) := by show _ = _; rw [← HR2.out, hL]; rfl
          clear HR2
          obtain ⟨x, hx⟩ : ∃ x, x = d[q]! := ⟨_, rfl⟩
          obtain ⟨y, hy⟩ : ∃ y, y = d[c]! := ⟨_, rfl⟩
          have lx := S1.out.ld R hs.symm P (q) (by omega)
          have ly := S1.out.ld R hs.symm P (c) (by omega)
          rw [← hx] at lx
          rw [← hy] at ly
          have hc := S1.out.cmp HC.out rfl x y
          have hv : ¬ cf x y < 0 := by rw [hx, hy]; exact of_decide_eq_false hL
          have hd : decide (cf x y < 0) = false := decide_eq_false hv
          clear hx hy hL
          go_wp2_with fail
          go_quiet_grown (first | (go_at_fn g; refine Calls.grown_of (hc _ _)))
          have S2 : Aside (SWK encL k w0 blk off d (grow (wr.drewN nq) osq)) := S1.out.grown nq osq
          clear lx ly hc S1
          generalize grow (wr.drewN nq) osq = w2 at S2 ⊢
          clear nq osq
          go_wp2
          go_roundg f1
          case measure => omega
          case rel => exact ⟨c + 1, j, by go_num, rfl, by omega, by omega, hjb, by omega, S2, HR3⟩
      · have hltz : ¬ (i : Int) < (j : Int) := by omega
        have hri : r = i := by have := HR.out; rw [half2_stop _ _ _ _ hlt] at this; exact this.symm
        subst hri
        clear HR
        by_cases p1 : r < m <;> by_cases p2 : r < mid <;> by_cases p3 : a < r <;> by_cases p4 : e < b
        all_goals (try (exfalso; omega))
        all_goals (first | (have p1z : (r : Int) < (m : Int) := by omega) | (have p1z : ¬ (r : Int) < (m : Int) := by omega))
        all_goals (first | (have p5z : (mid : Int) < (e : Int) := by omega) | (have p5z : ¬ (mid : Int) < (e : Int) := by omega))
        all_goals (first | (have p6z : (m : Int) < (e : Int) := by omega) | (have p6z : ¬ (m : Int) < (e : Int) := by omega))
        all_goals (first | (have p2z : (r : Int) < (mid : Int) := by omega) | (have p2z : ¬ (r : Int) < (mid : Int) := by omega))
        all_goals (first | (have p3z : (a : Int) < (r : Int) := by omega) | (have p3z : ¬ (a : Int) < (r : Int) := by omega))
        all_goals (first | (have p4z : (e : Int) < (b : Int) := by omega) | (have p4z : ¬ (e : Int) < (b : Int) := by omega))
        all_goals (first | (have q : ¬ (r < m ∧ m < e) := (by omega); have h := hD01.out q; clear q; subst h) | skip)
        all_goals (first | (have q : ¬ (a < r ∧ r < mid) := (by omega); have h := hD12.out q; clear q; subst h) | skip)
        all_goals (first | (have q : ¬ (mid < e ∧ e < b) := (by omega); have h := hend.out q; clear q; subst h) | skip)
        all_goals clear hend hD12 hD01 HC
        all_goals go_wp2_with (first
          | (go_at_fn 145; refine (CR.out (by omega) (by omega) _ (by assumption)).mono ?_; rintro e' w' ⟨rfl, S'⟩)
          | (go_at_fn 132; refine (C1.out (by omega) (by omega) _ (by assumption)).mono ?_; rintro e' w' ⟨rfl, S'⟩)
          | (go_at_fn 132; refine (C2.out (by omega) (by omega) _ (by assumption)).mono ?_; rintro e' w' ⟨rfl, S'⟩))
        all_goals go_end0
        all_goals exact ⟨rfl, (by assumption : Aside (SWK encL k w0 blk off _ _)).out⟩
  · rw [if_neg hc] at hs0 hr0
    have hcz : ¬ (mid : Int) < (m : Int) := by omega
    obtain rfl : a = s0 := by omega
    obtain rfl : m = r0 := by omega
    go_enter L.f3, Tryz.ntmps132
    go_wp2
    go_loopg [20, 21] (m - a) (fun kx s10 s11 wr => ∃ i j : Nat, s10 = .int .i64 i ∧ s11 = .int .i64 j ∧ a ≤ i ∧ i ≤ j ∧ j ≤ m ∧ j - i ≤ kx ∧ Aside (SWK encL k w0 blk off d wr) ∧ Aside (half2 (fun c => !ltOf cf d[mid + m - 1 - c]! d[c]!) kx i j = r))
    case atStart => exact ⟨a, m, rfl, rfl, Nat.le_refl _, by omega, Nat.le_refl _, Nat.le_refl _, S0, HR⟩
    case round =>
      clear S0 HR
      obtain ⟨i, j, rfl, rfl, hmi, hij, hjb, hkx, S1, HR⟩ := hrel
      by_cases hlt : i < j
      · have hltz : (i : Int) < (j : Int) := by omega
        clear CR C1 C2 hend hD12 hD01
        obtain ⟨f1, rfl⟩ : ∃ f1, gk = f1 + 1 := ⟨gk - 1, by omega⟩
        obtain ⟨c, hcc⟩ : ∃ c, c = (i + j) / 2 := ⟨_, rfl⟩
        have hczz : ((i : Int) + (j : Int)) / 2 = (c : Int) := by omega
        have hic : i ≤ c := by omega
        have hcj : c < j := by omega
        have HR2 : Aside ((if !ltOf cf d[mid + m - 1 - c]! d[c]! then half2 (fun c => !ltOf cf d[mid + m - 1 - c]! d[c]!) f1 (c + 1) j else half2 (fun c => !ltOf cf d[mid + m - 1 - c]! d[c]!) f1 i c) = r) := by
          show _ = _
          rw [← HR.out, half2_go _ _ _ _ hlt, ← hcc]
        clear HR hcc
        obtain ⟨q, hq⟩ : ∃ q, q = mid + m - 1 - c := ⟨_, rfl⟩
        have hqz : (mid : Int) + (m : Int) - 1 - (c : Int) = (q : Int) := by omega
        have hqb : q < d.size := by omega
        rw [← hq] at HR2
        clear hq
        have ea1 : ((q : Int)).toNat = q := by omega
        have pa1 : (0 : Int) ≤ (q : Int) := by omega
        have ba1 : (q : Int) < (d.size : Int) := by omega
        have ra1 : IntKind.i64.wrap ((q : Int)) = (q : Int) := by rw [IntKind.wrap_i64]; omega
        have ea2 : ((c : Int)).toNat = c := by omega
        have pa2 : (0 : Int) ≤ (c : Int) := by omega
        have ba2 : (c : Int) < (d.size : Int) := by omega
        have ra2 : IntKind.i64.wrap ((c : Int)) = (c : Int) := by rw [IntKind.wrap_i64]; omega
        cases hL : ltOf cf d[q]! d[c]! with
        | true =>
          have HR3 : Aside (half2 (fun c => !ltOf cf d[mid + m - 1 - c]! d[c]!) f1 i c = r) := by show _ = _; rw [← HR2.out, hL]; rfl
          clear HR2
          obtain ⟨x, hx⟩ : ∃ x, x = d[q]! := ⟨_, rfl⟩
          obtain ⟨y, hy⟩ : ∃ y, y = d[c]! := ⟨_, rfl⟩
          have lx := S1.out.ld R hs.symm P (q) (by omega)
          have ly := S1.out.ld R hs.symm P (c) (by omega)
          rw [← hx] at lx
          rw [← hy] at ly
          have hc := S1.out.cmp HC.out rfl x y
          have hv : cf x y < 0 := by rw [hx, hy]; exact of_decide_eq_true hL
          have hd : decide (cf x y < 0) = true := decide_eq_true hv
          clear hx hy hL
          go_wp2_with fail
          go_quiet_grown (first | (go_at_fn g; refine Calls.grown_of (hc _ _)))
          have S2 : Aside (SWK encL k w0 blk off d (grow (wr.drewN nq) osq)) := S1.out.grown nq osq
          clear lx ly hc S1
          generalize grow (wr.drewN nq) osq = w2 at S2 ⊢
          clear nq osq
          go_wp2
          go_roundg f1
          case measure => omega
          case rel => exact ⟨i, c, rfl, by go_num, hmi, by omega, by omega, by omega, S2, HR3⟩
        | false =>
          have HR3 : Aside (half2 (fun c => !ltOf cf d[mid + m - 1 - c]! d[c]!) f1 (c + 1) j = r) := by show _ = _; rw [← HR2.out, hL]; rfl
          clear HR2
          obtain ⟨x, hx⟩ : ∃ x, x = d[q]! := ⟨_, rfl⟩
          obtain ⟨y, hy⟩ : ∃ y, y = d[c]! := ⟨_, rfl⟩
          have lx := S1.out.ld R hs.symm P (q) (by omega)
          have ly := S1.out.ld R hs.symm P (c) (by omega)
          rw [← hx] at lx
          rw [← hy] at ly
          have hc := S1.out.cmp HC.out rfl x y
          have hv : ¬ cf x y < 0 := by rw [hx, hy]; exact of_decide_eq_false hL
          have hd : decide (cf x y < 0) = false := decide_eq_false hv
          clear hx hy hL
          go_wp2_with fail
          go_quiet_grown (first | (go_at_fn g; refine Calls.grown_of (hc _ _)))
          have S2 : Aside (SWK encL k w0 blk off d (grow (wr.drewN nq) osq)) := S1.out.grown nq osq
          clear lx ly hc S1
          generalize grow (wr.drewN nq) osq = w2 at S2 ⊢
          clear nq osq
          go_wp2
          go_roundg f1
          case measure => omega
          case rel => exact ⟨c + 1, j, by go_num, rfl, by omega, by omega, hjb, by omega, S2, HR3⟩
      · have hltz : ¬ (i : Int) < (j : Int) := by omega
        have hri : r = i := by have := HR.out; rw [half2_stop _ _ _ _ hlt] at this; exact this.symm
        subst hri
        clear HR
        by_cases p1 : r < m <;> by_cases p2 : r < mid <;> by_cases p3 : a < r <;> by_cases p4 : e < b
        all_goals (try (exfalso; omega))
        all_goals (first | (have p1z : (r : Int) < (m : Int) := by omega) | (have p1z : ¬ (r : Int) < (m : Int) := by omega))
        all_goals (first | (have p5z : (mid : Int) < (e : Int) := by omega) | (have p5z : ¬ (mid : Int) < (e : Int) := by omega))
        all_goals (first | (have p6z : (m : Int) < (e : Int) := by omega) | (have p6z : ¬ (m : Int) < (e : Int) := by omega))
        all_goals (first | (have p2z : (r : Int) < (mid : Int) := by omega) | (have p2z : ¬ (r : Int) < (mid : Int) := by omega))
        all_goals (first | (have p3z : (a : Int) < (r : Int) := by omega) | (have p3z : ¬ (a : Int) < (r : Int) := by omega))
        all_goals (first | (have p4z : (e : Int) < (b : Int) := by omega) | (have p4z : ¬ (e : Int) < (b : Int) := by omega))
        all_goals (first | (have q : ¬ (r < m ∧ m < e) := (by omega); have h := hD01.out q; clear q; subst h) | skip)
        all_goals (first | (have q : ¬ (a < r ∧ r < mid) := (by omega); have h := hD12.out q; clear q; subst h) | skip)
        all_goals (first | (have q : ¬ (mid < e ∧ e < b) := (by omega); have h := hend.out q; clear q; subst h) | skip)
        all_goals clear hend hD12 hD01 HC
        all_goals go_wp2_with (first
          | (go_at_fn 145; refine (CR.out (by omega) (by omega) _ (by assumption)).mono ?_; rintro e' w' ⟨rfl, S'⟩)
          | (go_at_fn 132; refine (C1.out (by omega) (by omega) _ (by assumption)).mono ?_; rintro e' w' ⟨rfl, S'⟩)
          | (go_at_fn 132; refine (C2.out (by omega) (by omega) _ (by assumption)).mono ?_; rintro e' w' ⟨rfl, S'⟩))
        all_goals go_end0
        all_goals exact ⟨rfl, (by assumption : Aside (SWK encL k w0 blk off _ _)).out⟩

theorem sym_any (k : Nat) (L : SortP P k) (cf : LabD → LabD → Int) (g : Nat) (cb : Array Value) (blk off cap n : Nat) (d0 : Array LabD) (w0 : World)
    (eg : ∀ args w, (callFunc g args).run P w = .ok (.enter g args) w) (hcmp : CmpLays P g cb encL k cf blk off n w0) (R : RowK encL k w0 blk off d0) (hs : d0.size = n) (hsz : n < 4611686018427387904) :
    ∀ (f a m b : Nat) (d : Array LabD) (w : World), a < m → m < b → b ≤ n → b - a ≤ f → (SWK encL k w0 blk off d w ∧ d.size = n) →
    Calls P 132 #[.slice (some ⟨blk, off, none⟩) n cap, .int .i64 a, .int .i64 m, .int .i64 b, .func (.func g) #[] cb] w fun e w' =>
      e = .returned (.tuple #[]) ∧ SWK encL k w0 blk off (symM (ltOf cf) f a m b d) w' := by
  intro f
  induction f with
  | zero => intro a m b d w h1 h2 h3 h4; omega
  | succ f ih =>
    intro a m b d w h1 h2 h3 h4 h5
    obtain ⟨S, rfl⟩ := h5
    by_cases c1 : m = a + 1
    · have := symA_any k L cf g cb blk off cap a m b d0 d w0 w eg hcmp R hs S h1 (by omega) h2 h3 hsz
      rw [symM, if_pos (by omega)]
      exact this
    · by_cases c2 : b = m + 1
      · have := symB_any k L cf g cb blk off cap a m b d0 d w0 w eg hcmp R hs S (by omega) h2 (by omega) h3 hsz
        rw [symM, if_neg (by omega), if_pos (by omega)]
        exact this
      · exact symC_any k L cf g cb blk off cap a m b f d0 d w0 w eg hcmp R hs S (by omega) (by omega) h3 hsz h4 ih
end Go.Proofs.YtapllmniplgajaaGreatDoor
