/- The library's stable sort at labels, for at most 40 elements. -/
import Derived.Test.YtapllmniplgajaaGreatDoorLabV
import Derived.Sort.LotA
import Derived.LoopN
namespace Go.Proofs.YtapllmniplgajaaGreatDoor
open Go.Shelf Go.RowKit Go.Lib Go.Sort

def insRen : Go.Shelf.Ren := ⟨fun | 20 => 131 | n => n, fun | 0 => 0 | 3 => 3 | 4 => 4 | 22 => 22 | 24 => 47 | 25 => 123 | n => n, fun n => n⟩
theorem insLays : Go.Proofs.SlLaysF0.n20 Tryz.prog insRen := {
  mixed := by kernel_rfl
  f20 := ⟨"slices.insertionSortCmpFunc[planisphere/api.Label]", by kernel_rfl, Tryz.func131.trans (congrArg some (by kernel_rfl))⟩
  t0 := Tryz.underlying0
  a0 := Tryz.isAgg0
  z0 := Tryz.sizeOf0
  v0 := Tryz.zeroValue0
  t3 := Tryz.underlying3
  a3 := Tryz.isAgg3
  z3 := Tryz.sizeOf3
  v3 := Tryz.zeroValue3
  t4 := Tryz.underlying4
  a4 := Tryz.isAgg4
  z4 := Tryz.sizeOf4
  v4 := Tryz.zeroValue4
  t22 := Tryz.underlying22
  a22 := Tryz.isAgg22
  z22 := Tryz.sizeOf22
  v22 := Tryz.zeroValue22
  t25 := Tryz.underlying123
  a25 := Tryz.isAgg123
  z25 := Tryz.sizeOf123
  v25 := Tryz.zeroValue123 }

theorem inner_size (lt : LabD → LabD → Bool) (a : Nat) : ∀ (j : Nat) (d : Array LabD), (insInner lt a j d).size = d.size
  | 0, d => by rw [insInner]
  | j + 1, d => by
    rw [insInner]
    split
    · rw [inner_size lt a j]; simp [swp]
    · rfl
theorem outer_size (lt : LabD → LabD → Bool) (a b : Nat) : ∀ (n i : Nat) (d : Array LabD), b - i ≤ n → (insOuter lt a b i d).size = d.size
  | 0, i, d, h => by rw [outerStop _ _ _ _ _ (by omega)]
  | n + 1, i, d, h => by
    by_cases hi : i < b
    · rw [outerGo _ _ _ _ _ hi, outer_size lt a b n (i + 1) _ (by omega), inner_size]
    · rw [outerStop _ _ _ _ _ hi]
theorem insertion_size (lt : LabD → LabD → Bool) (d : Array LabD) (a b : Nat) : (insertionSort lt d a b).size = d.size := outer_size lt a b _ _ d (Nat.le_refl _)
theorem insertion_none (lt : LabD → LabD → Bool) (d : Array LabD) (a : Nat) : insertionSort lt d a a = d := outerStop _ _ _ _ _ (by omega)

theorem cmpLays_on {g : Nat} {cb : Array Value} {cf : LabD → LabD → Int} {k blk off : Nat} {d0 d : Array LabD} {w0 w : World} (hcmp : CmpLays Tryz.prog g cb encL k cf blk off d0.size w0) (R : RowK encL k w0 blk off d0) (hs : d0.size = d.size) (S : SWK encL k w0 blk off d w) :
    CmpLays Tryz.prog g cb encL k cf blk off d.size w := fun m os dk hdk x y => by
  obtain ⟨n0, os0, rfl⟩ := S
  rw [sortWorldK_on encL k w0 blk off n0 m d dk os0 os R.hblk hdk]
  exact hcmp _ _ dk (by omega) x y

theorem ins_any (cf : LabD → LabD → Int) (g : Nat) (cb : Array Value) (blk off cap a b : Nat) (d0 d : Array LabD) (w0 w : World)
    (eg : ∀ args w, (callFunc g args).run Tryz.prog w = .ok (.enter g args) w) (hcmp : CmpLays Tryz.prog g cb encL 6 cf blk off d0.size w0) (R : RowK encL 6 w0 blk off d0) (hs : d0.size = d.size) (S : SWK encL 6 w0 blk off d w) (hab : a ≤ b) (hb : b ≤ d.size) (hsz : d.size < 4611686018427387904) :
    Calls Tryz.prog 131 #[.slice (some ⟨blk, off, none⟩) d.size cap, .int .i64 a, .int .i64 b, .func (.func g) #[] cb] w fun e w' => e = .returned (.tuple #[]) ∧ SWK encL 6 w0 blk off (Sort.insertionSort (ltOf cf) d a b) w' := by
  refine (AnyQ.insertionSortCmpFunc insLays 6 Tryz.isAgg47 Tryz.sizeOf47 encL R.hk R.h1 cf g cb blk off cap a b d w eg (cmpLays_on hcmp R hs S) (S.holds R.hblk R.hH hs.symm) (S.lt R.hblk) hab hb hsz).mono ?_
  rintro e w' ⟨rfl, n, os, rfl⟩
  exact ⟨rfl, S.on R.hblk n _ os (insertion_size _ _ _ _)⟩

set_option maxHeartbeats 4000000 in
set_option maxRecDepth 1000000 in
theorem stable_any (cf : LabD → LabD → Int) (g : Nat) (cb : Array Value) (blk off cap : Nat) (d : Array LabD) (w : World)
    (eg : ∀ args w, (callFunc g args).run Tryz.prog w = .ok (.enter g args) w) (hcmp : CmpLays Tryz.prog g cb encL 6 cf blk off d.size w) (R : RowK encL 6 w blk off d) (h40 : d.size ≤ 40) :
    Calls Tryz.prog 111 #[.slice (some ⟨blk, off, none⟩) d.size cap, .int .i64 d.size, .func (.func g) #[] cb] w fun e w' => e = .returned (.tuple #[]) ∧ SWK encL 6 w blk off (stable40 (ltOf cf) d) w' := by
  have S0 : Aside (SWK encL 6 w blk off d w) := SWK.start R.hH
  obtain ⟨n, hn⟩ : ∃ n, n = d.size := ⟨_, rfl⟩
  obtain ⟨dA, hdA⟩ : ∃ dA, dA = insertionSort (ltOf cf) d 0 20 := ⟨_, rfl⟩
  obtain ⟨dB, hdB⟩ : ∃ dB, dB = insertionSort (ltOf cf) dA 20 n := ⟨_, rfl⟩
  have hA : dA.size = d.size := by rw [hdA]; exact insertion_size _ _ _ _
  have hB : dB.size = d.size := by rw [hdB, insertion_size]; exact hA
  obtain ⟨fin, hfin⟩ : ∃ fin, fin = stable40 (ltOf cf) d := ⟨_, rfl⟩
  have I0 : Aside (n < 20 → ∀ wk, SWK encL 6 w blk off d wk → Calls Tryz.prog 131 #[.slice (some ⟨blk, off, none⟩) n cap, .int .i64 0, .int .i64 n, .func (.func g) #[] cb] wk fun e w' => e = .returned (.tuple #[]) ∧ Aside (SWK encL 6 w blk off fin w')) := fun hlt wk S => by
    have := ins_any cf g cb blk off cap 0 n d d w wk eg hcmp R rfl S (by omega) (by omega) (by omega)
    rw [hfin]; unfold stable40; rw [if_pos (by omega), ← hn]
    rw [← hn] at this; exact this
  have I1 : Aside (20 ≤ n → ∀ wk, SWK encL 6 w blk off d wk → Calls Tryz.prog 131 #[.slice (some ⟨blk, off, none⟩) n cap, .int .i64 0, .int .i64 20, .func (.func g) #[] cb] wk fun e w' => e = .returned (.tuple #[]) ∧ Aside (SWK encL 6 w blk off dA w')) := fun hlt wk S => by
    have := ins_any cf g cb blk off cap 0 20 d d w wk eg hcmp R rfl S (by omega) (by omega) (by omega)
    rw [← hdA, ← hn] at this; exact this
  have I2 : Aside (20 ≤ n → ∀ wk, SWK encL 6 w blk off dA wk → Calls Tryz.prog 131 #[.slice (some ⟨blk, off, none⟩) n cap, .int .i64 20, .int .i64 n, .func (.func g) #[] cb] wk fun e w' => e = .returned (.tuple #[]) ∧ Aside (SWK encL 6 w blk off dB w')) := fun hlt wk S => by
    have := ins_any cf g cb blk off cap 20 n d dA w wk eg hcmp R hA.symm S (by omega) (by omega) (by omega)
    rw [← hdB, hA, ← hn] at this; exact this
  have I3 : Aside (40 ≤ n → ∀ wk, SWK encL 6 w blk off dA wk → Calls Tryz.prog 131 #[.slice (some ⟨blk, off, none⟩) n cap, .int .i64 20, .int .i64 40, .func (.func g) #[] cb] wk fun e w' => e = .returned (.tuple #[]) ∧ Aside (SWK encL 6 w blk off dB w')) := fun hlt wk S => by
    have := ins_any cf g cb blk off cap 20 40 d dA w wk eg hcmp R hA.symm S (by omega) (by omega) (by omega)
    rw [show insertionSort (ltOf cf) dA 20 40 = dB by rw [hdB, show n = 40 by omega], hA, ← hn] at this; exact this
  have I4 : Aside (40 ≤ n → ∀ wk, SWK encL 6 w blk off dB wk → Calls Tryz.prog 131 #[.slice (some ⟨blk, off, none⟩) n cap, .int .i64 40, .int .i64 n, .func (.func g) #[] cb] wk fun e w' => e = .returned (.tuple #[]) ∧ Aside (SWK encL 6 w blk off dB w')) := fun hlt wk S => by
    have := ins_any cf g cb blk off cap 40 n d dB w wk eg hcmp R hB.symm S (by omega) (by omega) (by omega)
    rw [show insertionSort (ltOf cf) dB 40 n = dB by rw [show n = 40 by omega]; exact insertion_none _ _ _, hB, ← hn] at this; exact this
  have M1 : Aside (20 < n → ∀ wk, SWK encL 6 w blk off dB wk → Calls Tryz.prog 132 #[.slice (some ⟨blk, off, none⟩) n cap, .int .i64 0, .int .i64 20, .int .i64 n, .func (.func g) #[] cb] wk fun e w' => e = .returned (.tuple #[]) ∧ Aside (SWK encL 6 w blk off fin w')) := fun hlt wk S => by
    have := sym_any 6 sortP cf g cb blk off cap n d w eg (by rw [hn]; exact hcmp) R hn.symm (by omega) n 0 20 n dB wk (by omega) (by omega) (by omega) (by omega) ⟨S, by rw [hB, hn]⟩
    rw [hfin]; unfold stable40; rw [if_neg (by omega), ← hn, ← hdA, ← hdB]
    exact this
  have M2 : Aside (40 ≤ n → ∀ wk, SWK encL 6 w blk off dB wk → Calls Tryz.prog 132 #[.slice (some ⟨blk, off, none⟩) n cap, .int .i64 0, .int .i64 20, .int .i64 40, .func (.func g) #[] cb] wk fun e w' => e = .returned (.tuple #[]) ∧ Aside (SWK encL 6 w blk off fin w')) := fun hlt wk S => by
    have := M1.out (by omega) wk S
    rw [show ((n : Nat) : Int) = 40 by omega] at this; exact this
  have F20 : Aside (20 ≤ n → n ≤ 20 → dB = fin) := fun h1 h2 => by
    rw [hfin]; unfold stable40; rw [if_pos (by omega), hdB, hdA, ← hn, show n = 20 by omega]; exact insertion_none _ _ _
  rw [← hn, ← hfin]
  rw [← hn] at h40
  clear hfin hdA hdB hA hB R hcmp hn
  by_cases c1 : n < 20
  · have c1z : (n : Int) < 20 := by omega
    have I := fun wk S => I0.out c1 wk S
    clear I0 I1 I2 I3 I4 M1 M2 F20
    have I0 : Aside _ := I
    clear I
    go_enter Tryz.func111, Tryz.ntmps111
    go_wp2
    refine wp_loop_rounds 1 ?_
    rw [rounds_succ]
    go_wp2_with (go_at_call 131; refine (I0.out _ S0.out).mono ?_; rintro e' w' ⟨rfl, S1⟩)
    refine wp_loop_rounds 1 ?_
    rw [rounds_succ]
    go_wp2
    all_goals first | (exfalso; omega) | (go_end0; exact ⟨rfl, S1.out⟩)
  · by_cases c2 : n ≤ 20
    · have c1z : ¬ (n : Int) < 20 := by omega
      have c2z : (20 : Int) ≤ n := by omega
      have c3z : (n : Int) < 40 := by omega
      have c4z : ¬ (20 : Int) < n := by omega
      have e := F20.out (by omega) c2
      subst e
      have J1 : Aside _ := I1.out (by omega)
      have J2 : Aside _ := I2.out (by omega)
      clear I0 I1 I2 I3 I4 M1 M2 F20
      go_enter Tryz.func111, Tryz.ntmps111
      go_wp2
      refine wp_loop_rounds 2 ?_
      rw [rounds_succ]
      go_wp2_with (go_at_call 131; refine (J1.out _ S0.out).mono ?_; rintro e' w' ⟨rfl, S1⟩)
      rw [rounds_succ]
      go_wp2_with (go_at_call 131; refine (J2.out _ S1.out).mono ?_; rintro e' w' ⟨rfl, S2⟩)
      refine wp_loop_rounds 1 ?_
      rw [rounds_succ]
      go_wp2
      all_goals first | (exfalso; omega) | (go_end0; exact ⟨rfl, S2.out⟩)
    · by_cases c3 : n < 40
      · have c1z : ¬ (n : Int) < 20 := by omega
        have c2z : (20 : Int) ≤ n := by omega
        have c3z : (n : Int) < 40 := by omega
        have c4z : (20 : Int) < n := by omega
        have c5z : ¬ (40 : Int) ≤ n := by omega
        have c6z : ¬ (40 : Int) < n := by omega
        have J1 : Aside _ := I1.out (by omega)
        have J2 : Aside _ := I2.out (by omega)
        have J3 : Aside _ := M1.out (by omega)
        clear I0 I1 I2 I3 I4 M1 M2 F20
        go_enter Tryz.func111, Tryz.ntmps111
        go_wp2
        refine wp_loop_rounds 2 ?_
        rw [rounds_succ]
        go_wp2_with (go_at_call 131; refine (J1.out _ S0.out).mono ?_; rintro e' w' ⟨rfl, S1⟩)
        rw [rounds_succ]
        go_wp2_with (go_at_call 131; refine (J2.out _ S1.out).mono ?_; rintro e' w' ⟨rfl, S2⟩)
        refine wp_loop_rounds 2 ?_
        rw [rounds_succ]
        go_wp2
        refine wp_loop_rounds 1 ?_
        rw [rounds_succ]
        go_wp2_with (go_at_call 132; refine (J3.out _ S2.out).mono ?_; rintro e' w' ⟨rfl, S3⟩)
        rw [rounds_succ]
        go_wp2
        all_goals first | (exfalso; omega) | (go_end0; exact ⟨rfl, S3.out⟩)
      · have c1z : ¬ (n : Int) < 20 := by omega
        have c2z : (20 : Int) ≤ n := by omega
        have c3z : ¬ (n : Int) < 40 := by omega
        have c4z : (20 : Int) < n := by omega
        have c5z : (40 : Int) ≤ n := by omega
        have c6z : ¬ (40 : Int) < n := by omega
        have c7z : ¬ (60 : Int) ≤ n := by omega
        have c8z : ¬ (60 : Int) < n := by omega
        have c9z : ¬ (80 : Int) ≤ n := by omega
        have J1 : Aside _ := I1.out (by omega)
        have J2 : Aside _ := I3.out (by omega)
        have J3 : Aside _ := I4.out (by omega)
        have J4 : Aside _ := M2.out (by omega)
        clear I0 I1 I2 I3 I4 M1 M2 F20
        go_enter Tryz.func111, Tryz.ntmps111
        go_wp2
        refine wp_loop_rounds 3 ?_
        rw [rounds_succ]
        go_wp2_with (go_at_call 131; refine (J1.out _ S0.out).mono ?_; rintro e' w' ⟨rfl, S1⟩)
        rw [rounds_succ]
        go_wp2_with (go_at_call 131; refine (J2.out _ S1.out).mono ?_; rintro e' w' ⟨rfl, S2⟩)
        rw [rounds_succ]
        go_wp2_with (go_at_call 131; refine (J3.out _ S2.out).mono ?_; rintro e' w' ⟨rfl, S3⟩)
        refine wp_loop_rounds 2 ?_
        rw [rounds_succ]
        go_wp2
        refine wp_loop_rounds 2 ?_
        rw [rounds_succ]
        go_wp2_with (go_at_call 132; refine (J4.out _ S3.out).mono ?_; rintro e' w' ⟨rfl, S4⟩)
        rw [rounds_succ]
        go_wp2
        rw [rounds_succ]
        go_wp2
        all_goals first | (exfalso; omega) | (go_end0; exact ⟨rfl, S4.out⟩)

set_option maxHeartbeats 1000000 in
theorem sortStable_any (cf : LabD → LabD → Int) (g : Nat) (cb : Array Value) (blk off cap : Nat) (d : Array LabD) (w : World)
    (eg : ∀ args w, (callFunc g args).run Tryz.prog w = .ok (.enter g args) w) (hcmp : CmpLays Tryz.prog g cb encL 6 cf blk off d.size w) (R : RowK encL 6 w blk off d) (h40 : d.size ≤ 40) :
    Calls Tryz.prog 89 #[.slice (some ⟨blk, off, none⟩) d.size cap, .func (.func g) #[] cb] w fun e w' => e = .returned (.tuple #[]) ∧ SWK encL 6 w blk off (stable40 (ltOf cf) d) w' := by
  have C := Lib.hid (stable_any cf g cb blk off cap d w eg hcmp R h40)
  clear hcmp R
  generalize stable40 (ltOf cf) d = fin at C ⊢
  go_enter Tryz.func89, Tryz.ntmps89
  go_wp2_with (go_at_call 111; refine (C.out).mono ?_; rintro e' w' ⟨rfl, S4⟩)
  go_end0
  exact ⟨rfl, S4⟩
end Go.Proofs.YtapllmniplgajaaGreatDoor
