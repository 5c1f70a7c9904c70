/- Layer 7: Kids and Cover of the program and of the reference side by side. -/
import Derived.Test.YtnilofeakdibhaaDoorGridRG
namespace Go.Proofs.YtnilofeakdibhaaDoor
open Go.RowKit

theorem kids_both (z x y : Int) : ∃ (l : List (Int × Int × Int)) (E : Int), l.length ≤ 1000000 ∧
    (∀ w, Calls Tryd.prog 19 #[.agg #[.int .i64 z, .int .i64 x, .int .i64 y]] w (ListPost 0 l E w)) ∧
    (∀ w, Calls Tryd.prog 23 #[.agg #[.int .i64 z, .int .i64 x, .int .i64 y]] w (ListPost 0 l E w)) := by
  have nl {f : FuncId} {args : Array Value} {E : Int} (h : ∀ w, Calls Tryd.prog f args w fun e w' => e = .returned (.tuple #[.slice none 0 0, .int .i64 E]) ∧ Below w.heap.size w w') (w : World) : Calls Tryd.prog f args w (ListPost 0 [] E w) :=
    (h w).mono fun e w' ⟨he, hb⟩ => ⟨⟨_, he, .inl ⟨rfl, rfl⟩⟩, hb⟩
  cases hv : validB z x y
  · exact ⟨[], 1, by simp, nl (kids_arg z x y hv), nl (rkids_arg z x y hv)⟩
  · have hb := valid_bd hv
    by_cases hz : z < 17
    · refine ⟨kidL z x y, 0, by simp [kidL], fun w => (kids_ok z x y hv hz w).mono ?_, rkids_ok z x y hv hz⟩
      rintro e w' ⟨⟨v, he, g, cap, cur, hr⟩, hb⟩
      exact ⟨⟨v, he, .inr ⟨by simp [kidL], g, cap, cur, Nat.zero_le _, hr⟩⟩, hb⟩
    · obtain rfl : z = 17 := by omega
      exact ⟨[], 11, by simp, nl (kids_none x y hv), nl (rkids_none x y hv)⟩

set_option maxRecDepth 100000 in
theorem cover_both (a b c d z : Int) : ∃ (l : List (Int × Int × Int)) (E : Int), l.length ≤ 1000000 ∧
    (∀ w, Calls Tryd.prog 18 #[.agg #[.int .i64 a, .int .i64 b, .int .i64 c, .int .i64 d], .int .i64 z] w (ListPost w.heap.size l E w)) ∧
    (∀ w, Calls Tryd.prog 25 #[.agg #[.int .i64 a, .int .i64 b, .int .i64 c, .int .i64 d], .int .i64 z] w (ListPost w.heap.size l E w)) := by
  have nl {f : FuncId} {args : Array Value} {E : Int} (h : ∀ w, Calls Tryd.prog f args w fun e w' => e = .returned (.tuple #[.slice none 0 0, .int .i64 E]) ∧ Below w.heap.size w w') (w : World) : Calls Tryd.prog f args w (ListPost w.heap.size [] E w) :=
    (h w).mono fun e w' ⟨he, hb⟩ => ⟨⟨_, he, .inl ⟨rfl, rfl⟩⟩, hb⟩
  cases h : covG a b c d z
  · exact ⟨[], 1, by simp, nl (cover_arg a b c d z h), nl (rcover_arg a b c d z h)⟩
  · obtain ⟨hz0, hz1, ha, hb, hc, hd, hac, hbd⟩ := of_covG h
    obtain ⟨k, rfl⟩ : ∃ k : Nat, z = k := ⟨z.toNat, by omega⟩
    have hk : k ≤ 17 := by omega
    have i1 : insideB a b = true := by rw [insideB, decide_eq_true_eq]; omega
    have i2 : insideB c d = true := by rw [insideB, decide_eq_true_eq]; omega
    have h1 := fun w => of_ok a b k hk (by omega) w
    have h2 := fun w => of_ok c d k hk (by omega) w
    have r1 := fun w => rof_ok a b k hk (by omega) w
    have r2 := fun w => rof_ok c d k hk (by omega) w
    have hx := div_bd hk ha hac hc
    have hy := div_bd hk hb hbd hd
    by_cases hs : 4096 < (c / side k - a / side k + 1) * (d / side k - b / side k + 1)
    · exact ⟨[], 2, by simp, nl (cover_limit a b c d _ _ _ _ k h1 h2 hac hbd hx hy hs), nl (rcover_limit a b c d _ _ _ _ k hk i1 i2 r1 r2 hac hbd hx hy hs)⟩
    · obtain ⟨nx, hnx⟩ : ∃ n : Nat, c / side k = a / side k + n - 1 := ⟨(c / side k - a / side k + 1).toNat, by omega⟩
      obtain ⟨ny, hny⟩ : ∃ n : Nat, d / side k = b / side k + n - 1 := ⟨(d / side k - b / side k + 1).toNat, by omega⟩
      have hlen : ny * nx ≤ 4096 := by
        have e1 : c / side k - a / side k + 1 = nx := by omega
        have e2 : d / side k - b / side k + 1 = ny := by omega
        have hs' := Int.not_lt.mp hs
        rw [e1, e2, Int.mul_comm] at hs'
        exact_mod_cast hs'
      have hl := sqL_len (k : Int) (a / side k) (b / side k) nx ny
      have hne : sqL (k : Int) (a / side k) (b / side k) nx ny ≠ [] := by
        intro h0
        rw [h0, List.length_nil] at hl
        have := Nat.mul_pos (show 0 < ny by omega) (show 0 < nx by omega)
        omega
      refine ⟨sqL k (a / side k) (b / side k) nx ny, 0, by omega, fun w => (cover_ok a b c d _ _ _ _ nx ny k h1 h2 hac hbd hx hy hnx hny (by omega) w).mono ?_, rcover_ok a b c d _ _ _ _ nx ny k hk i1 i2 r1 r2 hac hbd hx hy hnx hny (by omega)⟩
      rintro e w' ⟨⟨v, he, hr⟩, hb⟩
      exact ⟨⟨v, he, .inr ⟨hne, hr⟩⟩, hb⟩
end Go.Proofs.YtnilofeakdibhaaDoor
