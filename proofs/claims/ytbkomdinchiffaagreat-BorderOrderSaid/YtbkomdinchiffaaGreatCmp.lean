/- cmp.Compare at texts, cmp.Or at numbers. -/
import Derived.Test.YtbkomdinchiffaaGreatNod
import Derived.Test.YtbkomdinchiffaaGreatShelf
namespace Go.Proofs.YtbkomdinchiffaaGreat
open Go.RowKit Go.Sort

theorem isNaNS (x : ByteArray) (w : World) : Calls Tryz.prog 122 #[.string x] w fun e w' => e = .returned (.bool false) ∧ w' = w := by
  go_enter Tryz.func122, Tryz.ntmps122
  go_wp2
  go_ret
  exact ⟨by simp, rfl⟩

set_option maxHeartbeats 1000000 in
theorem cmpS_any (x y : ByteArray) (w : World) : Calls Tryz.prog 73 #[.string x, .string y] w fun e w' => e = .returned (.int .i64 (cmpS x y)) ∧ w' = w := by
  have hn := fun z => isNaNS z
  cases h1 : ltB x y
  · cases h2 : ltB y x
    · have HR := Lib.hid (show cmpS x y = 0 by unfold cmpS; rw [h1, h2]; rfl)
      have h3 := bl_leq x.toList y.toList
      unfold ltB at h1 h2
      rw [h1, h2] at h3
      simp only [Bool.false_or, Bool.not_false] at h3
      go_enter Tryz.func73, Tryz.ntmps73
      go_wp2_with (go_at_call 122; refine (hn _ _).mono ?_; rintro e' w' ⟨rfl, rfl⟩)
      go_ret
      exact ⟨by rw [HR.out]; rfl, rfl⟩
    · have HR := Lib.hid (show cmpS x y = 1 by unfold cmpS; rw [h1, h2]; rfl)
      have h3 := bl_leq x.toList y.toList
      unfold ltB at h1 h2
      rw [h1, h2] at h3
      simp only [Bool.false_or, Bool.not_true] at h3
      go_enter Tryz.func73, Tryz.ntmps73
      go_wp2_with (go_at_call 122; refine (hn _ _).mono ?_; rintro e' w' ⟨rfl, rfl⟩)
      go_ret
      exact ⟨by rw [HR.out]; rfl, rfl⟩
  · have HR := Lib.hid (show cmpS x y = -1 by unfold cmpS; rw [h1]; rfl)
    unfold ltB at h1
    go_enter Tryz.func73, Tryz.ntmps73
    go_wp2_with (go_at_call 122; refine (hn _ _).mono ?_; rintro e' w' ⟨rfl, rfl⟩)
    go_ret
    exact ⟨by rw [HR.out]; rfl, rfl⟩

set_option maxHeartbeats 1000000 in
theorem orI_any (x y : Int) (B : Nat) (cap : Nat) (w : World) (h0 : w.cell? ⟨B, 0, none⟩ = some (.int .i64 x)) (h1 : w.cell? ⟨B, 1, none⟩ = some (.int .i64 y)) :
    Calls Tryz.prog 106 #[.slice (some ⟨B, 0, none⟩) 2 cap] w fun e w' => e = .returned (.int .i64 (if x = 0 then y else x)) ∧ w' = w := by
  obtain ⟨r, hr⟩ : ∃ r, r = if x = 0 then y else x := ⟨_, rfl⟩
  rw [← hr]
  by_cases hx : x = 0
  · have HR := Lib.hid (show r = y by rw [hr, if_pos hx])
    clear hr
    have hxb : (x != 0) = false := by simp [hx]
    by_cases hy : y = 0
    · have hyb : (y != 0) = false := by simp [hy]
      have HY := Lib.hid hy
      clear hx hy
      go_enter Tryz.func106, Tryz.ntmps106
      go_wp2
      refine wp_loop_rounds 3 ?_
      rw [rounds_succ]
      go_wp2
      rw [rounds_succ]
      go_wp2
      rw [rounds_succ]
      go_wp2
      go_ret
      exact ⟨by rw [HR.out, HY.out]; rfl, rfl⟩
    · have hyb : (y != 0) = true := by simp [hy]
      clear hx hy
      go_enter Tryz.func106, Tryz.ntmps106
      go_wp2
      refine wp_loop_rounds 2 ?_
      rw [rounds_succ]
      go_wp2
      rw [rounds_succ]
      go_wp2
      go_ret
      exact ⟨by rw [HR.out]; rfl, rfl⟩
  · have HR := Lib.hid (show r = x by rw [hr, if_neg hx])
    clear hr
    have hxb : (x != 0) = true := by simp [hx]
    clear hx
    go_enter Tryz.func106, Tryz.ntmps106
    go_wp2
    refine wp_loop_rounds 1 ?_
    rw [rounds_succ]
    go_wp2
    go_ret
    exact ⟨by rw [HR.out]; rfl, rfl⟩

end Go.Proofs.YtbkomdinchiffaaGreat
