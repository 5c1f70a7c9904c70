/- slices.Clone and slices.Insert at objects. -/
import Derived.Test.YtbkomdinchiffaaGreatObRow
import Derived.Test.YtbkomdinchiffaaGreatOwnM
namespace Go.Proofs.YtbkomdinchiffaaGreat
open Go.RowKit Go.Sort

set_option maxRecDepth 100000 in
set_option maxHeartbeats 1000000 in
theorem cloneO_any (v : Value) (L : List ObM) (w : World) (hl : L.length ≤ 1000) (hv : RowE encOb 6 w v L) (hok : ∀ x ∈ L, ObOK w x) :
    Calls Tryz.prog 62 #[v] w fun e w' => ∃ v', e = .returned v' ∧ w'.ownsRow w.heap.size 59 6 v' L.length (L.flatMap encOb) ∧ Below w.heap.size w w' := by
  obtain ⟨i0, hi, hi0, hi1, hi2⟩ := info_parts infoOb
  have q22 : ∀ (w : World) (a : Option Addr) (n c n' c' : Nat), (binOp .eql 22 (.slice a n c) (.slice none n' c')).run Tryz.prog w = .ok (.bool a.isNone) w := fun w a n c n' c' => Lib.run_eql_slice_nil w _ _ a n c n' c' Tryz.underlying22
  have HS := Lib.hid (fun (a : Option Addr) (c : Nat) (W : World) (h : RowE encOb 6 W (.slice a L.length c) L) => row_src encOb_len (by omega) h)
  have HR := Lib.hid hv
  obtain ⟨a, cap, rfl, hc⟩ := hv
  cases a with
  | none =>
    have h0 : L.length = 0 := by
      rcases Nat.eq_zero_or_pos L.length with h | h
      · exact h
      · obtain ⟨b, off, h1, _⟩ := hc h; cases h1
    have hl0 : L = [] := List.length_eq_zero_iff.1 h0
    subst hl0
    clear hc HR HS
    go_enter Tryz.func62, Tryz.ntmps62
    go_wp2
    go_ret
    exact ⟨_, rfl, ⟨rfl, Or.inl ⟨rfl, rfl⟩⟩, Below.refl _ _⟩
  | some ad =>
    have HLN := Lib.hid (flat_length encOb 6 encOb_len L)
    have H1 := Lib.hid (obs_one hok)
    have BA : Below w.heap.size w (w.alloc (.cells #[] 59)) := (Below.refl _ _).alloc (Nat.le_refl _) _
    have S5 := Lib.hid (HS.out _ _ _ (HR.out.later BA))
    clear hc HS HR hok
    generalize L.flatMap encOb = news at S5 HLN H1 ⊢
    generalize L.length = n at hl S5 HLN ⊢
    go_enter Tryz.func62, Tryz.ntmps62
    go_wp2_with (at_builtin; refine wpList_append_src rfl _ _ 22 rfl w.heap.size 59 i0 (.agg #[.string ⟨#[]⟩, .int .i64 0, .int .i64 0, .int .i64 0, .slice none 0 0, .slice none 0 0]) 6 88 Tryz.underlying22 hi hi0 hi1 hi2 rfl (by decide) _ _ _ rfl (World.ownsRow_made w #[] 0 (Nat.le_refl _) (Nat.zero_le _) rfl) _ _ S5.out HLN.out H1.out (by unfold maxLen; omega) (by omega) BA.size ?_; intro v' w2 hown hgrow hbel)
    go_ret
    exact ⟨v', rfl, by simpa using hown, BA.trans hbel⟩

theorem grown_trans {a b c : World} {row : Option Nat} (h : a.grownBy b row) (h2 : b.grownBy c row) : a.grownBy c row :=
  ⟨h2.os.trans h.os, h2.tape.trans h.tape, h2.output.trans h.output, Nat.le_trans h.size h2.size, fun k hk hne => (h2.block k (Nat.lt_of_lt_of_le hk h.size) hne).trans (h.block k hk hne)⟩
/-- The row with one element more. -/
def insV (xs news : List Value) (i : Nat) : List Value := xs.take (i * 6) ++ news ++ xs.drop (i * 6)
set_option maxRecDepth 100000 in
set_option maxHeartbeats 4000000 in
/-- At the end. -/
theorem insEnd_any (v : Value) (n vb base : Nat) (xs news : List Value) (w : World) (hown : w.ownsRow base 59 6 v n xs) (hn : n ≤ 1000000) (hrow : w.heap[vb]? = some (.cells news.toArray 59)) (hnl : news.length = 6) (h1n : ∀ u ∈ news, u.oneCell' = true) (hbw : base ≤ w.heap.size) :
    Calls Tryz.prog 63 #[v, .int .i64 n, .slice (some ⟨vb, 0, none⟩) 1 1] w fun e w' => ∃ v', e = .returned v' ∧ w'.ownsRow base 59 6 v' (n + 1) (xs ++ news) ∧ w.grownBy w' v.ownBlock := by
  obtain ⟨i0, hi0', hi0, hi1, hi2⟩ := info_parts infoOb
  have mixed : Tryz.prog.follows .mixedOrders = true := by kernel_rfl
  have hsz : (Tryz.prog.info? 59).map (·.size) = some 6 := by kernel_rfl
  have HO := Lib.hid hown
  have HC := Lib.hid (cells_row hrow)
  rcases hown.2 with ⟨rfl, rfl⟩ | ⟨g, cap, cur, rfl, hb, hg, hnc, hcm, hcs, ht⟩
  · clear hown hrow
    go_enter Tryz.func63, Tryz.ntmps63
    go_wp2_with (at_builtin; refine wpList_append_own _ rfl _ _ 22 rfl base 59 i0 (.agg #[.string ⟨#[]⟩, .int .i64 0, .int .i64 0, .int .i64 0, .slice none 0 0, .slice none 0 0]) 6 88 Tryz.underlying22 hi0' hi0 hi1 hi2 rfl (by decide) _ _ _ rfl HO.out ⟨vb, 0, none⟩ 1 1 news rfl hnl HC.out h1n (by unfold maxLen; omega) (by omega) hbw ?_; intro v' w2 hown2 hgrow _)
    all_goals (go_ret; exact ⟨v', rfl, hown2, hgrow⟩)
  · clear hown hrow hg hcs ht
    go_enter Tryz.func63, Tryz.ntmps63
    go_wp2_with (at_builtin; refine wpList_append_own _ rfl _ _ 22 rfl base 59 i0 (.agg #[.string ⟨#[]⟩, .int .i64 0, .int .i64 0, .int .i64 0, .slice none 0 0, .slice none 0 0]) 6 88 Tryz.underlying22 hi0' hi0 hi1 hi2 rfl (by decide) _ _ _ rfl HO.out ⟨vb, 0, none⟩ 1 1 news rfl hnl HC.out h1n (by unfold maxLen; omega) (by omega) hbw ?_; intro v' w2 hown2 hgrow _)
    all_goals (go_ret; exact ⟨v', rfl, hown2, hgrow⟩)

theorem ins_parts {xs news : List Value} {n i : Nat} (hx : xs.length = n * 6) (hnl : news.length = 6) (hi : i < n) (sp : List Value) (hsp : sp.length = 6) :
    (((xs ++ sp).take ((i + 1) * 6) ++ xs.drop (i * 6) ++ (xs ++ sp).drop ((i + 1) * 6 + (xs.drop (i * 6)).length)).take (i * 6) ++ news ++ ((xs ++ sp).take ((i + 1) * 6) ++ xs.drop (i * 6) ++ (xs ++ sp).drop ((i + 1) * 6 + (xs.drop (i * 6)).length)).drop (i * 6 + news.length)) = insV xs news i := by
  unfold insV
  have h1 : (xs.drop (i * 6)).length = n * 6 - i * 6 := by rw [List.length_drop, hx]
  have h2 : (xs ++ sp).drop ((i + 1) * 6 + (xs.drop (i * 6)).length) = [] := by
    rw [h1]; exact List.drop_eq_nil_of_le (by rw [List.length_append, hx, hsp]; omega)
  have h3 : (xs ++ sp).take ((i + 1) * 6) = xs.take ((i + 1) * 6) := List.take_append_of_le_length (by omega)
  rw [h2, h3, List.append_nil, hnl]
  congr 1
  · congr 1
    rw [List.take_append_of_le_length (by rw [List.length_take]; omega), List.take_take, Nat.min_eq_left (by omega)]
  · rw [show i * 6 + 6 = (xs.take ((i + 1) * 6)).length by rw [List.length_take]; omega]
    exact List.drop_left

set_option maxRecDepth 100000 in
set_option maxHeartbeats 4000000 in
/-- There is room. -/
theorem insRoom_any (g n cap i vb base : Nat) (xs news : List Value) (w : World) (hown : w.ownsRow base 59 6 (.slice (some ⟨g, 0, none⟩) n cap) n xs) (hi : i < n) (hroom : n + 1 ≤ cap) (hn : n ≤ 1000000) (h1x : ∀ u ∈ xs, u.oneCell' = true) (hrow : w.heap[vb]? = some (.cells news.toArray 59)) (hnl : news.length = 6) (h1n : ∀ u ∈ news, u.oneCell' = true) (hne : vb ≠ g) :
    Calls Tryz.prog 63 #[.slice (some ⟨g, 0, none⟩) n cap, .int .i64 i, .slice (some ⟨vb, 0, none⟩) 1 1] w fun e w' => ∃ v', e = .returned v' ∧ w'.ownsRow base 59 6 v' (n + 1) (insV xs news i) ∧ w.grownBy w' (some g) := by
  obtain ⟨i0, hi0', hi0, hi1, hi2⟩ := info_parts infoOb
  have mixed : Tryz.prog.follows .mixedOrders = true := by kernel_rfl
  have hsz : (Tryz.prog.info? 59).map (·.size) = some 6 := by kernel_rfl
  obtain ⟨hshape, hnc, hcm⟩ := own_shape hown
  obtain ⟨sp, hspl, hown2⟩ := own_more hown (Nat.le_succ n) hroom
  have hspl : sp.length = 6 := by rw [hspl]; omega
  have hx := hown.1
  have hbg : base ≤ g := (hown.lt g rfl).1
  have hz1 : ¬ ((i : Int) = (n : Int)) := by omega
  have hdl : (xs.drop (i * 6)).length = (n - i) * 6 := by rw [List.length_drop, hx, Nat.sub_mul]
  have hrf : w.frozen? ⟨vb, 0, none⟩ = false := frozen_of_row w _ 0 _ _ hrow
  have hre : w.frozen? ⟨vb, 6, none⟩ = false := frozen_of_row w _ 6 _ _ hrow
  have hrs : w.shape? vb = some (59, 6) := by simp [World.shape?, hrow, hnl]
  have hov : ∀ lb cb, (callFunc 99 #[.slice (some ⟨vb, 0, none⟩) 1 1, .slice (some ⟨g, (i + 1) * 6, none⟩) lb cb]).run Tryz.prog w = .ok (.value (.bool false)) w := fun lb cb => by
    rw [run_callFunc_extern Tryz.func99 (by kernel_rfl) (by kernel_rfl) (by kernel_rfl) (e := Extern.SlicesOverlaps.overlaps #[22, 22] #[4]) (by kernel_rfl),
      Lib.run_overlaps_apart w 22 4 59 Tryz.underlying22 6 (fun w => by simp [sizeOf, typeInfo, hi0', hi1]) ⟨vb, 0, none⟩ ⟨g, (i + 1) * 6, none⟩ 1 1 lb cb hne 59 59 6 (cap * 6) hrs hshape (by omega) hrf hre]
    rfl
  have hmin : Nat.min (n + 1 - i) (n + 1 - (i + 1)) = n - i := by simp only [Nat.min_def]; split <;> omega
  have hmin2 : Nat.min 1 (n + 1 - i) = 1 := by simp only [Nat.min_def]; split <;> omega
  have hc1 : ∀ ty dc sc, (Builtin.copy_ #[22, 22] ty #[.slice (some ⟨g, (i + 1) * 6, none⟩) (n + 1 - (i + 1)) dc, .slice (some ⟨g, i * 6, none⟩) (n + 1 - i) sc]).run Tryz.prog w.drew = .ok (goInt (n - i : Nat)) (w.drew.setCells g ((i + 1) * 6) (xs.drop (i * 6))) := fun ty dc sc => by
    rw [← hmin]
    exact (run_copy_into (P := Tryz.prog) (w := w.drew) hown2 22 22 ty Tryz.underlying22 hsz ((i + 1) * 6) (n + 1 - (i + 1)) dc ⟨g, i * 6, none⟩ (n + 1 - i) sc (xs.drop (i * 6)) (by rw [hmin]; exact hdl) (fun j v hj => by
      have hjl := (List.getElem?_eq_some_iff.1 hj).1
      rw [Addr.add_lit]
      have := World.ownsRow.cellAt (w := w.drew) hown2 (i * 6 + j) (by omega)
      rw [this, List.getElem?_append_left (by omega)]
      rwa [List.getElem?_drop] at hj) (by omega) (fun v hv => h1x v (List.mem_of_mem_drop hv))).1
  have hown3 := own_setCells (w := w.drew) (xs.drop (i * 6)) ((i + 1) * 6) _ hown2 (by omega)
  obtain ⟨W1, hW1⟩ : ∃ W1, W1 = w.drew.setCells g ((i + 1) * 6) (xs.drop (i * 6)) := ⟨_, rfl⟩
  rw [← hW1] at hc1 hown3
  obtain ⟨X1, hX1⟩ : ∃ X1, X1 = (xs ++ sp).take ((i + 1) * 6) ++ xs.drop (i * 6) ++ (xs ++ sp).drop ((i + 1) * 6 + (xs.drop (i * 6)).length) := ⟨_, rfl⟩
  have hIP : X1.take (i * 6) ++ news ++ X1.drop (i * 6 + news.length) = insV xs news i := by rw [hX1]; exact ins_parts hx hnl hi sp hspl
  rw [← hX1] at hown3
  have hc2 : ∀ (W : World), W.heap = W1.heap → ∀ ty dc, (Builtin.copy_ #[22, 22] ty #[.slice (some ⟨g, i * 6, none⟩) (n + 1 - i) dc, .slice (some ⟨vb, 0, none⟩) 1 1]).run Tryz.prog W = .ok (goInt 1) (W.setCells g (i * 6) news) ∧ (W.setCells g (i * 6) news).ownsRow base 59 6 (.slice (some ⟨g, 0, none⟩) (n + 1) cap) (n + 1) (insV xs news i) ∧ W.grownBy (W.setCells g (i * 6) news) (some g) := fun W hW ty dc => by
    have hrw : W.heap[vb]? = some (.cells news.toArray 59) := by
      rw [hW]
      exact row_grown (w := w.drew) hown3.2 hrow (fun e => hne (Option.some.inj e))
    have hoW : W.ownsRow base 59 6 (.slice (some ⟨g, 0, none⟩) (n + 1) cap) (n + 1) X1 := by
      have := hown3.1
      unfold World.ownsRow at this ⊢
      rw [hW]
      exact this
    have h := run_copy_into (P := Tryz.prog) (w := W) hoW 22 22 ty Tryz.underlying22 hsz (i * 6) (n + 1 - i) dc ⟨vb, 0, none⟩ 1 1 news (by rw [hmin2, hnl]) (cells_row hrw) (by rw [hnl]; omega) h1n
    rw [hmin2, hIP] at h
    exact h
  have hG1 := hown3.2
  have hb1 : (0 : Int) ≤ (i : Int) + 1 := by omega
  have hb3 : (i : Int) ≤ (n : Int) + 1 := by omega
  rw [show n + 1 - (i + 1) = n - i by omega] at hc1
  have hw1 : IntKind.i64.wrap ((i : Int) + 1) = (i : Int) + 1 := by rw [IntKind.wrap_i64]; omega
  have hb2 : ¬ (cap = i + 1) := by omega
  have hb4 : ¬ (cap = i) := by omega
  have hil : i ≤ n := by omega
  have hcap : cap ≤ 9223372036854775807 := by unfold maxLen at hcm; omega
  have HW1 := Lib.hid hW1
  have HG1 := Lib.hid hG1
  have HC2 := Lib.hid hc2
  have HBF := Lib.hid (grown_trans (a := w) ⟨hG1.os, hG1.tape, hG1.output, hG1.size, hG1.block⟩ (hc2 W1 rfl 0 0).2.2)
  clear hown hown2 hown3 hc2 hW1 hG1 hshape hrf hre hrs hrow hmin hmin2
  go_enter Tryz.func63, Tryz.ntmps63
  go_wp2_with (simp only [hov])
  go_region_law_o (refine step_copy_own rfl _ _ 22 22 rfl _ _ (by simp [Act.eval, Act.put]) (by simp [Act.eval, Act.put]) (hc1 _ _ _) ?_)
  have hc3 := (HC2.out W1 rfl 3 (cap - i)).1
  go_wp2
  go_ret
  exact ⟨_, rfl, (HC2.out W1 rfl 3 (cap - i)).2.1, HBF.out⟩

theorem grow_parts {A Z xs news : List Value} {n i : Nat} (hA : A.length = i * 6) (hZ : Z.length = (n + 1 - i) * 6) (hx : xs.length = n * 6) (hnl : news.length = 6) (hi : i < n) (hA2 : A = xs.take (i * 6)) :
    (((A ++ Z).take (i * 6) ++ news ++ (A ++ Z).drop (i * 6 + news.length)).take ((i + 1) * 6) ++ xs.drop (i * 6) ++ ((A ++ Z).take (i * 6) ++ news ++ (A ++ Z).drop (i * 6 + news.length)).drop ((i + 1) * 6 + (xs.drop (i * 6)).length)) = insV xs news i := by
  have h1 : (A ++ Z).take (i * 6) = A := by rw [← hA]; exact List.take_left
  have h2 : (A ++ Z).drop (i * 6 + news.length) = Z.drop 6 := by rw [← hA, hnl, List.drop_append]; simp
  have h3 : (xs.drop (i * 6)).length = (n - i) * 6 := by rw [List.length_drop, hx, Nat.sub_mul]
  rw [h1, h2, h3]
  have h4 : (A ++ news ++ Z.drop 6).take ((i + 1) * 6) = A ++ news := by
    rw [show (i + 1) * 6 = (A ++ news).length by rw [List.length_append, hA, hnl]; omega]; exact List.take_left
  have h5 : (A ++ news ++ Z.drop 6).drop ((i + 1) * 6 + (n - i) * 6) = [] := List.drop_eq_nil_of_le (by simp only [List.length_append, List.length_drop, hA, hnl, hZ]; omega)
  rw [h4, h5, List.append_nil, hA2]
  rfl
set_option maxRecDepth 100000 in
set_option maxHeartbeats 4000000 in
/-- There is none: a new row. -/
theorem insGrow_any (g n cap i vb base : Nat) (xs news : List Value) (w : World) (hown : w.ownsRow base 59 6 (.slice (some ⟨g, 0, none⟩) n cap) n xs) (hi : i < n) (hroom : cap < n + 1) (hn : n ≤ 1000000) (h1x : ∀ u ∈ xs, u.oneCell' = true) (hrow : w.heap[vb]? = some (.cells news.toArray 59)) (hnl : news.length = 6) (h1n : ∀ u ∈ news, u.oneCell' = true) (hbw : base ≤ w.heap.size) :
    Calls Tryz.prog 63 #[.slice (some ⟨g, 0, none⟩) n cap, .int .i64 i, .slice (some ⟨vb, 0, none⟩) 1 1] w fun e w' => ∃ v', e = .returned v' ∧ w'.ownsRow base 59 6 v' (n + 1) (insV xs news i) ∧ w.grownBy w' (some g) := by
  obtain ⟨i0, hi0', hi0, hi1, hi2⟩ := info_parts infoOb
  have mixed : Tryz.prog.follows .mixedOrders = true := by kernel_rfl
  have hsz : (Tryz.prog.info? 59).map (·.size) = some 6 := by kernel_rfl
  obtain ⟨hshape, hnc, hcm⟩ := own_shape hown
  have hx := hown.1
  have hgw : g < w.heap.size := (hown.lt g rfl).2
  have hvw : vb < w.heap.size := lt_of_block hrow
  have hz1 : ¬ ((i : Int) = (n : Int)) := by omega
  have hz3 : (cap : Int) < (n : Int) + 1 := by omega
  have hik : i + (n + 1 - i) = n + 1 := by omega
  have hkk : (n : Int) + 1 - (i : Int) = ((n + 1 - i : Nat) : Int) := by omega
  have hdl : (xs.drop (i * 6)).length = (n - i) * 6 := by rw [List.length_drop, hx, Nat.sub_mul]
  have hless := own_less hown (Nat.le_of_lt hi)
  have hold : (Builtin.firstCells i0.size i (.slice (some ⟨g, 0, none⟩) i cap)).run Tryz.prog w.drew = .ok (xs.take (i * 6)).toArray w.drew := by
    rw [hi1]
    exact run_firstCells_some w.drew 6 i ⟨g, 0, none⟩ i cap (xs.take (i * 6)) hless.1 (World.ownsRow.cells (w := w.drew) hless rfl)
  have hrz : ∀ ty, (Builtin.append_ #[22, 3] ty #[.slice (some ⟨g, 0, none⟩) i cap, .int .i64 ((n : Int) + 1 - (i : Int))]).run Tryz.prog w = .ok (.slice (some ⟨w.heap.size, 0, none⟩) (n + 1) (grownCap w (n + 1) cap 59)) (w.drew.alloc (.cells ((xs.take (i * 6)).toArray ++ Builtin.zeroCells (Value.agg #[.string ⟨#[]⟩, .int .i64 0, .int .i64 0, .int .i64 0, .slice none 0 0, .slice none 0 0]).cells (n + 1 - i) ++ Builtin.zeroCells (Value.agg #[.string ⟨#[]⟩, .int .i64 0, .int .i64 0, .int .i64 0, .slice none 0 0, .slice none 0 0]).cells (grownCap w (n + 1) cap 59 - (n + 1))) 59)) := fun ty => by
    have h := Lib.run_append_grow_zeros w 22 3 ty 59 i0 _ .i64 .i64 Tryz.underlying22 Tryz.underlying3 hi0' hi0 (some ⟨g, 0, none⟩) i cap (xs.take (i * 6)) hold (n + 1 - i) (by omega) (by rw [hi1]; omega) (by omega) (by omega) (by rw [hi2]; omega) (by rw [hi2, hik]; exact growslice_fits hroom (by omega))
    rw [hik] at h
    rw [hkk]
    exact h
  obtain ⟨G, hG⟩ : ∃ G, G = grownCap w (n + 1) cap 59 := ⟨_, rfl⟩
  have hGn : n + 1 ≤ G := by rw [hG]; exact grownCap_ge w _ _ _
  have hGm : G ≤ maxLen := by rw [hG]; exact grownCap_le_maxLen w (n + 1) cap _ (by unfold maxLen; omega)
  rw [← hG] at hrz
  obtain ⟨Z, hZ⟩ : ∃ Z, Z = Builtin.zeroCells (Value.agg #[.string ⟨#[]⟩, .int .i64 0, .int .i64 0, .int .i64 0, .slice none 0 0, .slice none 0 0]).cells (n + 1 - i) := ⟨_, rfl⟩
  obtain ⟨Z2, hZ2⟩ : ∃ Z2, Z2 = Builtin.zeroCells (Value.agg #[.string ⟨#[]⟩, .int .i64 0, .int .i64 0, .int .i64 0, .slice none 0 0, .slice none 0 0]).cells (G - (n + 1)) := ⟨_, rfl⟩
  have hZl : Z.size = (n + 1 - i) * 6 := by rw [hZ, size_zeroCells]; rfl
  have hZ2l : Z2.size = (G - (n + 1)) * 6 := by rw [hZ2, size_zeroCells]; rfl
  rw [← hZ, ← hZ2] at hrz
  obtain ⟨WN, hWN⟩ : ∃ WN, WN = w.drew.alloc (.cells ((xs.take (i * 6)).toArray ++ Z ++ Z2) 59) := ⟨_, rfl⟩
  rw [← hWN] at hrz
  have hAl : (xs.take (i * 6)).length = i * 6 := by rw [List.length_take, hx]; omega
  obtain ⟨NB, hNB⟩ : ∃ NB, NB = w.heap.size := ⟨_, rfl⟩
  have hoN : WN.ownsRow base 59 6 (.slice (some ⟨NB, 0, none⟩) (n + 1) G) (n + 1) (xs.take (i * 6) ++ Z.toList) := by
    refine ⟨by rw [List.length_append, hAl, Array.length_toList, hZl]; omega, .inr ⟨NB, G, (xs.take (i * 6)).toArray ++ Z ++ Z2, rfl, by omega, ?_, hGn, hGm, ?_, ?_⟩⟩
    · rw [hWN, hNB]; exact heap_alloc_new w.drew _
    · simp only [Array.size_append, List.size_toArray, hAl, hZl, hZ2l]; omega
    · simp only [Array.toList_append]
      rw [show (n + 1) * 6 = (xs.take (i * 6) ++ Z.toList).length by rw [List.length_append, hAl, Array.length_toList, hZl]; omega]
      exact List.take_left
  have hbN : Below w.heap.size w WN := by rw [hWN]; exact ((Below.refl _ w).drew).alloc (Nat.le_refl _) _
  have hrN := row_later hbN hrow
  have hmin1 : Nat.min 1 (n + 1 - i) = 1 := by simp only [Nat.min_def]; split <;> omega
  have hc1 := run_copy_into (P := Tryz.prog) hoN 22 22 3 Tryz.underlying22 hsz (i * 6) (n + 1 - i) (G - i) ⟨vb, 0, none⟩ 1 1 news (by rw [hmin1, hnl]) (cells_row hrN) (by rw [hnl]; omega) h1n
  rw [hmin1] at hc1
  obtain ⟨W1, hW1⟩ : ∃ W1, W1 = WN.setCells NB (i * 6) news := ⟨_, rfl⟩
  obtain ⟨X1, hX1⟩ : ∃ X1, X1 = (xs.take (i * 6) ++ Z.toList).take (i * 6) ++ news ++ (xs.take (i * 6) ++ Z.toList).drop (i * 6 + news.length) := ⟨_, rfl⟩
  rw [← hW1, ← hX1] at hc1
  have hIP : X1.take ((i + 1) * 6) ++ xs.drop (i * 6) ++ X1.drop ((i + 1) * 6 + (xs.drop (i * 6)).length) = insV xs news i := by rw [hX1]; exact grow_parts hAl (by rw [Array.length_toList, hZl]) hx hnl hi rfl
  obtain ⟨hr1, ho1, hg1⟩ := hc1
  have hb1W : Below w.heap.size w W1 := hbN.grown hg1 hbN.size (fun j hj => by injection hj with hj; omega)
  have hsrc : ∀ (W : World), W.heap = W1.heap → ∀ j u, (xs.drop (i * 6))[j]? = some u → W.cell? ((⟨g, i * 6, none⟩ : Addr).add j) = some u := fun W hW j u hj => by
    rw [Addr.add_lit]
    rw [List.getElem?_drop] at hj
    have h := hown.cells (g := g) rfl (i * 6 + j) u hj
    rw [Addr.add_lit, Nat.zero_add] at h
    have := cell_later hb1W h
    unfold World.cell? at this ⊢
    rw [hW]; exact this
  have hmin2 : Nat.min (n - i) (n - i) = n - i := Nat.min_self _
  have hc2 : ∀ (W : World), W.heap = W1.heap → ∀ ty dc sc, (Builtin.copy_ #[22, 22] ty #[.slice (some ⟨NB, (i + 1) * 6, none⟩) (n - i) dc, .slice (some ⟨g, i * 6, none⟩) (n - i) sc]).run Tryz.prog W = .ok (goInt (n - i : Nat)) (W.setCells NB ((i + 1) * 6) (xs.drop (i * 6))) ∧ (W.setCells NB ((i + 1) * 6) (xs.drop (i * 6))).ownsRow base 59 6 (.slice (some ⟨NB, 0, none⟩) (n + 1) G) (n + 1) (insV xs news i) ∧ W.grownBy (W.setCells NB ((i + 1) * 6) (xs.drop (i * 6))) (some NB) := fun W hW ty dc sc => by
    have hoW : W.ownsRow base 59 6 (.slice (some ⟨NB, 0, none⟩) (n + 1) G) (n + 1) X1 := by
      unfold World.ownsRow at ho1 ⊢
      rw [hW]
      exact ho1
    have h := run_copy_into (P := Tryz.prog) hoW 22 22 ty Tryz.underlying22 hsz ((i + 1) * 6) (n - i) dc ⟨g, i * 6, none⟩ (n - i) sc (xs.drop (i * 6)) (by rw [hmin2]; exact hdl) (hsrc W hW) (by rw [hdl]; omega) (fun v hv => h1x v (List.mem_of_mem_drop hv))
    rw [hmin2, hIP] at h
    exact h
  have hBF : ∀ W : World, W = W1.drew → w.grownBy (W.setCells NB ((i + 1) * 6) (xs.drop (i * 6))) (some g) := fun W hW => by
    subst hW
    have h := (hb1W.drew).grown (hc2 W1.drew rfl 0 0 0).2.2 hb1W.size (fun j hj => by injection hj with hj; omega)
    exact ⟨h.os, h.tape, h.output, h.size, fun k hk _ => h.block k hk⟩
  have HBF := Lib.hid (hBF _ rfl)
  have HC2 := Lib.hid hc2
  have HRZ := Lib.hid hrz
  rw [← hNB] at HRZ
  have hw1 : IntKind.i64.wrap ((i : Int) + 1) = (i : Int) + 1 := by rw [IntKind.wrap_i64]; omega
  have hc63 : cap ≤ 9223372036854775807 := by unfold maxLen at hcm; omega
  have hG63 : G ≤ 9223372036854775807 := by unfold maxLen at hGm; omega
  have hb0 : (0 : Int) ≤ (i : Int) + 1 := by omega
  have hb2 : ¬ (cap = i) := by omega
  have hb3 : (i : Int) ≤ (n : Int) + 1 := by omega
  have hb4 : ¬ (G = i) := by omega
  have hb5 : ¬ (G = i + 1) := by omega
  have hb6 : (i : Int) ≤ (n : Int) := by omega
  clear hown hc2 hBF hrz hW1 hWN hX1 hIP hsrc hmin1 hmin2 ho1 hg1 hb1W hrN hbN hoN hAl hZl hZ2l hZ hZ2 hG hold hless hshape hrow hNB hik hkk
  go_enter Tryz.func63, Tryz.ntmps63
  go_wp2_with (at_builtin; refine Lib.wpList_append_run _ rfl _ _ _ _ rfl _ _ rfl rfl _ _ (HRZ.out _) ?_)
  have hc3 := (HC2.out W1.drew rfl 3 (G - (i + 1)) (cap - i)).1
  go_region_law_o (refine step_copy_own rfl _ _ 22 22 rfl _ _ (by simp [Act.eval, Act.put]) (by simp [Act.eval, Act.put]) hc3 ?_)
  go_wp2
  go_ret
  exact ⟨_, rfl, (HC2.out W1.drew rfl 3 (G - (i + 1)) (cap - i)).2.1, HBF.out⟩
/-- slices.Insert of one object into an own row. -/
theorem insertO_any (v : Value) (n i vb base : Nat) (xs news : List Value) (w : World) (hown : w.ownsRow base 59 6 v n xs) (hi : i ≤ n) (hn : n ≤ 1000000) (h1x : ∀ u ∈ xs, u.oneCell' = true) (hrow : w.heap[vb]? = some (.cells news.toArray 59)) (hnl : news.length = 6) (h1n : ∀ u ∈ news, u.oneCell' = true) (hne : v.ownBlock ≠ some vb) (hbw : base ≤ w.heap.size) :
    Calls Tryz.prog 63 #[v, .int .i64 i, .slice (some ⟨vb, 0, none⟩) 1 1] w fun e w' => ∃ v', e = .returned v' ∧ w'.ownsRow base 59 6 v' (n + 1) (insV xs news i) ∧ w.grownBy w' v.ownBlock := by
  have hx := hown.1
  rcases Nat.lt_or_eq_of_le hi with h | h
  · rcases hown.2 with ⟨_, h0⟩ | ⟨g, cap, cur, rfl, _⟩
    · omega
    · by_cases hr : n + 1 ≤ cap
      · exact insRoom_any g n cap i vb base xs news w hown h hr hn h1x hrow hnl h1n (fun e => hne (by rw [e]; rfl))
      · exact insGrow_any g n cap i vb base xs news w hown h (by omega) hn h1x hrow hnl h1n hbw
  · subst h
    have e : insV xs news i = xs ++ news := by unfold insV; rw [List.take_of_length_le (by omega), List.drop_eq_nil_of_le (by omega), List.append_nil]
    rw [e]
    exact insEnd_any v i vb base xs news w hown hn hrow hnl h1n hbw
end Go.Proofs.YtbkomdinchiffaaGreat
