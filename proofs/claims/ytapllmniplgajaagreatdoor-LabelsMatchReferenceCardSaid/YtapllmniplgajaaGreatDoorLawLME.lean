/- LabelsMatchReference: the walk. For every input, LabelsMatchReference returns true (the row's listed variables tied to the program's text). -/
import Derived.Test.YtapllmniplgajaaGreatDoorMixKL
import Derived.Test.YtapllmniplgajaaGreatDoorLawG
import Derived.Test.YtapllmniplgajaaGreatDoorLawH
import Derived.Test.YtapllmniplgajaaGreatDoorMapEnd
namespace Go.Proofs.YtapllmniplgajaaGreatDoor
open Go.RowKit Go.Sort

theorem labels_le3 (l : List ObjD) (z : Int) (langs : List ByteArray) : (labelsL l z langs).length ≤ l.length := by
  unfold labelsL
  split
  · rw [isort_length]; exact List.length_filterMap_le ..
  · exact Nat.zero_le _

set_option maxRecDepth 100000 in
set_option maxHeartbeats 4000000 in
theorem lsmatch_any (v vl : Value) (l : List ObjD) (z : Int) (langs : List ByteArray) (w : World) (hv : ObjsIs w v l) (hvl : StrRow w vl langs) (he : Env w) :
    Calls Tryz.prog 4 #[.agg #[v], .int .i64 z, vl] w fun e w' => e = .returned (.bool true) ∧ Below w.heap.size w w' := by
  have HE := Lib.hid (fun w' hb => he.later (w' := w') hb)
  have HV := Lib.hid (fun w' hb => hv.later (w' := w') hb)
  have HVL := Lib.hid (fun w' hb => hvl.later (w' := w') hb)
  obtain ⟨a, cap, rfl, hln, -⟩ := hv
  obtain ⟨al, capl, rfl, hll, -⟩ := hvl
  clear he
  obtain ⟨N, hN⟩ : ∃ N, l.length = N := ⟨_, rfl⟩
  obtain ⟨M, hM⟩ : ∃ M, langs.length = M := ⟨_, rfl⟩
  rw [hN] at HV hln ⊢
  rw [hM] at HVL hll ⊢
  have HN := Lib.hid hN
  have HM := Lib.hid hM
  clear hN hM
  go_enter Tryz.func4, Tryz.ntmps4
  go_wp2_with fail
  have HB1 := row_new w (.cells #[.slice a N cap] 35)
  have B1 : Below w.heap.size w (w.alloc (.cells #[.slice a N cap] 35)) := (Below.refl _ _).alloc (Nat.le_refl _) _
  refine (lhead_any _ (HE.out _ B1)).mono ?_
  rintro e w2 ⟨rfl, hb2⟩
  have HB2 := row_later hb2 HB1
  have HB2h := Lib.hid HB2
  have B2 := below_step B1 (Nat.le_refl _) hb2
  clear HB1 B1 hb2
  obtain ⟨Bm, hBm⟩ : ∃ Bm, w.heap.size = Bm := ⟨_, rfl⟩
  rw [hBm] at HB2 HB2h ⊢
  have HBM := Lib.hid hBm
  clear hBm
  have mz := lt_of_block HB2
  have m0 := cell_of_row w2 _ 0 _ _ _ HB2
  simp only [List.getElem?_toArray, List.getElem?_cons_zero] at m0
  have HB2' := Lib.hid HB2
  clear HB2
  go_wp2_with fail
  refine (few13_any _ l 30 (by decide) w2 (HV.out _ B2)).mono ?_
  rintro e w3 ⟨⟨r, rfl, hr⟩, hb3⟩
  have HB3 := row_later hb3 HB2h.out
  have HB3h := Lib.hid HB3
  have B3 := below_step B2 (Nat.le_refl _) hb3
  clear B2 hb3 HB2h m0 mz HB2'
  cases r
  · clear hr
    have mz := lt_of_block HB3
    have m0 := cell_of_row w3 _ 0 _ _ _ HB3
    simp only [List.getElem?_toArray, List.getElem?_cons_zero] at m0
    have HB3' := Lib.hid HB3
    clear HB3
    go_wp2
    go_ret
    exact ⟨rfl, B3⟩
  have h30 : l.length ≤ 30 := hr rfl
  clear hr HB3
  go_wp2_with fail
  refine (langs_any _ langs w3 (HVL.out _ B3)).mono ?_
  rintro e w4 ⟨⟨r, rfl, hr⟩, hb4⟩
  have HB4 := row_later hb4 HB3h.out
  have HB4h := Lib.hid HB4
  have B4 := below_step B3 (Nat.le_refl _) hb4
  clear B3 hb4 HB3h
  have mz := lt_of_block HB4
  have m0 := cell_of_row w4 _ 0 _ _ _ HB4
  simp only [List.getElem?_toArray, List.getElem?_cons_zero] at m0
  have HB4' := Lib.hid HB4
  clear HB4
  cases r
  · clear hr
    go_wp2
    go_ret
    exact ⟨rfl, B4⟩
  have h8 : langs.length ≤ 8 := hr rfl
  have hle := labels_le3 l z langs
  clear hr
  go_wp2_with fail
  go_region_held3 (fun w' => w'.cell? ⟨Bm, 0, none⟩ = some (.slice a N cap) ∧ Below w4.heap.size w4 w')
    (first
      | exact ⟨m0, (Below.refl _ _).drew⟩
      | (have hq := ‹_ ∧ Below w4.heap.size w4 _›; exact ⟨cell_later hb hq.1, below_step hq.2 (Nat.le_refl _) hb⟩)
      | assumption)
    (first
      | (go_at_call 18; refine (labels_any _ _ l z langs _ (HV.out _ (below_step B4 (Nat.le_refl _) (‹_ ∧ Below w4.heap.size w4 _›).2)) (HVL.out _ (below_step B4 (Nat.le_refl _) (‹_ ∧ Below w4.heap.size w4 _›).2)) (by omega) (by omega) (HE.out _ (below_step B4 (Nat.le_refl _) (‹_ ∧ Below w4.heap.size w4 _›).2))).mono ?_; rintro e w5 ⟨v5, rfl, hrow5, hb⟩)
      | (go_at_call 19; refine (rlabels_any _ _ l z langs _ (HV.out _ (below_step B4 (Nat.le_refl _) (‹_ ∧ Below w4.heap.size w4 _›).2)) (HVL.out _ (below_step B4 (Nat.le_refl _) (‹_ ∧ Below w4.heap.size w4 _›).2)) (by omega) (by omega)).mono ?_; rintro e w6 ⟨v6, rfl, hrow6, hb⟩; have hrow56 := hrow5.later hb)
      | (go_at_call 17; refine (all_any _ _ _ _ _ hrow56 hrow6 (by omega)).mono ?_; rintro e w7 ⟨rfl, hb⟩; rw [decide_eq_true rfl]))
  have B7 := below_step B4 (Nat.le_refl _) (‹_ ∧ Below w4.heap.size w4 _›).2
  go_wp2
  go_ret
  exact ⟨rfl, B7⟩
end Go.Proofs.YtapllmniplgajaaGreatDoor

namespace Go.Proofs.YtapllmniplgajaaGreatDoor
open Go.ChangeShapes Go.WideShapes Go.ChangeAt Go.RowKit Go.Joins
open Go.ChangeMaps (open_string shut_string)

set_option maxRecDepth 100000 in
theorem labelsMatchReference_lifted (os : Os) (started : os.Started) (H : Type) (enc : TypeId × Value → H) :
    ReturnsInHanded {} Tryz.checked os 4 .any (fun w args => (Rows.labelsMatchReferenceSpec.pre enc Tryz.prog Tryz.f4 [] false w args ∧ laidMetH Tryz.prog laidL w) ∧ sizedMet enc Tryz.prog Tryz.f4 (OpenSpec.ofChange Rows.labelsMatchReferenceSpec) false w args)
      (Rows.labelsMatchReferenceSpec.post enc Tryz.prog Tryz.f4 false true false false) := by
  refine returns_laid_shaped (C := Tryz.checked) (X := fun w _ => laidMetH Tryz.prog laidL w) (fun _ _ _ hh h => h.of_heap hh) own started (by kernel_rfl) Tryz.func4
    (ChangeSpec.witness_shaped (enc := enc) (C := Tryz.checked) (os := os) (X := fun w _ => laidMetH Tryz.prog laidL w) false (World.laidAll Tryz.prog os laidL) #[.agg #[.slice none 0 0], .int .i64 0, .slice none 0 0] 8 (World.laidAll_os _ _ _)
      (World.shaped_of_ZipB (by kernel_rfl) (by kernel_rfl)) (by kernel_rfl) (by kernel_rfl) (by kernel_rfl)
      (by rw [MakeChecks.laidMetH_plain _ _ _ (by kernel_rfl)]; exact laidMet_laidAll _ (by kernel_rfl) (by kernel_rfl))) ?_
  intro W base args ds gs before hval0 hW _ hwt hL hsh _
  have hval : ∀ (j : Nat) t v, Tryz.f4.params[j]? = some t → args[j]? = some v → Value.okWide Tryz.prog W .any base t v := hval0
  have hW' := hW
  obtain ⟨p, q, hA0, hV, rfl, _, _⟩ := hW
  have hA : DataW.TrodAll enc Tryz.prog W 0 (fun _ => true) true Tryz.f4.params.toList args.toList ds p := hA0
  rw [Tryz.params4] at hA hval hwt
  obtain ⟨v0, vs0, d0, ds0, p0, q0, hargs, rfl, rfl, h0, r0⟩ := trodAll_cons hA
  obtain ⟨v1, vs1, d1, ds1, p1, q1, rfl, rfl, rfl, h1, r1⟩ := trodAll_cons r0
  obtain ⟨v2, vs2, d2, ds2, p2, q2, rfl, rfl, rfl, h2, r2⟩ := trodAll_cons r1
  obtain ⟨rfl, rfl, rfl⟩ := trodAll_nil r2
  obtain rfl : args = #[v0, v1, v2] := by cases args; simp_all
  obtain ⟨rfl, rfl⟩ := trodVars_none hV
  have k0 := h0
  have lt0 : ∀ x ∈ p0, x.block < W.heap.size := by obtain ⟨m, hm⟩ := k0; exact DataW.trod_lt m _ _ _ hm
  have k1 := h1
  have lt1 : ∀ x ∈ p1, x.block < W.heap.size := by obtain ⟨m, hm⟩ := k1; exact DataW.trod_lt m _ _ _ hm
  have k2 := h2
  have lt2 : ∀ x ∈ p2, x.block < W.heap.size := by obtain ⟨m, hm⟩ := k2; exact DataW.trod_lt m _ _ _ hm
  obtain ⟨c0, ol0, hv0, ho0⟩ := open_map (hval 0 35 v0 rfl rfl) h0 (light_of hwt (j := 0) rfl rfl)
  subst hv0
  obtain ⟨n1, hv1, -, -, wf1⟩ := open_int Tryz.underlying3 (hval 1 3 v1 rfl rfl) h1
  subst hv1
  obtain ⟨sl2, ho2⟩ := open_texts (hval 2 36 v2 rfl rfl) h2 (light_of hwt (j := 2) rfl rfl)
  clear hA0 hval0 hwt
  refine (lsmatch_any c0 v2 ol0 n1 sl2 W ho0 ho2 (env_of hL)).mono fun e W' ⟨he, hb⟩ => ?_
  subst he
  exact ⟨_, rfl, _, _, _, [], _, [], hW', trodAll_mk1 (shut_bool Tryz.underlying4 _), (trodAll_cons_mk (Below.trod laidOut (by kernel_rfl) (of_decide_eq_true (by kernel_rfl)) k0 hb lt0) (trodAll_cons_mk (Below.trod laidOut (by kernel_rfl) (of_decide_eq_true (by kernel_rfl)) k1 hb lt1) (trodAll_cons_mk (Below.trod laidOut (by kernel_rfl) (of_decide_eq_true (by kernel_rfl)) k2 hb lt2) trodAll_mk0))), rfl, hb.frame _, fun h => by cases h⟩

theorem labelsMatchReference_row : Rows.LabelsMatchReferenceSaid :=
  OpenClaim.holds_of_wide 4 Tryz.f4 rfl rfl rfl rfl rfl rfl rfl ⟨rfl, rfl, rfl, rfl, rfl⟩ rfl rfl rfl rfl rfl (by kernel_rfl) Tryz.func4 (by kernel_rfl)
    (of_decide_eq_true (by kernel_rfl)) (by unfold Func.isWrapper; first | (rw [if_pos (by decide +kernel)]; kernel_rfl) | (rw [if_neg (by decide +kernel)]; exact ⟨rfl, rfl⟩))
    (fun os started H enc _ => labelsMatchReference_lifted os started H enc)

theorem labelsMatchReference_card : Rows.LabelsMatchReferenceCardSaid :=
  Claim7.holds_tied_plain_at .later [] [.data, .data, .data, .sentinel, .sentinel] true _ true
    labelsMatchReference_row (fun _ h => by cases h) (by kernel_rfl) (fun _ h => by cases h) labelsMatchReference_row_tie rfl ⟨rfl, rfl⟩ (by kernel_rfl) rfl
    (fun f fn hf hfn => by
      obtain rfl : f = 4 := Option.some.inj ((show Tryz.prog.funcNamed "planisphere/planispherelaw43.LabelsMatchReference" = some 4 by kernel_rfl).symm.trans hf) |>.symm
      obtain rfl : fn = Tryz.f4 := (Option.some.inj (Tryz.func4.symm.trans hfn)).symm
      exact ⟨by kernel_rfl, fun j t ht => by
        rw [Tryz.params4] at ht
        have hm : t ∈ [35, 3, 36] := by simpa using Array.mem_of_getElem? ht
        have hall : ([35, 3, 36].all fun u => !Tryz.prog.wantsStandIn u) = true := by kernel_rfl
        exact (show Tryz.prog.wantsStandIn t = false by simpa using List.all_eq_true.1 hall t hm)⟩)
    (by kernel_rfl)
#print axioms labelsMatchReference_card
end Go.Proofs.YtapllmniplgajaaGreatDoor
