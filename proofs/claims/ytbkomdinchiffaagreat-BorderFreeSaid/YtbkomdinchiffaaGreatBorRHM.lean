/- BorderFewer: the walk. -/
import Derived.Test.YtbkomdinchiffaaGreatBorHd
import Derived.Test.YtbkomdinchiffaaGreatBorLaw
namespace Go.Proofs.YtbkomdinchiffaaGreat
open Go.RowKit Go.Sort

theorem from_sub : ∀ {M l : List ObjD}, M.Sublist l → ∀ last, objsFrom last l = true → objsFrom last M = true
  | _, _, .slnil, _, _ => rfl
  | _, _, .cons o h, last, hl => by
    simp only [objsFrom, Bool.and_eq_true] at hl
    exact objsFrom_weak hl.1.2 (from_sub h _ hl.2)
  | _, _, .cons_cons o h, last, hl => by
    simp only [objsFrom, Bool.and_eq_true] at hl ⊢
    exact ⟨hl.1, from_sub h _ hl.2⟩
theorem ok_sub {M l : List ObjD} (h : M.Sublist l) (hl : mapOK l = true) : mapOK M = true := by
  simp only [mapOK, Bool.and_eq_true, decide_eq_true_eq] at hl ⊢
  exact ⟨Nat.le_trans h.length_le hl.1, from_sub h _ hl.2⟩
theorem keys_lenR {l : List ObjD} (c : Nat) (h : ∀ o ∈ l, o.refs.length ≤ c) : (keysP l).length ≤ c * l.length := by
  have hi : ∀ (k : KeyD) (l : List KeyD), (insK k l).length ≤ l.length + 1 := by
    intro k l
    induction l with
    | nil => simp [insK]
    | cons x l ih => rw [insK]; split; · simp; omega
                     split <;> simp
  have h1 : ∀ (ks acc : List KeyD), (ks.foldl (fun acc k => insK k acc) acc).length ≤ acc.length + ks.length := by
    intro ks
    induction ks with
    | nil => intro acc; simp
    | cons k ks ih =>
      intro acc
      rw [List.foldl_cons]
      have := ih (insK k acc)
      have := hi k acc
      simp; omega
  have h2 : ∀ os : List ObjD, (∀ o ∈ os, o.refs.length ≤ c) → (os.flatMap sidesP).length ≤ c * os.length := by
    intro os
    induction os with
    | nil => intro _; simp
    | cons o os ih =>
      intro hr
      rw [List.flatMap_cons, List.length_append]
      have := ih fun x hx => hr x (List.mem_cons_of_mem _ hx)
      have h3 := hr o (List.mem_cons_self ..)
      have : (sidesP o).length ≤ c := by unfold sidesP sideN; rw [List.length_map, List.length_range]; split <;> omega
      rw [List.length_cons, Nat.mul_succ]; omega
  have h3 := h1 ((l.filter (isB l)).flatMap sidesP) []
  have h4 := h2 (l.filter (isB l)) fun o ho => h o (List.mem_filter.1 ho).1
  have h5 := Nat.mul_le_mul (Nat.le_refl c) (List.length_filter_le (isB l) l)
  unfold keysP setK
  simp only [List.length_nil, Nat.zero_add] at h3
  omega
/-- A list without some of its ways and areas. -/
def LessOf (l M : List ObjD) : Prop := M.Sublist l ∧ ∀ o ∈ l, o.kind ≠ 2 → o.kind ≠ 3 → o ∈ M
theorem LessOf.nil : LessOf [] [] := ⟨List.Sublist.refl _, fun o ho => by cases ho⟩
theorem LessOf.keep {l M : List ObjD} {k : Nat} {o : ObjD} (h : LessOf (l.take k) M) (ho : l[k]? = some o) : LessOf (l.take (k + 1)) (M ++ [o]) := by
  obtain ⟨hk, rfl⟩ := List.getElem?_eq_some_iff.1 ho
  rw [List.take_succ_eq_append_getElem hk]
  refine ⟨h.1.append (List.Sublist.refl _), fun o ho h2 h3 => ?_⟩
  rcases List.mem_append.1 ho with ho | ho
  · exact List.mem_append_left _ (h.2 o ho h2 h3)
  · exact List.mem_append_right _ ho
theorem LessOf.drop {l M : List ObjD} {k : Nat} {o : ObjD} (h : LessOf (l.take k) M) (ho : l[k]? = some o) (hk : o.kind = 2 ∨ o.kind = 3) : LessOf (l.take (k + 1)) M := by
  obtain ⟨hk', rfl⟩ := List.getElem?_eq_some_iff.1 ho
  rw [List.take_succ_eq_append_getElem hk']
  refine ⟨h.1.trans (List.sublist_append_left _ _), fun o ho h2 h3 => ?_⟩
  rcases List.mem_append.1 ho with ho | ho
  · exact h.2 o ho h2 h3
  · rw [List.mem_singleton.1 ho] at h2 h3
    rcases hk with hk | hk
    · exact absurd hk h2
    · exact absurd hk h3
theorem LessOf.sub {l M : List ObjD} (h : LessOf l M) (hl : mapOK l = true) : SubM M l := by
  have hM := ok_sub h.1 hl
  refine ⟨hM, hl, fun o ho => ⟨o, h.1.subset ho, SameT.refl o⟩, fun o _ _ r _ => ?_⟩
  refine Option.ext fun q => ?_
  rw [nodeAt_iff hM, nodeAt_iff hl]
  constructor
  · rintro ⟨x, hx, h'⟩; exact ⟨x, h.1.subset hx, h'⟩
  · rintro ⟨x, hx, e, hk, hq⟩
    exact ⟨x, h.2 x hx (by omega) (by omega), e, hk, hq⟩

theorem check_len {l : List ObjD} (hl : l.length ≤ 1000) : (checkP l).length ≤ 1000000 := by
  have hp : ∀ (A B : List ByteArray), (A.flatMap fun a => B.map fun b => (a, b)).length = A.length * B.length := by
    intro A B
    induction A with
    | nil => simp
    | cons a A ih => rw [List.flatMap_cons, List.length_append, ih, List.length_map, List.length_cons, Nat.succ_mul, Nat.add_comm]
  have hid : ∀ x : ByteArray, (nodeAt l x).isSome = true → x ∈ l.map (·.id) := fun x hx => node_id hx
  have := nodup_le (checkP_sort l).nodup (M := (l.map (·.id)).flatMap fun a => (l.map (·.id)).map fun b => (a, b)) fun key hk => by
    have hk := checkP_mem.1 hk
    have : key.1 ∈ l.map (·.id) ∧ key.2 ∈ l.map (·.id) := by
      rcases bad_mem.1 hk with ⟨a, ha, b, hb, _, _, e⟩ | ⟨p, hp, q, hq, _, _, x, hx, y, hy, e⟩
      · have h1 := hid a (node_at ha)
        have h2 := hid b (node_at hb)
        rw [e]
        rcases key2_or a b with e | e <;> rw [e]
        · exact ⟨h1, h2⟩
        · exact ⟨h2, h1⟩
      · rw [(borders_mem.1 hp).2] at hx
        rw [(borders_mem.1 hq).2] at hy
        have h1 := own_ids hx
        have h2 := own_ids hy
        rw [e]
        rcases key2_or x y with e | e <;> rw [e]
        · exact ⟨h1, h2⟩
        · exact ⟨h2, h1⟩
    exact List.mem_flatMap.2 ⟨_, this.1, List.mem_map.2 ⟨_, this.2, rfl⟩⟩
  rw [hp, List.length_map] at this
  have h2 := Nat.mul_le_mul hl hl
  omega
set_option maxRecDepth 100000 in
set_option maxHeartbeats 4000000 in
theorem fewer_law (v : Value) (l : List ObjD) (bits : Int) (w : World) (hv : ObjsIs w v l) :
    Calls Tryz.prog 7 #[.agg #[v], .int .u32 bits] w fun e w' => e = .returned (.bool true) ∧ Below w.heap.size w w' := by
  have mixed : Tryz.prog.follows .mixedOrders = true := by kernel_rfl
  have HV := Lib.hid hv
  obtain ⟨L, hL, hLm, hLo⟩ := objs_row hv
  obtain ⟨i0, hi, hi0, hi1, hi2⟩ := info_parts infoOb
  have HLO := Lib.hid hLo
  have HLM := Lib.hid hLm
  obtain ⟨a, cap, rfl, hc⟩ := hL
  have HC := Lib.hid hc
  obtain ⟨N, hN⟩ : ∃ N, L.length = N := ⟨_, rfl⟩
  rw [hN] at HC HV ⊢
  have HN := Lib.hid hN
  clear hv hLo hLm hc hN
  go_enter Tryz.func7, Tryz.ntmps7
  go_wp2_with fail
  have BX : Below w.heap.size w (w.alloc (.cells #[.slice a N cap] 24)) := (by repeat' (first | exact Below.refl _ _ | refine Below.drew ?_ | refine Below.drewN' ?_ | refine Below.setCell ?_ (by first | omega | (simp; done) | exact Below.size (by assumption) | (simp; omega)) _ | refine Below.alloc ?_ (by first | omega | (simp; done) | exact Below.size (by assumption) | (simp; omega)) _ | refine Below.trans ?_ (Below.mono (by assumption) ?_) | (first | omega | (simp; done) | exact Below.size (by assumption) | (simp; omega))))
  have HX := row_new w (.cells #[.slice a N cap] 24)
  generalize hw1 : w.alloc (.cells #[.slice a N cap] 24) = w1
  rw [hw1] at BX HX
  have HX1 := Lib.hid HX
  have hz1 : w.heap.size < w1.heap.size := lt_of_block HX
  clear hw1 HX
  refine (head_any _).mono ?_
  rintro e w2 ⟨rfl, hb⟩
  have B2 := below_step BX (Nat.le_refl _) hb
  replace HX1 := Lib.hid (row_later hb HX1.out)
  have hz2 := hb.size
  clear hb BX
  have pz := lt_of_block HX1.out
  have p0 := cell_of_row w2 _ 0 _ _ _ HX1.out
  simp only [List.getElem?_toArray, List.getElem?_cons_zero] at p0
  go_wp2_with fail
  clear p0 pz
  refine (few13_any _ l 24 (by omega) _ (HV.out.later B2)).mono ?_
  rintro e w3 ⟨⟨r, rfl, hr⟩, hb⟩
  have B3 := below_step B2 (Nat.le_refl _) hb
  replace HX1 := Lib.hid (row_later hb HX1.out)
  have hz3 := hb.size
  clear hb B2
  cases r with
  | false =>
    go_wp2
    go_ret
    exact ⟨rfl, B3⟩
  | true =>
    obtain ⟨hl24, hr12⟩ := hr rfl
    have HR12 := Lib.hid hr12
    clear hr12
    clear hr
    have pz := lt_of_block HX1.out
    have p0 := cell_of_row w3 _ 0 _ _ _ HX1.out
    simp only [List.getElem?_toArray, List.getElem?_cons_zero] at p0
    go_wp2_with fail
    clear p0 pz
    refine (validM_any _ l _ (HV.out.later B3)).mono ?_
    rintro e w4 ⟨rfl, hb⟩
    have B4 := below_step B3 (Nat.le_refl _) hb
    replace HX1 := Lib.hid (row_later hb HX1.out)
    have hz4 := hb.size
    clear hb B3
    cases hok : mapOK l with
    | false =>
      go_wp2
      go_ret
      exact ⟨rfl, B4⟩
    | true =>
      have HOK := Lib.hid hok
      clear hok
      have BY : Below w4.heap.size w4 (w4.alloc (.cells #[.slice none 0 0] 24)) := (by repeat' (first | exact Below.refl _ _ | refine Below.drew ?_ | refine Below.drewN' ?_ | refine Below.setCell ?_ (by first | omega | (simp; done) | exact Below.size (by assumption) | (simp; omega)) _ | refine Below.alloc ?_ (by first | omega | (simp; done) | exact Below.size (by assumption) | (simp; omega)) _ | refine Below.trans ?_ (Below.mono (by assumption) ?_) | (first | omega | (simp; done) | exact Below.size (by assumption) | (simp; omega))))
      have HY := row_new w4 (.cells #[.slice none 0 0] 24)
      go_wp2_with fail
      generalize hw5 : w4.alloc (.cells #[.slice none 0 0] 24) = w5
      rw [hw5] at BY HY
      have hz5 : w4.heap.size < w5.heap.size := lt_of_block HY
      obtain ⟨B6, hB6⟩ : ∃ z, z = w4.heap.size := ⟨_, rfl⟩
      rw [← hB6] at HY hz5 ⊢
      have B5 := below_step B4 (Nat.le_refl _) BY
      replace HX1 := Lib.hid (row_later BY HX1.out)
      have HY5 := Lib.hid HY
      have z6 : w1.heap.size ≤ B6 := by omega
      have hN24 : N ≤ 24 := by rw [← HN.out, ← List.length_map (f := fun x : ObM => x.1), HLM.out]; exact hl24
      clear hw5 BY HY B4 hB6 hz2 hz3 hz4
      go_loopw [7] (fun i wr => ∃ (k : Nat) (v : Value) (M : List ObM), i = .int .i64 k ∧ k ≤ N ∧ wr.heap[B6]? = some (.cells #[v] 24) ∧ wr.ownsRow w5.heap.size 59 6 v M.length (M.flatMap encOb) ∧ (∀ x ∈ M, ObOK w x) ∧ LessOf (l.take k) (M.map (·.1)) ∧ Below B6 w5 wr) (fun i _ => N - (intOf i).toNat)
      case atStart => exact ⟨0, _, [], rfl, by omega, HY5.out, World.ownsRow_nil _ _ _ _, (fun x hx => by cases hx), LessOf.nil, Below.refl _ _⟩
      case round =>
        obtain ⟨k, v, M, rfl, hk, hc6, hown, hmo, hls, hbr⟩ := hrel
        have HC6 := Lib.hid hc6
        have HOWN := Lib.hid hown
        have HMO := Lib.hid hmo
        have HLS := Lib.hid hls
        have BR := B5.trans (hbr.mono (by omega))
        have hzr := hbr.size
        have HXr := Lib.hid ((hbr.block _ (by omega)).trans HX1.out)
        obtain ⟨av, cv, hav⟩ := own_form hown
        subst hav
        have hml : M.length ≤ 24 := by
          have h1 := hls.1.length_le
          rw [List.length_map, List.length_take] at h1
          omega
        clear hc6 hown hmo hls
        by_cases hlt : k < N
        · obtain ⟨x, hx⟩ : ∃ x, L[k]? = some x := ⟨L[k]'(by rw [HN.out]; exact hlt), List.getElem?_eq_getElem _⟩
          obtain ⟨b, off, ha, hcell⟩ := HC.out (by omega)
          subst ha
          have hcl := fun i u hu => cell_later BR (hcell k x hx i u hu)
          have d0' := hcl 0 _ rfl
          have d0 : wr.cell? ⟨b, off + k * 6, none⟩ = some (.string x.1.id) := d0'
          have d1 := hcl 1 _ rfl
          have d2 := hcl 2 _ rfl
          have d3 := hcl 3 _ rfl
          have d4 := hcl 4 _ rfl
          have d5 := hcl 5 _ rfl
          have bz := lt_of_cell d0
          have hox := HLO.out x (List.mem_of_getElem? hx)
          have hlk : l[k]? = some x.1 := by rw [← HLM.out, List.getElem?_map, hx]; rfl
          have HKP := Lib.hid (show LessOf (l.take (k + 1)) ((M ++ [x]).map (·.1)) by rw [List.map_append]; exact HLS.out.keep hlk)
          have HDP := Lib.hid (fun h => HLS.out.drop hlk h)
          have HMX := Lib.hid (show ∀ y ∈ M ++ [x], ObOK w y from fun y hy => by
            rcases List.mem_append.1 hy with hy | hy
            · exact HMO.out y hy
            · rw [List.mem_singleton.1 hy]; exact hox)
          have HONE := Lib.hid hox.one
          obtain ⟨⟨ar, cr, er, _⟩, ⟨at', ct, et, _⟩, _⟩ := hox
          obtain ⟨⟨id, kd, ox, oy, refs, tags⟩, vr, vt⟩ := x
          simp only [] at er et
          subst er et
          simp only [] at d0 d1 d2 d3 d4 d5 HDP
          have pz := lt_of_block HXr.out
          have p0 := cell_of_row wr _ 0 _ _ _ HXr.out
          simp only [List.getElem?_toArray, List.getElem?_cons_zero] at p0
          clear hcell hcl d0' hx hlk
          go_upto_region 9 with fail
          clear p0 pz
          have BO := (Below.refl wr.heap.size wr).alloc (Nat.le_refl _) (.cells #[.string id, .int .i64 kd, .int .i64 ox, .int .i64 oy, .slice ar refs.length cr, .slice at' tags.length ct] 59)
          have HO := row_new wr (.cells #[.string id, .int .i64 kd, .int .i64 ox, .int .i64 oy, .slice ar refs.length cr, .slice at' tags.length ct] 59)
          generalize hw7 : wr.alloc (.cells #[.string id, .int .i64 kd, .int .i64 ox, .int .i64 oy, .slice ar refs.length cr, .slice at' tags.length ct] 59) = w7
          rw [hw7] at BO HO
          obtain ⟨Bo, hBo⟩ : ∃ z, z = wr.heap.size := ⟨_, rfl⟩
          rw [← hBo] at HO ⊢
          have HO7 := Lib.hid HO
          have HC7 := Lib.hid (row_later BO HC6.out)
          have O7 := Lib.hid (own_later HOWN.out BO)
          have BR7 := Lib.hid (hbr.trans (BO.mono (by omega)))
          have zo := lt_of_block HO
          have z67 : B6 < w5.heap.size := by omega
          have HBo := Lib.hid hBo
          clear hw7 BO HO d0 d1 d2 d3 d4 d5 bz hBo
          go_cut [50] from 35 to 51 (fun v50 wx => ∃ d : Bool, v50 = .bool d ∧ (d = false → kd = 2 ∨ kd = 3) ∧ wx = w7)
          case first =>
            have qz := lt_of_block HO7.out
            have q0 := cell_of_row w7 _ 0 _ _ _ HO7.out
            have q1 := cell_of_row w7 _ 1 _ _ _ HO7.out
            have q2 := cell_of_row w7 _ 2 _ _ _ HO7.out
            have q3 := cell_of_row w7 _ 3 _ _ _ HO7.out
            have q4 := cell_of_row w7 _ 4 _ _ _ HO7.out
            have q5 := cell_of_row w7 _ 5 _ _ _ HO7.out
            simp only [List.getElem?_toArray, List.getElem?_cons_zero, List.getElem?_cons_succ] at q0 q1 q2 q3 q4 q5
            by_cases k2 : kd = 2
            · subst k2
              go_wp2
              all_goals (
                go_meet
                case rel => exact ⟨_, rfl, by simp⟩)
            · have k2' : (kd == 2) = false := beq_false_of_ne k2
              by_cases k3 : kd = 3
              · subst k3
                go_wp2
                all_goals (
                  go_meet
                  case rel => exact ⟨_, rfl, by simp⟩)
              · have k3' : (kd == 3) = false := beq_false_of_ne k3
                go_wp2
                all_goals (
                  go_meet
                  case rel => exact ⟨true, rfl, by simp⟩)
          case rest =>
            obtain ⟨d, rfl, hd, hw⟩ := hcut
            rw [hw]
            clear hw
            cases d with
            | false =>
              have HL := Lib.hid (HDP.out (hd rfl))
              go_wp2
              go_roundw
              case rel => exact ⟨k + 1, _, M, by go_num, by omega, HC7.out, O7.out, HMO.out, HL.out, BR7.out⟩
              case measure => simp [intOf]; omega
            | true =>
              have qz := lt_of_block HO7.out
              have q0 := cell_of_row w7 _ 0 _ _ _ HO7.out
              have q1 := cell_of_row w7 _ 1 _ _ _ HO7.out
              have q2 := cell_of_row w7 _ 2 _ _ _ HO7.out
              have q3 := cell_of_row w7 _ 3 _ _ _ HO7.out
              have q4 := cell_of_row w7 _ 4 _ _ _ HO7.out
              have q5 := cell_of_row w7 _ 5 _ _ _ HO7.out
              simp only [List.getElem?_toArray, List.getElem?_cons_zero, List.getElem?_cons_succ] at q0 q1 q2 q3 q4 q5
              have pz := lt_of_block HC7.out
              have p0 := cell_of_row w7 _ 0 _ _ _ HC7.out
              have pf0 := frozen_of_row w7 _ 0 _ _ HC7.out
              simp only [List.getElem?_toArray, List.getElem?_cons_zero] at p0
              have hb7 := BR7.out.size
              have BA := (Below.refl w7.heap.size w7).alloc (Nat.le_refl _) (.cells #[.string id, .int .i64 kd, .int .i64 ox, .int .i64 oy, .slice ar refs.length cr, .slice at' tags.length ct] 59)
              have NE := Lib.hid (show some B6 ≠ (Value.slice av M.length cv).ownBlock from fun c => by
                have := (O7.out.lt B6 c.symm).1
                omega)
              go_wp2_with (at_builtin; refine wpList_append_own _ rfl _ _ 22 rfl w5.heap.size 59 i0 (.agg #[.string ⟨#[]⟩, .int .i64 0, .int .i64 0, .int .i64 0, .slice none 0 0, .slice none 0 0]) 6 88 Tryz.underlying22 hi hi0 hi1 hi2 rfl (by decide) _ _ _ rfl (O7.out.alloc _) ⟨w7.heap.size, 0, none⟩ 1 1 [.string id, .int .i64 kd, .int .i64 ox, .int .i64 oy, .slice ar refs.length cr, .slice at' tags.length ct] rfl rfl (cells_row (row_new _ _)) HONE.out (by unfold maxLen; omega) (by omega) (by simp; omega) ?_; intro v' w9 hown9 hgrow9 _; obtain ⟨av9, cv9, hav9⟩ := own_form hown9; subst hav9; have HC9 := Lib.hid (row_grown hgrow9 (row_later BA HC7.out) NE.out); have HG9 := Lib.hid hgrow9; have O9 := Lib.hid hown9; clear hown9 hgrow9; have r0 := cell_of_row w9 _ 0 _ _ _ HC9.out; have rf0 := frozen_of_row w9 _ 0 _ _ HC9.out; have rz := lt_of_block HC9.out; simp only [List.getElem?_toArray, List.getElem?_cons_zero] at r0)
              have hgs : w9.grownBy (w9.setCell ⟨B6, 0, none⟩ (.slice av9 (M.length + 1) cv9)) (some B6) := setCells_grown (g := B6) [.slice av9 (M.length + 1) cv9] 0 w9
              have HCN := Lib.hid (heap_setCell_same w9 B6 0 _ _ (.slice av9 (M.length + 1) cv9) HC9.out)
              have ON := Lib.hid (O9.out.kept hgs (Or.inr (fun c => by have := (O9.out.lt B6 c).1; omega)))
              have B79 := (BR7.out.alloc (Nat.le_trans (Nat.le_of_lt z67) hb7) (.cells #[.string id, .int .i64 kd, .int .i64 ox, .int .i64 oy, .slice ar refs.length cr, .slice at' tags.length ct] 59)).grown HG9.out (Nat.le_trans (Nat.le_trans (Nat.le_of_lt z67) hb7) BA.size) (fun j hj => by have := (O7.out.lt j hj).1; omega)
              have BN := Lib.hid (B79.grown hgs (Nat.le_trans (Nat.le_of_lt z67) B79.size) (fun j hj => by injection hj with hj; omega))
              clear hgs r0 rf0 rz
              clear q0 q1 q2 q3 q4 q5 qz
              clear p0 pz pf0
              go_roundw
              case rel => exact ⟨k + 1, _, M ++ [(⟨id, kd, ox, oy, refs, tags⟩, .slice ar refs.length cr, .slice at' tags.length ct)], by go_num, by omega, HCN.out, by rw [List.length_append, List.flatMap_append]; simpa [encOb] using ON.out, HMX.out, HKP.out, BN.out⟩
              case measure => simp [intOf]; omega
        · obtain rfl : k = N := by omega
          have HSUB := Lib.hid (show SubM (M.map (·.1)) l by
            have h := HLS.out
            rw [List.take_of_length_le (by rw [← HLM.out, List.length_map, HN.out]; exact Nat.le_refl _)] at h
            exact h.sub HOK.out)
          have hml' : (M.map (·.1)).length ≤ 24 := by rw [List.length_map]; exact hml
          have OL := Lib.hid (show ObjsIs wr (.slice av M.length cv) (M.map (·.1)) from objs_of (RowE.of_own encOb_len rfl HOWN.out) (fun x hx => (HMO.out x hx).later BR) (by omega))
          have HK1 := Lib.hid (keys_lenR 12 HR12.out)
          have HK2 := Lib.hid (keys_lenR (l := M.map (·.1)) 12 (fun o ho => HR12.out o ((by have h := HLS.out; rw [List.take_of_length_le (by rw [← HLM.out, List.length_map, HN.out]; exact Nat.le_refl _)] at h; exact h.1.subset ho))))
          have pz := lt_of_block HXr.out
          have p0 := cell_of_row wr _ 0 _ _ _ HXr.out
          simp only [List.getElem?_toArray, List.getElem?_cons_zero] at p0
          go_wp2_with fail
          clear p0 pz
          refine (check_any _ l _ (HV.out.later BR) HOK.out (by omega) (by have := HK1.out; omega)).mono ?_
          rintro e w10 ⟨v1, rfl, hv1, hb⟩
          have B10 := below_step BR (Nat.le_refl _) hb
          have V1 := Lib.hid hv1
          replace OL := Lib.hid (OL.out.later hb)
          replace HC6 := Lib.hid (row_later hb HC6.out)
          have hz10 := hb.size
          clear hv1 hb
          have pz := lt_of_block HC6.out
          have p0 := cell_of_row w10 _ 0 _ _ _ HC6.out
          simp only [List.getElem?_toArray, List.getElem?_cons_zero] at p0
          go_wp2_with fail
          clear p0 pz
          refine (check_any _ _ _ OL.out HSUB.out.ok (by omega) (by have := HK2.out; omega)).mono ?_
          rintro e w11 ⟨v2, rfl, hv2, hb⟩
          have B11 := below_step B10 (Nat.le_refl _) hb
          replace V1 := Lib.hid (V1.out.later hb)
          have V2 := Lib.hid hv2
          have HCK := Lib.hid (HSUB.out.checks)
          have HN1 := Lib.hid (show (checkP l).length ≤ 1000000 ∧ (checkP (M.map (·.1))).length ≤ 1000000 from ⟨check_len (by omega), check_len (by omega)⟩)
          clear hv2 hb OL HC6 HOWN HSUB HK1 HK2 HMO HLS BR B10 hbr HXr
          obtain ⟨C1, hC1⟩ : ∃ z, z = checkP l := ⟨_, rfl⟩
          obtain ⟨C2, hC2⟩ : ∃ z, z = checkP (M.map (·.1)) := ⟨_, rfl⟩
          have HORD := Lib.hid (show ∀ k ∈ C2, OrdP k from fun k hk => check_ord (by rw [hC2] at hk; exact hk))
          rw [← hC1] at V1 HCK HN1
          rw [← hC2] at V2 HCK HN1
          clear hC1 hC2
          obtain ⟨a2, c2, hs2, hg2⟩ := vios_get V2.out
          obtain ⟨a1, c1, hs1, -⟩ := vios_get V1.out
          subst hs1 hs2
          have HG2 := Lib.hid hg2
          clear hg2 V2
          have hcl := HCK.out.2
          have hn1 := HN1.out
          go_wp2_with fail
          obtain ⟨we, rfl⟩ : ∃ z : World, z = w11 := ⟨_, rfl⟩
          go_loopw [11] (fun i wr => ∃ k : Nat, i = .int .i64 k ∧ k ≤ C2.length ∧ Below we.heap.size we wr) (fun i _ => C2.length - (intOf i).toNat)
          case atStart => exact ⟨0, rfl, by omega, Below.refl _ _⟩
          case round =>
            obtain ⟨k, rfl, hk, hbr⟩ := hrel
            have BR := below_step B11 (Nat.le_refl _) hbr
            by_cases hlt : k < C2.length
            · obtain ⟨key, hkey⟩ : ∃ x, C2[k]? = some x := ⟨C2[k]'hlt, List.getElem?_eq_getElem _⟩
              obtain ⟨b2, o2, ea, hcell⟩ := HG2.out (by omega)
              subst ea
              obtain ⟨vi, p0, p1, p2, sr⟩ := hcell k key hkey
              have hmem := List.mem_of_getElem? hkey
              have hnm : namedP C1 key.1 key.2 = true := (named_self (HORD.out key hmem)).2 (HCK.out.1 key hmem)
              have NM := Lib.hid (fun W hb => named_any (.slice a1 C1.length c1) C1 key.1 key.2 W (V1.out.later (w' := W) hb) (by omega))
              rw [hnm] at NM
              have q2 := cell_later hbr p2
              have pz := lt_of_cell q2
              obtain ⟨x1, x2⟩ := key
              by_cases e1 : x1 = x2
              · have hid : idsK (x1, x2) = [x1] := by unfold idsK; rw [if_pos e1]
                rw [hid] at sr
                obtain ⟨xs, cs, rfl, hns, hzs, hcs⟩ := sr.later hbr
                obtain ⟨bs, os, rfl, hcc⟩ := hcs (by simp)
                have s0' := hcc 0 x1 rfl
                have s0 : wr.cell? ⟨bs, os, none⟩ = some (.string x1) := s0'
                subst e1
                have sz := lt_of_cell s0
                have qq2 := cell_belowBy q2
                have qs0 := cell_belowBy s0
                simp only [List.length_cons, List.length_nil] at q2 qq2
                clear hcell hkey p0 p1 p2 sr hmem hnm hcc hcs s0' hns hzs hid
                clear s0
                go_wp2_with fail
                clear q2
                refine wp_region_quiet_below mixed (by kernel_rfl) ?_
                repeat (go_big_quiet_step ((go_at_call 24; exact calls_belowBy (NM.out _ (hbr.trans ((BelowBy.below _).mono hbr.size))))))
                refine wpQuiet_nil ?_
                intro w8 hw'
                obtain ⟨⟨wq, hbq⟩, hw''⟩ := hw'
                subst hw''
                clear qq2 qs0
                go_wp2
                go_roundw
                case rel => exact ⟨k + 1, by go_num, by omega, hbr.trans (hbq.mono hbr.size)⟩
                case measure => simp [intOf]; omega
              · have hid : idsK (x1, x2) = [x1, x2] := by unfold idsK; rw [if_neg e1]
                rw [hid] at sr
                obtain ⟨xs, cs, rfl, hns, hzs, hcs⟩ := sr.later hbr
                obtain ⟨bs, os, rfl, hcc⟩ := hcs (by simp)
                have s0' := hcc 0 x1 rfl
                have s0 : wr.cell? ⟨bs, os, none⟩ = some (.string x1) := s0'
                have s1 := hcc 1 x2 rfl
                have sz := lt_of_cell s0
                have qq2 := cell_belowBy q2
                have qs0 := cell_belowBy s0
                have qs1 := cell_belowBy s1
                simp only [List.length_cons, List.length_nil] at q2 qq2
                clear hcell hkey p0 p1 p2 sr hmem hnm hcc hcs s0' hns hzs hid e1
                clear s0 s1
                go_wp2_with fail
                clear q2
                refine wp_region_quiet_below mixed (by kernel_rfl) ?_
                repeat (go_big_quiet_step ((go_at_call 24; exact calls_belowBy (NM.out _ (hbr.trans ((BelowBy.below _).mono hbr.size))))))
                refine wpQuiet_nil ?_
                intro w8 hw'
                obtain ⟨⟨wq, hbq⟩, hw''⟩ := hw'
                subst hw''
                clear qq2 qs0 qs1
                go_wp2
                go_roundw
                case rel => exact ⟨k + 1, by go_num, by omega, hbr.trans (hbq.mono hbr.size)⟩
                case measure => simp [intOf]; omega
            · obtain rfl : k = C2.length := by omega
              have hd1 : decide ((C2.length : Int) ≤ (C1.length : Int)) = true := decide_eq_true (by omega)
              go_wp2
              go_ret
              exact ⟨by simp <;> omega, BR⟩
end Go.Proofs.YtbkomdinchiffaaGreat
