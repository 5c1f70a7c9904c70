/- BorderOthers: the walk. -/
import Derived.Test.YtbkomdinchiffaaGreatBorFw
namespace Go.Proofs.YtbkomdinchiffaaGreat
open Go.RowKit Go.Sort Go.Maps Go.ChangeMaps

theorem used_set (l : List ObjD) (id : ByteArray) : ((l.flatMap (·.refs)).any fun p => decide (p = id)) = usedP l id := by
  unfold usedP
  rw [Bool.eq_iff_iff, List.any_eq_true, List.any_eq_true]
  constructor
  · rintro ⟨x, hx, e⟩
    obtain ⟨o, ho, hr⟩ := List.mem_flatMap.1 hx
    have e := of_decide_eq_true e
    subst e
    exact ⟨o, ho, decide_eq_true hr⟩
  · rintro ⟨o, ho, hr⟩
    exact ⟨id, List.mem_flatMap.2 ⟨o, ho, of_decide_eq_true hr⟩, decide_eq_true rfl⟩
theorem refs_next {l : List ObjD} {k : Nat} {o : ObjD} (h : l[k]? = some o) : (l.take (k + 1)).flatMap (·.refs) = (l.take k).flatMap (·.refs) ++ o.refs := by
  obtain ⟨hk, rfl⟩ := List.getElem?_eq_some_iff.1 h
  rw [List.take_succ_eq_append_getElem hk, List.flatMap_append]; simp
theorem refs_bd {l : List ObjD} (h : ∀ o ∈ l, o.refs.length ≤ 12) : (l.flatMap (·.refs)).length ≤ 12 * l.length := by
  induction l with
  | nil => simp
  | cons o l ih =>
    rw [List.flatMap_cons, List.length_append, List.length_cons]
    have h1 := h o (List.mem_cons_self ..)
    have h2 := ih fun x hx => h x (List.mem_cons_of_mem _ hx)
    omega
set_option maxRecDepth 100000 in
set_option maxHeartbeats 4000000 in
theorem others_law (v : Value) (l : List ObjD) (w : World) (hv : ObjsIs w v l) :
    Calls Tryz.prog 6 #[.agg #[v]] w fun e w' => e = .returned (.bool true) ∧ Below w.heap.size w w' := by
  have mixed : Tryz.prog.follows .mixedOrders = true := by kernel_rfl
  have HV := Lib.hid hv
  obtain ⟨L, hL, hLm, hLo⟩ := objs_row hv
  obtain ⟨i0, hi, hi0, hi1, hi2⟩ := info_parts infoOb
  have HLO := Lib.hid hLo
  have HLM := Lib.hid hLm
  obtain ⟨a, cap, rfl, hc⟩ := hL
  have HC := Lib.hid hc
  obtain ⟨N, hN⟩ : ∃ N, L.length = N := ⟨_, rfl⟩
  rw [hN] at HC HV ⊢
  have HN := Lib.hid hN
  clear hv hLo hLm hc hN
  go_enter Tryz.func6, Tryz.ntmps6
  go_wp2_with fail
  have BX : Below w.heap.size w (w.alloc (.cells #[.slice a N cap] 24)) := (by repeat' (first | exact Below.refl _ _ | refine Below.drew ?_ | refine Below.drewN' ?_ | refine Below.setCell ?_ (by first | omega | (simp; done) | exact Below.size (by assumption) | (simp; omega)) _ | refine Below.alloc ?_ (by first | omega | (simp; done) | exact Below.size (by assumption) | (simp; omega)) _ | refine Below.trans ?_ (Below.mono (by assumption) ?_) | (first | omega | (simp; done) | exact Below.size (by assumption) | (simp; omega))))
  have HX := row_new w (.cells #[.slice a N cap] 24)
  generalize hw1 : w.alloc (.cells #[.slice a N cap] 24) = w1
  rw [hw1] at BX HX
  have HX1 := Lib.hid HX
  have hz1 : w.heap.size < w1.heap.size := lt_of_block HX
  clear hw1 HX
  refine (head_any _).mono ?_
  rintro e w2 ⟨rfl, hb⟩
  have B2 := below_step BX (Nat.le_refl _) hb
  replace HX1 := Lib.hid (row_later hb HX1.out)
  have hz2 := hb.size
  clear hb BX
  have pz := lt_of_block HX1.out
  have p0 := cell_of_row w2 _ 0 _ _ _ HX1.out
  simp only [List.getElem?_toArray, List.getElem?_cons_zero] at p0
  go_wp2_with fail
  clear p0 pz
  refine (few13_any _ l 24 (by omega) _ (HV.out.later B2)).mono ?_
  rintro e w3 ⟨⟨r, rfl, hr⟩, hb⟩
  have B3 := below_step B2 (Nat.le_refl _) hb
  replace HX1 := Lib.hid (row_later hb HX1.out)
  have hz3 := hb.size
  clear hb B2
  cases r with
  | false =>
    go_wp2
    go_ret
    exact ⟨rfl, B3⟩
  | true =>
    obtain ⟨hl24, hr12⟩ := hr rfl
    have HR12 := Lib.hid hr12
    clear hr12
    clear hr
    have pz := lt_of_block HX1.out
    have p0 := cell_of_row w3 _ 0 _ _ _ HX1.out
    simp only [List.getElem?_toArray, List.getElem?_cons_zero] at p0
    go_wp2_with fail
    clear p0 pz
    refine (validM_any _ l _ (HV.out.later B3)).mono ?_
    rintro e w4 ⟨rfl, hb⟩
    have B4 := below_step B3 (Nat.le_refl _) hb
    replace HX1 := Lib.hid (row_later hb HX1.out)
    have hz4 := hb.size
    clear hb B3
    cases hok : mapOK l with
    | false =>
      go_wp2
      go_ret
      exact ⟨rfl, B4⟩
    | true =>
      have HOK := Lib.hid hok
      clear hok
      have hN24 : N ≤ 24 := by rw [← HN.out, ← List.length_map (f := fun x : ObM => x.1), HLM.out]; exact hl24
      have HLN := Lib.hid (show l.length = N by rw [← HLM.out, List.length_map, HN.out])
      have SM := SetIs.made w4
      have hmm := @run_makeMap Tryz.prog
      have BY : Below w4.heap.size w4 (w4.alloc (.map #[] 0)) := (by repeat' (first | exact Below.refl _ _ | refine Below.drew ?_ | refine Below.drewN' ?_ | refine Below.setCell ?_ (by first | omega | (simp; done) | exact Below.size (by assumption) | (simp; omega)) _ | refine Below.alloc ?_ (by first | omega | (simp; done) | exact Below.size (by assumption) | (simp; omega)) _ | refine Below.trans ?_ (Below.mono (by assumption) ?_) | (first | omega | (simp; done) | exact Below.size (by assumption) | (simp; omega))))
      go_wp2_with fail
      generalize hw5 : w4.alloc (.map #[] 0) = w5
      rw [hw5] at BY SM
      obtain ⟨Bs, hBs⟩ : ∃ z, z = w4.heap.size := ⟨_, rfl⟩
      rw [← hBs] at SM ⊢
      have hz5 : Bs < w5.heap.size := SM.lt
      have B5 := below_step B4 (Nat.le_refl _) BY
      replace HX1 := Lib.hid (row_later BY HX1.out)
      have z6 : w1.heap.size ≤ Bs := by omega
      have HSM := Lib.hid SM
      clear hw5 BY B4 hBs hz2 hz3 hz4 SM hmm
      go_loopw [5] (fun i wr => ∃ k : Nat, i = .int .i64 k ∧ k ≤ N ∧ SetIs wr Bs ((l.take k).flatMap (·.refs)) ∧ Below Bs w5 wr) (fun i _ => N - (intOf i).toNat)
      case atStart => exact ⟨0, rfl, by omega, HSM.out, Below.refl _ _⟩
      case round =>
        obtain ⟨k, rfl, hk, hset, hbr⟩ := hrel
        have HSET := Lib.hid hset
        have BR := B5.trans (hbr.mono (by omega))
        have hzr := hbr.size
        have HXr := Lib.hid ((hbr.block _ (by omega)).trans HX1.out)
        clear hset
        by_cases hlt : k < N
        · obtain ⟨x, hx⟩ : ∃ x, L[k]? = some x := ⟨L[k]'(by rw [HN.out]; exact hlt), List.getElem?_eq_getElem _⟩
          obtain ⟨b, off, ha, hcell⟩ := HC.out (by omega)
          subst ha
          have hlk : l[k]? = some x.1 := by rw [← HLM.out, List.getElem?_map, hx]; rfl
          have HNX := Lib.hid (refs_next hlk)
          have HPL := Lib.hid (show ((l.take k).flatMap (·.refs)).length ≤ 300 from by
            have := refs_bd (l := l.take k) fun o ho => HR12.out o (List.mem_of_mem_take ho)
            rw [List.length_take] at this
            omega)
          have hr12 := HR12.out x.1 (List.mem_of_getElem? hlk)
          have hox := HLO.out x (List.mem_of_getElem? hx)
          obtain ⟨⟨ar, cr, er, hrl, hrz, hrc⟩, -, -⟩ := hox
          have D4 := Lib.hid (fun (W : World) (hb : Below w.heap.size w W) => cell_later hb (hcell k x hx 4 _ rfl))
          have d4 := D4.out _ BR
          obtain ⟨⟨id, kd, ox, oy, refs, tags⟩, vr, vt⟩ := x
          simp only [] at er hrl hrz hrc D4 d4 HNX hr12
          subst er
          have HRC := Lib.hid hrc
          have HRZ := Lib.hid hrz
          have bz := lt_of_cell d4
          obtain ⟨pre, hpre⟩ : ∃ z, z = (l.take k).flatMap (·.refs) := ⟨_, rfl⟩
          rw [← hpre] at HSET HPL HNX
          have pz := lt_of_block HXr.out
          have p0 := cell_of_row wr _ 0 _ _ _ HXr.out
          simp only [List.getElem?_toArray, List.getElem?_cons_zero] at p0
          clear hcell hx hlk hrc hrz hpre
          go_wp2_with fail
          clear d4 bz
          clear p0 pz
          obtain ⟨wo, rfl⟩ : ∃ z : World, z = wr := ⟨_, rfl⟩
          go_loopw [6] (fun i wr => ∃ j : Nat, i = .int .i64 j ∧ j ≤ refs.length ∧ SetIs wr Bs (pre ++ refs.take j) ∧ Below Bs w5 wr) (fun i _ => refs.length - (intOf i).toNat)
          case atStart => exact ⟨0, rfl, by omega, by simpa using HSET.out, hbr⟩
          case round =>
            clear hbr BR HXr
            obtain ⟨j, rfl, hj, hset, hbr⟩ := hrel
            have BR := B5.trans (hbr.mono (by omega))
            have hzr := hbr.size
            have HXr := Lib.hid ((hbr.block _ (by omega)).trans HX1.out)
            have d4 := D4.out _ BR
            have bz := lt_of_cell d4
            have pz := lt_of_block HXr.out
            have p0 := cell_of_row wr _ 0 _ _ _ HXr.out
            simp only [List.getElem?_toArray, List.getElem?_cons_zero] at p0
            by_cases hlj : j < refs.length
            · obtain ⟨s, hs⟩ : ∃ s, refs[j]? = some s := ⟨refs[j]'hlj, List.getElem?_eq_getElem _⟩
              obtain ⟨br, offr, har, hcr⟩ := HRC.out (by omega)
              subst har
              have v0 := cell_later BR (hcr j s hs)
              have vz := lt_of_cell v0
              have hpl := HPL.out
              obtain ⟨w9, hrun, hset9, hg9⟩ := hset.put s (by have := HRZ.out s (List.mem_of_getElem? hs); unfold maxLen; omega) (by simp; unfold maxLen; omega)
              have HS9 := Lib.hid (show SetIs w9 Bs (pre ++ refs.take (j + 1)) by
                obtain ⟨hk', e⟩ := List.getElem?_eq_some_iff.1 hs
                rw [List.take_succ_eq_append_getElem hk', e, ← List.append_assoc]; exact hset9)
              have B9 := Lib.hid (hbr.grown hg9 (Nat.le_trans (Nat.le_of_lt hz5) hzr) (fun j hj => by injection hj with hj; omega))
              clear hcr hs hset hset9 hg9
              go_wp2
              go_roundw
              case rel => exact ⟨j + 1, by go_num, by omega, HS9.out, B9.out⟩
              case measure => simp [intOf]; omega
            · obtain rfl : j = refs.length := by omega
              have HS9 := Lib.hid (show SetIs wr Bs ((l.take (k + 1)).flatMap (·.refs)) by rw [HNX.out]; rw [List.take_length] at hset; exact hset)
              clear hset
              go_wp2
              go_roundw
              case rel => exact ⟨k + 1, by go_num, by omega, HS9.out, hbr⟩
              case measure => simp [intOf]; omega
        · obtain rfl : k = N := by omega
          have HUS := Lib.hid (show SetIs wr Bs (l.flatMap (·.refs)) by
            have h := HSET.out
            rw [List.take_of_length_le (by rw [HLN.out]; exact Nat.le_refl _)] at h
            exact h)
          clear HSET hlt
          have pz := lt_of_block HXr.out
          have p0 := cell_of_row wr _ 0 _ _ _ HXr.out
          simp only [List.getElem?_toArray, List.getElem?_cons_zero] at p0
          go_wp2_with fail
          clear p0 pz
          have BY := (Below.refl wr.heap.size wr).alloc (Nat.le_refl _) (.cells #[.slice none 0 0] 24)
          have HY := row_new wr (.cells #[.slice none 0 0] 24)
          generalize hw7 : wr.alloc (.cells #[.slice none 0 0] 24) = w7
          rw [hw7] at BY HY
          have hz7 : wr.heap.size < w7.heap.size := lt_of_block HY
          obtain ⟨B6, hB6⟩ : ∃ z, z = wr.heap.size := ⟨_, rfl⟩
          rw [← hB6] at HY hz7 ⊢
          have B7 := below_step BR (Nat.le_refl _) BY
          have HX7 := Lib.hid (row_later BY HXr.out)
          have HU7 := Lib.hid (HUS.out.later (BY.block _ HUS.out.lt))
          have HY7 := Lib.hid HY
          have z67 : w1.heap.size ≤ B6 := by omega
          have z68 : Bs < B6 := by omega
          have HKN := Lib.hid HLN.out
          clear hw7 BY HY BR hB6 HUS HXr HX1 HSM hbr B5
          go_loopw [8] (fun i wr => ∃ (j : Nat) (v : Value) (M : List ObM), i = .int .i64 j ∧ j ≤ k ∧ wr.heap[B6]? = some (.cells #[v] 24) ∧ wr.ownsRow w7.heap.size 59 6 v M.length (M.flatMap encOb) ∧ (∀ x ∈ M, ObOK w x) ∧ M.map (·.1) = pickF (bareF l) 0 (l.take j) ∧ Below B6 w7 wr) (fun i _ => k - (intOf i).toNat)
          case atStart => exact ⟨0, _, [], rfl, by omega, HY7.out, World.ownsRow_nil _ _ _ _, (fun x hx => by cases hx), rfl, Below.refl _ _⟩
          case round =>
            obtain ⟨j, v, M, rfl, hj, hc6, hown, hmo, hls, hbr⟩ := hrel
            have HC6 := Lib.hid hc6
            have HOWN := Lib.hid hown
            have HMO := Lib.hid hmo
            have HLS := Lib.hid hls
            have BR := B7.trans (hbr.mono (by omega))
            have hzr := hbr.size
            have HXr := Lib.hid ((hbr.block _ (by omega)).trans HX7.out)
            have HUr := Lib.hid (HU7.out.later (hbr.block _ (by omega)))
            obtain ⟨av, cv, hav⟩ := own_form hown
            subst hav
            have hml : M.length ≤ 24 := by
              have h1 := congrArg List.length hls
              have h2 := pickF_len (bareF l) (l.take j) 0
              rw [List.length_map] at h1
              rw [List.length_take] at h2
              omega
            clear hc6 hown hmo hls
            by_cases hlt : j < k
            · obtain ⟨x, hx⟩ : ∃ x, L[j]? = some x := ⟨L[j]'(by rw [HN.out]; exact hlt), List.getElem?_eq_getElem _⟩
              obtain ⟨b, off, ha, hcell⟩ := HC.out (by omega)
              subst ha
              have hcl := fun i u hu => cell_later BR (hcell j x hx i u hu)
              have d0' := hcl 0 _ rfl
              have d0 : wr.cell? ⟨b, off + j * 6, none⟩ = some (.string x.1.id) := d0'
              have d1 := hcl 1 _ rfl
              have d2 := hcl 2 _ rfl
              have d3 := hcl 3 _ rfl
              have d4 := hcl 4 _ rfl
              have d5 := hcl 5 _ rfl
              have bz := lt_of_cell d0
              have hox := HLO.out x (List.mem_of_getElem? hx)
              have hlk : l[j]? = some x.1 := by rw [← HLM.out, List.getElem?_map, hx]; rfl
              have HPK := Lib.hid (pickF_succ (bareF l) hlk)
              have hoy : ObOK w ({ x.1 with tags := [] }, x.2.1, .slice none 0 0) := ⟨hox.1, TagRow.nil _, hox.2.2⟩
              have HMX := Lib.hid (show ∀ y ∈ M ++ [({ x.1 with tags := [] }, x.2.1, .slice none 0 0)], ObOK w y from fun y hy => by
                rcases List.mem_append.1 hy with hy | hy
                · exact HMO.out y hy
                · rw [List.mem_singleton.1 hy]; exact hoy)
              have HONE := Lib.hid hoy.one
              have HLK := Lib.hid (fun (W : World) (h : SetIs W Bs (l.flatMap (·.refs))) => (h.look x.1.id (by have := hox.2.2; unfold maxLen; omega)).trans (by rw [used_set]))
              obtain ⟨⟨ar, cr, er, _⟩, ⟨at', ct, et, _⟩, hzid⟩ := hox
              obtain ⟨⟨id, kd, ox, oy, refs, tags⟩, vr, vt⟩ := x
              simp only [] at er et hzid
              subst er et
              simp only [] at d0 d1 d2 d3 d4 d5 HPK HMX HONE HLK
              have pz := lt_of_block HXr.out
              have p0 := cell_of_row wr _ 0 _ _ _ HXr.out
              simp only [List.getElem?_toArray, List.getElem?_cons_zero] at p0
              clear hcell hcl d0' hx hlk hoy
              go_upto_region 18 with fail
              clear p0 pz
              have BO := (Below.refl wr.heap.size wr).alloc (Nat.le_refl _) (.cells #[.string id, .int .i64 kd, .int .i64 ox, .int .i64 oy, .slice ar refs.length cr, .slice none 0 0] 59)
              have HO := row_new wr (.cells #[.string id, .int .i64 kd, .int .i64 ox, .int .i64 oy, .slice ar refs.length cr, .slice none 0 0] 59)
              generalize hw9 : wr.alloc (.cells #[.string id, .int .i64 kd, .int .i64 ox, .int .i64 oy, .slice ar refs.length cr, .slice none 0 0] 59) = w9
              rw [hw9] at BO HO
              obtain ⟨Bo, hBo⟩ : ∃ z, z = wr.heap.size := ⟨_, rfl⟩
              rw [← hBo] at HO ⊢
              have HO9 := Lib.hid HO
              have HC9 := Lib.hid (row_later BO HC6.out)
              have O9 := Lib.hid (own_later HOWN.out BO)
              have BR9 := Lib.hid (hbr.trans (BO.mono (by omega)))
              have hlk := HLK.out w9 (HUr.out.later (BO.block _ HUr.out.lt))
              have zo := lt_of_block HO
              have HBo := Lib.hid hBo
              obtain ⟨us, hus⟩ : ∃ z, z = usedP l id := ⟨_, rfl⟩
              rw [← hus] at hlk
              have HUS := Lib.hid hus
              clear hw9 BO HO d0 d1 d2 d3 d4 d5 bz hBo hus
              go_cut [84] from 66 to 85 (fun v84 wx => v84 = .bool (decide ((kd = 1 ∧ us = true) ∨ kd = 2 ∨ kd = 3)) ∧ wx = w9)
              case first =>
                have qz := lt_of_block HO9.out
                have q0 := cell_of_row w9 _ 0 _ _ _ HO9.out
                have q1 := cell_of_row w9 _ 1 _ _ _ HO9.out
                have q2 := cell_of_row w9 _ 2 _ _ _ HO9.out
                have q3 := cell_of_row w9 _ 3 _ _ _ HO9.out
                have q4 := cell_of_row w9 _ 4 _ _ _ HO9.out
                have q5 := cell_of_row w9 _ 5 _ _ _ HO9.out
                simp only [List.getElem?_toArray, List.getElem?_cons_zero, List.getElem?_cons_succ] at q0 q1 q2 q3 q4 q5
                by_cases k1 : kd = 1
                · subst k1
                  cases us with
                  | true =>
                    go_wp2
                    go_meet
                    case rel => exact ⟨rfl, rfl⟩
                  | false =>
                    go_wp2
                    go_meet
                    case rel => exact ⟨rfl, rfl⟩
                · have k1' : (kd == 1) = false := beq_false_of_ne k1
                  by_cases k2 : kd = 2
                  · subst k2
                    go_wp2
                    go_meet
                    case rel => exact ⟨rfl, rfl⟩
                  · have k2' : (kd == 2) = false := beq_false_of_ne k2
                    by_cases k3 : kd = 3
                    · subst k3
                      go_wp2
                      go_meet
                      case rel => exact ⟨rfl, rfl⟩
                    · have k3' : (kd == 3) = false := beq_false_of_ne k3
                      have hd : decide ((kd = 1 ∧ us = true) ∨ kd = 2 ∨ kd = 3) = false := by simp [k1, k2, k3]
                      have HD := Lib.hid hd
                      clear hd
                      go_wp2
                      go_meet
                      case rel => exact ⟨by rw [HD.out] <;> rfl, rfl⟩
              case rest =>
                obtain ⟨rfl, hw⟩ := hcut
                rw [hw]
                clear hw hlk
                cases hdd : decide ((kd = 1 ∧ us = true) ∨ kd = 2 ∨ kd = 3) with
                | false =>
                  have HL := Lib.hid (show M.map (·.1) = pickF (bareF l) 0 (l.take (j + 1)) by
                    have h0 := of_decide_eq_false hdd
                    rw [HUS.out] at h0
                    rw [HPK.out, show bareF l j ⟨id, kd, ox, oy, refs, tags⟩ = none from if_neg h0, HLS.out]; simp)
                  clear hdd
                  go_wp2
                  go_roundw
                  case rel => exact ⟨j + 1, _, M, by go_num, by omega, HC9.out, O9.out, HMO.out, HL.out, BR9.out⟩
                  case measure => simp [intOf]; omega
                | true =>
                  have HL := Lib.hid (show (M ++ ([(⟨id, kd, ox, oy, refs, []⟩, .slice ar refs.length cr, .slice none 0 0)] : List ObM)).map (·.1) = pickF (bareF l) 0 (l.take (j + 1)) by
                    have h0 := of_decide_eq_true hdd
                    rw [HUS.out] at h0
                    rw [HPK.out, show bareF l j ⟨id, kd, ox, oy, refs, tags⟩ = some ⟨id, kd, ox, oy, refs, []⟩ from if_pos h0, List.map_append, HLS.out]; rfl)
                  clear hdd
                  have qz := lt_of_block HO9.out
                  have q0 := cell_of_row w9 _ 0 _ _ _ HO9.out
                  have q1 := cell_of_row w9 _ 1 _ _ _ HO9.out
                  have q2 := cell_of_row w9 _ 2 _ _ _ HO9.out
                  have q3 := cell_of_row w9 _ 3 _ _ _ HO9.out
                  have q4 := cell_of_row w9 _ 4 _ _ _ HO9.out
                  have q5 := cell_of_row w9 _ 5 _ _ _ HO9.out
                  simp only [List.getElem?_toArray, List.getElem?_cons_zero, List.getElem?_cons_succ] at q0 q1 q2 q3 q4 q5
                  have pz := lt_of_block HC9.out
                  have p0 := cell_of_row w9 _ 0 _ _ _ HC9.out
                  have pf0 := frozen_of_row w9 _ 0 _ _ HC9.out
                  simp only [List.getElem?_toArray, List.getElem?_cons_zero] at p0
                  have hb7 := BR9.out.size
                  have BA := (Below.refl w9.heap.size w9).alloc (Nat.le_refl _) (.cells #[.string id, .int .i64 kd, .int .i64 ox, .int .i64 oy, .slice ar refs.length cr, .slice none 0 0] 59)
                  have NE := Lib.hid (show some B6 ≠ (Value.slice av M.length cv).ownBlock from fun c => by
                    have := (O9.out.lt B6 c.symm).1
                    omega)
                  go_wp2_with (at_builtin; refine wpList_append_own _ rfl _ _ 22 rfl w7.heap.size 59 i0 (.agg #[.string ⟨#[]⟩, .int .i64 0, .int .i64 0, .int .i64 0, .slice none 0 0, .slice none 0 0]) 6 88 Tryz.underlying22 hi hi0 hi1 hi2 rfl (by decide) _ _ _ rfl (O9.out.alloc _) ⟨w9.heap.size, 0, none⟩ 1 1 [.string id, .int .i64 kd, .int .i64 ox, .int .i64 oy, .slice ar refs.length cr, .slice none 0 0] rfl rfl (cells_row (row_new _ _)) HONE.out (by unfold maxLen; omega) (by omega) (by simp; omega) ?_; intro v' wa hown9 hgrow9 _; obtain ⟨av9, cv9, hav9⟩ := own_form hown9; subst hav9; have HCa := Lib.hid (row_grown hgrow9 (row_later BA HC9.out) NE.out); have HGa := Lib.hid hgrow9; have Oa := Lib.hid hown9; clear hown9 hgrow9; have r0 := cell_of_row wa _ 0 _ _ _ HCa.out; have rf0 := frozen_of_row wa _ 0 _ _ HCa.out; have rz := lt_of_block HCa.out; simp only [List.getElem?_toArray, List.getElem?_cons_zero] at r0)
                  have hgs : wa.grownBy (wa.setCell ⟨B6, 0, none⟩ (.slice av9 (M.length + 1) cv9)) (some B6) := setCells_grown (g := B6) [.slice av9 (M.length + 1) cv9] 0 wa
                  have HCN := Lib.hid (heap_setCell_same wa B6 0 _ _ (.slice av9 (M.length + 1) cv9) HCa.out)
                  have ON := Lib.hid (Oa.out.kept hgs (Or.inr (fun c => by have := (Oa.out.lt B6 c).1; omega)))
                  have B79 := (BR9.out.alloc (Nat.le_trans (Nat.le_of_lt hz7) hb7) (.cells #[.string id, .int .i64 kd, .int .i64 ox, .int .i64 oy, .slice ar refs.length cr, .slice none 0 0] 59)).grown HGa.out (Nat.le_trans (Nat.le_trans (Nat.le_of_lt hz7) hb7) BA.size) (fun j hj => by have := (O9.out.lt j hj).1; omega)
                  have BN := Lib.hid (B79.grown hgs (Nat.le_trans (Nat.le_of_lt hz7) B79.size) (fun j hj => by injection hj with hj; omega))
                  clear hgs r0 rf0 rz
                  clear q0 q1 q2 q3 q4 q5 qz
                  clear p0 pz pf0
                  go_roundw
                  case rel => exact ⟨j + 1, _, M ++ ([(⟨id, kd, ox, oy, refs, []⟩, .slice ar refs.length cr, .slice none 0 0)] : List ObM), by go_num, by omega, HCN.out, by rw [List.length_append, List.flatMap_append]; simpa [encOb] using ON.out, HMX.out, HL.out, BN.out⟩
                  case measure => simp [intOf]; omega
            · obtain rfl : j = k := by omega
              have HBP := Lib.hid (show M.map (·.1) = bareP l by
                have h := HLS.out
                rw [List.take_of_length_le (by rw [HKN.out]; exact Nat.le_refl _)] at h
                exact h)
              have OL := Lib.hid (show ObjsIs wr (.slice av M.length cv) (bareP l) by
                rw [← HBP.out]
                exact objs_of (RowE.of_own encOb_len rfl HOWN.out) (fun x hx => (HMO.out x hx).later BR) (by omega))
              have HLK := Lib.hid (bare_like HOK.out)
              have HK1 := Lib.hid (keys_lenR 12 HR12.out)
              have HK2 := Lib.hid (show (keysP (bareP l)).length ≤ 12 * l.length by rw [HLK.out.keys]; exact HK1.out)
              have hbl : (bareP l).length ≤ 24 := by rw [← HBP.out, List.length_map]; exact hml
              have SV := Lib.hid (HV.out.later BR)
              have BW := Lib.hid BR
              clear HOWN HMO HLS HUr HU7 HX7 HY7 BR hbr B7 hzr
              have pz := lt_of_block HXr.out
              have p0 := cell_of_row wr _ 0 _ _ _ HXr.out
              simp only [List.getElem?_toArray, List.getElem?_cons_zero] at p0
              go_wp2_with fail
              clear p0 pz
              refine (segments_any _ l _ SV.out HOK.out).mono ?_
              rintro e w10 ⟨v1, v2, rfl, hr1, ht1, hb⟩
              have R1 := Lib.hid hr1
              have T1 := Lib.hid ht1
              replace SV := Lib.hid (SV.out.later hb)
              replace OL := Lib.hid (OL.out.later hb)
              replace HC6 := Lib.hid (row_later hb HC6.out)
              replace HXr := Lib.hid (row_later hb HXr.out)
              replace BW := Lib.hid (below_step BW.out (Nat.le_refl _) hb)
              clear hr1 ht1 hb
              have pz := lt_of_block HC6.out
              have p0 := cell_of_row w10 _ 0 _ _ _ HC6.out
              simp only [List.getElem?_toArray, List.getElem?_cons_zero] at p0
              go_wp2_with fail
              clear p0 pz
              refine (segments_any _ (bareP l) _ OL.out HLK.out.to.ok).mono ?_
              rintro e w11 ⟨v3, v4, rfl, hr1, ht1, hb⟩
              rw [HLK.out.segs] at hr1
              rw [HLK.out.keys, show (ownF (bareP l) (bareP l)) = ownF l l from funext fun k => HLK.out.own k] at ht1
              have R2 := Lib.hid hr1
              have T2 := Lib.hid ht1
              replace R1 := Lib.hid (R1.out.later hb)
              replace T1 := Lib.hid (T1.out.on hb)
              replace SV := Lib.hid (SV.out.later hb)
              replace OL := Lib.hid (OL.out.later hb)
              replace HC6 := Lib.hid (row_later hb HC6.out)
              replace HXr := Lib.hid (row_later hb HXr.out)
              replace BW := Lib.hid (below_step BW.out (Nat.le_refl _) hb)
              clear hr1 ht1 hb
              obtain ⟨s1, c1, hs1, -⟩ := R1.out
              obtain ⟨s2, c2, hs2, -⟩ := T1.out
              obtain ⟨s3, c3, hs3, -⟩ := R2.out
              obtain ⟨s4, c4, hs4, -⟩ := T2.out
              have hkl := HK1.out
              have SEG := Lib.hid (fun (W : World) (hb : Below w11.heap.size w11 W) => (segments_law v1 v3 v2 v4 _ _ _ _ W (R1.out.later hb) (R2.out.later hb) (T1.out.on hb) (T2.out.on hb) (by simp) (by simp) (by rw [List.length_map]; omega)).mono fun e w' h => (show e = .returned (.bool true) ∧ Below W.heap.size W w' from ⟨by rw [h.1, decide_eq_true ⟨rfl, rfl⟩], h.2⟩))
              have CK1 := Lib.hid (fun (W : World) (hb : Below w11.heap.size w11 W) => check_any _ l W (SV.out.later hb) HOK.out (by omega) (by omega))
              have CK2 := Lib.hid (fun (W : World) (hb : Below w11.heap.size w11 W) => check_any _ (bareP l) W (OL.out.later hb) HLK.out.to.ok (by omega) (by have := HK2.out; omega))
              rw [← HLK.out.check] at CK1
              have HCL := Lib.hid (check_len (l := bareP l) (by omega))
              have pz := lt_of_block HC6.out
              have p0 := cell_of_row w11 _ 0 _ _ _ HC6.out
              simp only [List.getElem?_toArray, List.getElem?_cons_zero] at p0
              have qz := lt_of_block HXr.out
              have q0 := cell_of_row w11 _ 0 _ _ _ HXr.out
              simp only [List.getElem?_toArray, List.getElem?_cons_zero] at q0
              clear hs1 hs2 hs3 hs4
              go_wp2_with fail
              go_region_held3 (fun w' => w'.cell? ⟨B6, 0, none⟩ = some (.slice av M.length cv) ∧ w'.cell? ⟨w.heap.size, 0, none⟩ = some (.slice a j cap) ∧ Below w11.heap.size w11 w')
                (first
                  | exact ⟨p0, q0, (Below.refl _ _).drew⟩
                  | (have hq := ‹_ ∧ _ ∧ Below w11.heap.size w11 _›; exact ⟨cell_later hb hq.1, cell_later hb hq.2.1, below_step hq.2.2 (Nat.le_refl _) hb⟩)
                  | assumption)
                (first
                  | (go_at_call 14; refine (SEG.out _ (‹_ ∧ _ ∧ Below w11.heap.size w11 _›).2.2).mono ?_; rintro e wa ⟨rfl, hb⟩)
                  | (go_at_call 16; (with_reducible refine (CK1.out _ (‹_ ∧ _ ∧ Below w11.heap.size w11 _›).2.2).mono ?_); rintro e wb ⟨vb, rfl, hvb, hb⟩)
                  | (go_at_call 16; refine (CK2.out _ (‹_ ∧ _ ∧ Below w11.heap.size w11 _›).2.2).mono ?_; rintro e wd ⟨vd, rfl, hvd, hb⟩; have hvbd := hvb.later hb)
                  | (go_at_call 15; refine (rsame_any _ _ _ _ _ hvbd hvd (by have := HCL.out; omega)).mono ?_; rintro e we ⟨rfl, hb⟩; rw [decide_eq_true rfl]))
              have BF := below_step BW.out (Nat.le_refl _) (‹_ ∧ _ ∧ Below w11.heap.size w11 _›).2.2
              go_wp2
              go_ret
              exact ⟨rfl, BF⟩
end Go.Proofs.YtbkomdinchiffaaGreat
