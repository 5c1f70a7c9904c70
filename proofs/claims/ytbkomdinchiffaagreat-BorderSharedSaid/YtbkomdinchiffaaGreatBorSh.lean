/- BorderShared: the walk. -/
import Derived.Test.YtbkomdinchiffaaGreatBorRHM
import Derived.Test.YtbkomdinchiffaaGreatBorPC
import Derived.Test.YtbkomdinchiffaaGreatBorPD
namespace Go.Proofs.YtbkomdinchiffaaGreat
open Go.RowKit Go.Sort Go.Maps Go.ChangeMaps

theorem u8_nat {n : Int} (h : (Lit.int .u8 n).wf = true) : ∃ m : Nat, n = m ∧ m < 256 := by
  have h0 : IntKind.u8.min = 0 := rfl
  have h1 : IntKind.u8.max = 255 := rfl
  simp only [Lit.wf, h0, h1, Bool.and_eq_true, decide_eq_true_eq] at h
  exact ⟨n.toNat, by omega, by omega⟩
theorem find_none {id : ByteArray} {l : List ObjD} (h : ¬ 0 ≤ findI id l) : posO id l = none := by
  unfold findI at h
  cases hp : posO id l with
  | none => rfl
  | some i => rw [hp] at h; exact absurd (Int.natCast_nonneg i) h
/-- No object up to a place refers to a name. -/
def NoRef (id : ByteArray) (l : List ObjD) (k : Nat) : Prop := ∀ o ∈ l.take k, id ∉ o.refs
theorem NoRef.zero (id : ByteArray) (l : List ObjD) : NoRef id l 0 := fun o ho => by simp at ho
theorem NoRef.next {id : ByteArray} {l : List ObjD} {k : Nat} {o : ObjD} (h : NoRef id l k) (ho : l[k]? = some o) (hr : ∀ s ∈ o.refs, s ≠ id) : NoRef id l (k + 1) := fun x hx => by
  obtain ⟨hk, e⟩ := List.getElem?_eq_some_iff.1 ho
  rw [List.take_succ_eq_append_getElem hk, e] at hx
  rcases List.mem_append.1 hx with hx | hx
  · exact h x hx
  · rw [List.mem_singleton.1 hx]; exact fun hm => hr id hm rfl
theorem bytes_ne {x y : ByteArray} (h : ¬ x = y) : (x.toList == y.toList) = false := by
  rw [ByteArray.toList_eq, ByteArray.toList_eq]
  exact beq_false_of_ne (fun e => h (ByteArray.ext (Array.toList_inj.mp e)))
set_option maxRecDepth 100000 in
set_option maxHeartbeats 4000000 in
theorem shared_law (v : Value) (l : List ObjD) (raw : Int) (id : ByteArray) (w : World) (hv : ObjsIs w v l) (hr0 : 0 ≤ raw) (hr1 : raw ≤ 255) :
    Calls Tryz.prog 8 #[.agg #[v], .int .u8 raw, .string id] w fun e w' => e = .returned (.bool true) ∧ Below w.heap.size w w' := by
  have mixed : Tryz.prog.follows .mixedOrders = true := by kernel_rfl
  have HV := Lib.hid hv
  obtain ⟨L, hL, hLm, hLo⟩ := objs_row hv
  have HLO := Lib.hid hLo
  have HLM := Lib.hid hLm
  obtain ⟨a, cap, rfl, hc⟩ := hL
  have HC := Lib.hid hc
  obtain ⟨N, hN⟩ : ∃ N, L.length = N := ⟨_, rfl⟩
  rw [hN] at HC HV ⊢
  have HN := Lib.hid hN
  have HLN := Lib.hid (show l.length = N by rw [← hLm, List.length_map, hN])
  clear hv hLo hLm hc hN
  go_enter Tryz.func8, Tryz.ntmps8
  go_wp2_with fail
  have BX : Below w.heap.size w (w.alloc (.cells #[.slice a N cap] 24)) := (by repeat' (first | exact Below.refl _ _ | refine Below.drew ?_ | refine Below.drewN' ?_ | refine Below.setCell ?_ (by first | omega | (simp; done) | exact Below.size (by assumption) | (simp; omega)) _ | refine Below.alloc ?_ (by first | omega | (simp; done) | exact Below.size (by assumption) | (simp; omega)) _ | refine Below.trans ?_ (Below.mono (by assumption) ?_) | (first | omega | (simp; done) | exact Below.size (by assumption) | (simp; omega))))
  have HX := row_new w (.cells #[.slice a N cap] 24)
  generalize hw1 : w.alloc (.cells #[.slice a N cap] 24) = w1
  rw [hw1] at BX HX
  have HX1 := Lib.hid HX
  have hz1 : w.heap.size < w1.heap.size := lt_of_block HX
  obtain ⟨Bm, hBm⟩ : ∃ z, z = w.heap.size := ⟨_, rfl⟩
  rw [← hBm] at HX1 hz1 ⊢
  have hBw : w.heap.size ≤ Bm := by omega
  clear hw1 HX hBm
  refine (head_any _).mono ?_
  rintro e w2 ⟨rfl, hb⟩
  have B2 := below_step BX (Nat.le_refl _) hb
  replace HX1 := Lib.hid (row_later hb HX1.out)
  have hz2 := hb.size
  clear hb BX
  have pz := lt_of_block HX1.out
  have p0 := cell_of_row w2 _ 0 _ _ _ HX1.out
  simp only [List.getElem?_toArray, List.getElem?_cons_zero] at p0
  go_wp2_with fail
  clear p0 pz
  refine (few13_any _ l 24 (by omega) _ (HV.out.later B2)).mono ?_
  rintro e w3 ⟨⟨r, rfl, hr⟩, hb⟩
  have B3 := below_step B2 (Nat.le_refl _) hb
  replace HX1 := Lib.hid (row_later hb HX1.out)
  have hz3 := hb.size
  clear hb B2
  cases r with
  | false =>
    go_wp2
    go_ret
    exact ⟨rfl, B3⟩
  | true =>
    obtain ⟨hl24, hr12⟩ := hr rfl
    have HR12 := Lib.hid hr12
    clear hr12
    clear hr
    have pz := lt_of_block HX1.out
    have p0 := cell_of_row w3 _ 0 _ _ _ HX1.out
    simp only [List.getElem?_toArray, List.getElem?_cons_zero] at p0
    go_wp2_with fail
    clear p0 pz
    refine (validM_any _ l _ (HV.out.later B3)).mono ?_
    rintro e w4 ⟨rfl, hb⟩
    have B4 := below_step B3 (Nat.le_refl _) hb
    replace HX1 := Lib.hid (row_later hb HX1.out)
    have hz4 := hb.size
    clear hb B3
    cases hok : mapOK l with
    | false =>
      go_wp2
      go_ret
      exact ⟨rfl, B4⟩
    | true =>
      have HOK := Lib.hid hok
      clear hok
      have hN24 : N ≤ 24 := by rw [← HLN.out]; exact hl24
      have pz := lt_of_block HX1.out
      have p0 := cell_of_row w4 _ 0 _ _ _ HX1.out
      simp only [List.getElem?_toArray, List.getElem?_cons_zero] at p0
      by_cases hN0 : N = 0
      · subst hN0
        go_wp2
        go_ret
        exact ⟨rfl, B4⟩
      · have hn1 : ¬ (N : Int) = 0 := by omega
        have hn2 : ((N : Int) == 0) = false := by rw [beq_eq_false_iff_ne]; omega
        by_cases hil : 24 < id.size
        · have hi1 : (24 : Int) < (id.size : Int) := by omega
          go_wp2
          go_ret
          exact ⟨rfl, B4⟩
        · have hi1 : ¬ (24 : Int) < (id.size : Int) := by omega
          go_wp2_with fail
          clear p0 pz
          refine (findO_any _ l id _ (HV.out.later B4) (by omega)).mono ?_
          rintro e w5 ⟨rfl, hb⟩
          have B5 := below_step B4 (Nat.le_refl _) hb
          replace HX1 := Lib.hid (row_later hb HX1.out)
          have hz5 := hb.size
          clear hb B4
          by_cases hf : 0 ≤ findI id l
          · generalize findI id l = fi at hf ⊢
            go_wp2
            go_ret
            exact ⟨rfl, B5⟩
          · have HNO := Lib.hid (find_none hf)
            generalize findI id l = fi at hf ⊢
            obtain ⟨k, hk⟩ : ∃ k : Nat, (k : Int) = raw.tmod N := ⟨(raw.tmod N).toNat, by have := Int.tmod_nonneg (a := raw) (N : Int) hr0; omega⟩
            have hkN : k < N := by have := Int.tmod_lt_of_pos raw (show (0 : Int) < (N : Int) by omega); omega
            obtain ⟨x, hx⟩ : ∃ x, L[k]? = some x := ⟨L[k]'(by rw [HN.out]; exact hkN), List.getElem?_eq_getElem _⟩
            have hlk : l[k]? = some x.1 := by rw [← HLM.out, List.getElem?_map, hx]; rfl
            have HXO := Lib.hid (HLO.out x (List.mem_of_getElem? hx))
            obtain ⟨b, off, ha, hcell⟩ := HC.out (by omega)
            subst ha
            have d0' := cell_later B5 (hcell k x hx 0 _ rfl)
            have d0 : w5.cell? ⟨b, off + k * 6, none⟩ = some (.string x.1.id) := d0'
            have d1 := cell_later B5 (hcell k x hx 1 _ rfl)
            have d2 := cell_later B5 (hcell k x hx 2 _ rfl)
            have d3 := cell_later B5 (hcell k x hx 3 _ rfl)
            have d4 := cell_later B5 (hcell k x hx 4 _ rfl)
            have d5 := cell_later B5 (hcell k x hx 5 _ rfl)
            have bz := lt_of_cell d0
            have HLK := Lib.hid hlk
            obtain ⟨⟨oid, kd, ox, oy, refs, tags⟩, vr, vt⟩ := x
            simp only [] at d0 d1 d2 d3 d4 d5 HXO HLK
            have hxo := HXO.out
            obtain ⟨⟨ar, capr, evr, _⟩, ⟨at1, capt, evt, _⟩, _⟩ := hxo
            simp only [] at evr evt
            subst evr evt
            clear d0' hcell hx hlk
            have pz := lt_of_block HX1.out
            have p0 := cell_of_row w5 _ 0 _ _ _ HX1.out
            simp only [List.getElem?_toArray, List.getElem?_cons_zero] at p0
            have wr0 : IntKind.i64.wrap raw = raw := IntWalk.i64_in _ (by omega)
            go_wp2_with fail
            have hk3 := hk.symm
            have hnw : IntKind.i64.wrap (k : Int) = (k : Int) := IntWalk.i64_in _ (by omega)
            have hk0 : (0 : Int) ≤ (k : Int) := by omega
            have hk2 : (k : Int) < (N : Int) := by omega
            clear hk
            go_region
            go_wp2_with fail
            have BY : Below w5.heap.size w5 ((w5.alloc (.cells #[.string oid, .int .i64 kd, .int .i64 ox, .int .i64 oy, .slice ar refs.length capr, .slice at1 tags.length capt] 59)).alloc (.cells #[.string id, .int .i64 kd, .int .i64 ox, .int .i64 oy, .slice ar refs.length capr, .slice at1 tags.length capt] 59)).drew := (((Below.refl _ _).alloc (Nat.le_refl _) _).alloc (by simp) _).drew
            have HY : (((w5.alloc (.cells #[.string oid, .int .i64 kd, .int .i64 ox, .int .i64 oy, .slice ar refs.length capr, .slice at1 tags.length capt] 59)).alloc (.cells #[.string id, .int .i64 kd, .int .i64 ox, .int .i64 oy, .slice ar refs.length capr, .slice at1 tags.length capt] 59)).drew).heap[w5.heap.size]? = some (.cells #[.string oid, .int .i64 kd, .int .i64 ox, .int .i64 oy, .slice ar refs.length capr, .slice at1 tags.length capt] 59) := row_past (row_new w5 (.cells #[.string oid, .int .i64 kd, .int .i64 ox, .int .i64 oy, .slice ar refs.length capr, .slice at1 tags.length capt] 59))
            generalize hw6 : ((w5.alloc (.cells #[.string oid, .int .i64 kd, .int .i64 ox, .int .i64 oy, .slice ar refs.length capr, .slice at1 tags.length capt] 59)).alloc (.cells #[.string id, .int .i64 kd, .int .i64 ox, .int .i64 oy, .slice ar refs.length capr, .slice at1 tags.length capt] 59)).drew = w6
            rw [hw6] at BY HY
            obtain ⟨Bo, hBo⟩ : ∃ z, z = w5.heap.size := ⟨_, rfl⟩
            rw [← hBo] at HY ⊢
            have HYO := Lib.hid HY
            have hBo5 : w5.heap.size ≤ Bo := by omega
            have hBo6 : Bo < w6.heap.size := lt_of_block HY
            have B6 := below_step B5 (Nat.le_refl _) BY
            replace HX1 := Lib.hid (row_later BY HX1.out)
            have hz6 := BY.size
            clear hw6 HY hBo d0 d1 d2 d3 d4 d5 bz
            clear p0 pz
            have HO6 := Lib.hid (show ObOK w6 (⟨id, kd, ox, oy, refs, tags⟩, .slice ar refs.length capr, .slice at1 tags.length capt) from ⟨HXO.out.1.later B6, HXO.out.2.1.later B6, (by show id.size ≤ _; omega)⟩)
            have hN1 := HLN.out
            refine (put_any _ l ⟨id, kd, ox, oy, refs, tags⟩ _ _ _ (HV.out.later B6) HOK.out (by omega) HNO.out HO6.out).mono ?_
            rintro e w7 ⟨hpp, hb⟩
            have B7 := below_step B6 (Nat.le_refl _) hb
            replace HX1 := Lib.hid (row_later hb HX1.out)
            replace HYO := Lib.hid (row_later hb HYO.out)
            have hz7 := hb.size
            clear hb B6 BY HO6
            rcases hpp with ⟨hob, rfl⟩ | ⟨hob, v8, pi, rfl, hpl, hv8⟩
            · clear hob
              go_wp2
              go_ret
              exact ⟨rfl, (by repeat' (first | exact Below.refl _ _ | refine Below.drew ?_ | refine Below.drewN' ?_ | refine Below.setCell ?_ (by first | omega | (simp; done) | exact Below.size (by assumption) | (simp; omega)) _ | refine Below.alloc ?_ (by first | omega | (simp; done) | exact Below.size (by assumption) | (simp; omega)) _ | refine Below.trans ?_ (Below.mono (by assumption) ?_) | (first | omega | (simp; done) | exact Below.size (by assumption) | (simp; omega))))⟩
            · have HOB := Lib.hid hob
              have HPL := Lib.hid hpl
              have HV8 := Lib.hid hv8
              obtain ⟨a8, c8, rfl, _⟩ := hv8
              obtain ⟨n8, hn8⟩ : ∃ z, z = (insO ⟨id, kd, ox, oy, refs, tags⟩ pi l).length := ⟨_, rfl⟩
              rw [← hn8] at HV8 ⊢
              clear hn8
              clear hob hpl
              have qz := lt_of_block HYO.out
              have q0 := cell_of_row w7 _ 0 _ _ _ HYO.out
              have q1 := cell_of_row w7 _ 1 _ _ _ HYO.out
              have q2 := cell_of_row w7 _ 2 _ _ _ HYO.out
              have q3 := cell_of_row w7 _ 3 _ _ _ HYO.out
              have q4 := cell_of_row w7 _ 4 _ _ _ HYO.out
              have q5 := cell_of_row w7 _ 5 _ _ _ HYO.out
              simp only [List.getElem?_toArray, List.getElem?_cons_zero, List.getElem?_cons_succ] at q0 q1 q2 q3 q4 q5
              by_cases hkd : kd = 2 ∨ kd = 3
              · have HKD := Lib.hid hkd
                rcases hkd with k2 | k3
                · have k1 : (kd != 2) = false := by rw [k2]; rfl
                  clear k2
                  go_wp2_with fail
                  have BZ : Below w7.heap.size w7 (w7.alloc (.cells #[.slice a8 n8 c8] 24)) := (Below.refl _ _).alloc (Nat.le_refl _) _
                  have HZ := row_new w7 (.cells #[.slice a8 n8 c8] 24)
                  generalize hw8 : w7.alloc (.cells #[.slice a8 n8 c8] 24) = w8
                  rw [hw8] at BZ HZ
                  obtain ⟨Bk, hBk⟩ : ∃ z, z = w7.heap.size := ⟨_, rfl⟩
                  rw [← hBk] at HZ ⊢
                  have HZO := Lib.hid HZ
                  have B8 := below_step B7 (Nat.le_refl _) BZ
                  replace HX1 := Lib.hid (row_later BZ HX1.out)
                  replace HYO := Lib.hid (row_later BZ HYO.out)
                  replace HV8 := Lib.hid (HV8.out.later BZ)
                  clear q0 q1 q2 q3 q4 q5 qz
                  clear hw8 HZ BZ B7 hBk k1
                  go_loopw [12] (fun i wr => ∃ k : Nat, i = .int .i64 k ∧ k ≤ N ∧ Hid (NoRef id l k) ∧ Below w8.heap.size w8 wr) (fun i _ => N - (intOf i).toNat)
                  case atStart => exact ⟨0, rfl, by omega, Lib.hid (NoRef.zero id l), Below.refl _ _⟩
                  case round =>
                    obtain ⟨m, rfl, hm, HNR, hbr⟩ := hrel
                    have BR := below_step B8 (Nat.le_refl _) hbr
                    have HXr := Lib.hid (row_later hbr HX1.out)
                    by_cases hlt : m < N
                    · obtain ⟨y, hy⟩ : ∃ y, L[m]? = some y := ⟨L[m]'(by rw [HN.out]; exact hlt), List.getElem?_eq_getElem _⟩
                      obtain ⟨b2, off2, ha, hcell⟩ := HC.out (by omega)
                      injection ha with ha
                      injection ha with e1 e2
                      subst e1 e2
                      have hlm : l[m]? = some y.1 := by rw [← HLM.out, List.getElem?_map, hy]; rfl
                      have HNX := Lib.hid (fun hr => HNR.out.next hlm hr)
                      obtain ⟨⟨yr, yc, er, hrl, hrz, hrc⟩, -, -⟩ := HLO.out y (List.mem_of_getElem? hy)
                      have D4 := Lib.hid (fun (W : World) (hb : Below w.heap.size w W) => cell_later hb (hcell m y hy 4 _ rfl))
                      have d4 := D4.out _ BR
                      obtain ⟨⟨yid, ykd, yx, yy, yrefs, ytags⟩, vr, vt⟩ := y
                      simp only [] at er hrl hrz hrc D4 d4 HNX
                      subst er
                      have HRC := Lib.hid hrc
                      have bz := lt_of_cell d4
                      have pz := lt_of_block HXr.out
                      have p0 := cell_of_row wr _ 0 _ _ _ HXr.out
                      simp only [List.getElem?_toArray, List.getElem?_cons_zero] at p0
                      clear hcell hy hlm hrc hrz HNR
                      go_wp2_with fail
                      clear d4 bz
                      clear p0 pz
                      obtain ⟨wo, rfl⟩ : ∃ z : World, z = wr := ⟨_, rfl⟩
                      go_loopw [13] (fun i wr => ∃ j : Nat, i = .int .i64 j ∧ j ≤ yrefs.length ∧ Hid (∀ s ∈ yrefs.take j, s ≠ id) ∧ Below w8.heap.size w8 wr) (fun i _ => yrefs.length - (intOf i).toNat)
                      case atStart => exact ⟨0, rfl, by omega, Lib.hid (fun s hs => by simp at hs), hbr⟩
                      case round =>
                        clear hbr BR HXr
                        obtain ⟨j, rfl, hj, HRF, hbr⟩ := hrel
                        have BR := below_step B8 (Nat.le_refl _) hbr
                        have HXr := Lib.hid (row_later hbr HX1.out)
                        have d4 := D4.out _ BR
                        have bz := lt_of_cell d4
                        have pz := lt_of_block HXr.out
                        have p0 := cell_of_row wr _ 0 _ _ _ HXr.out
                        simp only [List.getElem?_toArray, List.getElem?_cons_zero] at p0
                        by_cases hlj : j < yrefs.length
                        · obtain ⟨s, hs⟩ : ∃ s, yrefs[j]? = some s := ⟨yrefs[j]'hlj, List.getElem?_eq_getElem _⟩
                          obtain ⟨br, offr, har, hcr⟩ := HRC.out (by omega)
                          subst har
                          have v0 := cell_later BR (hcr j s hs)
                          have vz := lt_of_cell v0
                          by_cases hse : s = id
                          · subst hse
                            clear hcr hs
                            go_wp2
                            go_ret
                            exact ⟨rfl, BR⟩
                          · have HR2 := Lib.hid (show ∀ t ∈ yrefs.take (j + 1), t ≠ id by
                              obtain ⟨hk', e⟩ := List.getElem?_eq_some_iff.1 hs
                              rw [List.take_succ_eq_append_getElem hk', e]
                              intro t ht
                              rcases List.mem_append.1 ht with ht | ht
                              · exact HRF.out t ht
                              · rw [List.mem_singleton.1 ht]; exact hse)
                            have n1 := bytes_ne hse
                            clear hcr hs HRF hse
                            go_wp2
                            go_roundw
                            case rel => exact ⟨j + 1, by go_num, by omega, HR2, hbr⟩
                            case measure => simp [intOf]; omega
                        · obtain rfl : j = yrefs.length := by omega
                          have HN2 := Lib.hid (HNX.out (fun s hs => HRF.out s (by rw [List.take_length]; exact hs)))
                          go_wp2
                          go_roundw
                          case rel => exact ⟨m + 1, by go_num, by omega, HN2, hbr⟩
                          case measure => simp [intOf]; omega
                    · obtain rfl : m = N := by omega
                      have pz := lt_of_block HXr.out
                      have p0 := cell_of_row wr _ 0 _ _ _ HXr.out
                      simp only [List.getElem?_toArray, List.getElem?_cons_zero] at p0
                      go_wp2_with fail
                      have HREF := Lib.hid (show ∀ x ∈ l, id ∉ x.refs from fun x hx => HNR.out x (by rw [List.take_of_length_le (by rw [HLN.out]; exact Nat.le_refl _)]; exact hx))
                      obtain ⟨lm, hlm⟩ : ∃ z, z = insO ⟨id, kd, ox, oy, refs, tags⟩ pi l := ⟨_, rfl⟩
                      have HMM := Lib.hid (show MoreM l lm ⟨id, kd, ox, oy, refs, tags⟩ from ⟨HOK.out, by rw [hlm]; exact ins_ok HOB.out HOK.out HPL.out (posO_none _ _ HNO.out) (by rw [HLN.out]; omega), fun x => by rw [hlm]; exact ins_mem x, HREF.out, (show id ∉ refs from HREF.out _ (List.mem_of_getElem? HLK.out))⟩)
                      have HLML := Lib.hid (show lm.length ≤ 25 by rw [hlm]; unfold insO; rw [List.length_append, List.length_cons, List.length_take, List.length_drop, HLN.out]; omega)
                      have HXL := Lib.hid (List.mem_of_getElem? HLK.out)
                      have HK1 := Lib.hid (keys_lenR 12 HR12.out)
                      have HKY := Lib.hid (shared_keys HMM.out HXL.out rfl rfl)
                      have HSG := Lib.hid (shared_segs HMM.out HXL.out rfl rfl)
                      have HIF := Lib.hid (fun kk (hk : kk ∈ keysP l) => (show id ∈ ownF lm lm kk ↔ oid ∈ ownF l l kk by
                        rcases HKY.out.2 kk hk with h | ⟨y, hy, e⟩
                        · exact h
                        · exact absurd e (posO_none _ _ HNO.out y hy)))
                      have SV := Lib.hid (HV.out.later BR)
                      have BW := Lib.hid BR
                      have HZr := Lib.hid (row_later hbr HZO.out)
                      have HYr := Lib.hid (row_later hbr HYO.out)
                      have OL := Lib.hid (HV8.out.later hbr)
                      rw [← hlm] at OL
                      clear hlm BR HNR hbr
                      refine (segments_any _ l _ SV.out HOK.out).mono ?_
                      rintro e w9 ⟨v1, v2, rfl, hr1, ht1, hb⟩
                      have R1 := Lib.hid hr1
                      have T1 := Lib.hid ht1
                      replace SV := Lib.hid (SV.out.later hb)
                      replace OL := Lib.hid (OL.out.later hb)
                      replace HZr := Lib.hid (row_later hb HZr.out)
                      replace HYr := Lib.hid (row_later hb HYr.out)
                      replace HXr := Lib.hid (row_later hb HXr.out)
                      replace BW := Lib.hid (below_step BW.out (Nat.le_refl _) hb)
                      clear p0 pz
                      clear hr1 ht1 hb
                      have pz := lt_of_block HZr.out
                      have p0 := cell_of_row w9 _ 0 _ _ _ HZr.out
                      simp only [List.getElem?_toArray, List.getElem?_cons_zero] at p0
                      go_wp2_with fail
                      clear p0 pz
                      refine (segments_any _ lm _ OL.out HMM.out.2.1).mono ?_
                      rintro e w10 ⟨v3, v4, rfl, hr1, ht1, hb⟩
                      rw [HSG.out] at hr1
                      rw [HKY.out.1] at ht1
                      have R2 := Lib.hid hr1
                      have T2 := Lib.hid ht1
                      replace R1 := Lib.hid (R1.out.later hb)
                      replace T1 := Lib.hid (T1.out.on hb)
                      replace SV := Lib.hid (SV.out.later hb)
                      replace OL := Lib.hid (OL.out.later hb)
                      replace HZr := Lib.hid (row_later hb HZr.out)
                      replace HYr := Lib.hid (row_later hb HYr.out)
                      replace HXr := Lib.hid (row_later hb HXr.out)
                      replace BW := Lib.hid (below_step BW.out (Nat.le_refl _) hb)
                      clear hr1 ht1 hb
                      obtain ⟨sa, ca, rfl, hca⟩ := R1.out
                      obtain ⟨sb, cb, rfl, hcb⟩ := R2.out
                      obtain ⟨sx, cx, rfl, hcx⟩ := texts_get T1.out
                      obtain ⟨sy, cy, rfl, hcy⟩ := texts_get T2.out
                      obtain ⟨K, hK⟩ : ∃ K, (keysP l).length = K := ⟨_, rfl⟩
                      have hK3 : K ≤ 300 := by have := HK1.out; have := HLN.out; omega
                      simp only [List.length_map, hK] at hca hcb hcx hcy ⊢
                      have HKK := Lib.hid hK
                      have HCA := Lib.hid hca
                      have HCB := Lib.hid hcb
                      have HCX := Lib.hid hcx
                      have HCY := Lib.hid hcy
                      clear hca hcb hcx hcy hK R1 T1 R2 T2
                      go_wp2_with fail
                      go_loopw [18] (fun i wr => ∃ r : Nat, i = .int .i64 r ∧ r ≤ K ∧ Below w10.heap.size w10 wr) (fun i _ => K - (intOf i).toNat)
                      case atStart => exact ⟨0, rfl, by omega, Below.refl _ _⟩
                      case round =>
                        obtain ⟨r, rfl, hr, hbr⟩ := hrel
                        by_cases hlr : r < K
                        · obtain ⟨kk, hkk⟩ : ∃ kk, (keysP l)[r]? = some kk := ⟨(keysP l)[r]'(by rw [HKK.out]; exact hlr), List.getElem?_eq_getElem _⟩
                          have HIK := Lib.hid (HIF.out kk (List.mem_of_getElem? hkk))
                          obtain ⟨ba, oa, hxa, ga⟩ := HCA.out (by omega)
                          subst hxa
                          obtain ⟨bb, ob, hxb, gb⟩ := HCB.out (by omega)
                          subst hxb
                          obtain ⟨bx, ox', hxx, gx⟩ := HCX.out (by omega)
                          subst hxx
                          obtain ⟨by', oy', hxy, gy⟩ := HCY.out (by omega)
                          subst hxy
                          have hs : ((keysP l).map (segB l))[r]? = some (segB l kk) := by rw [List.getElem?_map, hkk]; rfl
                          obtain ⟨vx, cxr, ⟨ax, capx, evx, hxl, hxz, hxc⟩⟩ := gx r (ownF l l kk) (by rw [List.getElem?_map, hkk]; rfl)
                          obtain ⟨vy, cyr, ⟨ay, capy, evy, hyl, hyz, hyc⟩⟩ := gy r (ownF lm lm kk) (by rw [List.getElem?_map, hkk]; rfl)
                          subst evx evy
                          obtain ⟨xl, hxe⟩ : ∃ z, z = ownF l l kk := ⟨_, rfl⟩
                          obtain ⟨yl, hye⟩ : ∃ z, z = ownF lm lm kk := ⟨_, rfl⟩
                          rw [← hxe] at cxr hxl hxc
                          rw [← hye] at cyr hyl hyc
                          rw [← hxe, ← hye] at HIK
                          have CX := Lib.hid (fun W (hb : Below w10.heap.size w10 W) => cell_later hb cxr)
                          have CY := Lib.hid (fun W (hb : Below w10.heap.size w10 W) => cell_later hb cyr)
                          have SX := Lib.hid hxc
                          have SY := Lib.hid hyc
                          have q0' := cell_belowBy (cell_later hbr (ga r _ hs 0 _ rfl))
                          have q0 := q0'
                          rw [Nat.add_zero] at q0
                          have q1 := cell_belowBy (cell_later hbr (ga r _ hs 1 _ rfl))
                          have q2 := cell_belowBy (cell_later hbr (ga r _ hs 2 _ rfl))
                          have q3 := cell_belowBy (cell_later hbr (ga r _ hs 3 _ rfl))
                          have r0' := cell_belowBy (cell_later hbr (gb r _ hs 0 _ rfl))
                          have r0 := r0'
                          rw [Nat.add_zero] at r0
                          have r1 := cell_belowBy (cell_later hbr (gb r _ hs 1 _ rfl))
                          have r2 := cell_belowBy (cell_later hbr (gb r _ hs 2 _ rfl))
                          have r3 := cell_belowBy (cell_later hbr (gb r _ hs 3 _ rfl))
                          have z1 := lt_of_cell (cell_later hbr (ga r _ hs 0 _ rfl))
                          have z2 := lt_of_cell (cell_later hbr (gb r _ hs 0 _ rfl))
                          have nq := neq_seg (segB l kk) (segB l kk)
                          rw [decide_eq_true rfl] at nq
                          generalize segB l kk = sg at q0 q1 q2 q3 r0 r1 r2 r3 nq
                          obtain ⟨⟨g1, g2⟩, ⟨g3, g4⟩⟩ := sg
                          simp only [] at q0 q1 q2 q3 r0 r1 r2 r3 nq
                          clear ga gb gx gy hs hkk hxe hye cxr cyr hxc hyc hxz hyz q0' r0'
                          go_wp2_with fail
                          refine wp_region_quiet_below mixed (by kernel_rfl) ?_
                          repeat (go_big_quiet_step (fail))
                          refine wpQuiet_nil ?_
                          intro w8 hw'
                          obtain ⟨⟨wq, hbq⟩, hw''⟩ := hw'
                          subst hw''
                          clear q0 q1 q2 q3 r0 r1 r2 r3 nq z1 z2
                          have B3 := hbr.trans (hbq.mono hbr.size)
                          clear hbq
                          go_wp2_with fail
                          have hsx : xl.length ≤ 140737488355328 := hxl
                          have hsy : yl.length ≤ 140737488355328 := hyl
                          go_loopw [19, 21] (fun v19 v21 wr => ∃ j : Nat, v21 = .int .i64 j ∧ j ≤ xl.length ∧ v19 = .bool (decide (oid ∈ xl.take j)) ∧ Below w10.heap.size w10 wr) (fun _ i _ => xl.length - (intOf i).toNat)
                          case atStart => exact ⟨0, rfl, by omega, rfl, B3⟩
                          case round =>
                            obtain ⟨j, rfl, hj, rfl, hbj⟩ := hrel
                            by_cases hlj : j < (xl).length
                            · obtain ⟨s, hs⟩ : ∃ s, (xl)[j]? = some s := ⟨(xl)[j]'hlj, List.getElem?_eq_getElem _⟩
                              obtain ⟨br, offr, har, hcr⟩ := (SX).out (by omega)
                              subst har
                              have HST := Lib.hid (show decide (oid ∈ (xl).take (j + 1)) = (decide (oid ∈ (xl).take j) || decide (s = oid)) by
                                obtain ⟨hk', e⟩ := List.getElem?_eq_some_iff.1 hs
                                rw [List.take_succ_eq_append_getElem hk', e, Bool.eq_iff_iff]
                                simp only [decide_eq_true_eq, List.mem_append, List.mem_singleton, Bool.or_eq_true]
                                rw [eq_comm (a := oid)])
                              have c0 := (CX).out _ hbj
                              have cz := lt_of_cell c0
                              have q0 := cell_belowBy c0
                              have q1 := cell_belowBy (cell_later hbj (hcr j s hs))
                              have c1 := cell_later hbj (hcr j s hs)
                              have z1 := lt_of_cell c1
                              have hj0 : (0 : Int) ≤ (j : Int) := by omega
                              have hj1 : (j : Int) < ((xl).length : Int) := by omega
                              obtain ⟨cur, hcur⟩ : ∃ z, z = decide (oid ∈ (xl).take j) := ⟨_, rfl⟩
                              rw [← hcur] at HST ⊢
                              clear hcur hcr hs
                              have e2 := cell_of_row _ _ 0 _ _ _ (row_later hbj HYr.out)
                              have z2 := lt_of_block (row_later hbj HYr.out)
                              simp only [List.getElem?_toArray, List.getElem?_cons_zero] at e2
                              have q2 := cell_belowBy e2
                              clear e2
                              cases cur with
                              | true =>
                                go_wp2_with fail
                                refine wp_region_quiet_below mixed (by kernel_rfl) ?_
                                repeat (go_big_quiet_step (fail))
                                refine wpQuiet_nil ?_
                                intro w8 hw'
                                obtain ⟨⟨wq, hbq⟩, hw''⟩ := hw'
                                subst hw''
                                clear q0 q1 q2 c0 c1
                                go_wp2
                                go_roundw
                                case rel => exact ⟨j + 1, by go_num, by omega, by rw [HST.out] <;> rfl, hbj.trans (hbq.mono hbj.size)⟩
                                case measure => simp [intOf]; omega
                              | false =>
                                by_cases e : s = oid
                                · rw [e] at q1 HST
                                  rw [decide_eq_true rfl] at HST
                                  clear e
                                  go_wp2_with fail
                                  refine wp_region_quiet_below mixed (by kernel_rfl) ?_
                                  repeat (go_big_quiet_step (fail))
                                  refine wpQuiet_nil ?_
                                  intro w8 hw'
                                  obtain ⟨⟨wq, hbq⟩, hw''⟩ := hw'
                                  subst hw''
                                  clear q0 q1 q2 c0 c1
                                  go_wp2
                                  go_roundw
                                  case rel => exact ⟨j + 1, by go_num, by omega, by rw [HST.out] <;> rfl, hbj.trans (hbq.mono hbj.size)⟩
                                  case measure => simp [intOf]; omega
                                · have n1 := bytes_ne e
                                  rw [decide_eq_false e] at HST
                                  clear e
                                  go_wp2_with fail
                                  refine wp_region_quiet_below mixed (by kernel_rfl) ?_
                                  repeat (go_big_quiet_step (fail))
                                  refine wpQuiet_nil ?_
                                  intro w8 hw'
                                  obtain ⟨⟨wq, hbq⟩, hw''⟩ := hw'
                                  subst hw''
                                  clear q0 q1 q2 c0 c1
                                  go_wp2
                                  go_roundw
                                  case rel => exact ⟨j + 1, by go_num, by omega, by rw [HST.out] <;> rfl, hbj.trans (hbq.mono hbj.size)⟩
                                  case measure => simp [intOf]; omega
                            · obtain rfl : j = xl.length := by omega
                              rw [List.take_length]
                              obtain ⟨dd, hdd⟩ : ∃ z, z = decide (oid ∈ xl) := ⟨_, rfl⟩
                              rw [← hdd]
                              have HDD := Lib.hid (show decide (id ∈ yl) = dd by rw [hdd, Bool.eq_iff_iff, decide_eq_true_eq, decide_eq_true_eq]; exact HIK.out)
                              clear hdd B3
                              have B3 := hbj
                              have c0 := CX.out _ hbj
                              have cz := lt_of_cell c0
                              go_wp2_with fail
                              clear c0 cz
                              go_loopw [20, 22] (fun v20 v22 wr => ∃ j : Nat, v22 = .int .i64 j ∧ j ≤ yl.length ∧ v20 = .bool (decide (id ∈ yl.take j)) ∧ Below w10.heap.size w10 wr) (fun _ i _ => yl.length - (intOf i).toNat)
                              case atStart => exact ⟨0, rfl, by omega, rfl, B3⟩
                              case round =>
                                obtain ⟨j, rfl, hj, rfl, hbj⟩ := hrel
                                by_cases hlj : j < (yl).length
                                · obtain ⟨s, hs⟩ : ∃ s, (yl)[j]? = some s := ⟨(yl)[j]'hlj, List.getElem?_eq_getElem _⟩
                                  obtain ⟨br, offr, har, hcr⟩ := (SY).out (by omega)
                                  subst har
                                  have HST := Lib.hid (show decide (id ∈ (yl).take (j + 1)) = (decide (id ∈ (yl).take j) || decide (s = id)) by
                                    obtain ⟨hk', e⟩ := List.getElem?_eq_some_iff.1 hs
                                    rw [List.take_succ_eq_append_getElem hk', e, Bool.eq_iff_iff]
                                    simp only [decide_eq_true_eq, List.mem_append, List.mem_singleton, Bool.or_eq_true]
                                    rw [eq_comm (a := id)])
                                  have c0 := (CY).out _ hbj
                                  have cz := lt_of_cell c0
                                  have q0 := cell_belowBy c0
                                  have q1 := cell_belowBy (cell_later hbj (hcr j s hs))
                                  have c1 := cell_later hbj (hcr j s hs)
                                  have z1 := lt_of_cell c1
                                  have hj0 : (0 : Int) ≤ (j : Int) := by omega
                                  have hj1 : (j : Int) < ((yl).length : Int) := by omega
                                  obtain ⟨cur, hcur⟩ : ∃ z, z = decide (id ∈ (yl).take j) := ⟨_, rfl⟩
                                  rw [← hcur] at HST ⊢
                                  clear hcur hcr hs
                                  cases cur with
                                  | true =>
                                    clear q0 q1
                                    go_wp2
                                    go_roundw
                                    case rel => exact ⟨j + 1, by go_num, by omega, by rw [HST.out] <;> rfl, hbj⟩
                                    case measure => simp [intOf]; omega
                                  | false =>
                                    by_cases e : s = id
                                    · rw [e] at c1 HST
                                      rw [decide_eq_true rfl] at HST
                                      clear e
                                      clear q0 q1
                                      go_wp2
                                      go_roundw
                                      case rel => exact ⟨j + 1, by go_num, by omega, by rw [HST.out] <;> rfl, hbj⟩
                                      case measure => simp [intOf]; omega
                                    · have n1 := bytes_ne e
                                      rw [decide_eq_false e] at HST
                                      clear e
                                      clear q0 q1
                                      go_wp2
                                      go_roundw
                                      case rel => exact ⟨j + 1, by go_num, by omega, by rw [HST.out] <;> rfl, hbj⟩
                                      case measure => simp [intOf]; omega
                                · obtain rfl : j = yl.length := by omega
                                  rw [List.take_length, HDD.out]
                                  have c0 := CY.out _ hbj
                                  have cz := lt_of_cell c0
                                  cases dd with
                                  | true =>
                                    go_wp2
                                    go_roundw
                                    case rel => exact ⟨r + 1, by go_num, by omega, hbj⟩
                                    case measure => simp [intOf]; omega
                                  | false =>
                                    go_wp2
                                    go_roundw
                                    case rel => exact ⟨r + 1, by go_num, by omega, hbj⟩
                                    case measure => simp [intOf]; omega
                        · obtain rfl : r = K := by omega
                          have SVr := Lib.hid (SV.out.later hbr)
                          have OLr := Lib.hid (OL.out.later hbr)
                          have HX9 := Lib.hid (row_later hbr HXr.out)
                          have HZ9 := Lib.hid (row_later hbr HZr.out)
                          have BF := Lib.hid (below_step BW.out (Nat.le_refl _) hbr)
                          have hln := HLN.out
                          have pz := lt_of_block HX9.out
                          have p0 := cell_of_row wr _ 0 _ _ _ HX9.out
                          simp only [List.getElem?_toArray, List.getElem?_cons_zero] at p0
                          go_wp2_with fail
                          clear p0 pz
                          refine (check_any _ l _ SVr.out HOK.out (by omega) (by rw [HKK.out]; omega)).mono ?_
                          rintro e w11 ⟨vc, rfl, hvc, hb⟩
                          obtain ⟨ac, cc, rfl, _⟩ := vios_get hvc
                          replace OLr := Lib.hid (OLr.out.later hb)
                          replace HZ9 := Lib.hid (row_later hb HZ9.out)
                          replace BF := Lib.hid (below_step BF.out (Nat.le_refl _) hb)
                          clear hb hvc
                          cases hck : checkP l with
                          | cons kx rest =>
                            have hp : (0 : Int) < ((rest.length : Nat) : Int) + 1 := by omega
                            simp only [List.length_cons]
                            go_wp2
                            go_ret
                            exact ⟨rfl, BF.out⟩
                          | nil =>
                            have HNN := Lib.hid (shared_none HMM.out HXL.out rfl rfl hck)
                            simp only [List.length_nil]
                            have pz := lt_of_block HZ9.out
                            have p0 := cell_of_row w11 _ 0 _ _ _ HZ9.out
                            simp only [List.getElem?_toArray, List.getElem?_cons_zero] at p0
                            go_wp2_with fail
                            clear p0 pz
                            refine (check_any _ lm _ OLr.out HMM.out.2.1 (by have := HLML.out; omega) (by rw [HKY.out.1, HKK.out]; omega)).mono ?_
                            rintro e w12 ⟨vd, rfl, hvd, hb⟩
                            rw [HNN.out] at hvd
                            obtain ⟨ad, cd, rfl, _⟩ := vios_get hvd
                            have BG := below_step BF.out (Nat.le_refl _) hb
                            simp only [List.length_nil]
                            clear hb hvd
                            go_wp2
                            go_ret
                            exact ⟨rfl, BG⟩
                · have k1 : (kd != 2) = true := by rw [k3]; rfl
                  have k2 : (kd != 3) = false := by rw [k3]; rfl
                  clear k3
                  go_wp2_with fail
                  have BZ : Below w7.heap.size w7 (w7.alloc (.cells #[.slice a8 n8 c8] 24)) := (Below.refl _ _).alloc (Nat.le_refl _) _
                  have HZ := row_new w7 (.cells #[.slice a8 n8 c8] 24)
                  generalize hw8 : w7.alloc (.cells #[.slice a8 n8 c8] 24) = w8
                  rw [hw8] at BZ HZ
                  obtain ⟨Bk, hBk⟩ : ∃ z, z = w7.heap.size := ⟨_, rfl⟩
                  rw [← hBk] at HZ ⊢
                  have HZO := Lib.hid HZ
                  have B8 := below_step B7 (Nat.le_refl _) BZ
                  replace HX1 := Lib.hid (row_later BZ HX1.out)
                  replace HYO := Lib.hid (row_later BZ HYO.out)
                  replace HV8 := Lib.hid (HV8.out.later BZ)
                  clear q0 q1 q2 q3 q4 q5 qz
                  clear hw8 HZ BZ B7 hBk k1
                  go_loopw [12] (fun i wr => ∃ k : Nat, i = .int .i64 k ∧ k ≤ N ∧ Hid (NoRef id l k) ∧ Below w8.heap.size w8 wr) (fun i _ => N - (intOf i).toNat)
                  case atStart => exact ⟨0, rfl, by omega, Lib.hid (NoRef.zero id l), Below.refl _ _⟩
                  case round =>
                    obtain ⟨m, rfl, hm, HNR, hbr⟩ := hrel
                    have BR := below_step B8 (Nat.le_refl _) hbr
                    have HXr := Lib.hid (row_later hbr HX1.out)
                    by_cases hlt : m < N
                    · obtain ⟨y, hy⟩ : ∃ y, L[m]? = some y := ⟨L[m]'(by rw [HN.out]; exact hlt), List.getElem?_eq_getElem _⟩
                      obtain ⟨b2, off2, ha, hcell⟩ := HC.out (by omega)
                      injection ha with ha
                      injection ha with e1 e2
                      subst e1 e2
                      have hlm : l[m]? = some y.1 := by rw [← HLM.out, List.getElem?_map, hy]; rfl
                      have HNX := Lib.hid (fun hr => HNR.out.next hlm hr)
                      obtain ⟨⟨yr, yc, er, hrl, hrz, hrc⟩, -, -⟩ := HLO.out y (List.mem_of_getElem? hy)
                      have D4 := Lib.hid (fun (W : World) (hb : Below w.heap.size w W) => cell_later hb (hcell m y hy 4 _ rfl))
                      have d4 := D4.out _ BR
                      obtain ⟨⟨yid, ykd, yx, yy, yrefs, ytags⟩, vr, vt⟩ := y
                      simp only [] at er hrl hrz hrc D4 d4 HNX
                      subst er
                      have HRC := Lib.hid hrc
                      have bz := lt_of_cell d4
                      have pz := lt_of_block HXr.out
                      have p0 := cell_of_row wr _ 0 _ _ _ HXr.out
                      simp only [List.getElem?_toArray, List.getElem?_cons_zero] at p0
                      clear hcell hy hlm hrc hrz HNR
                      go_wp2_with fail
                      clear d4 bz
                      clear p0 pz
                      obtain ⟨wo, rfl⟩ : ∃ z : World, z = wr := ⟨_, rfl⟩
                      go_loopw [13] (fun i wr => ∃ j : Nat, i = .int .i64 j ∧ j ≤ yrefs.length ∧ Hid (∀ s ∈ yrefs.take j, s ≠ id) ∧ Below w8.heap.size w8 wr) (fun i _ => yrefs.length - (intOf i).toNat)
                      case atStart => exact ⟨0, rfl, by omega, Lib.hid (fun s hs => by simp at hs), hbr⟩
                      case round =>
                        clear hbr BR HXr
                        obtain ⟨j, rfl, hj, HRF, hbr⟩ := hrel
                        have BR := below_step B8 (Nat.le_refl _) hbr
                        have HXr := Lib.hid (row_later hbr HX1.out)
                        have d4 := D4.out _ BR
                        have bz := lt_of_cell d4
                        have pz := lt_of_block HXr.out
                        have p0 := cell_of_row wr _ 0 _ _ _ HXr.out
                        simp only [List.getElem?_toArray, List.getElem?_cons_zero] at p0
                        by_cases hlj : j < yrefs.length
                        · obtain ⟨s, hs⟩ : ∃ s, yrefs[j]? = some s := ⟨yrefs[j]'hlj, List.getElem?_eq_getElem _⟩
                          obtain ⟨br, offr, har, hcr⟩ := HRC.out (by omega)
                          subst har
                          have v0 := cell_later BR (hcr j s hs)
                          have vz := lt_of_cell v0
                          by_cases hse : s = id
                          · subst hse
                            clear hcr hs
                            go_wp2
                            go_ret
                            exact ⟨rfl, BR⟩
                          · have HR2 := Lib.hid (show ∀ t ∈ yrefs.take (j + 1), t ≠ id by
                              obtain ⟨hk', e⟩ := List.getElem?_eq_some_iff.1 hs
                              rw [List.take_succ_eq_append_getElem hk', e]
                              intro t ht
                              rcases List.mem_append.1 ht with ht | ht
                              · exact HRF.out t ht
                              · rw [List.mem_singleton.1 ht]; exact hse)
                            have n1 := bytes_ne hse
                            clear hcr hs HRF hse
                            go_wp2
                            go_roundw
                            case rel => exact ⟨j + 1, by go_num, by omega, HR2, hbr⟩
                            case measure => simp [intOf]; omega
                        · obtain rfl : j = yrefs.length := by omega
                          have HN2 := Lib.hid (HNX.out (fun s hs => HRF.out s (by rw [List.take_length]; exact hs)))
                          go_wp2
                          go_roundw
                          case rel => exact ⟨m + 1, by go_num, by omega, HN2, hbr⟩
                          case measure => simp [intOf]; omega
                    · obtain rfl : m = N := by omega
                      have pz := lt_of_block HXr.out
                      have p0 := cell_of_row wr _ 0 _ _ _ HXr.out
                      simp only [List.getElem?_toArray, List.getElem?_cons_zero] at p0
                      go_wp2_with fail
                      have HREF := Lib.hid (show ∀ x ∈ l, id ∉ x.refs from fun x hx => HNR.out x (by rw [List.take_of_length_le (by rw [HLN.out]; exact Nat.le_refl _)]; exact hx))
                      obtain ⟨lm, hlm⟩ : ∃ z, z = insO ⟨id, kd, ox, oy, refs, tags⟩ pi l := ⟨_, rfl⟩
                      have HMM := Lib.hid (show MoreM l lm ⟨id, kd, ox, oy, refs, tags⟩ from ⟨HOK.out, by rw [hlm]; exact ins_ok HOB.out HOK.out HPL.out (posO_none _ _ HNO.out) (by rw [HLN.out]; omega), fun x => by rw [hlm]; exact ins_mem x, HREF.out, (show id ∉ refs from HREF.out _ (List.mem_of_getElem? HLK.out))⟩)
                      have HLML := Lib.hid (show lm.length ≤ 25 by rw [hlm]; unfold insO; rw [List.length_append, List.length_cons, List.length_take, List.length_drop, HLN.out]; omega)
                      have HXL := Lib.hid (List.mem_of_getElem? HLK.out)
                      have HK1 := Lib.hid (keys_lenR 12 HR12.out)
                      have HKY := Lib.hid (shared_keys HMM.out HXL.out rfl rfl)
                      have HSG := Lib.hid (shared_segs HMM.out HXL.out rfl rfl)
                      have HIF := Lib.hid (fun kk (hk : kk ∈ keysP l) => (show id ∈ ownF lm lm kk ↔ oid ∈ ownF l l kk by
                        rcases HKY.out.2 kk hk with h | ⟨y, hy, e⟩
                        · exact h
                        · exact absurd e (posO_none _ _ HNO.out y hy)))
                      have SV := Lib.hid (HV.out.later BR)
                      have BW := Lib.hid BR
                      have HZr := Lib.hid (row_later hbr HZO.out)
                      have HYr := Lib.hid (row_later hbr HYO.out)
                      have OL := Lib.hid (HV8.out.later hbr)
                      rw [← hlm] at OL
                      clear hlm BR HNR hbr
                      refine (segments_any _ l _ SV.out HOK.out).mono ?_
                      rintro e w9 ⟨v1, v2, rfl, hr1, ht1, hb⟩
                      have R1 := Lib.hid hr1
                      have T1 := Lib.hid ht1
                      replace SV := Lib.hid (SV.out.later hb)
                      replace OL := Lib.hid (OL.out.later hb)
                      replace HZr := Lib.hid (row_later hb HZr.out)
                      replace HYr := Lib.hid (row_later hb HYr.out)
                      replace HXr := Lib.hid (row_later hb HXr.out)
                      replace BW := Lib.hid (below_step BW.out (Nat.le_refl _) hb)
                      clear p0 pz
                      clear hr1 ht1 hb
                      have pz := lt_of_block HZr.out
                      have p0 := cell_of_row w9 _ 0 _ _ _ HZr.out
                      simp only [List.getElem?_toArray, List.getElem?_cons_zero] at p0
                      go_wp2_with fail
                      clear p0 pz
                      refine (segments_any _ lm _ OL.out HMM.out.2.1).mono ?_
                      rintro e w10 ⟨v3, v4, rfl, hr1, ht1, hb⟩
                      rw [HSG.out] at hr1
                      rw [HKY.out.1] at ht1
                      have R2 := Lib.hid hr1
                      have T2 := Lib.hid ht1
                      replace R1 := Lib.hid (R1.out.later hb)
                      replace T1 := Lib.hid (T1.out.on hb)
                      replace SV := Lib.hid (SV.out.later hb)
                      replace OL := Lib.hid (OL.out.later hb)
                      replace HZr := Lib.hid (row_later hb HZr.out)
                      replace HYr := Lib.hid (row_later hb HYr.out)
                      replace HXr := Lib.hid (row_later hb HXr.out)
                      replace BW := Lib.hid (below_step BW.out (Nat.le_refl _) hb)
                      clear hr1 ht1 hb
                      obtain ⟨sa, ca, rfl, hca⟩ := R1.out
                      obtain ⟨sb, cb, rfl, hcb⟩ := R2.out
                      obtain ⟨sx, cx, rfl, hcx⟩ := texts_get T1.out
                      obtain ⟨sy, cy, rfl, hcy⟩ := texts_get T2.out
                      obtain ⟨K, hK⟩ : ∃ K, (keysP l).length = K := ⟨_, rfl⟩
                      have hK3 : K ≤ 300 := by have := HK1.out; have := HLN.out; omega
                      simp only [List.length_map, hK] at hca hcb hcx hcy ⊢
                      have HKK := Lib.hid hK
                      have HCA := Lib.hid hca
                      have HCB := Lib.hid hcb
                      have HCX := Lib.hid hcx
                      have HCY := Lib.hid hcy
                      clear hca hcb hcx hcy hK R1 T1 R2 T2
                      go_wp2_with fail
                      go_loopw [18] (fun i wr => ∃ r : Nat, i = .int .i64 r ∧ r ≤ K ∧ Below w10.heap.size w10 wr) (fun i _ => K - (intOf i).toNat)
                      case atStart => exact ⟨0, rfl, by omega, Below.refl _ _⟩
                      case round =>
                        obtain ⟨r, rfl, hr, hbr⟩ := hrel
                        by_cases hlr : r < K
                        · obtain ⟨kk, hkk⟩ : ∃ kk, (keysP l)[r]? = some kk := ⟨(keysP l)[r]'(by rw [HKK.out]; exact hlr), List.getElem?_eq_getElem _⟩
                          have HIK := Lib.hid (HIF.out kk (List.mem_of_getElem? hkk))
                          obtain ⟨ba, oa, hxa, ga⟩ := HCA.out (by omega)
                          subst hxa
                          obtain ⟨bb, ob, hxb, gb⟩ := HCB.out (by omega)
                          subst hxb
                          obtain ⟨bx, ox', hxx, gx⟩ := HCX.out (by omega)
                          subst hxx
                          obtain ⟨by', oy', hxy, gy⟩ := HCY.out (by omega)
                          subst hxy
                          have hs : ((keysP l).map (segB l))[r]? = some (segB l kk) := by rw [List.getElem?_map, hkk]; rfl
                          obtain ⟨vx, cxr, ⟨ax, capx, evx, hxl, hxz, hxc⟩⟩ := gx r (ownF l l kk) (by rw [List.getElem?_map, hkk]; rfl)
                          obtain ⟨vy, cyr, ⟨ay, capy, evy, hyl, hyz, hyc⟩⟩ := gy r (ownF lm lm kk) (by rw [List.getElem?_map, hkk]; rfl)
                          subst evx evy
                          obtain ⟨xl, hxe⟩ : ∃ z, z = ownF l l kk := ⟨_, rfl⟩
                          obtain ⟨yl, hye⟩ : ∃ z, z = ownF lm lm kk := ⟨_, rfl⟩
                          rw [← hxe] at cxr hxl hxc
                          rw [← hye] at cyr hyl hyc
                          rw [← hxe, ← hye] at HIK
                          have CX := Lib.hid (fun W (hb : Below w10.heap.size w10 W) => cell_later hb cxr)
                          have CY := Lib.hid (fun W (hb : Below w10.heap.size w10 W) => cell_later hb cyr)
                          have SX := Lib.hid hxc
                          have SY := Lib.hid hyc
                          have q0' := cell_belowBy (cell_later hbr (ga r _ hs 0 _ rfl))
                          have q0 := q0'
                          rw [Nat.add_zero] at q0
                          have q1 := cell_belowBy (cell_later hbr (ga r _ hs 1 _ rfl))
                          have q2 := cell_belowBy (cell_later hbr (ga r _ hs 2 _ rfl))
                          have q3 := cell_belowBy (cell_later hbr (ga r _ hs 3 _ rfl))
                          have r0' := cell_belowBy (cell_later hbr (gb r _ hs 0 _ rfl))
                          have r0 := r0'
                          rw [Nat.add_zero] at r0
                          have r1 := cell_belowBy (cell_later hbr (gb r _ hs 1 _ rfl))
                          have r2 := cell_belowBy (cell_later hbr (gb r _ hs 2 _ rfl))
                          have r3 := cell_belowBy (cell_later hbr (gb r _ hs 3 _ rfl))
                          have z1 := lt_of_cell (cell_later hbr (ga r _ hs 0 _ rfl))
                          have z2 := lt_of_cell (cell_later hbr (gb r _ hs 0 _ rfl))
                          have nq := neq_seg (segB l kk) (segB l kk)
                          rw [decide_eq_true rfl] at nq
                          generalize segB l kk = sg at q0 q1 q2 q3 r0 r1 r2 r3 nq
                          obtain ⟨⟨g1, g2⟩, ⟨g3, g4⟩⟩ := sg
                          simp only [] at q0 q1 q2 q3 r0 r1 r2 r3 nq
                          clear ga gb gx gy hs hkk hxe hye cxr cyr hxc hyc hxz hyz q0' r0'
                          go_wp2_with fail
                          refine wp_region_quiet_below mixed (by kernel_rfl) ?_
                          repeat (go_big_quiet_step (fail))
                          refine wpQuiet_nil ?_
                          intro w8 hw'
                          obtain ⟨⟨wq, hbq⟩, hw''⟩ := hw'
                          subst hw''
                          clear q0 q1 q2 q3 r0 r1 r2 r3 nq z1 z2
                          have B3 := hbr.trans (hbq.mono hbr.size)
                          clear hbq
                          go_wp2_with fail
                          have hsx : xl.length ≤ 140737488355328 := hxl
                          have hsy : yl.length ≤ 140737488355328 := hyl
                          go_loopw [19, 21] (fun v19 v21 wr => ∃ j : Nat, v21 = .int .i64 j ∧ j ≤ xl.length ∧ v19 = .bool (decide (oid ∈ xl.take j)) ∧ Below w10.heap.size w10 wr) (fun _ i _ => xl.length - (intOf i).toNat)
                          case atStart => exact ⟨0, rfl, by omega, rfl, B3⟩
                          case round =>
                            obtain ⟨j, rfl, hj, rfl, hbj⟩ := hrel
                            by_cases hlj : j < (xl).length
                            · obtain ⟨s, hs⟩ : ∃ s, (xl)[j]? = some s := ⟨(xl)[j]'hlj, List.getElem?_eq_getElem _⟩
                              obtain ⟨br, offr, har, hcr⟩ := (SX).out (by omega)
                              subst har
                              have HST := Lib.hid (show decide (oid ∈ (xl).take (j + 1)) = (decide (oid ∈ (xl).take j) || decide (s = oid)) by
                                obtain ⟨hk', e⟩ := List.getElem?_eq_some_iff.1 hs
                                rw [List.take_succ_eq_append_getElem hk', e, Bool.eq_iff_iff]
                                simp only [decide_eq_true_eq, List.mem_append, List.mem_singleton, Bool.or_eq_true]
                                rw [eq_comm (a := oid)])
                              have c0 := (CX).out _ hbj
                              have cz := lt_of_cell c0
                              have q0 := cell_belowBy c0
                              have q1 := cell_belowBy (cell_later hbj (hcr j s hs))
                              have c1 := cell_later hbj (hcr j s hs)
                              have z1 := lt_of_cell c1
                              have hj0 : (0 : Int) ≤ (j : Int) := by omega
                              have hj1 : (j : Int) < ((xl).length : Int) := by omega
                              obtain ⟨cur, hcur⟩ : ∃ z, z = decide (oid ∈ (xl).take j) := ⟨_, rfl⟩
                              rw [← hcur] at HST ⊢
                              clear hcur hcr hs
                              have e2 := cell_of_row _ _ 0 _ _ _ (row_later hbj HYr.out)
                              have z2 := lt_of_block (row_later hbj HYr.out)
                              simp only [List.getElem?_toArray, List.getElem?_cons_zero] at e2
                              have q2 := cell_belowBy e2
                              clear e2
                              cases cur with
                              | true =>
                                go_wp2_with fail
                                refine wp_region_quiet_below mixed (by kernel_rfl) ?_
                                repeat (go_big_quiet_step (fail))
                                refine wpQuiet_nil ?_
                                intro w8 hw'
                                obtain ⟨⟨wq, hbq⟩, hw''⟩ := hw'
                                subst hw''
                                clear q0 q1 q2 c0 c1
                                go_wp2
                                go_roundw
                                case rel => exact ⟨j + 1, by go_num, by omega, by rw [HST.out] <;> rfl, hbj.trans (hbq.mono hbj.size)⟩
                                case measure => simp [intOf]; omega
                              | false =>
                                by_cases e : s = oid
                                · rw [e] at q1 HST
                                  rw [decide_eq_true rfl] at HST
                                  clear e
                                  go_wp2_with fail
                                  refine wp_region_quiet_below mixed (by kernel_rfl) ?_
                                  repeat (go_big_quiet_step (fail))
                                  refine wpQuiet_nil ?_
                                  intro w8 hw'
                                  obtain ⟨⟨wq, hbq⟩, hw''⟩ := hw'
                                  subst hw''
                                  clear q0 q1 q2 c0 c1
                                  go_wp2
                                  go_roundw
                                  case rel => exact ⟨j + 1, by go_num, by omega, by rw [HST.out] <;> rfl, hbj.trans (hbq.mono hbj.size)⟩
                                  case measure => simp [intOf]; omega
                                · have n1 := bytes_ne e
                                  rw [decide_eq_false e] at HST
                                  clear e
                                  go_wp2_with fail
                                  refine wp_region_quiet_below mixed (by kernel_rfl) ?_
                                  repeat (go_big_quiet_step (fail))
                                  refine wpQuiet_nil ?_
                                  intro w8 hw'
                                  obtain ⟨⟨wq, hbq⟩, hw''⟩ := hw'
                                  subst hw''
                                  clear q0 q1 q2 c0 c1
                                  go_wp2
                                  go_roundw
                                  case rel => exact ⟨j + 1, by go_num, by omega, by rw [HST.out] <;> rfl, hbj.trans (hbq.mono hbj.size)⟩
                                  case measure => simp [intOf]; omega
                            · obtain rfl : j = xl.length := by omega
                              rw [List.take_length]
                              obtain ⟨dd, hdd⟩ : ∃ z, z = decide (oid ∈ xl) := ⟨_, rfl⟩
                              rw [← hdd]
                              have HDD := Lib.hid (show decide (id ∈ yl) = dd by rw [hdd, Bool.eq_iff_iff, decide_eq_true_eq, decide_eq_true_eq]; exact HIK.out)
                              clear hdd B3
                              have B3 := hbj
                              have c0 := CX.out _ hbj
                              have cz := lt_of_cell c0
                              go_wp2_with fail
                              clear c0 cz
                              go_loopw [20, 22] (fun v20 v22 wr => ∃ j : Nat, v22 = .int .i64 j ∧ j ≤ yl.length ∧ v20 = .bool (decide (id ∈ yl.take j)) ∧ Below w10.heap.size w10 wr) (fun _ i _ => yl.length - (intOf i).toNat)
                              case atStart => exact ⟨0, rfl, by omega, rfl, B3⟩
                              case round =>
                                obtain ⟨j, rfl, hj, rfl, hbj⟩ := hrel
                                by_cases hlj : j < (yl).length
                                · obtain ⟨s, hs⟩ : ∃ s, (yl)[j]? = some s := ⟨(yl)[j]'hlj, List.getElem?_eq_getElem _⟩
                                  obtain ⟨br, offr, har, hcr⟩ := (SY).out (by omega)
                                  subst har
                                  have HST := Lib.hid (show decide (id ∈ (yl).take (j + 1)) = (decide (id ∈ (yl).take j) || decide (s = id)) by
                                    obtain ⟨hk', e⟩ := List.getElem?_eq_some_iff.1 hs
                                    rw [List.take_succ_eq_append_getElem hk', e, Bool.eq_iff_iff]
                                    simp only [decide_eq_true_eq, List.mem_append, List.mem_singleton, Bool.or_eq_true]
                                    rw [eq_comm (a := id)])
                                  have c0 := (CY).out _ hbj
                                  have cz := lt_of_cell c0
                                  have q0 := cell_belowBy c0
                                  have q1 := cell_belowBy (cell_later hbj (hcr j s hs))
                                  have c1 := cell_later hbj (hcr j s hs)
                                  have z1 := lt_of_cell c1
                                  have hj0 : (0 : Int) ≤ (j : Int) := by omega
                                  have hj1 : (j : Int) < ((yl).length : Int) := by omega
                                  obtain ⟨cur, hcur⟩ : ∃ z, z = decide (id ∈ (yl).take j) := ⟨_, rfl⟩
                                  rw [← hcur] at HST ⊢
                                  clear hcur hcr hs
                                  cases cur with
                                  | true =>
                                    clear q0 q1
                                    go_wp2
                                    go_roundw
                                    case rel => exact ⟨j + 1, by go_num, by omega, by rw [HST.out] <;> rfl, hbj⟩
                                    case measure => simp [intOf]; omega
                                  | false =>
                                    by_cases e : s = id
                                    · rw [e] at c1 HST
                                      rw [decide_eq_true rfl] at HST
                                      clear e
                                      clear q0 q1
                                      go_wp2
                                      go_roundw
                                      case rel => exact ⟨j + 1, by go_num, by omega, by rw [HST.out] <;> rfl, hbj⟩
                                      case measure => simp [intOf]; omega
                                    · have n1 := bytes_ne e
                                      rw [decide_eq_false e] at HST
                                      clear e
                                      clear q0 q1
                                      go_wp2
                                      go_roundw
                                      case rel => exact ⟨j + 1, by go_num, by omega, by rw [HST.out] <;> rfl, hbj⟩
                                      case measure => simp [intOf]; omega
                                · obtain rfl : j = yl.length := by omega
                                  rw [List.take_length, HDD.out]
                                  have c0 := CY.out _ hbj
                                  have cz := lt_of_cell c0
                                  cases dd with
                                  | true =>
                                    go_wp2
                                    go_roundw
                                    case rel => exact ⟨r + 1, by go_num, by omega, hbj⟩
                                    case measure => simp [intOf]; omega
                                  | false =>
                                    go_wp2
                                    go_roundw
                                    case rel => exact ⟨r + 1, by go_num, by omega, hbj⟩
                                    case measure => simp [intOf]; omega
                        · obtain rfl : r = K := by omega
                          have SVr := Lib.hid (SV.out.later hbr)
                          have OLr := Lib.hid (OL.out.later hbr)
                          have HX9 := Lib.hid (row_later hbr HXr.out)
                          have HZ9 := Lib.hid (row_later hbr HZr.out)
                          have BF := Lib.hid (below_step BW.out (Nat.le_refl _) hbr)
                          have hln := HLN.out
                          have pz := lt_of_block HX9.out
                          have p0 := cell_of_row wr _ 0 _ _ _ HX9.out
                          simp only [List.getElem?_toArray, List.getElem?_cons_zero] at p0
                          go_wp2_with fail
                          clear p0 pz
                          refine (check_any _ l _ SVr.out HOK.out (by omega) (by rw [HKK.out]; omega)).mono ?_
                          rintro e w11 ⟨vc, rfl, hvc, hb⟩
                          obtain ⟨ac, cc, rfl, _⟩ := vios_get hvc
                          replace OLr := Lib.hid (OLr.out.later hb)
                          replace HZ9 := Lib.hid (row_later hb HZ9.out)
                          replace BF := Lib.hid (below_step BF.out (Nat.le_refl _) hb)
                          clear hb hvc
                          cases hck : checkP l with
                          | cons kx rest =>
                            have hp : (0 : Int) < ((rest.length : Nat) : Int) + 1 := by omega
                            simp only [List.length_cons]
                            go_wp2
                            go_ret
                            exact ⟨rfl, BF.out⟩
                          | nil =>
                            have HNN := Lib.hid (shared_none HMM.out HXL.out rfl rfl hck)
                            simp only [List.length_nil]
                            have pz := lt_of_block HZ9.out
                            have p0 := cell_of_row w11 _ 0 _ _ _ HZ9.out
                            simp only [List.getElem?_toArray, List.getElem?_cons_zero] at p0
                            go_wp2_with fail
                            clear p0 pz
                            refine (check_any _ lm _ OLr.out HMM.out.2.1 (by have := HLML.out; omega) (by rw [HKY.out.1, HKK.out]; omega)).mono ?_
                            rintro e w12 ⟨vd, rfl, hvd, hb⟩
                            rw [HNN.out] at hvd
                            obtain ⟨ad, cd, rfl, _⟩ := vios_get hvd
                            have BG := below_step BF.out (Nat.le_refl _) hb
                            simp only [List.length_nil]
                            clear hb hvd
                            go_wp2
                            go_ret
                            exact ⟨rfl, BG⟩
              · have k2 : (kd != 2) = true := by rw [bne_iff_ne]; omega
                have k3 : (kd != 3) = true := by rw [bne_iff_ne]; omega
                go_wp2
                go_ret
                exact ⟨rfl, (by repeat' (first | exact Below.refl _ _ | refine Below.drew ?_ | refine Below.drewN' ?_ | refine Below.setCell ?_ (by first | omega | (simp; done) | exact Below.size (by assumption) | (simp; omega)) _ | refine Below.alloc ?_ (by first | omega | (simp; done) | exact Below.size (by assumption) | (simp; omega)) _ | refine Below.trans ?_ (Below.mono (by assumption) ?_) | (first | omega | (simp; done) | exact Below.size (by assumption) | (simp; omega))))⟩
end Go.Proofs.YtbkomdinchiffaaGreat
