/- BorderFree: the walk. -/
import Derived.Test.YtbkomdinchiffaaGreatBorRHM
import Derived.Test.YtbkomdinchiffaaGreatBorPUT
import Derived.Test.YtbkomdinchiffaaGreatBorRDE
import Derived.Test.YtbkomdinchiffaaGreatBorLaw
import Derived.Test.YtbkomdinchiffaaGreatBorXPE
namespace Go.Proofs.YtbkomdinchiffaaGreat
open Go.RowKit Go.Sort Go.Maps Go.ChangeMaps

theorem u8_nat {n : Int} (h : (Lit.int .u8 n).wf = true) : ∃ m : Nat, n = m ∧ m < 256 := by
  have h0 : IntKind.u8.min = 0 := rfl
  have h1 : IntKind.u8.max = 255 := rfl
  simp only [Lit.wf, h0, h1, Bool.and_eq_true, decide_eq_true_eq] at h
  exact ⟨n.toNat, by omega, by omega⟩
theorem find_none {id : ByteArray} {l : List ObjD} (h : ¬ 0 ≤ findI id l) : posO id l = none := by
  unfold findI at h
  cases hp : posO id l with
  | none => rfl
  | some i => rw [hp] at h; exact absurd (Int.natCast_nonneg i) h
/-- No object up to a place refers to a name. -/
def NoRef (id : ByteArray) (l : List ObjD) (k : Nat) : Prop := ∀ o ∈ l.take k, id ∉ o.refs
theorem NoRef.zero (id : ByteArray) (l : List ObjD) : NoRef id l 0 := fun o ho => by simp at ho
theorem NoRef.next {id : ByteArray} {l : List ObjD} {k : Nat} {o : ObjD} (h : NoRef id l k) (ho : l[k]? = some o) (hr : ∀ s ∈ o.refs, s ≠ id) : NoRef id l (k + 1) := fun x hx => by
  obtain ⟨hk, e⟩ := List.getElem?_eq_some_iff.1 ho
  rw [List.take_succ_eq_append_getElem hk, e] at hx
  rcases List.mem_append.1 hx with hx | hx
  · exact h x hx
  · rw [List.mem_singleton.1 hx]; exact fun hm => hr id hm rfl
theorem bytes_ne {x y : ByteArray} (h : ¬ x = y) : (x.toList == y.toList) = false := by
  rw [ByteArray.toList_eq, ByteArray.toList_eq]
  exact beq_false_of_ne (fun e => h (ByteArray.ext (Array.toList_inj.mp e)))

theorem infoPtF : (Tryz.prog.info? 37).map (fun i => (i.zero, i.size, i.bytes)) = some (some (.agg #[.int .i64 0, .int .i64 0]), 2, 16) := by kernel_rfl
theorem own_apart2 {w : World} {b b' s s' n n' : Nat} {e e' : TypeId} {v v' : Value} {xs xs' : List Value} (h : w.ownsRow b e s v n xs) (h2 : w.ownsRow b' e' s' v' n' xs') (he : e ≠ e') : v.ownBlock = none ∨ v.ownBlock ≠ v'.ownBlock := by
  rcases h.2 with ⟨rfl, _⟩ | ⟨g, cap, cur, rfl, _, hg, _⟩
  · exact Or.inl rfl
  · rcases h2.2 with ⟨rfl, _⟩ | ⟨g', cap', cur', rfl, _, hg', _⟩
    · exact Or.inr (fun c => by cases c)
    · refine Or.inr (fun c => ?_)
      have c : g = g' := Option.some.inj c
      subst c
      rw [hg] at hg'
      injection hg' with hg'
      injection hg' with _ h3 _
      exact he h3
/-- The points of the nodes of borders, in order. -/
def ptsN (l : List ObjD) (ks : List KeyD) : List Pt := ks.flatMap fun k => [ptO l k.1, ptO l k.2]
theorem nds_next {ks : List KeyD} {i : Nat} {k : KeyD} (h : ks[i]? = some k) : ndsK (ks.take (i + 1)) = ndsK (ks.take i) ++ [k.1, k.2] := by
  obtain ⟨hi, e⟩ := List.getElem?_eq_some_iff.1 h
  unfold ndsK
  rw [List.take_succ_eq_append_getElem hi, e, List.flatMap_append]; simp
theorem pts_next {l : List ObjD} {ks : List KeyD} {i : Nat} {k : KeyD} (h : ks[i]? = some k) : ptsN l (ks.take (i + 1)) = ptsN l (ks.take i) ++ [ptO l k.1, ptO l k.2] := by
  obtain ⟨hi, e⟩ := List.getElem?_eq_some_iff.1 h
  unfold ptsN
  rw [List.take_succ_eq_append_getElem hi, e, List.flatMap_append]; simp
theorem nds_len (ks : List KeyD) : (ndsK ks).length = 2 * ks.length := by
  unfold ndsK
  induction ks with
  | nil => rfl
  | cons k ks ih => rw [List.flatMap_cons, List.length_append, ih]; simp; omega
theorem pts_map (l : List ObjD) (ks : List KeyD) : ptsN l ks = (ndsK ks).map (ptO l) := by
  unfold ptsN ndsK
  rw [List.map_flatMap]; rfl

set_option maxRecDepth 100000 in
set_option maxHeartbeats 8000000 in
theorem free_law (v : Value) (l : List ObjD) (one two : Int) (id : ByteArray) (w : World) (hv : ObjsIs w v l) (hr0 : 0 ≤ one) (hr1 : one ≤ 255) (hs0 : 0 ≤ two) (hs1 : two ≤ 255) :
    Calls Tryz.prog 9 #[.agg #[v], .int .u8 one, .int .u8 two, .string id] w fun e w' => e = .returned (.bool true) ∧ Below w.heap.size w w' := by
  have mixed : Tryz.prog.follows .mixedOrders = true := by kernel_rfl
  have HV := Lib.hid hv
  obtain ⟨L, hL, hLm, hLo⟩ := objs_row hv
  have HLO := Lib.hid hLo
  have HLM := Lib.hid hLm
  obtain ⟨a, cap, rfl, hc⟩ := hL
  have HC := Lib.hid hc
  obtain ⟨N, hN⟩ : ∃ N, L.length = N := ⟨_, rfl⟩
  rw [hN] at HC HV ⊢
  have HN := Lib.hid hN
  have HLN := Lib.hid (show l.length = N by rw [← hLm, List.length_map, hN])
  clear hv hLo hLm hc hN
  go_enter Tryz.func9, Tryz.ntmps9
  go_wp2_with fail
  have BX : Below w.heap.size w (w.alloc (.cells #[.slice a N cap] 24)) := (by repeat' (first | exact Below.refl _ _ | refine Below.drew ?_ | refine Below.drewN' ?_ | refine Below.setCell ?_ (by first | omega | (simp; done) | exact Below.size (by assumption) | (simp; omega)) _ | refine Below.alloc ?_ (by first | omega | (simp; done) | exact Below.size (by assumption) | (simp; omega)) _ | refine Below.trans ?_ (Below.mono (by assumption) ?_) | (first | omega | (simp; done) | exact Below.size (by assumption) | (simp; omega))))
  have HX := row_new w (.cells #[.slice a N cap] 24)
  generalize hw1 : w.alloc (.cells #[.slice a N cap] 24) = w1
  rw [hw1] at BX HX
  have HX1 := Lib.hid HX
  have hz1 : w.heap.size < w1.heap.size := lt_of_block HX
  obtain ⟨Bm, hBm⟩ : ∃ z, z = w.heap.size := ⟨_, rfl⟩
  rw [← hBm] at HX1 hz1 ⊢
  have hBw : w.heap.size ≤ Bm := by omega
  clear hw1 HX hBm
  refine (head_any _).mono ?_
  rintro e w2 ⟨rfl, hb⟩
  have B2 := below_step BX (Nat.le_refl _) hb
  replace HX1 := Lib.hid (row_later hb HX1.out)
  have hz2 := hb.size
  clear hb BX
  have pz := lt_of_block HX1.out
  have p0 := cell_of_row w2 _ 0 _ _ _ HX1.out
  simp only [List.getElem?_toArray, List.getElem?_cons_zero] at p0
  go_wp2_with fail
  clear p0 pz
  refine (few13_any _ l 24 (by omega) _ (HV.out.later B2)).mono ?_
  rintro e w3 ⟨⟨r, rfl, hr⟩, hb⟩
  have B3 := below_step B2 (Nat.le_refl _) hb
  replace HX1 := Lib.hid (row_later hb HX1.out)
  have hz3 := hb.size
  clear hb B2
  cases r with
  | false =>
    go_wp2
    go_ret
    exact ⟨rfl, B3⟩
  | true =>
    obtain ⟨hl24, hr12⟩ := hr rfl
    have HR12 := Lib.hid hr12
    clear hr12
    clear hr
    have pz := lt_of_block HX1.out
    have p0 := cell_of_row w3 _ 0 _ _ _ HX1.out
    simp only [List.getElem?_toArray, List.getElem?_cons_zero] at p0
    go_wp2_with fail
    clear p0 pz
    refine (validM_any _ l _ (HV.out.later B3)).mono ?_
    rintro e w4 ⟨rfl, hb⟩
    have B4 := below_step B3 (Nat.le_refl _) hb
    replace HX1 := Lib.hid (row_later hb HX1.out)
    have hz4 := hb.size
    clear hb B3
    cases hok : mapOK l with
    | false =>
      go_wp2
      go_ret
      exact ⟨rfl, B4⟩
    | true =>
      have HOK := Lib.hid hok
      clear hok
      have hN24 : N ≤ 24 := by rw [← HLN.out]; exact hl24
      have HK1 := Lib.hid (keys_lenR 12 HR12.out)
      have HKL := Lib.hid (show (keysP l).length ≤ 300 by have := HK1.out; omega)
      have pz := lt_of_block HX1.out
      have p0 := cell_of_row w4 _ 0 _ _ _ HX1.out
      simp only [List.getElem?_toArray, List.getElem?_cons_zero] at p0
      go_wp2_with fail
      clear p0 pz
      refine (check_any _ l _ (HV.out.later B4) HOK.out (by omega) (by have := HKL.out; omega)).mono ?_
      rintro e w4b ⟨vc, rfl, hvc, hb⟩
      obtain ⟨ac, cc, rfl, _⟩ := vios_get hvc
      have B4b := below_step B4 (Nat.le_refl _) hb
      replace HX1 := Lib.hid (row_later hb HX1.out)
      have hz4b := hb.size
      clear hb hvc B4
      cases hck : checkP l with
      | cons kx rest =>
        have hp : (0 : Int) < ((rest.length : Nat) : Int) + 1 := by omega
        simp only [List.length_cons]
        go_wp2
        go_ret
        exact ⟨rfl, B4b⟩
      | nil =>
        have HCK := Lib.hid hck
        clear hck
        simp only [List.length_nil]
        by_cases hil : 24 < id.size
        · have hi1 : (24 : Int) < (id.size : Int) := by omega
          go_wp2
          go_ret
          exact ⟨rfl, B4b⟩
        · have hi1 : ¬ (24 : Int) < (id.size : Int) := by omega
          have pz := lt_of_block HX1.out
          have p0 := cell_of_row w4b _ 0 _ _ _ HX1.out
          simp only [List.getElem?_toArray, List.getElem?_cons_zero] at p0
          go_wp2_with fail
          clear p0 pz
          refine (findO_any _ l id _ (HV.out.later B4b) (by omega)).mono ?_
          rintro e w5 ⟨rfl, hb⟩
          have B5 := below_step B4b (Nat.le_refl _) hb
          replace HX1 := Lib.hid (row_later hb HX1.out)
          have hz5 := hb.size
          clear hb B4b
          by_cases hf : 0 ≤ findI id l
          · generalize findI id l = fi at hf ⊢
            go_wp2
            go_ret
            exact ⟨rfl, B5⟩
          · have HNO := Lib.hid (find_none hf)
            generalize findI id l = fi at hf ⊢
            have pz := lt_of_block HX1.out
            have p0 := cell_of_row w5 _ 0 _ _ _ HX1.out
            simp only [List.getElem?_toArray, List.getElem?_cons_zero] at p0
            go_wp2_with fail
            clear p0 pz
            refine (rborders_any _ l _ (HV.out.later B5) HOK.out (by omega) HR12.out).mono ?_
            rintro e w6 ⟨vB, rfl, hbs, hb⟩
            have B6 := below_step B5 (Nat.le_refl _) hb
            replace HX1 := Lib.hid (row_later hb HX1.out)
            have hz6 := hb.size
            obtain ⟨ao, co, rfl, hc⟩ := brs_get hbs
            obtain ⟨K, hK⟩ : ∃ K, (keysP l).length = K := ⟨_, rfl⟩
            have HKL2 := HKL.out
            rw [hK] at hc HKL2 ⊢
            have HK := Lib.hid hK
            have HCB := Lib.hid hc
            clear hb B5 hbs hc hK
            go_wp2_with fail
            obtain ⟨i0, hiS, hiS0, hiS1, hiS2⟩ := info_parts infoStr
            obtain ⟨j0, hjP, hjP0, hjP1, hjP2⟩ := info_parts infoPtF
            have FR := Lib.hid (fun kk (hk : kk ∈ keysP l) W (hb : Below w6.heap.size w6 W) => (free_any _ l (segB l kk) W (HV.out.later (B6.trans (hb.mono B6.size))) HOK.out).mono fun e w' h => (show e = .returned (.bool true) ∧ Below W.heap.size W w' from ⟨by rw [h.1, none_free HOK.out HCK.out hk], h.2⟩))
            go_loopw [11, 12, 13] (fun v11 v12 v13 wr => ∃ i : Nat, v13 = .int .i64 i ∧ i ≤ K ∧ wr.ownsRow w6.heap.size 9 1 v11 (2 * i) ((ndsK ((keysP l).take i)).map Value.string) ∧ wr.ownsRow w6.heap.size 37 2 v12 (2 * i) ((ptsN l ((keysP l).take i)).flatMap encPt) ∧ Below w6.heap.size w6 wr) (fun _ _ v13 _ => K - (intOf v13).toNat)
            case atStart => exact ⟨0, rfl, by omega, World.ownsRow_nil _ _ _ _, World.ownsRow_nil _ _ _ _, Below.refl _ _⟩
            case round =>
              obtain ⟨i, rfl, hi, ho1, ho2, hbr⟩ := hrel
              have HO1 := Lib.hid ho1
              have HO2 := Lib.hid ho2
              have HXr := Lib.hid (row_later hbr HX1.out)
              have BR := below_step B6 (Nat.le_refl _) hbr
              have HBR := Lib.hid hbr
              clear ho1 ho2
              by_cases hlt : i < K
              · obtain ⟨kk, hkk⟩ : ∃ kk, (keysP l)[i]? = some kk := ⟨(keysP l)[i]'(by rw [HK.out]; exact hlt), List.getElem?_eq_getElem _⟩
                obtain ⟨b2, off2, hab, hcell⟩ := HCB.out (by omega)
                subst hab
                obtain ⟨pa, pc, c0, c1, c2, c3, c4, c5, -, -⟩ := hcell i kk hkk
                have HND := Lib.hid (nds_next hkk)
                have HPT := Lib.hid (pts_next (l := l) hkk)
                have FRK := Lib.hid (FR.out kk (List.mem_of_getElem? hkk))
                obtain ⟨k1, k2⟩ := kk
                obtain ⟨p, hp⟩ : ∃ z, z = ptO l k1 := ⟨_, rfl⟩
                obtain ⟨q, hq⟩ : ∃ z, z = ptO l k2 := ⟨_, rfl⟩
                simp only [segB] at c2 c3 c4 c5 FRK
                simp only [] at c0 c1 HND HPT
                rw [← hp] at c2 c3 FRK HPT
                rw [← hq] at c4 c5 FRK HPT
                obtain ⟨p1, p2⟩ := p
                obtain ⟨q1, q2⟩ := q
                simp only [] at c2 c3 c4 c5
                have D0 := Lib.hid (fun W (hb : Below w6.heap.size w6 W) => cell_later hb c0)
                have D1 := Lib.hid (fun W (hb : Below w6.heap.size w6 W) => cell_later hb c1)
                have D2 := Lib.hid (fun W (hb : Below w6.heap.size w6 W) => cell_later hb c2)
                have D3 := Lib.hid (fun W (hb : Below w6.heap.size w6 W) => cell_later hb c3)
                have D4 := Lib.hid (fun W (hb : Below w6.heap.size w6 W) => cell_later hb c4)
                have D5 := Lib.hid (fun W (hb : Below w6.heap.size w6 W) => cell_later hb c5)
                have HNS := Lib.hid (show (ndsK ((keysP l).take (i + 1))).map Value.string = (ndsK ((keysP l).take i)).map Value.string ++ [.string k1, .string k2] by rw [HND.out, List.map_append]; rfl)
                have HPS := Lib.hid (show (ptsN l ((keysP l).take (i + 1))).flatMap encPt = (ptsN l ((keysP l).take i)).flatMap encPt ++ [.int .i64 p1, .int .i64 p2, .int .i64 q1, .int .i64 q2] by rw [HPT.out, List.flatMap_append]; rfl)
                obtain ⟨ns, hns⟩ : ∃ z, z = (ndsK ((keysP l).take i)).map Value.string := ⟨_, rfl⟩
                obtain ⟨ps, hps⟩ : ∃ z, z = (ptsN l ((keysP l).take i)).flatMap encPt := ⟨_, rfl⟩
                rw [← hns] at HO1 HNS
                rw [← hps] at HO2 HPS
                have hi0 : (0 : Int) ≤ (i : Int) := by omega
                have hi1' : (i : Int) < (K : Int) := by omega
                have HLT := Lib.hid hlt
                clear hkk hcell c0 c1 c2 c3 c4 c5 hp hq hns hps HND HPT
                go_wp2_with fail
                obtain ⟨wo, rfl⟩ : ∃ z : World, z = wr := ⟨_, rfl⟩
                refine wp_region_mix 11 (fun W => Below w6.heap.size w6 W) (fun W => (W.ownsRow w6.heap.size 9 1 u11 (2 * i) ns ∧ W.ownsRow w6.heap.size 37 2 u12 (2 * i) ps) ∧ Below w6.heap.size w6 W) mixed (by kernel_rfl) (by kernel_rfl) (by kernel_rfl) (((StableW.owns _ _ _ _ _ _).and (StableW.owns _ _ _ _ _ _)).and (StableW.below _ _ (Nat.le_refl _))) (fun W hW => hW.2) ⟨⟨own_later HO1.out (Below.refl _ _).drew, own_later HO2.out (Below.refl _ _).drew⟩, HBR.out.drew⟩ ?_
                apply Exists.intro
                refine ⟨fun W hW => ?_, ?_⟩
                · have q0 := cell_belowBy (D0.out W hW)
                  have q1 := cell_belowBy (D1.out W hW)
                  have z0 := lt_of_cell (D0.out W hW)
                  simp only [List.take_succ_cons, List.take_zero]
                  repeat (go_big_quiet_step (fail))
                  exact wpQuiet_nil rfl
                · simp only [List.drop_succ_cons, List.drop_zero]
                  refine tailM_step (ι := Nat) (fun g => .slice (some ⟨g, 0, none⟩) 2 2) (fun g W => ((W.ownsRow w6.heap.size 9 1 u11 (2 * i) ns ∧ W.ownsRow w6.heap.size 37 2 u12 (2 * i) ps) ∧ Below w6.heap.size w6 W) ∧ W.heap[g]? = some (.cells #[.string k1, .string k2] 9)) rfl (fun g => (((StableW.owns _ _ _ _ _ _).and (StableW.owns _ _ _ _ _ _)).and (StableW.below _ _ (Nat.le_refl _))).and (StableW.row _ _)) (fun _ _ h => h.1.2) (fun W hS K' hK' => ?_) (fun g => ?_)
                  · obtain ⟨⟨hA, hB⟩, hC⟩ := hS
                    go_simp
                    exact hK' W.heap.size _ ⟨⟨⟨hA.alloc _, hB.alloc _⟩, hC.alloc hC.size _⟩, row_new _ _⟩
                  simp only [Act.put, List.setIfInBounds_toArray, List.set_cons_succ, List.set_cons_zero]
                  refine tailM_step (ι := Value) (fun v => v) (fun v' W => (W.ownsRow w6.heap.size 9 1 v' (2 * i + 2) (ns ++ [.string k1, .string k2]) ∧ W.ownsRow w6.heap.size 37 2 u12 (2 * i) ps) ∧ Below w6.heap.size w6 W) rfl (fun _ => ((StableW.owns _ _ _ _ _ _).and (StableW.owns _ _ _ _ _ _)).and (StableW.below _ _ (Nat.le_refl _))) (fun _ _ h => h.2) (fun W hS K' hK' => ?_) (fun v' => ?_)
                  · obtain ⟨⟨⟨hA, hB⟩, hC⟩, hG⟩ := hS
                    refine wp_append_own _ _ _ 41 rfl w6.heap.size 9 i0 (.string ⟨#[]⟩) 1 16 Tryz.underlying41 hiS hiS0 hiS1 hiS2 rfl (by decide) _ _ _ rfl hA ⟨g, 0, none⟩ 2 2 [.string k1, .string k2] rfl rfl (cells_row hG) (fun u hu => by simp only [List.mem_cons, List.not_mem_nil, or_false] at hu; rcases hu with rfl | rfl <;> rfl) (by unfold maxLen; omega) (by omega) hC.size ?_
                    intro v' w9 hown2 hgrow _
                    exact hK' v' w9 ⟨⟨hown2, hB.kept hgrow (own_apart2 hB hA (by decide))⟩, hC.grown hgrow hC.size (fun j ej => (hA.lt j ej).1)⟩
                  simp only [Act.put, List.setIfInBounds_toArray, List.set_cons_succ, List.set_cons_zero]
                  refine tailM_pure v' rfl (((StableW.owns _ _ _ _ _ _).and (StableW.owns _ _ _ _ _ _)).and (StableW.below _ _ (Nat.le_refl _))) (fun _ h => h.2) (fun W hS K' hK' => ?_) (tailM_nil fun W hW => ?_)
                  · go_simp
                    exact hK'
                  obtain ⟨⟨hA, hB⟩, hC⟩ := hW
                  have HO3 := Lib.hid hA
                  have HO4 := Lib.hid hB
                  have HB4 := Lib.hid hC
                  clear hA hB hC HO1 HO2 HBR HXr BR hbr
                  simp only [Act.put, List.setIfInBounds_toArray, List.set_cons_succ, List.set_cons_zero]
                  go_wp2_with fail
                  refine wp_region_mix 11 (fun W => Below w6.heap.size w6 W) (fun W => (W.ownsRow w6.heap.size 9 1 v' (2 * i + 2) (ns ++ [.string k1, .string k2]) ∧ W.ownsRow w6.heap.size 37 2 u12 (2 * i) ps) ∧ Below w6.heap.size w6 W) mixed (by kernel_rfl) (by kernel_rfl) (by kernel_rfl) (((StableW.owns _ _ _ _ _ _).and (StableW.owns _ _ _ _ _ _)).and (StableW.below _ _ (Nat.le_refl _))) (fun W hW => hW.2) ⟨⟨own_later HO3.out (Below.refl _ _).drew, own_later HO4.out (Below.refl _ _).drew⟩, HB4.out.drew⟩ ?_
                  apply Exists.intro
                  refine ⟨fun W hW => ?_, ?_⟩
                  · have q0 := cell_belowBy (D2.out W hW)
                    have q1 := cell_belowBy (D3.out W hW)
                    have q2 := cell_belowBy (D4.out W hW)
                    have q3 := cell_belowBy (D5.out W hW)
                    have z0 := lt_of_cell (D2.out W hW)
                    simp only [List.take_succ_cons, List.take_zero]
                    repeat (go_big_quiet_step (fail))
                    exact wpQuiet_nil rfl
                  · simp only [List.drop_succ_cons, List.drop_zero]
                    refine tailM_step (ι := Nat) (fun g => .slice (some ⟨g, 0, none⟩) 2 2) (fun g W => ((W.ownsRow w6.heap.size 9 1 v' (2 * i + 2) (ns ++ [.string k1, .string k2]) ∧ W.ownsRow w6.heap.size 37 2 u12 (2 * i) ps) ∧ Below w6.heap.size w6 W) ∧ W.heap[g]? = some (.cells #[.int .i64 p1, .int .i64 p2, .int .i64 q1, .int .i64 q2] 37)) rfl (fun g => (((StableW.owns _ _ _ _ _ _).and (StableW.owns _ _ _ _ _ _)).and (StableW.below _ _ (Nat.le_refl _))).and (StableW.row _ _)) (fun _ _ h => h.1.2) (fun W hS K' hK' => ?_) (fun g => ?_)
                    · obtain ⟨⟨hA, hB⟩, hC⟩ := hS
                      go_simp
                      exact hK' W.heap.size _ ⟨⟨⟨hA.alloc _, hB.alloc _⟩, hC.alloc hC.size _⟩, row_new _ _⟩
                    simp only [Act.put, List.setIfInBounds_toArray, List.set_cons_succ, List.set_cons_zero]
                    refine tailM_step (ι := Value) (fun v => v) (fun v2 W => (W.ownsRow w6.heap.size 9 1 v' (2 * i + 2) (ns ++ [.string k1, .string k2]) ∧ W.ownsRow w6.heap.size 37 2 v2 (2 * i + 2) (ps ++ [.int .i64 p1, .int .i64 p2, .int .i64 q1, .int .i64 q2])) ∧ Below w6.heap.size w6 W) rfl (fun _ => ((StableW.owns _ _ _ _ _ _).and (StableW.owns _ _ _ _ _ _)).and (StableW.below _ _ (Nat.le_refl _))) (fun _ _ h => h.2) (fun W hS K' hK' => ?_) (fun v2 => ?_)
                    · obtain ⟨⟨⟨hA, hB⟩, hC⟩, hG⟩ := hS
                      refine wp_append_own _ _ _ 68 rfl w6.heap.size 37 j0 (.agg #[.int .i64 0, .int .i64 0]) 2 16 Tryz.underlying68 hjP hjP0 hjP1 hjP2 rfl (by decide) _ _ _ rfl hB ⟨g, 0, none⟩ 2 2 [.int .i64 p1, .int .i64 p2, .int .i64 q1, .int .i64 q2] rfl rfl (cells_row hG) (fun u hu => by simp only [List.mem_cons, List.not_mem_nil, or_false] at hu; rcases hu with rfl | rfl | rfl | rfl <;> rfl) (by unfold maxLen; omega) (by omega) hC.size ?_
                      intro v3 w9 hown2 hgrow _
                      exact hK' v3 w9 ⟨⟨hA.kept hgrow (own_apart2 hA hB (by decide)), hown2⟩, hC.grown hgrow hC.size (fun j ej => (hB.lt j ej).1)⟩
                    simp only [Act.put, List.setIfInBounds_toArray, List.set_cons_succ, List.set_cons_zero]
                    refine tailM_pure v2 rfl (((StableW.owns _ _ _ _ _ _).and (StableW.owns _ _ _ _ _ _)).and (StableW.below _ _ (Nat.le_refl _))) (fun _ h => h.2) (fun W hS K' hK' => ?_) (tailM_nil fun W2 hW => ?_)
                    · go_simp
                      exact hK'
                    obtain ⟨⟨hA, hB⟩, hC⟩ := hW
                    have HO5 := Lib.hid hA
                    have HO6 := Lib.hid hB
                    have HB6 := Lib.hid hC
                    clear hA hB HO3 HO4 HB4
                    simp only [Act.put, List.setIfInBounds_toArray, List.set_cons_succ, List.set_cons_zero]
                    have HXh := Lib.hid (row_later hC HX1.out)
                    clear hC
                    obtain ⟨wz, rfl⟩ : ∃ z : World, z = W2 := ⟨_, rfl⟩
                    have e0 := cell_of_row _ _ 0 _ _ _ HXh.out
                    simp only [List.getElem?_toArray, List.getElem?_cons_zero] at e0
                    have q0 := cell_belowBy e0
                    have y0 := lt_of_block HXh.out
                    have q2 := cell_belowBy (D2.out wz HB6.out)
                    have q3 := cell_belowBy (D3.out wz HB6.out)
                    have q4 := cell_belowBy (D4.out wz HB6.out)
                    have q5 := cell_belowBy (D5.out wz HB6.out)
                    have z0 := lt_of_cell (D2.out wz HB6.out)
                    clear e0
                    go_wp2_with fail
                    refine wp_region_quiet_below mixed (by kernel_rfl) ?_
                    repeat (go_big_quiet_step ((go_at_call 18; exact calls_belowBy (FRK.out _ (HB6.out.trans ((BelowBy.below _).mono HB6.out.size))))))
                    refine wpQuiet_nil ?_
                    intro w8 hw'
                    obtain ⟨⟨wq, hbq⟩, hw''⟩ := hw'
                    subst hw''
                    clear q0 q2 q3 q4 q5
                    have hlt := HLT.out
                    go_wp2
                    go_roundw
                    case rel => exact ⟨i + 1, by go_num, by omega, by rw [HNS.out, show 2 * (i + 1) = 2 * i + 2 by omega]; exact own_later HO5.out hbq, by rw [HPS.out, show 2 * (i + 1) = 2 * i + 2 by omega]; exact own_later HO6.out hbq, HB6.out.trans (hbq.mono HB6.out.size)⟩
                    case measure => simp [intOf]; omega
              · obtain rfl : i = K := by omega
                have HTK := Lib.hid (show (keysP l).take i = keysP l from List.take_of_length_le (by rw [HK.out]; exact Nat.le_refl _))
                rw [HTK.out] at HO1 HO2
                obtain ⟨a1, c1, e1⟩ := own_form HO1.out
                obtain ⟨a2, c2, e2⟩ := own_form HO2.out
                subst e1 e2
                clear FR HCB
                by_cases hK0 : i = 0
                · subst hK0
                  go_wp2
                  go_ret
                  exact ⟨rfl, BR⟩
                · obtain ⟨n, hn⟩ : ∃ z, z = 2 * i := ⟨_, rfl⟩
                  rw [← hn] at HO1 HO2 ⊢
                  have hn1 : 0 < n := by omega
                  have hn600 : n ≤ 600 := by omega
                  have hnl : (ndsK (keysP l)).length = n := by rw [nds_len, HK.out, hn]
                  have HNL := Lib.hid hnl
                  clear hn hnl hlt
                  have hn2 : ¬ (n : Int) = 0 := by omega
                  have hn3 : ((n : Int) == 0) = false := by rw [beq_eq_false_iff_ne]; omega
                  obtain ⟨ka, hka⟩ : ∃ k : Nat, (k : Int) = one.tmod n := ⟨(one.tmod n).toNat, by have := Int.tmod_nonneg (a := one) (n : Int) hr0; omega⟩
                  have hkan : ka < n := by have := Int.tmod_lt_of_pos one (show (0 : Int) < (n : Int) by omega); omega
                  obtain ⟨kb, hkb⟩ : ∃ k : Nat, (k : Int) = two.tmod n := ⟨(two.tmod n).toNat, by have := Int.tmod_nonneg (a := two) (n : Int) hs0; omega⟩
                  have hkbn : kb < n := by have := Int.tmod_lt_of_pos two (show (0 : Int) < (n : Int) by omega); omega
                  have hka3 := hka.symm
                  have hkb3 := hkb.symm
                  have wr0 : IntKind.i64.wrap one = one := IntWalk.i64_in _ (by omega)
                  have wr1 : IntKind.i64.wrap two = two := IntWalk.i64_in _ (by omega)
                  have hwa : IntKind.i64.wrap (ka : Int) = (ka : Int) := IntWalk.i64_in _ (by omega)
                  have hwb : IntKind.i64.wrap (kb : Int) = (kb : Int) := IntWalk.i64_in _ (by omega)
                  clear hka hkb
                  obtain ⟨xa, hxa⟩ : ∃ x, (ndsK (keysP l))[ka]? = some x := ⟨(ndsK (keysP l))[ka]'(by rw [HNL.out]; exact hkan), List.getElem?_eq_getElem _⟩
                  obtain ⟨xb, hxb⟩ : ∃ x, (ndsK (keysP l))[kb]? = some x := ⟨(ndsK (keysP l))[kb]'(by rw [HNL.out]; exact hkbn), List.getElem?_eq_getElem _⟩
                  go_upto_region 18 with fail
                  obtain ⟨g1, rfl⟩ : ∃ g, a1 = some ⟨g, 0, none⟩ := by
                    rcases HO1.out.2 with ⟨_, h0⟩ | ⟨g, cap, cur, ev, _⟩
                    · omega
                    · injection ev with e1; exact ⟨g, e1⟩
                  obtain ⟨g2, rfl⟩ : ∃ g, a2 = some ⟨g, 0, none⟩ := by
                    rcases HO2.out.2 with ⟨_, h0⟩ | ⟨g, cap, cur, ev, _⟩
                    · omega
                    · injection ev with e1; exact ⟨g, e1⟩
                  have hpt : ∀ (k : Nat) (x : ByteArray), (ndsK (keysP l))[k]? = some x → wr.cell? ⟨g1, k, none⟩ = some (.string x) ∧ wr.cell? ⟨g2, k * 2, none⟩ = some (.int .i64 (ptO l x).1) ∧ wr.cell? ⟨g2, k * 2 + 1, none⟩ = some (.int .i64 (ptO l x).2) ∧ x ∈ nodesP l := fun k x hx => by
                    have e1 := HO1.out.cells (g := g1) rfl k (.string x) (by rw [List.getElem?_map, hx]; rfl)
                    have hp : (ptsN l (keysP l))[k]? = some (ptO l x) := by rw [pts_map, List.getElem?_map, hx]; rfl
                    have e2 := HO2.out.cells (g := g2) rfl (k * 2 + 0) _ ((flat_get encPt 2 encPt_len _ k 0 _ hp (by omega)).trans rfl)
                    have e3 := HO2.out.cells (g := g2) rfl (k * 2 + 1) _ ((flat_get encPt 2 encPt_len _ k 1 _ hp (by omega)).trans rfl)
                    rw [Addr.add_lit, Nat.zero_add] at e1 e2 e3
                    refine ⟨e1, e2, e3, ?_⟩
                    have hm := List.mem_of_getElem? hx
                    unfold ndsK at hm
                    obtain ⟨kk, hk1, hk2⟩ := List.mem_flatMap.1 hm
                    simp only [List.mem_cons, List.not_mem_nil, or_false] at hk2
                    exact nodes_mem.2 ⟨kk, hk1, hk2⟩
                  obtain ⟨ca, ca1, ca2, hxan⟩ := hpt ka xa hxa
                  obtain ⟨cb, cb1, cb2, hxbn⟩ := hpt kb xb hxb
                  have HXA := Lib.hid hxan
                  have HXB := Lib.hid hxbn
                  have CA := Lib.hid (fun W (hb : Below wr.heap.size wr W) => cell_later hb ca)
                  have CA1 := Lib.hid (fun W (hb : Below wr.heap.size wr W) => cell_later hb ca1)
                  have CA2 := Lib.hid (fun W (hb : Below wr.heap.size wr W) => cell_later hb ca2)
                  have CB := Lib.hid (fun W (hb : Below wr.heap.size wr W) => cell_later hb cb)
                  have CB1 := Lib.hid (fun W (hb : Below wr.heap.size wr W) => cell_later hb cb1)
                  have CB2 := Lib.hid (fun W (hb : Below wr.heap.size wr W) => cell_later hb cb2)
                  have HSZ := Lib.hid (objs_size (HV.out.later BR))
                  have ZA := Lib.hid (ids_size HSZ.out (node_id (node_at hxan)))
                  have ZB := Lib.hid (ids_size HSZ.out (node_id (node_at hxbn)))
                  have hka0 : (0 : Int) ≤ (ka : Int) := by omega
                  have hka1 : (ka : Int) < (n : Int) := by omega
                  have hkb0 : (0 : Int) ≤ (kb : Int) := by omega
                  have hkb1 : (kb : Int) < (n : Int) := by omega
                  clear hpt hxa hxb ca ca1 ca2 cb cb1 cb2 hxan hxbn HO1 HO2 hka3 hkb3 wr0 wr1 hwa hwb
                  obtain ⟨wa, hwa⟩ : ∃ z : World, z = wr := ⟨_, rfl⟩
                  subst hwa
                  obtain ⟨o, ho⟩ : ∃ z, z = wayD id [xa, xb] := ⟨_, rfl⟩
                  have HOD := Lib.hid ho
                  have hlen := HLN.out
                  have PT := Lib.hid (fun (W : World) (g : Nat) (hb : Below wa.heap.size wa W) (hg : W.heap[g]? = some (.cells #[.string xa, .string xb] 9)) => (show Calls Tryz.prog 26 #[.agg #[.slice a N cap], .agg #[.string id, .int .i64 2, .int .i64 0, .int .i64 0, .slice (some ⟨g, 0, none⟩) 2 2, .slice none 0 0]] W (PutPostO o l W) by
                    have := put_any _ l o (.slice (some ⟨g, 0, none⟩) 2 2) (.slice none 0 0) W (HV.out.later (B6.trans ((HBR.out.trans (hb.mono HBR.out.size)).mono B6.size))) HOK.out (by omega) (by rw [ho]; exact HNO.out) (by
                      rw [ho]
                      exact ⟨StrRow.of_block (cap := 2) (l := [xa, xb]) rfl hg (by simp) (fun s hs => by
                        simp only [List.mem_cons, List.not_mem_nil, or_false] at hs
                        rcases hs with rfl | rfl
                        · exact ZA.out
                        · exact ZB.out) 2 rfl, TagRow.nil _, (by show id.size ≤ _; omega)⟩)
                    rw [ho] at this ⊢
                    exact this))
                  clear ho
                  have WY := Lib.hid (fun (W : World) (g : Nat) (hb : Below wa.heap.size wa W) (hg : W.heap[g]? = some (.cells #[.string xa, .string xb] 9)) => way_any id (.slice (some ⟨g, 0, none⟩) 2 2) [xa, xb] W (StrRow.of_block (cap := 2) (l := [xa, xb]) rfl hg (by simp) (fun s hs => by
                    simp only [List.mem_cons, List.not_mem_nil, or_false] at hs
                    rcases hs with rfl | rfl
                    · exact ZA.out
                    · exact ZB.out) 2 rfl))
                  go_cut [16, 17] from 109 to 124 (fun v16 v17 wx => ∃ (x : PutX) (g3 : Nat), v16 = .pointer (some ⟨g3, 0, none⟩) ∧ v17 = putE x ∧ PutT o l wa x wx ∧ wx.heap[g3]? = some (.cells #[putA x] 24))
                  case first =>
                    as_aux_lemma =>
                      go_wp2_with fail
                      refine wp_region_nodes 10 9 (fun W => Below wa.heap.size wa W) (fun W => Below wa.heap.size wa W) mixed (by kernel_rfl) (by kernel_rfl) (by kernel_rfl) (StableW.below _ _ (Nat.le_refl _)) (fun W hW => hW) (Below.refl _ _).drew rfl ?_
                      apply Exists.intro
                      refine ⟨fun W hW => ?_, ?_⟩
                      · have e0 := cell_of_row _ _ 0 _ _ _ (row_later hW HXr.out)
                        simp only [List.getElem?_toArray, List.getElem?_cons_zero] at e0
                        have q0 := cell_belowBy e0
                        have y0 := lt_of_cell e0
                        have q1 := cell_belowBy (CA.out W hW)
                        have q2 := cell_belowBy (CB.out W hW)
                        have y1 := lt_of_cell (CA.out W hW)
                        clear e0
                        simp only [List.take_succ_cons, List.take_zero]
                        repeat (go_big_quiet_step (fail))
                        exact wpQuiet_nil rfl
                      · refine any_two 10 16 (by kernel_rfl) rfl rfl rfl rfl ?_ ?_
                        · refine LoudB.mk' (ι := Nat) (fun g => .slice (some ⟨g, 0, none⟩) 2 2) (fun g W => Below wa.heap.size wa W ∧ W.heap[g]? = some (.cells #[.string xa, .string xb] 9)) (fun g => (StableW.below _ _ (Nat.le_refl _)).and (StableW.row _ _)) (fun _ _ h => h.1) (fun W hS K' hK' => ?_) (fun g => ?_)
                          · go_simp
                            exact hK' W.heap.size _ ⟨hS.alloc hS.size _, row_new _ _⟩
                          simp only [Act.put, List.getElem_toArray, List.getElem_cons_succ, List.getElem_cons_zero, List.setIfInBounds_toArray, List.set_cons_succ, List.set_cons_zero]
                          refine any_two 11 16 (by kernel_rfl) rfl rfl rfl rfl ?_ ?_
                          · refine LoudB.mk' (ι := Unit) (fun _ => .agg #[.string id, .int .i64 2, .int .i64 0, .int .i64 0, .slice (some ⟨g, 0, none⟩) 2 2, .slice none 0 0]) (fun _ W => Below wa.heap.size wa W ∧ W.heap[g]? = some (.cells #[.string xa, .string xb] 9)) (fun _ => (StableW.below _ _ (Nat.le_refl _)).and (StableW.row _ _)) (fun _ _ h => h.1) (fun W hS K' hK' => ?_) (fun _ => ?_)
                            · go_simp
                              refine (WY.out W g hS.1 hS.2).mono ?_
                              rintro e w9 ⟨rfl, hb⟩
                              exact hK' () w9 ⟨hS.1.trans (hb.mono hS.1.size), row_later hb hS.2⟩
                            simp only [Act.put, List.getElem_toArray, List.getElem_cons_succ, List.getElem_cons_zero, List.setIfInBounds_toArray, List.set_cons_succ, List.set_cons_zero]
                            refine any_two 12 16 (by kernel_rfl) rfl rfl rfl rfl ?_ ?_
                            · refine LoudB.mk' (ι := PutX) (fun x => .tuple #[.agg #[putA x], putE x]) (PutT o l wa) (fun x => PutT.stable _ _ _ _) (fun _ _ h => h.1) (fun W hS K' hK' => ?_) (fun x => ?_)
                              · go_simp
                                refine (PT.out W g hS.1 hS.2).mono ?_
                                rintro e w9 ⟨hpp, hb⟩
                                have hbw := (hS.1).trans (hb.mono (hS.1).size)
                                rcases hpp with ⟨hob, rfl⟩ | ⟨hob, v8, pi, rfl, hpl, hv8⟩
                                · exact hK' none w9 ⟨hbw, hob⟩
                                · have hv9 := hv8
                                  obtain ⟨a8, c8, rfl, _⟩ := hv8
                                  exact hK' (some (a8, _, c8)) w9 ⟨hbw, hob, pi, hpl, hv9⟩
                              simp only [Act.put, List.getElem_toArray, List.getElem_cons_succ, List.getElem_cons_zero, List.setIfInBounds_toArray, List.set_cons_succ, List.set_cons_zero]
                              -- the three pure operations; stable: (PutT.stable o l wa x), below: h.1
                              refine any_quiet (fuel := 5) (S := PutT o l wa x) 13 (.tuple #[.agg #[putA x], putE x]) (PutT.stable o l wa x) (fun _ h => h.1) rfl (by kernel_rfl) (by kernel_rfl) (by kernel_rfl) rfl (QuietB.pure fun w => ?_) ?_
                              · go_simp
                              simp only [Act.put, List.getElem_toArray, List.getElem_cons_succ, List.getElem_cons_zero, List.setIfInBounds_toArray, List.set_cons_succ, List.set_cons_zero]
                              refine any_quiet (fuel := 4) (S := PutT o l wa x) 14 (.agg #[putA x]) (PutT.stable o l wa x) (fun _ h => h.1) rfl (by kernel_rfl) (by kernel_rfl) (by kernel_rfl) rfl (QuietB.pure fun w => ?_) ?_
                              · go_simp
                              simp only [Act.put, List.getElem_toArray, List.getElem_cons_succ, List.getElem_cons_zero, List.setIfInBounds_toArray, List.set_cons_succ, List.set_cons_zero]
                              refine any_quiet (fuel := 3) (S := PutT o l wa x) 15 (putE x) (PutT.stable o l wa x) (fun _ h => h.1) rfl (by kernel_rfl) (by kernel_rfl) (by kernel_rfl) rfl (QuietB.pure fun w => ?_) ?_
                              · go_simp
                              simp only [Act.put, List.getElem_toArray, List.getElem_cons_succ, List.getElem_cons_zero, List.setIfInBounds_toArray, List.set_cons_succ, List.set_cons_zero]
                              refine any_one 16 (by kernel_rfl) rfl rfl ?_
                              -- the new map variable, where PutT o l wa x W holds (stable: PutT.stable _ _ _ _)
                              refine LoudB.mk' (ι := Nat) (fun g3 => .pointer (some ⟨g3, 0, none⟩)) (fun g3 W => (PutT o l wa x W) ∧ FreeG wa g3 W) (fun g3 => StableW.and (PutT.stable _ _ _ _) (FreeG.stable wa g3)) (fun _ _ h => h.1.1) (fun W hS K' hK' => ?_) (fun g3 => ?_)
                              · have hST : StableW (fun W => PutT o l wa x W) := PutT.stable _ _ _ _
                                have h2 := hST _ _ hS ((Below.refl W.heap.size W).alloc (Nat.le_refl _) (.cells #[.slice none 0 0] 24))
                                have h3 : wa.heap.size ≤ W.heap.size := Below.size (hS.1)
                                go_simp
                                exact hK' W.heap.size _ ⟨h2, row_new _ _, h3⟩
                              simp only [Act.put, List.getElem_toArray, List.getElem_cons_succ, List.getElem_cons_zero, List.setIfInBounds_toArray, List.set_cons_succ, List.set_cons_zero]
                              refine any_one 17 (by kernel_rfl) rfl rfl ?_
                              refine LoudB.mk' (ι := Unit) (fun _ => undef) (fun _ W => PutT o l wa x W ∧ W.heap[g3]? = some (.cells #[putA x] 24)) (fun _ => (PutT.stable _ _ _ _).and (StableW.row _ _)) (fun _ _ h => h.1.1) (fun W hS K' hK' => ?_) (fun _ => ?_)
                              · obtain ⟨⟨h1, h2⟩, h4, h3⟩ := hS
                                have H5 := setCells_block [putA x] 0 W _ h4
                                have hgr := setCells_grown (g := g3) [putA x] 0 W
                                simp only [World.setCells] at H5 hgr
                                have H5' := Lib.hid H5
                                have H6 := Lib.hid (h1.setCell (p := ⟨g3, 0, none⟩) h3 (putA x))
                                have H7 := Lib.hid (h2.apart h4 hgr)
                                have H4 := Lib.hid h4
                                clear h1 h2 h3 h4 H5 hgr
                                have kz := lt_of_block H4.out
                                have k0 := cell_of_row W _ 0 _ _ _ H4.out
                                have kf0 := frozen_of_row W _ 0 _ _ H4.out
                                simp only [List.getElem?_toArray, List.getElem?_cons_zero] at k0
                                cases x with
                                | none =>
                                  simp only [putA] at H5' H6 H7 ⊢
                                  go_simp
                                  exact hK' () _ ⟨⟨H6.out, H7.out⟩, H5'.out⟩
                                | some y =>
                                  simp only [putA] at H5' H6 H7 ⊢
                                  go_simp
                                  exact hK' () _ ⟨⟨H6.out, H7.out⟩, H5'.out⟩
                              simp only [Act.put, List.getElem_toArray, List.getElem_cons_succ, List.getElem_cons_zero]
                              refine any_one 18 (by kernel_rfl) rfl rfl ?_
                              refine LoudB.mk' (ι := Unit) (fun _ => putE x) (fun _ W => PutT o l wa x W ∧ W.heap[g3]? = some (.cells #[putA x] 24)) (fun _ => (PutT.stable _ _ _ _).and (StableW.row _ _)) (fun _ _ h => h.1.1) (fun W hS K' hK' => ?_) (fun _ => ?_)
                              · have hK2 := hK' () W hS
                                clear hS
                                go_simp
                                exact hK2
                              simp only [Act.put, List.getElem_toArray, List.getElem_cons_succ, List.getElem_cons_zero, List.setIfInBounds_toArray, List.set_cons_succ, List.set_cons_zero]
                              refine any_end (by kernel_rfl) (fun W hW => ?_)
                              go_wp2
                              go_meet
                              case rel => exact ⟨x, g3, rfl, rfl, hW.1, hW.2⟩
                            · -- the new map variable, where Below wa.heap.size wa W ∧ W.heap[g]? = some (.cells #[.string xa, .string xb] 9) holds (stable: (StableW.below _ _ (Nat.le_refl _)).and (StableW.row _ _))
                              refine LoudB.mk' (ι := Nat) (fun g3 => .pointer (some ⟨g3, 0, none⟩)) (fun g3 W => (Below wa.heap.size wa W ∧ W.heap[g]? = some (.cells #[.string xa, .string xb] 9)) ∧ FreeG wa g3 W) (fun g3 => StableW.and ((StableW.below _ _ (Nat.le_refl _)).and (StableW.row _ _)) (FreeG.stable wa g3)) (fun _ _ h => h.1.1) (fun W hS K' hK' => ?_) (fun g3 => ?_)
                              · have hST : StableW (fun W => Below wa.heap.size wa W ∧ W.heap[g]? = some (.cells #[.string xa, .string xb] 9)) := (StableW.below _ _ (Nat.le_refl _)).and (StableW.row _ _)
                                have h2 := hST _ _ hS ((Below.refl W.heap.size W).alloc (Nat.le_refl _) (.cells #[.slice none 0 0] 24))
                                have h3 : wa.heap.size ≤ W.heap.size := Below.size (hS.1)
                                go_simp
                                exact hK' W.heap.size _ ⟨h2, row_new _ _, h3⟩
                              simp only [Act.put, List.getElem_toArray, List.getElem_cons_succ, List.getElem_cons_zero, List.setIfInBounds_toArray, List.set_cons_succ, List.set_cons_zero]
                              refine any_one 12 (by kernel_rfl) rfl rfl ?_
                              -- Put's call behind the new variable, and all that follows
                              refine LoudB.mk' (ι := PutX) (fun x => .tuple #[.agg #[putA x], putE x]) (fun x W => PutT o l wa x W ∧ FreeG wa g3 W) (fun x => (PutT.stable _ _ _ _).and (FreeG.stable _ _)) (fun _ _ h => h.1.1) (fun W hS K' hK' => ?_) (fun x => ?_)
                              · go_simp
                                refine (PT.out W g hS.1.1 hS.1.2).mono ?_
                                rintro e w9 ⟨hpp, hb⟩
                                have hbw := (hS.1.1).trans (hb.mono (hS.1.1).size)
                                rcases hpp with ⟨hob, rfl⟩ | ⟨hob, v8, pi, rfl, hpl, hv8⟩
                                · exact hK' none w9 ⟨⟨hbw, hob⟩, FreeG.stable _ _ _ _ hS.2 hb⟩
                                · have hv9 := hv8
                                  obtain ⟨a8, c8, rfl, _⟩ := hv8
                                  exact hK' (some (a8, _, c8)) w9 ⟨⟨hbw, hob, pi, hpl, hv9⟩, FreeG.stable _ _ _ _ hS.2 hb⟩
                              simp only [Act.put, List.getElem_toArray, List.getElem_cons_succ, List.getElem_cons_zero, List.setIfInBounds_toArray, List.set_cons_succ, List.set_cons_zero]
                              -- the three pure operations; stable: ((PutT.stable o l wa x).and (FreeG.stable wa g3)), below: h.1.1
                              refine any_quiet (fuel := 4) (S := fun W => PutT o l wa x W ∧ FreeG wa g3 W) 13 (.tuple #[.agg #[putA x], putE x]) ((PutT.stable o l wa x).and (FreeG.stable wa g3)) (fun _ h => h.1.1) rfl (by kernel_rfl) (by kernel_rfl) (by kernel_rfl) rfl (QuietB.pure fun w => ?_) ?_
                              · go_simp
                              simp only [Act.put, List.getElem_toArray, List.getElem_cons_succ, List.getElem_cons_zero, List.setIfInBounds_toArray, List.set_cons_succ, List.set_cons_zero]
                              refine any_quiet (fuel := 3) (S := fun W => PutT o l wa x W ∧ FreeG wa g3 W) 14 (.agg #[putA x]) ((PutT.stable o l wa x).and (FreeG.stable wa g3)) (fun _ h => h.1.1) rfl (by kernel_rfl) (by kernel_rfl) (by kernel_rfl) rfl (QuietB.pure fun w => ?_) ?_
                              · go_simp
                              simp only [Act.put, List.getElem_toArray, List.getElem_cons_succ, List.getElem_cons_zero, List.setIfInBounds_toArray, List.set_cons_succ, List.set_cons_zero]
                              refine any_quiet (fuel := 2) (S := fun W => PutT o l wa x W ∧ FreeG wa g3 W) 15 (putE x) ((PutT.stable o l wa x).and (FreeG.stable wa g3)) (fun _ h => h.1.1) rfl (by kernel_rfl) (by kernel_rfl) (by kernel_rfl) rfl (QuietB.pure fun w => ?_) ?_
                              · go_simp
                              simp only [Act.put, List.getElem_toArray, List.getElem_cons_succ, List.getElem_cons_zero, List.setIfInBounds_toArray, List.set_cons_succ, List.set_cons_zero]
                              refine any_one 17 (by kernel_rfl) rfl rfl ?_
                              refine LoudB.mk' (ι := Unit) (fun _ => undef) (fun _ W => PutT o l wa x W ∧ W.heap[g3]? = some (.cells #[putA x] 24)) (fun _ => (PutT.stable _ _ _ _).and (StableW.row _ _)) (fun _ _ h => h.1.1) (fun W hS K' hK' => ?_) (fun _ => ?_)
                              · obtain ⟨⟨h1, h2⟩, h4, h3⟩ := hS
                                have H5 := setCells_block [putA x] 0 W _ h4
                                have hgr := setCells_grown (g := g3) [putA x] 0 W
                                simp only [World.setCells] at H5 hgr
                                have H5' := Lib.hid H5
                                have H6 := Lib.hid (h1.setCell (p := ⟨g3, 0, none⟩) h3 (putA x))
                                have H7 := Lib.hid (h2.apart h4 hgr)
                                have H4 := Lib.hid h4
                                clear h1 h2 h3 h4 H5 hgr
                                have kz := lt_of_block H4.out
                                have k0 := cell_of_row W _ 0 _ _ _ H4.out
                                have kf0 := frozen_of_row W _ 0 _ _ H4.out
                                simp only [List.getElem?_toArray, List.getElem?_cons_zero] at k0
                                cases x with
                                | none =>
                                  simp only [putA] at H5' H6 H7 ⊢
                                  go_simp
                                  exact hK' () _ ⟨⟨H6.out, H7.out⟩, H5'.out⟩
                                | some y =>
                                  simp only [putA] at H5' H6 H7 ⊢
                                  go_simp
                                  exact hK' () _ ⟨⟨H6.out, H7.out⟩, H5'.out⟩
                              simp only [Act.put, List.getElem_toArray, List.getElem_cons_succ, List.getElem_cons_zero]
                              refine any_one 18 (by kernel_rfl) rfl rfl ?_
                              refine LoudB.mk' (ι := Unit) (fun _ => putE x) (fun _ W => PutT o l wa x W ∧ W.heap[g3]? = some (.cells #[putA x] 24)) (fun _ => (PutT.stable _ _ _ _).and (StableW.row _ _)) (fun _ _ h => h.1.1) (fun W hS K' hK' => ?_) (fun _ => ?_)
                              · have hK2 := hK' () W hS
                                clear hS
                                go_simp
                                exact hK2
                              simp only [Act.put, List.getElem_toArray, List.getElem_cons_succ, List.getElem_cons_zero, List.setIfInBounds_toArray, List.set_cons_succ, List.set_cons_zero]
                              refine any_end (by kernel_rfl) (fun W hW => ?_)
                              go_wp2
                              go_meet
                              case rel => exact ⟨x, g3, rfl, rfl, hW.1, hW.2⟩
                          · -- the new map variable, where Below wa.heap.size wa W ∧ W.heap[g]? = some (.cells #[.string xa, .string xb] 9) holds (stable: (StableW.below _ _ (Nat.le_refl _)).and (StableW.row _ _))
                            refine LoudB.mk' (ι := Nat) (fun g3 => .pointer (some ⟨g3, 0, none⟩)) (fun g3 W => (Below wa.heap.size wa W ∧ W.heap[g]? = some (.cells #[.string xa, .string xb] 9)) ∧ FreeG wa g3 W) (fun g3 => StableW.and ((StableW.below _ _ (Nat.le_refl _)).and (StableW.row _ _)) (FreeG.stable wa g3)) (fun _ _ h => h.1.1) (fun W hS K' hK' => ?_) (fun g3 => ?_)
                            · have hST : StableW (fun W => Below wa.heap.size wa W ∧ W.heap[g]? = some (.cells #[.string xa, .string xb] 9)) := (StableW.below _ _ (Nat.le_refl _)).and (StableW.row _ _)
                              have h2 := hST _ _ hS ((Below.refl W.heap.size W).alloc (Nat.le_refl _) (.cells #[.slice none 0 0] 24))
                              have h3 : wa.heap.size ≤ W.heap.size := Below.size (hS.1)
                              go_simp
                              exact hK' W.heap.size _ ⟨h2, row_new _ _, h3⟩
                            simp only [Act.put, List.getElem_toArray, List.getElem_cons_succ, List.getElem_cons_zero, List.setIfInBounds_toArray, List.set_cons_succ, List.set_cons_zero]
                            refine any_one 11 (by kernel_rfl) rfl rfl ?_
                            refine LoudB.mk' (ι := Unit) (fun _ => .agg #[.string id, .int .i64 2, .int .i64 0, .int .i64 0, .slice (some ⟨g, 0, none⟩) 2 2, .slice none 0 0]) (fun _ W => (Below wa.heap.size wa W ∧ W.heap[g]? = some (.cells #[.string xa, .string xb] 9)) ∧ FreeG wa g3 W) (fun _ => ((StableW.below _ _ (Nat.le_refl _)).and (StableW.row _ _)).and (FreeG.stable _ _)) (fun _ _ h => h.1.1) (fun W hS K' hK' => ?_) (fun _ => ?_)
                            · go_simp
                              refine (WY.out W g hS.1.1 hS.1.2).mono ?_
                              rintro e w9 ⟨rfl, hb⟩
                              exact hK' () w9 ⟨⟨hS.1.1.trans (hb.mono hS.1.1.size), row_later hb hS.1.2⟩, FreeG.stable _ _ _ _ hS.2 hb⟩
                            simp only [Act.put, List.getElem_toArray, List.getElem_cons_succ, List.getElem_cons_zero, List.setIfInBounds_toArray, List.set_cons_succ, List.set_cons_zero]
                            refine any_one 12 (by kernel_rfl) rfl rfl ?_
                            -- Put's call behind the new variable, and all that follows
                            refine LoudB.mk' (ι := PutX) (fun x => .tuple #[.agg #[putA x], putE x]) (fun x W => PutT o l wa x W ∧ FreeG wa g3 W) (fun x => (PutT.stable _ _ _ _).and (FreeG.stable _ _)) (fun _ _ h => h.1.1) (fun W hS K' hK' => ?_) (fun x => ?_)
                            · go_simp
                              refine (PT.out W g hS.1.1 hS.1.2).mono ?_
                              rintro e w9 ⟨hpp, hb⟩
                              have hbw := (hS.1.1).trans (hb.mono (hS.1.1).size)
                              rcases hpp with ⟨hob, rfl⟩ | ⟨hob, v8, pi, rfl, hpl, hv8⟩
                              · exact hK' none w9 ⟨⟨hbw, hob⟩, FreeG.stable _ _ _ _ hS.2 hb⟩
                              · have hv9 := hv8
                                obtain ⟨a8, c8, rfl, _⟩ := hv8
                                exact hK' (some (a8, _, c8)) w9 ⟨⟨hbw, hob, pi, hpl, hv9⟩, FreeG.stable _ _ _ _ hS.2 hb⟩
                            simp only [Act.put, List.getElem_toArray, List.getElem_cons_succ, List.getElem_cons_zero, List.setIfInBounds_toArray, List.set_cons_succ, List.set_cons_zero]
                            -- the three pure operations; stable: ((PutT.stable o l wa x).and (FreeG.stable wa g3)), below: h.1.1
                            refine any_quiet (fuel := 4) (S := fun W => PutT o l wa x W ∧ FreeG wa g3 W) 13 (.tuple #[.agg #[putA x], putE x]) ((PutT.stable o l wa x).and (FreeG.stable wa g3)) (fun _ h => h.1.1) rfl (by kernel_rfl) (by kernel_rfl) (by kernel_rfl) rfl (QuietB.pure fun w => ?_) ?_
                            · go_simp
                            simp only [Act.put, List.getElem_toArray, List.getElem_cons_succ, List.getElem_cons_zero, List.setIfInBounds_toArray, List.set_cons_succ, List.set_cons_zero]
                            refine any_quiet (fuel := 3) (S := fun W => PutT o l wa x W ∧ FreeG wa g3 W) 14 (.agg #[putA x]) ((PutT.stable o l wa x).and (FreeG.stable wa g3)) (fun _ h => h.1.1) rfl (by kernel_rfl) (by kernel_rfl) (by kernel_rfl) rfl (QuietB.pure fun w => ?_) ?_
                            · go_simp
                            simp only [Act.put, List.getElem_toArray, List.getElem_cons_succ, List.getElem_cons_zero, List.setIfInBounds_toArray, List.set_cons_succ, List.set_cons_zero]
                            refine any_quiet (fuel := 2) (S := fun W => PutT o l wa x W ∧ FreeG wa g3 W) 15 (putE x) ((PutT.stable o l wa x).and (FreeG.stable wa g3)) (fun _ h => h.1.1) rfl (by kernel_rfl) (by kernel_rfl) (by kernel_rfl) rfl (QuietB.pure fun w => ?_) ?_
                            · go_simp
                            simp only [Act.put, List.getElem_toArray, List.getElem_cons_succ, List.getElem_cons_zero, List.setIfInBounds_toArray, List.set_cons_succ, List.set_cons_zero]
                            refine any_one 17 (by kernel_rfl) rfl rfl ?_
                            refine LoudB.mk' (ι := Unit) (fun _ => undef) (fun _ W => PutT o l wa x W ∧ W.heap[g3]? = some (.cells #[putA x] 24)) (fun _ => (PutT.stable _ _ _ _).and (StableW.row _ _)) (fun _ _ h => h.1.1) (fun W hS K' hK' => ?_) (fun _ => ?_)
                            · obtain ⟨⟨h1, h2⟩, h4, h3⟩ := hS
                              have H5 := setCells_block [putA x] 0 W _ h4
                              have hgr := setCells_grown (g := g3) [putA x] 0 W
                              simp only [World.setCells] at H5 hgr
                              have H5' := Lib.hid H5
                              have H6 := Lib.hid (h1.setCell (p := ⟨g3, 0, none⟩) h3 (putA x))
                              have H7 := Lib.hid (h2.apart h4 hgr)
                              have H4 := Lib.hid h4
                              clear h1 h2 h3 h4 H5 hgr
                              have kz := lt_of_block H4.out
                              have k0 := cell_of_row W _ 0 _ _ _ H4.out
                              have kf0 := frozen_of_row W _ 0 _ _ H4.out
                              simp only [List.getElem?_toArray, List.getElem?_cons_zero] at k0
                              cases x with
                              | none =>
                                simp only [putA] at H5' H6 H7 ⊢
                                go_simp
                                exact hK' () _ ⟨⟨H6.out, H7.out⟩, H5'.out⟩
                              | some y =>
                                simp only [putA] at H5' H6 H7 ⊢
                                go_simp
                                exact hK' () _ ⟨⟨H6.out, H7.out⟩, H5'.out⟩
                            simp only [Act.put, List.getElem_toArray, List.getElem_cons_succ, List.getElem_cons_zero]
                            refine any_one 18 (by kernel_rfl) rfl rfl ?_
                            refine LoudB.mk' (ι := Unit) (fun _ => putE x) (fun _ W => PutT o l wa x W ∧ W.heap[g3]? = some (.cells #[putA x] 24)) (fun _ => (PutT.stable _ _ _ _).and (StableW.row _ _)) (fun _ _ h => h.1.1) (fun W hS K' hK' => ?_) (fun _ => ?_)
                            · have hK2 := hK' () W hS
                              clear hS
                              go_simp
                              exact hK2
                            simp only [Act.put, List.getElem_toArray, List.getElem_cons_succ, List.getElem_cons_zero, List.setIfInBounds_toArray, List.set_cons_succ, List.set_cons_zero]
                            refine any_end (by kernel_rfl) (fun W hW => ?_)
                            go_wp2
                            go_meet
                            case rel => exact ⟨x, g3, rfl, rfl, hW.1, hW.2⟩
                        · -- the new map variable, where Below wa.heap.size wa W holds (stable: StableW.below _ _ (Nat.le_refl _))
                          refine LoudB.mk' (ι := Nat) (fun g3 => .pointer (some ⟨g3, 0, none⟩)) (fun g3 W => (Below wa.heap.size wa W) ∧ FreeG wa g3 W) (fun g3 => StableW.and (StableW.below _ _ (Nat.le_refl _)) (FreeG.stable wa g3)) (fun _ _ h => h.1) (fun W hS K' hK' => ?_) (fun g3 => ?_)
                          · have hST : StableW (fun W => Below wa.heap.size wa W) := StableW.below _ _ (Nat.le_refl _)
                            have h2 := hST _ _ hS ((Below.refl W.heap.size W).alloc (Nat.le_refl _) (.cells #[.slice none 0 0] 24))
                            have h3 : wa.heap.size ≤ W.heap.size := Below.size (hS)
                            go_simp
                            exact hK' W.heap.size _ ⟨h2, row_new _ _, h3⟩
                          simp only [Act.put, List.getElem_toArray, List.getElem_cons_succ, List.getElem_cons_zero, List.setIfInBounds_toArray, List.set_cons_succ, List.set_cons_zero]
                          refine any_one 10 (by kernel_rfl) rfl rfl ?_
                          refine LoudB.mk' (ι := Nat) (fun g => .slice (some ⟨g, 0, none⟩) 2 2) (fun g W => (Below wa.heap.size wa W ∧ W.heap[g]? = some (.cells #[.string xa, .string xb] 9)) ∧ FreeG wa g3 W) (fun g => ((StableW.below _ _ (Nat.le_refl _)).and (StableW.row _ _)).and (FreeG.stable _ _)) (fun _ _ h => h.1.1) (fun W hS K' hK' => ?_) (fun g => ?_)
                          · have hf := FreeG.stable _ _ _ _ hS.2 ((Below.refl W.heap.size W).alloc (Nat.le_refl _) (.cells #[.string xa, .string xb] 9))
                            go_simp
                            exact hK' W.heap.size _ ⟨⟨hS.1.alloc hS.1.size _, row_new _ _⟩, hf⟩
                          simp only [Act.put, List.getElem_toArray, List.getElem_cons_succ, List.getElem_cons_zero, List.setIfInBounds_toArray, List.set_cons_succ, List.set_cons_zero]
                          refine any_one 11 (by kernel_rfl) rfl rfl ?_
                          refine LoudB.mk' (ι := Unit) (fun _ => .agg #[.string id, .int .i64 2, .int .i64 0, .int .i64 0, .slice (some ⟨g, 0, none⟩) 2 2, .slice none 0 0]) (fun _ W => (Below wa.heap.size wa W ∧ W.heap[g]? = some (.cells #[.string xa, .string xb] 9)) ∧ FreeG wa g3 W) (fun _ => ((StableW.below _ _ (Nat.le_refl _)).and (StableW.row _ _)).and (FreeG.stable _ _)) (fun _ _ h => h.1.1) (fun W hS K' hK' => ?_) (fun _ => ?_)
                          · go_simp
                            refine (WY.out W g hS.1.1 hS.1.2).mono ?_
                            rintro e w9 ⟨rfl, hb⟩
                            exact hK' () w9 ⟨⟨hS.1.1.trans (hb.mono hS.1.1.size), row_later hb hS.1.2⟩, FreeG.stable _ _ _ _ hS.2 hb⟩
                          simp only [Act.put, List.getElem_toArray, List.getElem_cons_succ, List.getElem_cons_zero, List.setIfInBounds_toArray, List.set_cons_succ, List.set_cons_zero]
                          refine any_one 12 (by kernel_rfl) rfl rfl ?_
                          -- Put's call behind the new variable, and all that follows
                          refine LoudB.mk' (ι := PutX) (fun x => .tuple #[.agg #[putA x], putE x]) (fun x W => PutT o l wa x W ∧ FreeG wa g3 W) (fun x => (PutT.stable _ _ _ _).and (FreeG.stable _ _)) (fun _ _ h => h.1.1) (fun W hS K' hK' => ?_) (fun x => ?_)
                          · go_simp
                            refine (PT.out W g hS.1.1 hS.1.2).mono ?_
                            rintro e w9 ⟨hpp, hb⟩
                            have hbw := (hS.1.1).trans (hb.mono (hS.1.1).size)
                            rcases hpp with ⟨hob, rfl⟩ | ⟨hob, v8, pi, rfl, hpl, hv8⟩
                            · exact hK' none w9 ⟨⟨hbw, hob⟩, FreeG.stable _ _ _ _ hS.2 hb⟩
                            · have hv9 := hv8
                              obtain ⟨a8, c8, rfl, _⟩ := hv8
                              exact hK' (some (a8, _, c8)) w9 ⟨⟨hbw, hob, pi, hpl, hv9⟩, FreeG.stable _ _ _ _ hS.2 hb⟩
                          simp only [Act.put, List.getElem_toArray, List.getElem_cons_succ, List.getElem_cons_zero, List.setIfInBounds_toArray, List.set_cons_succ, List.set_cons_zero]
                          -- the three pure operations; stable: ((PutT.stable o l wa x).and (FreeG.stable wa g3)), below: h.1.1
                          refine any_quiet (fuel := 4) (S := fun W => PutT o l wa x W ∧ FreeG wa g3 W) 13 (.tuple #[.agg #[putA x], putE x]) ((PutT.stable o l wa x).and (FreeG.stable wa g3)) (fun _ h => h.1.1) rfl (by kernel_rfl) (by kernel_rfl) (by kernel_rfl) rfl (QuietB.pure fun w => ?_) ?_
                          · go_simp
                          simp only [Act.put, List.getElem_toArray, List.getElem_cons_succ, List.getElem_cons_zero, List.setIfInBounds_toArray, List.set_cons_succ, List.set_cons_zero]
                          refine any_quiet (fuel := 3) (S := fun W => PutT o l wa x W ∧ FreeG wa g3 W) 14 (.agg #[putA x]) ((PutT.stable o l wa x).and (FreeG.stable wa g3)) (fun _ h => h.1.1) rfl (by kernel_rfl) (by kernel_rfl) (by kernel_rfl) rfl (QuietB.pure fun w => ?_) ?_
                          · go_simp
                          simp only [Act.put, List.getElem_toArray, List.getElem_cons_succ, List.getElem_cons_zero, List.setIfInBounds_toArray, List.set_cons_succ, List.set_cons_zero]
                          refine any_quiet (fuel := 2) (S := fun W => PutT o l wa x W ∧ FreeG wa g3 W) 15 (putE x) ((PutT.stable o l wa x).and (FreeG.stable wa g3)) (fun _ h => h.1.1) rfl (by kernel_rfl) (by kernel_rfl) (by kernel_rfl) rfl (QuietB.pure fun w => ?_) ?_
                          · go_simp
                          simp only [Act.put, List.getElem_toArray, List.getElem_cons_succ, List.getElem_cons_zero, List.setIfInBounds_toArray, List.set_cons_succ, List.set_cons_zero]
                          refine any_one 17 (by kernel_rfl) rfl rfl ?_
                          refine LoudB.mk' (ι := Unit) (fun _ => undef) (fun _ W => PutT o l wa x W ∧ W.heap[g3]? = some (.cells #[putA x] 24)) (fun _ => (PutT.stable _ _ _ _).and (StableW.row _ _)) (fun _ _ h => h.1.1) (fun W hS K' hK' => ?_) (fun _ => ?_)
                          · obtain ⟨⟨h1, h2⟩, h4, h3⟩ := hS
                            have H5 := setCells_block [putA x] 0 W _ h4
                            have hgr := setCells_grown (g := g3) [putA x] 0 W
                            simp only [World.setCells] at H5 hgr
                            have H5' := Lib.hid H5
                            have H6 := Lib.hid (h1.setCell (p := ⟨g3, 0, none⟩) h3 (putA x))
                            have H7 := Lib.hid (h2.apart h4 hgr)
                            have H4 := Lib.hid h4
                            clear h1 h2 h3 h4 H5 hgr
                            have kz := lt_of_block H4.out
                            have k0 := cell_of_row W _ 0 _ _ _ H4.out
                            have kf0 := frozen_of_row W _ 0 _ _ H4.out
                            simp only [List.getElem?_toArray, List.getElem?_cons_zero] at k0
                            cases x with
                            | none =>
                              simp only [putA] at H5' H6 H7 ⊢
                              go_simp
                              exact hK' () _ ⟨⟨H6.out, H7.out⟩, H5'.out⟩
                            | some y =>
                              simp only [putA] at H5' H6 H7 ⊢
                              go_simp
                              exact hK' () _ ⟨⟨H6.out, H7.out⟩, H5'.out⟩
                          simp only [Act.put, List.getElem_toArray, List.getElem_cons_succ, List.getElem_cons_zero]
                          refine any_one 18 (by kernel_rfl) rfl rfl ?_
                          refine LoudB.mk' (ι := Unit) (fun _ => putE x) (fun _ W => PutT o l wa x W ∧ W.heap[g3]? = some (.cells #[putA x] 24)) (fun _ => (PutT.stable _ _ _ _).and (StableW.row _ _)) (fun _ _ h => h.1.1) (fun W hS K' hK' => ?_) (fun _ => ?_)
                          · have hK2 := hK' () W hS
                            clear hS
                            go_simp
                            exact hK2
                          simp only [Act.put, List.getElem_toArray, List.getElem_cons_succ, List.getElem_cons_zero, List.setIfInBounds_toArray, List.set_cons_succ, List.set_cons_zero]
                          refine any_end (by kernel_rfl) (fun W hW => ?_)
                          go_wp2
                          go_meet
                          case rel => exact ⟨x, g3, rfl, rfl, hW.1, hW.2⟩
                  case rest =>
                    obtain ⟨x, g3, rfl, rfl, hpt, hg3⟩ := hcut
                    obtain ⟨wt, rfl⟩ : ∃ z : World, z = wc := ⟨_, rfl⟩
                    have hbt := hpt.1
                    have HPR := Lib.hid hpt.2
                    have BT := below_step BR (Nat.le_refl _) hbt
                    have HXt := Lib.hid (row_later hbt HXr.out)
                    have HG3 := Lib.hid hg3
                    clear hpt hg3 PT WY HXr BR
                    cases x with
                    | none =>
                      simp only [putE]
                      go_wp2_with fail
                      refine wp_region_quiet_below mixed (by kernel_rfl) ?_
                      repeat (go_big_quiet_step (fail))
                      refine wpQuiet_nil ?_
                      intro w8 hw'
                      obtain ⟨⟨wq, hbq⟩, hw''⟩ := hw'
                      subst hw''
                      have BT8 := below_step BT (Nat.le_refl _) hbq
                      clear hbq
                      go_wp2
                      go_ret
                      exact ⟨rfl, BT8⟩
                    | some y =>
                      obtain ⟨a8, n8, c8⟩ := y
                      have hpr := HPR.out
                      simp only [PutR] at hpr
                      obtain ⟨hob, pi, hpl, hv8⟩ := hpr
                      have HOB := Lib.hid hob
                      have HPL := Lib.hid hpl
                      have HV8 := Lib.hid hv8
                      clear HPR hob hpl hv8
                      simp only [putE, putA] at HG3 ⊢
                      have q0 := cell_belowBy (CA.out wt hbt)
                      have q1 := cell_belowBy (CB.out wt hbt)
                      have z0 := lt_of_cell (CA.out wt hbt)
                      by_cases hab : xa = xb
                      · have HAB := Lib.hid hab
                        subst hab
                        go_wp2_with fail
                        refine wp_region_quiet_below mixed (by kernel_rfl) ?_
                        repeat (go_big_quiet_step (fail))
                        refine wpQuiet_nil ?_
                        intro w8 hw'
                        obtain ⟨⟨wq, hbq⟩, hw''⟩ := hw'
                        subst hw''
                        have BT8 := below_step BT (Nat.le_refl _) hbq
                        clear hbq q0 q1 z0
                        go_wp2
                        go_ret
                        exact ⟨rfl, BT8⟩
                      · have n1 := bytes_ne hab
                        go_wp2_with fail
                        refine wp_region_quiet_below mixed (by kernel_rfl) ?_
                        repeat (go_big_quiet_step (fail))
                        refine wpQuiet_nil ?_
                        intro w8 hw'
                        obtain ⟨⟨wq, hbq⟩, hw''⟩ := hw'
                        subst hw''
                        have BT8 := below_step BT (Nat.le_refl _) hbq
                        have HBT := Lib.hid (hbt.trans (hbq.mono hbt.size))
                        replace HXt := Lib.hid (row_later hbq HXt.out)
                        replace HG3 := Lib.hid (row_later hbq HG3.out)
                        replace HV8 := Lib.hid (HV8.out.later hbq)
                        clear hbq hbt BT q0 q1 z0 n1 hab
                        obtain ⟨wu, rfl⟩ : ∃ z : World, z = w8 := ⟨_, rfl⟩
                        go_wp2_with fail
                        go_loopw [18] (fun i wr => ∃ k : Nat, i = .int .i64 k ∧ k ≤ N ∧ Hid (NoRef id l k) ∧ Below wu.heap.size wu wr) (fun i _ => N - (intOf i).toNat)
                        case atStart => exact ⟨0, rfl, by omega, Lib.hid (NoRef.zero id l), Below.refl _ _⟩
                        case round =>
                          obtain ⟨m, rfl, hm, HNR, hbr⟩ := hrel
                          have BR := below_step BT8 (Nat.le_refl _) hbr
                          have HXr := Lib.hid (row_later hbr HXt.out)
                          by_cases hlt : m < N
                          · obtain ⟨y, hy⟩ : ∃ y, L[m]? = some y := ⟨L[m]'(by rw [HN.out]; exact hlt), List.getElem?_eq_getElem _⟩
                            obtain ⟨b2, off2, ha, hcell⟩ := HC.out (by omega)
                            subst ha
                            have hlm : l[m]? = some y.1 := by rw [← HLM.out, List.getElem?_map, hy]; rfl
                            have HNX := Lib.hid (fun hr => HNR.out.next hlm hr)
                            obtain ⟨⟨yr, yc, er, hrl, hrz, hrc⟩, -, -⟩ := HLO.out y (List.mem_of_getElem? hy)
                            have D4 := Lib.hid (fun (W : World) (hb : Below w.heap.size w W) => cell_later hb (hcell m y hy 4 _ rfl))
                            have d4 := D4.out _ BR
                            obtain ⟨⟨yid, ykd, yx, yy, yrefs, ytags⟩, vr, vt⟩ := y
                            simp only [] at er hrl hrz hrc D4 d4 HNX
                            subst er
                            have HRC := Lib.hid hrc
                            have bz := lt_of_cell d4
                            have pz := lt_of_block HXr.out
                            have p0 := cell_of_row wr _ 0 _ _ _ HXr.out
                            simp only [List.getElem?_toArray, List.getElem?_cons_zero] at p0
                            clear hcell hy hlm hrc hrz HNR
                            go_wp2_with fail
                            clear d4 bz
                            clear p0 pz
                            obtain ⟨wo, rfl⟩ : ∃ z : World, z = wr := ⟨_, rfl⟩
                            go_loopw [19] (fun i wr => ∃ j : Nat, i = .int .i64 j ∧ j ≤ yrefs.length ∧ Hid (∀ s ∈ yrefs.take j, s ≠ id) ∧ Below wu.heap.size wu wr) (fun i _ => yrefs.length - (intOf i).toNat)
                            case atStart => exact ⟨0, rfl, by omega, Lib.hid (fun s hs => by simp at hs), hbr⟩
                            case round =>
                              clear hbr BR HXr
                              obtain ⟨j, rfl, hj, HRF, hbr⟩ := hrel
                              have BR := below_step BT8 (Nat.le_refl _) hbr
                              have HXr := Lib.hid (row_later hbr HXt.out)
                              have d4 := D4.out _ BR
                              have bz := lt_of_cell d4
                              have pz := lt_of_block HXr.out
                              have p0 := cell_of_row wr _ 0 _ _ _ HXr.out
                              simp only [List.getElem?_toArray, List.getElem?_cons_zero] at p0
                              by_cases hlj : j < yrefs.length
                              · obtain ⟨s, hs⟩ : ∃ s, yrefs[j]? = some s := ⟨yrefs[j]'hlj, List.getElem?_eq_getElem _⟩
                                obtain ⟨br, offr, har, hcr⟩ := HRC.out (by omega)
                                subst har
                                have v0 := cell_later BR (hcr j s hs)
                                have vz := lt_of_cell v0
                                by_cases hse : s = id
                                · subst hse
                                  clear hcr hs
                                  go_wp2
                                  go_ret
                                  exact ⟨rfl, BR⟩
                                · have HR2 := Lib.hid (show ∀ t ∈ yrefs.take (j + 1), t ≠ id by
                                    obtain ⟨hk', e⟩ := List.getElem?_eq_some_iff.1 hs
                                    rw [List.take_succ_eq_append_getElem hk', e]
                                    intro t ht
                                    rcases List.mem_append.1 ht with ht | ht
                                    · exact HRF.out t ht
                                    · rw [List.mem_singleton.1 ht]; exact hse)
                                  have n1 := bytes_ne hse
                                  clear hcr hs HRF hse
                                  go_wp2
                                  go_roundw
                                  case rel => exact ⟨j + 1, by go_num, by omega, HR2, hbr⟩
                                  case measure => simp [intOf]; omega
                              · obtain rfl : j = yrefs.length := by omega
                                have HN2 := Lib.hid (HNX.out (fun s hs => HRF.out s (by rw [List.take_length]; exact hs)))
                                go_wp2
                                go_roundw
                                case rel => exact ⟨m + 1, by go_num, by omega, HN2, hbr⟩
                                case measure => simp [intOf]; omega
                          · obtain rfl : m = N := by omega
                            have pz := lt_of_block HXr.out
                            have p0 := cell_of_row wr _ 0 _ _ _ HXr.out
                            simp only [List.getElem?_toArray, List.getElem?_cons_zero] at p0
                            go_wp2_with fail
                            clear p0 pz
                            have HREF := Lib.hid (show ∀ x ∈ l, id ∉ x.refs from fun x hx => HNR.out x (by rw [List.take_of_length_le (by rw [HLN.out]; exact Nat.le_refl _)]; exact hx))
                            have hid1 : o.id = id := by rw [HOD.out]; rfl
                            obtain ⟨lm, hlm⟩ : ∃ z, z = insO o pi l := ⟨_, rfl⟩
                            have HNI := Lib.hid (posO_none _ _ HNO.out)
                            have HNE := Lib.hid (show ∀ x ∈ nodesP l, x ≠ id from fun x hx e => by
                              obtain ⟨y, hy, ey⟩ := List.mem_map.1 (node_id (node_at hx))
                              exact HNI.out y hy (ey.trans e))
                            have HMM := Lib.hid (show MoreM l lm o from ⟨HOK.out, by rw [hlm]; exact ins_ok HOB.out HOK.out HPL.out (by rw [hid1]; exact HNI.out) (by rw [HLN.out]; omega), fun x => by rw [hlm]; exact ins_mem x, by rw [hid1]; exact HREF.out, by
                              rw [hid1, HOD.out]
                              show id ∉ [xa, xb]
                              simp only [List.mem_cons, List.not_mem_nil, or_false]
                              rintro (e | e)
                              · exact HNE.out _ HXA.out e.symm
                              · exact HNE.out _ HXB.out e.symm⟩)
                            have HLML := Lib.hid (show lm.length ≤ 25 by rw [hlm]; unfold insO; rw [List.length_append, List.length_cons, List.length_take, List.length_drop, HLN.out]; omega)
                            have HKM := Lib.hid (show (keysP lm).length ≤ 12 * lm.length from keys_lenR 12 (fun x hx => by
                              rw [hlm] at hx
                              rcases (ins_mem x).1 hx with rfl | hx
                              · rw [HOD.out]; show [xa, xb].length ≤ 12; simp
                              · exact HR12.out x hx))
                            have HFW := Lib.hid (free_way HMM.out HCK.out (by rw [HOD.out]; rfl) (by rw [HOD.out]; rfl) HXA.out HXB.out)
                            have HGr := Lib.hid (row_later hbr HG3.out)
                            have HBr := Lib.hid (HBT.out.trans (hbr.mono HBT.out.size))
                            have SV := Lib.hid (HV.out.later BR)
                            have OL := Lib.hid (HV8.out.later hbr)
                            rw [← hlm] at OL
                            clear HNR hbr hid1 hlm HV8 HG3 HBT
                            have FP := Lib.hid (fun (W : World) (hb : Below wr.heap.size wr W) => free_any _ l (ptO l xa, ptO l xb) W (SV.out.later hb) HOK.out)
                            have CP := Lib.hid (fun (W : World) (hb : Below wr.heap.size wr W) => (check_any _ lm W (OL.out.later hb) HMM.out.2.1 (by have := HLML.out; omega) (by have := HLML.out; have := HKM.out; omega)).mono fun e w' h => (show (∃ (ac : Option Addr) (cc : Nat), e = .returned (.slice ac (checkP lm).length cc)) ∧ Below W.heap.size W w' by
                              obtain ⟨vc, rfl, hvc, hb⟩ := h
                              obtain ⟨ac, cc, rfl, _⟩ := vios_get hvc
                              exact ⟨⟨ac, cc, rfl⟩, hb⟩))
                            have c1 := CA1.out wr HBr.out
                            have c2 := CA2.out wr HBr.out
                            have c3 := CB1.out wr HBr.out
                            have c4 := CB2.out wr HBr.out
                            have c5 := cell_of_row wr _ 0 _ _ _ HGr.out
                            have c6 := cell_of_row wr _ 0 _ _ _ HXr.out
                            simp only [List.getElem?_toArray, List.getElem?_cons_zero] at c5 c6
                            have g1z := lt_of_cell c1
                            have g3z := lt_of_cell c5
                            have gmz := lt_of_cell c6
                            have HB0 := Lib.hid BR
                            clear BR HBr
                            cases hck2 : checkP lm with
                            | nil =>
                              have hff := HFW.out.2 hck2
                              rw [hck2] at CP
                              simp only [List.length_nil] at CP
                              rw [hff] at FP
                              generalize ptO l xa = pta at FP c1 c2
                              generalize ptO l xb = ptb at FP c3 c4
                              obtain ⟨pa1, pa2⟩ := pta
                              obtain ⟨pb1, pb2⟩ := ptb
                              simp only [] at c1 c2 c3 c4
                              clear hck2 hff HFW
                              go_region_held3 (fun w' => w'.cell? ⟨g3, 0, none⟩ = some (.slice a8 n8 c8) ∧ w'.cell? ⟨Bm, 0, none⟩ = some (.slice a m cap) ∧ w'.cell? ⟨g2, ka * 2, none⟩ = some (.int .i64 pa1) ∧ w'.cell? ⟨g2, ka * 2 + 1, none⟩ = some (.int .i64 pa2) ∧ w'.cell? ⟨g2, kb * 2, none⟩ = some (.int .i64 pb1) ∧ w'.cell? ⟨g2, kb * 2 + 1, none⟩ = some (.int .i64 pb2) ∧ Below wr.heap.size wr w')
                                (first
                                  | exact ⟨c5, c6, c1, c2, c3, c4, (Below.refl _ _).drew⟩
                                  | (have hq := ‹_ ∧ _ ∧ _ ∧ _ ∧ _ ∧ _ ∧ Below wr.heap.size wr _›; exact ⟨cell_later hb hq.1, cell_later hb hq.2.1, cell_later hb hq.2.2.1, cell_later hb hq.2.2.2.1, cell_later hb hq.2.2.2.2.1, cell_later hb hq.2.2.2.2.2.1, below_step hq.2.2.2.2.2.2 (Nat.le_refl _) hb⟩)
                                  | assumption)
                                (first
                                  | (go_at_call 18; refine (FP.out _ (‹_ ∧ _ ∧ _ ∧ _ ∧ _ ∧ _ ∧ Below wr.heap.size wr _›).2.2.2.2.2.2).mono ?_; rintro e wa ⟨rfl, hb⟩)
                                  | (go_at_call 16; refine (CP.out _ (‹_ ∧ _ ∧ _ ∧ _ ∧ _ ∧ _ ∧ Below wr.heap.size wr _›).2.2.2.2.2.2).mono ?_; rintro e wb ⟨⟨ac, cc, rfl⟩, hb⟩))
                              have BF := below_step HB0.out (Nat.le_refl _) (‹_ ∧ _ ∧ _ ∧ _ ∧ _ ∧ _ ∧ Below wr.heap.size wr _›).2.2.2.2.2.2
                              go_wp2
                              go_ret
                              exact ⟨rfl, BF⟩
                            | cons kx rest =>
                              have hff : freeP l (ptO l xa, ptO l xb) = false := by
                                rw [Bool.eq_false_iff]
                                intro h
                                rw [HFW.out.1 h] at hck2
                                cases hck2
                              rw [hck2] at CP
                              simp only [List.length_cons] at CP
                              rw [hff] at FP
                              have hp : (((rest.length + 1 : Nat) : Int) == 0) = false := by rw [beq_eq_false_iff_ne]; omega
                              generalize rest.length + 1 = nn at CP hp
                              generalize ptO l xa = pta at FP c1 c2
                              generalize ptO l xb = ptb at FP c3 c4
                              obtain ⟨pa1, pa2⟩ := pta
                              obtain ⟨pb1, pb2⟩ := ptb
                              simp only [] at c1 c2 c3 c4
                              clear hck2 hff HFW
                              go_region_held3 (fun w' => w'.cell? ⟨g3, 0, none⟩ = some (.slice a8 n8 c8) ∧ w'.cell? ⟨Bm, 0, none⟩ = some (.slice a m cap) ∧ w'.cell? ⟨g2, ka * 2, none⟩ = some (.int .i64 pa1) ∧ w'.cell? ⟨g2, ka * 2 + 1, none⟩ = some (.int .i64 pa2) ∧ w'.cell? ⟨g2, kb * 2, none⟩ = some (.int .i64 pb1) ∧ w'.cell? ⟨g2, kb * 2 + 1, none⟩ = some (.int .i64 pb2) ∧ Below wr.heap.size wr w')
                                (first
                                  | exact ⟨c5, c6, c1, c2, c3, c4, (Below.refl _ _).drew⟩
                                  | (have hq := ‹_ ∧ _ ∧ _ ∧ _ ∧ _ ∧ _ ∧ Below wr.heap.size wr _›; exact ⟨cell_later hb hq.1, cell_later hb hq.2.1, cell_later hb hq.2.2.1, cell_later hb hq.2.2.2.1, cell_later hb hq.2.2.2.2.1, cell_later hb hq.2.2.2.2.2.1, below_step hq.2.2.2.2.2.2 (Nat.le_refl _) hb⟩)
                                  | assumption)
                                (first
                                  | (go_at_call 18; refine (FP.out _ (‹_ ∧ _ ∧ _ ∧ _ ∧ _ ∧ _ ∧ Below wr.heap.size wr _›).2.2.2.2.2.2).mono ?_; rintro e wa ⟨rfl, hb⟩)
                                  | (go_at_call 16; refine (CP.out _ (‹_ ∧ _ ∧ _ ∧ _ ∧ _ ∧ _ ∧ Below wr.heap.size wr _›).2.2.2.2.2.2).mono ?_; rintro e wb ⟨⟨ac, cc, rfl⟩, hb⟩))
                              have BF := below_step HB0.out (Nat.le_refl _) (‹_ ∧ _ ∧ _ ∧ _ ∧ _ ∧ _ ∧ Below wr.heap.size wr _›).2.2.2.2.2.2
                              go_wp2
                              go_ret
                              exact ⟨rfl, BF⟩
end Go.Proofs.YtbkomdinchiffaaGreat
