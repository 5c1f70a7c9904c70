/- The reference of layer 13: Valid, Sides. The reference's list of borders in memory. The reference's put. -/
import Derived.Test.YtbkomdinchiffaaGreatBorL
import Derived.Test.YtbkomdinchiffaaGreatOwn
import Derived.Test.YtbkomdinchiffaaGreatMixTF
import Derived.Test.YtbkomdinchiffaaGreatObjQ
import Derived.Test.YtbkomdinchiffaaGreatNod
import Derived.StillTail
import Derived.StillTailTactics
import Derived.Deep.CutBlock
import Derived.Deep.CutRange
import Derived.Test.YtbkomdinchiffaaGreatBorXPE
import Derived.Test.YtbkomdinchiffaaGreatRefS
import Derived.Test.YtbkomdinchiffaaGreatBorY
import Derived.Deep.RegionHeld3
namespace Go.Proofs.YtbkomdinchiffaaGreat
open Go.RowKit Go.Sort

set_option maxRecDepth 100000 in
set_option maxHeartbeats 4000000 in
theorem rvalid13_any (v : Value) (l : List ObjD) (w : World) (hv : ObjsIs w v l) :
    Calls Tryz.prog 47 #[.agg #[v]] w fun e w' => e = .returned (.bool (mapOK l)) ∧ Below w.heap.size w w' := by
  have mixed : Tryz.prog.follows .mixedOrders = true := by kernel_rfl
  have HV := Lib.hid hv
  obtain ⟨a, cap, rfl, hn, hc⟩ := hv
  obtain ⟨N, hN⟩ : ∃ N, l.length = N := ⟨_, rfl⟩
  rw [hN] at hn hc HV ⊢
  have HN := Lib.hid hN
  have HC := Lib.hid hc
  clear hN hc
  by_cases h6 : 1000000 < N
  · have HE := Lib.hid (show mapOK l = false by rw [mapOK, HN.out]; simp; omega)
    go_enter Tryz.func47, Tryz.ntmps47
    go_wp2
    go_ret
    exact ⟨ret_bool HE.out.symm, (Below.refl _ _).alloc (Nat.le_refl _) _⟩
  have HL := Lib.hid (show decide (N ≤ 1000000) = true by rw [decide_eq_true_eq]; omega)
  go_enter Tryz.func47, Tryz.ntmps47
  go_wp2_with fail
  have B1 : Below w.heap.size w (w.alloc (.cells #[.slice a N cap] 24)) := (Below.refl _ w).alloc (Nat.le_refl _) _
  have HM := row_new w (.cells #[.slice a N cap] 24)
  generalize hw1 : w.alloc (.cells #[.slice a N cap] 24) = w1
  rw [hw1] at B1 HM
  clear hw1
  have HMh := Lib.hid HM
  have mz := lt_of_block HM
  have m0 := cell_of_row w1 _ 0 _ _ _ HM
  simp only [List.getElem?_toArray, List.getElem?_cons_zero] at m0
  have HM' := Lib.hid HM
  clear HM
  go_wp2
  clear m0 mz HM'
  go_loopw [3] (fun i wr => ∃ k : Nat, k ≤ N ∧ i = .int .i64 k ∧ objsFrom ⟨#[]⟩ l = objsFrom (lastO l k) (l.drop k) ∧ Below w1.heap.size w1 wr) (fun i _ => N - (intOf i).toNat)
  case atStart => exact ⟨0, by omega, rfl, rfl, Below.refl _ _⟩
  case round =>
    obtain ⟨k, hk, rfl, hT, hbr⟩ := hrel
    have HT := Lib.hid hT
    clear hT
    have HM2 := row_later hbr HMh.out
    have mz := lt_of_block HM2
    have m0 := cell_of_row wr _ 0 _ _ _ HM2
    simp only [List.getElem?_toArray, List.getElem?_cons_zero] at m0
    have HM2' := Lib.hid HM2
    clear HM2
    by_cases hlt : k < N
    · obtain ⟨o, ho⟩ : ∃ o, l[k]? = some o := ⟨l[k]'(by rw [HN.out]; exact hlt), List.getElem?_eq_getElem _⟩
      obtain ⟨b, off, ha, hcell⟩ := HC.out (by omega)
      subst ha
      have HCL := Lib.hid (fun i o hi => ((hcell i o hi).later B1).later hbr)
      obtain ⟨vr, vt, c0, c1, c2, c3, c4, c5, hr, ht, hz⟩ := HCL.out k o ho
      have HD := Lib.hid (objsFrom_drop (lastO l k) l k o ho)
      have HK := Lib.hid (show lastO l (k + 1) = o.id by simp [lastO, ho])
      have RV := Lib.hid (fun w' (hb : Below wr.heap.size wr w') => rvalidO_any o.id o.kind o.x o.y vr vt o.refs o.tags w' hz (hr.later hb) (ht.later hb))
      obtain ⟨ok, hok⟩ : ∃ z, z = objOK o := ⟨_, rfl⟩
      have RV := Lib.hid (show ∀ w' (hb : Below wr.heap.size wr w'), Calls Tryz.prog 75 #[.agg #[.string o.id, .int .i64 o.kind, .int .i64 o.x, .int .i64 o.y, vr, vt]] w' fun e w'' => e = .returned (.bool ok) ∧ Below w'.heap.size w' w'' by rw [hok]; exact RV.out)
      obtain ⟨ar, capr, evr, _⟩ := hr
      obtain ⟨at1, capt, evt, _⟩ := ht
      subst evr evt
      have d0 := cell_belowBy c0
      have d1 := cell_belowBy c1
      have d2 := cell_belowBy c2
      have d3 := cell_belowBy c3
      have d4 := cell_belowBy c4
      have d5 := cell_belowBy c5
      have dm := cell_belowBy m0
      clear hcell ho c0 c1 c2 c3 c4 c5 hz
      cases ok with
      | false =>
        have HE := Lib.hid (show mapOK l = false by unfold mapOK; rw [HT.out, HD.out, ← hok]; simp)
        clear hok
        go_wp2_with fail
        refine wp_region_quiet_below (by assumption) (by kernel_rfl) ?_
        repeat (go_big_quiet_step (first | (go_at_call 75; exact calls_belowBy (RV.out _ (BelowBy.below _)))))
        refine wpQuiet_nil ?_
        intro w6 hw'
        obtain ⟨⟨w7, hb7⟩, hw''⟩ := hw'
        subst hw''
        have B7 := below_step hbr (Nat.le_refl _) hb7
        go_wp2
        go_ret
        exact ⟨ret_bool HE.out.symm, below_step B1 (Nat.le_refl _) B7⟩
      | true =>
        have HO := Lib.hid hok.symm
        clear hok
        rcases k with _ | m
        · have HG := Lib.hid (show objsFrom ⟨#[]⟩ l = objsFrom (lastO l (0 + 1)) (l.drop (0 + 1)) by
            rw [HT.out, HD.out, HO.out, HK.out]
            have : ltB (lastO l 0) o.id = true := lt_empty (obj_name HO.out)
            rw [this]; simp)
          simp only [Nat.zero_mul, Nat.add_zero] at d0 d1 d2 d3 d4 d5
          go_wp2_with fail
          refine wp_region_quiet_below (by assumption) (by kernel_rfl) ?_
          repeat (go_big_quiet_step (first | (go_at_call 75; exact calls_belowBy (RV.out _ (BelowBy.below _)))))
          refine wpQuiet_nil ?_
          intro w6 hw'
          obtain ⟨⟨w7, hb7⟩, hw''⟩ := hw'
          subst hw''
          have B7 := below_step hbr (Nat.le_refl _) hb7
          go_wp2
          go_roundw
          case rel => exact ⟨0 + 1, by omega, by go_num, HG.out, B7⟩
          case measure => simp [intOf]; omega
        · obtain ⟨p, hp⟩ : ∃ p, l[m]? = some p := ⟨l[m]'(by rw [HN.out]; omega), List.getElem?_eq_getElem _⟩
          obtain ⟨vr', vt', p0, -, -, -, -, -, -, -, -⟩ := HCL.out m p hp
          have q0 := cell_belowBy p0
          have HKP := Lib.hid (show lastO l (m + 1) = p.id by simp [lastO, hp])
          have WM : IntKind.i64.wrap (((m + 1 : Nat) : Int) - 1) = (m : Int) := (IntWalk.i64_in _ (by omega)).trans (by omega)
          have WG : decide ((0 : Int) < ((m + 1 : Nat) : Int)) = true := by rw [decide_eq_true_eq]; omega
          clear hp p0
          cases hlt2 : ltB p.id o.id with
          | false =>
            have HE := Lib.hid (show mapOK l = false by unfold mapOK; rw [HT.out, HD.out, HKP.out, hlt2]; simp)
            have LQ : Op.bytesLess p.id.toList o.id.toList = false := hlt2
            clear hlt2
            go_wp2_with fail
            refine wp_region_quiet_below (by assumption) (by kernel_rfl) ?_
            repeat (go_big_quiet_step (first | (go_at_call 75; exact calls_belowBy (RV.out _ (BelowBy.below _)))))
            refine wpQuiet_nil ?_
            intro w6 hw'
            obtain ⟨⟨w7, hb7⟩, hw''⟩ := hw'
            subst hw''
            have B7 := below_step hbr (Nat.le_refl _) hb7
            go_wp2
            go_ret
            exact ⟨ret_bool HE.out.symm, below_step B1 (Nat.le_refl _) B7⟩
          | true =>
            have LQ : Op.bytesLess p.id.toList o.id.toList = true := hlt2
            have HG := Lib.hid (show objsFrom ⟨#[]⟩ l = objsFrom (lastO l (m + 1 + 1)) (l.drop (m + 1 + 1)) by
              rw [HT.out, HD.out, HO.out, HK.out, HKP.out, hlt2]; simp)
            clear hlt2
            go_wp2_with fail
            refine wp_region_quiet_below (by assumption) (by kernel_rfl) ?_
            repeat (go_big_quiet_step (first | (go_at_call 75; exact calls_belowBy (RV.out _ (BelowBy.below _)))))
            refine wpQuiet_nil ?_
            intro w6 hw'
            obtain ⟨⟨w7, hb7⟩, hw''⟩ := hw'
            subst hw''
            have B7 := below_step hbr (Nat.le_refl _) hb7
            go_wp2
            go_roundw
            case rel => exact ⟨m + 1 + 1, by omega, by go_num, HG.out, B7⟩
            case measure => simp [intOf]; omega
    · obtain rfl : k = N := by omega
      have HE := Lib.hid (show mapOK l = true by
        rw [mapOK, HT.out, HN.out, HL.out, List.drop_of_length_le (by rw [HN.out]; exact Nat.le_refl _)]
        simp [objsFrom])
      go_wp2
      go_ret
      exact ⟨ret_bool HE.out.symm, below_step B1 (Nat.le_refl _) hbr⟩

def encKy (k : KeyD) : List Value := [.string k.1, .string k.2]
theorem encKy_len (k : KeyD) : (encKy k).length = 2 := rfl
theorem encKy_one (k : KeyD) : ∀ v ∈ encKy k, v.oneCell' = true := by
  intro v hv
  simp only [encKy, List.mem_cons, List.not_mem_nil, or_false] at hv
  rcases hv with rfl | rfl <;> rfl
theorem infoKy : (Tryz.prog.info? 50).map (fun i => (i.zero, i.size, i.bytes)) = some (some (.agg #[.string ⟨#[]⟩, .string ⟨#[]⟩]), 2, 32) := by kernel_rfl
/-- A side as it is before its nodes are put in order. -/
def rawAt (o : ObjD) (i : Nat) : KeyD := (refAt o i, refAt o ((i + 1) % o.refs.length))
def rawP (o : ObjD) (n : Nat) : List KeyD := (List.range n).map (rawAt o)
def srtK (k : KeyD) : KeyD := key2 k.1 k.2
theorem raw_sides (o : ObjD) : (rawP o (sideN o)).map srtK = sidesP o := by
  unfold rawP sidesP
  rw [List.map_map]; rfl
theorem rawP_succ (o : ObjD) (n : Nat) : rawP o (n + 1) = rawP o n ++ [rawAt o n] := by
  unfold rawP
  rw [List.range_succ, List.map_append]; rfl
theorem rawP_len (o : ObjD) (n : Nat) : (rawP o n).length = n := by unfold rawP; simp
/-- The first of some pairs are in order. -/
def someS (R : List KeyD) (j : Nat) : List KeyD := (R.take j).map srtK ++ R.drop j
theorem someS_zero (R : List KeyD) : someS R 0 = R := by unfold someS; simp
theorem someS_all (R : List KeyD) : someS R R.length = R.map srtK := by unfold someS; simp
theorem someS_len (R : List KeyD) (j : Nat) (h : j ≤ R.length) : (someS R j).length = R.length := by unfold someS; simp; omega
theorem someS_get {R : List KeyD} {j : Nat} {x : KeyD} (h : R[j]? = some x) : (someS R j)[j]? = some x := by
  have hl := (List.getElem?_eq_some_iff.1 h).1
  unfold someS
  rw [List.getElem?_append_right (by simp; omega), List.getElem?_drop]
  simp only [List.length_map, List.length_take]
  rw [show j + (j - min j R.length) = j by omega]; exact h
theorem someS_set {R : List KeyD} {j : Nat} {x : KeyD} (h : R[j]? = some x) : (someS R j).set j (srtK x) = someS R (j + 1) := by
  obtain ⟨hl, rfl⟩ := List.getElem?_eq_some_iff.1 h
  unfold someS
  rw [List.take_succ_eq_append_getElem hl, List.map_append, List.set_append_right _ _ (by simp; omega)]
  simp only [List.length_map, List.length_take]
  rw [show j - min j R.length = 0 by omega, List.drop_eq_getElem_cons hl, List.set_cons_zero, List.append_assoc]; rfl

set_option maxRecDepth 100000 in
set_option maxHeartbeats 4000000 in
theorem rsides_none (o : ObjD) (vr vt : Value) (w : World) (hr : StrRow w vr o.refs) (ht : TagRow w vt o.tags) (hk : o.kind ≠ 2 ∧ o.kind ≠ 3) :
    Calls Tryz.prog 51 #[.agg #[.string o.id, .int .i64 o.kind, .int .i64 o.x, .int .i64 o.y, vr, vt]] w fun e w' => e = .returned (.slice none 0 0) ∧ Below w.heap.size w w' := by
  obtain ⟨ar, cr, rfl, _⟩ := hr
  obtain ⟨at1, ct, rfl, _⟩ := ht
  obtain ⟨id, kd, ox, oy, refs, tags⟩ := o
  simp only [] at hk ⊢
  have n2 : (kd == 2) = false := beq_false_of_ne hk.1
  have n3 : (kd == 3) = false := beq_false_of_ne hk.2
  have m2 : ¬ kd = 2 := hk.1
  have m3 : ¬ kd = 3 := hk.2
  have c2 : (kd != 2) = true := by simp [m2]
  have c3 : (kd != 3) = true := by simp [m3]
  clear hk
  go_enter Tryz.func51, Tryz.ntmps51
  go_wp2
  go_ret
  exact ⟨rfl, (by repeat' (first | exact Below.refl _ _ | refine Below.drew ?_ | refine Below.drewN' ?_ | refine Below.setCell ?_ (by first | omega | (simp; done) | exact Below.size (by assumption) | (simp; omega)) _ | refine Below.alloc ?_ (by first | omega | (simp; done) | exact Below.size (by assumption) | (simp; omega)) _ | refine Below.trans ?_ (Below.mono (by assumption) ?_) | (first | omega | (simp; done) | exact Below.size (by assumption) | (simp; omega))))⟩
theorem own_two {w : World} {base m : Nat} {e : TypeId} {av : Option Addr} {cv : Nat} {T : List KeyD} (h : w.ownsRow base e 2 (.slice av m cv) m (T.flatMap encKy)) (hm : m = T.length) {j : Nat} {x : KeyD} (hx : T[j]? = some x) :
    ∃ g cur, av = some ⟨g, 0, none⟩ ∧ w.heap[g]? = some (.cells cur e) ∧ w.cell? ⟨g, j * 2, none⟩ = some (.string x.1) ∧ w.cell? ⟨g, j * 2 + 1, none⟩ = some (.string x.2) := by
  have hr := RowE.of_own encKy_len hm h
  have hl := (List.getElem?_eq_some_iff.1 hx).1
  rcases h.2 with ⟨hv, h0⟩ | ⟨g, cap, cur, hv, hb, hc, _⟩
  · omega
  · injection hv with e1 e2 e3
    subst e1
    refine ⟨g, cur, rfl, hc, ?_⟩
    obtain ⟨a, c, hv2, hcell⟩ := hr
    injection hv2 with f1 f2 f3
    obtain ⟨b, off, hb2, hcl⟩ := hcell (by omega)
    rw [← f1] at hb2
    injection hb2 with hb2
    injection hb2 with b1 b2
    subst b1 b2
    have c0 := hcl j x hx 0 _ rfl
    have c1 := hcl j x hx 1 _ rfl
    rw [Nat.zero_add] at c0 c1
    exact ⟨c0, c1⟩
set_option maxRecDepth 100000 in
set_option maxHeartbeats 4000000 in
theorem rsides_any (o : ObjD) (vr vt : Value) (w : World) (hr : StrRow w vr o.refs) (ht : TagRow w vt o.tags) (hk : o.kind = 2 ∨ (o.kind = 3 ∧ 1 ≤ o.refs.length)) (hl : o.refs.length ≤ 100000) :
    Calls Tryz.prog 51 #[.agg #[.string o.id, .int .i64 o.kind, .int .i64 o.x, .int .i64 o.y, vr, vt]] w fun e w' => ∃ v', e = .returned v' ∧ w'.ownsRow w.heap.size 50 2 v' (sidesP o).length ((sidesP o).flatMap encKy) ∧ Below w.heap.size w w' := by
  have mixed : Tryz.prog.follows .mixedOrders = true := by kernel_rfl
  have hmin := run_minB Tryz.prog
  have hmax' := run_maxB Tryz.prog
  obtain ⟨i0, hi, hi0, hi1, hi2⟩ := info_parts infoKy
  obtain ⟨ar, cr, rfl, _, _, hrc⟩ := hr
  obtain ⟨at1, ct, rfl, _⟩ := ht
  have HRC := Lib.hid hrc
  have HRA := Lib.hid (fun i (h : i < o.refs.length) => ref_get o i h)
  have HRS := Lib.hid (raw_sides o)
  have HSU := Lib.hid (fun n => rawP_succ o n)
  have HRL := Lib.hid (fun n => rawP_len o n)
  have HRW := Lib.hid (fun n (h : n + 1 < o.refs.length) => (show rawAt o n = (refAt o n, refAt o (n + 1)) by unfold rawAt; rw [Nat.mod_eq_of_lt h]))
  have HRZ := Lib.hid (show o.refs.length = 0 → rawP o (0 - 1) = [] from fun _ => rfl)
  obtain ⟨n, hn⟩ : ∃ n, n = o.refs.length := ⟨_, rfl⟩
  rw [← hn] at HRC HRA HRW hl hk ⊢
  have HSN := Lib.hid (show sideN o = if o.kind = 2 then n - 1 else n by unfold sideN; rw [hn])
  obtain ⟨R, hR⟩ : ∃ R : Nat → List KeyD, R = rawP o := ⟨_, rfl⟩
  rw [← hR] at HRS HSU HRL
  have HR0 := Lib.hid (show R 0 = [] by rw [hR]; rfl)
  have HLW := Lib.hid (show 0 < n → rawAt o (n - 1) = (refAt o (n - 1), refAt o 0) from fun h => by unfold rawAt; rw [← hn, show n - 1 + 1 = n by omega, Nat.mod_self])
  obtain ⟨id, kd, ox, oy, refs, tags⟩ := o
  obtain ⟨ra, hra⟩ : ∃ f : Nat → ByteArray, f = refAt ⟨id, kd, ox, oy, refs, tags⟩ := ⟨_, rfl⟩
  rw [← hra] at HRA HRW HLW
  simp only [] at HRC HRA hk hn HSN ⊢
  clear hrc hR hra hn
  go_enter Tryz.func51, Tryz.ntmps51
  go_upto_region 2 with fail
  have BX := (Below.refl w.heap.size w).alloc (Nat.le_refl _) (.cells #[.string id, .int .i64 kd, .int .i64 ox, .int .i64 oy, .slice ar n cr, .slice at1 tags.length ct] 59)
  have HX := row_new w (.cells #[.string id, .int .i64 kd, .int .i64 ox, .int .i64 oy, .slice ar n cr, .slice at1 tags.length ct] 59)
  generalize hw1 : w.alloc (.cells #[.string id, .int .i64 kd, .int .i64 ox, .int .i64 oy, .slice ar n cr, .slice at1 tags.length ct] 59) = w1
  rw [hw1] at BX HX
  have HX1 := Lib.hid HX
  have hz1 : w.heap.size < w1.heap.size := lt_of_block HX
  clear hw1 HX
  go_cut [13] from 6 to 14 (fun v13 wx => v13 = .bool false ∧ wx = w1)
  case first =>
    have pz := lt_of_block HX1.out
    have p0 := cell_of_row w1 _ 0 _ _ _ HX1.out
    have p1 := cell_of_row w1 _ 1 _ _ _ HX1.out
    have p2 := cell_of_row w1 _ 2 _ _ _ HX1.out
    have p3 := cell_of_row w1 _ 3 _ _ _ HX1.out
    have p4 := cell_of_row w1 _ 4 _ _ _ HX1.out
    have p5 := cell_of_row w1 _ 5 _ _ _ HX1.out
    simp only [List.getElem?_toArray, List.getElem?_cons_zero, List.getElem?_cons_succ] at p0 p1 p2 p3 p4 p5
    rcases hk with hk | ⟨hk, _⟩
    · subst hk
      go_wp2
      go_meet
      case rel => exact ⟨rfl, rfl⟩
    · subst hk
      go_wp2
      go_meet
      case rel => exact ⟨rfl, rfl⟩
  case rest =>
    obtain ⟨rfl, hw⟩ := hcut
    rw [hw]
    clear hw
    go_wp2_with fail
    go_loopw [3, 4] (fun v3 i wr => ∃ k : Nat, i = .int .i64 k ∧ k ≤ n - 1 ∧ wr.ownsRow w1.heap.size 50 2 v3 k ((R k).flatMap encKy) ∧ Below w1.heap.size w1 wr) (fun _ i _ => n - (intOf i).toNat)
    case atStart => exact ⟨0, rfl, by omega, by rw [HR0.out]; exact World.ownsRow_nil _ _ _ _, Below.refl _ _⟩
    case round =>
      obtain ⟨k, rfl, hk1, hown, hbr⟩ := hrel
      have HOWN := Lib.hid hown
      have HX := Lib.hid (row_later hbr HX1.out)
      have hzr := hbr.size
      have BR := below_step BX (by omega) hbr
      clear hown
      by_cases hlt : k + 1 < n
      · have r0 := HRA.out k (by omega)
        have r1 := HRA.out (k + 1) (by omega)
        obtain ⟨br, offr, har, hcr⟩ := HRC.out (by omega)
        subst har
        have V0 := Lib.hid (fun (W : World) (hb : Below w.heap.size w W) => cell_later hb (hcr k _ r0))
        have V1 := Lib.hid (fun (W : World) (hb : Below w.heap.size w W) => (show W.cell? ⟨br, offr + (k + 1), none⟩ = some (.string (ra (k + 1))) from cell_later hb (hcr (k + 1) _ r1)))
        have wk : IntKind.i64.wrap ((k : Int) + 1) = ((k + 1 : Nat) : Int) := (IntWalk.i64_in _ (by omega)).trans (by omega)
        have hlt1 : ((k + 1 : Nat) : Int) < (n : Int) := by omega
        have hlt2 : decide (((k + 1 : Nat) : Int) < (n : Int)) = true := decide_eq_true hlt1
        have HT := Lib.hid (show R (k + 1) = R k ++ [(ra k, ra (k + 1))] by rw [HSU.out, HRW.out k hlt])
        clear r0 r1 hcr
        have pz := lt_of_block HX.out
        have p0 := cell_of_row wr _ 0 _ _ _ HX.out
        have p1 := cell_of_row wr _ 1 _ _ _ HX.out
        have p2 := cell_of_row wr _ 2 _ _ _ HX.out
        have p3 := cell_of_row wr _ 3 _ _ _ HX.out
        have p4 := cell_of_row wr _ 4 _ _ _ HX.out
        have p5 := cell_of_row wr _ 5 _ _ _ HX.out
        simp only [List.getElem?_toArray, List.getElem?_cons_zero, List.getElem?_cons_succ] at p0 p1 p2 p3 p4 p5
        go_wp2_with fail
        clear p0 p1 p2 p3 p4 p5 pz
        have O3 := Lib.hid (HOWN.out)
        have HLT := Lib.hid hlt
        clear hlt1 hlt2 wk hlt
        generalize decide ((k : Int) + 1 < (n : Int)) = bb
        obtain ⟨wo, rfl⟩ : ∃ z : World, z = wr := ⟨_, rfl⟩
        refine wp_region_mix 13 (fun W => Below w1.heap.size w1 W) (fun W => Below wo.heap.size wo W) mixed (by kernel_rfl) (by kernel_rfl) (by kernel_rfl) (StableW.below _ _ (Nat.le_refl _)) (fun W hW => hbr.trans (hW.mono hzr)) (Below.refl _ _).drew ?_
        apply Exists.intro
        refine ⟨fun W hW => ?_, ?_⟩
        · have BW := below_step BX (Nat.le_refl _) hW
          have HXh := Lib.hid (row_later hW HX1.out)
          have xz := lt_of_block HXh.out
          have x0 := cell_of_row W _ 0 _ _ _ HXh.out
          have x1 := cell_of_row W _ 1 _ _ _ HXh.out
          have x2 := cell_of_row W _ 2 _ _ _ HXh.out
          have x3 := cell_of_row W _ 3 _ _ _ HXh.out
          have x4 := cell_of_row W _ 4 _ _ _ HXh.out
          have x5 := cell_of_row W _ 5 _ _ _ HXh.out
          simp only [List.getElem?_toArray, List.getElem?_cons_zero, List.getElem?_cons_succ] at x0 x1 x2 x3 x4 x5
          have qx0 := cell_belowBy x0
          have qx1 := cell_belowBy x1
          have qx2 := cell_belowBy x2
          have qx3 := cell_belowBy x3
          have qx4 := cell_belowBy x4
          have qx5 := cell_belowBy x5
          clear x0 x1 x2 x3 x4 x5
          have y0 := cell_belowBy (V0.out W BW)
          have y1 := cell_belowBy (V1.out W BW)
          have yz := lt_of_cell (V0.out W BW)
          simp only [List.take_succ_cons, List.take_zero]
          repeat (go_big_quiet_step (fail))
          exact wpQuiet_nil rfl
        · simp only [List.drop_succ_cons, List.drop_zero]
          refine tailM_step (ι := Nat) (fun g => .slice (some ⟨g, 0, none⟩) 1 1) (fun g W => Below w1.heap.size w1 W ∧ (W.ownsRow w1.heap.size 50 2 u3 k ((R k).flatMap encKy) ∧ W.heap[g]? = some (.cells #[.string (ra k), .string (ra (k + 1))] 50))) rfl (fun g => (StableW.below _ _ (Nat.le_refl _)).and ((StableW.owns _ _ _ _ _ _).and (StableW.row _ _))) (fun _ _ h => h.1) (fun W hS K hK => ?_) (fun g => ?_)
          · have O := own_later O3.out hS
            have BB := hbr.trans (hS.mono hzr)
            go_simp
            exact hK W.heap.size _ ⟨BB.alloc BB.size _, O.alloc _, row_new _ _⟩
          simp only [Act.put, List.setIfInBounds_toArray, List.set_cons_succ, List.set_cons_zero]
          refine tailM_step (ι := Value) (fun v => v) (fun v' W => Below w1.heap.size w1 W ∧ W.ownsRow w1.heap.size 50 2 v' (k + 1) ((R (k + 1)).flatMap encKy)) rfl (fun _ => (StableW.below _ _ (Nat.le_refl _)).and (StableW.owns _ _ _ _ _ _)) (fun _ _ h => h.1) (fun W hS K hK => ?_) (fun v' => ?_)
          · obtain ⟨hS1, hSO, hSG⟩ := hS
            refine wp_append_own _ _ _ 51 rfl w1.heap.size 50 i0 (.agg #[.string ⟨#[]⟩, .string ⟨#[]⟩]) 2 32 Tryz.underlying51 hi hi0 hi1 hi2 rfl (by decide) _ _ _ rfl hSO ⟨g, 0, none⟩ 1 1 (encKy (ra k, ra (k + 1))) rfl rfl (cells_row hSG) (encKy_one _) (by unfold maxLen; omega) (by omega) hS1.size ?_
            intro v' w9 hown2 hgrow _
            exact hK v' w9 ⟨hS1.grown hgrow hS1.size (fun j ej => (hSO.lt j ej).1), by rw [HT.out, List.flatMap_append]; simpa using hown2⟩
          simp only [Act.put, List.setIfInBounds_toArray, List.set_cons_succ, List.set_cons_zero]
          refine tailM_pure v' rfl ((StableW.below _ _ (Nat.le_refl _)).and (StableW.owns _ _ _ _ _ _)) (fun _ h => h.1) (fun W hS K hK => ?_) (tailM_nil fun W hW => ?_)
          · go_simp
            exact hK
          obtain ⟨hW1, hWO⟩ := hW
          have HWO := Lib.hid hWO
          clear hWO
          simp only [Act.put, List.setIfInBounds_toArray, List.set_cons_succ, List.set_cons_zero]
          have hlt := HLT.out
          go_wp2
          go_roundw
          case rel => exact ⟨k + 1, by go_num, by omega, HWO.out, hW1⟩
          case measure => simp [intOf]; omega
      · obtain rfl : k = n - 1 := by omega
        clear hlt
        obtain ⟨wo, rfl⟩ : ∃ z : World, z = wr := ⟨_, rfl⟩
        rcases hk with hk | ⟨hk, hn1⟩
        · subst hk
          have HTS := Lib.hid (show (R (n - 1)).map srtK = sidesP ⟨id, 2, ox, oy, refs, tags⟩ by
            have h := HRS.out; rw [HSN.out, if_pos rfl] at h; exact h)
          have HTL := Lib.hid (HRL.out (n - 1))
          obtain ⟨T, hT⟩ : ∃ z, z = R (n - 1) := ⟨_, rfl⟩
          rw [← hT] at HTS HTL HOWN
          obtain ⟨m, hm⟩ : ∃ z, z = n - 1 := ⟨_, rfl⟩
          rw [← hm] at HTL HOWN
          have hmb : m ≤ 100000 := by omega
          clear hT hm
          have pz := lt_of_block HX.out
          have p0 := cell_of_row wo _ 0 _ _ _ HX.out
          have p1 := cell_of_row wo _ 1 _ _ _ HX.out
          have p2 := cell_of_row wo _ 2 _ _ _ HX.out
          have p3 := cell_of_row wo _ 3 _ _ _ HX.out
          have p4 := cell_of_row wo _ 4 _ _ _ HX.out
          have p5 := cell_of_row wo _ 5 _ _ _ HX.out
          simp only [List.getElem?_toArray, List.getElem?_cons_zero, List.getElem?_cons_succ] at p0 p1 p2 p3 p4 p5
          go_wp2_with fail
          clear p0 p1 p2 p3 p4 p5 pz
          obtain ⟨av, cv, hav⟩ := own_form HOWN.out
          subst hav
          go_loopw [5] (fun i wx => ∃ j : Nat, i = .int .i64 j ∧ j ≤ m ∧ wx.ownsRow w1.heap.size 50 2 (.slice av m cv) m ((someS T j).flatMap encKy) ∧ Below w1.heap.size w1 wx) (fun i _ => m - (intOf i).toNat)
          case atStart => exact ⟨0, rfl, by omega, by rw [someS_zero]; exact HOWN.out, hbr⟩
          case round =>
            clear hbr BR hzr
            obtain ⟨j, rfl, hj, hown, hbr⟩ := hrel
            have O3 := Lib.hid hown
            have hzr := hbr.size
            have BR := below_step BX (by omega) hbr
            clear hown
            by_cases hlj : j < m
            · obtain ⟨x, hx⟩ : ∃ x, T[j]? = some x := ⟨T[j]'(by rw [HTL.out]; exact hlj), List.getElem?_eq_getElem _⟩
              have hsx := someS_get hx
              have hsl := someS_len T j (by rw [HTL.out]; exact hj)
              rw [HTL.out] at hsl
              have HST := Lib.hid (someS_set hx)
              have CEL := Lib.hid (fun (W : World) (h : W.ownsRow w1.heap.size 50 2 (.slice av m cv) m ((someS T j).flatMap encKy)) => own_two h hsl.symm hsx)
              obtain ⟨g, hg⟩ : ∃ g, av = some ⟨g, 0, none⟩ := by
                rcases O3.out.2 with ⟨h, h0⟩ | ⟨g, _, _, h, _⟩
                · omega
                · injection h with h; exact ⟨g, h⟩
              subst hg
              have hgl := O3.out.lt g rfl
              have hslj : j < (someS T j).length := by rw [hsl]; exact hlj
              have OST := Lib.hid (fun (W : World) (h : W.ownsRow w1.heap.size 50 2 (.slice (some ⟨g, 0, none⟩) m cv) m ((someS T j).flatMap encKy)) => own_set encKy_len h hsl.symm hslj (srtK x))
              have HLJ := Lib.hid hlj
              clear hx hsx hsl hslj
              go_wp2_with fail
              generalize decide ((j : Int) < (m : Int)) = bb
              obtain ⟨wp, rfl⟩ : ∃ z : World, z = wr := ⟨_, rfl⟩
              clear hlj
              obtain ⟨x1, x2⟩ := x
              refine wp_region_still_tail 26 (by kernel_rfl) (by kernel_rfl) ?_
              generalize hW : World.mk _ _ _ _ _ = w3
              have hW3 : w3 = wp.drew := hW.symm
              have BW : Below wp.heap.size wp w3 := by rw [hW3]; exact (Below.refl _ _).drew
              clear hW hW3
              have O := own_later O3.out BW
              have BB := hbr.trans (BW.mono hzr)
              obtain ⟨g', cur, hg', hh, c0, c1⟩ := CEL.out w3 O
              injection hg' with hg'
              injection hg' with hg'
              subst hg'
              have cz := lt_of_cell c0
              have f0 := frozen_of_row w3 _ (j * 2) _ _ hh
              have f1 := frozen_of_row w3 _ (j * 2 + 1) _ _ hh
              obtain ⟨hset, hgs⟩ := OST.out w3 O
              rw [HST.out] at hset
              have hset' : ((w3.setCell ⟨g, j * 2, none⟩ (.string (minB x1 x2))).setCell ⟨g, j * 2 + 1, none⟩ (.string (maxB x1 x2))).ownsRow w1.heap.size 50 2 (.slice (some ⟨g, 0, none⟩) m cv) m ((someS T (j + 1)).flatMap encKy) := hset
              have B2 := BB.grown hgs BB.size (fun j' hj' => by injection hj' with hj'; omega)
              have B2' : Below w1.heap.size w1 ((w3.setCell ⟨g, j * 2, none⟩ (.string (minB x1 x2))).setCell ⟨g, j * 2 + 1, none⟩ (.string (maxB x1 x2))) := B2
              have HS' := Lib.hid hset'
              have HB' := Lib.hid B2'
              have hlj := HLJ.out
              clear hset hset' B2 B2' hgs hh BB O
              simp only [List.take_succ_cons, List.take_zero, List.drop_succ_cons, List.drop_zero]
              repeat still_step
              refine wpStill_nil ?_
              go_wp2
              go_roundw
              case rel => exact ⟨j + 1, by go_num, by omega, HS'.out, HB'.out⟩
              case measure => simp [intOf]; omega
            · obtain rfl : j = m := by omega
              have HF := Lib.hid (show wr.ownsRow w.heap.size 50 2 (.slice av j cv) (T.map srtK).length ((T.map srtK).flatMap encKy) by
                have h := own_base O3.out (Nat.le_of_lt hz1)
                rw [show someS T j = T.map srtK by have := someS_all T; rw [HTL.out] at this; exact this] at h
                rw [List.length_map, HTL.out]; exact h)
              rw [HTS.out] at HF
              go_wp2
              go_ret
              exact ⟨_, rfl, HF.out, BR⟩
        · subst hk
          obtain ⟨q, rfl⟩ : ∃ q, n = q + 1 := ⟨n - 1, by omega⟩
          rw [Nat.add_sub_cancel] at HOWN HLW
          have HRN := Lib.hid (show R (q + 1) = R q ++ [(ra q, ra 0)] by rw [HSU.out, HLW.out (by omega)])
          have HTS := Lib.hid (show (R (q + 1)).map srtK = sidesP ⟨id, 3, ox, oy, refs, tags⟩ by
            have h := HRS.out; rw [HSN.out, if_neg (by decide)] at h; exact h)
          have HTL := Lib.hid (HRL.out (q + 1))
          have r0 := HRA.out q (by omega)
          have r1 := HRA.out 0 (by omega)
          obtain ⟨br, offr, har, hcr⟩ := HRC.out (by omega)
          subst har
          have V0 := Lib.hid (fun (W : World) (hb : Below w.heap.size w W) => cell_later hb (hcr q _ r0))
          have V1 := Lib.hid (fun (W : World) (hb : Below w.heap.size w W) => (show W.cell? ⟨br, offr, none⟩ = some (.string (ra 0)) from cell_later hb (hcr 0 _ r1)))
          have wk : IntKind.i64.wrap (((q + 1 : Nat) : Int) - 1) = (q : Int) := (IntWalk.i64_in _ (by omega)).trans (by omega)
          clear r0 r1 hcr
          have pz := lt_of_block HX.out
          have p0 := cell_of_row wo _ 0 _ _ _ HX.out
          have p1 := cell_of_row wo _ 1 _ _ _ HX.out
          have p2 := cell_of_row wo _ 2 _ _ _ HX.out
          have p3 := cell_of_row wo _ 3 _ _ _ HX.out
          have p4 := cell_of_row wo _ 4 _ _ _ HX.out
          have p5 := cell_of_row wo _ 5 _ _ _ HX.out
          simp only [List.getElem?_toArray, List.getElem?_cons_zero, List.getElem?_cons_succ] at p0 p1 p2 p3 p4 p5
          go_wp2_with fail
          clear p0 p1 p2 p3 p4 p5 pz
          have O3 := Lib.hid HOWN.out
          refine wp_region_mix 14 (fun W => Below w1.heap.size w1 W) (fun W => Below wo.heap.size wo W) mixed (by kernel_rfl) (by kernel_rfl) (by kernel_rfl) (StableW.below _ _ (Nat.le_refl _)) (fun W hW => hbr.trans (hW.mono hzr)) (Below.refl _ _).drew ?_
          apply Exists.intro
          refine ⟨fun W hW => ?_, ?_⟩
          · have BW := below_step BX (Nat.le_refl _) hW
            have HXh := Lib.hid (row_later hW HX1.out)
            have xz := lt_of_block HXh.out
            have x0 := cell_of_row W _ 0 _ _ _ HXh.out
            have x1 := cell_of_row W _ 1 _ _ _ HXh.out
            have x2 := cell_of_row W _ 2 _ _ _ HXh.out
            have x3 := cell_of_row W _ 3 _ _ _ HXh.out
            have x4 := cell_of_row W _ 4 _ _ _ HXh.out
            have x5 := cell_of_row W _ 5 _ _ _ HXh.out
            simp only [List.getElem?_toArray, List.getElem?_cons_zero, List.getElem?_cons_succ] at x0 x1 x2 x3 x4 x5
            have qx0 := cell_belowBy x0
            have qx1 := cell_belowBy x1
            have qx2 := cell_belowBy x2
            have qx3 := cell_belowBy x3
            have qx4 := cell_belowBy x4
            have qx5 := cell_belowBy x5
            clear x0 x1 x2 x3 x4 x5
            have y0 := cell_belowBy (V0.out W BW)
            have y1 := cell_belowBy (V1.out W BW)
            have yz := lt_of_cell (V0.out W BW)
            simp only [List.take_succ_cons, List.take_zero]
            repeat (go_big_quiet_step (fail))
            exact wpQuiet_nil rfl
          · simp only [List.drop_succ_cons, List.drop_zero]
            refine tailM_step (ι := Nat) (fun g => .slice (some ⟨g, 0, none⟩) 1 1) (fun g W => Below w1.heap.size w1 W ∧ (W.ownsRow w1.heap.size 50 2 u3 q ((R q).flatMap encKy) ∧ W.heap[g]? = some (.cells #[.string (ra q), .string (ra 0)] 50))) rfl (fun g => (StableW.below _ _ (Nat.le_refl _)).and ((StableW.owns _ _ _ _ _ _).and (StableW.row _ _))) (fun _ _ h => h.1) (fun W hS K hK => ?_) (fun g => ?_)
            · have O := own_later O3.out hS
              have BB := hbr.trans (hS.mono hzr)
              go_simp
              exact hK W.heap.size _ ⟨BB.alloc BB.size _, O.alloc _, row_new _ _⟩
            simp only [Act.put, List.setIfInBounds_toArray, List.set_cons_succ, List.set_cons_zero]
            refine tailM_step (ι := Value) (fun v => v) (fun v' W => Below w1.heap.size w1 W ∧ W.ownsRow w1.heap.size 50 2 v' (q + 1) ((R (q + 1)).flatMap encKy)) rfl (fun _ => (StableW.below _ _ (Nat.le_refl _)).and (StableW.owns _ _ _ _ _ _)) (fun _ _ h => h.1) (fun W hS K hK => ?_) (fun v' => ?_)
            · obtain ⟨hS1, hSO, hSG⟩ := hS
              refine wp_append_own _ _ _ 51 rfl w1.heap.size 50 i0 (.agg #[.string ⟨#[]⟩, .string ⟨#[]⟩]) 2 32 Tryz.underlying51 hi hi0 hi1 hi2 rfl (by decide) _ _ _ rfl hSO ⟨g, 0, none⟩ 1 1 (encKy (ra q, ra 0)) rfl rfl (cells_row hSG) (encKy_one _) (by unfold maxLen; omega) (by omega) hS1.size ?_
              intro v' w9 hown2 hgrow _
              exact hK v' w9 ⟨hS1.grown hgrow hS1.size (fun j ej => (hSO.lt j ej).1), by rw [HRN.out, List.flatMap_append]; simpa using hown2⟩
            simp only [Act.put, List.setIfInBounds_toArray, List.set_cons_succ, List.set_cons_zero]
            refine tailM_pure v' rfl ((StableW.below _ _ (Nat.le_refl _)).and (StableW.owns _ _ _ _ _ _)) (fun _ h => h.1) (fun W hS K hK => ?_) (tailM_nil fun W hW => ?_)
            · go_simp
              exact hK
            obtain ⟨hW1, hWO⟩ := hW
            clear HOWN O3 hbr hzr BR
            have HOWN := Lib.hid hWO
            have hbr := hW1
            have hzr := hbr.size
            have BR := below_step BX (by omega) hbr
            simp only [Act.put, List.setIfInBounds_toArray, List.set_cons_succ, List.set_cons_zero]
            obtain ⟨T, hT⟩ : ∃ z, z = R (q + 1) := ⟨_, rfl⟩
            rw [← hT] at HTS HTL HOWN
            obtain ⟨m, hm⟩ : ∃ z, z = q + 1 := ⟨_, rfl⟩
            rw [← hm] at HTL HOWN
            have hmb : m ≤ 100000 := by omega
            clear hT hm hWO
            go_wp2_with fail
            obtain ⟨av, cv, hav⟩ := own_form HOWN.out
            subst hav
            go_loopw [5] (fun i wx => ∃ j : Nat, i = .int .i64 j ∧ j ≤ m ∧ wx.ownsRow w1.heap.size 50 2 (.slice av m cv) m ((someS T j).flatMap encKy) ∧ Below w1.heap.size w1 wx) (fun i _ => m - (intOf i).toNat)
            case atStart => exact ⟨0, rfl, by omega, by rw [someS_zero]; exact HOWN.out, hbr⟩
            case round =>
              clear hbr BR hzr
              obtain ⟨j, rfl, hj, hown, hbr⟩ := hrel
              have O3 := Lib.hid hown
              have hzr := hbr.size
              have BR := below_step BX (by omega) hbr
              clear hown
              by_cases hlj : j < m
              · obtain ⟨x, hx⟩ : ∃ x, T[j]? = some x := ⟨T[j]'(by rw [HTL.out]; exact hlj), List.getElem?_eq_getElem _⟩
                have hsx := someS_get hx
                have hsl := someS_len T j (by rw [HTL.out]; exact hj)
                rw [HTL.out] at hsl
                have HST := Lib.hid (someS_set hx)
                have CEL := Lib.hid (fun (W : World) (h : W.ownsRow w1.heap.size 50 2 (.slice av m cv) m ((someS T j).flatMap encKy)) => own_two h hsl.symm hsx)
                obtain ⟨g, hg⟩ : ∃ g, av = some ⟨g, 0, none⟩ := by
                  rcases O3.out.2 with ⟨h, h0⟩ | ⟨g, _, _, h, _⟩
                  · omega
                  · injection h with h; exact ⟨g, h⟩
                subst hg
                have hgl := O3.out.lt g rfl
                have hslj : j < (someS T j).length := by rw [hsl]; exact hlj
                have OST := Lib.hid (fun (W : World) (h : W.ownsRow w1.heap.size 50 2 (.slice (some ⟨g, 0, none⟩) m cv) m ((someS T j).flatMap encKy)) => own_set encKy_len h hsl.symm hslj (srtK x))
                have HLJ := Lib.hid hlj
                clear hx hsx hsl hslj
                go_wp2_with fail
                generalize decide ((j : Int) < (m : Int)) = bb
                obtain ⟨wp, rfl⟩ : ∃ z : World, z = wr := ⟨_, rfl⟩
                clear hlj
                obtain ⟨x1, x2⟩ := x
                refine wp_region_still_tail 26 (by kernel_rfl) (by kernel_rfl) ?_
                generalize hW : World.mk _ _ _ _ _ = w3
                have hW3 : w3 = wp.drew := hW.symm
                have BW : Below wp.heap.size wp w3 := by rw [hW3]; exact (Below.refl _ _).drew
                clear hW hW3
                have O := own_later O3.out BW
                have BB := hbr.trans (BW.mono hzr)
                obtain ⟨g', cur, hg', hh, c0, c1⟩ := CEL.out w3 O
                injection hg' with hg'
                injection hg' with hg'
                subst hg'
                have cz := lt_of_cell c0
                have f0 := frozen_of_row w3 _ (j * 2) _ _ hh
                have f1 := frozen_of_row w3 _ (j * 2 + 1) _ _ hh
                obtain ⟨hset, hgs⟩ := OST.out w3 O
                rw [HST.out] at hset
                have hset' : ((w3.setCell ⟨g, j * 2, none⟩ (.string (minB x1 x2))).setCell ⟨g, j * 2 + 1, none⟩ (.string (maxB x1 x2))).ownsRow w1.heap.size 50 2 (.slice (some ⟨g, 0, none⟩) m cv) m ((someS T (j + 1)).flatMap encKy) := hset
                have B2 := BB.grown hgs BB.size (fun j' hj' => by injection hj' with hj'; omega)
                have B2' : Below w1.heap.size w1 ((w3.setCell ⟨g, j * 2, none⟩ (.string (minB x1 x2))).setCell ⟨g, j * 2 + 1, none⟩ (.string (maxB x1 x2))) := B2
                have HS' := Lib.hid hset'
                have HB' := Lib.hid B2'
                have hlj := HLJ.out
                clear hset hset' B2 B2' hgs hh BB O
                simp only [List.take_succ_cons, List.take_zero, List.drop_succ_cons, List.drop_zero]
                repeat still_step
                refine wpStill_nil ?_
                go_wp2
                go_roundw
                case rel => exact ⟨j + 1, by go_num, by omega, HS'.out, HB'.out⟩
                case measure => simp [intOf]; omega
              · obtain rfl : j = m := by omega
                have HF := Lib.hid (show wr.ownsRow w.heap.size 50 2 (.slice av j cv) (T.map srtK).length ((T.map srtK).flatMap encKy) by
                  have h := own_base O3.out (Nat.le_of_lt hz1)
                  rw [show someS T j = T.map srtK by have := someS_all T; rw [HTL.out] at this; exact this] at h
                  rw [List.length_map, HTL.out]; exact h)
                rw [HTS.out] at HF
                go_wp2
                go_ret
                exact ⟨_, rfl, HF.out, BR⟩
end Go.Proofs.YtbkomdinchiffaaGreat

namespace Go.Proofs.YtbkomdinchiffaaGreat
open Go.RowKit Go.Sort

abbrev BrM := KeyD × Sg × (Option Addr × Nat × Nat)
def encBr (x : BrM) : List Value := [.string x.1.1, .string x.1.2, .int .i64 x.2.1.1.1, .int .i64 x.2.1.1.2, .int .i64 x.2.1.2.1, .int .i64 x.2.1.2.2, .slice x.2.2.1 x.2.2.2.1 x.2.2.2.2]
theorem encBr_len (x : BrM) : (encBr x).length = 7 := rfl
theorem encBr_one (x : BrM) : ∀ v ∈ encBr x, v.oneCell' = true := by
  intro v hv
  simp only [encBr, List.mem_cons, List.not_mem_nil, or_false] at hv
  rcases hv with rfl | rfl | rfl | rfl | rfl | rfl | rfl <;> rfl
theorem brs_one (L : List BrM) : ∀ u ∈ L.flatMap encBr, u.oneCell' = true := fun u hu => by
  obtain ⟨x, _, hu⟩ := List.mem_flatMap.1 hu
  exact encBr_one x u hu
theorem infoBr : (Tryz.prog.info? 49).map (fun i => (i.zero, i.size, i.bytes)) = some (some (.agg #[.string ⟨#[]⟩, .string ⟨#[]⟩, .int .i64 0, .int .i64 0, .int .i64 0, .int .i64 0, .slice none 0 0]), 7, 88) := by kernel_rfl
/-- The owners of a border lie in a block of their own, or there are none. -/
def OwR (w : World) (v : Value) (x : BrM) (ids : List ByteArray) : Prop :=
  (x.2.2 = (none, 0, 0) ∧ ids = []) ∨ ∃ g n c, x.2.2 = (some ⟨g, 0, none⟩, n, c) ∧ StrRow w (.slice (some ⟨g, 0, none⟩) n c) ids ∧ v.ownBlock ≠ some g ∧ g < w.heap.size
theorem OwR.row {w : World} {v : Value} {x : BrM} {ids : List ByteArray} (h : OwR w v x ids) : StrRow w (.slice x.2.2.1 x.2.2.2.1 x.2.2.2.2) ids := by
  rcases h with ⟨e, rfl⟩ | ⟨g, n, c, e, h, _⟩
  · rw [e]; exact StrRow.nil w
  · rw [e]; exact h
theorem OwR.kept {w w' : World} {v : Value} {x : BrM} {ids : List ByteArray} {row : Option Nat} (h : OwR w v x ids) (hg : w.grownBy w' row) (hr : row = v.ownBlock ∨ row = none) : OwR w' v x ids := by
  rcases h with h | ⟨g, n, c, h1, h2, h3, h4⟩
  · exact Or.inl h
  · have hne : some g ≠ row := fun e => by
      rcases hr with hr | hr
      · exact h3 (hr.symm.trans e.symm)
      · rw [hr] at e; cases e
    exact Or.inr ⟨g, n, c, h1, h2.same (hg.block g h4 hne), h3, Nat.lt_of_lt_of_le h4 hg.size⟩
theorem OwR.on {w w' : World} {v : Value} {x : BrM} {ids : List ByteArray} (h : OwR w v x ids) (hb : Below w.heap.size w w') : OwR w' v x ids := by
  rcases h with h | ⟨g, n, c, h1, h2, h3, h4⟩
  · exact Or.inl h
  · exact Or.inr ⟨g, n, c, h1, h2.same (hb.block g h4), h3, Nat.lt_of_lt_of_le h4 hb.size⟩
/-- .. beside a list that is new since. -/
theorem OwR.new {w w0 : World} {v v' : Value} {x : BrM} {ids : List ByteArray} (h : OwR w0 v x ids) (h' : OwR w v x ids) (hl : ∀ j, v'.ownBlock = some j → w0.heap.size ≤ j) : OwR w v' x ids := by
  rcases h' with h' | ⟨g, n, c, h1, h2, h3, h4⟩
  · exact Or.inl h'
  · rcases h with ⟨e, _⟩ | ⟨g', n', c', h1', _, _, h4'⟩
    · rw [h1] at e; cases e
    · rw [h1] at h1'
      injection h1' with e1 e2
      injection e1 with e1
      injection e1 with e1
      subst e1
      exact Or.inr ⟨g, n, c, h1, h2, fun e => by have := hl g e; omega, h4⟩
/-- A list of borders with their points and owners, in a row of the call's own. -/
def BrAt (w : World) (base : Nat) (v : Value) (l : List ObjD) (acc : List (KeyD × List ByteArray)) : Prop :=
  ∃ L : List BrM, w.ownsRow base 49 7 v L.length (L.flatMap encBr) ∧ L.map (·.1) = acc.map (·.1) ∧ (∀ x ∈ L, x.2.1 = segB l x.1) ∧
    ∀ (i : Nat) (x : BrM) (p : KeyD × List ByteArray), L[i]? = some x → acc[i]? = some p → OwR w v x p.2
theorem BrAt.nil (w : World) (base : Nat) (l : List ObjD) : BrAt w base (.slice none 0 0) l [] := ⟨[], World.ownsRow_nil _ _ _ _, rfl, fun x hx => (by cases hx), fun i x p hx => by simp at hx⟩
theorem BrAt.on {w w' : World} {base : Nat} {v : Value} {l : List ObjD} {acc : List (KeyD × List ByteArray)} (h : BrAt w base v l acc) (hb : Below w.heap.size w w') : BrAt w' base v l acc := by
  obtain ⟨L, h1, h2, h3, h4⟩ := h
  exact ⟨L, own_later h1 hb, h2, h3, fun i x p hx hp => (h4 i x p hx hp).on hb⟩
theorem br_len {acc : List (KeyD × List ByteArray)} {L : List BrM} (h2 : L.map (·.1) = acc.map (·.1)) : L.length = acc.length := by
  have := congrArg List.length h2
  simpa using this

/-- The place of a key in a list, as far as all before it are less. -/
def PreLt (acc : List (KeyD × List ByteArray)) (k : KeyD) (i : Nat) : Prop := ∀ j p, j < i → acc[j]? = some p → ltK p.1 k = true
def addLast (u : List ByteArray) (id : ByteArray) : List ByteArray := if u.getLast? = some id then u else u ++ [id]
theorem rput_ins {k : KeyD} {id : ByteArray} : ∀ {acc : List (KeyD × List ByteArray)} {i : Nat}, PreLt acc k i → i ≤ acc.length → (∀ p, acc[i]? = some p → ltK p.1 k = false ∧ p.1 ≠ k) → rput k id acc = acc.take i ++ (k, [id]) :: acc.drop i
  | [], i, _, hi, _ => by
    have : i = 0 := by simpa using hi
    subst this; rfl
  | q :: acc, 0, _, _, h => by
    obtain ⟨h1, h2⟩ := h q rfl
    rw [rput, if_neg (by rw [h1]; simp), if_neg h2]; rfl
  | q :: acc, i + 1, hp, hi, h => by
    rw [rput, if_pos (hp 0 q (by omega) rfl), rput_ins (acc := acc) (i := i) (fun j p hj hx => hp (j + 1) p (by omega) (by simpa using hx)) (by simpa using hi) (fun p hx => h p (by simpa using hx))]
    rfl
theorem rput_upd {k : KeyD} {id : ByteArray} : ∀ {acc : List (KeyD × List ByteArray)} {i : Nat} {p : KeyD × List ByteArray}, PreLt acc k i → acc[i]? = some p → p.1 = k → rput k id acc = acc.set i (k, addLast p.2 id)
  | [], i, p, _, h, _ => by simp at h
  | q :: acc, 0, p, _, h, e => by
    have hq : q = p := by simpa using h
    subst hq
    rw [rput, if_neg (by rw [e, ltK_irrefl]; simp), if_pos e]; rfl
  | q :: acc, i + 1, p, hp, h, e => by
    rw [rput, if_pos (hp 0 q (by omega) rfl), rput_upd (acc := acc) (i := i) (fun j p hj hx => hp (j + 1) p (by omega) (by simpa using hx)) (by simpa using h) e]
    rfl
theorem rput_ins_set {k : KeyD} {id : ByteArray} {acc : List (KeyD × List ByteArray)} {i : Nat} (hi : i ≤ acc.length) : (acc.take i ++ (k, []) :: acc.drop i).set i (k, addLast [] id) = acc.take i ++ (k, [id]) :: acc.drop i := by
  rw [List.set_append_right _ _ (by simp; omega)]
  simp only [List.length_take]
  rw [show i - min i acc.length = 0 by omega]; rfl
end Go.Proofs.YtbkomdinchiffaaGreat

namespace Go.Proofs.YtbkomdinchiffaaGreat
open Go.RowKit Go.Sort

def PutPost (l : List ObjD) (acc : List (KeyD × List ByteArray)) (k : KeyD) (id : ByteArray) (base : Nat) (v : Value) (w : World) (e : Ending) (w' : World) : Prop :=
  ∃ v', e = .returned v' ∧ BrAt w' base v' l (rput k id acc) ∧ w.grownBy w' v.ownBlock ∧ (v'.ownBlock = v.ownBlock ∨ ∀ j, v'.ownBlock = some j → w.heap.size ≤ j)
/-- How far the list is looked through: either it ends there, or the border there is not less. -/
def StopAt (acc : List (KeyD × List ByteArray)) (k : KeyD) (i : Nat) : Prop := i ≤ acc.length ∧ PreLt acc k i ∧ ∀ p, acc[i]? = some p → ltK p.1 k = false
theorem pre_succ {acc : List (KeyD × List ByteArray)} {k : KeyD} {i : Nat} {p : KeyD × List ByteArray} (h : PreLt acc k i) (hp : acc[i]? = some p) (hl : ltK p.1 k = true) : PreLt acc k (i + 1) := fun j q hj hq => by
  by_cases e : j = i
  · subst e; rw [hp] at hq; cases hq; exact hl
  · exact h j q (by omega) hq
/-- Half way: the border is there, perhaps without owners. -/
def PutMid (l : List ObjD) (acc : List (KeyD × List ByteArray)) (k : KeyD) (id : ByteArray) (base : Nat) (v : Value) (w : World) (i : Nat) (wx : World) (v0 : Value) : Prop :=
  ∃ (L1 : List BrM) (acc1 : List (KeyD × List ByteArray)) (ids : List ByteArray), wx.ownsRow base 49 7 v0 L1.length (L1.flatMap encBr) ∧ L1.map (·.1) = acc1.map (·.1) ∧ (∀ x ∈ L1, x.2.1 = segB l x.1) ∧
    (∀ (j : Nat) (x : BrM) (p : KeyD × List ByteArray), L1[j]? = some x → acc1[j]? = some p → OwR wx v0 x p.2) ∧ acc1[i]? = some (k, ids) ∧ rput k id acc = acc1.set i (k, addLast ids id) ∧ w.grownBy wx v.ownBlock ∧
    (v0.ownBlock = v.ownBlock ∨ ∀ j, v0.ownBlock = some j → w.heap.size ≤ j) ∧ acc1.length ≤ acc.length + 1 ∧ ids.length ≤ 100000
theorem grown_below {w w' : World} (h : Below w.heap.size w w') (row : Option Nat) : w.grownBy w' row := ⟨h.1, h.2, h.3, h.4, fun k hk _ => h.5 k hk⟩
theorem set_same {α : Type} {l : List α} {i : Nat} {x : α} (h : l[i]? = some x) : l.set i x = l := by
  apply List.ext_getElem?
  intro j
  by_cases e : i = j
  · subst e; rw [List.getElem?_set_self (List.getElem?_eq_some_iff.1 h).1, h]
  · rw [List.getElem?_set_ne e]
theorem strs_one (ids : List ByteArray) : ∀ u ∈ ids.map Value.string, u.oneCell' = true := fun u hu => by
  obtain ⟨s, _, rfl⟩ := List.mem_map.1 hu; rfl
theorem str_src {w : World} {a : Option Addr} {n c q : Nat} {ids : List ByteArray} (h : StrRow w (.slice a n c) ids) (hq : q = ids.length) : SrcRow w (.slice a n c) q (ids.map Value.string) := by
  obtain ⟨a', c', e, _, _, hc⟩ := h
  injection e with e1 e2 e3
  subst e1 e2 e3 hq
  refine ⟨_, _, rfl, ?_⟩
  by_cases h0 : ids.length = 0
  · exact Or.inl h0
  · obtain ⟨b, off, ha, hcell⟩ := hc (by omega)
    refine Or.inr ⟨_, ha, fun j u hu => ?_⟩
    rw [List.getElem?_map] at hu
    obtain ⟨s, hs, rfl⟩ := Option.map_eq_some_iff.1 hu
    rw [Addr.add_lit]
    exact hcell j s hs
theorem own_blk {w : World} {base size n m c g : Nat} {e : TypeId} {xs : List Value} (h : w.ownsRow base e size (.slice (some ⟨g, 0, none⟩) m c) n xs) : ∃ cur, w.heap[g]? = some (.cells cur e) := by
  rcases h.2 with ⟨h1, _⟩ | ⟨g', cap, cur, h1, _, hc, _⟩
  · cases h1
  · injection h1 with a
    injection a with a
    injection a with a
    subst a; exact ⟨cur, hc⟩
theorem put_grown {w w6 w9 : World} {row : Option Nat} {g : Nat} (h1 : w.grownBy w6 row) (h2 : w6.grownBy w9 (some g)) (hor : some g = row ∨ w.heap.size ≤ g) : w.grownBy w9 row :=
  ⟨h2.os.trans h1.os, h2.tape.trans h1.tape, h2.output.trans h1.output, Nat.le_trans h1.size h2.size, fun k hk hne => (h2.block k (Nat.lt_of_lt_of_le hk h1.size) (fun e => by
    rcases hor with hor | hor
    · exact hne (e.trans hor)
    · injection e with e; omega)).trans (h1.block k hk hne)⟩
theorem put_done {l : List ObjD} {w6 w8 : World} {base g1 m c1 i n8 c8 : Nat} {a8 : Option Addr} {L1 : List BrM} {acc1 : List (KeyD × List ByteArray)} {k : KeyD} {sg : Sg} {sl : Option Addr × Nat × Nat} {ids : List ByteArray} {id : ByteArray}
    (O8 : w8.ownsRow base 49 7 (.slice (some ⟨g1, 0, none⟩) m c1) m (L1.flatMap encBr)) (hm : m = L1.length) (hx : L1[i]? = some (k, sg, sl)) (q2 : L1.map (·.1) = acc1.map (·.1)) (q3 : ∀ x ∈ L1, x.2.1 = segB l x.1)
    (q4 : ∀ (j : Nat) (x : BrM) (p : KeyD × List ByteArray), L1[j]? = some x → acc1[j]? = some p → OwR w6 (.slice (some ⟨g1, 0, none⟩) m c1) x p.2) (b68 : Below w6.heap.size w6 w8) (hg1 : g1 < w6.heap.size)
    (own8 : w8.ownsRow w6.heap.size 9 1 (.slice a8 n8 c8) n8 ((ids ++ [id]).map Value.string)) (hn8 : n8 = (ids ++ [id]).length) (hz : ∀ s ∈ ids ++ [id], s.size ≤ 140737488355328) (hl : n8 ≤ 100001) :
    BrAt (w8.setCell ⟨g1, i * 7 + 6, none⟩ (.slice a8 n8 c8)) base (.slice (some ⟨g1, 0, none⟩) m c1) l (acc1.set i (k, ids ++ [id])) ∧ w6.grownBy (w8.setCell ⟨g1, i * 7 + 6, none⟩ (.slice a8 n8 c8)) (some g1) := by
  obtain ⟨hO, hg⟩ := own_field encBr_len O8 hm hx (x' := (k, sg, a8, n8, c8)) (o := 6) (vs := [.slice a8 n8 c8]) (by simp) (fun r hr => by
    rcases (show r = 0 ∨ r = 1 ∨ r = 2 ∨ r = 3 ∨ r = 4 ∨ r = 5 ∨ r = 6 by omega) with rfl | rfl | rfl | rfl | rfl | rfl | rfl <;> rfl)
  have hg' : w8.grownBy (w8.setCell ⟨g1, i * 7 + 6, none⟩ (.slice a8 n8 c8)) (some g1) := hg
  have hO' : (w8.setCell ⟨g1, i * 7 + 6, none⟩ (.slice a8 n8 c8)).ownsRow base 49 7 (.slice (some ⟨g1, 0, none⟩) m c1) m ((L1.set i (k, sg, a8, n8, c8)).flatMap encBr) := hO
  have hil := (List.getElem?_eq_some_iff.1 hx).1
  have hp : ∃ g8, a8 = some ⟨g8, 0, none⟩ ∧ w6.heap.size ≤ g8 ∧ g8 < w8.heap.size := by
    rcases own8.2 with ⟨h, h0⟩ | ⟨g, _, _, h, h1, h2, _⟩
    · rw [hn8] at h0; simp at h0
    · injection h with h; exact ⟨g, h, h1, lt_of_block h2⟩
  obtain ⟨g8, rfl, h81, h82⟩ := hp
  have hown9 := own8.kept hg' (Or.inr (fun c => by injection c with c; have c' : g8 = g1 := c; omega))
  refine ⟨⟨L1.set i (k, sg, some ⟨g8, 0, none⟩, n8, c8), by rw [List.length_set, ← hm]; exact hO', ?_, fun x hx' => ?_, fun j x p hx' hp => ?_⟩, ⟨hg'.os.trans b68.os, hg'.tape.trans b68.tape, hg'.output.trans b68.output, Nat.le_trans b68.size hg'.size, fun k hk hne => (hg'.block k (Nat.lt_of_lt_of_le hk b68.size) hne).trans (b68.block k hk)⟩⟩
  · rw [List.map_set, List.map_set, q2]
  · rcases List.mem_or_eq_of_mem_set hx' with h | rfl
    · exact q3 x h
    · exact q3 (k, sg, sl) (List.mem_of_getElem? hx)
  · by_cases e : i = j
    · subst e
      have hal : i < acc1.length := by rw [← br_len q2]; exact hil
      rw [List.getElem?_set_self hil] at hx'
      rw [List.getElem?_set_self hal] at hp
      injection hx' with hx'
      injection hp with hp
      subst hx' hp
      have hs := StrRow.of_own (ids := ids ++ [id]) (v := .slice (some ⟨g8, 0, none⟩) n8 c8) (by rw [← hn8]; exact hown9) (by rw [← hn8]; omega) hz
      exact Or.inr ⟨g8, n8, c8, rfl, hs, (fun c => by injection c with c; have c' : g1 = g8 := c; omega), Nat.lt_of_lt_of_le h82 hg'.size⟩
    · rw [List.getElem?_set_ne e] at hx' hp
      exact ((q4 j x p hx' hp).on b68).kept hg' (Or.inl rfl)
theorem put_mid {l : List ObjD} {acc : List (KeyD × List ByteArray)} {k1 k2 id : ByteArray} {base n i : Nat} {v v3 : Value} {w w5 w' : World} {L : List BrM} {px py qx qy : Int} (h1 : L.map (·.1) = acc.map (·.1)) (h2 : ∀ x ∈ L, x.2.1 = segB l x.1)
    (h3 : ∀ (i : Nat) (x : BrM) (p : KeyD × List ByteArray), L[i]? = some x → acc[i]? = some p → OwR w v x p.2) (hna : acc.length = n) (hN : L.length = n) (hi : i ≤ n) (hsg : segB l (k1, k2) = ((px, py), (qx, qy))) (hg : rput (k1, k2) id acc = acc.take i ++ ((k1, k2), [id]) :: acc.drop i)
    (hbase : base ≤ w.heap.size) (hb : Below w.heap.size w w')
    (hown : w'.ownsRow w5.heap.size 49 7 v3 (0 + i + 1 + (n - i)) ([] ++ (L.take i).flatMap encBr ++ encBr ((k1, k2), ((px, py), (qx, qy)), none, 0, 0) ++ (L.drop i).flatMap encBr)) (hz : w.heap.size ≤ w5.heap.size) :
    PutMid l acc (k1, k2) id base v w i w' v3 := by
  have hnew : ∀ j, v3.ownBlock = some j → w.heap.size ≤ j := fun j hj => Nat.le_trans hz (hown.lt j hj).1
  have hiL : (L.take i).length = i := by rw [List.length_take, hN]; omega
  have hiA : (acc.take i).length = i := by rw [List.length_take, hna]; omega
  refine ⟨L.take i ++ ((k1, k2), ((px, py), (qx, qy)), none, 0, 0) :: L.drop i, acc.take i ++ ((k1, k2), []) :: acc.drop i, [], ?_, ?_, fun x hx => ?_, fun j x p hx hp => ?_, ?_, ?_, grown_below hb _, Or.inr hnew, ?_, by simp⟩
  · have h4 := own_base hown (Nat.le_trans hbase hz)
    rw [show (L.take i ++ ((k1, k2), ((px, py), (qx, qy)), none, 0, 0) :: L.drop i).length = 0 + i + 1 + (n - i) by rw [List.length_append, hiL, List.length_cons, List.length_drop, hN]; omega]
    rw [show (L.take i ++ ((k1, k2), ((px, py), (qx, qy)), none, 0, 0) :: L.drop i).flatMap encBr = [] ++ (L.take i).flatMap encBr ++ encBr ((k1, k2), ((px, py), (qx, qy)), none, 0, 0) ++ (L.drop i).flatMap encBr by simp]
    exact h4
  · rw [List.map_append, List.map_cons, List.map_append, List.map_cons, List.map_take, List.map_drop, List.map_take, List.map_drop, h1]
  · rcases List.mem_append.1 hx with hx | hx
    · exact h2 x (List.mem_of_mem_take hx)
    · rcases List.mem_cons.1 hx with rfl | hx
      · exact hsg.symm
      · exact h2 x (List.mem_of_mem_drop hx)
  · by_cases hj : j < i
    · rw [List.getElem?_append_left (by rw [hiL]; exact hj), List.getElem?_take, if_pos hj] at hx
      rw [List.getElem?_append_left (by rw [hiA]; exact hj), List.getElem?_take, if_pos hj] at hp
      exact (h3 j x p hx hp).new ((h3 j x p hx hp).on hb) hnew
    · rw [List.getElem?_append_right (by rw [hiL]; omega), hiL] at hx
      rw [List.getElem?_append_right (by rw [hiA]; omega), hiA] at hp
      by_cases hj2 : j = i
      · subst hj2
        rw [Nat.sub_self] at hx hp
        have ex : ((k1, k2), ((px, py), (qx, qy)), none, 0, 0) = x := by simpa using hx
        have ep : ((k1, k2), ([] : List ByteArray)) = p := by simpa using hp
        rw [← ex, ← ep]
        exact Or.inl ⟨rfl, rfl⟩
      · obtain ⟨q, hq⟩ : ∃ q, j - i = q + 1 := ⟨j - i - 1, by omega⟩
        rw [hq, List.getElem?_cons_succ, List.getElem?_drop] at hx hp
        exact (h3 _ x p hx hp).new ((h3 _ x p hx hp).on hb) hnew
  · rw [List.getElem?_append_right (by rw [hiA]; exact Nat.le_refl _), hiA, Nat.sub_self]; rfl
  · rw [hg, rput_ins_set (by rw [hna]; exact hi)]
  · rw [List.length_append, hiA, List.length_cons, List.length_drop, hna]; omega
theorem node_pos {l : List ObjD} {r : ByteArray} (h : (nodeAt l r).isSome = true) : ∃ j, posO r l = some j ∧ ∃ o, l[j]? = some o ∧ o.kind = 1 ∧ ptO l r = (o.x, o.y) := by
  cases hp : posO r l with
  | none => rw [nodeAt_none l r hp] at h; cases h
  | some j =>
    obtain ⟨o, ho, _⟩ := posO_some r l j hp
    have e := nodeAt_some l r j hp o ho
    rw [e] at h
    by_cases hk : o.kind = 1
    · rw [if_pos hk] at e
      exact ⟨j, rfl, o, ho, hk, by unfold ptO; rw [e]; rfl⟩
    · rw [if_neg hk] at h; cases h
theorem objs_block {w : World} {a : Option Addr} {n c : Nat} {l : List ObjD} (h : ObjsIs w (.slice a n c) l) {o : ObjD} (ho : o ∈ l) : ∃ b off, a = some ⟨b, off, none⟩ ∧ ∀ (i : Nat) (o : ObjD), l[i]? = some o → ObjAt w b (off + i * 6) o := by
  obtain ⟨a', cap, e, _, hc⟩ := h
  injection e with e1 e2 e3
  subst e1
  exact hc (List.length_pos_of_mem ho)
theorem own_cap' {w : World} {base size n : Nat} {e : TypeId} {ao : Option Addr} {m c : Nat} {xs : List Value} (h : w.ownsRow base e size (.slice ao m c) n xs) : n ≤ c := by
  rcases h.2 with ⟨h1, h2⟩ | ⟨g, cap, cur, h1, _, _, h2, _⟩
  · omega
  · injection h1 with a b d; subst d; exact h2
theorem cells_new0' (w : World) (cs : List Value) (t : TypeId) (j : Nat) (u : Value) (h : cs[j]? = some u) : (w.alloc (.cells cs.toArray t)).cell? ((⟨w.heap.size, 0, none⟩ : Addr).add j) = some u := cells_new w cs t j u h
theorem owns_made1' (w : World) (o : Obj) {base size : Nat} {e : TypeId} (cur : Array Value) (cap : Nat) (hb : base ≤ w.heap.size) (hm : cap ≤ maxLen) (hs : cur.size = cap * size) :
    ((w.alloc o).alloc (.cells cur e)).ownsRow base e size (.slice (some ⟨w.heap.size + 1, 0, none⟩) 0 cap) 0 [] := by
  have := World.ownsRow_made (w := w.alloc o) (e := e) (base := base) (size := size) cur cap (by rw [World.size_alloc]; omega) hm hs
  rwa [World.size_alloc] at this
set_option maxRecDepth 100000 in
set_option maxHeartbeats 8000000 in
theorem rput_any (v vm : Value) (l : List ObjD) (acc : List (KeyD × List ByteArray)) (k : KeyD) (id : ByteArray) (base : Nat) (w : World) (hv : BrAt w base v l acc) (hm : ObjsIs w vm l) (hok : mapOK l = true) (hk1 : (nodeAt l k.1).isSome = true) (hk2 : (nodeAt l k.2).isSome = true)
    (hn : acc.length ≤ 100000) (ho : ∀ p ∈ acc, p.2.length ≤ 100000) (hbase : base ≤ w.heap.size) (hid : id.size ≤ 140737488355328) :
    Calls Tryz.prog 53 #[v, .agg #[vm], .agg #[.string k.1, .string k.2], .string id] w (PutPost l acc k id base v w) := by
  have mixed : Tryz.prog.follows .mixedOrders = true := by kernel_rfl
  obtain ⟨i0, hi, hi0, hi1, hi2⟩ := info_parts infoBr
  obtain ⟨L, hown, hL1, hL2, hL3⟩ := hv
  have HL1 := Lib.hid hL1
  have HL2 := Lib.hid hL2
  have HL3 := Lib.hid hL3
  have HLN := Lib.hid (br_len hL1)
  have HO := Lib.hid ho
  have HM := Lib.hid hm
  have HFD := Lib.hid (fun (id : ByteArray) (W : World) (hb : Below w.heap.size w W) => rfind13_any vm l id W (hm.later hb) hok)
  have HK1 := Lib.hid hk1
  have HK2 := Lib.hid hk2
  have HOK := Lib.hid hok
  have HRW := Lib.hid (RowE.of_own encBr_len rfl hown)
  have HOWN := Lib.hid hown
  obtain ⟨av, cv, rfl⟩ := own_form hown
  obtain ⟨am, cm, rfl, _⟩ := hm
  obtain ⟨n, hN⟩ : ∃ n, L.length = n := ⟨_, rfl⟩
  rw [hN] at HRW HOWN HLN HL3 ⊢
  have hna : acc.length = n := by rw [← HLN.out]
  have HN := Lib.hid hN
  rw [hna] at hn
  have HNA := Lib.hid hna
  obtain ⟨k1, k2⟩ := k
  simp only [] at HK1 HK2 ⊢
  clear hL1 hL2 hL3 ho hk1 hk2 hok hown hN hna
  go_enter Tryz.func53, Tryz.ntmps53
  go_upto_block 0 with fail
  have BX : Below w.heap.size w ((w.alloc (.cells #[.slice am l.length cm] 24)).alloc (.cells #[.string k1, .string k2] 50)) := (by repeat' (first | exact Below.refl _ _ | refine Below.drew ?_ | refine Below.drewN' ?_ | refine Below.setCell ?_ (by first | omega | (simp; done) | exact Below.size (by assumption) | (simp; omega)) _ | refine Below.alloc ?_ (by first | omega | (simp; done) | exact Below.size (by assumption) | (simp; omega)) _ | refine Below.trans ?_ (Below.mono (by assumption) ?_) | (first | omega | (simp; done) | exact Below.size (by assumption) | (simp; omega))))
  have HA := row_past (o' := .cells #[.string k1, .string k2] 50) (row_new w (.cells #[.slice am l.length cm] 24))
  have HB := row_new1 w (.cells #[.slice am l.length cm] 24) (.cells #[.string k1, .string k2] 50)
  generalize hw1 : (w.alloc (.cells #[.slice am l.length cm] 24)).alloc (.cells #[.string k1, .string k2] 50) = w1
  rw [hw1] at BX HA HB
  have HA1 := Lib.hid HA
  have HB1 := Lib.hid HB
  have hz1 : w.heap.size + 2 ≤ w1.heap.size := by have := lt_of_block HB; omega
  clear hw1 HA HB
  go_cut [9] from 12 to 48 (fun v9 wx => ∃ i : Nat, v9 = .int .i64 i ∧ StopAt acc (k1, k2) i ∧ Below w1.heap.size w1 wx)
  case first =>
    go_wp2_with fail
    go_loopw [9] (fun v9 wx => ∃ i : Nat, v9 = .int .i64 i ∧ i ≤ n ∧ PreLt acc (k1, k2) i ∧ Below w1.heap.size w1 wx) (fun v9 _ => n - (intOf v9).toNat)
    case atStart => exact ⟨0, rfl, by omega, (fun j p hj => by omega), Below.refl _ _⟩
    case round =>
      obtain ⟨i, rfl, hin, hpre, hbr⟩ := hrel
      have HPRE := Lib.hid hpre
      have HBr := Lib.hid (row_later hbr HB1.out)
      have BR := below_step BX (by omega) hbr
      clear hpre
      by_cases hlt : i < n
      case neg =>
        obtain rfl : i = n := by omega
        have HS := Lib.hid (show StopAt acc (k1, k2) i from ⟨by rw [HNA.out]; exact Nat.le_refl _, HPRE.out, fun p hp => by have := (List.getElem?_eq_some_iff.1 hp).1; rw [HNA.out] at this; omega⟩)
        -- the loop ends: HS : StopAt
        go_wp2_with fail
        go_quiet (fail)
        go_wp2
        go_meet
        case rel => exact ⟨i, rfl, HS.out, hbr.drewN'⟩
      obtain ⟨p, hp⟩ : ∃ p, acc[i]? = some p := ⟨acc[i]'(by rw [HNA.out]; exact hlt), List.getElem?_eq_getElem _⟩
      obtain ⟨x, hx⟩ : ∃ x, L[i]? = some x := ⟨L[i]'(by rw [HN.out]; exact hlt), List.getElem?_eq_getElem _⟩
      have hxp : x.1 = p.1 := by
        have h := congrArg (fun M => M[i]?) HL1.out
        simp only [List.getElem?_map, hx, hp, Option.map_some] at h
        injection h
      obtain ⟨ao, co, hv, hc⟩ := HRW.out
      injection hv with e1 e2 e3
      subst e1
      obtain ⟨b, off, hab, hcell⟩ := hc (by rw [HN.out]; omega)
      subst hab
      have d0' := cell_later BR (hcell i x hx 0 _ rfl)
      have d0 : wr.cell? ⟨b, off + i * 7, none⟩ = some (.string x.1.1) := d0'
      have d1 := cell_later BR (hcell i x hx 1 _ rfl)
      have bz := lt_of_cell d0
      rw [hxp] at d0 d1
      have HGT := Lib.hid (fun (h : ltK p.1 (k1, k2) = true) => pre_succ HPRE.out hp h)
      have HST := Lib.hid (fun (h : ltK p.1 (k1, k2) = false) => (show StopAt acc (k1, k2) i from ⟨by rw [HNA.out]; exact hin, HPRE.out, fun q hq => by rw [hp] at hq; injection hq with hq; rw [← hq]; exact h⟩))
      have HLK := Lib.hid (show ltK p.1 (k1, k2) = (ltB p.1.1 k1 || (decide (p.1.1 = k1) && ltB p.1.2 k2)) from rfl)
      obtain ⟨a1, ha1⟩ : ∃ z, z = p.1.1 := ⟨_, rfl⟩
      obtain ⟨a2, ha2⟩ : ∃ z, z = p.1.2 := ⟨_, rfl⟩
      rw [← ha1, ← ha2] at HLK
      rw [← ha1] at d0
      rw [← ha2] at d1
      have qz := lt_of_block HBr.out
      have q0 := cell_of_row wr _ 0 _ _ _ HBr.out
      have q1 := cell_of_row wr _ 1 _ _ _ HBr.out
      simp only [List.getElem?_toArray, List.getElem?_cons_zero, List.getElem?_cons_succ] at q0 q1
      clear hcell hc hp hx hxp d0' ha1 ha2 e2 e3
      have hi0 : (0 : Int) ≤ (i : Int) := by omega
      have hi1 : (i : Int) < (n : Int) := by omega
      cases l1 : ltB a1 k1 with
      | true =>
        have HN' := Lib.hid (HGT.out (by rw [HLK.out, l1]; rfl))
        have HN := Lib.hid (show i + 1 ≤ n ∧ PreLt acc (k1, k2) (i + 1) from ⟨by omega, HN'.out⟩)
        have LQ : Op.bytesLess a1.toList k1.toList = true := l1
        clear l1
        -- on with the loop: HGO : ltK = true
        go_wp2_with fail
        go_quiet (fail)
        go_wp2
        go_roundw
        case rel => exact ⟨i + 1, by go_num, HN.out.1, HN.out.2, hbr.drewN'⟩
        case measure => simp [intOf]; omega
      | false =>
        have LQ : Op.bytesLess a1.toList k1.toList = false := l1
        by_cases e4 : a1 = k1
        · cases l2 : ltB a2 k2 with
          | true =>
            have HN' := Lib.hid (HGT.out (by rw [HLK.out, l1, l2, decide_eq_true e4]; rfl))
            have HN := Lib.hid (show i + 1 ≤ n ∧ PreLt acc (k1, k2) (i + 1) from ⟨by omega, HN'.out⟩)
            have LR : Op.bytesLess a2.toList k2.toList = true := l2
            clear l1 l2
            subst e4
            -- on with the loop: HGO : ltK = true
            go_wp2_with fail
            go_quiet (fail)
            go_wp2
            go_roundw
            case rel => exact ⟨i + 1, by go_num, HN.out.1, HN.out.2, hbr.drewN'⟩
            case measure => simp [intOf]; omega
          | false =>
            have HS := Lib.hid (HST.out (by rw [HLK.out, l1, l2]; simp))
            have LR : Op.bytesLess a2.toList k2.toList = false := l2
            clear l1 l2
            subst e4
            -- the loop ends: HS : StopAt
            go_wp2_with fail
            go_quiet (fail)
            go_wp2
            go_meet
            case rel => exact ⟨i, rfl, HS.out, hbr.drewN'⟩
        · have HS := Lib.hid (HST.out (by rw [HLK.out, l1, decide_eq_false e4]; rfl))
          have n1 := toList_ne e4
          clear l1
          -- the loop ends: HS : StopAt
          go_wp2_with fail
          go_quiet (fail)
          go_wp2
          go_meet
          case rel => exact ⟨i, rfl, HS.out, hbr.drewN'⟩
  case rest =>
    obtain ⟨i, rfl, hst, BQ⟩ := hcut
    have HST := Lib.hid hst
    clear hst
    obtain ⟨w2, rfl⟩ : ∃ z : World, z = wc := ⟨_, rfl⟩
    have B2 := below_step BX (by omega) BQ
    have hz2 := BQ.size
    have HB2 := Lib.hid (row_later BQ HB1.out)
    have HA2 := Lib.hid (row_later BQ HA1.out)
    clear BQ
    have hil : i ≤ n := by have := HST.out.1; rw [HNA.out] at this; exact this
    go_upto_region 4 with fail
    go_cut [71] from 48 to 72 (fun v71 wx => ∃ fnd : Bool, v71 = .bool (!fnd) ∧ (fnd = true → ∃ p, acc[i]? = some p ∧ p.1 = (k1, k2)) ∧ (fnd = false → ∀ p, acc[i]? = some p → p.1 ≠ (k1, k2)) ∧ Below w2.heap.size w2 wx)
    case first =>
      by_cases hlt : i < n
      case neg =>
        obtain rfl : i = n := by omega
        have HS := Lib.hid (show ∀ p, acc[i]? = some p → p.1 ≠ (k1, k2) from fun p hp => by have := (List.getElem?_eq_some_iff.1 hp).1; rw [HNA.out] at this; omega)
        go_wp2_with fail
        go_quiet (fail)
        go_wp2
        go_meet
        case rel => exact ⟨false, rfl, (fun h => by cases h), fun _ => HS.out, (Below.refl _ _).drewN'⟩
      obtain ⟨p, hp⟩ : ∃ p, acc[i]? = some p := ⟨acc[i]'(by rw [HNA.out]; exact hlt), List.getElem?_eq_getElem _⟩
      obtain ⟨x, hx⟩ : ∃ x, L[i]? = some x := ⟨L[i]'(by rw [HN.out]; exact hlt), List.getElem?_eq_getElem _⟩
      have hxp : x.1 = p.1 := by
        have h := congrArg (fun M => M[i]?) HL1.out
        simp only [List.getElem?_map, hx, hp, Option.map_some] at h
        injection h
      obtain ⟨ao, co, hv, hc⟩ := HRW.out
      injection hv with e1 e2 e3
      subst e1
      obtain ⟨b, off, hab, hcell⟩ := hc (by rw [HN.out]; omega)
      subst hab
      have d0' := cell_later B2 (hcell i x hx 0 _ rfl)
      have d0 : w2.cell? ⟨b, off + i * 7, none⟩ = some (.string x.1.1) := d0'
      have d1 := cell_later B2 (hcell i x hx 1 _ rfl)
      have bz := lt_of_cell d0
      rw [hxp] at d0 d1
      have HP := Lib.hid hp
      obtain ⟨a1, ha1⟩ : ∃ z, z = p.1.1 := ⟨_, rfl⟩
      obtain ⟨a2, ha2⟩ : ∃ z, z = p.1.2 := ⟨_, rfl⟩
      have HPA := Lib.hid (show p.1 = (a1, a2) by rw [ha1, ha2])
      rw [← ha1] at d0
      rw [← ha2] at d1
      have qz := lt_of_block HB2.out
      have q0 := cell_of_row w2 _ 0 _ _ _ HB2.out
      have q1 := cell_of_row w2 _ 1 _ _ _ HB2.out
      simp only [List.getElem?_toArray, List.getElem?_cons_zero, List.getElem?_cons_succ] at q0 q1
      clear hcell hc hp hx hxp d0' ha1 ha2 e2 e3
      have hi0 : (0 : Int) ≤ (i : Int) := by omega
      have hi1 : (i : Int) < (n : Int) := by omega
      have hi2 : ((i : Int) == (n : Int)) = false := beq_false_of_ne (by omega)
      have hi3 : ¬ (i : Int) = (n : Int) := by omega
      by_cases e4 : a1 = k1
      · by_cases e5 : a2 = k2
        · have HF := Lib.hid (show ∃ p, acc[i]? = some p ∧ p.1 = (k1, k2) from ⟨p, HP.out, by rw [HPA.out, e4, e5]⟩)
          clear HPA
          subst e4 e5
          go_wp2_with fail
          go_quiet (fail)
          go_wp2
          go_meet
          case rel => exact ⟨true, rfl, fun _ => HF.out, (fun h => by cases h), (Below.refl _ _).drewN'⟩
        · have HS := Lib.hid (show ∀ p, acc[i]? = some p → p.1 ≠ (k1, k2) from fun q hq => by
            rw [HP.out] at hq; injection hq with hq; rw [← hq, HPA.out]; exact fun c => e5 (by injection c))
          have n1 := toList_ne e5
          clear HPA
          subst e4
          go_wp2_with fail
          go_quiet (fail)
          go_wp2
          go_meet
          case rel => exact ⟨false, rfl, (fun h => by cases h), fun _ => HS.out, (Below.refl _ _).drewN'⟩
      · have HS := Lib.hid (show ∀ p, acc[i]? = some p → p.1 ≠ (k1, k2) from fun q hq => by
          rw [HP.out] at hq; injection hq with hq; rw [← hq, HPA.out]; exact fun c => e4 (by injection c))
        have n1 := toList_ne e4
        clear HPA
        go_wp2_with fail
        go_quiet (fail)
        go_wp2
        go_meet
        case rel => exact ⟨false, rfl, (fun h => by cases h), fun _ => HS.out, (Below.refl _ _).drewN'⟩
    case rest =>
      obtain ⟨fnd, rfl, hf1, hf2, BQ⟩ := hcut
      obtain ⟨w3, rfl⟩ : ∃ z : World, z = wc := ⟨_, rfl⟩
      have B3 := below_step B2 (by omega) BQ
      have hz3 := BQ.size
      replace HB2 := Lib.hid (row_later BQ HB2.out)
      replace HA2 := Lib.hid (row_later BQ HA2.out)
      have HF1 := Lib.hid hf1
      have HF2 := Lib.hid hf2
      clear BQ hf1 hf2
      go_upto_if 71 with fail
      go_cut [0] from 72 to 107 (fun v0 wx => PutMid l acc (k1, k2) id base (.slice av n cv) w i wx v0)
      case first =>
        cases fnd with
        | true =>
          obtain ⟨⟨pk, pids⟩, hp, hpk⟩ := HF1.out rfl
          simp only [] at hpk
          subst hpk
          have HMID := Lib.hid (show PutMid l acc (k1, k2) id base (.slice av n cv) w i w3 (.slice av n cv) from
            ⟨L, acc, pids, by rw [HN.out]; exact own_later HOWN.out B3, HL1.out, HL2.out, fun j x p hx hp => (HL3.out j x p hx hp).on B3, hp, rput_upd HST.out.2.1 hp rfl, grown_below B3 _, Or.inl rfl, by omega, HO.out _ (List.mem_of_getElem? hp)⟩)
          clear hp
          go_wp2
          go_meet
          case rel => exact HMID.out
        | false =>
          have HG := Lib.hid (rput_ins (id := id) HST.out.2.1 HST.out.1 (fun p hp => ⟨HST.out.2.2 p hp, HF2.out rfl p hp⟩))
          obtain ⟨j1, hj1, o1, ho1, hj1k, hj1q⟩ := node_pos HK1.out
          obtain ⟨j2, hj2, o2, ho2, hj2k, hj2q⟩ := node_pos HK2.out
          obtain ⟨b, off, hab, hcell⟩ := objs_block HM.out (List.mem_of_getElem? ho1)
          subst hab
          have HC1 := Lib.hid (fun (W : World) (hb : Below w.heap.size w W) => (hcell j1 o1 ho1).later hb)
          have HC2 := Lib.hid (fun (W : World) (hb : Below w.heap.size w W) => (hcell j2 o2 ho2).later hb)
          have HX1 := Lib.hid (show idxO k1 l = (j1 : Int) by unfold idxO; rw [hj1])
          have HX2 := Lib.hid (show idxO k2 l = (j2 : Int) by unfold idxO; rw [hj2])
          have F1 := Lib.hid (fun (W : World) (hb : Below w.heap.size w W) => HFD.out k1 W hb)
          have F2 := Lib.hid (fun (W : World) (hb : Below w.heap.size w W) => HFD.out k2 W hb)
          rw [HX1.out] at F1
          rw [HX2.out] at F2
          have hl1 := (List.getElem?_eq_some_iff.1 ho1).1
          have hl2 := (List.getElem?_eq_some_iff.1 ho2).1
          have HSG := Lib.hid (show segB l (k1, k2) = ((o1.x, o1.y), (o2.x, o2.y)) by unfold segB; rw [hj1q, hj2q])
          have jj1 : (0 : Int) ≤ (j1 : Int) := by omega
          have jj2 : (j1 : Int) < (l.length : Int) := by omega
          have jj3 : (0 : Int) ≤ (j2 : Int) := by omega
          have jj4 : (j2 : Int) < (l.length : Int) := by omega
          clear hj1 hj2 hj1q hj2q hj1k hj2k ho1 ho2 hcell
          go_wp2_with fail
          refine wp_region_mix 23 (fun W => Below w3.heap.size w3 W) (fun W => Below w3.heap.size w3 W) mixed (by kernel_rfl) (by kernel_rfl) (by kernel_rfl) (StableW.below _ _ (Nat.le_refl _)) (fun W hW => hW) (Below.refl _ _).drew ?_
          apply Exists.intro
          refine ⟨fun W hW => ?_, ?_⟩
          · have BW := below_step B3 (Nat.le_refl _) hW
            have HAh := Lib.hid (row_later hW HA2.out)
            have HBh := Lib.hid (row_later hW HB2.out)
            have xz := lt_of_block HAh.out
            have x0 := cell_of_row W _ 0 _ _ _ HAh.out
            simp only [List.getElem?_toArray, List.getElem?_cons_zero] at x0
            have qx0 := cell_belowBy x0
            clear x0
            have yz := lt_of_block HBh.out
            have y0 := cell_of_row W _ 0 _ _ _ HBh.out
            have y1 := cell_of_row W _ 1 _ _ _ HBh.out
            simp only [List.getElem?_toArray, List.getElem?_cons_zero, List.getElem?_cons_succ] at y0 y1
            have qy0 := cell_belowBy y0
            have qy1 := cell_belowBy y1
            clear y0 y1
            obtain ⟨vr1, vt1, -, -, c2, c3, -⟩ := HC1.out W BW
            obtain ⟨vr2, vt2, -, -, d2, d3, -⟩ := HC2.out W BW
            have f2 := cell_belowBy c2
            have f3 := cell_belowBy c3
            have g2 := cell_belowBy d2
            have g3 := cell_belowBy d3
            have fz := lt_of_cell c2
            clear c2 c3 d2 d3
            simp only [List.take_succ_cons, List.take_zero]
            iterate 10 (go_big_quiet_step ((go_at_call 87; exact calls_belowBy (F1.out _ (below_step BW (Nat.le_refl _) (BelowBy.below _))))))
            repeat (go_big_quiet_step ((go_at_call 87; exact calls_belowBy (F2.out _ (below_step BW (Nat.le_refl _) (BelowBy.below _))))))
            exact wpQuiet_nil rfl
          · simp only [List.drop_succ_cons, List.drop_zero]
            refine tailM_step (ι := Nat) (fun g => .pointer (some ⟨g, 0, none⟩)) (fun g W => Below w3.heap.size w3 W ∧ W.heap[g]? = some (.cells #[.string ⟨#[]⟩, .string ⟨#[]⟩, .int .i64 0, .int .i64 0, .int .i64 0, .int .i64 0, .slice none 0 0] 49) ∧ w3.heap.size ≤ g) rfl (fun g => (StableW.below _ _ (Nat.le_refl _)).and ((StableW.row _ _).and (StableW.const _))) (fun _ _ h => h.1) (fun W hS K hK => ?_) (fun g => ?_)
            · go_simp
              exact hK W.heap.size _ ⟨hS.alloc hS.size _, row_new _ _, hS.size⟩
            simp only [Act.put, List.setIfInBounds_toArray, List.set_cons_succ, List.set_cons_zero]
            refine tailM_step (ι := Unit) (fun _ => undef) (fun _ W => Below w3.heap.size w3 W ∧ W.heap[g]? = some (.cells #[.string k1, .string k2, .int .i64 o1.x, .int .i64 o1.y, .int .i64 o2.x, .int .i64 o2.y, .slice none 0 0] 49) ∧ w3.heap.size ≤ g) rfl (fun _ => (StableW.below _ _ (Nat.le_refl _)).and ((StableW.row _ _).and (StableW.const _))) (fun _ _ h => h.1) (fun W hS K hK => ?_) (fun _ => ?_)
            · obtain ⟨hS1, hS2, hS3⟩ := hS
              have HS2 := Lib.hid hS2
              clear hS2
              have ccz := lt_of_block HS2.out
              have cc0 := cell_of_row W _ 0 _ _ _ HS2.out
              have cc1 := cell_of_row W _ 1 _ _ _ HS2.out
              have cc2 := cell_of_row W _ 2 _ _ _ HS2.out
              have cc3 := cell_of_row W _ 3 _ _ _ HS2.out
              have cc4 := cell_of_row W _ 4 _ _ _ HS2.out
              have cc5 := cell_of_row W _ 5 _ _ _ HS2.out
              have cc6 := cell_of_row W _ 6 _ _ _ HS2.out
              have ccf0 := frozen_of_row W _ 0 _ _ HS2.out
              have ccf1 := frozen_of_row W _ 1 _ _ HS2.out
              have ccf2 := frozen_of_row W _ 2 _ _ HS2.out
              have ccf3 := frozen_of_row W _ 3 _ _ HS2.out
              have ccf4 := frozen_of_row W _ 4 _ _ HS2.out
              have ccf5 := frozen_of_row W _ 5 _ _ HS2.out
              have ccf6 := frozen_of_row W _ 6 _ _ HS2.out
              simp only [List.getElem?_toArray, List.getElem?_cons_zero, List.getElem?_cons_succ] at cc0 cc1 cc2 cc3 cc4 cc5 cc6
              have H1 := Lib.hid (setCells_block [.string k1, .string k2, .int .i64 o1.x, .int .i64 o1.y, .int .i64 o2.x, .int .i64 o2.y, .slice none 0 0] 0 W _ HS2.out)
              have H3 := Lib.hid (hS1.grown (setCells_grown (g := g) [.string k1, .string k2, .int .i64 o1.x, .int .i64 o1.y, .int .i64 o2.x, .int .i64 o2.y, .slice none 0 0] 0 W) hS1.size (fun j hj => by injection hj with hj; omega))
              simp only [World.setCells] at H1 H3
              go_simp
              exact hK () _ ⟨H3.out, H1.out, hS3⟩
            simp only [Act.put]
            refine tailM_nil fun W hW => ?_
            obtain ⟨hW1, hW2, hW3⟩ := hW
            have HNB := Lib.hid hW2
            clear hW2
            obtain ⟨w5, rfl⟩ : ∃ z : World, z = W := ⟨_, rfl⟩
            go_wp2_with fail
            -- the new border between the parts of the list: world w5, block g
            have B5 := below_step B3 (Nat.le_refl _) hW1
            have xz := lt_of_block HNB.out
            have x0 := cell_of_row w5 _ 0 _ _ _ HNB.out
            have x1 := cell_of_row w5 _ 1 _ _ _ HNB.out
            have x2 := cell_of_row w5 _ 2 _ _ _ HNB.out
            have x3 := cell_of_row w5 _ 3 _ _ _ HNB.out
            have x4 := cell_of_row w5 _ 4 _ _ _ HNB.out
            have x5 := cell_of_row w5 _ 5 _ _ _ HNB.out
            have x6 := cell_of_row w5 _ 6 _ _ _ HNB.out
            simp only [List.getElem?_toArray, List.getElem?_cons_zero, List.getElem?_cons_succ] at x0 x1 x2 x3 x4 x5 x6
            have R5 := HRW.out.later B5
            have hcap := own_cap' HOWN.out
            have s1 : (0 : Int) ≤ (i : Int) := by omega
            have s2 : (i : Int) ≤ (n : Int) := by omega
            have s3 : (n : Int) ≤ (cv : Int) := by omega
            have s4 : (i : Int) ≤ (cv : Int) := by omega
            have LT : ((L.take i).flatMap encBr).length = i * 7 := by rw [flat_length encBr 7 encBr_len, List.length_take, HN.out, Nat.min_eq_left hil]
            have LD : ((L.drop i).flatMap encBr).length = (n - i) * 7 := by rw [flat_length encBr 7 encBr_len, List.length_drop, HN.out]
            go_region_held3 (fun w' => w'.cell? ⟨g, 0, none⟩ = some (.string k1) ∧ w'.cell? ⟨g, 1, none⟩ = some (.string k2) ∧ w'.cell? ⟨g, 2, none⟩ = some (.int .i64 o1.x) ∧ w'.cell? ⟨g, 3, none⟩ = some (.int .i64 o1.y) ∧ w'.cell? ⟨g, 4, none⟩ = some (.int .i64 o2.x) ∧ w'.cell? ⟨g, 5, none⟩ = some (.int .i64 o2.y) ∧ w'.cell? ⟨g, 6, none⟩ = some (.slice none 0 0) ∧ Below w5.heap.size w5 w')
              (first
                | exact ⟨x0, x1, x2, x3, x4, x5, x6, (Below.refl _ _).drew⟩
                | (have hq := ‹_ ∧ _ ∧ _ ∧ _ ∧ _ ∧ _ ∧ _ ∧ Below w5.heap.size w5 _›; exact ⟨cell_upon hq.1, cell_upon hq.2.1, cell_upon hq.2.2.1, cell_upon hq.2.2.2.1, cell_upon hq.2.2.2.2.1, cell_upon hq.2.2.2.2.2.1, cell_upon hq.2.2.2.2.2.2.1, hq.2.2.2.2.2.2.2.alloc hq.2.2.2.2.2.2.2.size _⟩)
                | (have hq := ‹_ ∧ _ ∧ _ ∧ _ ∧ _ ∧ _ ∧ _ ∧ Below w5.heap.size w5 _›; have B := hq.2.2.2.2.2.2.2.trans hbA; exact ⟨cell_later B x0, cell_later B x1, cell_later B x2, cell_later B x3, cell_later B x4, cell_later B x5, cell_later B x6, B⟩)
                | assumption)
              (first
                | (rw [if_pos (by rfl)]; refine wp_append_own_src _ (.tmp 95) (.tmp 98) 45 rfl w5.heap.size 49 i0 (.agg #[.string ⟨#[]⟩, .string ⟨#[]⟩, .int .i64 0, .int .i64 0, .int .i64 0, .int .i64 0, .slice none 0 0]) 7 88 Tryz.underlying45 hi hi0 hi1 hi2 rfl (by decide) _ 0 [] rfl (by first | exact World.ownsRow_made _ #[] 0 (by first | exact Nat.le_refl _ | exact (‹_ ∧ _ ∧ _ ∧ _ ∧ _ ∧ _ ∧ _ ∧ Below w5.heap.size w5 _›).2.2.2.2.2.2.2.size | (simp; done) | (simp; omega)) (by decide) rfl | exact (World.ownsRow_made _ #[] 0 (by first | exact Nat.le_refl _ | exact (‹_ ∧ _ ∧ _ ∧ _ ∧ _ ∧ _ ∧ _ ∧ Below w5.heap.size w5 _›).2.2.2.2.2.2.2.size | (simp; done) | (simp; omega)) (by decide) rfl).alloc _ | exact owns_made1' _ _ #[] 0 (Nat.le_refl _) (by decide) rfl) i ((L.take i).flatMap encBr) (src_take' encBr_len (by decide) (R5.later (‹_ ∧ _ ∧ _ ∧ _ ∧ _ ∧ _ ∧ _ ∧ Below w5.heap.size w5 _›).2.2.2.2.2.2.2) hil _) LT (brs_one _) (by unfold maxLen; omega) (by omega) (by first | exact Nat.le_refl _ | exact (‹_ ∧ _ ∧ _ ∧ _ ∧ _ ∧ _ ∧ _ ∧ Below w5.heap.size w5 _›).2.2.2.2.2.2.2.size | (simp; done) | (simp; omega)) ?_; intro v1 w1' hown1 hgrow1 hbA)
                | (rw [if_pos (by rfl)]; refine wp_append_own_src _ (.tmp 99) (.tmp 101) 45 rfl w5.heap.size 49 i0 (.agg #[.string ⟨#[]⟩, .string ⟨#[]⟩, .int .i64 0, .int .i64 0, .int .i64 0, .int .i64 0, .slice none 0 0]) 7 88 Tryz.underlying45 hi hi0 hi1 hi2 rfl (by decide) _ (0 + i) ([] ++ (L.take i).flatMap encBr) rfl (by first | exact hown1 | exact hown1.alloc _) 1 (encBr ((k1, k2), ((o1.x, o1.y), (o2.x, o2.y)), none, 0, 0)) (by first | exact ⟨some _, _, rfl, Or.inr ⟨_, rfl, cells_new _ _ _⟩⟩ | exact ⟨some _, _, rfl, Or.inr ⟨_, rfl, fun j u hu => hgrow1.cell (cells_new1 _ _ _ _ j u hu) (by rw [Addr.add_lit]; show some (w5.heap.size + 1) ≠ some w5.heap.size; simp)⟩⟩ | exact ⟨some _, _, rfl, Or.inr ⟨_, rfl, fun j u hu => hgrow1.cell (cell_upon (cells_new0' _ _ _ j u hu)) (by rw [Addr.add_lit]; show some w5.heap.size ≠ some (w5.heap.size + 1); simp)⟩⟩) (encBr_len ((k1, k2), ((o1.x, o1.y), (o2.x, o2.y)), none, 0, 0)) (encBr_one ((k1, k2), ((o1.x, o1.y), (o2.x, o2.y)), none, 0, 0)) (by unfold maxLen; omega) (by omega) (by first | exact Nat.le_refl _ | exact (‹_ ∧ _ ∧ _ ∧ _ ∧ _ ∧ _ ∧ _ ∧ Below w5.heap.size w5 _›).2.2.2.2.2.2.2.size | (simp; done) | (simp; omega)) ?_; intro v2 w2' hown2 hgrow2 hbA)
                | (rw [if_pos (by rfl)]; refine wp_append_own_src _ (.tmp 102) (.tmp 105) 45 rfl w5.heap.size 49 i0 (.agg #[.string ⟨#[]⟩, .string ⟨#[]⟩, .int .i64 0, .int .i64 0, .int .i64 0, .int .i64 0, .slice none 0 0]) 7 88 Tryz.underlying45 hi hi0 hi1 hi2 rfl (by decide) _ (0 + i + 1) ([] ++ (L.take i).flatMap encBr ++ encBr ((k1, k2), ((o1.x, o1.y), (o2.x, o2.y)), none, 0, 0)) rfl hown2 (n - i) ((L.drop i).flatMap encBr) (src_drop' encBr_len (by decide) (R5.later (‹_ ∧ _ ∧ _ ∧ _ ∧ _ ∧ _ ∧ _ ∧ Below w5.heap.size w5 _›).2.2.2.2.2.2.2) hil hcap) LD (brs_one _) (by unfold maxLen; omega) (by omega) (by first | exact Nat.le_refl _ | exact (‹_ ∧ _ ∧ _ ∧ _ ∧ _ ∧ _ ∧ _ ∧ Below w5.heap.size w5 _›).2.2.2.2.2.2.2.size | (simp; done) | (simp; omega)) ?_; intro v3 w4' hown3 hgrow3 hbA))
            all_goals (
              have B9 := Lib.hid (‹_ ∧ _ ∧ _ ∧ _ ∧ _ ∧ _ ∧ _ ∧ Below w5.heap.size w5 _›).2.2.2.2.2.2.2
              have HO3 := Lib.hid hown3
              clear hown1 hown2 hown3 hgrow1 hgrow2 hgrow3 hbA
              have HMID := Lib.hid (show PutMid l acc (k1, k2) id base (.slice av n cv) w i w4' v3 from put_mid HL1.out HL2.out HL3.out HNA.out HN.out hil HSG.out HG.out hbase (B5.trans (B9.out.mono (by omega))) (HO3.out) (Nat.le_trans (by omega : w.heap.size ≤ w3.heap.size) hW1.size))
              clear HO3 B9
              go_wp2
              all_goals (
                go_meet
                case rel => exact HMID.out))
      case rest =>
        obtain ⟨w6, rfl⟩ : ∃ z : World, z = wc := ⟨_, rfl⟩
        obtain ⟨L1, acc1, ids, q1, q2, q3, q4, q5, q6, q7, q8, q9, q10⟩ := hcut
        have hml := br_len q2
        have hil1 : i < L1.length := by rw [hml]; exact (List.getElem?_eq_some_iff.1 q5).1
        obtain ⟨x1, hx1⟩ : ∃ x, L1[i]? = some x := ⟨L1[i]'hil1, List.getElem?_eq_getElem _⟩
        have hOR := q4 i x1 _ hx1 q5
        have hk1 : x1.1 = (k1, k2) := by
          have h := congrArg (fun M => M[i]?) q2
          simp only [List.getElem?_map, hx1, q5, Option.map_some] at h
          injection h
        obtain ⟨xk, sg, sa, sn, sc⟩ := x1
        simp only [] at hk1
        subst hk1
        obtain ⟨a1, c1, hv0⟩ := own_form q1
        subst hv0
        obtain ⟨m, hm⟩ : ∃ m, m = L1.length := ⟨_, rfl⟩
        rw [← hm] at q1 hil1 hml q4 hOR q8 ⊢
        obtain ⟨g1, hg1⟩ : ∃ g, a1 = some ⟨g, 0, none⟩ := by
          rcases q1.2 with ⟨h, h0⟩ | ⟨g, _, _, h, _⟩
          · omega
          · injection h with h; exact ⟨g, h⟩
        subst hg1
        have O6 := Lib.hid q1
        have Q2 := Lib.hid q2
        have Q3 := Lib.hid q3
        have Q4 := Lib.hid q4
        have Q5 := Lib.hid q5
        have Q6 := Lib.hid q6
        have Q7 := Lib.hid q7
        have Q8 := Lib.hid q8
        have HMm := Lib.hid hm
        have HX1 := Lib.hid hx1
        have HOR := Lib.hid hOR
        have hmb : m ≤ 100001 := by rw [hml]; have := HNA.out; omega
        have hgl := q1.lt g1 rfl
        have hsr := hOR.row
        obtain ⟨ax, cx, hvx, hcx⟩ := RowE.of_own encBr_len hm q1
        injection hvx with e1 e2 e3
        obtain ⟨b1, off1, hb1, hcell⟩ := hcx (by rw [← hm]; omega)
        rw [← e1] at hb1
        injection hb1 with hb1
        injection hb1 with e4 e5
        subst e4 e5
        have d6 : w6.cell? ⟨g1, i * 7 + 6, none⟩ = some (.slice sa sn sc) := by
          have := hcell i _ hx1 6 _ rfl
          rwa [Nat.zero_add] at this
        have dz := lt_of_cell d6
        have hstr := Lib.hid hsr
        obtain ⟨as', cs', hsl, hil2, hiz, hic⟩ := hsr
        injection hsl with f1 f2 f3
        subst f1 f2 f3
        have HIC := Lib.hid hic
        clear q2 q3 q4 q5 q6 q7 q8 hm hx1 hOR hcell hcx e1 e2 e3 hic
        have t1 : (0 : Int) ≤ (i : Int) := by omega
        have t2 : (i : Int) < (m : Int) := by omega
        have HML := Lib.hid hml
        obtain ⟨q, hq⟩ : ∃ q, q = ids.length := ⟨_, rfl⟩
        rw [← hq] at d6 hil2
        have HQ := Lib.hid hq
        have HQB := Lib.hid (show q ≤ 100000 by rw [hq]; exact q10)
        clear hml hq
        go_upto_region 8 with fail
        go_cut [127] from 113 to 128 (fun v127 wx => v127 = .bool (decide (ids.getLast? ≠ some id)) ∧ wx = w6)
        case first =>
          by_cases h0 : q = 0
          · have hnil : ids = [] := List.length_eq_zero_iff.1 (by rw [← HQ.out]; exact h0)
            have HD := Lib.hid (show decide (ids.getLast? ≠ some id) = true by rw [hnil]; simp)
            have e1 : ((q : Int) == 0) = true := by rw [h0]; rfl
            clear hnil h0
            go_wp2
            go_meet
            case rel => exact ⟨by rw [HD.out] <;> rfl, rfl⟩
          · obtain ⟨nn, hnn⟩ : ∃ z, q = z + 1 := ⟨q - 1, by omega⟩
            obtain ⟨ls, hls⟩ : ∃ s, ids[nn]? = some s := ⟨ids[nn]'(by rw [← HQ.out]; omega), List.getElem?_eq_getElem _⟩
            have hgl : ids.getLast? = some ls := by rw [List.getLast?_eq_getElem?, ← HQ.out, hnn, Nat.add_sub_cancel]; exact hls
            have HD := Lib.hid (show decide (ids.getLast? ≠ some id) = decide (ls ≠ id) by rw [hgl]; simp)
            obtain ⟨bs, os, hsb, hcs⟩ := HIC.out (by rw [← HQ.out]; omega)
            subst hsb
            have v0 := hcs nn ls hls
            have vz := lt_of_cell v0
            have hqb := HQB.out
            have wk : IntKind.i64.wrap ((q : Int) - 1) = (nn : Int) := (IntWalk.i64_in _ (by omega)).trans (by omega)
            have e1 : ((q : Int) == 0) = false := beq_false_of_ne (by omega)
            have e2 : ¬ (q : Int) = 0 := by omega
            have e4 : (0 : Int) ≤ (nn : Int) := by omega
            have e5 : (nn : Int) < (q : Int) := by omega
            clear hcs hls hgl h0 hnn
            by_cases e3 : ls = id
            · have HE := Lib.hid (show decide (ids.getLast? ≠ some id) = false by rw [HD.out]; simp [e3])
              subst e3
              go_wp2
              go_meet
              case rel => exact ⟨by rw [HE.out] <;> rfl, rfl⟩
            · have HE := Lib.hid (show decide (ids.getLast? ≠ some id) = true by rw [HD.out]; simp [e3])
              have n1 := toList_ne e3
              go_wp2
              go_meet
              case rel => exact ⟨by rw [HE.out] <;> rfl, rfl⟩
        case rest =>
          obtain ⟨rfl, hw⟩ := hcut
          rw [hw]
          clear hw
          cases hdd : decide (ids.getLast? ≠ some id) with
          | false =>
            have HPP := Lib.hid (show PutPost l acc (k1, k2) id base (.slice av n cv) w (.returned (.slice (some ⟨g1, 0, none⟩) m c1)) w6 from by
              have hl : ids.getLast? = some id := by
                have h := of_decide_eq_false hdd
                exact Classical.byContradiction h
              refine ⟨_, rfl, ?_, Q7.out, Q8.out⟩
              rw [Q6.out, show addLast ids id = ids from if_pos hl, set_same Q5.out]
              exact ⟨L1, by rw [← HMm.out]; exact O6.out, Q2.out, Q3.out, Q4.out⟩)
            clear hdd
            go_wp2
            go_ret
            exact HPP.out
          | true =>
            have HAD := Lib.hid (show addLast ids id = ids ++ [id] from if_neg (of_decide_eq_true hdd))
            clear hdd
            obtain ⟨i1, hj, hj0, hj1, hj2⟩ := info_parts infoStr
            have SRC := Lib.hid (fun (W : World) (hb : Below w6.heap.size w6 W) => (show SrcRow W (.slice sa q sc) q (ids.map Value.string) by have h := str_src (hstr.out.later hb) HQ.out; rwa [← HQ.out] at h))
            have HLQ := Lib.hid (show (ids.map Value.string).length = q * 1 by rw [List.length_map, HQ.out, Nat.mul_one])
            have hqb := HQB.out
            have B67 := (Below.refl w6.heap.size w6).alloc (Nat.le_refl _) (.cells #[] 9)
            go_wp2_with (first
              | (at_builtin; refine wpList_append_src rfl (.tmp 130) (.tmp 135) 41 rfl w6.heap.size 9 i1 (.string ⟨#[]⟩) 1 16 Tryz.underlying41 hj hj0 hj1 hj2 rfl (by decide) _ 0 [] rfl (World.ownsRow_made _ #[] 0 (Nat.le_refl _) (by decide) rfl) q (ids.map Value.string) (SRC.out _ B67) HLQ.out (strs_one ids) (by unfold maxLen; omega) (by omega) B67.size ?_; intro v7 w7 hown7 hgrow7 hbel7)
              | (at_builtin; refine wpList_append_src rfl (.tmp 136) (.tmp 138) 41 rfl w6.heap.size 9 i1 (.string ⟨#[]⟩) 1 16 Tryz.underlying41 hj hj0 hj1 hj2 rfl (by decide) _ (0 + q) ([] ++ ids.map Value.string) rfl (hown7.alloc _) 1 [.string id] ⟨some _, _, rfl, Or.inr ⟨_, rfl, cells_new _ _ _⟩⟩ rfl (by simp [Value.oneCell']) (by unfold maxLen; omega) (by omega) (by simp; have := B67.size; have := hbel7.size; omega) ?_; intro v8 w8 hown8 hgrow8 hbel8; have B68 := (B67.trans hbel7).trans (((Below.refl w6.heap.size w7).alloc (Nat.le_trans B67.size hbel7.size) _).trans hbel8); have O8 := own_later O6.out B68; have d68 := cell_later B68 d6; have d6z := lt_of_cell d68; obtain ⟨a8, c8, hv8⟩ := own_form hown8; subst hv8; have HOWN8 := Lib.hid hown8; have HB68 := Lib.hid B68; have HO8 := Lib.hid O8; obtain ⟨cu8, hh8⟩ := own_blk O8; have f68 := frozen_of_row w8 _ (i * 7 + 6) _ _ hh8; clear hown7 hgrow7 hbel7 hown8 hgrow8 hbel8 B68 O8 hh8 d6 dz))
            refine bodyPost_ret (v := .slice (some ⟨g1, 0, none⟩) m c1) ?_ rfl ?_
            · simp [results, Tryz.results53, go_sem]
            · have hd := put_done HO8.out HMm.out HX1.out Q2.out Q3.out Q4.out HB68.out hgl.2 (n8 := q + 1) (c8 := c8) (a8 := a8) (ids := ids) (id := id) (by have h := HOWN8.out; simpa using h) (by rw [List.length_append, HQ.out]; rfl) (fun s hs => by
                rcases List.mem_append.1 hs with hs | hs
                · exact hiz s hs
                · rw [List.mem_singleton.1 hs]; exact hid) (by omega)
              refine ⟨_, rfl, ?_, put_grown Q7.out hd.2 ?_, Q8.out⟩
              · rw [Q6.out, HAD.out]; exact hd.1
              · rcases Q8.out with h | h
                · exact Or.inl h
                · exact Or.inr (h g1 rfl)
end Go.Proofs.YtbkomdinchiffaaGreat
