/- Layer 13's Find, kind and Sound in the reference. -/
import Derived.Test.YtbkomdinchiffaaGreatNod
import Derived.Test.YtbkomdinchiffaaGreatObjMN
import Derived.BigQuiet
namespace Go.Proofs.YtbkomdinchiffaaGreat
open Go.RowKit

set_option maxRecDepth 100000 in
set_option maxHeartbeats 2000000 in
theorem rfind13_any (v : Value) (l : List ObjD) (id : ByteArray) (w : World) (hv : ObjsIs w v l) (hok : mapOK l = true) :
    Calls Tryz.prog 87 #[.agg #[v], .string id] w fun e w' => e = .returned (.int .i64 (idxO id l)) ∧ Below w.heap.size w w' := by
  obtain ⟨a, cap, rfl, hn, hc⟩ := hv
  obtain ⟨N, hN⟩ : ∃ N, l.length = N := ⟨_, rfl⟩
  rw [hN] at hn hc ⊢
  have HN := Lib.hid hN
  have HC := Lib.hid hc
  obtain ⟨res, hres⟩ : ∃ r, r = idxO id l := ⟨_, rfl⟩
  rw [← hres]
  have HR := Lib.hid hres
  have HS := Lib.hid (by
    have h := hok
    simp only [mapOK, Bool.and_eq_true] at h
    exact (objs_sorted l _ h.2).2)
  clear hN hc hres hok
  go_enter Tryz.func87, Tryz.ntmps87
  go_wp2_with fail
  have B1 : Below w.heap.size w (w.alloc (.cells #[.slice a N cap] 24)) := (Below.refl _ w).alloc (Nat.le_refl _) _
  have HM := row_new w (.cells #[.slice a N cap] 24)
  generalize hw1 : w.alloc (.cells #[.slice a N cap] 24) = w1
  rw [hw1] at B1 HM
  clear hw1
  have HMh := Lib.hid HM
  clear HM
  go_loopw [5, 6] (fun v5 v6 wr => ∃ lo hi : Nat, lo ≤ hi ∧ hi ≤ N ∧ v5 = .int .i64 lo ∧ v6 = .int .i64 hi ∧ (∀ (t : Nat) (o : ObjD), t < lo → l[t]? = some o → ltB o.id id = true) ∧ (∀ (t : Nat) (o : ObjD), hi ≤ t → l[t]? = some o → ltB o.id id = false) ∧ Below w1.heap.size w1 wr) (fun v5 v6 _ => (intOf v6 - intOf v5).toNat)
  case atStart => exact ⟨0, N, by omega, Nat.le_refl _, rfl, rfl, (fun t o h _ => by omega), (fun t o h ho => by have := (List.getElem?_eq_some_iff.1 ho).1; rw [HN.out] at this; omega), Below.refl _ _⟩
  case round =>
    obtain ⟨lo, hi, hlh, hhN, rfl, rfl, hL, hH, hbr⟩ := hrel
    have HL := Lib.hid hL
    have HH := Lib.hid hH
    clear hL hH
    have HM2 := row_later hbr HMh.out
    have mz := lt_of_block HM2
    have m0 := cell_of_row wr _ 0 _ _ _ HM2
    simp only [List.getElem?_toArray, List.getElem?_cons_zero] at m0
    have HM2' := Lib.hid HM2
    clear HM2
    by_cases hlt : lo < hi
    · obtain ⟨c, hcdef⟩ : ∃ c, (lo + hi) / 2 = c := ⟨_, rfl⟩
      have hcl : lo ≤ c := by omega
      have hch : c < hi := by omega
      have q1 : IntKind.i64.wrap ((lo : Int) + hi) = (lo : Int) + hi := IntWalk.i64_in _ (by omega)
      have q2 : ((lo : Int) + hi).tdiv 2 = (c : Int) := by rw [Int.tdiv_eq_ediv_of_nonneg (by omega)]; omega
      have q2' : ((lo : Int) + hi) / 2 = (c : Int) := by omega
      have q3 : IntKind.i64.wrap (c : Int) = (c : Int) := IntWalk.i64_in _ (by omega)
      have q4 : IntKind.i64.wrap ((c : Int) + 1) = (c : Int) + 1 := IntWalk.i64_in _ (by omega)
      obtain ⟨o, ho⟩ : ∃ o, l[c]? = some o := ⟨l[c]'(by rw [HN.out]; omega), List.getElem?_eq_getElem _⟩
      obtain ⟨b, off, ha, hcell⟩ := HC.out (by omega)
      subst ha
      obtain ⟨vr, vt, c0, -, -, -, -, -, -, -, -⟩ := ((hcell c o ho).later B1).later hbr
      have HO := Lib.hid ho
      have hcN : c < N := by omega
      clear hcell ho hcdef
      cases hlo : ltB o.id id with
      | true =>
        have LQ : Op.bytesLess o.id.toList id.toList = true := hlo
        have HG : Hid (∀ (t : Nat) (y : ObjD), t < c + 1 → l[t]? = some y → ltB y.id id = true) := Lib.hid (fun t y ht hy => by
          by_cases htc : t = c
          · subst htc; rw [HO.out] at hy; cases hy; exact hlo
          · exact ltB_trans (HS.out t c y o (by omega) hy HO.out) hlo)
        clear hlo
        go_wp2
        go_roundw
        case rel => exact ⟨c + 1, hi, by omega, hhN, by go_num, rfl, HG.out, HH.out, hbr⟩
        case measure => simp [intOf]; omega
      | false =>
        have LQ : Op.bytesLess o.id.toList id.toList = false := hlo
        have HG : Hid (∀ (t : Nat) (y : ObjD), c ≤ t → l[t]? = some y → ltB y.id id = false) := Lib.hid (fun t y ht hy => by
          by_cases htc : t = c
          · subst htc; rw [HO.out] at hy; cases hy; exact hlo
          · cases h : ltB y.id id with
            | false => rfl
            | true => have := ltB_trans (HS.out c t o y (by omega) HO.out hy) h; rw [hlo] at this; cases this)
        clear hlo
        go_wp2
        go_roundw
        case rel => exact ⟨lo, c, by omega, by omega, rfl, rfl, HL.out, HG.out, hbr⟩
        case measure => simp [intOf]; omega
    · obtain rfl : lo = hi := by omega
      have HF := Lib.hid (bin_found HS.out HL.out HH.out)
      have BF := below_step B1 (Nat.le_refl _) hbr
      have hnl : ¬ (lo : Int) < lo := by omega
      by_cases hlN : lo < N
      · obtain ⟨o, ho⟩ : ∃ o, l[lo]? = some o := ⟨l[lo]'(by rw [HN.out]; omega), List.getElem?_eq_getElem _⟩
        obtain ⟨b, off, ha, hcell⟩ := HC.out (by omega)
        subst ha
        obtain ⟨vr, vt, c0, -, -, -, -, -, -, -, -⟩ := ((hcell lo o ho).later B1).later hbr
        by_cases hs : o.id = id
        · have e1 : (o.id.toList == id.toList) = true := str_eq_true hs
          have HE := Lib.hid (show res = lo by rw [HR.out]; unfold idxO; rw [HF.out.1 o ho hs])
          clear hcell ho hs
          go_wp2
          go_ret
          exact ⟨by rw [HE.out] <;> rfl, BF⟩
        · have e1 : (o.id.toList == id.toList) = false := str_eq_false hs
          have HE := Lib.hid (show res = -1 by
            rw [HR.out]; unfold idxO
            cases hp : posO id l with
            | none => rfl
            | some j =>
              obtain ⟨rfl, o', ho', he⟩ := HF.out.2 j hp
              rw [ho] at ho'; cases ho'; exact absurd he hs)
          clear hcell ho hs
          go_wp2
          go_ret
          exact ⟨by rw [HE.out] <;> rfl, BF⟩
      · have HE := Lib.hid (show res = -1 by
          rw [HR.out]; unfold idxO
          cases hp : posO id l with
          | none => rfl
          | some j =>
            obtain ⟨rfl, o', ho', he⟩ := HF.out.2 j hp
            have := (List.getElem?_eq_some_iff.1 ho').1
            rw [HN.out] at this
            omega)
        go_wp2
        go_ret
        exact ⟨by rw [HE.out] <;> rfl, BF⟩

theorem rkind_any (id : ByteArray) (kind x y i : Int) (vr vt : Value) (refs : List ByteArray) (tags : List TagD) (w : World) (hr : StrRow w vr refs) (ht : TagRow w vt tags) (h4 : kind ≠ 4) (h5 : kind ≠ 5) :
    Calls Tryz.prog 88 #[.agg #[.string id, .int .i64 kind, .int .i64 x, .int .i64 y, vr, vt], .int .i64 i] w fun e w' => e = .returned (.int .i64 1) ∧ Below w.heap.size w w' := by
  obtain ⟨ar, capr, rfl, _⟩ := hr
  obtain ⟨at1, capt, rfl, _⟩ := ht
  have g4 : (kind == 4) = false := by rw [beq_eq_false_iff_ne]; exact h4
  have g5 : (kind == 5) = false := by rw [beq_eq_false_iff_ne]; exact h5
  go_enter Tryz.func88, Tryz.ntmps88
  go_wp2
  go_ret
  exact ⟨rfl, (Below.refl _ _).alloc (Nat.le_refl _) _⟩

theorem rsound_node (v : Value) (l : List ObjD) (id : ByteArray) (kind x y : Int) (vr vt : Value) (tags : List TagD) (w : World) (hv : ObjsIs w v l) (hr : StrRow w vr []) (ht : TagRow w vt tags) :
    Calls Tryz.prog 52 #[.agg #[v], .agg #[.string id, .int .i64 kind, .int .i64 x, .int .i64 y, vr, vt]] w fun e w' => e = .returned (.bool true) ∧ Below w.heap.size w w' := by
  obtain ⟨a, cap, rfl, _⟩ := hv
  obtain ⟨ar, capr, rfl, _⟩ := hr
  obtain ⟨at1, capt, rfl, _⟩ := ht
  go_enter Tryz.func52, Tryz.ntmps52
  go_wp2_with fail
  have B1 : Below w.heap.size w ((w.alloc (.cells #[.slice a l.length cap] 24)).alloc (.cells #[.string id, .int .i64 kind, .int .i64 x, .int .i64 y, .slice ar 0 capr, .slice at1 tags.length capt] 59)) := ((Below.refl _ w).alloc (Nat.le_refl _) _).alloc (by simp) _
  have HO := row_new1 w (.cells #[.slice a l.length cap] 24) (.cells #[.string id, .int .i64 kind, .int .i64 x, .int .i64 y, .slice ar 0 capr, .slice at1 tags.length capt] 59)
  generalize hw1 : (w.alloc (.cells #[.slice a l.length cap] 24)).alloc (.cells #[.string id, .int .i64 kind, .int .i64 x, .int .i64 y, .slice ar 0 capr, .slice at1 tags.length capt] 59) = w1
  rw [hw1] at B1 HO
  clear hw1
  have HOh := Lib.hid HO
  clear HO
  go_loopw [5] (fun i wr => i = .int .i64 0 ∧ Below w1.heap.size w1 wr) (fun _ _ => 0)
  case atStart => exact ⟨rfl, Below.refl _ _⟩
  case round =>
    obtain ⟨rfl, hbr⟩ := hrel
    have HO2 := row_later hbr HOh.out
    have oz := lt_of_block HO2
    have o0 := cell_of_row wr _ 0 _ _ _ HO2
    have o1 := cell_of_row wr _ 1 _ _ _ HO2
    have o2 := cell_of_row wr _ 2 _ _ _ HO2
    have o3 := cell_of_row wr _ 3 _ _ _ HO2
    have o4 := cell_of_row wr _ 4 _ _ _ HO2
    have o5 := cell_of_row wr _ 5 _ _ _ HO2
    simp only [List.getElem?_toArray, List.getElem?_cons_zero, List.getElem?_cons_succ] at o0 o1 o2 o3 o4 o5
    have HO2' := Lib.hid HO2
    clear HO2
    go_wp2
    go_ret
    exact ⟨rfl, below_step B1 (Nat.le_refl _) hbr⟩
set_option maxRecDepth 100000 in
set_option maxHeartbeats 4000000 in
theorem rsound_any (v vr vt : Value) (l : List ObjD) (o : ObjD) (w : World) (hv : ObjsIs w v l) (hr : StrRow w vr o.refs) (ht : TagRow w vt o.tags) (hok : mapOK l = true) (h4 : o.kind ≠ 4) (h5 : o.kind ≠ 5) :
    Calls Tryz.prog 52 #[.agg #[v], .agg #[.string o.id, .int .i64 o.kind, .int .i64 o.x, .int .i64 o.y, vr, vt]] w fun e w' => e = .returned (.bool (soundB l o)) ∧ Below w.heap.size w w' := by
  have mixed : Tryz.prog.follows .mixedOrders = true := by kernel_rfl
  have HV := Lib.hid (fun w' hb => hv.later (w' := w') hb)
  have HRR := Lib.hid (fun w' hb => hr.later (w' := w') hb)
  have HTT := Lib.hid (fun w' hb => ht.later (w' := w') hb)
  have FD := Lib.hid (fun (v : Value) id w' (h : ObjsIs w' v l) => rfind13_any v l id w' h hok)
  have KD := Lib.hid (fun i vr vt refs tags w' hr' ht' => rkind_any o.id o.kind o.x o.y i vr vt refs tags w' hr' ht' h4 h5)
  have ND := Lib.hid (fun (v : Value) id kind x y vr vt tags w' h1 h2 h3 => rsound_node v l id kind x y vr vt tags w' h1 h2 h3)
  have MO := Lib.hid (fun (o' : ObjD) (h : o' ∈ l) => map_obj hok h)
  have HSB := Lib.hid (show soundB l o = o.refs.all fun r => (nodeAt l r).isSome from rfl)
  obtain ⟨res, hres⟩ : ∃ r, soundB l o = r := ⟨_, rfl⟩
  rw [hres] at HSB ⊢
  obtain ⟨a, cap, rfl, hln, hc⟩ := hv
  obtain ⟨ar, capr, rfl, hrl, hrz, hrc⟩ := hr
  obtain ⟨at1, capt, rfl, _⟩ := ht
  obtain ⟨N, hN⟩ : ∃ N, l.length = N := ⟨_, rfl⟩
  obtain ⟨M, hM⟩ : ∃ M, o.refs.length = M := ⟨_, rfl⟩
  rw [hN] at hln hc HV ⊢
  rw [hM] at hrl hrc HRR ⊢
  have HN := Lib.hid hN
  have HM := Lib.hid hM
  have HC := Lib.hid hc
  have HRC := Lib.hid hrc
  clear hN hM hc hrc hrz hres hok h4 h5
  obtain ⟨oid, ok, ox, oy, orefs, otags⟩ := o
  simp only [] at HRR HTT KD HM HRC HSB hrl ⊢
  go_enter Tryz.func52, Tryz.ntmps52
  go_wp2_with fail
  have B1 : Below w.heap.size w ((w.alloc (.cells #[.slice a N cap] 24)).alloc (.cells #[.string oid, .int .i64 ok, .int .i64 ox, .int .i64 oy, .slice ar M capr, .slice at1 otags.length capt] 59)) := ((Below.refl _ w).alloc (Nat.le_refl _) _).alloc (by simp) _
  have HO := row_new1 w (.cells #[.slice a N cap] 24) (.cells #[.string oid, .int .i64 ok, .int .i64 ox, .int .i64 oy, .slice ar M capr, .slice at1 otags.length capt] 59)
  have HA := row_past (o' := .cells #[.string oid, .int .i64 ok, .int .i64 ox, .int .i64 oy, .slice ar M capr, .slice at1 otags.length capt] 59) (row_new w (.cells #[.slice a N cap] 24))
  generalize hw1 : (w.alloc (.cells #[.slice a N cap] 24)).alloc (.cells #[.string oid, .int .i64 ok, .int .i64 ox, .int .i64 oy, .slice ar M capr, .slice at1 otags.length capt] 59) = w1
  rw [hw1] at B1 HO HA
  clear hw1
  have HOh := Lib.hid HO
  have HAh := Lib.hid HA
  clear HO HA
  go_loopw [5] (fun i wr => ∃ k : Nat, k ≤ M ∧ i = .int .i64 k ∧ (∀ s ∈ orefs.take k, (nodeAt l s).isSome = true) ∧ Below w1.heap.size w1 wr) (fun i _ => M - (intOf i).toNat)
  case atStart => exact ⟨0, by omega, rfl, by simp, Below.refl _ _⟩
  case round =>
    obtain ⟨k, hk, rfl, hT, hbr⟩ := hrel
    have HT := Lib.hid hT
    clear hT
    have BR := below_step B1 (Nat.le_refl _) hbr
    have HO2 := row_later hbr HOh.out
    have HA2 := row_later hbr HAh.out
    have oz := lt_of_block HO2
    have o0 := cell_of_row wr _ 0 _ _ _ HO2
    have o1 := cell_of_row wr _ 1 _ _ _ HO2
    have o2 := cell_of_row wr _ 2 _ _ _ HO2
    have o3 := cell_of_row wr _ 3 _ _ _ HO2
    have o4 := cell_of_row wr _ 4 _ _ _ HO2
    have o5 := cell_of_row wr _ 5 _ _ _ HO2
    simp only [List.getElem?_toArray, List.getElem?_cons_zero, List.getElem?_cons_succ] at o0 o1 o2 o3 o4 o5
    have HO2' := Lib.hid HO2
    clear HO2
    have mz := lt_of_block HA2
    have m0 := cell_of_row wr _ 0 _ _ _ HA2
    simp only [List.getElem?_toArray, List.getElem?_cons_zero] at m0
    have HA2' := Lib.hid HA2
    clear HA2
    by_cases hlt : k < M
    · obtain ⟨r, hr⟩ : ∃ r, orefs[k]? = some r := ⟨orefs[k]'(by rw [HM.out]; exact hlt), List.getElem?_eq_getElem _⟩
      obtain ⟨br, offr, har, hcell⟩ := HRC.out (by omega)
      subst har
      have d0 : wr.cell? ⟨br, offr + k, none⟩ = some (.string r) := cell_later BR (hcell k r hr)
      have HRK := Lib.hid hr
      clear hcell hr
      go_wp2_with fail
      have p3 := cell_belowBy o4
      have pm := cell_belowBy m0
      have pd := cell_belowBy d0
      clear o0 o1 o2 o3 o4 o5 m0 d0
      refine wp_region_quiet_below (by assumption) (by kernel_rfl) ?_
      repeat (go_big_quiet_step (first | (go_at_call 87; exact calls_belowBy (FD.out _ _ _ (HV.out _ (below_step BR (Nat.le_refl _) (BelowBy.below _)))))))
      refine wpQuiet_nil ?_
      intro w6 hw'
      obtain ⟨⟨w7, hb7⟩, hw''⟩ := hw'
      subst hw''
      have B7 := below_step hbr (Nat.le_refl _) hb7
      have BW := below_step B1 (Nat.le_refl _) B7
      obtain ⟨idx, hidx⟩ : ∃ i, i = idxO r l := ⟨_, rfl⟩
      rw [← hidx]
      have HO3 := row_later B7 HOh.out
      have HA3 := row_later B7 HAh.out
      clear p3 pm pd oz mz HO2' HA2' hb7 hbr BR
      obtain ⟨wo, rfl⟩ : ∃ wo : World, wo = wr := ⟨_, rfl⟩
      cases hp : posO r l with
      | none =>
        have hi : idx = -1 := by rw [hidx]; unfold idxO; rw [hp]
        subst hi
        have HE := Lib.hid (show res = false by rw [HSB.out]; exact refs_bad l orefs k r HRK.out (nodeAt_none l r hp))
        clear hidx hp HO3 HA3
        go_wp2_with fail
        go_quiet (fail)
        go_wp2
        go_ret
        exact ⟨by rw [HE.out] <;> rfl, BW.drewN'⟩
      | some j =>
        have hi : idx = (j : Nat) := by rw [hidx]; unfold idxO; rw [hp]
        subst hi
        obtain ⟨o', ho', hid'⟩ := posO_some r l j hp
        have hjN : j < N := by rw [← HN.out]; exact (List.getElem?_eq_some_iff.1 ho').1
        obtain ⟨b, off, ha, hcell⟩ := HC.out (by omega)
        subst ha
        obtain ⟨vr', vt', c0, c1, c2, c3, c4, c5, hr', ht', -⟩ := (hcell j o' ho').later BW
        have HR' := Lib.hid hr'
        have HT' := Lib.hid ht'
        obtain ⟨ar', capr', evr, _⟩ := hr'
        obtain ⟨at', capt', evt, _⟩ := ht'
        subst evr evt
        have HNA := Lib.hid (nodeAt_some l r j hp o' ho')
        have HMO := Lib.hid (MO.out o' (List.mem_of_getElem? ho'))
        have jz : ¬ (j : Int) < 0 := by omega
        have jzd : decide ((j : Int) < 0) = false := decide_eq_false jz
        have oz := lt_of_block HO3
        have o0 := cell_of_row w6 _ 0 _ _ _ HO3
        have o1 := cell_of_row w6 _ 1 _ _ _ HO3
        have o2 := cell_of_row w6 _ 2 _ _ _ HO3
        have o3 := cell_of_row w6 _ 3 _ _ _ HO3
        have o4 := cell_of_row w6 _ 4 _ _ _ HO3
        have o5 := cell_of_row w6 _ 5 _ _ _ HO3
        simp only [List.getElem?_toArray, List.getElem?_cons_zero, List.getElem?_cons_succ] at o0 o1 o2 o3 o4 o5
        have HO3' := Lib.hid HO3
        clear HO3
        have mz := lt_of_block HA3
        have m0 := cell_of_row w6 _ 0 _ _ _ HA3
        simp only [List.getElem?_toArray, List.getElem?_cons_zero] at m0
        have HA3' := Lib.hid HA3
        clear HA3
        have a0 := cell_belowBy o0
        have a1 := cell_belowBy o1
        have a2 := cell_belowBy o2
        have a3 := cell_belowBy o3
        have a4 := cell_belowBy o4
        have a5 := cell_belowBy o5
        have am := cell_belowBy m0
        obtain ⟨okk, hokk⟩ : ∃ z, z = o'.kind := ⟨_, rfl⟩
        rw [← hokk] at c1
        have b0 := cell_belowBy c0
        have b1 := cell_belowBy c1
        have b2 := cell_belowBy c2
        have b3 := cell_belowBy c3
        have b4 := cell_belowBy c4
        have b5 := cell_belowBy c5
        clear o0 o1 o2 o3 o4 o5 m0 c0 c1 c2 c3 c4 c5 hidx hp ho' hid' hcell
        by_cases hk1 : okk = 1
        · have hok1 : o'.kind = 1 := by rw [← hokk]; exact hk1
          have hrefs := node_refs HMO.out hok1
          subst hk1
          have hl0 : o'.refs.length = 0 := by rw [hrefs]; rfl
          have HRE := Lib.hid (show Hid (StrRow w6 (.slice ar' 0 capr') []) by
            have := HR'.out
            rw [hrefs] at this
            exact Lib.hid this)
          have HG := Lib.hid (refs_upto l orefs k r HRK.out HT.out (by rw [HNA.out, if_pos hok1]; rfl))
          rw [hl0] at b4
          clear hokk hok1 hrefs hl0 HR'
          go_wp2_with fail
          refine wp_region_quiet_below (by assumption) (by kernel_rfl) ?_
          repeat (go_big_quiet_step (first | (go_at_call 88; exact calls_belowBy (KD.out _ _ _ _ _ _ (HRR.out _ (below_step BW (Nat.le_refl _) (BelowBy.below _))) (HTT.out _ (below_step BW (Nat.le_refl _) (BelowBy.below _))))) | (go_at_call 52; exact calls_belowBy (ND.out _ _ _ _ _ _ _ _ _ (HV.out _ (below_step BW (Nat.le_refl _) (BelowBy.below _))) (HRE.out.out.later (BelowBy.below _)) (HT'.out.later (BelowBy.below _))))))
          refine wpQuiet_nil ?_
          intro w8 hw'
          obtain ⟨⟨w9, hb9⟩, hw''⟩ := hw'
          subst hw''
          have B9 := below_step B7 (Nat.le_refl _) hb9
          go_wp2
          go_roundw
          case rel => exact ⟨k + 1, by omega, by go_num, HG.out, B9⟩
          case measure => simp [intOf]; omega
        · have HE := Lib.hid (show res = false by rw [HSB.out]; exact refs_bad l orefs k r HRK.out (by rw [HNA.out, if_neg (by rw [← hokk]; exact hk1)]))
          have hkk : okk = 2 ∨ okk = 3 ∨ okk = 4 ∨ okk = 5 := by
            have h := HMO.out
            simp only [objOK, Bool.and_eq_true, decide_eq_true_eq] at h
            have := h.1.1.1.1.1.1
            omega
          clear hokk hk1
          rcases hkk with rfl | rfl | rfl | rfl
          all_goals (
            go_wp2_with fail
            refine wp_region_quiet_below (by assumption) (by kernel_rfl) ?_
            repeat (go_big_quiet_step (first | (go_at_call 88; exact calls_belowBy (KD.out _ _ _ _ _ _ (HRR.out _ (below_step BW (Nat.le_refl _) (BelowBy.below _))) (HTT.out _ (below_step BW (Nat.le_refl _) (BelowBy.below _)))))))
            refine wpQuiet_nil ?_
            intro w8 hw'
            obtain ⟨⟨w9, hb9⟩, hw''⟩ := hw'
            subst hw''
            have B9 := below_step BW (Nat.le_refl _) hb9
            go_wp2
            go_ret
            exact ⟨by rw [HE.out] <;> rfl, B9⟩)
    · obtain rfl : k = M := by omega
      have HE := Lib.hid (show res = true by
        rw [HSB.out, List.all_eq_true]
        have := HT.out
        rw [List.take_of_length_le (by rw [HM.out]; exact Nat.le_refl _)] at this
        exact this)
      go_wp2
      go_ret
      exact ⟨by rw [HE.out] <;> rfl, BR⟩
end Go.Proofs.YtbkomdinchiffaaGreat
