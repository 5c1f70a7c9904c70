/- border: Free. -/
import Derived.Test.YtbkomdinchiffaaGreatBorMN
import Derived.Test.YtbkomdinchiffaaGreatBorF
namespace Go.Proofs.YtbkomdinchiffaaGreat
open Go.RowKit Go.Maps Go.ChangeMaps Go.Sort

/-- Does the way in which two segments meet shut a border out? -/
def badM (k : Int) : Bool := decide (k = 2 ∨ k = 3 ∨ k = 5)
set_option maxHeartbeats 1000000 in
theorem free1_any (t s : Sg) (Bs : Nat) (w : World) (hs : w.heap[Bs]? = some (.cells #[.int .i64 s.1.1, .int .i64 s.1.2, .int .i64 s.2.1, .int .i64 s.2.2] 39)) :
    Calls Tryz.prog 46 #[sgV t, .pointer (some ⟨Bs, 0, none⟩)] w fun e w' => e = .returned (.bool (badM (meetsQ t s))) ∧ Below w.heap.size w w' := by
  have GM := Lib.hid (fun W => gmeets_any t s W)
  have HS := Lib.hid hs
  generalize meetsQ t s = k at GM ⊢
  obtain ⟨r, hr⟩ : ∃ r, r = badM k := ⟨_, rfl⟩
  rw [← hr]
  unfold badM at hr
  have hr := Lib.hid hr
  obtain ⟨⟨ax, ay⟩, ⟨bx, by1⟩⟩ := t
  obtain ⟨⟨cx, cy⟩, ⟨dx, dy⟩⟩ := s
  simp only [] at HS GM ⊢
  clear hs
  have sz := lt_of_block HS.out
  have s0 := cell_of_row w _ 0 _ _ _ HS.out
  have s1 := cell_of_row w _ 1 _ _ _ HS.out
  have s2 := cell_of_row w _ 2 _ _ _ HS.out
  have s3 := cell_of_row w _ 3 _ _ _ HS.out
  simp only [List.getElem?_toArray, List.getElem?_cons_zero, List.getElem?_cons_succ] at s0 s1 s2 s3
  go_enter Tryz.func46, Tryz.ntmps46
  go_wp2_with fail
  have B1 : Below w.heap.size w (w.alloc (.cells #[.int .i64 ax, .int .i64 ay, .int .i64 bx, .int .i64 by1] 39)) := (by repeat' (first | exact Below.refl _ _ | refine Below.drew ?_ | refine Below.drewN' ?_ | refine Below.setCell ?_ (by first | omega | (simp; done) | exact Below.size (by assumption) | (simp; omega)) _ | refine Below.alloc ?_ (by first | omega | (simp; done) | exact Below.size (by assumption) | (simp; omega)) _ | refine Below.trans ?_ (Below.mono (by assumption) ?_) | (first | omega | (simp; done) | exact Below.size (by assumption) | (simp; omega))))
  refine (GM.out _).mono ?_
  rintro e w2 ⟨rfl, hb⟩
  have B2 := below_step B1 (by simp) hb
  clear hb B1
  by_cases h2 : k = 2
  · have e2 : (k == 2) = true := by rw [beq_iff_eq]; exact h2
    have HE := Lib.hid (show r = true by rw [hr.out]; exact decide_eq_true (Or.inl h2))
    clear h2 hr
    go_wp2
    go_ret
    exact ⟨by rw [HE.out] <;> rfl, B2⟩
  have e2 : (k == 2) = false := by rw [beq_eq_false_iff_ne]; exact h2
  by_cases h3 : k = 3
  · have e3 : (k == 3) = true := by rw [beq_iff_eq]; exact h3
    have HE := Lib.hid (show r = true by rw [hr.out]; exact decide_eq_true (Or.inr (Or.inl h3)))
    clear h2 h3 hr
    go_wp2
    go_ret
    exact ⟨by rw [HE.out] <;> rfl, B2⟩
  have e3 : (k == 3) = false := by rw [beq_eq_false_iff_ne]; exact h3
  by_cases h5 : k = 5
  · have e5 : (k == 5) = true := by rw [beq_iff_eq]; exact h5
    have HE := Lib.hid (show r = true by rw [hr.out]; exact decide_eq_true (Or.inr (Or.inr h5)))
    clear h2 h3 h5 hr
    go_wp2
    go_ret
    exact ⟨by rw [HE.out] <;> rfl, B2⟩
  have e5 : (k == 5) = false := by rw [beq_eq_false_iff_ne]; exact h5
  have HE := Lib.hid (show r = false by rw [hr.out]; exact decide_eq_false (by rintro (h | h | h); exact h2 h; exact h3 h; exact h5 h))
  clear h2 h3 h5 hr
  go_wp2
  go_ret
  exact ⟨by rw [HE.out] <;> rfl, B2⟩

def IdxF (r : Bool) (w : World) (e : Ending) (w' : World) : Prop := (∃ n : Int, e = .returned (.int .i64 n) ∧ (0 ≤ n ↔ r = true)) ∧ Below w.heap.size w w'
set_option maxHeartbeats 1000000 in
theorem idxF_any (v : Value) (S : List Sg) (s : Sg) (Bs : Nat) (w : World) (hv : RowE encSg 4 w v S) (hl : S.length ≤ 2000000000) (hs : w.heap[Bs]? = some (.cells #[.int .i64 s.1.1, .int .i64 s.1.2, .int .i64 s.2.1, .int .i64 s.2.2] 39)) :
    Calls Tryz.prog 74 #[v, .func (.func 46) #[] #[.pointer (some ⟨Bs, 0, none⟩)]] w (IdxF (S.any fun t => badM (meetsQ t s)) w) := by
  have FR := Lib.hid (fun t W (hb : Below w.heap.size w W) => free1_any t s Bs W (row_later hb hs))
  obtain ⟨a, cap, rfl, hc⟩ := hv
  obtain ⟨N, hN⟩ : ∃ N, S.length = N := ⟨_, rfl⟩
  rw [hN] at hc hl ⊢
  have HN := Lib.hid hN
  have HC := Lib.hid hc
  obtain ⟨res, hres⟩ : ∃ z, z = S.any fun t => badM (meetsQ t s) := ⟨_, rfl⟩
  rw [← hres]
  have HR := Lib.hid hres
  clear hN hc hres hs
  go_enter Tryz.func74, Tryz.ntmps74
  go_wp2
  go_loopw [8] (fun i wr => ∃ k : Nat, k ≤ N ∧ i = .int .i64 k ∧ (∀ t ∈ S.take k, badM (meetsQ t s) = false) ∧ Below w.heap.size w wr) (fun i _ => N - (intOf i).toNat)
  case atStart => exact ⟨0, by omega, rfl, by simp, Below.refl _ _⟩
  case round =>
    obtain ⟨k, hk, rfl, hT, hbr⟩ := hrel
    have HT := Lib.hid hT
    have hzr := hbr.size
    clear hT
    by_cases hlt : k < N
    · obtain ⟨x, hx⟩ : ∃ x, S[k]? = some x := ⟨S[k]'(by rw [HN.out]; exact hlt), List.getElem?_eq_getElem _⟩
      obtain ⟨b, off, ha, hcell⟩ := HC.out (by omega)
      subst ha
      have d0' := cell_later hbr (hcell k x hx 0 _ rfl)
      have d0 : wr.cell? ⟨b, off + k * 4, none⟩ = some (.int .i64 x.1.1) := d0'
      have d1 := cell_later hbr (hcell k x hx 1 _ rfl)
      have d2 := cell_later hbr (hcell k x hx 2 _ rfl)
      have d3 := cell_later hbr (hcell k x hx 3 _ rfl)
      have HX := Lib.hid hx
      have F1 := Lib.hid (FR.out x wr hbr)
      have bz := lt_of_cell d0
      clear hcell d0' hx
      obtain ⟨bd, hbd⟩ : ∃ z, z = badM (meetsQ x s) := ⟨_, rfl⟩
      rw [← hbd] at F1
      have HBD := Lib.hid hbd
      clear hbd
      obtain ⟨⟨ax, ay⟩, ⟨bx, by1⟩⟩ := x
      simp only [] at d0 d1 d2 d3 F1
      go_wp2_with fail
      refine F1.out.mono ?_
      rintro e w2 ⟨rfl, hb2⟩
      have B2 := below_step hbr (Nat.le_refl _) hb2
      clear d0 d1 d2 d3 hb2 F1
      cases bd with
      | true =>
        have HE := Lib.hid (show res = true by rw [HR.out, List.any_eq_true]; exact ⟨_, List.mem_of_getElem? HX.out, HBD.out.symm⟩)
        go_wp2
        go_ret
        exact ⟨⟨_, rfl, by rw [HE.out]; simp⟩, B2⟩
      | false =>
        have HG := Lib.hid (show ∀ t ∈ S.take (k + 1), badM (meetsQ t s) = false by
          obtain ⟨hk', e⟩ := List.getElem?_eq_some_iff.1 HX.out
          rw [List.take_succ_eq_append_getElem hk', e]
          intro t ht
          rcases List.mem_append.1 ht with h | h
          · exact HT.out t h
          · rw [List.mem_singleton.1 h]; exact HBD.out.symm)
        go_wp2
        go_roundw
        case rel => exact ⟨k + 1, by omega, by go_num, HG.out, B2⟩
        case measure => simp [intOf]; omega
    · obtain rfl : k = N := by omega
      have HE := Lib.hid (show res = false by
        rw [HR.out, List.any_eq_false]
        have := HT.out
        rw [List.take_of_length_le (by rw [HN.out]; exact Nat.le_refl _)] at this
        intro t ht; rw [this t ht]; simp)
      go_wp2
      go_ret
      exact ⟨⟨_, rfl, by rw [HE.out]; simp⟩, hbr⟩

theorem hasF_any (v : Value) (S : List Sg) (s : Sg) (Bs : Nat) (w : World) (hv : RowE encSg 4 w v S) (hl : S.length ≤ 2000000000) (hs : w.heap[Bs]? = some (.cells #[.int .i64 s.1.1, .int .i64 s.1.2, .int .i64 s.2.1, .int .i64 s.2.2] 39)) :
    Calls Tryz.prog 45 #[v, .func (.func 46) #[] #[.pointer (some ⟨Bs, 0, none⟩)]] w fun e w' => e = .returned (.bool (S.any fun t => badM (meetsQ t s))) ∧ Below w.heap.size w w' := by
  have HI := Lib.hid (idxF_any v S s Bs w hv hl hs)
  clear hv hs
  generalize (S.any fun t => badM (meetsQ t s)) = res at HI ⊢
  go_enter Tryz.func45, Tryz.ntmps45
  go_wp2_with fail
  refine HI.out.mono ?_
  rintro e w2 ⟨⟨n, rfl, hn⟩, hb2⟩
  by_cases h0 : 0 ≤ n
  · have HR := Lib.hid (hn.1 h0)
    clear hn
    go_wp2
    go_ret
    exact ⟨ret_bool (by rw [HR.out] <;> first | (simp; done) | (simp; omega)), hb2⟩
  · have HR := Lib.hid (show res = false by
      cases hr : res
      · rfl
      · exact absurd (hn.2 hr) h0)
    clear hn
    have h0' : n < 0 := by omega
    go_wp2
    go_ret
    exact ⟨ret_bool (by rw [HR.out] <;> first | (simp; done) | (simp; omega)), hb2⟩

def mn4 (a b c d : Int) : Int := min (min (min a b) c) d
def mx4 (a b c d : Int) : Int := max (max (max a b) c) d
theorem run_min4 (P : Program) (w : World) (ts : Array TypeId) (t : TypeId) (a b c d : Int) : (Builtin.min_ ts t #[.int .i64 a, .int .i64 b, .int .i64 c, .int .i64 d]).run P w = .ok (.int .i64 (mn4 a b c d)) w := by
  have e : ∀ x y : Int, (if y < x then y else x) = min x y := fun x y => by split <;> omega
  simp [Builtin.min_, Builtin.min2, mn4, e]
theorem run_max4 (P : Program) (w : World) (ts : Array TypeId) (t : TypeId) (a b c d : Int) : (Builtin.max_ ts t #[.int .i64 a, .int .i64 b, .int .i64 c, .int .i64 d]).run P w = .ok (.int .i64 (mx4 a b c d)) w := by
  have e : ∀ x y : Int, (if x < y then y else x) = max x y := fun x y => by split <;> omega
  simp [Builtin.max_, Builtin.max2, mx4, e]
theorem near_mn {s : Sg} : nearS s = (!decide (mn4 s.1.1 s.1.2 s.2.1 s.2.2 < -2097152) && !decide (2097152 < mx4 s.1.1 s.1.2 s.2.1 s.2.2)) := by
  unfold nearS nearQ mn4 mx4
  rw [Bool.eq_iff_iff]
  simp only [Bool.and_eq_true, decide_eq_true_eq, Bool.not_eq_true', decide_eq_false_iff_not]
  omega
theorem meets_range (s t : Sg) : 0 ≤ meetsQ s t ∧ meetsQ s t ≤ 5 := by
  unfold meetsQ lineQ
  simp only []
  repeat (first | omega | split)
theorem free_bad (l : List ObjD) (s : Sg) (hs : nearS s = true) : freeP l s = !((keysP l).map (segB l)).any fun t => badM (meetsQ t s) := by
  have key : ∀ k, decide (meetsR (segB l k) s = 0 ∨ meetsR (segB l k) s = 1 ∨ meetsR (segB l k) s = 4) = !badM (meetsQ (segB l k) s) := fun k => by
    have h := meets_range (segB l k) s
    unfold badM
    rw [← meetsQ_eq, Bool.eq_iff_iff]
    simp only [decide_eq_true_eq, Bool.not_eq_true', decide_eq_false_iff_not]
    omega
  unfold freeP bordersP
  rw [hs, Bool.true_and]
  induction keysP l with
  | nil => rfl
  | cons k ks ih => rw [List.map_cons, List.all_cons, ih, List.map_cons, List.any_cons, key]; simp

theorem free_inv (v : Value) (l : List ObjD) (s : Sg) (w : World) (hv : ObjsIs w v l) (hok : mapOK l = false) :
    Calls Tryz.prog 18 #[.agg #[v], sgV s] w fun e w' => e = .returned (.bool false) ∧ Below w.heap.size w w' := by
  have OF := Lib.hid (fun W hb => of_bad v l W (hv.later hb) hok)
  obtain ⟨a, cap, rfl, _⟩ := hv
  obtain ⟨⟨ax, ay⟩, ⟨bx, by1⟩⟩ := s
  clear hok
  go_enter Tryz.func18, Tryz.ntmps18
  go_wp2_with fail
  have B1 : Below w.heap.size w ((w.alloc (.cells #[.slice a l.length cap] 24)).alloc (.cells #[.int .i64 ax, .int .i64 ay, .int .i64 bx, .int .i64 by1] 39)) := (by repeat' (first | exact Below.refl _ _ | refine Below.drew ?_ | refine Below.drewN' ?_ | refine Below.setCell ?_ (by first | omega | (simp; done) | exact Below.size (by assumption) | (simp; omega)) _ | refine Below.alloc ?_ (by first | omega | (simp; done) | exact Below.size (by assumption) | (simp; omega)) _ | refine Below.trans ?_ (Below.mono (by assumption) ?_) | (first | omega | (simp; done) | exact Below.size (by assumption) | (simp; omega))))
  have HS1 := row_new1 w (.cells #[.slice a l.length cap] 24) (.cells #[.int .i64 ax, .int .i64 ay, .int .i64 bx, .int .i64 by1] 39)
  generalize hw1 : (w.alloc (.cells #[.slice a l.length cap] 24)).alloc (.cells #[.int .i64 ax, .int .i64 ay, .int .i64 bx, .int .i64 by1] 39) = w1
  rw [hw1] at B1 HS1
  have hz1 : w.heap.size + 2 ≤ w1.heap.size := by rw [← hw1]; simp
  have HS1 := Lib.hid HS1
  clear hw1
  refine (OF.out _ B1).mono ?_
  rintro e w2 ⟨rfl, hb⟩
  have B2 := Lib.hid (below_step B1 (Nat.le_refl _) hb)
  have hz := B2.out.size
  clear hb B1 HS1
  go_wp2
  go_ret
  exact ⟨rfl, B2.out.alloc hz _⟩

set_option maxRecDepth 100000 in
set_option maxHeartbeats 4000000 in
theorem free_any (v : Value) (l : List ObjD) (s : Sg) (w : World) (hv : ObjsIs w v l) (hok : mapOK l = true) :
    Calls Tryz.prog 18 #[.agg #[v], sgV s] w fun e w' => e = .returned (.bool (freeP l s)) ∧ Below w.heap.size w w' := by
  have mixed : Tryz.prog.follows .mixedOrders = true := by kernel_rfl
  have OF := Lib.hid (fun W hb => of_any v l W (hv.later hb) hok)
  have LN := Lib.hid (fun W Bm hb hat => lines_any v l Bm W (hv.later hb) hok hat)
  have SG := Lib.hid (fun W Bm vL hb hat hl => segs_any v vL Bm l W (hv.later hb) hok hat hl)
  have hkl := keys_len hok
  have hll := (mapOK_sorted hok).1
  have hlen : ((keysP l).map (segB l)).length ≤ 2000000000 := by rw [List.length_map]; omega
  have HF := Lib.hid (fun V Bs W hr hs => hasF_any V ((keysP l).map (segB l)) s Bs W hr hlen hs)
  have HFB := Lib.hid (free_bad l s)
  have hnm := @near_mn s
  have HFR := Lib.hid (show nearS s = false → freeP l s = false from fun h => by unfold freeP; rw [h]; rfl)
  have hmn := fun W ts t => run_min4 Tryz.prog W ts t s.1.1 s.1.2 s.2.1 s.2.2
  have hmx := fun W ts t => run_max4 Tryz.prog W ts t s.1.1 s.1.2 s.2.1 s.2.2
  obtain ⟨a, cap, rfl, _⟩ := hv
  generalize mn4 s.1.1 s.1.2 s.2.1 s.2.2 = m1 at hnm hmn
  generalize mx4 s.1.1 s.1.2 s.2.1 s.2.2 = m2 at hnm hmx
  have HNM := Lib.hid hnm
  clear hkl hll hlen hok hnm
  generalize freeP l s = res at HFB HFR ⊢
  generalize (keysP l).map (segB l) = SS at SG HF HFB
  generalize nearS s = nr at HFB HFR HNM
  obtain ⟨⟨ax, ay⟩, ⟨bx, by1⟩⟩ := s
  simp only [] at HF hmn hmx HFB
  by_cases q1 : m1 < -2097152
  · have e1 : decide (m1 < -2097152) = true := decide_eq_true q1
    have HE := Lib.hid (show res = false from HFR.out (by rw [HNM.out, e1]; rfl))
    clear q1
    go_enter Tryz.func18, Tryz.ntmps18
    go_wp2_with fail
    have B1 : Below w.heap.size w ((w.alloc (.cells #[.slice a l.length cap] 24)).alloc (.cells #[.int .i64 ax, .int .i64 ay, .int .i64 bx, .int .i64 by1] 39)) := (by repeat' (first | exact Below.refl _ _ | refine Below.drew ?_ | refine Below.drewN' ?_ | refine Below.setCell ?_ (by first | omega | (simp; done) | exact Below.size (by assumption) | (simp; omega)) _ | refine Below.alloc ?_ (by first | omega | (simp; done) | exact Below.size (by assumption) | (simp; omega)) _ | refine Below.trans ?_ (Below.mono (by assumption) ?_) | (first | omega | (simp; done) | exact Below.size (by assumption) | (simp; omega))))
    have HS1 := row_new1 w (.cells #[.slice a l.length cap] 24) (.cells #[.int .i64 ax, .int .i64 ay, .int .i64 bx, .int .i64 by1] 39)
    generalize hw1 : (w.alloc (.cells #[.slice a l.length cap] 24)).alloc (.cells #[.int .i64 ax, .int .i64 ay, .int .i64 bx, .int .i64 by1] 39) = w1
    rw [hw1] at B1 HS1
    have hz1 : w.heap.size + 2 ≤ w1.heap.size := by rw [← hw1]; simp
    have HS1 := Lib.hid HS1
    clear hw1
    refine (OF.out _ B1).mono ?_
    rintro e w2 ⟨Bm, rfl, hBm, hat, hb⟩
    have B2 := below_step B1 (by omega) hb
    have HAT := Lib.hid hat
    have HS2 := row_later hb HS1.out
    have B3 : Below w2.heap.size w2 (w2.alloc (.cells #[.slice a l.length cap, .map (some Bm)] 76)) := (by repeat' (first | exact Below.refl _ _ | refine Below.drew ?_ | refine Below.drewN' ?_ | refine Below.setCell ?_ (by first | omega | (simp; done) | exact Below.size (by assumption) | (simp; omega)) _ | refine Below.alloc ?_ (by first | omega | (simp; done) | exact Below.size (by assumption) | (simp; omega)) _ | refine Below.trans ?_ (Below.mono (by assumption) ?_) | (first | omega | (simp; done) | exact Below.size (by assumption) | (simp; omega))))
    have HP := row_new w2 (.cells #[.slice a l.length cap, .map (some Bm)] 76)
    have HS3 := Lib.hid (row_later B3 HS2)
    have HP3 := Lib.hid HP
    have HAT3 := Lib.hid (hat.on B3)
    have B13 := below_step B2 (Nat.le_refl _) (B3.mono (Nat.le_refl _))
    clear hb B1 OF hat HS2 HP HAT B2 hBm B3
    have HS4 := HS3.out
    go_upto_region 2 with fail
    generalize hw3 : w2.alloc (.cells #[.slice a l.length cap, .map (some Bm)] 76) = w3
    rw [hw3] at HS3 HP3 HAT3 B13
    clear hw3 HS4
    have sz := lt_of_block HS3.out
    have s0 := cell_of_row w3 _ 0 _ _ _ HS3.out
    have s1 := cell_of_row w3 _ 1 _ _ _ HS3.out
    have s2 := cell_of_row w3 _ 2 _ _ _ HS3.out
    have s3 := cell_of_row w3 _ 3 _ _ _ HS3.out
    simp only [List.getElem?_toArray, List.getElem?_cons_zero, List.getElem?_cons_succ] at s0 s1 s2 s3
    go_wp2
    go_ret
    exact ⟨by rw [HE.out] <;> rfl, B13⟩
  have e1 : decide (m1 < -2097152) = false := decide_eq_false q1
  by_cases q2 : 2097152 < m2
  · have e2 : decide (2097152 < m2) = true := decide_eq_true q2
    have HE := Lib.hid (show res = false from HFR.out (by rw [HNM.out, e1, e2]; rfl))
    clear q1 q2
    go_enter Tryz.func18, Tryz.ntmps18
    go_wp2_with fail
    have B1 : Below w.heap.size w ((w.alloc (.cells #[.slice a l.length cap] 24)).alloc (.cells #[.int .i64 ax, .int .i64 ay, .int .i64 bx, .int .i64 by1] 39)) := (by repeat' (first | exact Below.refl _ _ | refine Below.drew ?_ | refine Below.drewN' ?_ | refine Below.setCell ?_ (by first | omega | (simp; done) | exact Below.size (by assumption) | (simp; omega)) _ | refine Below.alloc ?_ (by first | omega | (simp; done) | exact Below.size (by assumption) | (simp; omega)) _ | refine Below.trans ?_ (Below.mono (by assumption) ?_) | (first | omega | (simp; done) | exact Below.size (by assumption) | (simp; omega))))
    have HS1 := row_new1 w (.cells #[.slice a l.length cap] 24) (.cells #[.int .i64 ax, .int .i64 ay, .int .i64 bx, .int .i64 by1] 39)
    generalize hw1 : (w.alloc (.cells #[.slice a l.length cap] 24)).alloc (.cells #[.int .i64 ax, .int .i64 ay, .int .i64 bx, .int .i64 by1] 39) = w1
    rw [hw1] at B1 HS1
    have hz1 : w.heap.size + 2 ≤ w1.heap.size := by rw [← hw1]; simp
    have HS1 := Lib.hid HS1
    clear hw1
    refine (OF.out _ B1).mono ?_
    rintro e w2 ⟨Bm, rfl, hBm, hat, hb⟩
    have B2 := below_step B1 (by omega) hb
    have HAT := Lib.hid hat
    have HS2 := row_later hb HS1.out
    have B3 : Below w2.heap.size w2 (w2.alloc (.cells #[.slice a l.length cap, .map (some Bm)] 76)) := (by repeat' (first | exact Below.refl _ _ | refine Below.drew ?_ | refine Below.drewN' ?_ | refine Below.setCell ?_ (by first | omega | (simp; done) | exact Below.size (by assumption) | (simp; omega)) _ | refine Below.alloc ?_ (by first | omega | (simp; done) | exact Below.size (by assumption) | (simp; omega)) _ | refine Below.trans ?_ (Below.mono (by assumption) ?_) | (first | omega | (simp; done) | exact Below.size (by assumption) | (simp; omega))))
    have HP := row_new w2 (.cells #[.slice a l.length cap, .map (some Bm)] 76)
    have HS3 := Lib.hid (row_later B3 HS2)
    have HP3 := Lib.hid HP
    have HAT3 := Lib.hid (hat.on B3)
    have B13 := below_step B2 (Nat.le_refl _) (B3.mono (Nat.le_refl _))
    clear hb B1 OF hat HS2 HP HAT B2 hBm B3
    have HS4 := HS3.out
    go_upto_region 2 with fail
    generalize hw3 : w2.alloc (.cells #[.slice a l.length cap, .map (some Bm)] 76) = w3
    rw [hw3] at HS3 HP3 HAT3 B13
    clear hw3 HS4
    have sz := lt_of_block HS3.out
    have s0 := cell_of_row w3 _ 0 _ _ _ HS3.out
    have s1 := cell_of_row w3 _ 1 _ _ _ HS3.out
    have s2 := cell_of_row w3 _ 2 _ _ _ HS3.out
    have s3 := cell_of_row w3 _ 3 _ _ _ HS3.out
    simp only [List.getElem?_toArray, List.getElem?_cons_zero, List.getElem?_cons_succ] at s0 s1 s2 s3
    go_wp2
    go_ret
    exact ⟨by rw [HE.out] <;> rfl, B13⟩
  have e2 : decide (2097152 < m2) = false := decide_eq_false q2
  have HE := Lib.hid (HFB.out (by rw [HNM.out, e1, e2]; rfl))
  clear q1 q2
  go_enter Tryz.func18, Tryz.ntmps18
  go_wp2_with fail
  have B1 : Below w.heap.size w ((w.alloc (.cells #[.slice a l.length cap] 24)).alloc (.cells #[.int .i64 ax, .int .i64 ay, .int .i64 bx, .int .i64 by1] 39)) := (by repeat' (first | exact Below.refl _ _ | refine Below.drew ?_ | refine Below.drewN' ?_ | refine Below.setCell ?_ (by first | omega | (simp; done) | exact Below.size (by assumption) | (simp; omega)) _ | refine Below.alloc ?_ (by first | omega | (simp; done) | exact Below.size (by assumption) | (simp; omega)) _ | refine Below.trans ?_ (Below.mono (by assumption) ?_) | (first | omega | (simp; done) | exact Below.size (by assumption) | (simp; omega))))
  have HS1 := row_new1 w (.cells #[.slice a l.length cap] 24) (.cells #[.int .i64 ax, .int .i64 ay, .int .i64 bx, .int .i64 by1] 39)
  generalize hw1 : (w.alloc (.cells #[.slice a l.length cap] 24)).alloc (.cells #[.int .i64 ax, .int .i64 ay, .int .i64 bx, .int .i64 by1] 39) = w1
  rw [hw1] at B1 HS1
  have hz1 : w.heap.size + 2 ≤ w1.heap.size := by rw [← hw1]; simp
  have HS1 := Lib.hid HS1
  clear hw1
  refine (OF.out _ B1).mono ?_
  rintro e w2 ⟨Bm, rfl, hBm, hat, hb⟩
  have B2 := below_step B1 (by omega) hb
  have HAT := Lib.hid hat
  have HS2 := row_later hb HS1.out
  have B3 : Below w2.heap.size w2 (w2.alloc (.cells #[.slice a l.length cap, .map (some Bm)] 76)) := (by repeat' (first | exact Below.refl _ _ | refine Below.drew ?_ | refine Below.drewN' ?_ | refine Below.setCell ?_ (by first | omega | (simp; done) | exact Below.size (by assumption) | (simp; omega)) _ | refine Below.alloc ?_ (by first | omega | (simp; done) | exact Below.size (by assumption) | (simp; omega)) _ | refine Below.trans ?_ (Below.mono (by assumption) ?_) | (first | omega | (simp; done) | exact Below.size (by assumption) | (simp; omega))))
  have HP := row_new w2 (.cells #[.slice a l.length cap, .map (some Bm)] 76)
  have HS3 := Lib.hid (row_later B3 HS2)
  have HP3 := Lib.hid HP
  have HAT3 := Lib.hid (hat.on B3)
  have B13 := below_step B2 (Nat.le_refl _) (B3.mono (Nat.le_refl _))
  clear hb B1 OF hat HS2 HP HAT B2 hBm B3
  have HS4 := HS3.out
  go_upto_region 2 with fail
  generalize hw3 : w2.alloc (.cells #[.slice a l.length cap, .map (some Bm)] 76) = w3
  rw [hw3] at HS3 HP3 HAT3 B13
  clear hw3 HS4
  have sz := lt_of_block HS3.out
  have s0 := cell_of_row w3 _ 0 _ _ _ HS3.out
  have s1 := cell_of_row w3 _ 1 _ _ _ HS3.out
  have s2 := cell_of_row w3 _ 2 _ _ _ HS3.out
  have s3 := cell_of_row w3 _ 3 _ _ _ HS3.out
  simp only [List.getElem?_toArray, List.getElem?_cons_zero, List.getElem?_cons_succ] at s0 s1 s2 s3
  go_wp2_with fail
  clear s0 s1 s2 s3 sz
  have pz := lt_of_block HP3.out
  have p0 := cell_of_row w3 _ 0 _ _ _ HP3.out
  have p1 := cell_of_row w3 _ 1 _ _ _ HP3.out
  simp only [List.getElem?_toArray, List.getElem?_cons_zero, List.getElem?_cons_succ] at p0 p1
  go_region_held3 (fun W => W.cell? ⟨w2.heap.size, 0, none⟩ = some (.slice a l.length cap) ∧ W.cell? ⟨w2.heap.size, 1, none⟩ = some (.map (some Bm)) ∧ Below w3.heap.size w3 W)
    (first
      | exact ⟨p0, p1, (Below.refl _ _).drew⟩
      | (have hq := (‹_ ∧ _ ∧ Below w3.heap.size w3 _›); exact ⟨cell_later hb hq.1, cell_later hb hq.2.1, below_step hq.2.2 (Nat.le_refl _) hb⟩)
      | assumption)
    (first
      | (go_at_call 31; have hq := (‹_ ∧ _ ∧ Below w3.heap.size w3 _›).2.2; refine (LN.out _ Bm (below_step B13 (by have := B13.size; omega) hq) (HAT3.out.on hq)).mono ?_; rintro e w4 ⟨vL, rfl, hln, hb⟩)
      | (go_at_call 32; have hq := (‹_ ∧ _ ∧ Below w3.heap.size w3 _›).2.2; refine (SG.out _ Bm _ (below_step B13 (by have := B13.size; omega) hq) (HAT3.out.on hq) hln).mono ?_; rintro e w5 ⟨vS, rfl, hsg, hb⟩)
      | (go_at_call 45; have hq := (‹_ ∧ _ ∧ Below w3.heap.size w3 _›).2.2; refine (HF.out _ _ _ hsg (row_later hq HS3.out)).mono ?_; rintro e w6 ⟨rfl, hb⟩))
  all_goals (
    have BF := Lib.hid (below_step (below_step B13 (by have := B13.size; omega) hq) (by have := B13.size; have := hq.size; omega) hb)
    clear hq hb hln hsg
    go_wp2
    go_ret
    exact ⟨by rw [HE.out] <;> rfl, BF.out⟩)
end Go.Proofs.YtbkomdinchiffaaGreat
