/-  -/
import Derived.Test.YtibpaaajghbkoaaGreatUAs
import Derived.Test.YtibpaaajghbkoaaGreatUBd
namespace Go.Proofs.YtibpaaajghbkoaaGreat
open Go.RowKit Go.Maps Go.Sort
set_option maxRecDepth 100000 in
theorem eqIn_key (a b : KeyD) (w : World) (a1 : a.1.size ≤ 140737488355328) (a2 : a.2.size ≤ 140737488355328) (b1 : b.1.size ≤ 140737488355328) (b2 : b.2.size ≤ 140737488355328) :
  (Op.equalIn 10000 83 (.agg #[.string a.1, .string a.2]) (.agg #[.string b.1, .string b.2])).run Tryz.prog w = .ok (decide (a = b)) w := by
 obtain ⟨D, hD, fD⟩ := pair_lits a a1 a2
 obtain ⟨D', hD', fD'⟩ := pair_lits b b1 b2
 obtain ⟨r, hr, hiff⟩ := run_equalIn_deep 9997 3 83 keyT50 w D D' (keyV a) (keyV b) _ _ fD fD' hD hD'
 simp only [Nat.reduceAdd] at hr
 rw [hr]
 congr 1
 rw [Bool.eq_iff_iff, hiff, decide_eq_true_eq]
 simp only [List.cons.injEq, Lit.string.injEq, and_true]
 have hb : ∀ x y : ByteArray, x.data.toList = y.data.toList ↔ x = y := fun x y => ⟨fun e => by cases x; cases y; simp at e; rw [e], fun e => by rw [e]⟩
 rw [hb, hb, Prod.ext_iff]
def NbPost (l : List ObjD) (id : ByteArray) (w : World) (e : Ending) (w' : World) : Prop :=
 ∃ a b, e = .returned (.tuple #[.agg #[.string a, .string b], .bool (neighP l id).isSome]) ∧ (∀ p, neighP l id = some p → p = (a, b)) ∧ Below w.heap.size w w'
def NbSt (l : List ObjD) (id : ByteArray) (k : Nat) (a b : ByteArray) : Prop := a.size ≤ 140737488355328 ∧ b.size ≤ 140737488355328 ∧ ∀ j x, j < k → (refersP l id)[j]? = some x → nbrO x id = some (a, b)
theorem nbr_other {o : ObjD} {id : ByteArray} (h2 : o.kind ≠ 2) (h3 : o.kind ≠ 3) : nbrO o id = none := by
 unfold nbrO
 rw [if_neg]
 rintro (⟨h, _⟩ | ⟨h, _⟩)
 ·exact h2 h
 ·exact h3 h
theorem nbr_way {o : ObjD} {id : ByteArray} (h2 : o.kind = 2) (h : idxR id o.refs = 0 ∨ idxR id o.refs = o.refs.length - 1 ∨ id ∈ o.refs.drop (idxR id o.refs + 1)) : nbrO o id = none := by
 unfold nbrO
 rw [if_neg]
 rintro (⟨_, c⟩ | ⟨c, _⟩)
 ·exact c h
 ·omega
theorem nbr_area {o : ObjD} {id : ByteArray} (h3 : o.kind = 3) (h : o.refs.length < 4) : nbrO o id = none := by
 unfold nbrO
 rw [if_neg]
 rintro (⟨c, _⟩ | ⟨_, c⟩)
 ·omega
 ·exact c h
theorem nbr_good {o : ObjD} {id : ByteArray} (h : (o.kind = 2 ∧ ¬ (idxR id o.refs = 0 ∨ idxR id o.refs = o.refs.length - 1 ∨ id ∈ o.refs.drop (idxR id o.refs + 1))) ∨ (o.kind = 3 ∧ ¬ o.refs.length < 4)) {pv nx : Nat} (hp : pv = (idxR id o.refs + o.refs.length - 1) % o.refs.length) (hn : nx = (idxR id o.refs + 1) % o.refs.length) :
  nbrO o id = if refAt o pv = refAt o nx then none else some (key2 (refAt o pv) (refAt o nx)) := by
 unfold nbrO
 rw [if_pos h, hp, hn]
set_option maxRecDepth 100000 in
set_option maxHeartbeats 4000000 in
theorem neigh_any (bp : Nat) (ord : List ByteArray) (l : List ObjD) (bo bn br : Nat) (vo : Value) (id : ByteArray) (w : World) (hp : PlanAt w bp ord l bo bn br vo) (hok : mapOK l = true) (hz : id.size ≤ 140737488355328) :
  Calls Tryz.prog 109 #[.pointer (some ⟨bp, 0, none⟩), .string id] w (NbPost l id w) := by
 have hmin := run_minB Tryz.prog
 have hmax := run_maxB Tryz.prog
 obtain ⟨v, hlk, hrow⟩ := hp.refs.look id hz
 have hsz := hp.row
 have HPL := Lib.hid hp
 have HOK := Lib.hid hok
 have HPR := Lib.hid hp.row
 obtain ⟨N, hN⟩ : ∃ N, (refersP l id).length = N := ⟨_, rfl⟩
 have hNl : (refF l id).length = N := by unfold refF; rw [List.length_map, hN]
 obtain ⟨ar, capr, rfl, hN0, _, hcell⟩ := hrow
 rw [hNl] at hlk hcell hN0
 have hNb : N ≤ 1000000 := by
  rw [← hN]
  exact Nat.le_trans (List.length_filter_le _ _) (mapOK_sorted hok).1
 have HN := Lib.hid hN
 have HC := Lib.hid hcell
 have HLK := Lib.hid hlk
 have hlk1 := hlk ((w.alloc (.cells #[.string ⟨#[]⟩, .string ⟨#[]⟩] 83)).alloc (.cells #[.string ⟨#[]⟩, .string ⟨#[]⟩] 83)) (by repeat' (first | exact Below.refl _ _ | refine Below.drew ?_ | refine Below.drewN' ?_ | refine Below.setCell ?_ (by first | omega | (simp; done) | exact Below.size (by assumption) | (simp; omega)) _ | refine Below.alloc ?_ (by first | omega | (simp; done) | exact Below.size (by assumption) | (simp; omega)) _ | refine Below.trans ?_ (Below.mono (by assumption) ?_) | (first | omega | (simp; done) | exact Below.size (by assumption) | (simp; omega))))
 clear hp hok hN hNl hcell hlk hsz
 go_enter Tryz.func109, Tryz.ntmps109
 obtain ⟨pz, p0, p1, p2, p3⟩ := rk4 HPR.out
 go_wp2_with fail
 have B1 : Below w.heap.size w ((w.alloc (.cells #[.string ⟨#[]⟩, .string ⟨#[]⟩] 83)).alloc (.cells #[.string ⟨#[]⟩, .string ⟨#[]⟩] 83)) := (by repeat' (first | exact Below.refl _ _ | refine Below.drew ?_ | refine Below.drewN' ?_ | refine Below.setCell ?_ (by first | omega | (simp; done) | exact Below.size (by assumption) | (simp; omega)) _ | refine Below.alloc ?_ (by first | omega | (simp; done) | exact Below.size (by assumption) | (simp; omega)) _ | refine Below.trans ?_ (Below.mono (by assumption) ?_) | (first | omega | (simp; done) | exact Below.size (by assumption) | (simp; omega))))
 have H4 := row_past (o' := .cells #[.string ⟨#[]⟩, .string ⟨#[]⟩] 83) (row_new w (.cells #[.string ⟨#[]⟩, .string ⟨#[]⟩] 83))
 have H6 := row_new1 w (.cells #[.string ⟨#[]⟩, .string ⟨#[]⟩] 83) (.cells #[.string ⟨#[]⟩, .string ⟨#[]⟩] 83)
 generalize hw1 : (w.alloc (.cells #[.string ⟨#[]⟩, .string ⟨#[]⟩] 83)).alloc (.cells #[.string ⟨#[]⟩, .string ⟨#[]⟩] 83) = w1
 rw [hw1] at B1 H4 H6
 have hz1 : w1.heap.size = w.heap.size + 2 := by rw [← hw1]; simp
 clear hw1 hlk1
 clear p0 p1 p2 p3 pz
 go_loopw [22] (fun i wr => ∃ (k : Nat) (ca cb : ByteArray), i = .int .i64 k ∧ k ≤ N ∧ Hid (NbSt l id k ca cb) ∧ Below w.heap.size w wr ∧ w.heap.size + 2 ≤ wr.heap.size ∧ wr.heap[w.heap.size]? = some (.cells #[.string ⟨#[]⟩, .string ⟨#[]⟩] 83) ∧ wr.heap[w.heap.size + 1]? = some (.cells #[.string ca, .string cb] 83)) (fun i _ => N - (intOf i).toNat)
 case atStart => exact ⟨0, ⟨#[]⟩, ⟨#[]⟩, rfl, Nat.zero_le _, Lib.hid ⟨by decide, by decide, fun j x h => absurd h (Nat.not_lt_zero j)⟩, B1, by omega, H4, H6⟩
 case round =>
  obtain ⟨k, ca, cb, rfl, hk, HST, hbr, hszr, h4, h6⟩ := hrel
  have BW := Lib.hid hbr
  have H4 := Lib.hid h4
  have H6 := Lib.hid h6
  clear h4 h6
  by_cases hlt : k < N
  ·obtain ⟨o, ho⟩ : ∃ o, (refersP l id)[k]? = some o := ⟨(refersP l id)[k]'(by rw [HN.out]; exact hlt), List.getElem?_eq_getElem _⟩
   obtain ⟨b, off, ha, hcell⟩ := HC.out (by omega)
   subst ha
   have c0 := cell_later hbr (hcell k o.id (by unfold refF; rw [List.getElem?_map, ho]; rfl))
   have hom : o ∈ refersP l id := List.mem_of_getElem? ho
   have hol : o ∈ l := (List.mem_filter.1 hom).1
   have hid : id ∈ o.refs := of_decide_eq_true (List.mem_filter.1 hom).2
   have HOM := Lib.hid hom
   have HOI := Lib.hid ho
   have hsz := HPL.out.size HOK.out hol
   have HSZ := Lib.hid hsz.2
   obtain ⟨vr, vt, hcap, hlo, _⟩ := (HPL.out.objs.on hbr).look (at_some HOK.out hol) hsz.1
   have hlo1 := hlo wr (Below.refl _ _)
   obtain ⟨⟨hr, ht, _⟩, hcv⟩ := hcap
   have hr : StrRow wr vr o.refs := hr
   have ht : TagRow wr vt o.tags := ht
   have hcv : CapV vr := hcv
   have HR := Lib.hid hr
   obtain ⟨aq, capq, evq, hnq, _, hcq⟩ := hr
   obtain ⟨at1, capt, evt, _⟩ := ht
   subst evq evt
   have hcapq : o.refs.length ≤ capq := hcv _ _ _ rfl
   have HPR2 := Lib.hid (row_later hbr HPR.out)
   obtain ⟨hil, -, -⟩ := refs_split hid
   have hMb : o.refs.length ≤ 2000 := by
    have := map_obj HOK.out hol
    simp only [objOK, Bool.and_eq_true, decide_eq_true_eq] at this
    have := this.1.1.2
    omega
   obtain ⟨M, hM⟩ : ∃ M, o.refs.length = M := ⟨_, rfl⟩
   obtain ⟨i, hi⟩ : ∃ i, idxR id o.refs = i := ⟨_, rfl⟩
   have IX := Lib.hid (fun W (hb : Below wr.heap.size wr W) => (show Calls Tryz.prog 83 #[.slice aq M capq, .string id] W fun e w' => e = .returned (.int .i64 i) ∧ w' = W from by
    have := index_any (.slice aq o.refs.length capq) o.refs id W (HR.out.later hb) (by omega)
    rw [if_pos hid, hi, hM] at this
    exact this))
   rw [hM] at hlo1 hcq hcapq hil hMb
   rw [hi] at hil
   have HM := Lib.hid hM
   have HI := Lib.hid hi
   have HCQ := Lib.hid hcq
   have HRM := Lib.hid (show StrRow wr (.slice aq M capq) o.refs from hM ▸ HR.out)
   clear hcell ho hom hol hid hsz hlo hcv hnq hcq hM hi
   obtain ⟨pz, p0, p1, p2, p3⟩ := rk4 HPR2.out
   go_wp2_with fail
   have BX : Below wr.heap.size wr (wr.alloc (.cells #[.string o.id, .int .i64 o.kind, .int .i64 o.x, .int .i64 o.y, .slice aq M capq, .slice at1 o.tags.length capt] 36)) := (Below.refl _ _).alloc (Nat.le_refl _) _
   have HX := row_new wr (.cells #[.string o.id, .int .i64 o.kind, .int .i64 o.x, .int .i64 o.y, .slice aq M capq, .slice at1 o.tags.length capt] 36)
   generalize hwa : wr.alloc (.cells #[.string o.id, .int .i64 o.kind, .int .i64 o.x, .int .i64 o.y, .slice aq M capq, .slice at1 o.tags.length capt] 36) = wa
   rw [hwa] at BX HX
   have hza : wa.heap.size = wr.heap.size + 1 := by rw [← hwa]; simp
   have HX := Lib.hid HX
   clear hwa hlo1
   clear p0 p1 p2 p3 pz
   obtain ⟨xz, x0, x1, x2, x3, x4, x5⟩ := rk6 HX.out
   go_quiet ((go_at_call 83; exact Calls.quiet_of_same (IX.out _ (BX.drewN'))))
   clear x0 x1 x2 x3 x4 x5 xz
   have BB : Below wr.heap.size wr (wa.drewN nq) := BX.drewN'
   have BQ : Below wa.heap.size wa (wa.drewN nq) := (Below.refl _ _).drewN'
   have HX := Lib.hid (row_later BQ HX.out)
   clear BQ
   generalize hwb : wa.drewN nq = wb
   rw [hwb] at BB HX
   have hzb : wb.heap.size = wr.heap.size + 1 := by rw [← hwb]; exact hza
   have H4 := Lib.hid (row_later BB H4.out)
   have H6 := Lib.hid (row_later BB H6.out)
   have BW := Lib.hid (below_step BW.out (by omega) BB)
   have HRB := Lib.hid (HRM.out.later BB)
   clear hwb hza IX BX HR HRM
   obtain ⟨kd, hkd⟩ : ∃ z, o.kind = z := ⟨_, rfl⟩
   rw [hkd] at HX
   have HKD := Lib.hid hkd
   clear hkd
   by_cases h2 : kd = 2
   ·subst h2
    obtain ⟨xz, x0, x1, x2, x3, x4, x5⟩ := rk6 HX.out
    by_cases hi0 : i = 0
    ·have HNONE := Lib.hid (neigh_none HOM.out (nbr_way HKD.out (Or.inl (HI.out.trans hi0))))
     subst hi0
     obtain ⟨rz, r0, r1⟩ := rk2 H4.out
     have rf0 := frozen_of_row wb _ 0 _ _ H4.out
     have rf1 := frozen_of_row wb _ 1 _ _ H4.out
     obtain ⟨qz, q0, q1⟩ := rk2 H6.out
     go_wp2
     refine bodyPost_ret (v := .tuple #[.agg #[.string ca, .string cb], .bool false]) ?_ rfl ⟨ca, cb, ?_, ?_, ?_⟩
     ·simp [results, Tryz.results109, go_sem, r0, r1]
     ·rw [HNONE.out]; rfl
     ·intro p h
      rw [HNONE.out] at h; cases h
     ·exact ((BW.out.setCell (p := ⟨w.heap.size, 0, none⟩) (Nat.le_refl _) _).setCell (p := ⟨w.heap.size, 1, none⟩) (Nat.le_refl _) _)
    ·have hi0b : ((i : Int) == 0) = false := by rw [beq_eq_false_iff_ne]; omega
     by_cases hi1 : i = M - 1
     ·have HNONE := Lib.hid (neigh_none HOM.out (nbr_way HKD.out (Or.inr (Or.inl (by rw [HI.out, HM.out]; exact hi1)))))
      have hi1b : ((i : Int) == (M : Int) - 1) = true := by rw [beq_iff_eq]; omega
      clear hi1
      obtain ⟨rz, r0, r1⟩ := rk2 H4.out
      have rf0 := frozen_of_row wb _ 0 _ _ H4.out
      have rf1 := frozen_of_row wb _ 1 _ _ H4.out
      obtain ⟨qz, q0, q1⟩ := rk2 H6.out
      go_wp2
      refine bodyPost_ret (v := .tuple #[.agg #[.string ca, .string cb], .bool false]) ?_ rfl ⟨ca, cb, ?_, ?_, ?_⟩
      ·simp [results, Tryz.results109, go_sem, r0, r1]
      ·rw [HNONE.out]; rfl
      ·intro p h
       rw [HNONE.out] at h; cases h
      ·exact ((BW.out.setCell (p := ⟨w.heap.size, 0, none⟩) (Nat.le_refl _) _).setCell (p := ⟨w.heap.size, 1, none⟩) (Nat.le_refl _) _)
     ·have hi1b : ((i : Int) == (M : Int) - 1) = false := by rw [beq_eq_false_iff_ne]; omega
      have wi : IntKind.i64.wrap ((i : Int) + 1) = (i : Int) + 1 := IntWalk.i64_in _ (by omega)
      have hti : ((i : Int) + 1).toNat = i + 1 := by omega
      have hne : ¬ capq = i + 1 := by omega
      have CT := Lib.hid (show Calls Tryz.prog 44 #[.slice (aq.map fun x => x.add (i + 1)) (M - (i + 1)) (capq - (i + 1)), .string id] wb fun e w' => e = .returned (.bool (decide (id ∈ o.refs.drop (i + 1)))) ∧ w' = wb from by
       have := contains_any _ _ id wb (HRB.out.drop hcapq (q := i + 1) (by omega))
       rw [if_neg hne] at this
       exact this)
      obtain ⟨ct, hct⟩ : ∃ z, decide (id ∈ o.refs.drop (i + 1)) = z := ⟨_, rfl⟩
      rw [hct] at CT
      have HCT := Lib.hid hct
      clear hct
      cases ct with
      |true =>
       have HNONE := Lib.hid (neigh_none HOM.out (nbr_way HKD.out (Or.inr (Or.inr (by rw [HI.out]; exact of_decide_eq_true HCT.out)))))
       clear hi0 hi1
       obtain ⟨rz, r0, r1⟩ := rk2 H4.out
       have rf0 := frozen_of_row wb _ 0 _ _ H4.out
       have rf1 := frozen_of_row wb _ 1 _ _ H4.out
       obtain ⟨qz, q0, q1⟩ := rk2 H6.out
       go_wp2_with (go_at_call 44; refine CT.out.mono ?_; rintro e' w' ⟨rfl, hw'⟩; rw [hw']; clear hw' w')
       refine bodyPost_ret (v := .tuple #[.agg #[.string ca, .string cb], .bool false]) ?_ rfl ⟨ca, cb, ?_, ?_, ?_⟩
       ·simp [results, Tryz.results109, go_sem, r0, r1]
       ·rw [HNONE.out]; rfl
       ·intro p h
        rw [HNONE.out] at h; cases h
       ·exact ((BW.out.setCell (p := ⟨w.heap.size, 0, none⟩) (Nat.le_refl _) _).setCell (p := ⟨w.heap.size, 1, none⟩) (Nat.le_refl _) _)
      |false =>
       have HGO := Lib.hid (fun (pv nx : Nat) (e1 : pv = (i + M - 1) % M) (e2 : nx = (i + 1) % M) => nbr_good (o := o) (id := id) (Or.inl ⟨HKD.out, by
        rw [HI.out, HM.out]
        rintro (c | c | c)
        ·exact hi0 c
        ·exact hi1 c
        ·exact of_decide_eq_false HCT.out c⟩) (pv := pv) (nx := nx) (by rw [HI.out, HM.out]; exact e1) (by rw [HI.out, HM.out]; exact e2))
       clear hi0 hi1
       obtain ⟨nx, hnx⟩ : ∃ z, z = (i + 1) % M := ⟨_, rfl⟩
       obtain ⟨pv, hpv⟩ : ∃ z, z = (i + M - 1) % M := ⟨_, rfl⟩
       have hnM : nx < M := by rw [hnx]; exact Nat.mod_lt _ (by omega)
       have hpM : pv < M := by rw [hpv]; exact Nat.mod_lt _ (by omega)
       have HNB := Lib.hid (HGO.out pv nx hpv hnx)
       obtain ⟨ra, hra⟩ : ∃ ra, ra = refAt o pv := ⟨_, rfl⟩
       obtain ⟨rb, hrb⟩ : ∃ rb, rb = refAt o nx := ⟨_, rfl⟩
       rw [← hra, ← hrb] at HNB
       have g0 : o.refs[pv]? = some ra := by rw [hra]; exact ref_get o pv (by rw [HM.out]; exact hpM)
       have g1 : o.refs[nx]? = some rb := by rw [hrb]; exact ref_get o nx (by rw [HM.out]; exact hnM)
       obtain ⟨br2, offr, har, hcr⟩ := HCQ.out (by omega)
       subst har
       have d0 := cell_later BB (hcr pv ra g0)
       have d1 := cell_later BB (hcr nx rb g1)
       have z0 := HSZ.out ra (List.mem_of_getElem? g0)
       have z1 := HSZ.out rb (List.mem_of_getElem? g1)
       have m1 : ((i : Int) + (M : Int) - 1).tmod (M : Int) = (pv : Int) := by
        rw [hpv, Int.natCast_emod, Int.tmod_eq_emod_of_nonneg (by omega)]
        congr 1
        omega
       have m2 : ((i : Int) + 1).tmod (M : Int) = (nx : Int) := by rw [hnx, Int.natCast_emod, Int.tmod_eq_emod_of_nonneg (by omega)]; rfl
       have wj1 : IntKind.i64.wrap ((i : Int) + (M : Int)) = (i : Int) + (M : Int) := IntWalk.i64_in _ (by omega)
       have wj2 : IntKind.i64.wrap ((i : Int) + (M : Int) - 1) = (i : Int) + (M : Int) - 1 := IntWalk.i64_in _ (by omega)
       have wj3 : IntKind.i64.wrap ((i : Int) + 1) = (i : Int) + 1 := IntWalk.i64_in _ (by omega)
       have b0 : (0 : Int) ≤ (pv : Int) := by omega
       have b1 : (pv : Int) < (M : Int) := by omega
       have b2 : ((pv : Int)).toNat = pv := by omega
       have b3 : (0 : Int) ≤ (nx : Int) := by omega
       have b4 : (nx : Int) < (M : Int) := by omega
       have b5 : ((nx : Int)).toNat = nx := by omega
       clear hcr g0 g1 hra hrb hnx hpv
       go_wp2_with (go_at_call 44; refine CT.out.mono ?_; rintro e' w' ⟨rfl, hw'⟩; rw [hw']; clear hw' w')
       go_quiet (fail)
       clear x0 x1 x2 x3 x4 x5 xz
       have BQ : Below wb.heap.size wb (wb.drewN nq) := (Below.refl _ _).drewN'
       have H4 := Lib.hid (row_later BQ H4.out)
       have H6 := Lib.hid (row_later BQ H6.out)
       have BW := Lib.hid (below_step BW.out (by omega) BQ)
       generalize hwq : wb.drewN nq = wq
       rw [hwq] at H4 H6 BW
       have HZQ := Lib.hid (show wq.heap.size = wr.heap.size + 1 by rw [← hwq]; exact hzb)
       clear m1 m2 wj1 wj2 wj3 b0 b1 b2 b3 b4 b5 d0 d1 hwq BQ
       have zmn : (minB ra rb).size ≤ 140737488355328 := by unfold minB; split; exact z1; exact z0
       have zmx : (maxB ra rb).size ≤ 140737488355328 := by unfold maxB; split; exact z1; exact z0
       obtain ⟨zca, zcb, hst⟩ := HST.out
       have HSTP := Lib.hid hst
       clear hst
       obtain ⟨rz, r0, r1⟩ := rk2 H4.out
       obtain ⟨qz, q0, q1⟩ := rk2 H6.out
       go_upto_region 17 with fail
       clear r0 r1 rz
       clear q0 q1 qz
       have BQ : Below wq.heap.size wq (wq.alloc (.cells #[.string (minB ra rb), .string (maxB ra rb)] 83)) := (Below.refl _ _).alloc (Nat.le_refl _) _
       have HP := row_new wq (.cells #[.string (minB ra rb), .string (maxB ra rb)] 83)
       generalize hwt : wq.alloc (.cells #[.string (minB ra rb), .string (maxB ra rb)] 83) = wt
       rw [hwt] at BQ HP
       have HZT := Lib.hid (show wt.heap.size = wq.heap.size + 1 by rw [← hwt]; simp)
       have H4 := Lib.hid (row_later BQ H4.out)
       have H6 := Lib.hid (row_later BQ H6.out)
       have BW := Lib.hid (below_step BW.out (by have := HZQ.out; omega) BQ)
       have HP := Lib.hid HP
       clear hwt BQ
       by_cases hab : ra = rb
       ·have HNONE := Lib.hid (neigh_none HOM.out (show nbrO o id = none by rw [HNB.out, if_pos hab]))
        subst hab
        obtain ⟨rz, r0, r1⟩ := rk2 H4.out
        have rf0 := frozen_of_row wt _ 0 _ _ H4.out
        have rf1 := frozen_of_row wt _ 1 _ _ H4.out
        obtain ⟨qz, q0, q1⟩ := rk2 H6.out
        go_wp2
        refine bodyPost_ret (v := .tuple #[.agg #[.string ca, .string cb], .bool false]) ?_ rfl ⟨ca, cb, ?_, ?_, ?_⟩
        ·simp [results, Tryz.results109, go_sem, r0, r1]
        ·rw [HNONE.out]; rfl
        ·intro p h
         rw [HNONE.out] at h; cases h
        ·exact ((BW.out.setCell (p := ⟨w.heap.size, 0, none⟩) (Nat.le_refl _) _).setCell (p := ⟨w.heap.size, 1, none⟩) (Nat.le_refl _) _)
       ·have HNB := Lib.hid (show nbrO o id = some (minB ra rb, maxB ra rb) by rw [HNB.out, if_neg hab]; rfl)
        have habb := bytesL_ne hab
        clear hab
        have hneq := fun W => eqIn_key (minB ra rb, maxB ra rb) (ca, cb) W zmn zmx zca zcb
        simp only [] at hneq
        by_cases hk0 : k = 0
        ·have HNS := Lib.hid (show NbSt l id (k + 1) (minB ra rb) (maxB ra rb) from ⟨zmn, zmx, fun j x hj hx => by
          obtain rfl : j = k := by omega
          rw [HOI.out] at hx
          injection hx with hx
          rw [← hx]; exact HNB.out⟩)
         have hkb : decide ((0 : Int) < (k : Int)) = false := decide_eq_false (by omega)
         have hkb2 : decide (0 < k) = false := decide_eq_false (by omega)
         clear hk0 hneq
         obtain ⟨pz, p0, p1⟩ := rk2 HP.out
         obtain ⟨qz, q0, q1⟩ := rk2 H6.out
         have qf0 := frozen_of_row wt _ 0 _ _ H6.out
         have qf1 := frozen_of_row wt _ 1 _ _ H6.out
         go_wp2
         go_roundw
         case rel =>
          have hzq := HZQ.out
          have hzt := HZT.out
          have r6 := row_set (i := 1) (v := .string (maxB ra rb)) (row_set (i := 0) (v := .string (minB ra rb)) H6.out)
          have r4 := row_set_other (a := ⟨w.heap.size + 1, 1, none⟩) (v := .string (maxB ra rb)) (row_set_other (a := ⟨w.heap.size + 1, 0, none⟩) (v := .string (minB ra rb)) H4.out (by simp)) (by simp)
          exact ⟨k + 1, minB ra rb, maxB ra rb, by go_num, by omega, HNS, (BW.out.setCell (p := ⟨w.heap.size + 1, 0, none⟩) (by simp) _).setCell (p := ⟨w.heap.size + 1, 1, none⟩) (by simp) _, by simp; omega, r4, by simpa using r6⟩
         case measure => simp [intOf]; omega
        ·have hkb : decide ((0 : Int) < (k : Int)) = true := decide_eq_true (by omega)
         have hkb2 : decide (0 < k) = true := decide_eq_true (by omega)
         obtain ⟨x0, hx0⟩ : ∃ x, (refersP l id)[0]? = some x := ⟨(refersP l id)[0]'(by rw [HN.out]; omega), List.getElem?_eq_getElem _⟩
         have HX0 := Lib.hid (And.intro (List.mem_of_getElem? hx0) (HSTP.out 0 x0 (by omega) hx0))
         clear hx0 hk0
         by_cases hpair : (minB ra rb, maxB ra rb) = (ca, cb)
         ·have HNS := Lib.hid (show NbSt l id (k + 1) (minB ra rb) (maxB ra rb) from ⟨zmn, zmx, fun j x hj hx => by
           by_cases hjk : j = k
           ·subst hjk
            rw [HOI.out] at hx
            injection hx with hx
            rw [← hx]; exact HNB.out
           ·rw [hpair]; exact HSTP.out j x (by omega) hx⟩)
          rw [decide_eq_true hpair] at hneq
          clear hpair
          obtain ⟨pz, p0, p1⟩ := rk2 HP.out
          obtain ⟨qz, q0, q1⟩ := rk2 H6.out
          have qf0 := frozen_of_row wt _ 0 _ _ H6.out
          have qf1 := frozen_of_row wt _ 1 _ _ H6.out
          go_wp2
          go_roundw
          case rel =>
           have hzq := HZQ.out
           have hzt := HZT.out
           have r6 := row_set (i := 1) (v := .string (maxB ra rb)) (row_set (i := 0) (v := .string (minB ra rb)) H6.out)
           have r4 := row_set_other (a := ⟨w.heap.size + 1, 1, none⟩) (v := .string (maxB ra rb)) (row_set_other (a := ⟨w.heap.size + 1, 0, none⟩) (v := .string (minB ra rb)) H4.out (by simp)) (by simp)
           exact ⟨k + 1, minB ra rb, maxB ra rb, by go_num, by omega, HNS, (BW.out.setCell (p := ⟨w.heap.size + 1, 0, none⟩) (by simp) _).setCell (p := ⟨w.heap.size + 1, 1, none⟩) (by simp) _, by simp; omega, r4, by simpa using r6⟩
          case measure => simp [intOf]; omega
         ·have HNONE := Lib.hid (neigh_two HOM.out HX0.out.1 HNB.out HX0.out.2 hpair)
          rw [decide_eq_false hpair] at hneq
          clear hpair
          obtain ⟨pz, p0, p1⟩ := rk2 HP.out
          obtain ⟨rz, r0, r1⟩ := rk2 H4.out
          have rf0 := frozen_of_row wt _ 0 _ _ H4.out
          have rf1 := frozen_of_row wt _ 1 _ _ H4.out
          obtain ⟨qz, q0, q1⟩ := rk2 H6.out
          go_wp2
          refine bodyPost_ret (v := .tuple #[.agg #[.string ca, .string cb], .bool false]) ?_ rfl ⟨ca, cb, ?_, ?_, ?_⟩
          ·simp [results, Tryz.results109, go_sem, r0, r1]
          ·rw [HNONE.out]; rfl
          ·intro p h
           rw [HNONE.out] at h; cases h
          ·exact ((BW.out.setCell (p := ⟨w.heap.size, 0, none⟩) (Nat.le_refl _) _).setCell (p := ⟨w.heap.size, 1, none⟩) (Nat.le_refl _) _)
   ·have h2b : (kd == 2) = false := by rw [beq_eq_false_iff_ne]; exact h2
    by_cases h3 : kd = 3
    ·subst h3
     obtain ⟨xz, x0, x1, x2, x3, x4, x5⟩ := rk6 HX.out
     by_cases h4 : M < 4
     ·have HNONE := Lib.hid (neigh_none HOM.out (nbr_area HKD.out (by rw [HM.out]; exact h4)))
      have h4b : decide ((M : Int) < 4) = true := decide_eq_true (by omega)
      clear h4
      obtain ⟨rz, r0, r1⟩ := rk2 H4.out
      have rf0 := frozen_of_row wb _ 0 _ _ H4.out
      have rf1 := frozen_of_row wb _ 1 _ _ H4.out
      obtain ⟨qz, q0, q1⟩ := rk2 H6.out
      go_wp2
      refine bodyPost_ret (v := .tuple #[.agg #[.string ca, .string cb], .bool false]) ?_ rfl ⟨ca, cb, ?_, ?_, ?_⟩
      ·simp [results, Tryz.results109, go_sem, r0, r1]
      ·rw [HNONE.out]; rfl
      ·intro p h
       rw [HNONE.out] at h; cases h
      ·exact ((BW.out.setCell (p := ⟨w.heap.size, 0, none⟩) (Nat.le_refl _) _).setCell (p := ⟨w.heap.size, 1, none⟩) (Nat.le_refl _) _)
     ·have h4b : decide ((M : Int) < 4) = false := decide_eq_false (by omega)
      have HGO := Lib.hid (fun (pv nx : Nat) (e1 : pv = (i + M - 1) % M) (e2 : nx = (i + 1) % M) => nbr_good (o := o) (id := id) (Or.inr ⟨HKD.out, by rw [HM.out]; exact h4⟩) (pv := pv) (nx := nx) (by rw [HI.out, HM.out]; exact e1) (by rw [HI.out, HM.out]; exact e2))
      clear h4
      obtain ⟨nx, hnx⟩ : ∃ z, z = (i + 1) % M := ⟨_, rfl⟩
      obtain ⟨pv, hpv⟩ : ∃ z, z = (i + M - 1) % M := ⟨_, rfl⟩
      have hnM : nx < M := by rw [hnx]; exact Nat.mod_lt _ (by omega)
      have hpM : pv < M := by rw [hpv]; exact Nat.mod_lt _ (by omega)
      have HNB := Lib.hid (HGO.out pv nx hpv hnx)
      obtain ⟨ra, hra⟩ : ∃ ra, ra = refAt o pv := ⟨_, rfl⟩
      obtain ⟨rb, hrb⟩ : ∃ rb, rb = refAt o nx := ⟨_, rfl⟩
      rw [← hra, ← hrb] at HNB
      have g0 : o.refs[pv]? = some ra := by rw [hra]; exact ref_get o pv (by rw [HM.out]; exact hpM)
      have g1 : o.refs[nx]? = some rb := by rw [hrb]; exact ref_get o nx (by rw [HM.out]; exact hnM)
      obtain ⟨br2, offr, har, hcr⟩ := HCQ.out (by omega)
      subst har
      have d0 := cell_later BB (hcr pv ra g0)
      have d1 := cell_later BB (hcr nx rb g1)
      have z0 := HSZ.out ra (List.mem_of_getElem? g0)
      have z1 := HSZ.out rb (List.mem_of_getElem? g1)
      have m1 : ((i : Int) + (M : Int) - 1).tmod (M : Int) = (pv : Int) := by
       rw [hpv, Int.natCast_emod, Int.tmod_eq_emod_of_nonneg (by omega)]
       congr 1
       omega
      have m2 : ((i : Int) + 1).tmod (M : Int) = (nx : Int) := by rw [hnx, Int.natCast_emod, Int.tmod_eq_emod_of_nonneg (by omega)]; rfl
      have wj1 : IntKind.i64.wrap ((i : Int) + (M : Int)) = (i : Int) + (M : Int) := IntWalk.i64_in _ (by omega)
      have wj2 : IntKind.i64.wrap ((i : Int) + (M : Int) - 1) = (i : Int) + (M : Int) - 1 := IntWalk.i64_in _ (by omega)
      have wj3 : IntKind.i64.wrap ((i : Int) + 1) = (i : Int) + 1 := IntWalk.i64_in _ (by omega)
      have b0 : (0 : Int) ≤ (pv : Int) := by omega
      have b1 : (pv : Int) < (M : Int) := by omega
      have b2 : ((pv : Int)).toNat = pv := by omega
      have b3 : (0 : Int) ≤ (nx : Int) := by omega
      have b4 : (nx : Int) < (M : Int) := by omega
      have b5 : ((nx : Int)).toNat = nx := by omega
      clear hcr g0 g1 hra hrb hnx hpv
      go_wp2_with fail
      go_quiet (fail)
      clear x0 x1 x2 x3 x4 x5 xz
      have BQ : Below wb.heap.size wb (wb.drewN nq) := (Below.refl _ _).drewN'
      have H4 := Lib.hid (row_later BQ H4.out)
      have H6 := Lib.hid (row_later BQ H6.out)
      have BW := Lib.hid (below_step BW.out (by omega) BQ)
      generalize hwq : wb.drewN nq = wq
      rw [hwq] at H4 H6 BW
      have HZQ := Lib.hid (show wq.heap.size = wr.heap.size + 1 by rw [← hwq]; exact hzb)
      clear m1 m2 wj1 wj2 wj3 b0 b1 b2 b3 b4 b5 d0 d1 hwq BQ
      have zmn : (minB ra rb).size ≤ 140737488355328 := by unfold minB; split; exact z1; exact z0
      have zmx : (maxB ra rb).size ≤ 140737488355328 := by unfold maxB; split; exact z1; exact z0
      obtain ⟨zca, zcb, hst⟩ := HST.out
      have HSTP := Lib.hid hst
      clear hst
      obtain ⟨rz, r0, r1⟩ := rk2 H4.out
      obtain ⟨qz, q0, q1⟩ := rk2 H6.out
      go_upto_region 17 with fail
      clear r0 r1 rz
      clear q0 q1 qz
      have BQ : Below wq.heap.size wq (wq.alloc (.cells #[.string (minB ra rb), .string (maxB ra rb)] 83)) := (Below.refl _ _).alloc (Nat.le_refl _) _
      have HP := row_new wq (.cells #[.string (minB ra rb), .string (maxB ra rb)] 83)
      generalize hwt : wq.alloc (.cells #[.string (minB ra rb), .string (maxB ra rb)] 83) = wt
      rw [hwt] at BQ HP
      have HZT := Lib.hid (show wt.heap.size = wq.heap.size + 1 by rw [← hwt]; simp)
      have H4 := Lib.hid (row_later BQ H4.out)
      have H6 := Lib.hid (row_later BQ H6.out)
      have BW := Lib.hid (below_step BW.out (by have := HZQ.out; omega) BQ)
      have HP := Lib.hid HP
      clear hwt BQ
      by_cases hab : ra = rb
      ·have HNONE := Lib.hid (neigh_none HOM.out (show nbrO o id = none by rw [HNB.out, if_pos hab]))
       subst hab
       obtain ⟨rz, r0, r1⟩ := rk2 H4.out
       have rf0 := frozen_of_row wt _ 0 _ _ H4.out
       have rf1 := frozen_of_row wt _ 1 _ _ H4.out
       obtain ⟨qz, q0, q1⟩ := rk2 H6.out
       go_wp2
       refine bodyPost_ret (v := .tuple #[.agg #[.string ca, .string cb], .bool false]) ?_ rfl ⟨ca, cb, ?_, ?_, ?_⟩
       ·simp [results, Tryz.results109, go_sem, r0, r1]
       ·rw [HNONE.out]; rfl
       ·intro p h
        rw [HNONE.out] at h; cases h
       ·exact ((BW.out.setCell (p := ⟨w.heap.size, 0, none⟩) (Nat.le_refl _) _).setCell (p := ⟨w.heap.size, 1, none⟩) (Nat.le_refl _) _)
      ·have HNB := Lib.hid (show nbrO o id = some (minB ra rb, maxB ra rb) by rw [HNB.out, if_neg hab]; rfl)
       have habb := bytesL_ne hab
       clear hab
       have hneq := fun W => eqIn_key (minB ra rb, maxB ra rb) (ca, cb) W zmn zmx zca zcb
       simp only [] at hneq
       by_cases hk0 : k = 0
       ·have HNS := Lib.hid (show NbSt l id (k + 1) (minB ra rb) (maxB ra rb) from ⟨zmn, zmx, fun j x hj hx => by
         obtain rfl : j = k := by omega
         rw [HOI.out] at hx
         injection hx with hx
         rw [← hx]; exact HNB.out⟩)
        have hkb : decide ((0 : Int) < (k : Int)) = false := decide_eq_false (by omega)
        have hkb2 : decide (0 < k) = false := decide_eq_false (by omega)
        clear hk0 hneq
        obtain ⟨pz, p0, p1⟩ := rk2 HP.out
        obtain ⟨qz, q0, q1⟩ := rk2 H6.out
        have qf0 := frozen_of_row wt _ 0 _ _ H6.out
        have qf1 := frozen_of_row wt _ 1 _ _ H6.out
        go_wp2
        go_roundw
        case rel =>
         have hzq := HZQ.out
         have hzt := HZT.out
         have r6 := row_set (i := 1) (v := .string (maxB ra rb)) (row_set (i := 0) (v := .string (minB ra rb)) H6.out)
         have r4 := row_set_other (a := ⟨w.heap.size + 1, 1, none⟩) (v := .string (maxB ra rb)) (row_set_other (a := ⟨w.heap.size + 1, 0, none⟩) (v := .string (minB ra rb)) H4.out (by simp)) (by simp)
         exact ⟨k + 1, minB ra rb, maxB ra rb, by go_num, by omega, HNS, (BW.out.setCell (p := ⟨w.heap.size + 1, 0, none⟩) (by simp) _).setCell (p := ⟨w.heap.size + 1, 1, none⟩) (by simp) _, by simp; omega, r4, by simpa using r6⟩
        case measure => simp [intOf]; omega
       ·have hkb : decide ((0 : Int) < (k : Int)) = true := decide_eq_true (by omega)
        have hkb2 : decide (0 < k) = true := decide_eq_true (by omega)
        obtain ⟨x0, hx0⟩ : ∃ x, (refersP l id)[0]? = some x := ⟨(refersP l id)[0]'(by rw [HN.out]; omega), List.getElem?_eq_getElem _⟩
        have HX0 := Lib.hid (And.intro (List.mem_of_getElem? hx0) (HSTP.out 0 x0 (by omega) hx0))
        clear hx0 hk0
        by_cases hpair : (minB ra rb, maxB ra rb) = (ca, cb)
        ·have HNS := Lib.hid (show NbSt l id (k + 1) (minB ra rb) (maxB ra rb) from ⟨zmn, zmx, fun j x hj hx => by
          by_cases hjk : j = k
          ·subst hjk
           rw [HOI.out] at hx
           injection hx with hx
           rw [← hx]; exact HNB.out
          ·rw [hpair]; exact HSTP.out j x (by omega) hx⟩)
         rw [decide_eq_true hpair] at hneq
         clear hpair
         obtain ⟨pz, p0, p1⟩ := rk2 HP.out
         obtain ⟨qz, q0, q1⟩ := rk2 H6.out
         have qf0 := frozen_of_row wt _ 0 _ _ H6.out
         have qf1 := frozen_of_row wt _ 1 _ _ H6.out
         go_wp2
         go_roundw
         case rel =>
          have hzq := HZQ.out
          have hzt := HZT.out
          have r6 := row_set (i := 1) (v := .string (maxB ra rb)) (row_set (i := 0) (v := .string (minB ra rb)) H6.out)
          have r4 := row_set_other (a := ⟨w.heap.size + 1, 1, none⟩) (v := .string (maxB ra rb)) (row_set_other (a := ⟨w.heap.size + 1, 0, none⟩) (v := .string (minB ra rb)) H4.out (by simp)) (by simp)
          exact ⟨k + 1, minB ra rb, maxB ra rb, by go_num, by omega, HNS, (BW.out.setCell (p := ⟨w.heap.size + 1, 0, none⟩) (by simp) _).setCell (p := ⟨w.heap.size + 1, 1, none⟩) (by simp) _, by simp; omega, r4, by simpa using r6⟩
         case measure => simp [intOf]; omega
        ·have HNONE := Lib.hid (neigh_two HOM.out HX0.out.1 HNB.out HX0.out.2 hpair)
         rw [decide_eq_false hpair] at hneq
         clear hpair
         obtain ⟨pz, p0, p1⟩ := rk2 HP.out
         obtain ⟨rz, r0, r1⟩ := rk2 H4.out
         have rf0 := frozen_of_row wt _ 0 _ _ H4.out
         have rf1 := frozen_of_row wt _ 1 _ _ H4.out
         obtain ⟨qz, q0, q1⟩ := rk2 H6.out
         go_wp2
         refine bodyPost_ret (v := .tuple #[.agg #[.string ca, .string cb], .bool false]) ?_ rfl ⟨ca, cb, ?_, ?_, ?_⟩
         ·simp [results, Tryz.results109, go_sem, r0, r1]
         ·rw [HNONE.out]; rfl
         ·intro p h
          rw [HNONE.out] at h; cases h
         ·exact ((BW.out.setCell (p := ⟨w.heap.size, 0, none⟩) (Nat.le_refl _) _).setCell (p := ⟨w.heap.size, 1, none⟩) (Nat.le_refl _) _)
    ·have h3b : (kd == 3) = false := by rw [beq_eq_false_iff_ne]; exact h3
     have HNONE := Lib.hid (neigh_none HOM.out (nbr_other (by rw [HKD.out]; exact h2) (by rw [HKD.out]; exact h3)))
     clear h2 h3
     obtain ⟨xz, x0, x1, x2, x3, x4, x5⟩ := rk6 HX.out
     obtain ⟨rz, r0, r1⟩ := rk2 H4.out
     have rf0 := frozen_of_row wb _ 0 _ _ H4.out
     have rf1 := frozen_of_row wb _ 1 _ _ H4.out
     obtain ⟨qz, q0, q1⟩ := rk2 H6.out
     go_wp2
     refine bodyPost_ret (v := .tuple #[.agg #[.string ca, .string cb], .bool false]) ?_ rfl ⟨ca, cb, ?_, ?_, ?_⟩
     ·simp [results, Tryz.results109, go_sem, r0, r1]
     ·rw [HNONE.out]; rfl
     ·intro p h
      rw [HNONE.out] at h; cases h
     ·exact ((BW.out.setCell (p := ⟨w.heap.size, 0, none⟩) (Nat.le_refl _) _).setCell (p := ⟨w.heap.size, 1, none⟩) (Nat.le_refl _) _)
  ·obtain rfl : k = N := by omega
   have mixed : Tryz.prog.follows .mixedOrders = true := by kernel_rfl
   obtain ⟨bd, hbd⟩ : ∃ z, decide (0 < k) = z := ⟨_, rfl⟩
   have hbd2 : decide ((0 : Int) < (k : Int)) = bd := by rw [← hbd, Bool.eq_iff_iff, decide_eq_true_eq, decide_eq_true_eq]; omega
   have HE := Lib.hid (show bd = (neighP l id).isSome ∧ ∀ p, neighP l id = some p → p = (ca, cb) by
    rcases Nat.eq_zero_or_pos k with h0 | h0
    ·have hnil : refersP l id = [] := List.length_eq_zero_iff.1 (HN.out.trans h0)
     rw [neigh_nil hnil, ← hbd, h0]
     exact ⟨rfl, fun p h => by cases h⟩
    ·have hall : neighP l id = some (ca, cb) := neigh_all (fun e => by have := HN.out; rw [e] at this; simp at this; omega) (fun x hx => by
      obtain ⟨j, hj⟩ := List.getElem?_of_mem hx
      have hjk := (List.getElem?_eq_some_iff.1 hj).1
      rw [HN.out] at hjk
      exact HST.out.2.2 j x hjk hj)
     rw [hall, ← hbd, decide_eq_true h0]
     exact ⟨rfl, fun p h => by injection h with h; exact h.symm⟩)
   clear hlt
   go_upto_region 21 with fail
   refine wp_region_mix 9 (fun W => Below w.heap.size w W ∧ W.heap[w.heap.size + 1]? = some (.cells #[.string ca, .string cb] 83)) (fun W => (Below w.heap.size w W ∧ W.heap[w.heap.size + 1]? = some (.cells #[.string ca, .string cb] 83)) ∧ W.heap[w.heap.size]? = some (.cells #[.string ⟨#[]⟩, .string ⟨#[]⟩] 83)) mixed (by kernel_rfl) (by kernel_rfl) (by kernel_rfl) (((StableW.below _ _ (Nat.le_refl _)).and (StableW.row _ _)).and (StableW.row _ _)) (fun W hW => hW.1) ⟨⟨hbr.drew, row_later (Below.refl wr.heap.size wr).drew H6.out⟩, row_later (Below.refl wr.heap.size wr).drew H4.out⟩ ?_
   apply Exists.intro
   refine ⟨fun W hW => ?_, ?_⟩
   ·have HA := Lib.hid hW.2
    have HB := Lib.hid (row_later hW.1 HPR.out)
    have hlb := fun p : BelowBy W => HLK.out p.at' (below_step hW.1 (Nat.le_refl _) p.below)
    obtain ⟨qz, q0, q1⟩ := rk2 HA.out
    have qq0 := cell_belowBy q0
    have qq1 := cell_belowBy q1
    clear q0 q1
    obtain ⟨pz, p0, p1, p2, p3⟩ := rk4 HB.out
    have qp0 := cell_belowBy p0
    have qp1 := cell_belowBy p1
    have qp2 := cell_belowBy p2
    have qp3 := cell_belowBy p3
    clear p0 p1 p2 p3
    simp only [List.take_succ_cons, List.take_zero]
    repeat (go_big_quiet_step (fail))
    exact wpQuiet_nil rfl
   ·simp only [List.drop_succ_cons, List.drop_zero]
    refine tailM_step (ι := Unit) (fun _ => undef) (fun _ W => (Below w.heap.size w W ∧ W.heap[w.heap.size + 1]? = some (.cells #[.string ca, .string cb] 83)) ∧ W.heap[w.heap.size]? = some (.cells #[.string ca, .string cb] 83)) rfl (fun _ => ((StableW.below _ _ (Nat.le_refl _)).and (StableW.row _ _)).and (StableW.row _ _)) (fun _ _ h => h.1) (fun W hS K hK => ?_) (fun _ => ?_)
    ·obtain ⟨⟨hS1, hS2⟩, hS3⟩ := hS
     have HS3 := Lib.hid hS3
     clear hS3
     obtain ⟨ccz, cc0, cc1⟩ := rk2 HS3.out
     have ccf0 := frozen_of_row W _ 0 _ _ HS3.out
     have ccf1 := frozen_of_row W _ 1 _ _ HS3.out
     have K1 := Lib.hid (setCells_block [.string ca, .string cb] 0 W _ HS3.out)
     have K2 := Lib.hid (row_grown (setCells_grown (g := w.heap.size) [.string ca, .string cb] 0 W) hS2 (fun c => by injection c with c; omega))
     have K3 := Lib.hid (hS1.grown (setCells_grown (g := w.heap.size) [.string ca, .string cb] 0 W) hS1.size (fun j hj => by injection hj with hj; omega))
     simp only [World.setCells] at K1 K2 K3
     go_simp
     exact hK () _ ⟨⟨K3.out, K2.out⟩, K1.out⟩
    simp only [Act.put]
    refine tailM_pure (.bool bd) rfl (((StableW.below _ _ (Nat.le_refl _)).and (StableW.row _ _)).and (StableW.row _ _)) (fun _ h => h.1) (fun W hS K hK => ?_) (tailM_nil fun W hW => ?_)
    ·go_simp
     exact hK
    obtain ⟨⟨hW1, -⟩, hW2⟩ := hW
    have H4 := Lib.hid hW2
    clear hW2
    simp only [Act.put, List.setIfInBounds_toArray, List.set_cons_succ, List.set_cons_zero]
    obtain ⟨rz, r0, r1⟩ := rk2 H4.out
    go_wp2
    refine bodyPost_ret (v := .tuple #[.agg #[.string ca, .string cb], .bool bd]) ?_ rfl ⟨ca, cb, ?_, HE.out.2, hW1⟩
    ·simp [results, Tryz.results109, go_sem, r0, r1]
    ·rw [HE.out.1]
end Go.Proofs.YtibpaaajghbkoaaGreat
