/- The reference's Check. BorderFewer: the walk. BorderMatchesReference: the walk. -/
import Derived.Test.YtbkomdinchiffaaGreatBorRFG
import Derived.Test.YtbkomdinchiffaaGreatBorHd
import Derived.Test.YtbkomdinchiffaaGreatBorLaw
namespace Go.Proofs.YtbkomdinchiffaaGreat
open Go.RowKit Go.Sort

theorem cross_ord (l : List ObjD) (p q : KeyD) : ordR p q (segB l p) (segB l q) = !crossB l p q := by
  unfold ordR crossB
  by_cases h0 : meetsR (segB l p) (segB l q) = 0
  · simp [h0]
  · by_cases h1 : meetsR (segB l p) (segB l q) = 1
    · simp [h1]
    · simp [h0, h1]
/-- What the reference's Check has so far. -/
def CkSt (l : List ObjD) (w4 W : World) (v : Value) (pre : List KeyD) : Prop :=
  VOwn W w4.heap.size v (setK pre) ∧ (∀ x ∈ pre, OrdP x ∧ x.1 ∈ l.map (·.id) ∧ x.2 ∈ l.map (·.id)) ∧ Below w4.heap.size w4 W
theorem CkSt.on {l : List ObjD} {w4 W W' : World} {v : Value} {pre : List KeyD} (h : CkSt l w4 W v pre) (hb : Below W.heap.size W W') : CkSt l w4 W' v pre := ⟨h.1.on hb, h.2.1, h.2.2.trans (hb.mono h.2.2.size)⟩
theorem CkSt.stable (l : List ObjD) (w4 : World) (v : Value) (pre : List KeyD) : StableW fun W => CkSt l w4 W v pre := fun _ _ h h2 => h.on h2
theorem StableW.str (v : Value) (ids : List ByteArray) : StableW fun W => StrRow W v ids := fun _ _ h h2 => h.later h2
theorem setk_len {l : List ObjD} (hl : l.length ≤ 1000) {pre : List KeyD} (h : ∀ x ∈ pre, OrdP x ∧ x.1 ∈ l.map (·.id) ∧ x.2 ∈ l.map (·.id)) : (setK pre).length ≤ 1000000000 := by
  have := GoodN.len (l := l) (N := setK pre) ⟨(setK_sorted pre).nodup, fun key hk => h key (mem_setK.1 hk)⟩
  have h2 := Nat.mul_le_mul hl hl
  omega
theorem ckst_add {l : List ObjD} (hl : l.length ≤ 1000) {w4 W : World} {v : Value} {pre : List KeyD} (h : CkSt l w4 W v pre) {x y : ByteArray} (hx : x ∈ l.map (·.id)) (hy : y ∈ l.map (·.id)) {a : Option Addr} {m c : Nat} (hi : StrRow W (.slice a m c) (idsK (key2 x y))) :
    Calls Tryz.prog 43 #[v, .agg #[.string ⟨#[]⟩, .int .i64 2, .slice a m c]] W fun e w' => ∃ v', e = .returned v' ∧ CkSt l w4 w' v' (pre ++ [key2 x y]) ∧ Below W.heap.size W w' := by
  refine (radd_any v (setK pre) (key2 x y) a m c w4.heap.size W h.1 hi (fun z hz => (h.2.1 z (mem_setK.1 hz)).1) (key2_ordP x y) (setk_len hl h.2.1) h.2.2.size).mono ?_
  rintro e w' ⟨v', he, hv, hb⟩
  refine ⟨v', he, ⟨by rw [setK_snoc]; exact hv, fun z hz => ?_, h.2.2.trans (hb.mono h.2.2.size)⟩, hb⟩
  rcases List.mem_append.1 hz with hz | hz
  · exact h.2.1 z hz
  · rw [List.mem_singleton.1 hz]
    refine ⟨key2_ordP x y, ?_⟩
    rcases key2_or x y with e | e <;> rw [e]
    · exact ⟨hx, hy⟩
    · exact ⟨hy, hx⟩
theorem str_cell {w : World} {a : Option Addr} {n c : Nat} {ids : List ByteArray} (h : StrRow w (.slice a n c) ids) : n = ids.length ∧ n ≤ 140737488355328 ∧ (0 < n → ∃ b off, a = some ⟨b, off, none⟩ ∧ ∀ (i : Nat) (s : ByteArray), ids[i]? = some s → w.cell? ⟨b, off + i, none⟩ = some (.string s)) := by
  obtain ⟨a', c', e, hl, _, hc⟩ := h
  injection e with e1 e2 e3
  subst e1 e2 e3
  exact ⟨rfl, hl, hc⟩
theorem own_end {l : List ObjD} {p q : KeyD} {x : Nat} (h : 0 < x → crossB l p q = true) (hx : x = (ownF l l p).length ∨ crossB l p q = false) : ownX l p q x = ownNs l p q := by
  unfold ownNs
  cases hc : crossB l p q with
  | true =>
    rcases hx with hx | hx
    · rw [hx, if_pos rfl]
    · rw [hc] at hx; cases hx
  | false =>
    have : x = 0 := by
      rcases Nat.eq_zero_or_pos x with h0 | h0
      · exact h0
      · rw [h h0] at hc; cases hc
    subst this
    rw [if_neg (by simp)]; rfl
/-- A border as a value. -/
theorem two_cell {W : World} {g : Nat} {t : TypeId} {u v : Value} (h : W.heap[g]? = some (.cells #[u, v] t)) {m : Nat} (hm : m < 2) : W.cell? ⟨g, m, none⟩ = some (if m = 0 then u else v) := by
  have := cell_of_row W _ m _ _ _ h
  rw [this]
  rcases (show m = 0 ∨ m = 1 by omega) with rfl | rfl <;> rfl
theorem four_cell {W : World} {g : Nat} {t : TypeId} {a b c d : Value} (h : W.heap[g]? = some (.cells #[a, b, c, d] t)) {m : Nat} (hm : m < 2) : W.cell? ⟨g, m * 2, none⟩ = some (if m = 0 then a else c) ∧ W.cell? ⟨g, m * 2 + 1, none⟩ = some (if m = 0 then b else d) := by
  have h1 := cell_of_row W _ (m * 2) _ _ _ h
  have h2 := cell_of_row W _ (m * 2 + 1) _ _ _ h
  rw [h1, h2]
  rcases (show m = 0 ∨ m = 1 by omega) with rfl | rfl <;> exact ⟨rfl, rfl⟩

set_option maxRecDepth 100000 in
set_option maxHeartbeats 8000000 in
theorem rcheck_of (a : Option Addr) (n cap : Nat) (l : List ObjD) (w : World) (hok : mapOK l = true) (hl : l.length ≤ 1000) (hz : ∀ x ∈ l, x.id.size ≤ 140737488355328)
    (hrb : ∀ W, Below w.heap.size w W → Calls Tryz.prog 22 #[.agg #[.slice a n cap]] W fun e w' => ∃ v', e = .returned v' ∧ BrsAt w' v' l ∧ Below W.heap.size W w') :
    Calls Tryz.prog 17 #[.agg #[.slice a n cap]] w fun e w' => ∃ v', e = .returned v' ∧ ViosAt w' v' (checkP l) ∧ Below w.heap.size w w' := by
  have mixed : Tryz.prog.follows .mixedOrders = true := by kernel_rfl
  have RB := Lib.hid hrb
  have HKI := Lib.hid (fun k (hk : k ∈ keysP l) => (show k.1 ∈ l.map (·.id) ∧ k.2 ∈ l.map (·.id) from ⟨node_id (keys_node hk).1, node_id (keys_node hk).2⟩))
  have HZO := Lib.hid hz
  have hkl := keys_len hok
  have hkb : (keysP l).length ≤ 2000000000 := by omega
  have HL := Lib.hid hl
  clear hok hl hz hkl hrb
  go_enter Tryz.func17, Tryz.ntmps17
  go_wp2_with fail
  have B1 : Below w.heap.size w (w.alloc (.cells #[.slice a n cap] 24)) := (by repeat' (first | exact Below.refl _ _ | refine Below.drew ?_ | refine Below.drewN' ?_ | refine Below.setCell ?_ (by first | omega | (simp; done) | exact Below.size (by assumption) | (simp; omega)) _ | refine Below.alloc ?_ (by first | omega | (simp; done) | exact Below.size (by assumption) | (simp; omega)) _ | refine Below.trans ?_ (Below.mono (by assumption) ?_) | (first | omega | (simp; done) | exact Below.size (by assumption) | (simp; omega))))
  have hz1 : w.heap.size < (w.alloc (.cells #[.slice a n cap] 24)).heap.size := by simp
  refine (RB.out _ B1).mono ?_
  rintro e w4 ⟨vB, rfl, hbs, hb⟩
  have B4 := below_step B1 (by omega) hb
  have hz4 := B4.size
  obtain ⟨ao, co, rfl, hc⟩ := brs_get hbs
  obtain ⟨N, hN⟩ : ∃ N, (keysP l).length = N := ⟨_, rfl⟩
  rw [hN] at hc hkb ⊢
  have HN := Lib.hid hN
  have HC := Lib.hid hc
  clear hb B1 hz1 hbs hc hN RB
  go_wp2_with fail
  go_loopw [3, 5] (fun v3 v5 wr => ∃ i : Nat, v5 = .int .i64 i ∧ i ≤ N ∧ CkSt l w4 wr v3 (allN l i)) (fun _ v5 _ => N - (intOf v5).toNat)
  case atStart => exact ⟨0, rfl, by omega, VOwn.nil _ _, (fun x hx => by cases hx), Below.refl _ _⟩
  case round =>
    obtain ⟨i, rfl, hin, hck⟩ := hrel
    have HCK := Lib.hid hck
    have B5 := below_step B4 (by omega) hck.2.2
    clear hck
    by_cases hlt : i < N
    · obtain ⟨p, hp⟩ : ∃ p, (keysP l)[i]? = some p := ⟨(keysP l)[i]'(by rw [HN.out]; exact hlt), List.getElem?_eq_getElem _⟩
      obtain ⟨b, off, hab, hcell⟩ := HC.out (by omega)
      subst hab
      have HCE := Lib.hid hcell
      obtain ⟨pa, pc, c0, c1, c2, c3, c4, c5, c6, hst⟩ := hcell i p hp
      have HST := Lib.hid hst
      obtain ⟨pn, hpn⟩ : ∃ z, z = (ownF l l p).length := ⟨_, rfl⟩
      rw [← hpn] at c6 HST
      have HPN := Lib.hid hpn
      have hpb := (str_cell HST.out).2.1
      have HAT := Lib.hid (atK_get hp)
      have HPI := Lib.hid (HKI.out p (List.mem_of_getElem? hp))
      have hi1 : (0 : Int) ≤ (i : Int) := by omega
      have hi2 : (i : Int) < (N : Int) := by omega
      have HC0 := Lib.hid c0
      have HC1 := Lib.hid c1
      have HC2 := Lib.hid c2
      have HC3 := Lib.hid c3
      have HC4 := Lib.hid c4
      have HC5 := Lib.hid c5
      have HC6 := Lib.hid c6
      clear hcell hp c0 c1 c2 c3 c4 c5 c6 hst hpn
      go_wp2_with fail
      obtain ⟨wo, rfl⟩ : ∃ z : World, z = wr := ⟨_, rfl⟩
      go_loopw [3, 6] (fun v3 v6 wr => ∃ k : Nat, v6 = .int .i64 k ∧ k ≤ i ∧ CkSt l w4 wr v3 (allN l i ++ ownR l p k)) (fun _ v6 _ => i - (intOf v6).toNat)
      case atStart => exact ⟨0, rfl, by omega, by simpa [ownR] using HCK.out⟩
      case round =>
        obtain ⟨k, rfl, hki, hck⟩ := hrel
        have HCK2 := Lib.hid hck
        have B6 := below_step B4 (by omega) hck.2.2
        clear hck
        by_cases hlk : k < i
        · obtain ⟨q, hq⟩ : ∃ q, (keysP l)[k]? = some q := ⟨(keysP l)[k]'(by rw [HN.out]; omega), List.getElem?_eq_getElem _⟩
          obtain ⟨qa, qc, d0, d1, d2, d3, d4, d5, d6, hsq⟩ := HCE.out k q hq
          have HSQ := Lib.hid hsq
          obtain ⟨qn, hqn⟩ : ∃ z, z = (ownF l l q).length := ⟨_, rfl⟩
          rw [← hqn] at d6 HSQ
          have HQN := Lib.hid hqn
          have hqb := (str_cell HSQ.out).2.1
          have HAQ := Lib.hid (atK_get hq)
          have hk1 : (0 : Int) ≤ (k : Int) := by omega
          have hk2 : (k : Int) < (N : Int) := by omega
          have HD0 := Lib.hid d0
          have HD1 := Lib.hid d1
          have HD2 := Lib.hid d2
          have HD3 := Lib.hid d3
          have HD4 := Lib.hid d4
          have HD5 := Lib.hid d5
          have HD6 := Lib.hid d6
          have HLK := Lib.hid hlk
          clear hq d0 d1 d2 d3 d4 d5 d6 hsq hqn
          obtain ⟨cr, hcr⟩ : ∃ z, z = crossB l p q := ⟨_, rfl⟩
          have RO := Lib.hid (fun W => rorder_any p q (segB l p) (segB l q) pa qa pn pc qn qc W)
          rw [cross_ord, ← hcr] at RO
          have HCR := Lib.hid hcr
          clear hcr
          go_wp2_with fail
          obtain ⟨wp, rfl⟩ : ∃ z : World, z = wr := ⟨_, rfl⟩
          go_loopw [3, 7] (fun v3 v7 wr => ∃ x : Nat, v7 = .int .i64 x ∧ x ≤ pn ∧ (0 < x → cr = true) ∧ CkSt l w4 wr v3 (allN l i ++ ownR l p k ++ ownX l p q x)) (fun _ v7 _ => pn - (intOf v7).toNat)
          case atStart => exact ⟨0, rfl, by omega, (fun h => by omega), by simpa [ownX] using HCK2.out⟩
          case round =>
            obtain ⟨x, rfl, hxn, hx0, hck⟩ := hrel
            have HCK3 := Lib.hid hck
            have HX0 := Lib.hid hx0
            have hb7 := hck.2.2
            have B7 := below_step B4 (by omega) hb7
            clear hck hx0
            have q0 := cell_belowBy (cell_later hb7 HC0.out)
            have q1 := cell_belowBy (cell_later hb7 HC1.out)
            have q2 := cell_belowBy (cell_later hb7 HC2.out)
            have q3 := cell_belowBy (cell_later hb7 HC3.out)
            have q4 := cell_belowBy (cell_later hb7 HC4.out)
            have q5 := cell_belowBy (cell_later hb7 HC5.out)
            have q6 := cell_belowBy (cell_later hb7 HC6.out)
            have r0 := cell_belowBy (cell_later hb7 HD0.out)
            have r1 := cell_belowBy (cell_later hb7 HD1.out)
            have r2 := cell_belowBy (cell_later hb7 HD2.out)
            have r3 := cell_belowBy (cell_later hb7 HD3.out)
            have r4 := cell_belowBy (cell_later hb7 HD4.out)
            have r5 := cell_belowBy (cell_later hb7 HD5.out)
            have r6 := cell_belowBy (cell_later hb7 HD6.out)
            have bz := lt_of_cell (cell_later hb7 HC0.out)
            by_cases hlx : x < pn
            · have hd : decide ((x : Int) < (pn : Int)) = true := decide_eq_true (by omega)
              have hd' : (x : Int) < (pn : Int) := by omega
              have hx1 : (0 : Int) ≤ (x : Int) := by omega
              have HLX := Lib.hid hlx
              cases cr with
              | false =>
                have HE := Lib.hid (own_end (l := l) (p := p) (q := q) (x := x) (fun h => by rw [← HCR.out]; exact HX0.out h) (Or.inr HCR.out.symm))
                have HRN := Lib.hid (show CkSt l w4 wr u3 (allN l i ++ ownR l p (k + 1)) by
                  have h := HCK3.out
                  rw [HE.out] at h
                  rw [show ownR l p (k + 1) = ownR l p k ++ ownNs l p q by unfold ownR; rw [range_step, HAQ.out], ← List.append_assoc]; exact h)
                go_wp2_with fail
                refine wp_region_quiet_below mixed (by kernel_rfl) ?_
                repeat (go_big_quiet_step ((go_at_call 42; exact calls_belowBy (RO.out _))))
                refine wpQuiet_nil ?_
                intro w8 hw'
                obtain ⟨⟨wq, hbq⟩, hw''⟩ := hw'
                subst hw''
                clear q0 q1 q2 q3 q4 q5 q6 r0 r1 r2 r3 r4 r5 r6
                go_wp2
                go_roundw
                case rel => exact ⟨k + 1, by go_num, by have := HLK.out; omega, HRN.out.on hbq⟩
                case measure => have := HLK.out; simp [intOf]; omega
              | true =>
                go_wp2_with fail
                refine wp_region_quiet_below mixed (by kernel_rfl) ?_
                repeat (go_big_quiet_step ((go_at_call 42; exact calls_belowBy (RO.out _))))
                refine wpQuiet_nil ?_
                intro w8 hw'
                obtain ⟨⟨wq, hbq⟩, hw''⟩ := hw'
                subst hw''
                clear q0 q1 q2 q3 q4 q5 q6 r0 r1 r2 r3 r4 r5 r6
                replace HCK3 := Lib.hid (HCK3.out.on hbq)
                clear hb7 B7 hbq bz
                obtain ⟨ws, rfl⟩ : ∃ z : World, z = w8 := ⟨_, rfl⟩
                obtain ⟨xo, hxo⟩ : ∃ s, (ownF l l p)[x]? = some s := ⟨(ownF l l p)[x]'(by rw [← HPN.out]; exact hlx), List.getElem?_eq_getElem _⟩
                obtain ⟨bp, opp, hpa, hcp⟩ := (str_cell HST.out).2.2 (by omega)
                subst hpa
                have HCP := Lib.hid (hcp x xo hxo)
                have HXI := Lib.hid (own_ids (List.mem_of_getElem? hxo))
                have HOX := Lib.hid (ownX_succ (q := q) hxo)
                clear hcp hxo
                go_wp2_with fail
                go_loopw [3, 8] (fun v3 v8 wr => ∃ y : Nat, v8 = .int .i64 y ∧ y ≤ qn ∧ CkSt l w4 wr v3 (allN l i ++ ownR l p k ++ ownX l p q x ++ ((ownF l l q).take y).map fun z => key2 xo z)) (fun _ v8 _ => qn - (intOf v8).toNat)
                case atStart => exact ⟨0, rfl, by omega, by simpa using HCK3.out⟩
                case round =>
                  obtain ⟨y, rfl, hyn, hck⟩ := hrel
                  have HCK4 := Lib.hid hck
                  have hb8 := hck.2.2
                  clear hck
                  have r6 := cell_later hb8 HD6.out
                  have rz := lt_of_cell r6
                  by_cases hly : y < qn
                  · obtain ⟨yo, hyo⟩ : ∃ s, (ownF l l q)[y]? = some s := ⟨(ownF l l q)[y]'(by rw [← HQN.out]; exact hly), List.getElem?_eq_getElem _⟩
                    obtain ⟨bq, oq, hqa, hcq⟩ := (str_cell HSQ.out).2.2 (by omega)
                    subst hqa
                    have HCQ := Lib.hid (hcq y yo hyo)
                    have HYI := Lib.hid (own_ids (List.mem_of_getElem? hyo))
                    have HPRE := Lib.hid (show (allN l i ++ ownR l p k ++ ownX l p q x ++ ((ownF l l q).take y).map fun z => key2 xo z) ++ [key2 xo yo] = allN l i ++ ownR l p k ++ ownX l p q x ++ ((ownF l l q).take (y + 1)).map fun z => key2 xo z by
                      rw [List.take_add_one, hyo, List.map_append, ← List.append_assoc]; rfl)
                    have hd2 : decide ((y : Int) < (qn : Int)) = true := decide_eq_true (by omega)
                    have hy2 : (y : Int) < (qn : Int) := by omega
                    have hy1 : (0 : Int) ≤ (y : Int) := by omega
                    have HLY := Lib.hid hly
                    clear hcq hyo
                    generalize (allN l i ++ ownR l p k ++ ownX l p q x ++ ((ownF l l q).take y).map fun z => key2 xo z) = pre at HCK4 HPRE
                    go_wp2_with fail
                    clear r6 rz
                    refine wp_region_mix 17 (fun W => Below w4.heap.size w4 W) (fun W => CkSt l w4 W u3 pre) mixed (by kernel_rfl) (by kernel_rfl) (by kernel_rfl) (CkSt.stable _ _ _ _) (fun W hW => hW.2.2) (HCK4.out.on (Below.refl _ _).drew) ?_
                    apply Exists.intro
                    refine ⟨fun W hW => ?_, ?_⟩
                    · have q6 := cell_belowBy (cell_later hW HC6.out)
                      have r6 := cell_belowBy (cell_later hW HD6.out)
                      have s6 := cell_belowBy (cell_later hW HCP.out)
                      have t6 := cell_belowBy (cell_later hW HCQ.out)
                      have bz := lt_of_cell (cell_later hW HC6.out)
                      have bz1 := lt_of_cell (cell_later hW HCP.out)
                      have bz2 := lt_of_cell (cell_later hW HCQ.out)
                      simp only [List.take_succ_cons, List.take_zero]
                      repeat (go_big_quiet_step (fail))
                      exact wpQuiet_nil rfl
                    · simp only [List.drop_succ_cons, List.drop_zero]
                      refine tailM_step (ι := Nat × Nat) (fun g => .agg #[.string ⟨#[]⟩, .int .i64 2, .slice (some ⟨g.1, 0, none⟩) g.2 g.2]) (fun g W => CkSt l w4 W u3 pre ∧ StrRow W (.slice (some ⟨g.1, 0, none⟩) g.2 g.2) (idsK (key2 xo yo))) rfl (fun _ => (CkSt.stable _ _ _ _).and (StableW.str _ _)) (fun _ _ h => h.1.2.2) (fun W hS K hK => ?_) (fun g => ?_)
                      · go_simp
                        refine (rcross13_any xo yo W (ids_size HZO.out HXI.out) (ids_size HZO.out HYI.out)).mono ?_
                        rintro e w6 ⟨g, n, rfl, hst, hb⟩
                        exact hK (g, n) w6 ⟨hS.on hb, hst⟩
                      simp only [Act.put, List.setIfInBounds_toArray, List.set_cons_succ, List.set_cons_zero]
                      refine tailM_step (ι := Value) (fun v => v) (fun v' W => CkSt l w4 W v' (pre ++ [key2 xo yo])) rfl (fun _ => CkSt.stable _ _ _ _) (fun _ _ h => h.2.2) (fun W hS K hK => ?_) (fun v' => ?_)
                      · go_simp
                        refine (ckst_add HL.out hS.1 HXI.out HYI.out hS.2).mono ?_
                        rintro e w6 ⟨v6, rfl, hck6, _⟩
                        exact hK v6 w6 hck6
                      simp only [Act.put, List.setIfInBounds_toArray, List.set_cons_succ, List.set_cons_zero]
                      refine tailM_pure v' rfl (CkSt.stable _ _ _ _) (fun _ h => h.2.2) (fun W hS K hK => ?_) (tailM_nil fun W hW => ?_)
                      · go_simp
                        exact hK
                      rw [HPRE.out] at hW
                      have HW := Lib.hid hW
                      clear hW
                      simp only [Act.put, List.setIfInBounds_toArray, List.set_cons_succ, List.set_cons_zero]
                      have hly := HLY.out
                      go_wp2
                      go_roundw
                      case rel => exact ⟨y + 1, by go_num, by omega, HW.out⟩
                      case measure => simp [intOf]; omega
                  · obtain rfl : y = qn := by omega
                    have hd2 : decide ((y : Int) < (y : Int)) = false := decide_eq_false (by omega)
                    have hy2 : ¬ (y : Int) < (y : Int) := by omega
                    have HRN := Lib.hid (show CkSt l w4 wr u3 (allN l i ++ ownR l p k ++ ownX l p q (x + 1)) by
                      have h := HCK4.out
                      rw [List.take_of_length_le (by rw [← HQN.out]; exact Nat.le_refl _), List.append_assoc, ← HOX.out] at h
                      exact h)
                    have hlx := HLX.out
                    go_wp2
                    go_roundw
                    case rel => exact ⟨x + 1, by go_num, by omega, (fun _ => by simp), HRN.out⟩
                    case measure => simp [intOf]; omega
            · obtain rfl : x = pn := by omega
              have hd : decide ((x : Int) < (x : Int)) = false := decide_eq_false (by omega)
              have hd' : ¬ (x : Int) < (x : Int) := by omega
              have HE := Lib.hid (own_end (l := l) (p := p) (q := q) (x := x) (fun h => by rw [← HCR.out]; exact HX0.out h) (Or.inl HPN.out))
              have HRN := Lib.hid (show CkSt l w4 wr u3 (allN l i ++ ownR l p (k + 1)) by
                have h := HCK3.out
                rw [HE.out] at h
                rw [show ownR l p (k + 1) = ownR l p k ++ ownNs l p q by unfold ownR; rw [range_step, HAQ.out], ← List.append_assoc]; exact h)
              go_wp2_with fail
              refine wp_region_quiet_below mixed (by kernel_rfl) ?_
              repeat (go_big_quiet_step (fail))
              refine wpQuiet_nil ?_
              intro w8 hw'
              obtain ⟨⟨wq, hbq⟩, hw''⟩ := hw'
              subst hw''
              clear q0 q1 q2 q3 q4 q5 q6 r0 r1 r2 r3 r4 r5 r6
              go_wp2
              go_roundw
              case rel => exact ⟨k + 1, by go_num, by have := HLK.out; omega, HRN.out.on hbq⟩
              case measure => have := HLK.out; simp [intOf]; omega
        · obtain rfl : k = i := by omega
          have hd : decide ((k : Int) < (k : Int)) = false := decide_eq_false (by omega)
          obtain ⟨wp, rfl⟩ : ∃ z : World, z = wr := ⟨_, rfl⟩
          go_wp2_with fail
          go_loopw [3, 9] (fun v3 v9 wr => ∃ m : Nat, v9 = .int .i64 m ∧ m ≤ k + 1 ∧ CkSt l w4 wr v3 (allN l k ++ ownR l p k ++ nodeR l p m)) (fun _ v9 _ => k + 1 - (intOf v9).toNat)
          case atStart => exact ⟨0, rfl, by omega, by simpa [nodeR] using HCK2.out⟩
          case round =>
            obtain ⟨m, rfl, hmk, hck⟩ := hrel
            have HCK3 := Lib.hid hck
            have hbwa := hck.2.2
            have hzwa := hbwa.size
            clear hck
            by_cases hlm : m < k + 1
            · obtain ⟨q, hq⟩ : ∃ q, (keysP l)[m]? = some q := ⟨(keysP l)[m]'(by rw [HN.out]; omega), List.getElem?_eq_getElem _⟩
              obtain ⟨qa, qc, d0, d1, d2, d3, d4, d5, _, _⟩ := HCE.out m q hq
              have HAQ := Lib.hid (atK_get hq)
              have HQI := Lib.hid (HKI.out q (List.mem_of_getElem? hq))
              have HD0 := Lib.hid d0
              have HD1 := Lib.hid d1
              have HD2 := Lib.hid d2
              have HD3 := Lib.hid d3
              have HD4 := Lib.hid d4
              have HD5 := Lib.hid d5
              have hm1 : (0 : Int) ≤ (m : Int) := by omega
              have hm2 : (m : Int) < (N : Int) := by omega
              have hm3 : (m : Int) ≤ (k : Int) := by omega
              have hm4 : decide ((m : Int) ≤ (k : Int)) = true := decide_eq_true hm3
              have HLM := Lib.hid hlm
              clear hq d0 d1 d2 d3 d4 d5
              obtain ⟨wa, rfl⟩ : ∃ z : World, z = wr := ⟨_, rfl⟩
              go_wp2_with fail
              refine wp_region_mix 10 (fun W => Below w4.heap.size w4 W) (fun W => Below wa.heap.size wa W) mixed (by kernel_rfl) (by kernel_rfl) (by kernel_rfl) (StableW.below _ _ (Nat.le_refl _)) (fun W hW => hbwa.trans (hW.mono hzwa)) (Below.refl _ _).drew ?_
              apply Exists.intro
              refine ⟨fun W hW => ?_, ?_⟩
              · have q0 := cell_belowBy (cell_later hW HC0.out)
                have q1 := cell_belowBy (cell_later hW HC1.out)
                have q2 := cell_belowBy (cell_later hW HC2.out)
                have q3 := cell_belowBy (cell_later hW HC3.out)
                have q4 := cell_belowBy (cell_later hW HC4.out)
                have q5 := cell_belowBy (cell_later hW HC5.out)
                have r0 := cell_belowBy (cell_later hW HD0.out)
                have r1 := cell_belowBy (cell_later hW HD1.out)
                have r2 := cell_belowBy (cell_later hW HD2.out)
                have r3 := cell_belowBy (cell_later hW HD3.out)
                have r4 := cell_belowBy (cell_later hW HD4.out)
                have r5 := cell_belowBy (cell_later hW HD5.out)
                have bz := lt_of_cell (cell_later hW HC0.out)
                simp only [List.take_succ_cons, List.take_zero]
                repeat (go_big_quiet_step (fail))
                exact wpQuiet_nil rfl
              simp only [List.drop_succ_cons, List.drop_zero]
              refine tailM_step (ι := Nat) (fun g => .slice (some ⟨g, 0, none⟩) 2 2) (fun g W => Below wa.heap.size wa W ∧ W.heap[g]? = some (.cells #[.string p.1, .string p.2] 9)) rfl (fun _ => (StableW.below _ _ (Nat.le_refl _)).and (StableW.row _ _)) (fun _ W h => hbwa.trans (h.1.mono hzwa)) (fun W hS K hK => ?_) (fun g1 => ?_)
              · go_simp
                exact hK W.heap.size _ ⟨hS.alloc hS.size _, row_new _ _⟩
              simp only [Act.put, List.setIfInBounds_toArray, List.set_cons_succ, List.set_cons_zero]
              refine tailM_pure (.slice (some ⟨g1, 0, none⟩) 2 2) rfl ((StableW.below _ _ (Nat.le_refl _)).and (StableW.row _ _)) (fun W h => hbwa.trans (h.1.mono hzwa)) (fun W hS K hK => ?_) (tailM_nil fun W hW => ?_)
              · go_simp
                exact hK
              obtain ⟨hW1, hWG⟩ := hW
              obtain ⟨wb, rfl⟩ : ∃ z : World, z = W := ⟨_, rfl⟩
              have hbwb := hbwa.trans (hW1.mono hzwa)
              have hzwb := hbwb.size
              have Hg1 := Lib.hid hWG
              have HBwb := Lib.hid hW1
              clear hWG hW1
              simp only [Act.put, List.setIfInBounds_toArray, List.set_cons_succ, List.set_cons_zero]
              go_wp2_with fail
              refine wp_region_mix 10 (fun W => Below w4.heap.size w4 W) (fun W => Below wb.heap.size wb W) mixed (by kernel_rfl) (by kernel_rfl) (by kernel_rfl) (StableW.below _ _ (Nat.le_refl _)) (fun W hW => hbwb.trans (hW.mono hzwb)) (Below.refl _ _).drew ?_
              apply Exists.intro
              refine ⟨fun W hW => ?_, ?_⟩
              · have q0 := cell_belowBy (cell_later hW HC0.out)
                have q1 := cell_belowBy (cell_later hW HC1.out)
                have q2 := cell_belowBy (cell_later hW HC2.out)
                have q3 := cell_belowBy (cell_later hW HC3.out)
                have q4 := cell_belowBy (cell_later hW HC4.out)
                have q5 := cell_belowBy (cell_later hW HC5.out)
                have r0 := cell_belowBy (cell_later hW HD0.out)
                have r1 := cell_belowBy (cell_later hW HD1.out)
                have r2 := cell_belowBy (cell_later hW HD2.out)
                have r3 := cell_belowBy (cell_later hW HD3.out)
                have r4 := cell_belowBy (cell_later hW HD4.out)
                have r5 := cell_belowBy (cell_later hW HD5.out)
                have bz := lt_of_cell (cell_later hW HC0.out)
                simp only [List.take_succ_cons, List.take_zero]
                repeat (go_big_quiet_step (fail))
                exact wpQuiet_nil rfl
              simp only [List.drop_succ_cons, List.drop_zero]
              refine tailM_step (ι := Nat) (fun g => .slice (some ⟨g, 0, none⟩) 2 2) (fun g W => Below wb.heap.size wb W ∧ W.heap[g]? = some (.cells #[.string q.1, .string q.2] 9)) rfl (fun _ => (StableW.below _ _ (Nat.le_refl _)).and (StableW.row _ _)) (fun _ W h => hbwb.trans (h.1.mono hzwb)) (fun W hS K hK => ?_) (fun g2 => ?_)
              · go_simp
                exact hK W.heap.size _ ⟨hS.alloc hS.size _, row_new _ _⟩
              simp only [Act.put, List.setIfInBounds_toArray, List.set_cons_succ, List.set_cons_zero]
              refine tailM_pure (.slice (some ⟨g2, 0, none⟩) 2 2) rfl ((StableW.below _ _ (Nat.le_refl _)).and (StableW.row _ _)) (fun W h => hbwb.trans (h.1.mono hzwb)) (fun W hS K hK => ?_) (tailM_nil fun W hW => ?_)
              · go_simp
                exact hK
              obtain ⟨hW1, hWG⟩ := hW
              obtain ⟨wd, rfl⟩ : ∃ z : World, z = W := ⟨_, rfl⟩
              have hbwd := hbwb.trans (hW1.mono hzwb)
              have hzwd := hbwd.size
              have Hg2 := Lib.hid hWG
              have HBwd := Lib.hid hW1
              clear hWG hW1
              simp only [Act.put, List.setIfInBounds_toArray, List.set_cons_succ, List.set_cons_zero]
              go_wp2_with fail
              refine wp_region_mix 10 (fun W => Below w4.heap.size w4 W) (fun W => Below wd.heap.size wd W) mixed (by kernel_rfl) (by kernel_rfl) (by kernel_rfl) (StableW.below _ _ (Nat.le_refl _)) (fun W hW => hbwd.trans (hW.mono hzwd)) (Below.refl _ _).drew ?_
              apply Exists.intro
              refine ⟨fun W hW => ?_, ?_⟩
              · have q0 := cell_belowBy (cell_later hW HC0.out)
                have q1 := cell_belowBy (cell_later hW HC1.out)
                have q2 := cell_belowBy (cell_later hW HC2.out)
                have q3 := cell_belowBy (cell_later hW HC3.out)
                have q4 := cell_belowBy (cell_later hW HC4.out)
                have q5 := cell_belowBy (cell_later hW HC5.out)
                have r0 := cell_belowBy (cell_later hW HD0.out)
                have r1 := cell_belowBy (cell_later hW HD1.out)
                have r2 := cell_belowBy (cell_later hW HD2.out)
                have r3 := cell_belowBy (cell_later hW HD3.out)
                have r4 := cell_belowBy (cell_later hW HD4.out)
                have r5 := cell_belowBy (cell_later hW HD5.out)
                have bz := lt_of_cell (cell_later hW HC0.out)
                simp only [List.take_succ_cons, List.take_zero]
                repeat (go_big_quiet_step (fail))
                exact wpQuiet_nil rfl
              simp only [List.drop_succ_cons, List.drop_zero]
              refine tailM_step (ι := Nat) (fun g => .slice (some ⟨g, 0, none⟩) 2 2) (fun g W => Below wd.heap.size wd W ∧ W.heap[g]? = some (.cells #[.int .i64 (segB l p).1.1, .int .i64 (segB l p).1.2, .int .i64 (segB l p).2.1, .int .i64 (segB l p).2.2] 37)) rfl (fun _ => (StableW.below _ _ (Nat.le_refl _)).and (StableW.row _ _)) (fun _ W h => hbwd.trans (h.1.mono hzwd)) (fun W hS K hK => ?_) (fun g3 => ?_)
              · go_simp
                exact hK W.heap.size _ ⟨hS.alloc hS.size _, row_new _ _⟩
              simp only [Act.put, List.setIfInBounds_toArray, List.set_cons_succ, List.set_cons_zero]
              refine tailM_pure (.slice (some ⟨g3, 0, none⟩) 2 2) rfl ((StableW.below _ _ (Nat.le_refl _)).and (StableW.row _ _)) (fun W h => hbwd.trans (h.1.mono hzwd)) (fun W hS K hK => ?_) (tailM_nil fun W hW => ?_)
              · go_simp
                exact hK
              obtain ⟨hW1, hWG⟩ := hW
              obtain ⟨wf, rfl⟩ : ∃ z : World, z = W := ⟨_, rfl⟩
              have hbwf := hbwd.trans (hW1.mono hzwd)
              have hzwf := hbwf.size
              have Hg3 := Lib.hid hWG
              have HBwf := Lib.hid hW1
              clear hWG hW1
              simp only [Act.put, List.setIfInBounds_toArray, List.set_cons_succ, List.set_cons_zero]
              go_wp2_with fail
              refine wp_region_mix 10 (fun W => Below w4.heap.size w4 W) (fun W => Below wf.heap.size wf W) mixed (by kernel_rfl) (by kernel_rfl) (by kernel_rfl) (StableW.below _ _ (Nat.le_refl _)) (fun W hW => hbwf.trans (hW.mono hzwf)) (Below.refl _ _).drew ?_
              apply Exists.intro
              refine ⟨fun W hW => ?_, ?_⟩
              · have q0 := cell_belowBy (cell_later hW HC0.out)
                have q1 := cell_belowBy (cell_later hW HC1.out)
                have q2 := cell_belowBy (cell_later hW HC2.out)
                have q3 := cell_belowBy (cell_later hW HC3.out)
                have q4 := cell_belowBy (cell_later hW HC4.out)
                have q5 := cell_belowBy (cell_later hW HC5.out)
                have r0 := cell_belowBy (cell_later hW HD0.out)
                have r1 := cell_belowBy (cell_later hW HD1.out)
                have r2 := cell_belowBy (cell_later hW HD2.out)
                have r3 := cell_belowBy (cell_later hW HD3.out)
                have r4 := cell_belowBy (cell_later hW HD4.out)
                have r5 := cell_belowBy (cell_later hW HD5.out)
                have bz := lt_of_cell (cell_later hW HC0.out)
                simp only [List.take_succ_cons, List.take_zero]
                repeat (go_big_quiet_step (fail))
                exact wpQuiet_nil rfl
              simp only [List.drop_succ_cons, List.drop_zero]
              refine tailM_step (ι := Nat) (fun g => .slice (some ⟨g, 0, none⟩) 2 2) (fun g W => Below wf.heap.size wf W ∧ W.heap[g]? = some (.cells #[.int .i64 (segB l q).1.1, .int .i64 (segB l q).1.2, .int .i64 (segB l q).2.1, .int .i64 (segB l q).2.2] 37)) rfl (fun _ => (StableW.below _ _ (Nat.le_refl _)).and (StableW.row _ _)) (fun _ W h => hbwf.trans (h.1.mono hzwf)) (fun W hS K hK => ?_) (fun g4 => ?_)
              · go_simp
                exact hK W.heap.size _ ⟨hS.alloc hS.size _, row_new _ _⟩
              simp only [Act.put, List.setIfInBounds_toArray, List.set_cons_succ, List.set_cons_zero]
              refine tailM_pure (.slice (some ⟨g4, 0, none⟩) 2 2) rfl ((StableW.below _ _ (Nat.le_refl _)).and (StableW.row _ _)) (fun W h => hbwf.trans (h.1.mono hzwf)) (fun W hS K hK => ?_) (tailM_nil fun W hW => ?_)
              · go_simp
                exact hK
              obtain ⟨hW1, hWG⟩ := hW
              obtain ⟨wg, rfl⟩ : ∃ z : World, z = W := ⟨_, rfl⟩
              have hbwg := hbwf.trans (hW1.mono hzwf)
              have hzwg := hbwg.size
              have Hg4 := Lib.hid hWG
              have HBwg := Lib.hid hW1
              clear hWG hW1
              simp only [Act.put, List.setIfInBounds_toArray, List.set_cons_succ, List.set_cons_zero]
              replace Hg1 := Lib.hid (row_later HBwg.out (row_later HBwf.out (row_later HBwd.out Hg1.out)))
              replace Hg2 := Lib.hid (row_later HBwg.out (row_later HBwf.out Hg2.out))
              replace Hg3 := Lib.hid (row_later HBwg.out Hg3.out)
              replace HCK3 := Lib.hid ((((HCK3.out.on HBwb.out).on HBwd.out).on HBwf.out).on HBwg.out)
              have HNX := Lib.hid (show allN l k ++ ownR l p k ++ nodeR l p m ++ nodeNs l p q 4 = allN l k ++ ownR l p k ++ nodeR l p (m + 1) by
                rw [show nodeR l p (m + 1) = nodeR l p m ++ nodeNs l p q 4 by unfold nodeR; rw [range_step, HAQ.out], ← List.append_assoc])
              generalize allN l k ++ ownR l p k ++ nodeR l p m = pre at HCK3 HNX
              clear HBwb HBwd HBwf HBwg
              go_wp2_with fail
              go_loopw [3, 14] (fun v3 v14 wr => ∃ x : Nat, v14 = .int .i64 x ∧ x ≤ 4 ∧ CkSt l w4 wr v3 (pre ++ nodeNs l p q x) ∧ Below wg.heap.size wg wr) (fun _ v14 _ => 4 - (intOf v14).toNat)
              case atStart => exact ⟨0, rfl, by omega, by simpa [nodeNs] using HCK3.out, Below.refl _ _⟩
              case round =>
                obtain ⟨x, rfl, hx4, hck, hbg⟩ := hrel
                have HCK4 := Lib.hid hck
                clear hck
                by_cases hlx : x < 4
                · obtain ⟨mx, hmx⟩ : ∃ z, z = x % 2 := ⟨_, rfl⟩
                  obtain ⟨dx, hdx⟩ : ∃ z, z = x / 2 := ⟨_, rfl⟩
                  have mx2 : mx < 2 := by omega
                  have dx2 : dx < 2 := by omega
                  have tm : (x : Int).tmod 2 = (mx : Int) := by rw [Int.tmod_eq_emod_of_nonneg (by omega)]; omega
                  have td : (x : Int).tdiv 2 = (dx : Int) := by rw [Int.tdiv_eq_ediv_of_nonneg (by omega)]; omega
                  have mi0 : (0 : Int) ≤ (mx : Int) := by omega
                  have mi1 : (mx : Int) < 2 := by omega
                  have di0 : (0 : Int) ≤ (dx : Int) := by omega
                  have di1 : (dx : Int) < 2 := by omega
                  have xi1 : (x : Int) < 4 := by omega
                  obtain ⟨ea, hea⟩ : ∃ z, z = endA p x := ⟨_, rfl⟩
                  obtain ⟨eb, heb⟩ : ∃ z, z = endB q x := ⟨_, rfl⟩
                  have HEA := Lib.hid (show ea ∈ l.map (·.id) by rw [hea]; unfold endA; split; exact HPI.out.1; exact HPI.out.2)
                  have HEB := Lib.hid (show eb ∈ l.map (·.id) by rw [heb]; unfold endB; split; exact HQI.out.1; exact HQI.out.2)
                  have CA := Lib.hid (show wg.cell? ⟨g1, mx, none⟩ = some (.string ea) by
                    rw [two_cell Hg1.out mx2, hea]; unfold endA; rw [← hmx]; split <;> rfl)
                  have CB := Lib.hid (show wg.cell? ⟨g2, dx, none⟩ = some (.string eb) by
                    rw [two_cell Hg2.out dx2, heb]; unfold endB; rw [← hdx]; split <;> rfl)
                  have CC0 := Lib.hid (show wg.cell? ⟨g3, mx * 2, none⟩ = some (.int .i64 (ptO l ea).1) by
                    rw [(four_cell Hg3.out mx2).1, hea]; unfold endA; rw [← hmx]; split <;> rfl)
                  have CC1 := Lib.hid (show wg.cell? ⟨g3, mx * 2 + 1, none⟩ = some (.int .i64 (ptO l ea).2) by
                    rw [(four_cell Hg3.out mx2).2, hea]; unfold endA; rw [← hmx]; split <;> rfl)
                  have CD0 := Lib.hid (show wg.cell? ⟨g4, dx * 2, none⟩ = some (.int .i64 (ptO l eb).1) by
                    rw [(four_cell Hg4.out dx2).1, heb]; unfold endB; rw [← hdx]; split <;> rfl)
                  have CD1 := Lib.hid (show wg.cell? ⟨g4, dx * 2 + 1, none⟩ = some (.int .i64 (ptO l eb).2) by
                    rw [(four_cell Hg4.out dx2).2, heb]; unfold endB; rw [← hdx]; split <;> rfl)
                  have HNT := Lib.hid (show nodeNs l p q (x + 1) = nodeNs l p q x ++ (if ea ≠ eb ∧ ptO l ea = ptO l eb then [key2 ea eb] else []) by
                    rw [hea, heb]; exact range_step _ _)
                  generalize ptO l ea = pta at CC0 CC1 HNT
                  generalize ptO l eb = ptb at CD0 CD1 HNT
                  have HLX := Lib.hid hlx
                  clear hmx hdx hea heb
                  go_upto_region 26 with fail
                  obtain ⟨wh, rfl⟩ : ∃ z : World, z = wr := ⟨_, rfl⟩
                  go_cut [155] from 132 to 156 (fun v155 wx => v155 = .bool (decide (ea ≠ eb ∧ pta = ptb)) ∧ Below wh.heap.size wh wx)
                  case first =>
                    have q0 := cell_belowBy (cell_later hbg CA.out)
                    have q1 := cell_belowBy (cell_later hbg CB.out)
                    have q2 := cell_belowBy (cell_later hbg CC0.out)
                    have q3 := cell_belowBy (cell_later hbg CC1.out)
                    have q4 := cell_belowBy (cell_later hbg CD0.out)
                    have q5 := cell_belowBy (cell_later hbg CD1.out)
                    have z0 := lt_of_cell (cell_later hbg CA.out)
                    have z1 := lt_of_cell (cell_later hbg CB.out)
                    have z2 := lt_of_cell (cell_later hbg CC0.out)
                    have z3 := lt_of_cell (cell_later hbg CD0.out)
                    have nq := eql_point pta ptb
                    by_cases e : ea = eb
                    · have HD := Lib.hid (show decide (ea ≠ eb ∧ pta = ptb) = false from decide_eq_false fun h => h.1 e)
                      subst e
                      go_wp2_with fail
                      refine wp_region_quiet_below mixed (by kernel_rfl) ?_
                      repeat (go_big_quiet_step (fail))
                      refine wpQuiet_nil ?_
                      intro w8 hw'
                      obtain ⟨⟨wq, hbq⟩, hw''⟩ := hw'
                      subst hw''
                      clear q0 q1 q2 q3 q4 q5
                      go_wp2
                      go_meet
                      case rel => exact ⟨by rw [HD.out] <;> rfl, hbq⟩
                    · have n1 := toList_ne e
                      by_cases e2 : pta = ptb
                      · have HD := Lib.hid (show decide (ea ≠ eb ∧ pta = ptb) = true from decide_eq_true ⟨e, e2⟩)
                        rw [decide_eq_true e2] at nq
                        clear e2
                        go_wp2_with fail
                        refine wp_region_quiet_below mixed (by kernel_rfl) ?_
                        repeat (go_big_quiet_step (fail))
                        refine wpQuiet_nil ?_
                        intro w8 hw'
                        obtain ⟨⟨wq, hbq⟩, hw''⟩ := hw'
                        subst hw''
                        clear q0 q1 q2 q3 q4 q5
                        go_wp2
                        go_meet
                        case rel => exact ⟨by rw [HD.out] <;> rfl, hbq⟩
                      · have HD := Lib.hid (show decide (ea ≠ eb ∧ pta = ptb) = false from decide_eq_false fun h => e2 h.2)
                        rw [decide_eq_false e2] at nq
                        clear e2
                        go_wp2_with fail
                        refine wp_region_quiet_below mixed (by kernel_rfl) ?_
                        repeat (go_big_quiet_step (fail))
                        refine wpQuiet_nil ?_
                        intro w8 hw'
                        obtain ⟨⟨wq, hbq⟩, hw''⟩ := hw'
                        subst hw''
                        clear q0 q1 q2 q3 q4 q5
                        go_wp2
                        go_meet
                        case rel => exact ⟨by rw [HD.out] <;> rfl, hbq⟩
                  case rest =>
                    obtain ⟨rfl, hbc⟩ := hcut
                    obtain ⟨wi, rfl⟩ : ∃ z : World, z = wc := ⟨_, rfl⟩
                    have HCKi := Lib.hid (HCK4.out.on hbc)
                    have hbi := hbg.trans (hbc.mono hbg.size)
                    clear hbc
                    cases hdd : decide (ea ≠ eb ∧ pta = ptb) with
                    | false =>
                      have HRN := Lib.hid (show CkSt l w4 wi u3 (pre ++ nodeNs l p q (x + 1)) by
                        rw [HNT.out, if_neg (of_decide_eq_false hdd), List.append_nil]; exact HCKi.out)
                      clear hdd
                      have hlx := HLX.out
                      go_wp2
                      go_roundw
                      case rel => exact ⟨x + 1, by go_num, by omega, HRN.out, hbi⟩
                      case measure => simp [intOf]; omega
                    | true =>
                      have HPRE := Lib.hid (show pre ++ nodeNs l p q x ++ [key2 ea eb] = pre ++ nodeNs l p q (x + 1) by
                        rw [HNT.out, if_pos (of_decide_eq_true hdd), List.append_assoc])
                      generalize pre ++ nodeNs l p q x = prx at HCKi HPRE
                      clear hdd
                      go_wp2_with fail
                      refine wp_region_mix 11 (fun W => Below wg.heap.size wg W) (fun W => CkSt l w4 W u3 prx ∧ Below wg.heap.size wg W) mixed (by kernel_rfl) (by kernel_rfl) (by kernel_rfl) ((CkSt.stable _ _ _ _).and (StableW.below _ _ (Nat.le_refl _))) (fun W hW => hW.2) ⟨HCKi.out.on (Below.refl _ _).drew, hbi.drew⟩ ?_
                      apply Exists.intro
                      refine ⟨fun W hW => ?_, ?_⟩
                      · have q0 := cell_belowBy (cell_later hW CA.out)
                        have q1 := cell_belowBy (cell_later hW CB.out)
                        have z0 := lt_of_cell (cell_later hW CA.out)
                        have z1 := lt_of_cell (cell_later hW CB.out)
                        simp only [List.take_succ_cons, List.take_zero]
                        repeat (go_big_quiet_step (fail))
                        exact wpQuiet_nil rfl
                      · simp only [List.drop_succ_cons, List.drop_zero]
                        refine tailM_step (ι := Nat × Nat) (fun g => .agg #[.string ⟨#[]⟩, .int .i64 2, .slice (some ⟨g.1, 0, none⟩) g.2 g.2]) (fun g W => (CkSt l w4 W u3 prx ∧ Below wg.heap.size wg W) ∧ StrRow W (.slice (some ⟨g.1, 0, none⟩) g.2 g.2) (idsK (key2 ea eb))) rfl (fun _ => ((CkSt.stable _ _ _ _).and (StableW.below _ _ (Nat.le_refl _))).and (StableW.str _ _)) (fun _ _ h => h.1.2) (fun W hS K hK => ?_) (fun g => ?_)
                        · go_simp
                          refine (rcross13_any ea eb W (ids_size HZO.out HEA.out) (ids_size HZO.out HEB.out)).mono ?_
                          rintro e w6 ⟨g, n, rfl, hst, hb⟩
                          exact hK (g, n) w6 ⟨⟨hS.1.on hb, hS.2.trans (hb.mono hS.2.size)⟩, hst⟩
                        simp only [Act.put, List.setIfInBounds_toArray, List.set_cons_succ, List.set_cons_zero]
                        refine tailM_step (ι := Value) (fun v => v) (fun v' W => CkSt l w4 W v' (prx ++ [key2 ea eb]) ∧ Below wg.heap.size wg W) rfl (fun _ => (CkSt.stable _ _ _ _).and (StableW.below _ _ (Nat.le_refl _))) (fun _ _ h => h.2) (fun W hS K hK => ?_) (fun v' => ?_)
                        · go_simp
                          refine (ckst_add HL.out hS.1.1 HEA.out HEB.out hS.2).mono ?_
                          rintro e w6 ⟨v6, rfl, hck6, hb⟩
                          exact hK v6 w6 ⟨hck6, hS.1.2.trans (hb.mono hS.1.2.size)⟩
                        simp only [Act.put, List.setIfInBounds_toArray, List.set_cons_succ, List.set_cons_zero]
                        refine tailM_pure v' rfl ((CkSt.stable _ _ _ _).and (StableW.below _ _ (Nat.le_refl _))) (fun _ h => h.2) (fun W hS K hK => ?_) (tailM_nil fun W hW => ?_)
                        · go_simp
                          exact hK
                        rw [HPRE.out] at hW
                        have HW := Lib.hid hW
                        clear hW
                        simp only [Act.put, List.setIfInBounds_toArray, List.set_cons_succ, List.set_cons_zero]
                        have hlx := HLX.out
                        go_wp2
                        go_roundw
                        case rel => exact ⟨x + 1, by go_num, by omega, HW.out.1, HW.out.2⟩
                        case measure => simp [intOf]; omega
                · obtain rfl : x = 4 := by omega
                  have HRN := Lib.hid (show CkSt l w4 wr u3 (allN l k ++ ownR l p k ++ nodeR l p (m + 1)) by
                    have h := HCK4.out
                    rw [HNX.out] at h; exact h)
                  have hlm := HLM.out
                  go_wp2
                  go_roundw
                  case rel => exact ⟨m + 1, by go_num, by omega, HRN.out⟩
                  case measure => simp [intOf]; omega
            · obtain rfl : m = k + 1 := by omega
              have hm3 : ¬ ((k + 1 : Nat) : Int) ≤ (k : Int) := by omega
              have hm4 : decide (((k + 1 : Nat) : Int) ≤ (k : Int)) = false := decide_eq_false hm3
              have HRN := Lib.hid (show CkSt l w4 wr u3 (allN l (k + 1)) by
                have h := HCK3.out
                rw [show allN l (k + 1) = allN l k ++ roundN l k from range_step _ _]
                unfold roundN
                rw [HAT.out, ← List.append_assoc]; exact h)
              go_wp2
              go_roundw
              case rel => exact ⟨k + 1, by go_num, by omega, HRN.out⟩
              case measure => simp [intOf]; omega
    · obtain rfl : i = N := by omega
      have HF := Lib.hid (show ViosAt wr u3 (checkP l) by
        have h := HCK.out.1.vios
        rw [← HN.out, allN_check] at h
        exact h)
      go_wp2
      go_ret
      exact ⟨_, rfl, HF.out, B5⟩
end Go.Proofs.YtbkomdinchiffaaGreat

namespace Go.Proofs.YtbkomdinchiffaaGreat
open Go.RowKit Go.Sort

theorem from_sub : ∀ {M l : List ObjD}, M.Sublist l → ∀ last, objsFrom last l = true → objsFrom last M = true
  | _, _, .slnil, _, _ => rfl
  | _, _, .cons o h, last, hl => by
    simp only [objsFrom, Bool.and_eq_true] at hl
    exact objsFrom_weak hl.1.2 (from_sub h _ hl.2)
  | _, _, .cons_cons o h, last, hl => by
    simp only [objsFrom, Bool.and_eq_true] at hl ⊢
    exact ⟨hl.1, from_sub h _ hl.2⟩
theorem ok_sub {M l : List ObjD} (h : M.Sublist l) (hl : mapOK l = true) : mapOK M = true := by
  simp only [mapOK, Bool.and_eq_true, decide_eq_true_eq] at hl ⊢
  exact ⟨Nat.le_trans h.length_le hl.1, from_sub h _ hl.2⟩
theorem keys_lenR {l : List ObjD} (c : Nat) (h : ∀ o ∈ l, o.refs.length ≤ c) : (keysP l).length ≤ c * l.length := by
  have hi : ∀ (k : KeyD) (l : List KeyD), (insK k l).length ≤ l.length + 1 := by
    intro k l
    induction l with
    | nil => simp [insK]
    | cons x l ih => rw [insK]; split; · simp; omega
                     split <;> simp
  have h1 : ∀ (ks acc : List KeyD), (ks.foldl (fun acc k => insK k acc) acc).length ≤ acc.length + ks.length := by
    intro ks
    induction ks with
    | nil => intro acc; simp
    | cons k ks ih =>
      intro acc
      rw [List.foldl_cons]
      have := ih (insK k acc)
      have := hi k acc
      simp; omega
  have h2 : ∀ os : List ObjD, (∀ o ∈ os, o.refs.length ≤ c) → (os.flatMap sidesP).length ≤ c * os.length := by
    intro os
    induction os with
    | nil => intro _; simp
    | cons o os ih =>
      intro hr
      rw [List.flatMap_cons, List.length_append]
      have := ih fun x hx => hr x (List.mem_cons_of_mem _ hx)
      have h3 := hr o (List.mem_cons_self ..)
      have : (sidesP o).length ≤ c := by unfold sidesP sideN; rw [List.length_map, List.length_range]; split <;> omega
      rw [List.length_cons, Nat.mul_succ]; omega
  have h3 := h1 ((l.filter (isB l)).flatMap sidesP) []
  have h4 := h2 (l.filter (isB l)) fun o ho => h o (List.mem_filter.1 ho).1
  have h5 := Nat.mul_le_mul (Nat.le_refl c) (List.length_filter_le (isB l) l)
  unfold keysP setK
  simp only [List.length_nil, Nat.zero_add] at h3
  omega
/-- A list without some of its ways and areas. -/
def LessOf (l M : List ObjD) : Prop := M.Sublist l ∧ ∀ o ∈ l, o.kind ≠ 2 → o.kind ≠ 3 → o ∈ M
theorem LessOf.nil : LessOf [] [] := ⟨List.Sublist.refl _, fun o ho => by cases ho⟩
theorem LessOf.keep {l M : List ObjD} {k : Nat} {o : ObjD} (h : LessOf (l.take k) M) (ho : l[k]? = some o) : LessOf (l.take (k + 1)) (M ++ [o]) := by
  obtain ⟨hk, rfl⟩ := List.getElem?_eq_some_iff.1 ho
  rw [List.take_succ_eq_append_getElem hk]
  refine ⟨h.1.append (List.Sublist.refl _), fun o ho h2 h3 => ?_⟩
  rcases List.mem_append.1 ho with ho | ho
  · exact List.mem_append_left _ (h.2 o ho h2 h3)
  · exact List.mem_append_right _ ho
theorem LessOf.drop {l M : List ObjD} {k : Nat} {o : ObjD} (h : LessOf (l.take k) M) (ho : l[k]? = some o) (hk : o.kind = 2 ∨ o.kind = 3) : LessOf (l.take (k + 1)) M := by
  obtain ⟨hk', rfl⟩ := List.getElem?_eq_some_iff.1 ho
  rw [List.take_succ_eq_append_getElem hk']
  refine ⟨h.1.trans (List.sublist_append_left _ _), fun o ho h2 h3 => ?_⟩
  rcases List.mem_append.1 ho with ho | ho
  · exact h.2 o ho h2 h3
  · rw [List.mem_singleton.1 ho] at h2 h3
    rcases hk with hk | hk
    · exact absurd hk h2
    · exact absurd hk h3
theorem LessOf.sub {l M : List ObjD} (h : LessOf l M) (hl : mapOK l = true) : SubM M l := by
  have hM := ok_sub h.1 hl
  refine ⟨hM, hl, fun o ho => ⟨o, h.1.subset ho, SameT.refl o⟩, fun o _ _ r _ => ?_⟩
  refine Option.ext fun q => ?_
  rw [nodeAt_iff hM, nodeAt_iff hl]
  constructor
  · rintro ⟨x, hx, h'⟩; exact ⟨x, h.1.subset hx, h'⟩
  · rintro ⟨x, hx, e, hk, hq⟩
    exact ⟨x, h.2 x hx (by omega) (by omega), e, hk, hq⟩

theorem check_len {l : List ObjD} (hl : l.length ≤ 1000) : (checkP l).length ≤ 1000000 := by
  have hp : ∀ (A B : List ByteArray), (A.flatMap fun a => B.map fun b => (a, b)).length = A.length * B.length := by
    intro A B
    induction A with
    | nil => simp
    | cons a A ih => rw [List.flatMap_cons, List.length_append, ih, List.length_map, List.length_cons, Nat.succ_mul, Nat.add_comm]
  have hid : ∀ x : ByteArray, (nodeAt l x).isSome = true → x ∈ l.map (·.id) := fun x hx => node_id hx
  have := nodup_le (checkP_sort l).nodup (M := (l.map (·.id)).flatMap fun a => (l.map (·.id)).map fun b => (a, b)) fun key hk => by
    have hk := checkP_mem.1 hk
    have : key.1 ∈ l.map (·.id) ∧ key.2 ∈ l.map (·.id) := by
      rcases bad_mem.1 hk with ⟨a, ha, b, hb, _, _, e⟩ | ⟨p, hp, q, hq, _, _, x, hx, y, hy, e⟩
      · have h1 := hid a (node_at ha)
        have h2 := hid b (node_at hb)
        rw [e]
        rcases key2_or a b with e | e <;> rw [e]
        · exact ⟨h1, h2⟩
        · exact ⟨h2, h1⟩
      · rw [(borders_mem.1 hp).2] at hx
        rw [(borders_mem.1 hq).2] at hy
        have h1 := own_ids hx
        have h2 := own_ids hy
        rw [e]
        rcases key2_or x y with e | e <;> rw [e]
        · exact ⟨h1, h2⟩
        · exact ⟨h2, h1⟩
    exact List.mem_flatMap.2 ⟨_, this.1, List.mem_map.2 ⟨_, this.2, rfl⟩⟩
  rw [hp, List.length_map] at this
  have h2 := Nat.mul_le_mul hl hl
  omega
set_option maxRecDepth 100000 in
set_option maxHeartbeats 4000000 in
theorem fewer_law (v : Value) (l : List ObjD) (bits : Int) (w : World) (hv : ObjsIs w v l) :
    Calls Tryz.prog 7 #[.agg #[v], .int .u32 bits] w fun e w' => e = .returned (.bool true) ∧ Below w.heap.size w w' := by
  have mixed : Tryz.prog.follows .mixedOrders = true := by kernel_rfl
  have HV := Lib.hid hv
  obtain ⟨L, hL, hLm, hLo⟩ := objs_row hv
  obtain ⟨i0, hi, hi0, hi1, hi2⟩ := info_parts infoOb
  have HLO := Lib.hid hLo
  have HLM := Lib.hid hLm
  obtain ⟨a, cap, rfl, hc⟩ := hL
  have HC := Lib.hid hc
  obtain ⟨N, hN⟩ : ∃ N, L.length = N := ⟨_, rfl⟩
  rw [hN] at HC HV ⊢
  have HN := Lib.hid hN
  clear hv hLo hLm hc hN
  go_enter Tryz.func7, Tryz.ntmps7
  go_wp2_with fail
  have BX : Below w.heap.size w (w.alloc (.cells #[.slice a N cap] 24)) := (by repeat' (first | exact Below.refl _ _ | refine Below.drew ?_ | refine Below.drewN' ?_ | refine Below.setCell ?_ (by first | omega | (simp; done) | exact Below.size (by assumption) | (simp; omega)) _ | refine Below.alloc ?_ (by first | omega | (simp; done) | exact Below.size (by assumption) | (simp; omega)) _ | refine Below.trans ?_ (Below.mono (by assumption) ?_) | (first | omega | (simp; done) | exact Below.size (by assumption) | (simp; omega))))
  have HX := row_new w (.cells #[.slice a N cap] 24)
  generalize hw1 : w.alloc (.cells #[.slice a N cap] 24) = w1
  rw [hw1] at BX HX
  have HX1 := Lib.hid HX
  have hz1 : w.heap.size < w1.heap.size := lt_of_block HX
  clear hw1 HX
  refine (head_any _).mono ?_
  rintro e w2 ⟨rfl, hb⟩
  have B2 := below_step BX (Nat.le_refl _) hb
  replace HX1 := Lib.hid (row_later hb HX1.out)
  have hz2 := hb.size
  clear hb BX
  have pz := lt_of_block HX1.out
  have p0 := cell_of_row w2 _ 0 _ _ _ HX1.out
  simp only [List.getElem?_toArray, List.getElem?_cons_zero] at p0
  go_wp2_with fail
  clear p0 pz
  refine (few13_any _ l 24 (by omega) _ (HV.out.later B2)).mono ?_
  rintro e w3 ⟨⟨r, rfl, hr⟩, hb⟩
  have B3 := below_step B2 (Nat.le_refl _) hb
  replace HX1 := Lib.hid (row_later hb HX1.out)
  have hz3 := hb.size
  clear hb B2
  cases r with
  | false =>
    go_wp2
    go_ret
    exact ⟨rfl, B3⟩
  | true =>
    obtain ⟨hl24, hr12⟩ := hr rfl
    have HR12 := Lib.hid hr12
    clear hr12
    clear hr
    have pz := lt_of_block HX1.out
    have p0 := cell_of_row w3 _ 0 _ _ _ HX1.out
    simp only [List.getElem?_toArray, List.getElem?_cons_zero] at p0
    go_wp2_with fail
    clear p0 pz
    refine (validM_any _ l _ (HV.out.later B3)).mono ?_
    rintro e w4 ⟨rfl, hb⟩
    have B4 := below_step B3 (Nat.le_refl _) hb
    replace HX1 := Lib.hid (row_later hb HX1.out)
    have hz4 := hb.size
    clear hb B3
    cases hok : mapOK l with
    | false =>
      go_wp2
      go_ret
      exact ⟨rfl, B4⟩
    | true =>
      have HOK := Lib.hid hok
      clear hok
      have BY : Below w4.heap.size w4 (w4.alloc (.cells #[.slice none 0 0] 24)) := (by repeat' (first | exact Below.refl _ _ | refine Below.drew ?_ | refine Below.drewN' ?_ | refine Below.setCell ?_ (by first | omega | (simp; done) | exact Below.size (by assumption) | (simp; omega)) _ | refine Below.alloc ?_ (by first | omega | (simp; done) | exact Below.size (by assumption) | (simp; omega)) _ | refine Below.trans ?_ (Below.mono (by assumption) ?_) | (first | omega | (simp; done) | exact Below.size (by assumption) | (simp; omega))))
      have HY := row_new w4 (.cells #[.slice none 0 0] 24)
      go_wp2_with fail
      generalize hw5 : w4.alloc (.cells #[.slice none 0 0] 24) = w5
      rw [hw5] at BY HY
      have hz5 : w4.heap.size < w5.heap.size := lt_of_block HY
      obtain ⟨B6, hB6⟩ : ∃ z, z = w4.heap.size := ⟨_, rfl⟩
      rw [← hB6] at HY hz5 ⊢
      have B5 := below_step B4 (Nat.le_refl _) BY
      replace HX1 := Lib.hid (row_later BY HX1.out)
      have HY5 := Lib.hid HY
      have z6 : w1.heap.size ≤ B6 := by omega
      have hN24 : N ≤ 24 := by rw [← HN.out, ← List.length_map (f := fun x : ObM => x.1), HLM.out]; exact hl24
      clear hw5 BY HY B4 hB6 hz2 hz3 hz4
      go_loopw [7] (fun i wr => ∃ (k : Nat) (v : Value) (M : List ObM), i = .int .i64 k ∧ k ≤ N ∧ wr.heap[B6]? = some (.cells #[v] 24) ∧ wr.ownsRow w5.heap.size 59 6 v M.length (M.flatMap encOb) ∧ (∀ x ∈ M, ObOK w x) ∧ LessOf (l.take k) (M.map (·.1)) ∧ Below B6 w5 wr) (fun i _ => N - (intOf i).toNat)
      case atStart => exact ⟨0, _, [], rfl, by omega, HY5.out, World.ownsRow_nil _ _ _ _, (fun x hx => by cases hx), LessOf.nil, Below.refl _ _⟩
      case round =>
        obtain ⟨k, v, M, rfl, hk, hc6, hown, hmo, hls, hbr⟩ := hrel
        have HC6 := Lib.hid hc6
        have HOWN := Lib.hid hown
        have HMO := Lib.hid hmo
        have HLS := Lib.hid hls
        have BR := B5.trans (hbr.mono (by omega))
        have hzr := hbr.size
        have HXr := Lib.hid ((hbr.block _ (by omega)).trans HX1.out)
        obtain ⟨av, cv, hav⟩ := own_form hown
        subst hav
        have hml : M.length ≤ 24 := by
          have h1 := hls.1.length_le
          rw [List.length_map, List.length_take] at h1
          omega
        clear hc6 hown hmo hls
        by_cases hlt : k < N
        · obtain ⟨x, hx⟩ : ∃ x, L[k]? = some x := ⟨L[k]'(by rw [HN.out]; exact hlt), List.getElem?_eq_getElem _⟩
          obtain ⟨b, off, ha, hcell⟩ := HC.out (by omega)
          subst ha
          have hcl := fun i u hu => cell_later BR (hcell k x hx i u hu)
          have d0' := hcl 0 _ rfl
          have d0 : wr.cell? ⟨b, off + k * 6, none⟩ = some (.string x.1.id) := d0'
          have d1 := hcl 1 _ rfl
          have d2 := hcl 2 _ rfl
          have d3 := hcl 3 _ rfl
          have d4 := hcl 4 _ rfl
          have d5 := hcl 5 _ rfl
          have bz := lt_of_cell d0
          have hox := HLO.out x (List.mem_of_getElem? hx)
          have hlk : l[k]? = some x.1 := by rw [← HLM.out, List.getElem?_map, hx]; rfl
          have HKP := Lib.hid (show LessOf (l.take (k + 1)) ((M ++ [x]).map (·.1)) by rw [List.map_append]; exact HLS.out.keep hlk)
          have HDP := Lib.hid (fun h => HLS.out.drop hlk h)
          have HMX := Lib.hid (show ∀ y ∈ M ++ [x], ObOK w y from fun y hy => by
            rcases List.mem_append.1 hy with hy | hy
            · exact HMO.out y hy
            · rw [List.mem_singleton.1 hy]; exact hox)
          have HONE := Lib.hid hox.one
          obtain ⟨⟨ar, cr, er, _⟩, ⟨at', ct, et, _⟩, _⟩ := hox
          obtain ⟨⟨id, kd, ox, oy, refs, tags⟩, vr, vt⟩ := x
          simp only [] at er et
          subst er et
          simp only [] at d0 d1 d2 d3 d4 d5 HDP
          have pz := lt_of_block HXr.out
          have p0 := cell_of_row wr _ 0 _ _ _ HXr.out
          simp only [List.getElem?_toArray, List.getElem?_cons_zero] at p0
          clear hcell hcl d0' hx hlk
          go_upto_region 9 with fail
          clear p0 pz
          have BO := (Below.refl wr.heap.size wr).alloc (Nat.le_refl _) (.cells #[.string id, .int .i64 kd, .int .i64 ox, .int .i64 oy, .slice ar refs.length cr, .slice at' tags.length ct] 59)
          have HO := row_new wr (.cells #[.string id, .int .i64 kd, .int .i64 ox, .int .i64 oy, .slice ar refs.length cr, .slice at' tags.length ct] 59)
          generalize hw7 : wr.alloc (.cells #[.string id, .int .i64 kd, .int .i64 ox, .int .i64 oy, .slice ar refs.length cr, .slice at' tags.length ct] 59) = w7
          rw [hw7] at BO HO
          obtain ⟨Bo, hBo⟩ : ∃ z, z = wr.heap.size := ⟨_, rfl⟩
          rw [← hBo] at HO ⊢
          have HO7 := Lib.hid HO
          have HC7 := Lib.hid (row_later BO HC6.out)
          have O7 := Lib.hid (own_later HOWN.out BO)
          have BR7 := Lib.hid (hbr.trans (BO.mono (by omega)))
          have zo := lt_of_block HO
          have z67 : B6 < w5.heap.size := by omega
          have HBo := Lib.hid hBo
          clear hw7 BO HO d0 d1 d2 d3 d4 d5 bz hBo
          go_cut [50] from 35 to 51 (fun v50 wx => ∃ d : Bool, v50 = .bool d ∧ (d = false → kd = 2 ∨ kd = 3) ∧ wx = w7)
          case first =>
            have qz := lt_of_block HO7.out
            have q0 := cell_of_row w7 _ 0 _ _ _ HO7.out
            have q1 := cell_of_row w7 _ 1 _ _ _ HO7.out
            have q2 := cell_of_row w7 _ 2 _ _ _ HO7.out
            have q3 := cell_of_row w7 _ 3 _ _ _ HO7.out
            have q4 := cell_of_row w7 _ 4 _ _ _ HO7.out
            have q5 := cell_of_row w7 _ 5 _ _ _ HO7.out
            simp only [List.getElem?_toArray, List.getElem?_cons_zero, List.getElem?_cons_succ] at q0 q1 q2 q3 q4 q5
            by_cases k2 : kd = 2
            · subst k2
              go_wp2
              all_goals (
                go_meet
                case rel => exact ⟨_, rfl, by simp⟩)
            · have k2' : (kd == 2) = false := beq_false_of_ne k2
              by_cases k3 : kd = 3
              · subst k3
                go_wp2
                all_goals (
                  go_meet
                  case rel => exact ⟨_, rfl, by simp⟩)
              · have k3' : (kd == 3) = false := beq_false_of_ne k3
                go_wp2
                all_goals (
                  go_meet
                  case rel => exact ⟨true, rfl, by simp⟩)
          case rest =>
            obtain ⟨d, rfl, hd, hw⟩ := hcut
            rw [hw]
            clear hw
            cases d with
            | false =>
              have HL := Lib.hid (HDP.out (hd rfl))
              go_wp2
              go_roundw
              case rel => exact ⟨k + 1, _, M, by go_num, by omega, HC7.out, O7.out, HMO.out, HL.out, BR7.out⟩
              case measure => simp [intOf]; omega
            | true =>
              have qz := lt_of_block HO7.out
              have q0 := cell_of_row w7 _ 0 _ _ _ HO7.out
              have q1 := cell_of_row w7 _ 1 _ _ _ HO7.out
              have q2 := cell_of_row w7 _ 2 _ _ _ HO7.out
              have q3 := cell_of_row w7 _ 3 _ _ _ HO7.out
              have q4 := cell_of_row w7 _ 4 _ _ _ HO7.out
              have q5 := cell_of_row w7 _ 5 _ _ _ HO7.out
              simp only [List.getElem?_toArray, List.getElem?_cons_zero, List.getElem?_cons_succ] at q0 q1 q2 q3 q4 q5
              have pz := lt_of_block HC7.out
              have p0 := cell_of_row w7 _ 0 _ _ _ HC7.out
              have pf0 := frozen_of_row w7 _ 0 _ _ HC7.out
              simp only [List.getElem?_toArray, List.getElem?_cons_zero] at p0
              have hb7 := BR7.out.size
              have BA := (Below.refl w7.heap.size w7).alloc (Nat.le_refl _) (.cells #[.string id, .int .i64 kd, .int .i64 ox, .int .i64 oy, .slice ar refs.length cr, .slice at' tags.length ct] 59)
              have NE := Lib.hid (show some B6 ≠ (Value.slice av M.length cv).ownBlock from fun c => by
                have := (O7.out.lt B6 c.symm).1
                omega)
              go_wp2_with (at_builtin; refine wpList_append_own _ rfl _ _ 22 rfl w5.heap.size 59 i0 (.agg #[.string ⟨#[]⟩, .int .i64 0, .int .i64 0, .int .i64 0, .slice none 0 0, .slice none 0 0]) 6 88 Tryz.underlying22 hi hi0 hi1 hi2 rfl (by decide) _ _ _ rfl (O7.out.alloc _) ⟨w7.heap.size, 0, none⟩ 1 1 [.string id, .int .i64 kd, .int .i64 ox, .int .i64 oy, .slice ar refs.length cr, .slice at' tags.length ct] rfl rfl (cells_row (row_new _ _)) HONE.out (by unfold maxLen; omega) (by omega) (by simp; omega) ?_; intro v' w9 hown9 hgrow9 _; obtain ⟨av9, cv9, hav9⟩ := own_form hown9; subst hav9; have HC9 := Lib.hid (row_grown hgrow9 (row_later BA HC7.out) NE.out); have HG9 := Lib.hid hgrow9; have O9 := Lib.hid hown9; clear hown9 hgrow9; have r0 := cell_of_row w9 _ 0 _ _ _ HC9.out; have rf0 := frozen_of_row w9 _ 0 _ _ HC9.out; have rz := lt_of_block HC9.out; simp only [List.getElem?_toArray, List.getElem?_cons_zero] at r0)
              have hgs : w9.grownBy (w9.setCell ⟨B6, 0, none⟩ (.slice av9 (M.length + 1) cv9)) (some B6) := setCells_grown (g := B6) [.slice av9 (M.length + 1) cv9] 0 w9
              have HCN := Lib.hid (heap_setCell_same w9 B6 0 _ _ (.slice av9 (M.length + 1) cv9) HC9.out)
              have ON := Lib.hid (O9.out.kept hgs (Or.inr (fun c => by have := (O9.out.lt B6 c).1; omega)))
              have B79 := (BR7.out.alloc (Nat.le_trans (Nat.le_of_lt z67) hb7) (.cells #[.string id, .int .i64 kd, .int .i64 ox, .int .i64 oy, .slice ar refs.length cr, .slice at' tags.length ct] 59)).grown HG9.out (Nat.le_trans (Nat.le_trans (Nat.le_of_lt z67) hb7) BA.size) (fun j hj => by have := (O7.out.lt j hj).1; omega)
              have BN := Lib.hid (B79.grown hgs (Nat.le_trans (Nat.le_of_lt z67) B79.size) (fun j hj => by injection hj with hj; omega))
              clear hgs r0 rf0 rz
              clear q0 q1 q2 q3 q4 q5 qz
              clear p0 pz pf0
              go_roundw
              case rel => exact ⟨k + 1, _, M ++ [(⟨id, kd, ox, oy, refs, tags⟩, .slice ar refs.length cr, .slice at' tags.length ct)], by go_num, by omega, HCN.out, by rw [List.length_append, List.flatMap_append]; simpa [encOb] using ON.out, HMX.out, HKP.out, BN.out⟩
              case measure => simp [intOf]; omega
        · obtain rfl : k = N := by omega
          have HSUB := Lib.hid (show SubM (M.map (·.1)) l by
            have h := HLS.out
            rw [List.take_of_length_le (by rw [← HLM.out, List.length_map, HN.out]; exact Nat.le_refl _)] at h
            exact h.sub HOK.out)
          have hml' : (M.map (·.1)).length ≤ 24 := by rw [List.length_map]; exact hml
          have OL := Lib.hid (show ObjsIs wr (.slice av M.length cv) (M.map (·.1)) from objs_of (RowE.of_own encOb_len rfl HOWN.out) (fun x hx => (HMO.out x hx).later BR) (by omega))
          have HK1 := Lib.hid (keys_lenR 12 HR12.out)
          have HK2 := Lib.hid (keys_lenR (l := M.map (·.1)) 12 (fun o ho => HR12.out o ((by have h := HLS.out; rw [List.take_of_length_le (by rw [← HLM.out, List.length_map, HN.out]; exact Nat.le_refl _)] at h; exact h.1.subset ho))))
          have pz := lt_of_block HXr.out
          have p0 := cell_of_row wr _ 0 _ _ _ HXr.out
          simp only [List.getElem?_toArray, List.getElem?_cons_zero] at p0
          go_wp2_with fail
          clear p0 pz
          refine (check_any _ l _ (HV.out.later BR) HOK.out (by omega) (by have := HK1.out; omega)).mono ?_
          rintro e w10 ⟨v1, rfl, hv1, hb⟩
          have B10 := below_step BR (Nat.le_refl _) hb
          have V1 := Lib.hid hv1
          replace OL := Lib.hid (OL.out.later hb)
          replace HC6 := Lib.hid (row_later hb HC6.out)
          have hz10 := hb.size
          clear hv1 hb
          have pz := lt_of_block HC6.out
          have p0 := cell_of_row w10 _ 0 _ _ _ HC6.out
          simp only [List.getElem?_toArray, List.getElem?_cons_zero] at p0
          go_wp2_with fail
          clear p0 pz
          refine (check_any _ _ _ OL.out HSUB.out.ok (by omega) (by have := HK2.out; omega)).mono ?_
          rintro e w11 ⟨v2, rfl, hv2, hb⟩
          have B11 := below_step B10 (Nat.le_refl _) hb
          replace V1 := Lib.hid (V1.out.later hb)
          have V2 := Lib.hid hv2
          have HCK := Lib.hid (HSUB.out.checks)
          have HN1 := Lib.hid (show (checkP l).length ≤ 1000000 ∧ (checkP (M.map (·.1))).length ≤ 1000000 from ⟨check_len (by omega), check_len (by omega)⟩)
          clear hv2 hb OL HC6 HOWN HSUB HK1 HK2 HMO HLS BR B10 hbr HXr
          obtain ⟨C1, hC1⟩ : ∃ z, z = checkP l := ⟨_, rfl⟩
          obtain ⟨C2, hC2⟩ : ∃ z, z = checkP (M.map (·.1)) := ⟨_, rfl⟩
          have HORD := Lib.hid (show ∀ k ∈ C2, OrdP k from fun k hk => check_ord (by rw [hC2] at hk; exact hk))
          rw [← hC1] at V1 HCK HN1
          rw [← hC2] at V2 HCK HN1
          clear hC1 hC2
          obtain ⟨a2, c2, hs2, hg2⟩ := vios_get V2.out
          obtain ⟨a1, c1, hs1, -⟩ := vios_get V1.out
          subst hs1 hs2
          have HG2 := Lib.hid hg2
          clear hg2 V2
          have hcl := HCK.out.2
          have hn1 := HN1.out
          go_wp2_with fail
          obtain ⟨we, rfl⟩ : ∃ z : World, z = w11 := ⟨_, rfl⟩
          go_loopw [11] (fun i wr => ∃ k : Nat, i = .int .i64 k ∧ k ≤ C2.length ∧ Below we.heap.size we wr) (fun i _ => C2.length - (intOf i).toNat)
          case atStart => exact ⟨0, rfl, by omega, Below.refl _ _⟩
          case round =>
            obtain ⟨k, rfl, hk, hbr⟩ := hrel
            have BR := below_step B11 (Nat.le_refl _) hbr
            by_cases hlt : k < C2.length
            · obtain ⟨key, hkey⟩ : ∃ x, C2[k]? = some x := ⟨C2[k]'hlt, List.getElem?_eq_getElem _⟩
              obtain ⟨b2, o2, ea, hcell⟩ := HG2.out (by omega)
              subst ea
              obtain ⟨vi, p0, p1, p2, sr⟩ := hcell k key hkey
              have hmem := List.mem_of_getElem? hkey
              have hnm : namedP C1 key.1 key.2 = true := (named_self (HORD.out key hmem)).2 (HCK.out.1 key hmem)
              have NM := Lib.hid (fun W hb => named_any (.slice a1 C1.length c1) C1 key.1 key.2 W (V1.out.later (w' := W) hb) (by omega))
              rw [hnm] at NM
              have q2 := cell_later hbr p2
              have pz := lt_of_cell q2
              obtain ⟨x1, x2⟩ := key
              by_cases e1 : x1 = x2
              · have hid : idsK (x1, x2) = [x1] := by unfold idsK; rw [if_pos e1]
                rw [hid] at sr
                obtain ⟨xs, cs, rfl, hns, hzs, hcs⟩ := sr.later hbr
                obtain ⟨bs, os, rfl, hcc⟩ := hcs (by simp)
                have s0' := hcc 0 x1 rfl
                have s0 : wr.cell? ⟨bs, os, none⟩ = some (.string x1) := s0'
                subst e1
                have sz := lt_of_cell s0
                have qq2 := cell_belowBy q2
                have qs0 := cell_belowBy s0
                simp only [List.length_cons, List.length_nil] at q2 qq2
                clear hcell hkey p0 p1 p2 sr hmem hnm hcc hcs s0' hns hzs hid
                clear s0
                go_wp2_with fail
                clear q2
                refine wp_region_quiet_below mixed (by kernel_rfl) ?_
                repeat (go_big_quiet_step ((go_at_call 24; exact calls_belowBy (NM.out _ (hbr.trans ((BelowBy.below _).mono hbr.size))))))
                refine wpQuiet_nil ?_
                intro w8 hw'
                obtain ⟨⟨wq, hbq⟩, hw''⟩ := hw'
                subst hw''
                clear qq2 qs0
                go_wp2
                go_roundw
                case rel => exact ⟨k + 1, by go_num, by omega, hbr.trans (hbq.mono hbr.size)⟩
                case measure => simp [intOf]; omega
              · have hid : idsK (x1, x2) = [x1, x2] := by unfold idsK; rw [if_neg e1]
                rw [hid] at sr
                obtain ⟨xs, cs, rfl, hns, hzs, hcs⟩ := sr.later hbr
                obtain ⟨bs, os, rfl, hcc⟩ := hcs (by simp)
                have s0' := hcc 0 x1 rfl
                have s0 : wr.cell? ⟨bs, os, none⟩ = some (.string x1) := s0'
                have s1 := hcc 1 x2 rfl
                have sz := lt_of_cell s0
                have qq2 := cell_belowBy q2
                have qs0 := cell_belowBy s0
                have qs1 := cell_belowBy s1
                simp only [List.length_cons, List.length_nil] at q2 qq2
                clear hcell hkey p0 p1 p2 sr hmem hnm hcc hcs s0' hns hzs hid e1
                clear s0 s1
                go_wp2_with fail
                clear q2
                refine wp_region_quiet_below mixed (by kernel_rfl) ?_
                repeat (go_big_quiet_step ((go_at_call 24; exact calls_belowBy (NM.out _ (hbr.trans ((BelowBy.below _).mono hbr.size))))))
                refine wpQuiet_nil ?_
                intro w8 hw'
                obtain ⟨⟨wq, hbq⟩, hw''⟩ := hw'
                subst hw''
                clear qq2 qs0 qs1
                go_wp2
                go_roundw
                case rel => exact ⟨k + 1, by go_num, by omega, hbr.trans (hbq.mono hbr.size)⟩
                case measure => simp [intOf]; omega
            · obtain rfl : k = C2.length := by omega
              have hd1 : decide ((C2.length : Int) ≤ (C1.length : Int)) = true := decide_eq_true (by omega)
              go_wp2
              go_ret
              exact ⟨by simp <;> omega, BR⟩
end Go.Proofs.YtbkomdinchiffaaGreat

namespace Go.Proofs.YtbkomdinchiffaaGreat
open Go.RowKit Go.Sort

/-- The list that counts: nothing, if the map is not valid. -/
def bdsL (l : List ObjD) : List ObjD := if mapOK l = true then l else []
theorem bds_ok (l : List ObjD) : mapOK (bdsL l) = true := by
  unfold bdsL
  split
  · assumption
  · rfl
theorem bds_len (l : List ObjD) : (bdsL l).length ≤ l.length := by
  unfold bdsL; split
  · exact Nat.le_refl _
  · simp
theorem bds_mem {l : List ObjD} {o : ObjD} (h : o ∈ bdsL l) : o ∈ l := by
  unfold bdsL at h; split at h
  · exact h
  · cases h
theorem rborders_all (v : Value) (l : List ObjD) (w : World) (hv : ObjsIs w v l) (hl : l.length ≤ 1000) (hr : ∀ o ∈ l, o.refs.length ≤ 12) :
    Calls Tryz.prog 22 #[.agg #[v]] w fun e w' => ∃ v', e = .returned v' ∧ BrsAt w' v' (bdsL l) ∧ Below w.heap.size w w' := by
  unfold bdsL
  cases h : mapOK l with
  | true => rw [if_pos rfl]; exact rborders_any v l w hv h hl hr
  | false =>
    rw [if_neg (by simp)]
    refine (rborders_bad v l w hv h).mono ?_
    rintro e w' ⟨rfl, hb⟩
    exact ⟨_, rfl, BrsAt.nil _, hb⟩
theorem keys_bds {l : List ObjD} (hr : ∀ o ∈ l, o.refs.length ≤ 12) (hl : l.length ≤ 24) : (keysP (bdsL l)).length ≤ 20000 := by
  have := keys_lenR 12 (l := bdsL l) (fun o ho => hr o (bds_mem ho))
  have h2 := bds_len l
  have : 12 * (bdsL l).length ≤ 12 * 24 := Nat.mul_le_mul_left _ (by omega)
  omega
theorem segments_all (v : Value) (l : List ObjD) (w : World) (hv : ObjsIs w v l) :
    Calls Tryz.prog 12 #[.agg #[v]] w fun e w' => ∃ v1 v2, e = .returned (.tuple #[v1, v2]) ∧ RowE encSg 4 w' v1 ((keysP (bdsL l)).map (segB (bdsL l))) ∧ TextsAt w' v2 ((keysP (bdsL l)).map (ownF (bdsL l) (bdsL l))) ∧ Below w.heap.size w w' := by
  unfold bdsL
  cases h : mapOK l with
  | true => rw [if_pos rfl]; exact segments_any v l w hv h
  | false =>
    rw [if_neg (by simp)]
    refine (segments_bad v l w hv h).mono ?_
    rintro e w' ⟨rfl, hb⟩
    exact ⟨_, _, rfl, ⟨none, 0, rfl, fun h => by cases h⟩, ⟨[], ⟨none, 0, rfl, fun h => by cases h⟩, rfl, fun i x ids hx => by simp at hx⟩, hb⟩
theorem rsegments_all (v : Value) (l : List ObjD) (w : World) (hv : ObjsIs w v l) (hl : l.length ≤ 24) (hr : ∀ o ∈ l, o.refs.length ≤ 12) :
    Calls Tryz.prog 13 #[.agg #[v]] w fun e w' => ∃ v1 v2, e = .returned (.tuple #[v1, v2]) ∧ RowE encSg 4 w' v1 ((keysP (bdsL l)).map (segB (bdsL l))) ∧ TextsAt w' v2 ((keysP (bdsL l)).map (ownF (bdsL l) (bdsL l))) ∧ Below w.heap.size w w' := by
  obtain ⟨a, cap, hv', _⟩ := id hv
  subst hv'
  exact rsegments_of a _ cap (bdsL l) w (by have := keys_bds hr hl; omega) fun W hb => rborders_all _ l W (hv.later hb) (by omega) hr
theorem check_all (v : Value) (l : List ObjD) (w : World) (hv : ObjsIs w v l) (hl : l.length ≤ 24) (hr : ∀ o ∈ l, o.refs.length ≤ 12) :
    Calls Tryz.prog 16 #[.agg #[v]] w fun e w' => ∃ v', e = .returned v' ∧ ViosAt w' v' (checkP (bdsL l)) ∧ Below w.heap.size w w' := by
  have hk := keys_bds hr hl
  unfold bdsL at hk ⊢
  cases h : mapOK l with
  | true => rw [if_pos rfl]; exact check_any v l w hv h (by omega) (by rw [if_pos h] at hk; exact hk)
  | false =>
    rw [if_neg (by simp)]
    refine (check_bad v l w hv h).mono ?_
    rintro e w' ⟨rfl, hb⟩
    exact ⟨_, rfl, ViosAt.nil _, hb⟩
theorem rcheck_all (v : Value) (l : List ObjD) (w : World) (hv : ObjsIs w v l) (hl : l.length ≤ 24) (hr : ∀ o ∈ l, o.refs.length ≤ 12) :
    Calls Tryz.prog 17 #[.agg #[v]] w fun e w' => ∃ v', e = .returned v' ∧ ViosAt w' v' (checkP (bdsL l)) ∧ Below w.heap.size w w' := by
  obtain ⟨a, cap, hv', _⟩ := id hv
  subst hv'
  exact rcheck_of a _ cap (bdsL l) w (bds_ok l) (by have := bds_len l; omega) (fun x hx => objs_size hv x (bds_mem hx)) fun W hb => rborders_all _ l W (hv.later hb) (by omega) hr
set_option maxRecDepth 100000 in
set_option maxHeartbeats 4000000 in
theorem match_law (v : Value) (l : List ObjD) (w : World) (hv : ObjsIs w v l) :
    Calls Tryz.prog 3 #[.agg #[v]] w fun e w' => e = .returned (.bool true) ∧ Below w.heap.size w w' := by
  have mixed : Tryz.prog.follows .mixedOrders = true := by kernel_rfl
  have HV := Lib.hid (fun W hb => hv.later (w' := W) hb)
  obtain ⟨a, cap, rfl, _⟩ := hv
  go_enter Tryz.func3, Tryz.ntmps3
  go_wp2_with fail
  have BX : Below w.heap.size w (w.alloc (.cells #[.slice a l.length cap] 24)) := (by repeat' (first | exact Below.refl _ _ | refine Below.drew ?_ | refine Below.drewN' ?_ | refine Below.setCell ?_ (by first | omega | (simp; done) | exact Below.size (by assumption) | (simp; omega)) _ | refine Below.alloc ?_ (by first | omega | (simp; done) | exact Below.size (by assumption) | (simp; omega)) _ | refine Below.trans ?_ (Below.mono (by assumption) ?_) | (first | omega | (simp; done) | exact Below.size (by assumption) | (simp; omega))))
  have HX := row_new w (.cells #[.slice a l.length cap] 24)
  generalize hw1 : w.alloc (.cells #[.slice a l.length cap] 24) = w1
  rw [hw1] at BX HX
  have HX1 := Lib.hid HX
  have hz1 : w.heap.size < w1.heap.size := lt_of_block HX
  clear hw1 HX
  refine (head_any _).mono ?_
  rintro e w2 ⟨rfl, hb⟩
  have B2 := below_step BX (by omega) hb
  replace HX1 := Lib.hid (row_later hb HX1.out)
  have hz2 := hb.size
  clear hb BX
  have pz := lt_of_block HX1.out
  have p0 := cell_of_row w2 _ 0 _ _ _ HX1.out
  simp only [List.getElem?_toArray, List.getElem?_cons_zero] at p0
  go_wp2_with fail
  clear p0 pz
  refine (few13_any _ l 24 (by omega) _ (HV.out _ B2)).mono ?_
  rintro e w3 ⟨⟨r, rfl, hr⟩, hb⟩
  have B3 := below_step B2 (by omega) hb
  replace HX1 := Lib.hid (row_later hb HX1.out)
  have hz3 := hb.size
  clear hb B2
  cases r with
  | false =>
    go_wp2
    go_ret
    exact ⟨rfl, B3⟩
  | true =>
    obtain ⟨hl24, hr12⟩ := hr rfl
    have CA := Lib.hid (fun W hb => check_all _ l W (HV.out W hb) hl24 hr12)
    have CB := Lib.hid (fun W hb => rcheck_all _ l W (HV.out W hb) hl24 hr12)
    have SA := Lib.hid (fun W hb => segments_all _ l W (HV.out W hb))
    have SB := Lib.hid (fun W hb => rsegments_all _ l W (HV.out W hb) hl24 hr12)
    have hkb := keys_bds hr12 hl24
    have hcl := check_len (l := bdsL l) (by have := bds_len l; omega)
    have hks : ((keysP (bdsL l)).map (segB (bdsL l))).length = ((keysP (bdsL l)).map (ownF (bdsL l) (bdsL l))).length := by rw [List.length_map, List.length_map]
    have hkn : ((keysP (bdsL l)).map (segB (bdsL l))).length ≤ 1000000000 := by rw [List.length_map]; omega
    generalize (keysP (bdsL l)).map (segB (bdsL l)) = S at SA SB hks hkn
    generalize (keysP (bdsL l)).map (ownF (bdsL l) (bdsL l)) = O at SA SB hks
    generalize checkP (bdsL l) = C at CA CB hcl
    clear hr hr12 hkb
    have pz := lt_of_block HX1.out
    have p0 := cell_of_row w3 _ 0 _ _ _ HX1.out
    simp only [List.getElem?_toArray, List.getElem?_cons_zero] at p0
    go_wp2_with fail
    clear p0 pz
    refine (SA.out _ B3).mono ?_
    rintro e w4 ⟨va, vx, rfl, hra, hrx, hb⟩
    have B4 := below_step B3 (by omega) hb
    replace HX1 := Lib.hid (row_later hb HX1.out)
    have hz4 := hb.size
    have HRA := Lib.hid hra
    have HRX := Lib.hid hrx
    clear hb B3 hra hrx SA
    have pz := lt_of_block HX1.out
    have p0 := cell_of_row w4 _ 0 _ _ _ HX1.out
    simp only [List.getElem?_toArray, List.getElem?_cons_zero] at p0
    go_wp2_with fail
    clear p0 pz
    refine (SB.out _ B4).mono ?_
    rintro e w5 ⟨vb, vy, rfl, hrb, hry, hb⟩
    have B5 := below_step B4 (by omega) hb
    replace HX1 := Lib.hid (row_later hb HX1.out)
    have hz5 := hb.size
    replace HRA := Lib.hid (HRA.out.later hb)
    replace HRX := Lib.hid (HRX.out.on hb)
    have HRB := Lib.hid hrb
    have HRY := Lib.hid hry
    clear hb B4 hrb hry SB
    have HSL := Lib.hid (fun W (hb : Below w5.heap.size w5 W) => (show Calls Tryz.prog 14 #[va, vb, vx, vy] W fun e w' => e = .returned (.bool true) ∧ Below W.heap.size W w' by
      have h := segments_law va vb vx vy S S O O W (HRA.out.later hb) (HRB.out.later hb) (HRX.out.on hb) (HRY.out.on hb) hks hks hkn
      rw [show decide (S = S ∧ O = O) = true from decide_eq_true ⟨rfl, rfl⟩] at h
      exact h))
    obtain ⟨s1, c1, hs1, -⟩ := HRA.out
    obtain ⟨s2, c2, hs2, -⟩ := HRX.out
    obtain ⟨s3, c3, hs3, -⟩ := HRB.out
    obtain ⟨s4, c4, hs4, -⟩ := HRY.out
    have CK1 := Lib.hid (fun W (hb : Below w5.heap.size w5 W) => CA.out W (below_step B5 (by omega) hb))
    have CK2 := Lib.hid (fun W (hb : Below w5.heap.size w5 W) => CB.out W (below_step B5 (by omega) hb))
    have HCL := Lib.hid hcl
    have HB5 := Lib.hid B5
    have pz := lt_of_block HX1.out
    have p0 := cell_of_row w5 _ 0 _ _ _ HX1.out
    simp only [List.getElem?_toArray, List.getElem?_cons_zero] at p0
    clear hs1 hs2 hs3 hs4 hcl CA CB B5
    go_wp2_with fail
    go_region_held3 (fun w' => w'.cell? ⟨w.heap.size, 0, none⟩ = some (.slice a l.length cap) ∧ Below w5.heap.size w5 w')
      (first
        | exact ⟨p0, (Below.refl _ _).drew⟩
        | (have hq := ‹_ ∧ Below w5.heap.size w5 _›; exact ⟨cell_later hb hq.1, below_step hq.2 (Nat.le_refl _) hb⟩)
        | assumption)
      (first
        | (go_at_call 14; refine (HSL.out _ (‹_ ∧ Below w5.heap.size w5 _›).2).mono ?_; rintro e wa ⟨rfl, hb⟩)
        | (go_at_call 16; refine (CK1.out _ (‹_ ∧ Below w5.heap.size w5 _›).2).mono ?_; rintro e wb ⟨vb', rfl, hvb, hb⟩; try have hvdb := hvd.later hb)
        | (go_at_call 17; refine (CK2.out _ (‹_ ∧ Below w5.heap.size w5 _›).2).mono ?_; rintro e wd ⟨vd, rfl, hvd, hb⟩; try have hvbd := hvb.later hb)
        | (go_at_call 15; first | (refine (rsame_any _ _ _ _ _ hvbd hvd (by have := HCL.out; omega)).mono ?_; rintro e we ⟨rfl, hb⟩; rw [decide_eq_true rfl]) | (refine (rsame_any _ _ _ _ _ hvb hvdb (by have := HCL.out; omega)).mono ?_; rintro e we ⟨rfl, hb⟩; rw [decide_eq_true rfl])))
    all_goals (
      have BF := below_step HB5.out (by omega) (‹_ ∧ Below w5.heap.size w5 _›).2
      go_wp2
      go_ret
      exact ⟨rfl, BF⟩)
end Go.Proofs.YtbkomdinchiffaaGreat
