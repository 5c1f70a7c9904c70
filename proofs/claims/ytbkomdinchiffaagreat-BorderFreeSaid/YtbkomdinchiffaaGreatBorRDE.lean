/- The reference's Borders. -/
import Derived.Test.YtbkomdinchiffaaGreatBorRABC
import Derived.Test.YtbkomdinchiffaaGreatBorLaw
namespace Go.Proofs.YtbkomdinchiffaaGreat
open Go.RowKit Go.Sort

/-- The reference's borders of a map, as they lie in memory. -/
def BrsAt (w : World) (v : Value) (l : List ObjD) : Prop :=
  ∃ L : List BrM, RowE encBr 7 w v L ∧ L.map (·.1) = keysP l ∧ ∀ x ∈ L, x.2.1 = segB l x.1 ∧ StrRow w (.slice x.2.2.1 x.2.2.2.1 x.2.2.2.2) (ownF l l x.1)
theorem BrsAt.later {w w' : World} {v : Value} {l : List ObjD} (h : BrsAt w v l) (hb : Below w.heap.size w w') : BrsAt w' v l := by
  obtain ⟨L, h1, h2, h3⟩ := h
  exact ⟨L, h1.later hb, h2, fun x hx => ⟨(h3 x hx).1, (h3 x hx).2.later hb⟩⟩
theorem BrAt.brs {w : World} {base : Nat} {v : Value} {l : List ObjD} (h : BrAt w base v l (bordersP l)) : BrsAt w v l := by
  obtain ⟨L, h1, h2, h3, h4⟩ := h
  have hm : (bordersP l).map (·.1) = keysP l := by unfold bordersP; rw [List.map_map]; exact List.map_id _
  refine ⟨L, RowE.of_own encBr_len rfl h1, h2.trans hm, fun x hx => ⟨h3 x hx, ?_⟩⟩
  obtain ⟨i, hi⟩ := List.getElem?_of_mem hx
  have hl := (List.getElem?_eq_some_iff.1 hi).1
  rw [br_len h2] at hl
  have hp := List.getElem?_eq_getElem hl
  have e : x.1 = ((bordersP l)[i]).1 := by
    have := congrArg (fun M => M[i]?) h2
    simp only [List.getElem?_map, hi, hp, Option.map_some] at this
    injection this
  have e2 := (borders_mem.1 (List.getElem_mem hl)).2
  have := (h4 i x _ hi hp).row
  rwa [e2, ← e] at this
theorem BrsAt.nil (w : World) : BrsAt w (.slice none 0 0) [] := ⟨[], ⟨none, 0, rfl, fun h => by simp at h⟩, rfl, fun x hx => by cases hx⟩
theorem brs_get {w : World} {v : Value} {l : List ObjD} (h : BrsAt w v l) : ∃ (ao : Option Addr) (cap : Nat), v = .slice ao (keysP l).length cap ∧ (0 < (keysP l).length → ∃ b off, ao = some ⟨b, off, none⟩ ∧ ∀ (i : Nat) (k : KeyD), (keysP l)[i]? = some k →
    ∃ (a : Option Addr) (c : Nat), w.cell? ⟨b, off + i * 7, none⟩ = some (.string k.1) ∧ w.cell? ⟨b, off + i * 7 + 1, none⟩ = some (.string k.2) ∧ w.cell? ⟨b, off + i * 7 + 2, none⟩ = some (.int .i64 (segB l k).1.1) ∧ w.cell? ⟨b, off + i * 7 + 3, none⟩ = some (.int .i64 (segB l k).1.2) ∧
      w.cell? ⟨b, off + i * 7 + 4, none⟩ = some (.int .i64 (segB l k).2.1) ∧ w.cell? ⟨b, off + i * 7 + 5, none⟩ = some (.int .i64 (segB l k).2.2) ∧ w.cell? ⟨b, off + i * 7 + 6, none⟩ = some (.slice a (ownF l l k).length c) ∧ StrRow w (.slice a (ownF l l k).length c) (ownF l l k)) := by
  obtain ⟨L, ⟨ao, cap, rfl, hc⟩, h2, h3⟩ := h
  have hn : L.length = (keysP l).length := by rw [← h2, List.length_map]
  rw [hn] at hc ⊢
  refine ⟨ao, cap, rfl, fun h0 => ?_⟩
  obtain ⟨b, off, rfl, hcell⟩ := hc h0
  refine ⟨b, off, rfl, fun i k hk => ?_⟩
  have hi : i < L.length := by rw [hn]; exact (List.getElem?_eq_some_iff.1 hk).1
  have hx := List.getElem?_eq_getElem hi
  have e : L[i].1 = k := by
    have := congrArg (fun M => M[i]?) h2
    simp only [List.getElem?_map, hx, hk, Option.map_some] at this
    injection this
  generalize L[i] = x at hx e
  obtain ⟨xk, sg, a, n, c⟩ := x
  simp only [] at e
  subst e
  obtain ⟨h4, h5⟩ := h3 _ (List.mem_of_getElem? hx)
  simp only [] at h4 h5
  subst h4
  obtain ⟨a', c', hsl, _⟩ := id h5
  injection hsl with f1 f2 f3
  subst f2
  exact ⟨a, c, hcell i _ hx 0 _ rfl, hcell i _ hx 1 _ rfl, hcell i _ hx 2 _ rfl, hcell i _ hx 3 _ rfl, hcell i _ hx 4 _ rfl, hcell i _ hx 5 _ rfl, hcell i _ hx 6 _ rfl, h5⟩

/-- The sides of any object. -/
def sdP (o : ObjD) : List KeyD := if o.kind = 2 ∨ o.kind = 3 then sidesP o else []
theorem rsides_all (o : ObjD) (vr vt : Value) (w : World) (hr : StrRow w vr o.refs) (ht : TagRow w vt o.tags) (hob : objOK o = true) (hl : o.refs.length ≤ 100000) :
    Calls Tryz.prog 51 #[.agg #[.string o.id, .int .i64 o.kind, .int .i64 o.x, .int .i64 o.y, vr, vt]] w fun e w' => ∃ v', e = .returned v' ∧ w'.ownsRow w.heap.size 50 2 v' (sdP o).length ((sdP o).flatMap encKy) ∧ Below w.heap.size w w' := by
  unfold sdP
  split
  · rename_i hk
    refine rsides_any o vr vt w hr ht ?_ hl
    rcases hk with hk | hk
    · exact Or.inl hk
    · refine Or.inr ⟨hk, ?_⟩
      simp only [objOK, Bool.and_eq_true, decide_eq_true_eq] at hob
      obtain ⟨⟨⟨⟨⟨⟨h1, h2⟩, _⟩, h4⟩, h5⟩, h6⟩, h7⟩ := hob
      rw [hk] at h4
      have h8 : (3 : Int) ≤ (o.refs.length : Int) := h4
      omega
  · rename_i hk
    refine (rsides_none o vr vt w hr ht ⟨fun h => hk (Or.inl h), fun h => hk (Or.inr h)⟩).mono ?_
    rintro e w' ⟨rfl, hb⟩
    exact ⟨_, rfl, World.ownsRow_nil _ _ _ _, hb⟩
theorem rborders_bad (v : Value) (l : List ObjD) (w : World) (hv : ObjsIs w v l) (hok : mapOK l = false) :
    Calls Tryz.prog 22 #[.agg #[v]] w fun e w' => e = .returned (.slice none 0 0) ∧ Below w.heap.size w w' := by
  have RV := Lib.hid (fun W hb => rvalid13_any v l W (hv.later (w' := W) hb))
  have HOK := Lib.hid hok
  obtain ⟨a, cap, rfl, _⟩ := hv
  clear hok
  go_enter Tryz.func22, Tryz.ntmps22
  go_wp2_with fail
  have B1 : Below w.heap.size w (w.alloc (.cells #[.slice a l.length cap] 24)) := (by repeat' (first | exact Below.refl _ _ | refine Below.drew ?_ | refine Below.drewN' ?_ | refine Below.setCell ?_ (by first | omega | (simp; done) | exact Below.size (by assumption) | (simp; omega)) _ | refine Below.alloc ?_ (by first | omega | (simp; done) | exact Below.size (by assumption) | (simp; omega)) _ | refine Below.trans ?_ (Below.mono (by assumption) ?_) | (first | omega | (simp; done) | exact Below.size (by assumption) | (simp; omega))))
  refine (RV.out _ B1).mono ?_
  rintro e w2 ⟨rfl, hb⟩
  rw [HOK.out]
  have B2 := Lib.hid (below_step B1 (Nat.le_refl _) hb)
  clear hb B1
  go_wp2
  go_ret
  exact ⟨rfl, B2.out⟩

/-- What stays while the sides of one object are put. -/
def BrKeep (o : ObjD) (vr vt vs : Value) (w2 : World) (Bo base1 m : Nat) (W : World) : Prop :=
  Below w2.heap.size w2 W ∧ W.heap[Bo]? = some (.cells #[.string o.id, .int .i64 o.kind, .int .i64 o.x, .int .i64 o.y, vr, vt] 59) ∧ W.ownsRow base1 50 2 vs m ((sidesP o).flatMap encKy)
theorem BrKeep.on {o : ObjD} {vr vt vs : Value} {w2 W W' : World} {Bo base1 m : Nat} (h : BrKeep o vr vt vs w2 Bo base1 m W) (h2 : Below W.heap.size W W') : BrKeep o vr vt vs w2 Bo base1 m W' :=
  ⟨h.1.trans (h2.mono h.1.size), row_later h2 h.2.1, own_later h.2.2 h2⟩
theorem BrKeep.stable (o : ObjD) (vr vt vs : Value) (w2 : World) (Bo base1 m : Nat) : StableW (BrKeep o vr vt vs w2 Bo base1 m) := fun _ _ h h2 => h.on h2
theorem StableW.br (base : Nat) (v : Value) (l : List ObjD) (acc : List (KeyD × List ByteArray)) : StableW fun W => BrAt W base v l acc := fun _ _ h h2 => h.on h2
theorem own_row_ne {w : World} {base size n g : Nat} {e e' : TypeId} {v : Value} {xs : List Value} {cs : Array Value} (h : w.ownsRow base e size v n xs) (hr : w.heap[g]? = some (.cells cs e')) (hne : e ≠ e') : some g ≠ v.ownBlock := by
  intro c
  rcases h.2 with ⟨rfl, _⟩ | ⟨g', cap, cur, rfl, _, hc, _⟩
  · cases c
  · have c' : g = g' := by injection c
    subst c'
    rw [hc] at hr
    injection hr with hr
    injection hr with h1 h2
    exact hne h2
theorem own_own_ne {w : World} {base base' size size' n n' : Nat} {e e' : TypeId} {v v' : Value} {xs xs' : List Value} (h : w.ownsRow base e size v n xs) (h' : w.ownsRow base' e' size' v' n' xs') (hne : e ≠ e') : v'.ownBlock = none ∨ v'.ownBlock ≠ v.ownBlock := by
  rcases h'.2 with ⟨rfl, _⟩ | ⟨g', cap, cur, rfl, _, hc, _⟩
  · exact Or.inl rfl
  · exact Or.inr (own_row_ne h hc hne)
theorem BrKeep.put {l : List ObjD} {o : ObjD} {vr vt vs v : Value} {w2 W W' : World} {Bo base1 m : Nat} {acc : List (KeyD × List ByteArray)} (hk : BrKeep o vr vt vs w2 Bo base1 m W) (hv : BrAt W w2.heap.size v l acc) (hg : W.grownBy W' v.ownBlock) : BrKeep o vr vt vs w2 Bo base1 m W' := by
  obtain ⟨L, ho, _⟩ := hv
  exact ⟨hk.1.grown hg hk.1.size (fun j ej => (ho.lt j ej).1), (hg.block Bo (lt_of_block hk.2.1) (own_row_ne ho hk.2.1 (by decide))).trans hk.2.1, hk.2.2.kept hg (own_own_ne ho hk.2.2 (by decide))⟩
set_option maxRecDepth 100000 in
set_option maxHeartbeats 4000000 in
theorem rborders_any (v : Value) (l : List ObjD) (w : World) (hv : ObjsIs w v l) (hok : mapOK l = true) (hl : l.length ≤ 1000) (hr : ∀ o ∈ l, o.refs.length ≤ 12) :
    Calls Tryz.prog 22 #[.agg #[v]] w fun e w' => ∃ v', e = .returned v' ∧ BrsAt w' v' l ∧ Below w.heap.size w w' := by
  have mixed : Tryz.prog.follows .mixedOrders = true := by kernel_rfl
  have RV := Lib.hid (fun W hb => rvalid13_any v l W (hv.later (w' := W) hb))
  have HV := Lib.hid (fun W (hb : Below w.heap.size w W) => hv.later (w' := W) hb)
  have HOK := Lib.hid hok
  have HRR := Lib.hid hr
  obtain ⟨a, cap, rfl, hn, hc⟩ := hv
  obtain ⟨N, hN⟩ : ∃ N, l.length = N := ⟨_, rfl⟩
  rw [hN] at hn hc hl RV HV ⊢
  have HN := Lib.hid hN
  have HC := Lib.hid hc
  clear hN hc hok hr
  go_enter Tryz.func22, Tryz.ntmps22
  go_wp2_with fail
  have B1 : Below w.heap.size w (w.alloc (.cells #[.slice a N cap] 24)) := (by repeat' (first | exact Below.refl _ _ | refine Below.drew ?_ | refine Below.drewN' ?_ | refine Below.setCell ?_ (by first | omega | (simp; done) | exact Below.size (by assumption) | (simp; omega)) _ | refine Below.alloc ?_ (by first | omega | (simp; done) | exact Below.size (by assumption) | (simp; omega)) _ | refine Below.trans ?_ (Below.mono (by assumption) ?_) | (first | omega | (simp; done) | exact Below.size (by assumption) | (simp; omega))))
  have HM := row_new w (.cells #[.slice a N cap] 24)
  generalize hw1 : w.alloc (.cells #[.slice a N cap] 24) = w1
  rw [hw1] at B1 HM
  have hz1 : w.heap.size < w1.heap.size := lt_of_block HM
  have HM1 := Lib.hid HM
  clear hw1 HM
  refine (RV.out _ B1).mono ?_
  rintro e w2 ⟨rfl, hb2⟩
  rw [HOK.out]
  have B2 := below_step B1 (by omega) hb2
  have HM2 := Lib.hid (row_later hb2 HM1.out)
  have hz2 : w.heap.size < w2.heap.size := Nat.lt_of_lt_of_le hz1 hb2.size
  clear hb2 B1 HM1 RV hz1
  go_wp2_with fail
  go_loopw [3, 4] (fun v3 i wr => ∃ (acc : List (KeyD × List ByteArray)) (k : Nat), i = .int .i64 k ∧ k ≤ N ∧ BrAt wr w2.heap.size v3 l acc ∧ BrdIn l k acc ∧ BrdLe (100 * k) acc ∧ Below w2.heap.size w2 wr) (fun _ i _ => N - (intOf i).toNat)
  case atStart => exact ⟨[], 0, rfl, by omega, BrAt.nil _ _ _, BrdIn.nil l, ⟨by simp, by simp⟩, Below.refl _ _⟩
  case round =>
    obtain ⟨acc, k, rfl, hk, hbr, hin, hle, hb⟩ := hrel
    have HBR := Lib.hid hbr
    have HIN := Lib.hid hin
    have HLE := Lib.hid hle
    have B3 := below_step B2 (by omega) hb
    have HMr := row_later hb HM2.out
    have hzr := hb.size
    clear hbr hin hle
    by_cases hlt : k < N
    · obtain ⟨o, ho⟩ : ∃ o, l[k]? = some o := ⟨l[k]'(by rw [HN.out]; exact hlt), List.getElem?_eq_getElem _⟩
      have hmem := List.mem_of_getElem? ho
      obtain ⟨b, off, hab, hcell⟩ := HC.out (by omega)
      subst hab
      obtain ⟨vr, vt, c0, c1, c2, c3, c4, c5, hrr, htt, hidz⟩ := hcell k o ho
      replace c0 := cell_later B3 c0
      replace c1 := cell_later B3 c1
      replace c2 := cell_later B3 c2
      replace c3 := cell_later B3 c3
      replace c4 := cell_later B3 c4
      replace c5 := cell_later B3 c5
      obtain ⟨ar, cr, hvr, _⟩ := id hrr
      obtain ⟨at1, ct, hvt, _⟩ := id htt
      subst hvr hvt
      obtain ⟨nr, hnr⟩ : ∃ z, z = o.refs.length := ⟨_, rfl⟩
      obtain ⟨nt, hnt⟩ : ∃ z, z = o.tags.length := ⟨_, rfl⟩
      rw [← hnr] at c4 hrr
      rw [← hnt] at c5 htt
      have HRO := Lib.hid hrr
      have HTO := Lib.hid htt
      have HOO := Lib.hid ho
      have HOB := Lib.hid (map_obj HOK.out hmem)
      have HR12 := Lib.hid (HRR.out o hmem)
      have bz := lt_of_cell c0
      clear hcell ho hmem hrr htt hnr hnt
      have mz := lt_of_block HMr
      have m0 := cell_of_row wr _ 0 _ _ _ HMr
      simp only [List.getElem?_toArray, List.getElem?_cons_zero] at m0
      have HMr' := Lib.hid HMr
      clear HMr
      go_wp2_with fail
      have BA : Below wr.heap.size wr (wr.alloc (.cells #[.string o.id, .int .i64 o.kind, .int .i64 o.x, .int .i64 o.y, .slice ar nr cr, .slice at1 nt ct] 59)) := (Below.refl _ _).alloc (Nat.le_refl _) _
      have HX := row_new wr (.cells #[.string o.id, .int .i64 o.kind, .int .i64 o.x, .int .i64 o.y, .slice ar nr cr, .slice at1 nt ct] 59)
      generalize hwa : wr.alloc (.cells #[.string o.id, .int .i64 o.kind, .int .i64 o.x, .int .i64 o.y, .slice ar nr cr, .slice at1 nt ct] 59) = wa
      rw [hwa] at BA HX
      clear hwa c0 c1 c2 c3 c4 c5 bz m0 mz
      obtain ⟨Bo, hBo⟩ : ∃ z, z = wr.heap.size := ⟨_, rfl⟩
      rw [← hBo] at HX ⊢
      clear hBo
      have HX1 := Lib.hid HX
      have hza := lt_of_block HX
      have BBa := below_step B3 (by have := B3.size; omega) BA
      refine (rsides_all o _ _ wa (HRO.out.later BBa) (HTO.out.later BBa) HOB.out (by have := HR12.out; omega)).mono ?_
      rintro e wb ⟨vs, rfl, hos, hbb⟩
      have B4 := below_step BBa (by have := BBa.size; omega) hbb
      have hb4 := hb.trans ((BA.trans (hbb.mono BA.size)).mono hzr)
      have HXb := Lib.hid (row_later hbb HX1.out)
      have Bwb := BA.trans (hbb.mono BA.size)
      have HBb := Lib.hid (HBR.out.on (BA.trans (hbb.mono BA.size)))
      obtain ⟨sa, sc, hvs⟩ := own_form hos
      subst hvs
      obtain ⟨m, hm⟩ : ∃ z, z = (sdP o).length := ⟨_, rfl⟩
      rw [← hm] at hos ⊢
      have HM := Lib.hid hm
      have HOS := Lib.hid hos
      have hmb : m ≤ 100 := by
        rw [hm]; unfold sdP; have := HR12.out
        split
        · have : (sidesP o).length = sideN o := by unfold sidesP; simp
          rw [this]; unfold sideN; split <;> omega
        · simp
      clear hos hm hbb hb HBR HX1 BBa B3
      obtain ⟨wo, rfl⟩ : ∃ z : World, z = wr := ⟨_, rfl⟩
      cases hB : isB l o with
      | false =>
        have HIN2 := Lib.hid (HIN.out.skip HOO.out hB)
        have HSB := Lib.hid (show 0 < m → soundB l o = false by
          intro h0
          have hB' := hB
          unfold isB at hB'
          rw [HM.out] at h0
          unfold sdP at h0
          split at h0
          · rename_i hk2
            rw [decide_eq_true hk2, Bool.true_and] at hB'; exact hB'
          · simp at h0)
        have HKD := Lib.hid (show 0 < m → o.kind ≠ 4 ∧ o.kind ≠ 5 by
          intro h0
          rw [HM.out] at h0
          unfold sdP at h0
          split at h0
          · rename_i hk2; omega
          · simp at h0)
        clear hB
        go_wp2_with fail
        go_loopw [3, 7] (fun v3 v7 wx => v7 = .int .i64 (0 : Nat) ∧ v3 = u3 ∧ wx = wb) (fun _ _ _ => 0)
        case atStart => exact ⟨rfl, rfl, rfl⟩
        case round =>
          obtain ⟨rfl, rfl, hwx⟩ := hrel
          rw [hwx]
          clear hwx
          have HMb := row_later hb4 HM2.out
          have xz := lt_of_block HXb.out
          have x0 := cell_of_row wb _ 0 _ _ _ HXb.out
          have x1 := cell_of_row wb _ 1 _ _ _ HXb.out
          have x2 := cell_of_row wb _ 2 _ _ _ HXb.out
          have x3 := cell_of_row wb _ 3 _ _ _ HXb.out
          have x4 := cell_of_row wb _ 4 _ _ _ HXb.out
          have x5 := cell_of_row wb _ 5 _ _ _ HXb.out
          simp only [List.getElem?_toArray, List.getElem?_cons_zero, List.getElem?_cons_succ] at x0 x1 x2 x3 x4 x5
          have qz := lt_of_block HMb
          have q0 := cell_of_row wb _ 0 _ _ _ HMb
          simp only [List.getElem?_toArray, List.getElem?_cons_zero] at q0
          have HMb' := Lib.hid HMb
          clear HMb
          by_cases h0 : 0 < m
          · have hd : decide (((0 : Nat) : Int) < (m : Int)) = true := decide_eq_true (by omega)
            have hd' : ((0 : Nat) : Int) < (m : Int) := by omega
            obtain ⟨k4, k5⟩ := HKD.out h0
            go_wp2_with (go_at_call 52; refine (rsound_any _ _ _ l o wb (HV.out wb B4) (HRO.out.later B4) (HTO.out.later B4) HOK.out k4 k5).mono ?_; rintro e w5 ⟨rfl, hb5⟩; rw [HSB.out h0]; have HB5 := Lib.hid (HBb.out.on hb5); have hb9 := Lib.hid (hb4.trans (hb5.mono (by have := hb4.size; omega))); clear hb5 hb4)
            go_roundw
            case rel => exact ⟨acc, k + 1, by go_num, by omega, HB5.out, HIN2.out, HLE.out.mono (by omega), hb9.out⟩
            case measure => simp [intOf]; omega
          · have hd : decide (((0 : Nat) : Int) < (m : Int)) = false := decide_eq_false (by omega)
            have hd' : ¬ ((0 : Nat) : Int) < (m : Int) := by omega
            go_wp2
            go_roundw
            case rel => exact ⟨acc, k + 1, by go_num, by omega, HBb.out, HIN2.out, HLE.out.mono (by omega), hb4⟩
            case measure => simp [intOf]; omega
      | true =>
        have HIN2 := Lib.hid (fun acc' h => BrdIn.next (acc := acc') HOO.out hB h)
        have hkk := isB_kind hB
        have HSB := Lib.hid (show soundB l o = true by
          unfold isB at hB; rw [Bool.and_eq_true] at hB; exact hB.2)
        have k4 : o.kind ≠ 4 := by omega
        have k5 : o.kind ≠ 5 := by omega
        have hsd : sdP o = sidesP o := by unfold sdP; rw [if_pos hkk]
        have hmS : m = sideN o := by rw [HM.out, hsd]; unfold sidesP; simp
        have HKP := Lib.hid (show BrKeep o (.slice ar nr cr) (.slice at1 nt ct) (.slice sa m sc) w2 Bo wa.heap.size m wb from ⟨hb4, HXb.out, by have := HOS.out; rwa [hsd] at this⟩)
        have HST := Lib.hid (HIN.out.start o)
        have HSTEP := Lib.hid (fun (j : Nat) acc' (hj : j < m) h => BrdSt.step (acc := acc') HOK.out HOO.out (show j < sideN o by omega) h)
        have HND := Lib.hid (fun (j : Nat) (hj : j < m) => side_nodes HSB.out (show j < sideN o by omega))
        have HGET := Lib.hid (fun (j : Nat) (hj : j < m) => sides_get (show j < sideN o by omega))
        have HML := Lib.hid (show m = (sidesP o).length by rw [HM.out, hsd])
        have HMS := Lib.hid hmS
        have HZ2 := Lib.hid hidz
        clear hsd hmS HM HOS hkk hB hidz
        go_wp2_with fail
        go_loopw [3, 7] (fun v3 v7 wx => ∃ (acc' : List (KeyD × List ByteArray)) (j : Nat), v7 = .int .i64 j ∧ j ≤ m ∧ BrAt wx w2.heap.size v3 l acc' ∧ BrdSt l (l.take k) o j acc' ∧ BrdLe (100 * k + j) acc' ∧ BrKeep o (.slice ar nr cr) (.slice at1 nt ct) (.slice sa m sc) w2 Bo wa.heap.size m wx) (fun _ v7 _ => m - (intOf v7).toNat)
        case atStart => exact ⟨acc, 0, rfl, by omega, HBb.out, HST.out, HLE.out.mono (by omega), HKP.out⟩
        case round =>
          obtain ⟨acc', j, rfl, hj, hbr2, hst2, hle2, hkp⟩ := hrel
          have HB2 := Lib.hid hbr2
          have HS2 := Lib.hid hst2
          have HL2 := Lib.hid hle2
          have HK2 := Lib.hid hkp
          have B5 := below_step B2 (by omega) hkp.1
          have HXx := Lib.hid hkp.2.1
          have HMx := row_later hkp.1 HM2.out
          clear hbr2 hst2 hle2 hkp
          by_cases hlj : j < m
          · have hd : decide ((j : Int) < (m : Int)) = true := decide_eq_true (by omega)
            have hd' : (j : Int) < (m : Int) := by omega
            have hj0 : (0 : Int) ≤ (j : Int) := by omega
            obtain ⟨g, cur, hg, _⟩ := own_two HK2.out.2.2 HML.out (HGET.out j hlj)
            subst hg
            have CEL := Lib.hid (fun (W : World) (h : BrKeep o (.slice ar nr cr) (.slice at1 nt ct) (.slice (some ⟨g, 0, none⟩) m sc) w2 Bo wa.heap.size m W) => own_two h.2.2 HML.out (HGET.out j hlj))
            have ND := Lib.hid (HND.out j hlj)
            have ST := Lib.hid (HSTEP.out j acc' hlj HS2.out)
            have HLJ := Lib.hid hlj
            obtain ⟨sk, hsk⟩ : ∃ z, z = sideAt o j := ⟨_, rfl⟩
            rw [← hsk] at CEL ND ST
            clear hsk hlj
            have xz := lt_of_block HXx.out
            have x0 := cell_of_row wr _ 0 _ _ _ HXx.out
            have x1 := cell_of_row wr _ 1 _ _ _ HXx.out
            have x2 := cell_of_row wr _ 2 _ _ _ HXx.out
            have x3 := cell_of_row wr _ 3 _ _ _ HXx.out
            have x4 := cell_of_row wr _ 4 _ _ _ HXx.out
            have x5 := cell_of_row wr _ 5 _ _ _ HXx.out
            simp only [List.getElem?_toArray, List.getElem?_cons_zero, List.getElem?_cons_succ] at x0 x1 x2 x3 x4 x5
            have qz := lt_of_block HMx
            have q0 := cell_of_row wr _ 0 _ _ _ HMx
            simp only [List.getElem?_toArray, List.getElem?_cons_zero] at q0
            have HMx' := Lib.hid HMx
            clear HMx
            go_wp2_with (go_at_call 52; refine (rsound_any _ _ _ l o wr (HV.out wr B5) (HRO.out.later B5) (HTO.out.later B5) HOK.out k4 k5).mono ?_; rintro e w5 ⟨rfl, hb5⟩; rw [HSB.out]; replace HB2 := Lib.hid (HB2.out.on hb5); replace HK2 := Lib.hid (HK2.out.on hb5); clear hb5)
            clear x0 x1 x2 x3 x4 x5 xz
            clear q0 qz
            refine wp_region_mix 8 (fun W => BrKeep o (.slice ar nr cr) (.slice at1 nt ct) (.slice (some ⟨g, 0, none⟩) m sc) w2 Bo wa.heap.size m W) (fun W => BrKeep o (.slice ar nr cr) (.slice at1 nt ct) (.slice (some ⟨g, 0, none⟩) m sc) w2 Bo wa.heap.size m W ∧ BrAt W w2.heap.size u3 l acc') mixed (by kernel_rfl) (by kernel_rfl) (by kernel_rfl) ((BrKeep.stable _ _ _ _ _ _ _ _).and (StableW.br _ _ _ _)) (fun W hW => hW.1) ⟨HK2.out.on (Below.refl _ _).drew, HB2.out.on (Below.refl _ _).drew⟩ ?_
            apply Exists.intro
            refine ⟨fun W hW => ?_, ?_⟩
            · have HXh := Lib.hid hW.2.1
              have HMh := Lib.hid (row_later hW.1 HM2.out)
              obtain ⟨g', cur', hg', hh, c0, c1⟩ := CEL.out W hW
              injection hg' with hg'
              injection hg' with hg'
              subst hg'
              have xz := lt_of_block HXh.out
              have x0 := cell_of_row W _ 0 _ _ _ HXh.out
              have x1 := cell_of_row W _ 1 _ _ _ HXh.out
              have x2 := cell_of_row W _ 2 _ _ _ HXh.out
              have x3 := cell_of_row W _ 3 _ _ _ HXh.out
              have x4 := cell_of_row W _ 4 _ _ _ HXh.out
              have x5 := cell_of_row W _ 5 _ _ _ HXh.out
              simp only [List.getElem?_toArray, List.getElem?_cons_zero, List.getElem?_cons_succ] at x0 x1 x2 x3 x4 x5
              have qx0 := cell_belowBy x0
              have qx1 := cell_belowBy x1
              have qx2 := cell_belowBy x2
              have qx3 := cell_belowBy x3
              have qx4 := cell_belowBy x4
              have qx5 := cell_belowBy x5
              clear x0 x1 x2 x3 x4 x5
              have qz := lt_of_block HMh.out
              have q0 := cell_of_row W _ 0 _ _ _ HMh.out
              simp only [List.getElem?_toArray, List.getElem?_cons_zero] at q0
              have qq0 := cell_belowBy q0
              clear q0
              have y0 := cell_belowBy c0
              have y1 := cell_belowBy c1
              have yz := lt_of_cell c0
              clear c0 c1 hh
              simp only [List.take_succ_cons, List.take_zero]
              repeat (go_big_quiet_step (fail))
              exact wpQuiet_nil rfl
            · simp only [List.drop_succ_cons, List.drop_zero]
              refine tailM_step (ι := Value) (fun v => v) (fun v' W => BrKeep o (.slice ar nr cr) (.slice at1 nt ct) (.slice (some ⟨g, 0, none⟩) m sc) w2 Bo wa.heap.size m W ∧ BrAt W w2.heap.size v' l (rput sk o.id acc')) rfl (fun _ => (BrKeep.stable _ _ _ _ _ _ _ _).and (StableW.br _ _ _ _)) (fun _ _ h => h.1) (fun W hS K hK => ?_) (fun v' => ?_)
              · obtain ⟨hS1, hS2⟩ := hS
                go_simp
                refine (rput_any u3 _ l acc' sk o.id w2.heap.size W hS2 (HV.out W (below_step B2 (by omega) hS1.1)) HOK.out ND.out.1 ND.out.2 (Nat.le_trans HL2.out.1 (by have := HLJ.out; omega)) (fun p hp => Nat.le_trans (HL2.out.2 p hp) (by have := HLJ.out; omega)) hS1.1.size HZ2.out).mono ?_
                rintro e w6 ⟨v6, rfl, hbr6, hg6, _⟩
                exact hK v6 w6 ⟨hS1.put hS2 hg6, hbr6⟩
              · simp only [Act.put, List.setIfInBounds_toArray, List.set_cons_succ, List.set_cons_zero]
                refine tailM_pure v' rfl ((BrKeep.stable _ _ _ _ _ _ _ _).and (StableW.br _ _ _ _)) (fun _ h => h.1) (fun W hS K hK => ?_) (tailM_nil fun W hW => ?_)
                · go_simp
                  exact hK
                obtain ⟨hW1, hW2⟩ := hW
                have HW1 := Lib.hid hW1
                have HW2 := Lib.hid hW2
                clear hW1 hW2
                simp only [Act.put, List.setIfInBounds_toArray, List.set_cons_succ, List.set_cons_zero]
                have hlj := HLJ.out
                go_wp2
                go_roundw
                case rel => exact ⟨_, j + 1, by go_num, by omega, HW2.out, ST.out, (HL2.out.step _ _).mono (by omega), HW1.out⟩
                case measure => simp [intOf]; omega
          · obtain rfl : j = m := by omega
            have hd : decide ((j : Int) < (j : Int)) = false := decide_eq_false (by omega)
            have hd' : ¬ (j : Int) < (j : Int) := by omega
            have HN2 := Lib.hid (HIN2.out acc' (by have := HS2.out; rwa [HMS.out] at this))
            have xz := lt_of_block HXx.out
            have x0 := cell_of_row wr _ 0 _ _ _ HXx.out
            have x1 := cell_of_row wr _ 1 _ _ _ HXx.out
            have x2 := cell_of_row wr _ 2 _ _ _ HXx.out
            have x3 := cell_of_row wr _ 3 _ _ _ HXx.out
            have x4 := cell_of_row wr _ 4 _ _ _ HXx.out
            have x5 := cell_of_row wr _ 5 _ _ _ HXx.out
            simp only [List.getElem?_toArray, List.getElem?_cons_zero, List.getElem?_cons_succ] at x0 x1 x2 x3 x4 x5
            have qz := lt_of_block HMx
            have q0 := cell_of_row wr _ 0 _ _ _ HMx
            simp only [List.getElem?_toArray, List.getElem?_cons_zero] at q0
            have HMx' := Lib.hid HMx
            clear HMx
            go_wp2
            go_roundw
            case rel => exact ⟨acc', k + 1, by go_num, by omega, HB2.out, HN2.out, HL2.out.mono (by omega), HK2.out.1⟩
            case measure => simp [intOf]; omega
    · obtain rfl : k = N := by omega
      have HF := Lib.hid (show BrsAt wr u3 l by
        have h := HBR.out
        have h2 := HIN.out
        rw [← HN.out] at h2
        rw [h2.all] at h
        exact h.brs)
      have mz := lt_of_block HMr
      have m0 := cell_of_row wr _ 0 _ _ _ HMr
      simp only [List.getElem?_toArray, List.getElem?_cons_zero] at m0
      have HMr' := Lib.hid HMr
      clear HMr
      go_wp2
      go_ret
      exact ⟨_, rfl, HF.out, B3⟩
end Go.Proofs.YtbkomdinchiffaaGreat
