/- The reference's Borders. The reference's segment, Free, Segments. -/
import Derived.Test.YtbkomdinchiffaaGreatBorRABC
import Derived.Test.YtbkomdinchiffaaGreatBorLaw
import Derived.Test.YtbkomdinchiffaaGreatBorH
import Derived.Test.YtbkomdinchiffaaGreatBorMN
namespace Go.Proofs.YtbkomdinchiffaaGreat
open Go.RowKit Go.Sort

/-- The reference's borders of a map, as they lie in memory. -/
def BrsAt (w : World) (v : Value) (l : List ObjD) : Prop :=
  ∃ L : List BrM, RowE encBr 7 w v L ∧ L.map (·.1) = keysP l ∧ ∀ x ∈ L, x.2.1 = segB l x.1 ∧ StrRow w (.slice x.2.2.1 x.2.2.2.1 x.2.2.2.2) (ownF l l x.1)
theorem BrsAt.later {w w' : World} {v : Value} {l : List ObjD} (h : BrsAt w v l) (hb : Below w.heap.size w w') : BrsAt w' v l := by
  obtain ⟨L, h1, h2, h3⟩ := h
  exact ⟨L, h1.later hb, h2, fun x hx => ⟨(h3 x hx).1, (h3 x hx).2.later hb⟩⟩
theorem BrAt.brs {w : World} {base : Nat} {v : Value} {l : List ObjD} (h : BrAt w base v l (bordersP l)) : BrsAt w v l := by
  obtain ⟨L, h1, h2, h3, h4⟩ := h
  have hm : (bordersP l).map (·.1) = keysP l := by unfold bordersP; rw [List.map_map]; exact List.map_id _
  refine ⟨L, RowE.of_own encBr_len rfl h1, h2.trans hm, fun x hx => ⟨h3 x hx, ?_⟩⟩
  obtain ⟨i, hi⟩ := List.getElem?_of_mem hx
  have hl := (List.getElem?_eq_some_iff.1 hi).1
  rw [br_len h2] at hl
  have hp := List.getElem?_eq_getElem hl
  have e : x.1 = ((bordersP l)[i]).1 := by
    have := congrArg (fun M => M[i]?) h2
    simp only [List.getElem?_map, hi, hp, Option.map_some] at this
    injection this
  have e2 := (borders_mem.1 (List.getElem_mem hl)).2
  have := (h4 i x _ hi hp).row
  rwa [e2, ← e] at this
theorem BrsAt.nil (w : World) : BrsAt w (.slice none 0 0) [] := ⟨[], ⟨none, 0, rfl, fun h => by simp at h⟩, rfl, fun x hx => by cases hx⟩
theorem brs_get {w : World} {v : Value} {l : List ObjD} (h : BrsAt w v l) : ∃ (ao : Option Addr) (cap : Nat), v = .slice ao (keysP l).length cap ∧ (0 < (keysP l).length → ∃ b off, ao = some ⟨b, off, none⟩ ∧ ∀ (i : Nat) (k : KeyD), (keysP l)[i]? = some k →
    ∃ (a : Option Addr) (c : Nat), w.cell? ⟨b, off + i * 7, none⟩ = some (.string k.1) ∧ w.cell? ⟨b, off + i * 7 + 1, none⟩ = some (.string k.2) ∧ w.cell? ⟨b, off + i * 7 + 2, none⟩ = some (.int .i64 (segB l k).1.1) ∧ w.cell? ⟨b, off + i * 7 + 3, none⟩ = some (.int .i64 (segB l k).1.2) ∧
      w.cell? ⟨b, off + i * 7 + 4, none⟩ = some (.int .i64 (segB l k).2.1) ∧ w.cell? ⟨b, off + i * 7 + 5, none⟩ = some (.int .i64 (segB l k).2.2) ∧ w.cell? ⟨b, off + i * 7 + 6, none⟩ = some (.slice a (ownF l l k).length c) ∧ StrRow w (.slice a (ownF l l k).length c) (ownF l l k)) := by
  obtain ⟨L, ⟨ao, cap, rfl, hc⟩, h2, h3⟩ := h
  have hn : L.length = (keysP l).length := by rw [← h2, List.length_map]
  rw [hn] at hc ⊢
  refine ⟨ao, cap, rfl, fun h0 => ?_⟩
  obtain ⟨b, off, rfl, hcell⟩ := hc h0
  refine ⟨b, off, rfl, fun i k hk => ?_⟩
  have hi : i < L.length := by rw [hn]; exact (List.getElem?_eq_some_iff.1 hk).1
  have hx := List.getElem?_eq_getElem hi
  have e : L[i].1 = k := by
    have := congrArg (fun M => M[i]?) h2
    simp only [List.getElem?_map, hx, hk, Option.map_some] at this
    injection this
  generalize L[i] = x at hx e
  obtain ⟨xk, sg, a, n, c⟩ := x
  simp only [] at e
  subst e
  obtain ⟨h4, h5⟩ := h3 _ (List.mem_of_getElem? hx)
  simp only [] at h4 h5
  subst h4
  obtain ⟨a', c', hsl, _⟩ := id h5
  injection hsl with f1 f2 f3
  subst f2
  exact ⟨a, c, hcell i _ hx 0 _ rfl, hcell i _ hx 1 _ rfl, hcell i _ hx 2 _ rfl, hcell i _ hx 3 _ rfl, hcell i _ hx 4 _ rfl, hcell i _ hx 5 _ rfl, hcell i _ hx 6 _ rfl, h5⟩

/-- The sides of any object. -/
def sdP (o : ObjD) : List KeyD := if o.kind = 2 ∨ o.kind = 3 then sidesP o else []
theorem rsides_all (o : ObjD) (vr vt : Value) (w : World) (hr : StrRow w vr o.refs) (ht : TagRow w vt o.tags) (hob : objOK o = true) (hl : o.refs.length ≤ 100000) :
    Calls Tryz.prog 51 #[.agg #[.string o.id, .int .i64 o.kind, .int .i64 o.x, .int .i64 o.y, vr, vt]] w fun e w' => ∃ v', e = .returned v' ∧ w'.ownsRow w.heap.size 50 2 v' (sdP o).length ((sdP o).flatMap encKy) ∧ Below w.heap.size w w' := by
  unfold sdP
  split
  · rename_i hk
    refine rsides_any o vr vt w hr ht ?_ hl
    rcases hk with hk | hk
    · exact Or.inl hk
    · refine Or.inr ⟨hk, ?_⟩
      simp only [objOK, Bool.and_eq_true, decide_eq_true_eq] at hob
      obtain ⟨⟨⟨⟨⟨⟨h1, h2⟩, _⟩, h4⟩, h5⟩, h6⟩, h7⟩ := hob
      rw [hk] at h4
      have h8 : (3 : Int) ≤ (o.refs.length : Int) := h4
      omega
  · rename_i hk
    refine (rsides_none o vr vt w hr ht ⟨fun h => hk (Or.inl h), fun h => hk (Or.inr h)⟩).mono ?_
    rintro e w' ⟨rfl, hb⟩
    exact ⟨_, rfl, World.ownsRow_nil _ _ _ _, hb⟩
theorem rborders_bad (v : Value) (l : List ObjD) (w : World) (hv : ObjsIs w v l) (hok : mapOK l = false) :
    Calls Tryz.prog 22 #[.agg #[v]] w fun e w' => e = .returned (.slice none 0 0) ∧ Below w.heap.size w w' := by
  have RV := Lib.hid (fun W hb => rvalid13_any v l W (hv.later (w' := W) hb))
  have HOK := Lib.hid hok
  obtain ⟨a, cap, rfl, _⟩ := hv
  clear hok
  go_enter Tryz.func22, Tryz.ntmps22
  go_wp2_with fail
  have B1 : Below w.heap.size w (w.alloc (.cells #[.slice a l.length cap] 24)) := (by repeat' (first | exact Below.refl _ _ | refine Below.drew ?_ | refine Below.drewN' ?_ | refine Below.setCell ?_ (by first | omega | (simp; done) | exact Below.size (by assumption) | (simp; omega)) _ | refine Below.alloc ?_ (by first | omega | (simp; done) | exact Below.size (by assumption) | (simp; omega)) _ | refine Below.trans ?_ (Below.mono (by assumption) ?_) | (first | omega | (simp; done) | exact Below.size (by assumption) | (simp; omega))))
  refine (RV.out _ B1).mono ?_
  rintro e w2 ⟨rfl, hb⟩
  rw [HOK.out]
  have B2 := Lib.hid (below_step B1 (Nat.le_refl _) hb)
  clear hb B1
  go_wp2
  go_ret
  exact ⟨rfl, B2.out⟩

/-- What stays while the sides of one object are put. -/
def BrKeep (o : ObjD) (vr vt vs : Value) (w2 : World) (Bo base1 m : Nat) (W : World) : Prop :=
  Below w2.heap.size w2 W ∧ W.heap[Bo]? = some (.cells #[.string o.id, .int .i64 o.kind, .int .i64 o.x, .int .i64 o.y, vr, vt] 59) ∧ W.ownsRow base1 50 2 vs m ((sidesP o).flatMap encKy)
theorem BrKeep.on {o : ObjD} {vr vt vs : Value} {w2 W W' : World} {Bo base1 m : Nat} (h : BrKeep o vr vt vs w2 Bo base1 m W) (h2 : Below W.heap.size W W') : BrKeep o vr vt vs w2 Bo base1 m W' :=
  ⟨h.1.trans (h2.mono h.1.size), row_later h2 h.2.1, own_later h.2.2 h2⟩
theorem BrKeep.stable (o : ObjD) (vr vt vs : Value) (w2 : World) (Bo base1 m : Nat) : StableW (BrKeep o vr vt vs w2 Bo base1 m) := fun _ _ h h2 => h.on h2
theorem StableW.br (base : Nat) (v : Value) (l : List ObjD) (acc : List (KeyD × List ByteArray)) : StableW fun W => BrAt W base v l acc := fun _ _ h h2 => h.on h2
theorem own_row_ne {w : World} {base size n g : Nat} {e e' : TypeId} {v : Value} {xs : List Value} {cs : Array Value} (h : w.ownsRow base e size v n xs) (hr : w.heap[g]? = some (.cells cs e')) (hne : e ≠ e') : some g ≠ v.ownBlock := by
  intro c
  rcases h.2 with ⟨rfl, _⟩ | ⟨g', cap, cur, rfl, _, hc, _⟩
  · cases c
  · have c' : g = g' := by injection c
    subst c'
    rw [hc] at hr
    injection hr with hr
    injection hr with h1 h2
    exact hne h2
theorem own_own_ne {w : World} {base base' size size' n n' : Nat} {e e' : TypeId} {v v' : Value} {xs xs' : List Value} (h : w.ownsRow base e size v n xs) (h' : w.ownsRow base' e' size' v' n' xs') (hne : e ≠ e') : v'.ownBlock = none ∨ v'.ownBlock ≠ v.ownBlock := by
  rcases h'.2 with ⟨rfl, _⟩ | ⟨g', cap, cur, rfl, _, hc, _⟩
  · exact Or.inl rfl
  · exact Or.inr (own_row_ne h hc hne)
theorem BrKeep.put {l : List ObjD} {o : ObjD} {vr vt vs v : Value} {w2 W W' : World} {Bo base1 m : Nat} {acc : List (KeyD × List ByteArray)} (hk : BrKeep o vr vt vs w2 Bo base1 m W) (hv : BrAt W w2.heap.size v l acc) (hg : W.grownBy W' v.ownBlock) : BrKeep o vr vt vs w2 Bo base1 m W' := by
  obtain ⟨L, ho, _⟩ := hv
  exact ⟨hk.1.grown hg hk.1.size (fun j ej => (ho.lt j ej).1), (hg.block Bo (lt_of_block hk.2.1) (own_row_ne ho hk.2.1 (by decide))).trans hk.2.1, hk.2.2.kept hg (own_own_ne ho hk.2.2 (by decide))⟩
set_option maxRecDepth 100000 in
set_option maxHeartbeats 4000000 in
theorem rborders_any (v : Value) (l : List ObjD) (w : World) (hv : ObjsIs w v l) (hok : mapOK l = true) (hl : l.length ≤ 1000) (hr : ∀ o ∈ l, o.refs.length ≤ 12) :
    Calls Tryz.prog 22 #[.agg #[v]] w fun e w' => ∃ v', e = .returned v' ∧ BrsAt w' v' l ∧ Below w.heap.size w w' := by
  have mixed : Tryz.prog.follows .mixedOrders = true := by kernel_rfl
  have RV := Lib.hid (fun W hb => rvalid13_any v l W (hv.later (w' := W) hb))
  have HV := Lib.hid (fun W (hb : Below w.heap.size w W) => hv.later (w' := W) hb)
  have HOK := Lib.hid hok
  have HRR := Lib.hid hr
  obtain ⟨a, cap, rfl, hn, hc⟩ := hv
  obtain ⟨N, hN⟩ : ∃ N, l.length = N := ⟨_, rfl⟩
  rw [hN] at hn hc hl RV HV ⊢
  have HN := Lib.hid hN
  have HC := Lib.hid hc
  clear hN hc hok hr
  go_enter Tryz.func22, Tryz.ntmps22
  go_wp2_with fail
  have B1 : Below w.heap.size w (w.alloc (.cells #[.slice a N cap] 24)) := (by repeat' (first | exact Below.refl _ _ | refine Below.drew ?_ | refine Below.drewN' ?_ | refine Below.setCell ?_ (by first | omega | (simp; done) | exact Below.size (by assumption) | (simp; omega)) _ | refine Below.alloc ?_ (by first | omega | (simp; done) | exact Below.size (by assumption) | (simp; omega)) _ | refine Below.trans ?_ (Below.mono (by assumption) ?_) | (first | omega | (simp; done) | exact Below.size (by assumption) | (simp; omega))))
  have HM := row_new w (.cells #[.slice a N cap] 24)
  generalize hw1 : w.alloc (.cells #[.slice a N cap] 24) = w1
  rw [hw1] at B1 HM
  have hz1 : w.heap.size < w1.heap.size := lt_of_block HM
  have HM1 := Lib.hid HM
  clear hw1 HM
  refine (RV.out _ B1).mono ?_
  rintro e w2 ⟨rfl, hb2⟩
  rw [HOK.out]
  have B2 := below_step B1 (by omega) hb2
  have HM2 := Lib.hid (row_later hb2 HM1.out)
  have hz2 : w.heap.size < w2.heap.size := Nat.lt_of_lt_of_le hz1 hb2.size
  clear hb2 B1 HM1 RV hz1
  go_wp2_with fail
  go_loopw [3, 4] (fun v3 i wr => ∃ (acc : List (KeyD × List ByteArray)) (k : Nat), i = .int .i64 k ∧ k ≤ N ∧ BrAt wr w2.heap.size v3 l acc ∧ BrdIn l k acc ∧ BrdLe (100 * k) acc ∧ Below w2.heap.size w2 wr) (fun _ i _ => N - (intOf i).toNat)
  case atStart => exact ⟨[], 0, rfl, by omega, BrAt.nil _ _ _, BrdIn.nil l, ⟨by simp, by simp⟩, Below.refl _ _⟩
  case round =>
    obtain ⟨acc, k, rfl, hk, hbr, hin, hle, hb⟩ := hrel
    have HBR := Lib.hid hbr
    have HIN := Lib.hid hin
    have HLE := Lib.hid hle
    have B3 := below_step B2 (by omega) hb
    have HMr := row_later hb HM2.out
    have hzr := hb.size
    clear hbr hin hle
    by_cases hlt : k < N
    · obtain ⟨o, ho⟩ : ∃ o, l[k]? = some o := ⟨l[k]'(by rw [HN.out]; exact hlt), List.getElem?_eq_getElem _⟩
      have hmem := List.mem_of_getElem? ho
      obtain ⟨b, off, hab, hcell⟩ := HC.out (by omega)
      subst hab
      obtain ⟨vr, vt, c0, c1, c2, c3, c4, c5, hrr, htt, hidz⟩ := hcell k o ho
      replace c0 := cell_later B3 c0
      replace c1 := cell_later B3 c1
      replace c2 := cell_later B3 c2
      replace c3 := cell_later B3 c3
      replace c4 := cell_later B3 c4
      replace c5 := cell_later B3 c5
      obtain ⟨ar, cr, hvr, _⟩ := id hrr
      obtain ⟨at1, ct, hvt, _⟩ := id htt
      subst hvr hvt
      obtain ⟨nr, hnr⟩ : ∃ z, z = o.refs.length := ⟨_, rfl⟩
      obtain ⟨nt, hnt⟩ : ∃ z, z = o.tags.length := ⟨_, rfl⟩
      rw [← hnr] at c4 hrr
      rw [← hnt] at c5 htt
      have HRO := Lib.hid hrr
      have HTO := Lib.hid htt
      have HOO := Lib.hid ho
      have HOB := Lib.hid (map_obj HOK.out hmem)
      have HR12 := Lib.hid (HRR.out o hmem)
      have bz := lt_of_cell c0
      clear hcell ho hmem hrr htt hnr hnt
      have mz := lt_of_block HMr
      have m0 := cell_of_row wr _ 0 _ _ _ HMr
      simp only [List.getElem?_toArray, List.getElem?_cons_zero] at m0
      have HMr' := Lib.hid HMr
      clear HMr
      go_wp2_with fail
      have BA : Below wr.heap.size wr (wr.alloc (.cells #[.string o.id, .int .i64 o.kind, .int .i64 o.x, .int .i64 o.y, .slice ar nr cr, .slice at1 nt ct] 59)) := (Below.refl _ _).alloc (Nat.le_refl _) _
      have HX := row_new wr (.cells #[.string o.id, .int .i64 o.kind, .int .i64 o.x, .int .i64 o.y, .slice ar nr cr, .slice at1 nt ct] 59)
      generalize hwa : wr.alloc (.cells #[.string o.id, .int .i64 o.kind, .int .i64 o.x, .int .i64 o.y, .slice ar nr cr, .slice at1 nt ct] 59) = wa
      rw [hwa] at BA HX
      clear hwa c0 c1 c2 c3 c4 c5 bz m0 mz
      obtain ⟨Bo, hBo⟩ : ∃ z, z = wr.heap.size := ⟨_, rfl⟩
      rw [← hBo] at HX ⊢
      clear hBo
      have HX1 := Lib.hid HX
      have hza := lt_of_block HX
      have BBa := below_step B3 (by have := B3.size; omega) BA
      refine (rsides_all o _ _ wa (HRO.out.later BBa) (HTO.out.later BBa) HOB.out (by have := HR12.out; omega)).mono ?_
      rintro e wb ⟨vs, rfl, hos, hbb⟩
      have B4 := below_step BBa (by have := BBa.size; omega) hbb
      have hb4 := hb.trans ((BA.trans (hbb.mono BA.size)).mono hzr)
      have HXb := Lib.hid (row_later hbb HX1.out)
      have Bwb := BA.trans (hbb.mono BA.size)
      have HBb := Lib.hid (HBR.out.on (BA.trans (hbb.mono BA.size)))
      obtain ⟨sa, sc, hvs⟩ := own_form hos
      subst hvs
      obtain ⟨m, hm⟩ : ∃ z, z = (sdP o).length := ⟨_, rfl⟩
      rw [← hm] at hos ⊢
      have HM := Lib.hid hm
      have HOS := Lib.hid hos
      have hmb : m ≤ 100 := by
        rw [hm]; unfold sdP; have := HR12.out
        split
        · have : (sidesP o).length = sideN o := by unfold sidesP; simp
          rw [this]; unfold sideN; split <;> omega
        · simp
      clear hos hm hbb hb HBR HX1 BBa B3
      obtain ⟨wo, rfl⟩ : ∃ z : World, z = wr := ⟨_, rfl⟩
      cases hB : isB l o with
      | false =>
        have HIN2 := Lib.hid (HIN.out.skip HOO.out hB)
        have HSB := Lib.hid (show 0 < m → soundB l o = false by
          intro h0
          have hB' := hB
          unfold isB at hB'
          rw [HM.out] at h0
          unfold sdP at h0
          split at h0
          · rename_i hk2
            rw [decide_eq_true hk2, Bool.true_and] at hB'; exact hB'
          · simp at h0)
        have HKD := Lib.hid (show 0 < m → o.kind ≠ 4 ∧ o.kind ≠ 5 by
          intro h0
          rw [HM.out] at h0
          unfold sdP at h0
          split at h0
          · rename_i hk2; omega
          · simp at h0)
        clear hB
        go_wp2_with fail
        go_loopw [3, 7] (fun v3 v7 wx => v7 = .int .i64 (0 : Nat) ∧ v3 = u3 ∧ wx = wb) (fun _ _ _ => 0)
        case atStart => exact ⟨rfl, rfl, rfl⟩
        case round =>
          obtain ⟨rfl, rfl, hwx⟩ := hrel
          rw [hwx]
          clear hwx
          have HMb := row_later hb4 HM2.out
          have xz := lt_of_block HXb.out
          have x0 := cell_of_row wb _ 0 _ _ _ HXb.out
          have x1 := cell_of_row wb _ 1 _ _ _ HXb.out
          have x2 := cell_of_row wb _ 2 _ _ _ HXb.out
          have x3 := cell_of_row wb _ 3 _ _ _ HXb.out
          have x4 := cell_of_row wb _ 4 _ _ _ HXb.out
          have x5 := cell_of_row wb _ 5 _ _ _ HXb.out
          simp only [List.getElem?_toArray, List.getElem?_cons_zero, List.getElem?_cons_succ] at x0 x1 x2 x3 x4 x5
          have qz := lt_of_block HMb
          have q0 := cell_of_row wb _ 0 _ _ _ HMb
          simp only [List.getElem?_toArray, List.getElem?_cons_zero] at q0
          have HMb' := Lib.hid HMb
          clear HMb
          by_cases h0 : 0 < m
          · have hd : decide (((0 : Nat) : Int) < (m : Int)) = true := decide_eq_true (by omega)
            have hd' : ((0 : Nat) : Int) < (m : Int) := by omega
            obtain ⟨k4, k5⟩ := HKD.out h0
            go_wp2_with (go_at_call 52; refine (rsound_any _ _ _ l o wb (HV.out wb B4) (HRO.out.later B4) (HTO.out.later B4) HOK.out k4 k5).mono ?_; rintro e w5 ⟨rfl, hb5⟩; rw [HSB.out h0]; have HB5 := Lib.hid (HBb.out.on hb5); have hb9 := Lib.hid (hb4.trans (hb5.mono (by have := hb4.size; omega))); clear hb5 hb4)
            go_roundw
            case rel => exact ⟨acc, k + 1, by go_num, by omega, HB5.out, HIN2.out, HLE.out.mono (by omega), hb9.out⟩
            case measure => simp [intOf]; omega
          · have hd : decide (((0 : Nat) : Int) < (m : Int)) = false := decide_eq_false (by omega)
            have hd' : ¬ ((0 : Nat) : Int) < (m : Int) := by omega
            go_wp2
            go_roundw
            case rel => exact ⟨acc, k + 1, by go_num, by omega, HBb.out, HIN2.out, HLE.out.mono (by omega), hb4⟩
            case measure => simp [intOf]; omega
      | true =>
        have HIN2 := Lib.hid (fun acc' h => BrdIn.next (acc := acc') HOO.out hB h)
        have hkk := isB_kind hB
        have HSB := Lib.hid (show soundB l o = true by
          unfold isB at hB; rw [Bool.and_eq_true] at hB; exact hB.2)
        have k4 : o.kind ≠ 4 := by omega
        have k5 : o.kind ≠ 5 := by omega
        have hsd : sdP o = sidesP o := by unfold sdP; rw [if_pos hkk]
        have hmS : m = sideN o := by rw [HM.out, hsd]; unfold sidesP; simp
        have HKP := Lib.hid (show BrKeep o (.slice ar nr cr) (.slice at1 nt ct) (.slice sa m sc) w2 Bo wa.heap.size m wb from ⟨hb4, HXb.out, by have := HOS.out; rwa [hsd] at this⟩)
        have HST := Lib.hid (HIN.out.start o)
        have HSTEP := Lib.hid (fun (j : Nat) acc' (hj : j < m) h => BrdSt.step (acc := acc') HOK.out HOO.out (show j < sideN o by omega) h)
        have HND := Lib.hid (fun (j : Nat) (hj : j < m) => side_nodes HSB.out (show j < sideN o by omega))
        have HGET := Lib.hid (fun (j : Nat) (hj : j < m) => sides_get (show j < sideN o by omega))
        have HML := Lib.hid (show m = (sidesP o).length by rw [HM.out, hsd])
        have HMS := Lib.hid hmS
        have HZ2 := Lib.hid hidz
        clear hsd hmS HM HOS hkk hB hidz
        go_wp2_with fail
        go_loopw [3, 7] (fun v3 v7 wx => ∃ (acc' : List (KeyD × List ByteArray)) (j : Nat), v7 = .int .i64 j ∧ j ≤ m ∧ BrAt wx w2.heap.size v3 l acc' ∧ BrdSt l (l.take k) o j acc' ∧ BrdLe (100 * k + j) acc' ∧ BrKeep o (.slice ar nr cr) (.slice at1 nt ct) (.slice sa m sc) w2 Bo wa.heap.size m wx) (fun _ v7 _ => m - (intOf v7).toNat)
        case atStart => exact ⟨acc, 0, rfl, by omega, HBb.out, HST.out, HLE.out.mono (by omega), HKP.out⟩
        case round =>
          obtain ⟨acc', j, rfl, hj, hbr2, hst2, hle2, hkp⟩ := hrel
          have HB2 := Lib.hid hbr2
          have HS2 := Lib.hid hst2
          have HL2 := Lib.hid hle2
          have HK2 := Lib.hid hkp
          have B5 := below_step B2 (by omega) hkp.1
          have HXx := Lib.hid hkp.2.1
          have HMx := row_later hkp.1 HM2.out
          clear hbr2 hst2 hle2 hkp
          by_cases hlj : j < m
          · have hd : decide ((j : Int) < (m : Int)) = true := decide_eq_true (by omega)
            have hd' : (j : Int) < (m : Int) := by omega
            have hj0 : (0 : Int) ≤ (j : Int) := by omega
            obtain ⟨g, cur, hg, _⟩ := own_two HK2.out.2.2 HML.out (HGET.out j hlj)
            subst hg
            have CEL := Lib.hid (fun (W : World) (h : BrKeep o (.slice ar nr cr) (.slice at1 nt ct) (.slice (some ⟨g, 0, none⟩) m sc) w2 Bo wa.heap.size m W) => own_two h.2.2 HML.out (HGET.out j hlj))
            have ND := Lib.hid (HND.out j hlj)
            have ST := Lib.hid (HSTEP.out j acc' hlj HS2.out)
            have HLJ := Lib.hid hlj
            obtain ⟨sk, hsk⟩ : ∃ z, z = sideAt o j := ⟨_, rfl⟩
            rw [← hsk] at CEL ND ST
            clear hsk hlj
            have xz := lt_of_block HXx.out
            have x0 := cell_of_row wr _ 0 _ _ _ HXx.out
            have x1 := cell_of_row wr _ 1 _ _ _ HXx.out
            have x2 := cell_of_row wr _ 2 _ _ _ HXx.out
            have x3 := cell_of_row wr _ 3 _ _ _ HXx.out
            have x4 := cell_of_row wr _ 4 _ _ _ HXx.out
            have x5 := cell_of_row wr _ 5 _ _ _ HXx.out
            simp only [List.getElem?_toArray, List.getElem?_cons_zero, List.getElem?_cons_succ] at x0 x1 x2 x3 x4 x5
            have qz := lt_of_block HMx
            have q0 := cell_of_row wr _ 0 _ _ _ HMx
            simp only [List.getElem?_toArray, List.getElem?_cons_zero] at q0
            have HMx' := Lib.hid HMx
            clear HMx
            go_wp2_with (go_at_call 52; refine (rsound_any _ _ _ l o wr (HV.out wr B5) (HRO.out.later B5) (HTO.out.later B5) HOK.out k4 k5).mono ?_; rintro e w5 ⟨rfl, hb5⟩; rw [HSB.out]; replace HB2 := Lib.hid (HB2.out.on hb5); replace HK2 := Lib.hid (HK2.out.on hb5); clear hb5)
            clear x0 x1 x2 x3 x4 x5 xz
            clear q0 qz
            refine wp_region_mix 8 (fun W => BrKeep o (.slice ar nr cr) (.slice at1 nt ct) (.slice (some ⟨g, 0, none⟩) m sc) w2 Bo wa.heap.size m W) (fun W => BrKeep o (.slice ar nr cr) (.slice at1 nt ct) (.slice (some ⟨g, 0, none⟩) m sc) w2 Bo wa.heap.size m W ∧ BrAt W w2.heap.size u3 l acc') mixed (by kernel_rfl) (by kernel_rfl) (by kernel_rfl) ((BrKeep.stable _ _ _ _ _ _ _ _).and (StableW.br _ _ _ _)) (fun W hW => hW.1) ⟨HK2.out.on (Below.refl _ _).drew, HB2.out.on (Below.refl _ _).drew⟩ ?_
            apply Exists.intro
            refine ⟨fun W hW => ?_, ?_⟩
            · have HXh := Lib.hid hW.2.1
              have HMh := Lib.hid (row_later hW.1 HM2.out)
              obtain ⟨g', cur', hg', hh, c0, c1⟩ := CEL.out W hW
              injection hg' with hg'
              injection hg' with hg'
              subst hg'
              have xz := lt_of_block HXh.out
              have x0 := cell_of_row W _ 0 _ _ _ HXh.out
              have x1 := cell_of_row W _ 1 _ _ _ HXh.out
              have x2 := cell_of_row W _ 2 _ _ _ HXh.out
              have x3 := cell_of_row W _ 3 _ _ _ HXh.out
              have x4 := cell_of_row W _ 4 _ _ _ HXh.out
              have x5 := cell_of_row W _ 5 _ _ _ HXh.out
              simp only [List.getElem?_toArray, List.getElem?_cons_zero, List.getElem?_cons_succ] at x0 x1 x2 x3 x4 x5
              have qx0 := cell_belowBy x0
              have qx1 := cell_belowBy x1
              have qx2 := cell_belowBy x2
              have qx3 := cell_belowBy x3
              have qx4 := cell_belowBy x4
              have qx5 := cell_belowBy x5
              clear x0 x1 x2 x3 x4 x5
              have qz := lt_of_block HMh.out
              have q0 := cell_of_row W _ 0 _ _ _ HMh.out
              simp only [List.getElem?_toArray, List.getElem?_cons_zero] at q0
              have qq0 := cell_belowBy q0
              clear q0
              have y0 := cell_belowBy c0
              have y1 := cell_belowBy c1
              have yz := lt_of_cell c0
              clear c0 c1 hh
              simp only [List.take_succ_cons, List.take_zero]
              repeat (go_big_quiet_step (fail))
              exact wpQuiet_nil rfl
            · simp only [List.drop_succ_cons, List.drop_zero]
              refine tailM_step (ι := Value) (fun v => v) (fun v' W => BrKeep o (.slice ar nr cr) (.slice at1 nt ct) (.slice (some ⟨g, 0, none⟩) m sc) w2 Bo wa.heap.size m W ∧ BrAt W w2.heap.size v' l (rput sk o.id acc')) rfl (fun _ => (BrKeep.stable _ _ _ _ _ _ _ _).and (StableW.br _ _ _ _)) (fun _ _ h => h.1) (fun W hS K hK => ?_) (fun v' => ?_)
              · obtain ⟨hS1, hS2⟩ := hS
                go_simp
                refine (rput_any u3 _ l acc' sk o.id w2.heap.size W hS2 (HV.out W (below_step B2 (by omega) hS1.1)) HOK.out ND.out.1 ND.out.2 (Nat.le_trans HL2.out.1 (by have := HLJ.out; omega)) (fun p hp => Nat.le_trans (HL2.out.2 p hp) (by have := HLJ.out; omega)) hS1.1.size HZ2.out).mono ?_
                rintro e w6 ⟨v6, rfl, hbr6, hg6, _⟩
                exact hK v6 w6 ⟨hS1.put hS2 hg6, hbr6⟩
              · simp only [Act.put, List.setIfInBounds_toArray, List.set_cons_succ, List.set_cons_zero]
                refine tailM_pure v' rfl ((BrKeep.stable _ _ _ _ _ _ _ _).and (StableW.br _ _ _ _)) (fun _ h => h.1) (fun W hS K hK => ?_) (tailM_nil fun W hW => ?_)
                · go_simp
                  exact hK
                obtain ⟨hW1, hW2⟩ := hW
                have HW1 := Lib.hid hW1
                have HW2 := Lib.hid hW2
                clear hW1 hW2
                simp only [Act.put, List.setIfInBounds_toArray, List.set_cons_succ, List.set_cons_zero]
                have hlj := HLJ.out
                go_wp2
                go_roundw
                case rel => exact ⟨_, j + 1, by go_num, by omega, HW2.out, ST.out, (HL2.out.step _ _).mono (by omega), HW1.out⟩
                case measure => simp [intOf]; omega
          · obtain rfl : j = m := by omega
            have hd : decide ((j : Int) < (j : Int)) = false := decide_eq_false (by omega)
            have hd' : ¬ (j : Int) < (j : Int) := by omega
            have HN2 := Lib.hid (HIN2.out acc' (by have := HS2.out; rwa [HMS.out] at this))
            have xz := lt_of_block HXx.out
            have x0 := cell_of_row wr _ 0 _ _ _ HXx.out
            have x1 := cell_of_row wr _ 1 _ _ _ HXx.out
            have x2 := cell_of_row wr _ 2 _ _ _ HXx.out
            have x3 := cell_of_row wr _ 3 _ _ _ HXx.out
            have x4 := cell_of_row wr _ 4 _ _ _ HXx.out
            have x5 := cell_of_row wr _ 5 _ _ _ HXx.out
            simp only [List.getElem?_toArray, List.getElem?_cons_zero, List.getElem?_cons_succ] at x0 x1 x2 x3 x4 x5
            have qz := lt_of_block HMx
            have q0 := cell_of_row wr _ 0 _ _ _ HMx
            simp only [List.getElem?_toArray, List.getElem?_cons_zero] at q0
            have HMx' := Lib.hid HMx
            clear HMx
            go_wp2
            go_roundw
            case rel => exact ⟨acc', k + 1, by go_num, by omega, HB2.out, HN2.out, HL2.out.mono (by omega), HK2.out.1⟩
            case measure => simp [intOf]; omega
    · obtain rfl : k = N := by omega
      have HF := Lib.hid (show BrsAt wr u3 l by
        have h := HBR.out
        have h2 := HIN.out
        rw [← HN.out] at h2
        rw [h2.all] at h
        exact h.brs)
      have mz := lt_of_block HMr
      have m0 := cell_of_row wr _ 0 _ _ _ HMr
      simp only [List.getElem?_toArray, List.getElem?_cons_zero] at m0
      have HMr' := Lib.hid HMr
      clear HMr
      go_wp2
      go_ret
      exact ⟨_, rfl, HF.out, B3⟩
end Go.Proofs.YtbkomdinchiffaaGreat

namespace Go.Proofs.YtbkomdinchiffaaGreat
open Go.RowKit Go.Sort

theorem rsegment_any (a b : ByteArray) (px py qx qy : Int) (vo : Option Addr) (n c : Nat) (w : World) :
    Calls Tryz.prog 33 #[.agg #[.string a, .string b, .int .i64 px, .int .i64 py, .int .i64 qx, .int .i64 qy, .slice vo n c]] w fun e w' => e = .returned (.agg #[.int .i64 px, .int .i64 py, .int .i64 qx, .int .i64 qy]) ∧ Below w.heap.size w w' := by
  go_enter Tryz.func33, Tryz.ntmps33
  go_wp2
  refine bodyPost_ret (v := .agg #[.int .i64 px, .int .i64 py, .int .i64 qx, .int .i64 qy]) ?_ rfl ⟨rfl, (by repeat' (first | exact Below.refl _ _ | refine Below.drew ?_ | refine Below.drewN' ?_ | refine Below.setCell ?_ (by first | omega | (simp; done) | exact Below.size (by assumption) | (simp; omega)) _ | refine Below.alloc ?_ (by first | omega | (simp; done) | exact Below.size (by assumption) | (simp; omega)) _ | refine Below.trans ?_ (Below.mono (by assumption) ?_) | (first | omega | (simp; done) | exact Below.size (by assumption) | (simp; omega))))⟩
  simp [results, Tryz.results33, go_sem]

theorem rfree_bad (v : Value) (l : List ObjD) (s : Sg) (w : World) (hv : ObjsIs w v l) (hok : mapOK l = false) :
    Calls Tryz.prog 19 #[.agg #[v], sgV s] w fun e w' => e = .returned (.bool false) ∧ Below w.heap.size w w' := by
  have RV := Lib.hid (fun W hb => rvalid13_any v l W (hv.later (w' := W) hb))
  have HOK := Lib.hid hok
  obtain ⟨a, cap, rfl, _⟩ := hv
  obtain ⟨⟨ax, ay⟩, ⟨bx, by1⟩⟩ := s
  clear hok
  go_enter Tryz.func19, Tryz.ntmps19
  go_wp2_with fail
  have B1 : Below w.heap.size w ((w.alloc (.cells #[.slice a l.length cap] 24)).alloc (.cells #[.int .i64 ax, .int .i64 ay, .int .i64 bx, .int .i64 by1] 39)) := (by repeat' (first | exact Below.refl _ _ | refine Below.drew ?_ | refine Below.drewN' ?_ | refine Below.setCell ?_ (by first | omega | (simp; done) | exact Below.size (by assumption) | (simp; omega)) _ | refine Below.alloc ?_ (by first | omega | (simp; done) | exact Below.size (by assumption) | (simp; omega)) _ | refine Below.trans ?_ (Below.mono (by assumption) ?_) | (first | omega | (simp; done) | exact Below.size (by assumption) | (simp; omega))))
  refine (RV.out _ B1).mono ?_
  rintro e w2 ⟨rfl, hb⟩
  rw [HOK.out]
  have B2 := Lib.hid (below_step B1 (by simp) hb)
  clear hb B1
  go_wp2
  go_ret
  exact ⟨rfl, B2.out⟩
def okM (n : Int) : Prop := n = 0 ∨ n = 1 ∨ n = 4
set_option maxRecDepth 100000 in
set_option maxHeartbeats 4000000 in
theorem rfree_any (v : Value) (l : List ObjD) (s : Sg) (w : World) (hv : ObjsIs w v l) (hok : mapOK l = true) (hl : l.length ≤ 1000) (hr : ∀ o ∈ l, o.refs.length ≤ 12) :
    Calls Tryz.prog 19 #[.agg #[v], sgV s] w fun e w' => e = .returned (.bool (freeP l s)) ∧ Below w.heap.size w w' := by
  have mixed : Tryz.prog.follows .mixedOrders = true := by kernel_rfl
  have RV := Lib.hid (fun W hb => rvalid13_any v l W (hv.later (w' := W) hb))
  have RB := Lib.hid (fun W hb => rborders_any v l W (hv.later (w' := W) hb) hok hl hr)
  have HOK := Lib.hid hok
  have HFM := Lib.hid (@free_mem l s)
  have hkl := keys_len hok
  have hkb : (keysP l).length ≤ 2000000000 := by omega
  clear hkl
  obtain ⟨a, cap, rfl, _⟩ := hv
  obtain ⟨res, hres⟩ : ∃ z, z = freeP l s := ⟨_, rfl⟩
  rw [← hres] at HFM ⊢
  clear hok hl hr hres
  obtain ⟨⟨ax, ay⟩, ⟨bx, by1⟩⟩ := s
  cases hnr : nearS ((ax, ay), (bx, by1)) with
  | false =>
    have HNR := Lib.hid hnr
    have HE := Lib.hid (show res = false by
      cases res with
      | false => rfl
      | true => have := (HFM.out.1 rfl).1; rw [hnr] at this; cases this)
    clear hnr
    go_enter Tryz.func19, Tryz.ntmps19
    go_wp2_with fail
    have B1 : Below w.heap.size w ((w.alloc (.cells #[.slice a l.length cap] 24)).alloc (.cells #[.int .i64 ax, .int .i64 ay, .int .i64 bx, .int .i64 by1] 39)) := (by repeat' (first | exact Below.refl _ _ | refine Below.drew ?_ | refine Below.drewN' ?_ | refine Below.setCell ?_ (by first | omega | (simp; done) | exact Below.size (by assumption) | (simp; omega)) _ | refine Below.alloc ?_ (by first | omega | (simp; done) | exact Below.size (by assumption) | (simp; omega)) _ | refine Below.trans ?_ (Below.mono (by assumption) ?_) | (first | omega | (simp; done) | exact Below.size (by assumption) | (simp; omega))))
    have HS1 := row_new1 w (.cells #[.slice a l.length cap] 24) (.cells #[.int .i64 ax, .int .i64 ay, .int .i64 bx, .int .i64 by1] 39)
    have HM1 := row_past (o' := .cells #[.int .i64 ax, .int .i64 ay, .int .i64 bx, .int .i64 by1] 39) (row_new w (.cells #[.slice a l.length cap] 24))
    generalize hw1 : (w.alloc (.cells #[.slice a l.length cap] 24)).alloc (.cells #[.int .i64 ax, .int .i64 ay, .int .i64 bx, .int .i64 by1] 39) = w1
    rw [hw1] at B1 HS1 HM1
    have hz1 : w.heap.size + 2 ≤ w1.heap.size := by rw [← hw1]; simp
    clear hw1
    refine (RV.out _ B1).mono ?_
    rintro e w2 ⟨rfl, hb⟩
    rw [HOK.out]
    have B2 := below_step B1 (by omega) hb
    have hz2 : w.heap.size + 2 ≤ w2.heap.size := Nat.le_trans hz1 hb.size
    have HS2 := Lib.hid (row_later hb HS1)
    have HM2 := Lib.hid (row_later hb HM1)
    clear hb B1 HS1 HM1 hz1
    have sz := lt_of_block HS2.out
    have s0 := cell_of_row w2 _ 0 _ _ _ HS2.out
    have s1 := cell_of_row w2 _ 1 _ _ _ HS2.out
    have s2 := cell_of_row w2 _ 2 _ _ _ HS2.out
    have s3 := cell_of_row w2 _ 3 _ _ _ HS2.out
    simp only [List.getElem?_toArray, List.getElem?_cons_zero, List.getElem?_cons_succ] at s0 s1 s2 s3
    go_wp2_with fail
    refine (rseg_any ((ax, ay), (bx, by1)) _).mono ?_
    rintro e w3 ⟨rfl, hb⟩
    rw [HNR.out]
    have B3 := below_step B2 (by omega) hb
    have HS3 := Lib.hid (row_later hb HS2.out)
    have HM3 := Lib.hid (row_later hb HM2.out)
    have hz3 : w.heap.size + 2 ≤ w3.heap.size := Nat.le_trans hz2 hb.size
    clear hb B2 hz2 HS2 HM2 s0 s1 s2 s3
    go_wp2
    go_ret
    exact ⟨by rw [HE.out] <;> rfl, B3⟩
  | true =>
    have HNR := Lib.hid hnr
    clear hnr
    go_enter Tryz.func19, Tryz.ntmps19
    go_wp2_with fail
    have B1 : Below w.heap.size w ((w.alloc (.cells #[.slice a l.length cap] 24)).alloc (.cells #[.int .i64 ax, .int .i64 ay, .int .i64 bx, .int .i64 by1] 39)) := (by repeat' (first | exact Below.refl _ _ | refine Below.drew ?_ | refine Below.drewN' ?_ | refine Below.setCell ?_ (by first | omega | (simp; done) | exact Below.size (by assumption) | (simp; omega)) _ | refine Below.alloc ?_ (by first | omega | (simp; done) | exact Below.size (by assumption) | (simp; omega)) _ | refine Below.trans ?_ (Below.mono (by assumption) ?_) | (first | omega | (simp; done) | exact Below.size (by assumption) | (simp; omega))))
    have HS1 := row_new1 w (.cells #[.slice a l.length cap] 24) (.cells #[.int .i64 ax, .int .i64 ay, .int .i64 bx, .int .i64 by1] 39)
    have HM1 := row_past (o' := .cells #[.int .i64 ax, .int .i64 ay, .int .i64 bx, .int .i64 by1] 39) (row_new w (.cells #[.slice a l.length cap] 24))
    generalize hw1 : (w.alloc (.cells #[.slice a l.length cap] 24)).alloc (.cells #[.int .i64 ax, .int .i64 ay, .int .i64 bx, .int .i64 by1] 39) = w1
    rw [hw1] at B1 HS1 HM1
    have hz1 : w.heap.size + 2 ≤ w1.heap.size := by rw [← hw1]; simp
    clear hw1
    refine (RV.out _ B1).mono ?_
    rintro e w2 ⟨rfl, hb⟩
    rw [HOK.out]
    have B2 := below_step B1 (by omega) hb
    have hz2 : w.heap.size + 2 ≤ w2.heap.size := Nat.le_trans hz1 hb.size
    have HS2 := Lib.hid (row_later hb HS1)
    have HM2 := Lib.hid (row_later hb HM1)
    clear hb B1 HS1 HM1 hz1
    have sz := lt_of_block HS2.out
    have s0 := cell_of_row w2 _ 0 _ _ _ HS2.out
    have s1 := cell_of_row w2 _ 1 _ _ _ HS2.out
    have s2 := cell_of_row w2 _ 2 _ _ _ HS2.out
    have s3 := cell_of_row w2 _ 3 _ _ _ HS2.out
    simp only [List.getElem?_toArray, List.getElem?_cons_zero, List.getElem?_cons_succ] at s0 s1 s2 s3
    go_wp2_with fail
    refine (rseg_any ((ax, ay), (bx, by1)) _).mono ?_
    rintro e w3 ⟨rfl, hb⟩
    rw [HNR.out]
    have B3 := below_step B2 (by omega) hb
    have HS3 := Lib.hid (row_later hb HS2.out)
    have HM3 := Lib.hid (row_later hb HM2.out)
    have hz3 : w.heap.size + 2 ≤ w3.heap.size := Nat.le_trans hz2 hb.size
    clear hb B2 hz2 HS2 HM2 s0 s1 s2 s3
    have mz := lt_of_block HM3.out
    have m0 := cell_of_row w3 _ 0 _ _ _ HM3.out
    simp only [List.getElem?_toArray, List.getElem?_cons_zero] at m0
    go_wp2_with fail
    refine (RB.out _ B3).mono ?_
    rintro e w4 ⟨vB, rfl, hbs, hb⟩
    have B4 := below_step B3 (by omega) hb
    have HS4 := Lib.hid (row_later hb HS3.out)
    have hz4 : w.heap.size + 2 ≤ w4.heap.size := Nat.le_trans hz3 hb.size
    obtain ⟨ao, co, rfl, hc⟩ := brs_get hbs
    obtain ⟨N, hN⟩ : ∃ N, (keysP l).length = N := ⟨_, rfl⟩
    rw [hN] at hc hkb ⊢
    have HN' := Lib.hid hN
    have HC := Lib.hid hc
    clear hb B3 hz3 HS3 HM3 m0 mz hbs hc hN RB RV
    go_wp2_with fail
    go_loopw [6] (fun v6 wr => ∃ i : Nat, v6 = .int .i64 i ∧ i ≤ N ∧ (∀ k ∈ (keysP l).take i, okM (meetsR (segB l k) ((ax, ay), (bx, by1)))) ∧ Below w4.heap.size w4 wr) (fun v6 _ => N - (intOf v6).toNat)
    case atStart => exact ⟨0, rfl, by omega, by simp, Below.refl _ _⟩
    case round =>
      obtain ⟨i, rfl, hi, hall, hbr⟩ := hrel
      have HALL := Lib.hid hall
      have B5 := below_step B4 (by omega) hbr
      clear hall
      by_cases hlt : i < N
      · obtain ⟨k, hk⟩ : ∃ k, (keysP l)[i]? = some k := ⟨(keysP l)[i]'(by rw [HN'.out]; exact hlt), List.getElem?_eq_getElem _⟩
        obtain ⟨b, off, hab, hcell⟩ := HC.out (by omega)
        subst hab
        obtain ⟨oa, oc, c0, c1, c2, c3, c4, c5, c6, _⟩ := hcell i k hk
        have q0 := cell_belowBy (cell_later hbr c0)
        have q1 := cell_belowBy (cell_later hbr c1)
        have q2 := cell_belowBy (cell_later hbr c2)
        have q3 := cell_belowBy (cell_later hbr c3)
        have q4 := cell_belowBy (cell_later hbr c4)
        have q5 := cell_belowBy (cell_later hbr c5)
        have q6 := cell_belowBy (cell_later hbr c6)
        have bz := lt_of_cell (cell_later hbr c0)
        have hi1 : (0 : Int) ≤ (i : Int) := by omega
        have hi2 : (i : Int) < (N : Int) := by omega
        have HSr := Lib.hid (row_later hbr HS4.out)
        have MT := Lib.hid (fun W => rmeets_any (segB l k) ((ax, ay), (bx, by1)) W)
        obtain ⟨kd, hkd⟩ : ∃ z, z = meetsR (segB l k) ((ax, ay), (bx, by1)) := ⟨_, rfl⟩
        rw [← hkd] at MT
        have HN := Lib.hid (fun (h : okM kd) => (show ∀ k ∈ (keysP l).take (i + 1), okM (meetsR (segB l k) ((ax, ay), (bx, by1))) from fun k' hk' => by
          obtain ⟨hk2, e⟩ := List.getElem?_eq_some_iff.1 hk
          rw [List.take_succ_eq_append_getElem hk2, e] at hk'
          rcases List.mem_append.1 hk' with hk' | hk'
          · exact HALL.out k' hk'
          · rw [List.mem_singleton.1 hk', ← hkd]; exact h))
        have HB := Lib.hid (fun (h : ¬ okM kd) => (show res = false by
          cases res with
          | false => rfl
          | true => exact absurd ((HFM.out.1 rfl).2 k (List.mem_of_getElem? hk)) (by rw [← hkd]; exact h)))
        generalize segB l k = sg at q2 q3 q4 q5 MT
        obtain ⟨⟨px, py⟩, ⟨qx, qy⟩⟩ := sg
        have sz := lt_of_block HSr.out
        have s0 := cell_of_row wr _ 0 _ _ _ HSr.out
        have s1 := cell_of_row wr _ 1 _ _ _ HSr.out
        have s2 := cell_of_row wr _ 2 _ _ _ HSr.out
        have s3 := cell_of_row wr _ 3 _ _ _ HSr.out
        simp only [List.getElem?_toArray, List.getElem?_cons_zero, List.getElem?_cons_succ] at s0 s1 s2 s3
        have qs0 := cell_belowBy s0
        have qs1 := cell_belowBy s1
        have qs2 := cell_belowBy s2
        have qs3 := cell_belowBy s3
        clear s0 s1 s2 s3
        clear hcell hk c0 c1 c2 c3 c4 c5 c6 hkd
        by_cases k0 : kd = 0
        · replace HN := Lib.hid (HN.out (Or.inl k0))
          subst k0
          go_wp2_with fail
          refine wp_region_quiet_below mixed (by kernel_rfl) ?_
          repeat (go_big_quiet_step (first | (go_at_call 33; exact calls_belowBy (rsegment_any _ _ _ _ _ _ _ _ _ _)) | (go_at_call 49; exact calls_belowBy (MT.out _))))
          refine wpQuiet_nil ?_
          intro w8 hw'
          obtain ⟨⟨wq, hbq⟩, hw''⟩ := hw'
          subst hw''
          have B8 := below_step B5 (Nat.le_refl _) hbq
          clear q0 q1 q2 q3 q4 q5 q6
          go_wp2
          go_roundw
          case rel => exact ⟨i + 1, by go_num, by omega, HN.out, hbr.trans (hbq.mono hbr.size)⟩
          case measure => simp [intOf]; omega
        by_cases k1 : kd = 1
        · replace HN := Lib.hid (HN.out (Or.inr (Or.inl k1)))
          subst k1
          go_wp2_with fail
          refine wp_region_quiet_below mixed (by kernel_rfl) ?_
          repeat (go_big_quiet_step (first | (go_at_call 33; exact calls_belowBy (rsegment_any _ _ _ _ _ _ _ _ _ _)) | (go_at_call 49; exact calls_belowBy (MT.out _))))
          refine wpQuiet_nil ?_
          intro w8 hw'
          obtain ⟨⟨wq, hbq⟩, hw''⟩ := hw'
          subst hw''
          have B8 := below_step B5 (Nat.le_refl _) hbq
          clear q0 q1 q2 q3 q4 q5 q6
          go_wp2
          go_roundw
          case rel => exact ⟨i + 1, by go_num, by omega, HN.out, hbr.trans (hbq.mono hbr.size)⟩
          case measure => simp [intOf]; omega
        by_cases k4 : kd = 4
        · replace HN := Lib.hid (HN.out (Or.inr (Or.inr k4)))
          subst k4
          go_wp2_with fail
          refine wp_region_quiet_below mixed (by kernel_rfl) ?_
          repeat (go_big_quiet_step (first | (go_at_call 33; exact calls_belowBy (rsegment_any _ _ _ _ _ _ _ _ _ _)) | (go_at_call 49; exact calls_belowBy (MT.out _))))
          refine wpQuiet_nil ?_
          intro w8 hw'
          obtain ⟨⟨wq, hbq⟩, hw''⟩ := hw'
          subst hw''
          have B8 := below_step B5 (Nat.le_refl _) hbq
          clear q0 q1 q2 q3 q4 q5 q6
          go_wp2
          go_roundw
          case rel => exact ⟨i + 1, by go_num, by omega, HN.out, hbr.trans (hbq.mono hbr.size)⟩
          case measure => simp [intOf]; omega
        have HE := Lib.hid (HB.out (by unfold okM; omega))
        have n0 : (kd != 0) = true := by simp [k0]
        have n1 : (kd != 1) = true := by simp [k1]
        have n4 : (kd != 4) = true := by simp [k4]
        have m0 : (kd == 0) = false := beq_false_of_ne k0
        have m1 : (kd == 1) = false := beq_false_of_ne k1
        have m4 : (kd == 4) = false := beq_false_of_ne k4
        go_wp2_with fail
        refine wp_region_quiet_below mixed (by kernel_rfl) ?_
        repeat (go_big_quiet_step (first | (go_at_call 33; exact calls_belowBy (rsegment_any _ _ _ _ _ _ _ _ _ _)) | (go_at_call 49; exact calls_belowBy (MT.out _))))
        refine wpQuiet_nil ?_
        intro w8 hw'
        obtain ⟨⟨wq, hbq⟩, hw''⟩ := hw'
        subst hw''
        have B8 := below_step B5 (Nat.le_refl _) hbq
        clear q0 q1 q2 q3 q4 q5 q6
        go_wp2
        go_ret
        exact ⟨by rw [HE.out] <;> rfl, B8⟩
      · obtain rfl : i = N := by omega
        have HE := Lib.hid (show res = true from HFM.out.2 ⟨HNR.out, fun k hk => HALL.out k (by rw [List.take_of_length_le (by rw [HN'.out]; exact Nat.le_refl _)]; exact hk)⟩)
        go_wp2
        go_ret
        exact ⟨by rw [HE.out] <;> rfl, B5⟩
set_option maxRecDepth 100000 in
set_option maxHeartbeats 4000000 in
theorem rsegments_of (a : Option Addr) (n cap : Nat) (l : List ObjD) (w : World) (hkl : (keysP l).length ≤ 2000000000)
    (hrb : ∀ W, Below w.heap.size w W → Calls Tryz.prog 22 #[.agg #[.slice a n cap]] W fun e w' => ∃ v', e = .returned v' ∧ BrsAt w' v' l ∧ Below W.heap.size W w') :
    Calls Tryz.prog 13 #[.agg #[.slice a n cap]] w fun e w' => ∃ v1 v2, e = .returned (.tuple #[v1, v2]) ∧ RowE encSg 4 w' v1 ((keysP l).map (segB l)) ∧ TextsAt w' v2 ((keysP l).map (ownF l l)) ∧ Below w.heap.size w w' := by
  have RB := Lib.hid hrb
  obtain ⟨i0, hi, hi0, hi1, hi2⟩ := info_parts infoOw
  obtain ⟨j0, hj, hj0, hj1, hj2⟩ := info_parts infoSg
  clear hrb
  go_enter Tryz.func13, Tryz.ntmps13
  go_wp2_with fail
  have B1 : Below w.heap.size w (w.alloc (.cells #[.slice a n cap] 24)) := (by repeat' (first | exact Below.refl _ _ | refine Below.drew ?_ | refine Below.drewN' ?_ | refine Below.setCell ?_ (by first | omega | (simp; done) | exact Below.size (by assumption) | (simp; omega)) _ | refine Below.alloc ?_ (by first | omega | (simp; done) | exact Below.size (by assumption) | (simp; omega)) _ | refine Below.trans ?_ (Below.mono (by assumption) ?_) | (first | omega | (simp; done) | exact Below.size (by assumption) | (simp; omega))))
  have hz1 : w.heap.size ≤ (w.alloc (.cells #[.slice a n cap] 24)).heap.size := by simp
  refine (RB.out _ B1).mono ?_
  rintro e w4 ⟨vB, rfl, hbs, hb⟩
  have B4 := below_step B1 (by omega) hb
  have hz4 := B4.size
  obtain ⟨ao, co, rfl, hc⟩ := brs_get hbs
  obtain ⟨N, hN⟩ : ∃ N, (keysP l).length = N := ⟨_, rfl⟩
  rw [hN] at hc hkl ⊢
  have HN' := Lib.hid hN
  have HC := Lib.hid hc
  clear hb B1 hz1 hbs hc hN RB
  go_wp2_with fail
  go_loopw [5, 6, 7] (fun v5 v6 v7 wr => ∃ (i : Nat) (L : List SlD), v7 = .int .i64 i ∧ i ≤ N ∧ wr.ownsRow w4.heap.size 39 4 v5 i ((((keysP l).take i).map (segB l)).flatMap encSg) ∧ wr.ownsRow w4.heap.size 41 1 v6 i (L.flatMap encOw) ∧ L.length = i ∧
    (∀ (j : Nat) (x : SlD) (k : KeyD), L[j]? = some x → (keysP l)[j]? = some k → StrRow w4 (.slice x.1 x.2.1 x.2.2) (ownF l l k)) ∧ Below w4.heap.size w4 wr) (fun _ _ v7 _ => N - (intOf v7).toNat)
  case atStart => exact ⟨0, [], rfl, by omega, World.ownsRow_nil _ _ _ _, World.ownsRow_nil _ _ _ _, rfl, fun j x k hx => by simp at hx, Below.refl _ _⟩
  case round =>
    obtain ⟨i, L, rfl, hin, ho1, ho2, hL1, hL2, hbr⟩ := hrel
    have O1 := Lib.hid ho1
    have O2 := Lib.hid ho2
    have HL1 := Lib.hid hL1
    have HL2 := Lib.hid hL2
    have HBR := Lib.hid hbr
    have B5 := below_step B4 (by omega) hbr
    have hzr := hbr.size
    clear ho1 ho2 hL1 hL2
    by_cases hlt : i < N
    · obtain ⟨k, hk⟩ : ∃ k, (keysP l)[i]? = some k := ⟨(keysP l)[i]'(by rw [HN'.out]; exact hlt), List.getElem?_eq_getElem _⟩
      obtain ⟨b, off, hab, hcell⟩ := HC.out (by omega)
      subst hab
      obtain ⟨oa, oc, c0, c1, c2, c3, c4, c5, c6, hst⟩ := hcell i k hk
      have q0 := cell_later hbr c0
      have q1 := cell_later hbr c1
      have q2 := cell_later hbr c2
      have q3 := cell_later hbr c3
      have q4 := cell_later hbr c4
      have q5 := cell_later hbr c5
      have C6 := Lib.hid c6
      have q6 := cell_later hbr c6
      have bz := lt_of_cell (cell_later hbr c0)
      have hx1 : (0 : Int) ≤ (i : Int) := by omega
      have hx2 : (i : Int) < (N : Int) := by omega
      have HT := Lib.hid (show ((keysP l).take (i + 1)).map (segB l) = ((keysP l).take i).map (segB l) ++ [segB l k] by
        obtain ⟨hk2, e⟩ := List.getElem?_eq_some_iff.1 hk
        rw [List.take_succ_eq_append_getElem hk2, e]; simp)
      have HK := Lib.hid hk
      have HST := Lib.hid hst
      obtain ⟨q, hq⟩ : ∃ q, q = (ownF l l k).length := ⟨_, rfl⟩
      rw [← hq] at q6 C6 HST
      obtain ⟨⟨⟨px, py⟩, ⟨qx, qy⟩⟩, hsg⟩ : ∃ z, z = segB l k := ⟨_, rfl⟩
      rw [← hsg] at HT q2 q3 q4 q5
      clear hcell hk c0 c1 c2 c3 c4 c5 c6 hq hsg hst
      go_wp2_with fail
      refine (rsegment_any _ _ _ _ _ _ _ _ _ _).mono ?_
      rintro e w5 ⟨rfl, hb5⟩
      have B45 := hbr.trans (hb5.mono hzr)
      have o1 := own_later O1.out hb5
      have o2 := own_later O2.out hb5
      have hne := own_own_ne o1 o2 (by decide)
      have hz5 := B45.size
      have q6' := cell_later hb5 q6
      clear q0 q1 q2 q3 q4 q5 q6 hb5 bz
      have bz5 := lt_of_cell q6'
      have HL2N := Lib.hid (show ∀ (j : Nat) (x : SlD) (k' : KeyD), (L ++ [(oa, q, oc)])[j]? = some x → (keysP l)[j]? = some k' → StrRow w4 (.slice x.1 x.2.1 x.2.2) (ownF l l k') from fun j x k' hx hk' => by
        by_cases hj : j < L.length
        · rw [List.getElem?_append_left hj] at hx
          exact HL2.out j x k' hx hk'
        · have hjl := (List.getElem?_eq_some_iff.1 hx).1
          rw [List.length_append, List.length_singleton] at hjl
          obtain rfl : j = i := by have := HL1.out; omega
          rw [HK.out] at hk'
          injection hk' with hk'
          rw [List.getElem?_append_right (by have := HL1.out; omega), HL1.out, Nat.sub_self] at hx
          have hx' : (oa, q, oc) = x := by simpa using hx
          subst hk' hx'
          exact HST.out)
      have HL1N := Lib.hid (show (L ++ [(oa, q, oc)]).length = i + 1 by rw [List.length_append, HL1.out]; rfl)
      have HLF := Lib.hid (show (L ++ [(oa, q, oc)]).flatMap encOw = L.flatMap encOw ++ encOw (oa, q, oc) by simp)
      go_wp2_with (first
        | (at_builtin; refine wpList_append_own _ rfl (.tmp 16) (.tmp 22) 27 rfl w4.heap.size 39 j0 (.agg #[.int .i64 0, .int .i64 0, .int .i64 0, .int .i64 0]) 4 32 Tryz.underlying27 hj hj0 hj1 hj2 rfl (by decide) _ _ _ rfl (o1.alloc _) ⟨w5.heap.size, 0, none⟩ 1 1 (encSg ((px, py), (qx, qy))) rfl rfl (cells_new _ _ _) (encSg_one _) (by unfold maxLen; omega) (by omega) (by simp; omega) ?_; intro v6 w6 hown6 hgrow6 _; have B6 := (B45.alloc hz5 _).grown hgrow6 (by simp; omega) (fun j hj => (o1.lt j hj).1); have o26 := (o2.alloc _).kept hgrow6 hne; have q9 := cell_later B6 C6.out; have qz9 := lt_of_cell q9; have hz6 := B6.size; have hne2 := own_own_ne o26 hown6 (by decide); have O16 := Lib.hid hown6; clear hown6 hgrow6 o1 o2 q6' bz5 B45)
        | (at_builtin; refine wpList_append_own _ rfl (.tmp 24) (.tmp 30) 28 rfl w4.heap.size 41 i0 (.slice none 0 0) 1 24 Tryz.underlying28 hi hi0 hi1 hi2 rfl (by decide) _ _ _ rfl (o26.alloc _) ⟨w6.heap.size, 0, none⟩ 1 1 (encOw (oa, q, oc)) rfl rfl (cells_new _ _ _) (encOw_one _) (by unfold maxLen; omega) (by omega) (by simp; omega) ?_; intro v9 w9 hown9 hgrow9 _; have B9 := Lib.hid ((B6.alloc hz6 _).grown hgrow9 (by simp; omega) (fun j hj => (o26.lt j hj).1)); have O19 := Lib.hid ((O16.out.alloc _).kept hgrow9 hne2); have O29 := Lib.hid hown9; clear hown9 hgrow9 o26 q9 qz9 B6))
      go_roundw
      case rel => exact ⟨i + 1, L ++ [(oa, q, oc)], by go_num, by omega, by rw [HT.out, List.flatMap_append]; simpa using O19.out, by rw [HLF.out]; exact O29.out, HL1N.out, HL2N.out, B9.out⟩
      case measure => simp [intOf]; omega
    · obtain rfl : i = N := by omega
      have HF := Lib.hid (show (keysP l).take i = keysP l from List.take_of_length_le (by rw [HN'.out]; exact Nat.le_refl _))
      have HR1 := Lib.hid (show RowE encSg 4 wr u5 ((keysP l).map (segB l)) by
        have := O1.out
        rw [HF.out] at this
        exact RowE.of_own encSg_len (by rw [List.length_map, HN'.out]) this)
      have HR2 := Lib.hid (show TextsAt wr u6 ((keysP l).map (ownF l l)) from ⟨L, RowE.of_own encOw_len HL1.out.symm O2.out, by rw [List.length_map, HL1.out, HN'.out], fun j x ids hx hids => by
        rw [List.getElem?_map] at hids
        cases hy : (keysP l)[j]? with
        | none => rw [hy] at hids; cases hids
        | some y =>
          rw [hy] at hids
          injection hids with hids
          subst hids
          exact (HL2.out j x y hx hy).later HBR.out⟩)
      go_wp2
      go_ret2
      exact ⟨_, _, rfl, HR1.out, HR2.out, B5⟩
end Go.Proofs.YtbkomdinchiffaaGreat
