/- border: segments, Segments. border: Segments. -/
import Derived.Test.YtbkomdinchiffaaGreatBorL
import Derived.Test.YtbkomdinchiffaaGreatMixTF
namespace Go.Proofs.YtbkomdinchiffaaGreat
open Go.RowKit Go.Maps Go.ChangeMaps Go.Sort

theorem keys_node {l : List ObjD} {k : KeyD} (h : k ∈ keysP l) : (nodeAt l k.1).isSome = true ∧ (nodeAt l k.2).isSome = true := by
  obtain ⟨o, _, hb, hk⟩ := keysP_mem.1 h
  unfold isB at hb
  rw [Bool.and_eq_true] at hb
  have hs := hb.2
  unfold soundB at hs
  rw [List.all_eq_true] at hs
  obtain ⟨i, hi, rfl⟩ := List.mem_map.1 hk
  rw [List.mem_range] at hi
  have hlen : i < o.refs.length := by unfold sideN at hi; split at hi <;> omega
  have r0 : (nodeAt l (refAt o i)).isSome = true := hs _ (List.mem_of_getElem? (ref_get o i hlen))
  have r1 : (nodeAt l (refAt o ((i + 1) % o.refs.length))).isSome = true := hs _ (List.mem_of_getElem? (ref_get o _ (Nat.mod_lt _ (by omega))))
  unfold sideAt
  rcases key2_or (refAt o i) (refAt o ((i + 1) % o.refs.length)) with e | e <;> rw [e]
  · exact ⟨r0, r1⟩
  · exact ⟨r1, r0⟩
theorem node_size {l : List ObjD} {id : ByteArray} (h : (nodeAt l id).isSome = true) (hz : ∀ x ∈ l, x.id.size ≤ 140737488355328) : id.size ≤ 140737488355328 := by
  cases hp : posO id l with
  | none => rw [nodeAt_none l id hp] at h; cases h
  | some k =>
    obtain ⟨o, ho, e⟩ := posO_some id l k hp
    rw [← e]; exact hz o (List.mem_of_getElem? ho)
theorem objs_size {w : World} {v : Value} {l : List ObjD} (hv : ObjsIs w v l) : ∀ x ∈ l, x.id.size ≤ 140737488355328 := fun x hx => by
  obtain ⟨a, cap, _, _, hc⟩ := hv
  obtain ⟨i, hi⟩ := List.getElem?_of_mem hx
  obtain ⟨b, off, _, h⟩ := hc (by have := (List.getElem?_eq_some_iff.1 hi).1; omega)
  obtain ⟨_, _, _, _, _, _, _, _, _, _, h⟩ := h i x hi
  exact h
/-- A node whose point can be asked for. -/
def NodeOK (l : List ObjD) (id : ByteArray) : Prop := id.size ≤ 140737488355328 ∧ (nodeAt l id).isSome = true
theorem keys_len {l : List ObjD} (h : mapOK l = true) : (keysP l).length ≤ 2000 * l.length := by
  have h1 : ∀ ks : List KeyD, (setK ks).length ≤ ks.length := fun ks => by
    have : ∀ (ks acc : List KeyD), (ks.foldl (fun acc k => insK k acc) acc).length ≤ acc.length + ks.length := by
      intro ks
      induction ks with
      | nil => intro acc; simp
      | cons k ks ih =>
        intro acc
        rw [List.foldl_cons]
        have := ih (insK k acc)
        have hi : ∀ l : List KeyD, (insK k l).length ≤ l.length + 1 := by
          intro l
          induction l with
          | nil => simp [insK]
          | cons x l ih => rw [insK]; split; · simp; omega
                           split <;> simp
        have := hi acc
        simp; omega
    have := this ks []
    unfold setK
    simpa using this
  refine Nat.le_trans (h1 _) ?_
  have h2 : ∀ os : List ObjD, (∀ o ∈ os, o.refs.length ≤ 2000) → (os.flatMap sidesP).length ≤ 2000 * os.length := by
    intro os
    induction os with
    | nil => intro _; simp
    | cons o os ih =>
      intro hr
      rw [List.flatMap_cons, List.length_append]
      have := ih fun x hx => hr x (List.mem_cons_of_mem _ hx)
      have h3 := hr o (List.mem_cons_self ..)
      have : (sidesP o).length ≤ 2000 := by unfold sidesP sideN; rw [List.length_map, List.length_range]; split <;> omega
      rw [List.length_cons]; omega
  have := h2 (l.filter (isB l)) fun o ho => obj_refs (map_obj h (List.mem_filter.1 ho).1)
  have h4 := List.length_filter_le (isB l) l
  omega

def encSg (s : Sg) : List Value := [.int .i64 s.1.1, .int .i64 s.1.2, .int .i64 s.2.1, .int .i64 s.2.2]
theorem encSg_len (s : Sg) : (encSg s).length = 4 := rfl
theorem encSg_one (s : Sg) : ∀ v ∈ encSg s, v.oneCell' = true := by
  intro v hv
  simp only [encSg, List.mem_cons, List.not_mem_nil, or_false] at hv
  rcases hv with rfl | rfl | rfl | rfl <;> rfl
theorem infoSg : (Tryz.prog.info? 39).map (fun i => (i.zero, i.size, i.bytes)) = some (some (.agg #[.int .i64 0, .int .i64 0, .int .i64 0, .int .i64 0]), 4, 32) := by kernel_rfl

set_option maxRecDepth 100000 in
set_option maxHeartbeats 4000000 in
theorem segs_any (v vL : Value) (Bm : Nat) (l : List ObjD) (w : World) (hv : ObjsIs w v l) (hok : mapOK l = true) (hat : AtIs w Bm l) (hl : LinesAt w vL l) :
    Calls Tryz.prog 32 #[.agg #[v, .map (some Bm)], vL] w fun e w' => ∃ v', e = .returned v' ∧ RowE encSg 4 w' v' ((keysP l).map (segB l)) ∧ Below w.heap.size w w' := by
  have mixed : Tryz.prog.follows .mixedOrders = true := by kernel_rfl
  have PT := Lib.hid (fun id W (hb : Below w.heap.size w W) (h : NodeOK l id) => point_any id Bm v l W h.1 (hat.on hb) (hv.later hb) h.2)
  have HKN := Lib.hid (fun k (hk : k ∈ keysP l) => (show NodeOK l k.1 ∧ NodeOK l k.2 from ⟨⟨node_size (keys_node hk).1 (objs_size hv), (keys_node hk).1⟩, ⟨node_size (keys_node hk).2 (objs_size hv), (keys_node hk).2⟩⟩))
  have hkl := keys_len hok
  have hll := (mapOK_sorted hok).1
  obtain ⟨a, cap, rfl, _⟩ := hv
  obtain ⟨L, hL, hLk, _⟩ := hl
  obtain ⟨aL, capL, rfl, hc⟩ := hL
  obtain ⟨N, hN⟩ : ∃ N, L.length = N := ⟨_, rfl⟩
  have hNK : (keysP l).length = N := by rw [← hLk, List.length_map, hN]
  rw [hN] at hc ⊢
  rw [hNK] at hkl
  have hNb : N ≤ 2000000000 := by omega
  have HN := Lib.hid hN
  have HC := Lib.hid hc
  have HLK := Lib.hid hLk
  have HNK := Lib.hid hNK
  obtain ⟨i0, hi, hi0, hi1, hi2⟩ := info_parts infoSg
  clear hok hat hkl hll hN hc hLk hNK
  go_enter Tryz.func32, Tryz.ntmps32
  go_wp2_with fail
  have B1 : Below w.heap.size w (w.alloc (.cells #[.slice a l.length cap, .map (some Bm)] 76)) := (by repeat' (first | exact Below.refl _ _ | refine Below.drew ?_ | refine Below.drewN' ?_ | refine Below.setCell ?_ (by first | omega | (simp; done) | exact Below.size (by assumption) | (simp; omega)) _ | refine Below.alloc ?_ (by first | omega | (simp; done) | exact Below.size (by assumption) | (simp; omega)) _ | refine Below.trans ?_ (Below.mono (by assumption) ?_) | (first | omega | (simp; done) | exact Below.size (by assumption) | (simp; omega))))
  have H1 := row_new w (.cells #[.slice a l.length cap, .map (some Bm)] 76)
  generalize hw1 : w.alloc (.cells #[.slice a l.length cap, .map (some Bm)] 76) = w1
  rw [hw1] at B1 H1
  have hz1 : w.heap.size + 1 ≤ w1.heap.size := by rw [← hw1]; simp
  have H1 := Lib.hid H1
  clear hw1
  go_loopw [5, 10] (fun v5 i wr => ∃ k : Nat, i = .int .i64 k ∧ k ≤ N ∧ wr.ownsRow w1.heap.size 39 4 v5 k ((((keysP l).take k).map (segB l)).flatMap encSg) ∧ Below w1.heap.size w1 wr) (fun _ i _ => N - (intOf i).toNat)
  case atStart => exact ⟨0, rfl, by omega, World.ownsRow_nil _ _ _ _, Below.refl _ _⟩
  case round =>
    obtain ⟨k, rfl, hk, hown, hbr⟩ := hrel
    have HOWN := Lib.hid hown
    have hzr := hbr.size
    have BR := below_step B1 (by omega) hbr
    clear hown
    by_cases hlt : k < N
    · obtain ⟨x, hx⟩ : ∃ x, L[k]? = some x := ⟨L[k]'(by rw [HN.out]; exact hlt), List.getElem?_eq_getElem _⟩
      obtain ⟨b, off, ha, hcell⟩ := HC.out (by omega)
      subst ha
      have d0' := cell_later BR (hcell k x hx 0 _ rfl)
      have d0 : wr.cell? ⟨b, off + k * 3, none⟩ = some (.string x.1.1) := d0'
      have d1 := cell_later BR (hcell k x hx 1 _ rfl)
      have d2 := cell_later BR (hcell k x hx 2 _ rfl)
      have hkk : (keysP l)[k]? = some x.1 := by rw [← HLK.out, List.getElem?_map, hx]; rfl
      have HT := Lib.hid (show ((keysP l).take (k + 1)).map (segB l) = ((keysP l).take k).map (segB l) ++ [segB l x.1] by
        obtain ⟨hk', e⟩ := List.getElem?_eq_some_iff.1 hkk
        rw [List.take_succ_eq_append_getElem hk', e]; simp)
      obtain ⟨n1, n2⟩ := HKN.out x.1 (List.mem_of_getElem? hkk)
      obtain ⟨⟨x1, x2⟩, xa, xn, xc⟩ := x
      simp only [] at d0 d1 d2 n1 n2 HT
      have HSG := Lib.hid (show segB l (x1, x2) = (ptO l x1, ptO l x2) from rfl)
      obtain ⟨p1, hp1⟩ : ∃ z, z = ptO l x1 := ⟨_, rfl⟩
      obtain ⟨p2, hp2⟩ : ∃ z, z = ptO l x2 := ⟨_, rfl⟩
      have P1 := Lib.hid (fun W hb => PT.out x1 W hb n1)
      have P2 := Lib.hid (fun W hb => PT.out x2 W hb n2)
      rw [← hp1] at P1 HSG
      rw [← hp2] at P2 HSG
      clear hcell d0' hx hkk hp1 hp2 n1 n2
      have bz := lt_of_cell d0
      go_wp2_with fail
      have BX : Below wr.heap.size wr (wr.alloc (.cells #[.string x1, .string x2, .slice xa xn xc] 82)) := (by repeat' (first | exact Below.refl _ _ | refine Below.drew ?_ | refine Below.drewN' ?_ | refine Below.setCell ?_ (by first | omega | (simp; done) | exact Below.size (by assumption) | (simp; omega)) _ | refine Below.alloc ?_ (by first | omega | (simp; done) | exact Below.size (by assumption) | (simp; omega)) _ | refine Below.trans ?_ (Below.mono (by assumption) ?_) | (first | omega | (simp; done) | exact Below.size (by assumption) | (simp; omega))))
      have HX := row_new wr (.cells #[.string x1, .string x2, .slice xa xn xc] 82)
      generalize hw3 : wr.alloc (.cells #[.string x1, .string x2, .slice xa xn xc] 82) = w3
      rw [hw3] at BX HX
      have hz3 : w3.heap.size = wr.heap.size + 1 := by rw [← hw3]; simp
      obtain ⟨Bx, hBx⟩ : ∃ z, z = wr.heap.size := ⟨_, rfl⟩
      rw [← hBx] at HX hz3 ⊢
      have H13 := Lib.hid (row_later (hbr.trans (BX.mono hzr)) H1.out)
      have HX3 := Lib.hid HX
      have BW3 := below_step hbr (Nat.le_refl _) (BX.mono (Nat.le_refl _))
      have O3 := Lib.hid (own_later HOWN.out BX)
      have BR3 := below_step BR (by omega) BX
      have NXB := Lib.hid (show some Bx ≠ u5.ownBlock from fun e => by
        have := (HOWN.out.lt Bx e.symm).2
        omega)
      have hz13 : w1.heap.size ≤ w3.heap.size := by omega
      clear hw3 hBx d0 d1 d2 bz BX HX
      refine wp_region_mix 12 (fun W => Below w1.heap.size w1 W ∧ W.heap[Bx]? = some (.cells #[.string x1, .string x2, .slice xa xn xc] 82)) (fun W => Below w3.heap.size w3 W) mixed (by kernel_rfl) (by kernel_rfl) (by kernel_rfl) (StableW.below _ _ (Nat.le_refl _)) (fun W hW => ⟨below_step BW3 (Nat.le_refl _) hW, row_later hW HX3.out⟩) (Below.refl _ _).drew ?_
      apply Exists.intro
      refine ⟨fun W hW => ?_, ?_⟩
      · obtain ⟨hW1, HX⟩ := hW
        have BW := below_step B1 (by omega) hW1
        have HP := (hW1.block _ (by omega)).trans H1.out
        have HXh := Lib.hid HX
        have HPh := Lib.hid HP
        have xz := lt_of_block HXh.out
        have x0 := cell_of_row W _ 0 _ _ _ HXh.out
        have x1 := cell_of_row W _ 1 _ _ _ HXh.out
        have x2 := cell_of_row W _ 2 _ _ _ HXh.out
        simp only [List.getElem?_toArray, List.getElem?_cons_zero, List.getElem?_cons_succ] at x0 x1 x2
        have qx0 := cell_belowBy x0
        have qx1 := cell_belowBy x1
        have qx2 := cell_belowBy x2
        clear x0 x1 x2
        have pz := lt_of_block HPh.out
        have p0 := cell_of_row W _ 0 _ _ _ HPh.out
        have p1 := cell_of_row W _ 1 _ _ _ HPh.out
        simp only [List.getElem?_toArray, List.getElem?_cons_zero, List.getElem?_cons_succ] at p0 p1
        have qp0 := cell_belowBy p0
        have qp1 := cell_belowBy p1
        clear p0 p1
        clear HX HP
        simp only [List.take_succ_cons, List.take_zero]
        iterate 6 (go_big_quiet_step ((go_at_call 35; exact calls_belowBy (P1.out _ (below_step BW (Nat.le_refl _) (BelowBy.below _))))))
        repeat (go_big_quiet_step ((go_at_call 35; exact calls_belowBy (P2.out _ (below_step BW (Nat.le_refl _) (BelowBy.below _))))))
        exact wpQuiet_nil rfl
      · simp only [List.drop_succ_cons, List.drop_zero]
        refine tailM_step (ι := Nat) (fun g => .slice (some ⟨g, 0, none⟩) 1 1) (fun g W => (Below w1.heap.size w1 W ∧ W.heap[Bx]? = some (.cells #[.string x1, .string x2, .slice xa xn xc] 82)) ∧ (W.ownsRow w1.heap.size 39 4 u5 k ((((keysP l).take k).map (segB l)).flatMap encSg) ∧ W.heap[g]? = some (.cells (encSg (p1, p2)).toArray 39))) rfl (fun g => ((StableW.below _ _ (Nat.le_refl _)).and (StableW.row _ _)).and ((StableW.owns _ _ _ _ _ _).and (StableW.row _ _))) (fun _ _ h => h.1) (fun W hS K hK => ?_) (fun g => ?_)
        · have O := own_later O3.out hS
          have HX := row_later hS HX3.out
          have BB := below_step BW3 (Nat.le_refl _) hS
          go_simp
          exact hK W.heap.size _ ⟨⟨BB.alloc BB.size _, row_past HX⟩, O.alloc _, row_new _ _⟩
        simp only [Act.put, List.setIfInBounds_toArray, List.set_cons_succ, List.set_cons_zero]
        refine tailM_step (ι := Value) (fun v => v) (fun v' W => (Below w1.heap.size w1 W ∧ W.heap[Bx]? = some (.cells #[.string x1, .string x2, .slice xa xn xc] 82)) ∧ W.ownsRow w1.heap.size 39 4 v' (k + 1) ((((keysP l).take (k + 1)).map (segB l)).flatMap encSg)) rfl (fun _ => ((StableW.below _ _ (Nat.le_refl _)).and (StableW.row _ _)).and (StableW.owns _ _ _ _ _ _)) (fun _ _ h => h.1) (fun W hS K hK => ?_) (fun v' => ?_)
        · obtain ⟨⟨hS1, hSX⟩, hSO, hSG⟩ := hS
          refine wp_append_own _ _ _ 27 rfl w1.heap.size 39 i0 (.agg #[.int .i64 0, .int .i64 0, .int .i64 0, .int .i64 0]) 4 32 Tryz.underlying27 hi hi0 hi1 hi2 rfl (by decide) _ _ _ rfl hSO ⟨g, 0, none⟩ 1 1 (encSg (p1, p2)) rfl rfl (cells_row hSG) (encSg_one _) (by unfold maxLen; omega) (by omega) hS1.size ?_
          intro v' w9 hown2 hgrow _
          exact hK v' w9 ⟨⟨hS1.grown hgrow hS1.size (fun j ej => (hSO.lt j ej).1), row_grown hgrow hSX NXB.out⟩, by rw [HT.out, HSG.out, List.flatMap_append]; simpa using hown2⟩
        simp only [Act.put, List.setIfInBounds_toArray, List.set_cons_succ, List.set_cons_zero]
        refine tailM_pure v' rfl (((StableW.below _ _ (Nat.le_refl _)).and (StableW.row _ _)).and (StableW.owns _ _ _ _ _ _)) (fun _ h => h.1) (fun W hS K hK => ?_) (tailM_nil fun W hW => ?_)
        · go_simp
          exact hK
        obtain ⟨⟨hW1, -⟩, hWO⟩ := hW
        have HWO := Lib.hid hWO
        clear hWO
        simp only [Act.put, List.setIfInBounds_toArray, List.set_cons_succ, List.set_cons_zero]
        go_wp2
        go_roundw
        case rel => exact ⟨k + 1, by go_num, by omega, HWO.out, hW1⟩
        case measure => simp [intOf]; omega
    · obtain rfl : k = N := by omega
      have HF := Lib.hid (show (keysP l).take k = keysP l from List.take_of_length_le (by rw [HNK.out]; exact Nat.le_refl _))
      have HR := Lib.hid (show RowE encSg 4 wr u5 ((keysP l).map (segB l)) by
        have := HOWN.out
        rw [HF.out] at this
        exact RowE.of_own encSg_len (by rw [List.length_map, HNK.out]) this)
      go_wp2
      go_ret
      exact ⟨_, rfl, HR.out, BR⟩
end Go.Proofs.YtbkomdinchiffaaGreat

namespace Go.Proofs.YtbkomdinchiffaaGreat
open Go.RowKit Go.Maps Go.ChangeMaps Go.Sort

abbrev SlD := Option Addr × Nat × Nat
def encOw (x : SlD) : List Value := [.slice x.1 x.2.1 x.2.2]
theorem encOw_len (x : SlD) : (encOw x).length = 1 := rfl
theorem encOw_one (x : SlD) : ∀ v ∈ encOw x, v.oneCell' = true := by
  intro v hv
  simp only [encOw, List.mem_cons, List.not_mem_nil, or_false] at hv
  rcases hv with rfl; rfl
/-- A slice of slices of texts. -/
def TextsAt (w : World) (v : Value) (ls : List (List ByteArray)) : Prop :=
  ∃ L : List SlD, RowE encOw 1 w v L ∧ L.length = ls.length ∧ ∀ (i : Nat) (x : SlD) (ids : List ByteArray), L[i]? = some x → ls[i]? = some ids → StrRow w (.slice x.1 x.2.1 x.2.2) ids
theorem TextsAt.on {w w' : World} {v : Value} {ls : List (List ByteArray)} (h : TextsAt w v ls) (hb : Below w.heap.size w w') : TextsAt w' v ls := by
  obtain ⟨L, h1, h2, h3⟩ := h
  exact ⟨L, h1.later hb, h2, fun i x ids hx hi => (h3 i x ids hx hi).later hb⟩
theorem infoOw : (Tryz.prog.info? 41).map (fun i => (i.zero, i.size, i.bytes)) = some (some (.slice none 0 0), 1, 24) := by kernel_rfl

theorem segments_bad (v : Value) (l : List ObjD) (w : World) (hv : ObjsIs w v l) (hok : mapOK l = false) :
    Calls Tryz.prog 12 #[.agg #[v]] w fun e w' => e = .returned (.tuple #[.slice none 0 0, .slice none 0 0]) ∧ Below w.heap.size w w' := by
  have OF := Lib.hid (fun W hb => of_bad v l W (hv.later hb) hok)
  obtain ⟨a, cap, rfl, _⟩ := hv
  clear hok
  go_enter Tryz.func12, Tryz.ntmps12
  go_wp2_with fail
  have B1 : Below w.heap.size w (w.alloc (.cells #[.slice a l.length cap] 24)) := (by repeat' (first | exact Below.refl _ _ | refine Below.drew ?_ | refine Below.drewN' ?_ | refine Below.setCell ?_ (by first | omega | (simp; done) | exact Below.size (by assumption) | (simp; omega)) _ | refine Below.alloc ?_ (by first | omega | (simp; done) | exact Below.size (by assumption) | (simp; omega)) _ | refine Below.trans ?_ (Below.mono (by assumption) ?_) | (first | omega | (simp; done) | exact Below.size (by assumption) | (simp; omega))))
  refine (OF.out _ B1).mono ?_
  rintro e w2 ⟨rfl, hb⟩
  have B2 := Lib.hid (below_step B1 (Nat.le_refl _) hb)
  have hz := B2.out.size
  clear hb B1
  go_wp2
  go_ret2
  exact ⟨rfl, B2.out.alloc hz _⟩

set_option maxRecDepth 100000 in
set_option maxHeartbeats 4000000 in
theorem segments_any (v : Value) (l : List ObjD) (w : World) (hv : ObjsIs w v l) (hok : mapOK l = true) :
    Calls Tryz.prog 12 #[.agg #[v]] w fun e w' => ∃ v1 v2, e = .returned (.tuple #[v1, v2]) ∧ RowE encSg 4 w' v1 ((keysP l).map (segB l)) ∧ TextsAt w' v2 ((keysP l).map (ownF l l)) ∧ Below w.heap.size w w' := by
  have OF := Lib.hid (fun W hb => of_any v l W (hv.later hb) hok)
  have LN := Lib.hid (fun W Bm hb hat => lines_any v l Bm W (hv.later hb) hok hat)
  have SG := Lib.hid (fun W Bm vL hb hat hl => segs_any v vL Bm l W (hv.later hb) hok hat hl)
  have hkl := keys_len hok
  have hll := (mapOK_sorted hok).1
  obtain ⟨N, hNK⟩ : ∃ N, (keysP l).length = N := ⟨_, rfl⟩
  rw [hNK] at hkl
  have hNb : N ≤ 2000000000 := by omega
  have HNK := Lib.hid hNK
  obtain ⟨a, cap, rfl, _⟩ := hv
  obtain ⟨i0, hi, hi0, hi1, hi2⟩ := info_parts infoOw
  clear hok hkl hll hNK
  go_enter Tryz.func12, Tryz.ntmps12
  go_wp2_with fail
  have B1 : Below w.heap.size w (w.alloc (.cells #[.slice a l.length cap] 24)) := (by repeat' (first | exact Below.refl _ _ | refine Below.drew ?_ | refine Below.drewN' ?_ | refine Below.setCell ?_ (by first | omega | (simp; done) | exact Below.size (by assumption) | (simp; omega)) _ | refine Below.alloc ?_ (by first | omega | (simp; done) | exact Below.size (by assumption) | (simp; omega)) _ | refine Below.trans ?_ (Below.mono (by assumption) ?_) | (first | omega | (simp; done) | exact Below.size (by assumption) | (simp; omega))))
  refine (OF.out _ B1).mono ?_
  rintro e w2 ⟨Bm, rfl, hBm, hat, hb⟩
  have B2 := below_step B1 (by simp) hb
  have HAT := Lib.hid hat
  clear hb B1 OF hat
  go_wp2_with fail
  have B3 : Below w2.heap.size w2 (w2.alloc (.cells #[.slice a l.length cap, .map (some Bm)] 76)) := (by repeat' (first | exact Below.refl _ _ | refine Below.drew ?_ | refine Below.drewN' ?_ | refine Below.setCell ?_ (by first | omega | (simp; done) | exact Below.size (by assumption) | (simp; omega)) _ | refine Below.alloc ?_ (by first | omega | (simp; done) | exact Below.size (by assumption) | (simp; omega)) _ | refine Below.trans ?_ (Below.mono (by assumption) ?_) | (first | omega | (simp; done) | exact Below.size (by assumption) | (simp; omega))))
  have HP := row_new w2 (.cells #[.slice a l.length cap, .map (some Bm)] 76)
  generalize hw3 : w2.alloc (.cells #[.slice a l.length cap, .map (some Bm)] 76) = w3
  rw [hw3] at B3 HP
  have hz3 : w3.heap.size = w2.heap.size + 1 := by rw [← hw3]; simp
  clear hw3
  have B13 := below_step B2 (Nat.le_refl _) (B3.mono (Nat.le_refl _))
  have hat3 := HAT.out.on B3
  refine (LN.out w3 Bm B13 hat3).mono ?_
  rintro e w4 ⟨vL, rfl, hln, hb⟩
  have B4 := below_step B13 (by have := B13.size; omega) hb
  have HP4 := Lib.hid (row_later hb HP)
  have HAT4 := Lib.hid (hat3.on hb)
  have HLN := Lib.hid hln
  obtain ⟨L, hL, hLk, hLo⟩ := hln
  obtain ⟨aL, capL, rfl, hc⟩ := hL
  have hLN : L.length = N := by rw [← HNK.out, ← hLk, List.length_map]
  rw [hLN] at hc HLN ⊢
  have HLL := Lib.hid hLN
  have HC := Lib.hid hc
  have HLK := Lib.hid hLk
  have HLO := Lib.hid hLo
  clear hb HP hat3 HAT B3 B13 LN hc hLk hLo hLN B2
  go_wp2_with fail
  go_loopw [7, 21] (fun v7 i wr => ∃ k : Nat, i = .int .i64 k ∧ k ≤ N ∧ wr.ownsRow w4.heap.size 41 1 v7 k (((L.take k).map (·.2)).flatMap encOw) ∧ Below w4.heap.size w4 wr) (fun _ i _ => N - (intOf i).toNat)
  case atStart => exact ⟨0, rfl, by omega, World.ownsRow_nil _ _ _ _, Below.refl _ _⟩
  case round =>
    obtain ⟨k, rfl, hk, hown, hbr⟩ := hrel
    have HOWN := Lib.hid hown
    have hzr := hbr.size
    have HBR := Lib.hid hbr
    clear hown
    by_cases hlt : k < N
    · obtain ⟨x, hx⟩ : ∃ x, L[k]? = some x := ⟨L[k]'(by rw [HLL.out]; exact hlt), List.getElem?_eq_getElem _⟩
      obtain ⟨b, off, ha, hcell⟩ := HC.out (by omega)
      subst ha
      have d0' := cell_later hbr (hcell k x hx 0 _ rfl)
      have d0 : wr.cell? ⟨b, off + k * 3, none⟩ = some (.string x.1.1) := d0'
      have d1 := cell_later hbr (hcell k x hx 1 _ rfl)
      have d2 := cell_later hbr (hcell k x hx 2 _ rfl)
      have HT := Lib.hid (show (L.take (k + 1)).map (·.2) = (L.take k).map (·.2) ++ [x.2] by
        obtain ⟨hk', e⟩ := List.getElem?_eq_some_iff.1 hx
        rw [List.take_succ_eq_append_getElem hk', e]; simp)
      obtain ⟨⟨x1, x2⟩, xa, xn, xc⟩ := x
      simp only [] at d0 d1 d2 HT
      have bz := lt_of_cell d0
      clear hcell d0' hx hbr
      go_wp2_with (at_builtin; refine wpList_append_own _ rfl _ _ 28 rfl w4.heap.size 41 i0 (.slice none 0 0) 1 24 Tryz.underlying28 hi hi0 hi1 hi2 rfl (by decide) _ _ _ rfl ((HOWN.out.alloc _).alloc _) ⟨wr.heap.size + 1, 0, none⟩ 1 1 (encOw (xa, xn, xc)) rfl rfl (cells_new1 _ _ _ _) (encOw_one _) (by unfold maxLen; omega) (by omega) (by simp; omega) ?_; intro v' w6 hown6 hgrow6 _)
      have B6 := Lib.hid (((HBR.out.alloc hzr _).alloc (by simp; omega) _).grown hgrow6 (by simp; omega) (fun j hj => (own_block HOWN.out j hj).1))
      have O6 := Lib.hid (show w6.ownsRow w4.heap.size 41 1 v' (k + 1) (((L.take (k + 1)).map (·.2)).flatMap encOw) by
        rw [HT.out, List.flatMap_append]; simpa using hown6)
      clear hown6 hgrow6
      go_roundw
      case rel => exact ⟨k + 1, by go_num, by omega, O6.out, B6.out⟩
      case measure => simp [intOf]; omega
    · obtain rfl : k = N := by omega
      have HF := Lib.hid (show L.take k = L from List.take_of_length_le (by rw [HLL.out]; exact Nat.le_refl _))
      have HOF := Lib.hid (show RowE encOw 1 wr u7 (L.map (·.2)) by
        have := HOWN.out
        rw [HF.out] at this
        exact RowE.of_own encOw_len (by rw [List.length_map, HLL.out]) this)
      have HPr := Lib.hid (row_later HBR.out HP4.out)
      have hw4 := B4.size
      have BR := below_step B4 (by omega) HBR.out
      have HATr := HAT4.out.on HBR.out
      have HLNr := HLN.out.on HBR.out
      clear hbr
      have pz := lt_of_block HPr.out
      have p0 := cell_of_row wr _ 0 _ _ _ HPr.out
      have p1 := cell_of_row wr _ 1 _ _ _ HPr.out
      simp only [List.getElem?_toArray, List.getElem?_cons_zero, List.getElem?_cons_succ] at p0 p1
      go_wp2_with fail
      refine (SG.out wr Bm _ BR HATr HLNr).mono ?_
      rintro e w5 ⟨v', rfl, hr, hb5⟩
      have B5 := Lib.hid (below_step BR (by omega) hb5)
      have HR5 := Lib.hid hr
      have HT5 := Lib.hid (show TextsAt w5 u7 ((keysP l).map (ownF l l)) from ⟨L.map (·.2), HOF.out.later hb5, by rw [List.length_map, List.length_map, HLL.out, HNK.out], fun i x ids hx hids => by
        rw [List.getElem?_map] at hx hids
        cases hy : L[i]? with
        | none => rw [hy] at hx; cases hx
        | some y =>
          rw [hy] at hx
          injection hx with hx
          have hky : (keysP l)[i]? = some y.1 := by rw [← HLK.out, List.getElem?_map, hy]; rfl
          rw [hky] at hids
          injection hids with hids
          subst hx hids
          exact ((HLO.out y (List.mem_of_getElem? hy)).later HBR.out).later hb5⟩)
      clear hr hb5 HATr HLNr BR
      go_wp2
      go_ret2
      exact ⟨_, _, rfl, HR5.out, HT5.out, B5.out⟩
end Go.Proofs.YtbkomdinchiffaaGreat
