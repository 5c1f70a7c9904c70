/-  -/
import Derived.Test.YtibpaaajghbkoaaGreatUBd
namespace Go.Proofs.YtibpaaajghbkoaaGreat
open Go.RowKit Go.Sort Go.Maps Go.ChangeMaps
def ViosAt (w : World) (v : Value) (ks : List KeyD) : Prop := ∃ L : List LineM, RowE encVi 3 w v L ∧ L.map (·.1) = ks ∧ ∀ x ∈ L, StrRow w (.slice x.2.1 x.2.2.1 x.2.2.2) (idsK x.1)
theorem infoVi : (Tryz.prog.info? 102).map (fun i => (i.zero, i.size, i.bytes)) = some (some (.agg #[.string ⟨#[]⟩, .int .i64 0, .slice none 0 0]), 3, 48) := by kernel_rfl
theorem infoInt : (Tryz.prog.info? 3).map (fun i => (i.zero, i.size, i.bytes)) = some (some (.int .i64 0), 1, 8) := by kernel_rfl
theorem wf_int {x : Int} (h1 : -1099511627776 ≤ x) (h2 : x ≤ 1099511627776) : (Lit.int .i64 x).wf = true := by
 simp [Lit.wf, IntKind.min, IntKind.max, IntKind.bits, IntKind.signed]
 omega
theorem nodeAt_of {l : List ObjD} {r : ByteArray} {q : Int × Int} (h : nodeAt l r = some q) : ∃ (j : Nat) (o : ObjD), posO r l = some j ∧ l[j]? = some o ∧ o.kind = 1 ∧ q = (o.x, o.y) := by
 cases hp : posO r l with
 |none => rw [nodeAt_none l r hp] at h; cases h
 |some j =>
  obtain ⟨o, ho, _⟩ := posO_some r l j hp
  rw [nodeAt_some l r j hp o ho] at h
  split at h
  ·rename_i hk
   exact ⟨j, o, rfl, ho, hk, (Option.some.inj h).symm⟩
  ·cases h
theorem pt_ok {l : List ObjD} (hok : mapOK l = true) (id : ByteArray) : ∃ kl, keyOf Tryz.prog 33 (intK (ptO l id)) = some kl := by
 have hz : ∃ kl, keyOf Tryz.prog 33 (intK (0, 0)) = some kl := ptK_ok (wf_int (by omega) (by omega)) (wf_int (by omega) (by omega))
 unfold ptO
 cases hn : nodeAt l id with
 |none => exact hz
 |some q =>
  obtain ⟨j, o, _, ho, hk, rfl⟩ := nodeAt_of hn
  have h := map_obj hok (List.mem_of_getElem? ho)
  simp only [objOK, Bool.and_eq_true] at h
  have h2 := h.2
  rw [if_pos hk, Bool.and_eq_true] at h2
  have h3 := h2.2
  unfold onB at h3
  simp at h3
  exact ptK_ok (wf_int (by simp only [Option.getD_some]; omega) (by simp only [Option.getD_some]; omega)) (wf_int (by simp only [Option.getD_some]; omega) (by simp only [Option.getD_some]; omega))
theorem node_id {l : List ObjD} {id : ByteArray} (h : (nodeAt l id).isSome = true) : id ∈ l.map (·.id) := by
 cases hp : posO id l with
 |none => rw [nodeAt_none l id hp] at h; cases h
 |some k =>
  obtain ⟨o, ho, e⟩ := posO_some id l k hp
  exact List.mem_map.2 ⟨o, List.mem_of_getElem? ho, e⟩
theorem own_sl {w : World} {base e size n : Nat} {v : Value} {xs : List Value} (h : w.ownsRow base e size v n xs) : ∃ ao co, v = .slice ao n co := by
 rcases h.2 with ⟨rfl, h0⟩ | ⟨g, cap, cur, rfl, _⟩
 ·exact ⟨none, 0, by rw [h0]⟩
 ·exact ⟨_, _, rfl⟩
abbrev FAt (acc : List (Pt × Value × List ByteArray)) (q : Pt) : List ByteArray := (aget q (rowsOf acc)).getD []
theorem fat_put (acc : List (Pt × Value × List ByteArray)) (p : Pt) (v : Value) (ids : List ByteArray) (q : Pt) : FAt (aput p (v, ids) acc) q = if q = p then ids else FAt acc q := by
 unfold FAt
 rw [rows_put]
 by_cases e : q = p
 ·subst e; rw [if_pos rfl, aget_put_same]; rfl
 ·rw [if_neg e, aget_put_other _ (fun c => e c.symm)]
def ChkSt (l : List ObjD) (w4 wr : World) (Bb Bc Ba : Nat) (ds : List ByteArray) : Prop := ∃ (acc : List (Pt × Value × List ByteArray)) (N : List KeyD),
 GroupAt Tryz.prog 33 intK (Ba + 1) 9 wr Ba acc ∧ acc.length ≤ ds.length ∧ AtInv l ds (FAt acc) ∧ NotesAt wr Bb N ∧ BadInv l ds N ∧ GoodN l N ∧ wr.heap[Bc]? = some (.cells #[.map (some Bb)] 123) ∧ Below w4.heap.size w4 wr
theorem ids_size {l : List ObjD} (h : ∀ x ∈ l, x.id.size ≤ 140737488355328) {id : ByteArray} (hid : id ∈ l.map (·.id)) : id.size ≤ 140737488355328 := by
 obtain ⟨o, ho, rfl⟩ := List.mem_map.1 hid
 exact h o ho
def OwSt (l : List ObjD) (w4 wr : World) (Bb Bc Bf Bi g1 g2 : Nat) (F dn td : List FdD) (c1 c2 : Array Value) (N2 : List KeyD) : Prop :=
 NotesAt wr Bb N2 ∧ GoodN l N2 ∧ wr.heap[Bc]? = some (.cells #[.map (some Bb)] 123) ∧ RangeAt intK evI wr Bf Bi F dn td ∧ wr.heap[g1]? = some (.cells c1 85) ∧ wr.heap[g2]? = some (.cells c2 85) ∧ Below w4.heap.size w4 wr ∧ Bi < wr.heap.size
theorem OwSt.note {l : List ObjD} {w4 wr w' : World} {Bb Bc Bf Bi g1 g2 : Nat} {F dn td : List FdD} {c1 c2 : Array Value} {N2 N3 : List KeyD} (h : OwSt l w4 wr Bb Bc Bf Bi g1 g2 F dn td c1 c2 N2) (hn : NotesAt w' Bb N3) (hg : wr.grownBy w' (some Bb))
  (e1 : Bc ≠ Bb) (e2 : Bf ≠ Bb) (e3 : Bi ≠ Bb) (e4 : g1 ≠ Bb) (e5 : g2 ≠ Bb) (e6 : w4.heap.size ≤ Bb) (good : GoodN l N3) : OwSt l w4 w' Bb Bc Bf Bi g1 g2 F dn td c1 c2 N3 := by
 obtain ⟨h1, h2, h3, h4, h5, h6, h7, h8⟩ := h
 refine ⟨hn, good, row_grown hg h3 (fun e => e1 (by injection e)), h4.kept hg (fun e => e2 (by injection e)) (fun e => e3 (by injection e)), row_grown hg h5 (fun e => e4 (by injection e)), row_grown hg h6 (fun e => e5 (by injection e)), h7.grown hg h7.size (fun j hj => by injection hj with hj; omega), Nat.lt_of_lt_of_le h8 hg.size⟩
theorem own_ids {l : List ObjD} {k : KeyD} {id : ByteArray} (h : id ∈ ownF l l k) : id ∈ l.map (·.id) := by
 obtain ⟨o, ho, _, _, e⟩ := ownF_mem.1 h
 exact List.mem_map.2 ⟨o, ho, e⟩
set_option maxRecDepth 100000 in
set_option maxHeartbeats 8000000 in
theorem check_any (v : Value) (l : List ObjD) (w : World) (hv : ObjsIs w v l) (hok : mapOK l = true) (hl : l.length ≤ 1000) (hkl : (keysP l).length ≤ 20000) :
  Calls Tryz.prog 38 #[.agg #[v]] w fun e w' => ∃ v', e = .returned v' ∧ ViosAt w' v' (checkP l) ∧ Below w.heap.size w w' := by
 have mixed : Tryz.prog.follows .mixedOrders = true := by kernel_rfl
 have OA := Lib.hid (fun W hb => of_any v l W (hv.later hb) hok)
 have LN := Lib.hid (fun W Bm hb hat => lines_any v l Bm W (hv.later hb) hok hat)
 have SG := Lib.hid (fun W Bm vL hb hat hl => segs_any v vL Bm l W (hv.later hb) hok hat hl)
 have PT := Lib.hid (fun id Bm W hb hat (h : NodeOK l id) => point_any id Bm v l W h.1 hat (hv.later hb) h.2)
 have HKN := Lib.hid (fun k (hk : k ∈ keysP l) => (show NodeOK l k.1 ∧ NodeOK l k.2 from ⟨⟨node_size (keys_node hk).1 (objs_size hv), (keys_node hk).1⟩, ⟨node_size (keys_node hk).2 (objs_size hv), (keys_node hk).2⟩⟩))
 have HZO := Lib.hid (objs_size hv)
 have HPK := Lib.hid (fun id => pt_ok hok id)
 obtain ⟨a, cap, rfl, hn, _⟩ := hv
 have HMM := Lib.hid (@run_makeMap Tryz.prog)
 have hmm := @run_makeMap Tryz.prog
 clear hok
 go_enter Tryz.func38, Tryz.ntmps38
 go_wp2_with fail
 have B1 : Below w.heap.size w (w.alloc (.cells #[.slice a l.length cap] 24)) := (Below.refl _ _).alloc (Nat.le_refl _) _
 refine (OA.out _ B1).mono ?_
 rintro e w2 ⟨Bm, rfl, hBm, hat2, hb2⟩
 have B2 := below_step B1 (Nat.le_refl _) hb2
 have B3 := B2.alloc B2.size (.cells #[.slice a l.length cap, .map (some Bm)] 78)
 have BB3 : Below w2.heap.size w2 (w2.alloc (.cells #[.slice a l.length cap, .map (some Bm)] 78)) := (Below.refl _ _).alloc (Nat.le_refl _) _
 have HAT3 := hat2.on BB3
 have HP3 := row_new w2 (.cells #[.slice a l.length cap, .map (some Bm)] 78)
 go_wp2_with fail
 generalize hw3 : w2.alloc (.cells #[.slice a l.length cap, .map (some Bm)] 78) = w3
 rw [hw3] at B3 HP3 HAT3
 obtain ⟨Bp, hBp⟩ : ∃ z, z = w2.heap.size := ⟨_, rfl⟩
 rw [← hBp] at HP3 ⊢
 have HP3' := Lib.hid HP3
 clear hw3 BB3 B1 hb2 hat2 hBp HP3
 refine (LN.out _ Bm B3 HAT3).mono ?_
 rintro e w4 ⟨vL, rfl, hln, hb4⟩
 have B4 := Lib.hid (below_step B3 (Nat.le_refl _) hb4)
 have HAT4 := Lib.hid (HAT3.on hb4)
 have HP4 := Lib.hid (row_later hb4 HP3'.out)
 have HL4 := Lib.hid hln
 clear HAT3 B3 HP3' hb4 LN OA
 obtain ⟨L, hL, hLk, hLo⟩ := HL4.out
 obtain ⟨aL, capL, rfl, hc⟩ := hL
 obtain ⟨N, hN⟩ : ∃ N, L.length = N := ⟨_, rfl⟩
 have hNK : (keysP l).length = N := by rw [← hLk, List.length_map, hN]
 rw [hN] at hc ⊢
 rw [hNK] at hkl
 have HN := Lib.hid hN
 have HC := Lib.hid hc
 have HLK := Lib.hid hLk
 have HLO := Lib.hid hLo
 have HNK := Lib.hid hNK
 clear hN hc hLk hLo hNK hn
 obtain ⟨pz, p0, p1⟩ := rk2 HP4.out
 go_wp2_with fail
 clear p0 p1 pz
 have G0 := GroupAt.made Tryz.prog 33 intK 9 ((w4.alloc (.map #[] 0)).alloc (.cells #[.map (some w4.heap.size)] 123))
 have B5 : Below w4.heap.size w4 (((w4.alloc (.map #[] 0)).alloc (.cells #[.map (some w4.heap.size)] 123)).alloc (.map #[] 0)) := (by repeat' (first | exact Below.refl _ _ | refine Below.drew ?_ | refine Below.drewN' ?_ | refine Below.setCell ?_ (by first | omega | (simp; done) | exact Below.size (by assumption) | (simp; omega)) _ | refine Below.alloc ?_ (by first | omega | (simp; done) | exact Below.size (by assumption) | (simp; omega)) _ | refine Below.trans ?_ (Below.mono (by assumption) ?_) | (first | omega | (simp; done) | exact Below.size (by assumption) | (simp; omega))))
 have N0 : NotesAt ((w4.alloc (.map #[] 0)).alloc (.cells #[.map (some w4.heap.size)] 123)) w4.heap.size [] := (MapAt.made Tryz.prog 83 keyV evB w4).on ((Below.refl _ _).alloc (by simp) _)
 have N1 := N0.on ((Below.refl _ _).alloc (Nat.le_refl _) (.map #[] 0))
 have C1 := row_past (o' := .map #[] 0) (row_new (w4.alloc (.map #[] 0)) (.cells #[.map (some w4.heap.size)] 123))
 have hG : ((w4.alloc (.map #[] 0)).alloc (.cells #[.map (some w4.heap.size)] 123)).heap.size = w4.heap.size + 2 := by simp
 have hG1 : (w4.alloc (.map #[] 0)).heap.size = w4.heap.size + 1 := by simp
 rw [hG] at G0
 rw [hG1] at C1
 clear hG hG1 N0
 generalize hw5 : ((w4.alloc (.map #[] 0)).alloc (.cells #[.map (some w4.heap.size)] 123)).alloc (.map #[] 0) = w5
 rw [hw5] at G0 B5 N1 C1
 have hz5 : w4.heap.size + 3 ≤ w5.heap.size := by rw [← hw5]; simp
 clear hw5
 obtain ⟨Bb, hBb⟩ : ∃ z, z = w4.heap.size := ⟨_, rfl⟩
 rw [← hBb] at G0 N1 C1 hz5 ⊢
 obtain ⟨Bc, hBc⟩ : ∃ z, z = Bb + 1 := ⟨_, rfl⟩
 obtain ⟨Ba, hBa⟩ : ∃ z, z = Bb + 1 + 1 := ⟨_, rfl⟩
 rw [show Bb + 2 = Ba from hBa.symm] at G0
 rw [← hBa, ← hBc]
 rw [← hBc] at C1
 have l1 : Bb < Bc := by omega
 have l2 : Bc < Ba := by omega
 have l3 : Ba < w5.heap.size := by omega
 have l4 : w4.heap.size ≤ Bb := by omega
 have ST0 := Lib.hid (show ChkSt l w4 w5 Bb Bc Ba (ndsK ((keysP l).take 0)) from ⟨[], [], G0, by simp, AtInv.nil l, N1, BadInv.nil l, GoodN.nil l, C1, B5⟩)
 have HBb := Lib.hid hBb
 clear G0 N1 C1 B5 hBb hBc hBa hz5
 go_wp2_with fail
 go_loopw [44] (fun i wr => ∃ k : Nat, i = .int .i64 k ∧ k ≤ N ∧ ChkSt l w4 wr Bb Bc Ba (ndsK ((keysP l).take k)) ∧ Ba < wr.heap.size) (fun i _ => N - (intOf i).toNat)
 case atStart => exact ⟨0, rfl, by omega, ST0.out, l3⟩
 case round =>
  obtain ⟨k, rfl, hk, hst, hzr⟩ := hrel
  have HST := Lib.hid hst
  have HBR := Lib.hid (show Below w4.heap.size w4 wr by obtain ⟨_, _, _, _, _, _, _, _, _, h⟩ := hst; exact h)
  clear hst
  by_cases hlt : k < N
  ·obtain ⟨x, hx⟩ : ∃ x, L[k]? = some x := ⟨L[k]'(by rw [HN.out]; exact hlt), List.getElem?_eq_getElem _⟩
   obtain ⟨b, off, ha, hcell⟩ := HC.out (by omega)
   subst ha
   have d0' := cell_later HBR.out (hcell k x hx 0 _ rfl)
   have d0 : wr.cell? ⟨b, off + k * 3, none⟩ = some (.string x.1.1) := d0'
   have d1 := cell_later HBR.out (hcell k x hx 1 _ rfl)
   have d2 := cell_later HBR.out (hcell k x hx 2 _ rfl)
   have hkk : (keysP l)[k]? = some x.1 := by rw [← HLK.out, List.getElem?_map, hx]; rfl
   have HTK := Lib.hid (show ndsK ((keysP l).take (k + 1)) = ndsK ((keysP l).take k) ++ [x.1.1, x.1.2] by
    obtain ⟨hk', e⟩ := List.getElem?_eq_some_iff.1 hkk
    unfold ndsK
    rw [List.take_succ_eq_append_getElem hk', e, List.flatMap_append]; simp)
   obtain ⟨n1, n2⟩ := HKN.out x.1 (List.mem_of_getElem? hkk)
   have HDL := Lib.hid (show (ndsK ((keysP l).take k)).length ≤ 40000 by
    have : ∀ ks : List KeyD, (ndsK ks).length = 2 * ks.length := fun ks => by
     induction ks with
     |nil => rfl
     |cons a ks ih => unfold ndsK at ih ⊢; rw [List.flatMap_cons, List.length_append, ih]; simp; omega
    rw [this, List.length_take]; omega)
   have HDZ' := Lib.hid (show ∀ s ∈ ndsK ((keysP l).take k), s.size ≤ 140737488355328 ∧ s ∈ l.map (·.id) from fun s hs => by
    obtain ⟨key, hkey, hs⟩ := List.mem_flatMap.1 hs
    obtain ⟨m1, m2⟩ := HKN.out key (List.mem_of_mem_take hkey)
    simp only [List.mem_cons, List.not_mem_nil, or_false] at hs
    rcases hs with rfl | rfl
    ·exact ⟨m1.1, node_id m1.2⟩
    ·exact ⟨m2.1, node_id m2.2⟩)
   obtain ⟨ds, hds⟩ : ∃ ds, ds = ndsK ((keysP l).take k) := ⟨_, rfl⟩
   rw [← hds] at HST HTK HDL HDZ'
   obtain ⟨⟨x1, x2⟩, xa, xn, xc⟩ := x
   simp only [] at d0 d1 d2 n1 n2 HTK
   have HN1 := Lib.hid n1
   have HN2 := Lib.hid n2
   have bz := lt_of_cell d0
   clear hcell d0' hx hkk hds n1 n2
   go_wp2_with fail
   have BX : Below wr.heap.size wr (wr.alloc (.cells #[.string x1, .string x2, .slice xa xn xc] 85)) := (Below.refl _ _).alloc (Nat.le_refl _) _
   generalize hw6 : wr.alloc (.cells #[.string x1, .string x2, .slice xa xn xc] 85) = w6
   rw [hw6] at BX
   have ST6 := Lib.hid (show ChkSt l w4 w6 Bb Bc Ba (ds ++ [x1, x2].take 0) by
    obtain ⟨acc, NN, h1, h2, h3, h4, h5, h6, h7, h8⟩ := HST.out
    rw [List.take_zero, List.append_nil]
    exact ⟨acc, NN, h1.on BX, h2, h3, h4.on BX, h5, h6, row_later BX h7, h8.trans (BX.mono h8.size)⟩)
   have hz6 : Ba < w6.heap.size := Nat.lt_of_lt_of_le hzr BX.size
   clear hw6 BX d0 d1 d2 bz
   go_loopw [50] (fun i wr => ∃ j : Nat, i = .int .i64 j ∧ j ≤ 2 ∧ ChkSt l w4 wr Bb Bc Ba (ds ++ [x1, x2].take j) ∧ Ba < wr.heap.size) (fun i _ => 2 - (intOf i).toNat)
   case atStart => exact ⟨0, rfl, by omega, ST6.out, hz6⟩
   case round =>
    obtain ⟨j, rfl, hj, hst, hzr2⟩ := hrel
    have HST := Lib.hid hst
    have HBR := Lib.hid (show Below w4.heap.size w4 wr by obtain ⟨_, _, _, _, _, _, _, _, _, h⟩ := hst; exact h)
    clear hst ST6
    rcases (show j = 0 ∨ j = 1 ∨ j = 2 by omega) with rfl | rfl | rfl
    ·simp only [List.take_zero, List.append_nil] at HST
     rw [show (((0 : Nat)) : Int) = 0 from rfl]
     have ix : ∀ w : World, (Instr.index 83 (.agg #[.string x1, .string x2]) (.int .i64 0)).run Tryz.prog w = .ok (.string x1) w := fun _ => by kernel_rfl
     have HDZ := HDZ'
     have HREL := Lib.hid (show ∀ W, ChkSt l w4 W Bb Bc Ba (ds ++ [x1]) → ChkSt l w4 W Bb Bc Ba (ds ++ [x1, x2].take 1) from fun W h => h)
     have hpt := Lib.hid (PT.out x1 Bm wr (by have := HBR.out; exact B4.out.trans (this.mono B4.out.size)) (HAT4.out.on HBR.out) HN1.out)
     have HID := Lib.hid (node_id HN1.out.2)
     have HKO := Lib.hid (HPK.out x1)
     have HSZ := Lib.hid HN1.out.1
     have HPr := Lib.hid (row_later HBR.out HP4.out)
     obtain ⟨q, hq⟩ : ∃ z, z = ptO l x1 := ⟨_, rfl⟩
     rw [← hq] at hpt HKO
     have HQ := Lib.hid hq
     obtain ⟨qx, qy⟩ := q
     clear hq
     obtain ⟨pz, p0, p1⟩ := rk2 HPr.out
     go_wp2_with fail
     clear p0 p1 pz
     refine hpt.out.mono ?_
     rintro e w7 ⟨rfl, hb7⟩
     have B7 := hb7.alloc hb7.size (.cells #[.int .i64 qx, .int .i64 qy] 33)
     have HT7 := row_new w7 (.cells #[.int .i64 qx, .int .i64 qy] 33)
     have hz7 : wr.heap.size ≤ w7.heap.size := hb7.size
     go_wp2_with fail
     generalize hw8 : w7.alloc (.cells #[.int .i64 qx, .int .i64 qy] 33) = w8
     rw [hw8] at B7 HT7
     obtain ⟨Bt, hBt⟩ : ∃ z, z = w7.heap.size := ⟨_, rfl⟩
     rw [← hBt] at HT7 hz7 ⊢
     have HT8 := Lib.hid HT7
     have hz8 : Bt < w8.heap.size := lt_of_block HT7
     obtain ⟨acc, NN, h1, h2, h3, h4, h5, h6, h7, h8⟩ := HST.out
     have g8 := h1.on B7
     obtain ⟨V, ids, hlk, hids, hown⟩ := g8.look keyPt intK_inj Tryz.underlying125 (zeroSl _) (qx, qy) HKO.out
     obtain ⟨ao, co, hV⟩ := own_sl hown
     rw [hV] at hlk hown
     clear hV
     have hil : ids.length ≤ 40001 := by
      have := (h3 (qx, qy)).1
      unfold FAt at this
      rw [← hids] at this
      have h9 := HDL.out
      omega
     have HIDS := Lib.hid (show ids = FAt acc (ptO l x1) by rw [← HQ.out]; exact hids)
     have hstr : StrRow w8 (.slice ao ids.length co) ids := StrRow.of_own hown (by omega) (fun s hs => by
      have := ((h3 (qx, qy)).2 s).1 (by unfold FAt; rw [← hids]; exact hs)
      exact (HDZ.out s this.1).1)
     have CT := Lib.hid (contains_any (.slice ao ids.length co) ids x1 w8 hstr)
     have HST8 := Lib.hid hstr
     have HOWN := Lib.hid hown
     have HG8 := Lib.hid g8
     have H2 := Lib.hid h2
     have H3 := Lib.hid h3
     have H4 := Lib.hid (h4.on B7)
     have H5 := Lib.hid h5
     have H6 := Lib.hid h6
     have H7 := Lib.hid (row_later B7 h7)
     have B8 := Lib.hid (HBR.out.trans (B7.mono HBR.out.size))
     simp only [intK] at hlk
     clear hids hown g8 h1 h2 h3 h4 h5 h6 h7 h8 hw8 hBt B7 HT7 hb7 hpt hstr
     obtain ⟨qz, q0, q1⟩ := rk2 HT8.out
     go_wp2_with fail
     simp only [hlk, Result.andThen]
     go_wp2_with fail
     refine CT.out.mono ?_
     rintro e w9 ⟨rfl, rfl⟩
     cases hm : decide (x1 ∈ ids) with
     |true =>
      have hmm' := of_decide_eq_true hm
      rw [HIDS.out] at hmm'
      have ST9 := Lib.hid (show ChkSt l w4 w9 Bb Bc Ba (ds ++ [x1]) from ⟨acc, NN, HG8.out, by have := H2.out; simp; omega, H3.out.old hmm', H4.out, H5.out.old (((H3.out _).2 _).1 hmm').1, H6.out, H7.out, B8.out⟩)
      clear hmm'
      clear hm
      go_wp2
      go_roundw
      case rel => exact ⟨1, by go_num, by omega, HREL.out _ ST9.out, by omega⟩
      case measure => simp [intOf]
     |false =>
      have HNM := Lib.hid (of_decide_eq_false hm)
      clear hm
      go_wp2_with fail
      (try (simp only [hlk, Result.andThen]; go_wp2_with fail))
      clear q0 q1 qz
      clear hlk
      go_loopw [66] (fun i wr => ∃ (r : Nat) (N' : List KeyD), i = .int .i64 r ∧ r ≤ ids.length ∧ GroupAt Tryz.prog 33 intK (Ba + 1) 9 wr Ba acc ∧ NotesAt wr Bb N' ∧ NoteInv NN N' (ids.take r) x1 ∧ GoodN l N' ∧ wr.heap[Bc]? = some (.cells #[.map (some Bb)] 123) ∧ Below w4.heap.size w4 wr ∧ wr.ownsRow (Ba + 1) 9 1 (.slice ao ids.length co) ids.length (ids.map Value.string) ∧ wr.heap[Bt]? = some (.cells #[.int .i64 qx, .int .i64 qy] 33) ∧ Bt < wr.heap.size) (fun i _ => ids.length - (intOf i).toNat)
      case atStart => exact ⟨0, NN, rfl, by omega, HG8.out, H4.out, NoteInv.nil _ _, H6.out, H7.out, B8.out, HOWN.out, HT8.out, hz8⟩
      case round =>
       obtain ⟨r, N', rfl, hr, g1, g2, g3, g4, g5, g6, g7, g8, g9⟩ := hrel
       have hlen := Nat.lt_of_le_of_lt g4.len (show l.length * l.length < maxLen by have := Nat.mul_le_mul hl hl; unfold maxLen; omega)
       by_cases hlr : r < ids.length
       ·obtain ⟨o, ho⟩ : ∃ o, ids[r]? = some o := ⟨ids[r]'hlr, List.getElem?_eq_getElem _⟩
        have hom := HDZ.out o (((H3.out _).2 o).1 (by rw [← HIDS.out]; exact List.mem_of_getElem? ho)).1
        obtain ⟨_, _, hsl, _, _, hcV⟩ := StrRow.of_own g7 (by omega) (fun s hs => (HDZ.out s (((H3.out _).2 s).1 (by rw [← HIDS.out]; exact hs)).1).1)
        injection hsl with e1 e2 e3
        subst e1 e3
        obtain ⟨bV, oV, haV, hcell⟩ := hcV (by omega)
        subst haV
        have v0 := hcell r o ho
        have bz := lt_of_cell v0
        have NT := Lib.hid (note_any o x1 Bc Bb N' wr hom.1 HSZ.out g5 g2 hlen)
        have G1 := Lib.hid g1
        have G3 := Lib.hid (g3.step ho)
        have G4 := Lib.hid (g4.note hom.2 HID.out)
        have G5 := Lib.hid g5
        have G6 := Lib.hid g6
        have G7 := Lib.hid g7
        have G8 := Lib.hid g8
        clear hcell hcV e2 hom ho g1 g2 g3 g4 g5 g6 g7 g8 hlen
        go_wp2_with fail
        refine NT.out.mono ?_
        rintro e w10 ⟨rfl, hn10, hg10⟩
        have N10 := Lib.hid hn10
        have K10 := Lib.hid (G1.out.keptBy hg10 (fun e => by injection e with e; omega) (fun p hp => Or.inr (fun e => by have := (own_block (G1.out.2.2.1 p hp) Bb e).1; omega)))
        have C10 := Lib.hid (row_grown hg10 G5.out (fun e => by injection e with e; omega))
        have B10 := Lib.hid (G6.out.grown hg10 G6.out.size (fun j hj => by injection hj with hj; omega))
        have O10 := Lib.hid (G7.out.kept hg10 (Or.inr (fun e => by have := (own_block G7.out Bb e).1; omega)))
        have T10 := Lib.hid (row_grown hg10 G8.out (fun e => by injection e with e; omega))
        have z10 := hg10.size
        clear hn10 hg10 v0 bz
        go_wp2
        go_roundw
        case rel => exact ⟨r + 1, _, by go_num, by omega, K10.out, N10.out, G3.out, G4.out, C10.out, B10.out, O10.out, T10.out, by omega⟩
        case measure => simp [intOf]; omega
       ·obtain rfl : r = ids.length := by omega
        have NI := Lib.hid (show NoteInv NN N' ids x1 by have h := g3; rw [List.take_of_length_le (Nat.le_refl _)] at h; exact h)
        have B6 : Below wr.heap.size wr (wr.alloc (.cells #[.string x1] 9)) := (Below.refl _ _).alloc (Nat.le_refl _) _
        have HG6 := g1.on B6
        obtain ⟨w11, st, V7, ids7, hrE, hg7, hs7, hids7, hown7, hvb7, hvp7, hback⟩ := HG6.entry keyPt intK_inj Tryz.underlying125 (zeroSl _) (by have := H2.out; have := HDL.out; unfold maxLen; omega) (qx, qy) HKO.out
        have hids8 : ids7 = ids := by
         have := HIDS.out
         rw [← HQ.out] at this
         rw [this, hids7]
        subst hids8
        have HT6 := row_later B6 g8
        have HS6 := row_new wr (.cells #[.string x1] 9)
        have HC6 := row_later B6 g5
        have hz6' : (wr.alloc (.cells #[.string x1] 9)).heap.size = wr.heap.size + 1 := by simp
        have hnb : ∀ g : Nat, g ≠ Ba → some g ≠ some Ba := fun g h e => h (by injection e)
        have HT7 := Lib.hid (row_grown hg7 HT6 (hnb _ (by omega)))
        have HS7 := Lib.hid (row_grown hg7 HS6 (hnb _ (by omega)))
        have HC7 := Lib.hid (row_grown hg7 HC6 (hnb _ (by omega)))
        have HN7 := Lib.hid (MapAt.kept (g2.on B6) hg7 (fun e => by injection e with e; omega))
        have HV7 := Lib.hid hvb7
        have HB7 := Lib.hid hback
        have HO7 := Lib.hid hown7
        have hs7' := hs7.trans hz6'
        simp only [intK] at hrE
        have HG7 := Lib.hid hg7
        have B67 := Lib.hid (g6.trans (B6.mono g6.size))
        have HG4 := Lib.hid g4
        have G8 := Lib.hid g8
        obtain ⟨i1, hi, hi0, hi1, hi2⟩ := info_parts infoStr
        clear HG6 hvp7 hback hids7 hown7 hvb7 hg7 HT6 HS6 HC6 hs7 hnb hz6' g1 g2 g3 g4 g5 g6 g7 g8 B6 hlen
        obtain ⟨qz, q0, q1⟩ := rk2 G8.out
        go_wp2_with (at_builtin; refine wpList_append_own_at _ rfl _ _ 31 rfl (Ba + 1) 9 i1 (.string ⟨#[]⟩) 1 16 Tryz.underlying31 hi hi0 hi1 hi2 rfl (by decide) _ _ _ rfl HO7.out ⟨wr.heap.size, 0, none⟩ 1 1 [.string x1] rfl rfl (cells_row HS7.out) (by simp [Value.oneCell']) (by unfold maxLen; omega) (by omega) (by omega) ?_; intro v' w12 hown8 hgrow8 _ hloc8; obtain ⟨w13, hrS, hga9, hg9⟩ := HB7.out w12 v' (ids7 ++ [x1]) hgrow8 (by simpa using hown8) (hloc8.imp id (fun h => ⟨_, h, Nat.le_refl _⟩)); have HG9 := Lib.hid hg9; have HGR8 := Lib.hid hgrow8; have HGA9 := Lib.hid hga9; clear hown8 hloc8 hgrow8 hg9 hga9)
        have hvl : ∀ g, V7.ownBlock = some g → Ba + 1 ≤ g := fun g hg => (own_block HO7.out g hg).1
        have B77 := B67.out.grown HG7.out (by have := B67.out.size; exact this) (fun j hj => by injection hj with hj; omega)
        have B88 := B77.grown HGR8.out B77.size (fun j hj => by have := hvl j hj; omega)
        have B99 := Lib.hid (B88.grown HG9.out B88.size (fun j hj => by injection hj with hj; omega))
        have N8 := MapAt.kept HN7.out HGR8.out (fun e => by have := hvl Bb e.symm; omega)
        have N9 := Lib.hid (show NotesAt w13 Bb N' from MapAt.kept N8 HG9.out (fun e => by injection e with e; omega))
        have C8 := row_grown HGR8.out HC7.out (fun e => by have := hvl Bc e.symm; omega)
        have C9 := Lib.hid (row_grown HG9.out C8 (fun e => by injection e with e; omega))
        have z13 : Ba < w13.heap.size := by have := HGR8.out.size; have := HG9.out.size; omega
        have A9 := Lib.hid (show AtInv l (ds ++ [x1]) (FAt (aput (qx, qy) (v', ids7 ++ [x1]) acc)) from H3.out.new (fun q => by
         rw [fat_put, ← HQ.out]
         by_cases e : q = (qx, qy)
         ·rw [if_pos e, if_pos e, HIDS.out, ← HQ.out, e]
         ·rw [if_neg e, if_neg e]))
        have ST9 := Lib.hid (show ChkSt l w4 w13 Bb Bc Ba (ds ++ [x1]) from ⟨_, N', HGA9.out, by have := aput_length (qx, qy) (v', ids7 ++ [x1]) acc; have := H2.out; simp; omega, A9.out, N9.out, H5.out.new H3.out (by rw [← HIDS.out]; exact HNM.out) (by rw [← HIDS.out]; exact NI.out), HG4.out, C9.out, B99.out⟩)
        clear B77 B88 N8 C8 hvl
        clear q0 q1 qz
        go_wp2
        go_roundw
        case rel => exact ⟨1, by go_num, by omega, HREL.out _ ST9.out, z13⟩
        case measure => simp [intOf]
    ·have HDL0 := HDL
     obtain ⟨d1, hd1⟩ : ∃ d, d = ds ++ [x1] := ⟨_, rfl⟩
     have HDL := Lib.hid (show d1.length ≤ 40001 by have := HDL0.out; rw [hd1]; simp; omega)
     have HDZ := Lib.hid (show ∀ s ∈ d1, s.size ≤ 140737488355328 ∧ s ∈ l.map (·.id) from fun s hs => by
      rw [hd1] at hs
      rcases List.mem_append.1 hs with hs | hs
      ·exact HDZ'.out s hs
      ·rw [List.mem_singleton.1 hs]; exact ⟨HN1.out.1, node_id HN1.out.2⟩)
     have HREL := Lib.hid (show ∀ W, ChkSt l w4 W Bb Bc Ba (d1 ++ [x2]) → ChkSt l w4 W Bb Bc Ba (ds ++ [x1, x2].take 2) from fun W h => by
      rw [hd1, List.append_assoc] at h; exact h)
     rw [show ds ++ [x1, x2].take 1 = d1 from hd1.symm] at HST
     have HD1 := Lib.hid hd1
     clear hd1 HDL0
     rw [show (((1 : Nat)) : Int) = 1 from rfl]
     have ix : ∀ w : World, (Instr.index 83 (.agg #[.string x1, .string x2]) (.int .i64 1)).run Tryz.prog w = .ok (.string x2) w := fun _ => by kernel_rfl
     have hpt := Lib.hid (PT.out x2 Bm wr (by have := HBR.out; exact B4.out.trans (this.mono B4.out.size)) (HAT4.out.on HBR.out) HN2.out)
     have HID := Lib.hid (node_id HN2.out.2)
     have HKO := Lib.hid (HPK.out x2)
     have HSZ := Lib.hid HN2.out.1
     have HPr := Lib.hid (row_later HBR.out HP4.out)
     obtain ⟨q, hq⟩ : ∃ z, z = ptO l x2 := ⟨_, rfl⟩
     rw [← hq] at hpt HKO
     have HQ := Lib.hid hq
     obtain ⟨qx, qy⟩ := q
     clear hq
     obtain ⟨pz, p0, p1⟩ := rk2 HPr.out
     go_wp2_with fail
     clear p0 p1 pz
     refine hpt.out.mono ?_
     rintro e w7 ⟨rfl, hb7⟩
     have B7 := hb7.alloc hb7.size (.cells #[.int .i64 qx, .int .i64 qy] 33)
     have HT7 := row_new w7 (.cells #[.int .i64 qx, .int .i64 qy] 33)
     have hz7 : wr.heap.size ≤ w7.heap.size := hb7.size
     go_wp2_with fail
     generalize hw8 : w7.alloc (.cells #[.int .i64 qx, .int .i64 qy] 33) = w8
     rw [hw8] at B7 HT7
     obtain ⟨Bt, hBt⟩ : ∃ z, z = w7.heap.size := ⟨_, rfl⟩
     rw [← hBt] at HT7 hz7 ⊢
     have HT8 := Lib.hid HT7
     have hz8 : Bt < w8.heap.size := lt_of_block HT7
     obtain ⟨acc, NN, h1, h2, h3, h4, h5, h6, h7, h8⟩ := HST.out
     have g8 := h1.on B7
     obtain ⟨V, ids, hlk, hids, hown⟩ := g8.look keyPt intK_inj Tryz.underlying125 (zeroSl _) (qx, qy) HKO.out
     obtain ⟨ao, co, hV⟩ := own_sl hown
     rw [hV] at hlk hown
     clear hV
     have hil : ids.length ≤ 40001 := by
      have := (h3 (qx, qy)).1
      unfold FAt at this
      rw [← hids] at this
      have h9 := HDL.out
      omega
     have HIDS := Lib.hid (show ids = FAt acc (ptO l x2) by rw [← HQ.out]; exact hids)
     have hstr : StrRow w8 (.slice ao ids.length co) ids := StrRow.of_own hown (by omega) (fun s hs => by
      have := ((h3 (qx, qy)).2 s).1 (by unfold FAt; rw [← hids]; exact hs)
      exact (HDZ.out s this.1).1)
     have CT := Lib.hid (contains_any (.slice ao ids.length co) ids x2 w8 hstr)
     have HST8 := Lib.hid hstr
     have HOWN := Lib.hid hown
     have HG8 := Lib.hid g8
     have H2 := Lib.hid h2
     have H3 := Lib.hid h3
     have H4 := Lib.hid (h4.on B7)
     have H5 := Lib.hid h5
     have H6 := Lib.hid h6
     have H7 := Lib.hid (row_later B7 h7)
     have B8 := Lib.hid (HBR.out.trans (B7.mono HBR.out.size))
     simp only [intK] at hlk
     clear hids hown g8 h1 h2 h3 h4 h5 h6 h7 h8 hw8 hBt B7 HT7 hb7 hpt hstr
     obtain ⟨qz, q0, q1⟩ := rk2 HT8.out
     go_wp2_with fail
     simp only [hlk, Result.andThen]
     go_wp2_with fail
     refine CT.out.mono ?_
     rintro e w9 ⟨rfl, rfl⟩
     cases hm : decide (x2 ∈ ids) with
     |true =>
      have hmm' := of_decide_eq_true hm
      rw [HIDS.out] at hmm'
      have ST9 := Lib.hid (show ChkSt l w4 w9 Bb Bc Ba (d1 ++ [x2]) from ⟨acc, NN, HG8.out, by have := H2.out; simp; omega, H3.out.old hmm', H4.out, H5.out.old (((H3.out _).2 _).1 hmm').1, H6.out, H7.out, B8.out⟩)
      clear hmm'
      clear hm
      go_wp2
      go_roundw
      case rel => exact ⟨2, by go_num, by omega, HREL.out _ ST9.out, by omega⟩
      case measure => simp [intOf]
     |false =>
      have HNM := Lib.hid (of_decide_eq_false hm)
      clear hm
      go_wp2_with fail
      (try (simp only [hlk, Result.andThen]; go_wp2_with fail))
      clear q0 q1 qz
      clear hlk
      go_loopw [66] (fun i wr => ∃ (r : Nat) (N' : List KeyD), i = .int .i64 r ∧ r ≤ ids.length ∧ GroupAt Tryz.prog 33 intK (Ba + 1) 9 wr Ba acc ∧ NotesAt wr Bb N' ∧ NoteInv NN N' (ids.take r) x2 ∧ GoodN l N' ∧ wr.heap[Bc]? = some (.cells #[.map (some Bb)] 123) ∧ Below w4.heap.size w4 wr ∧ wr.ownsRow (Ba + 1) 9 1 (.slice ao ids.length co) ids.length (ids.map Value.string) ∧ wr.heap[Bt]? = some (.cells #[.int .i64 qx, .int .i64 qy] 33) ∧ Bt < wr.heap.size) (fun i _ => ids.length - (intOf i).toNat)
      case atStart => exact ⟨0, NN, rfl, by omega, HG8.out, H4.out, NoteInv.nil _ _, H6.out, H7.out, B8.out, HOWN.out, HT8.out, hz8⟩
      case round =>
       obtain ⟨r, N', rfl, hr, g1, g2, g3, g4, g5, g6, g7, g8, g9⟩ := hrel
       have hlen := Nat.lt_of_le_of_lt g4.len (show l.length * l.length < maxLen by have := Nat.mul_le_mul hl hl; unfold maxLen; omega)
       by_cases hlr : r < ids.length
       ·obtain ⟨o, ho⟩ : ∃ o, ids[r]? = some o := ⟨ids[r]'hlr, List.getElem?_eq_getElem _⟩
        have hom := HDZ.out o (((H3.out _).2 o).1 (by rw [← HIDS.out]; exact List.mem_of_getElem? ho)).1
        obtain ⟨_, _, hsl, _, _, hcV⟩ := StrRow.of_own g7 (by omega) (fun s hs => (HDZ.out s (((H3.out _).2 s).1 (by rw [← HIDS.out]; exact hs)).1).1)
        injection hsl with e1 e2 e3
        subst e1 e3
        obtain ⟨bV, oV, haV, hcell⟩ := hcV (by omega)
        subst haV
        have v0 := hcell r o ho
        have bz := lt_of_cell v0
        have NT := Lib.hid (note_any o x2 Bc Bb N' wr hom.1 HSZ.out g5 g2 hlen)
        have G1 := Lib.hid g1
        have G3 := Lib.hid (g3.step ho)
        have G4 := Lib.hid (g4.note hom.2 HID.out)
        have G5 := Lib.hid g5
        have G6 := Lib.hid g6
        have G7 := Lib.hid g7
        have G8 := Lib.hid g8
        clear hcell hcV e2 hom ho g1 g2 g3 g4 g5 g6 g7 g8 hlen
        go_wp2_with fail
        refine NT.out.mono ?_
        rintro e w10 ⟨rfl, hn10, hg10⟩
        have N10 := Lib.hid hn10
        have K10 := Lib.hid (G1.out.keptBy hg10 (fun e => by injection e with e; omega) (fun p hp => Or.inr (fun e => by have := (own_block (G1.out.2.2.1 p hp) Bb e).1; omega)))
        have C10 := Lib.hid (row_grown hg10 G5.out (fun e => by injection e with e; omega))
        have B10 := Lib.hid (G6.out.grown hg10 G6.out.size (fun j hj => by injection hj with hj; omega))
        have O10 := Lib.hid (G7.out.kept hg10 (Or.inr (fun e => by have := (own_block G7.out Bb e).1; omega)))
        have T10 := Lib.hid (row_grown hg10 G8.out (fun e => by injection e with e; omega))
        have z10 := hg10.size
        clear hn10 hg10 v0 bz
        go_wp2
        go_roundw
        case rel => exact ⟨r + 1, _, by go_num, by omega, K10.out, N10.out, G3.out, G4.out, C10.out, B10.out, O10.out, T10.out, by omega⟩
        case measure => simp [intOf]; omega
       ·obtain rfl : r = ids.length := by omega
        have NI := Lib.hid (show NoteInv NN N' ids x2 by have h := g3; rw [List.take_of_length_le (Nat.le_refl _)] at h; exact h)
        have B6 : Below wr.heap.size wr (wr.alloc (.cells #[.string x2] 9)) := (Below.refl _ _).alloc (Nat.le_refl _) _
        have HG6 := g1.on B6
        obtain ⟨w11, st, V7, ids7, hrE, hg7, hs7, hids7, hown7, hvb7, hvp7, hback⟩ := HG6.entry keyPt intK_inj Tryz.underlying125 (zeroSl _) (by have := H2.out; have := HDL.out; unfold maxLen; omega) (qx, qy) HKO.out
        have hids8 : ids7 = ids := by
         have := HIDS.out
         rw [← HQ.out] at this
         rw [this, hids7]
        subst hids8
        have HT6 := row_later B6 g8
        have HS6 := row_new wr (.cells #[.string x2] 9)
        have HC6 := row_later B6 g5
        have hz6' : (wr.alloc (.cells #[.string x2] 9)).heap.size = wr.heap.size + 1 := by simp
        have hnb : ∀ g : Nat, g ≠ Ba → some g ≠ some Ba := fun g h e => h (by injection e)
        have HT7 := Lib.hid (row_grown hg7 HT6 (hnb _ (by omega)))
        have HS7 := Lib.hid (row_grown hg7 HS6 (hnb _ (by omega)))
        have HC7 := Lib.hid (row_grown hg7 HC6 (hnb _ (by omega)))
        have HN7 := Lib.hid (MapAt.kept (g2.on B6) hg7 (fun e => by injection e with e; omega))
        have HV7 := Lib.hid hvb7
        have HB7 := Lib.hid hback
        have HO7 := Lib.hid hown7
        have hs7' := hs7.trans hz6'
        simp only [intK] at hrE
        have HG7 := Lib.hid hg7
        have B67 := Lib.hid (g6.trans (B6.mono g6.size))
        have HG4 := Lib.hid g4
        have G8 := Lib.hid g8
        obtain ⟨i1, hi, hi0, hi1, hi2⟩ := info_parts infoStr
        clear HG6 hvp7 hback hids7 hown7 hvb7 hg7 HT6 HS6 HC6 hs7 hnb hz6' g1 g2 g3 g4 g5 g6 g7 g8 B6 hlen
        obtain ⟨qz, q0, q1⟩ := rk2 G8.out
        go_wp2_with (at_builtin; refine wpList_append_own_at _ rfl _ _ 31 rfl (Ba + 1) 9 i1 (.string ⟨#[]⟩) 1 16 Tryz.underlying31 hi hi0 hi1 hi2 rfl (by decide) _ _ _ rfl HO7.out ⟨wr.heap.size, 0, none⟩ 1 1 [.string x2] rfl rfl (cells_row HS7.out) (by simp [Value.oneCell']) (by unfold maxLen; omega) (by omega) (by omega) ?_; intro v' w12 hown8 hgrow8 _ hloc8; obtain ⟨w13, hrS, hga9, hg9⟩ := HB7.out w12 v' (ids7 ++ [x2]) hgrow8 (by simpa using hown8) (hloc8.imp id (fun h => ⟨_, h, Nat.le_refl _⟩)); have HG9 := Lib.hid hg9; have HGR8 := Lib.hid hgrow8; have HGA9 := Lib.hid hga9; clear hown8 hloc8 hgrow8 hg9 hga9)
        have hvl : ∀ g, V7.ownBlock = some g → Ba + 1 ≤ g := fun g hg => (own_block HO7.out g hg).1
        have B77 := B67.out.grown HG7.out (by have := B67.out.size; exact this) (fun j hj => by injection hj with hj; omega)
        have B88 := B77.grown HGR8.out B77.size (fun j hj => by have := hvl j hj; omega)
        have B99 := Lib.hid (B88.grown HG9.out B88.size (fun j hj => by injection hj with hj; omega))
        have N8 := MapAt.kept HN7.out HGR8.out (fun e => by have := hvl Bb e.symm; omega)
        have N9 := Lib.hid (show NotesAt w13 Bb N' from MapAt.kept N8 HG9.out (fun e => by injection e with e; omega))
        have C8 := row_grown HGR8.out HC7.out (fun e => by have := hvl Bc e.symm; omega)
        have C9 := Lib.hid (row_grown HG9.out C8 (fun e => by injection e with e; omega))
        have z13 : Ba < w13.heap.size := by have := HGR8.out.size; have := HG9.out.size; omega
        have A9 := Lib.hid (show AtInv l (d1 ++ [x2]) (FAt (aput (qx, qy) (v', ids7 ++ [x2]) acc)) from H3.out.new (fun q => by
         rw [fat_put, ← HQ.out]
         by_cases e : q = (qx, qy)
         ·rw [if_pos e, if_pos e, HIDS.out, ← HQ.out, e]
         ·rw [if_neg e, if_neg e]))
        have ST9 := Lib.hid (show ChkSt l w4 w13 Bb Bc Ba (d1 ++ [x2]) from ⟨_, N', HGA9.out, by have := aput_length (qx, qy) (v', ids7 ++ [x2]) acc; have := H2.out; simp; omega, A9.out, N9.out, H5.out.new H3.out (by rw [← HIDS.out]; exact HNM.out) (by rw [← HIDS.out]; exact NI.out), HG4.out, C9.out, B99.out⟩)
        clear B77 B88 N8 C8 hvl
        clear q0 q1 qz
        go_wp2
        go_roundw
        case rel => exact ⟨2, by go_num, by omega, HREL.out _ ST9.out, z13⟩
        case measure => simp [intOf]
    ·have STF := Lib.hid (show ChkSt l w4 wr Bb Bc Ba (ndsK ((keysP l).take (k + 1))) by rw [HTK.out]; exact HST.out)
     rw [show (((2 : Nat)) : Int) = 2 from rfl]
     go_wp2
     go_roundw
     case rel => exact ⟨k + 1, by go_num, by omega, STF.out, hzr2⟩
     case measure => simp [intOf]; omega
  ·obtain rfl : k = N := by omega
   have STF := Lib.hid (show ChkSt l w4 wr Bb Bc Ba (ndsK (keysP l)) by
    have h := HST.out
    rw [List.take_of_length_le (by rw [HNK.out]; exact Nat.le_refl _)] at h
    exact h)
   clear HST
   go_wp2_with fail
   obtain ⟨wf, rfl⟩ : ∃ wf : World, wf = wr := ⟨_, rfl⟩
   obtain ⟨i2, hi, hi0, hi1, hi2⟩ := info_parts infoInt
   go_loopw [16, 87] (fun v16 i wr => ∃ j : Nat, i = .int .i64 j ∧ j ≤ k ∧ wr.ownsRow wf.heap.size 3 1 v16 j ((List.range j).flatMap encNt) ∧ Below wf.heap.size wf wr) (fun _ i _ => k - (intOf i).toNat)
   case atStart => exact ⟨0, rfl, by omega, World.ownsRow_nil _ _ _ _, Below.refl _ _⟩
   case round =>
    obtain ⟨j, rfl, hj, hown, hbr⟩ := hrel
    have HOWN := Lib.hid hown
    have HB := Lib.hid hbr
    have hzj := hbr.size
    clear hown hbr
    by_cases hlt : j < k
    ·go_wp2_with (at_builtin; refine wpList_append_own _ rfl _ _ 127 rfl wf.heap.size 3 i2 (.int .i64 0) 1 8 Tryz.underlying127 hi hi0 hi1 hi2 rfl (by decide) _ _ _ rfl (HOWN.out.alloc _) ⟨wr.heap.size, 0, none⟩ 1 1 (encNt j) rfl rfl (cells_row (row_new _ _)) (encNt_one _) (by unfold maxLen; omega) (by omega) (by simp; omega) ?_; intro v' w7 hown7 hgrow7 _)
     have B7 := Lib.hid ((HB.out.alloc hzj _).grown hgrow7 (by simp; omega) (fun j hj => (own_block HOWN.out j hj).1))
     have O7 := Lib.hid (show w7.ownsRow wf.heap.size 3 1 v' (j + 1) ((List.range (j + 1)).flatMap encNt) by
      rw [List.range_succ, List.flatMap_append]; simpa using hown7)
     clear hown7 hgrow7
     go_roundw
     case rel => exact ⟨j + 1, by go_num, by omega, O7.out, B7.out⟩
     case measure => simp [intOf]; omega
    ·obtain rfl : j = k := by omega
     obtain ⟨acc, N0, -, -, -, h4, h5, h6, h7, h8⟩ := STF.out
     have BA : Below wr.heap.size wr (wr.alloc (.map #[] 0)) := (by repeat' (first | exact Below.refl _ _ | refine Below.drew ?_ | refine Below.drewN' ?_ | refine Below.setCell ?_ (by first | omega | (simp; done) | exact Below.size (by assumption) | (simp; omega)) _ | refine Below.alloc ?_ (by first | omega | (simp; done) | exact Below.size (by assumption) | (simp; omega)) _ | refine Below.trans ?_ (Below.mono (by assumption) ?_) | (first | omega | (simp; done) | exact Below.size (by assumption) | (simp; omega))))
     have BFA := Lib.hid (HB.out.trans (BA.mono hzj))
     have B4A := Lib.hid (h8.trans (BFA.out.mono h8.size))
     have NA := Lib.hid (h4.on BFA.out)
     have CA := Lib.hid (row_later BFA.out h7)
     have H5 := Lib.hid h5
     have H6 := Lib.hid h6
     have HPr := Lib.hid (row_later (h8.trans (HB.out.mono h8.size)) HP4.out)
     have FA := MapAt.made Tryz.prog 130 intK evI wr
     have IA := own_later HOWN.out BA
     have zA : Ba < wr.heap.size := by omega
     clear STF h4 h5 h6 h7 h8 HB HOWN hi hi0 hi1 hi2
     obtain ⟨pz, p0, p1⟩ := rk2 HPr.out
     go_wp2_with fail
     clear p0 p1 pz
     generalize hwA : wr.alloc (.map #[] 0) = wA
     rw [hwA] at BA BFA B4A NA CA FA IA
     obtain ⟨Bf, hBf⟩ : ∃ z, z = wr.heap.size := ⟨_, rfl⟩
     rw [← hBf] at FA zA ⊢
     have zA2 : Bf < wA.heap.size := FA.lt
     have FA' := Lib.hid FA
     have IA' := Lib.hid IA
     have LA := Lib.hid (HL4.out.on B4A.out)
     clear hwA hBf BA FA IA
     refine (SG.out wA Bm _ (B4.out.trans (B4A.out.mono B4.out.size)) (HAT4.out.on B4A.out) (by have := LA.out; rw [HN.out] at this; exact this)).mono ?_
     rintro e w6 ⟨vS, rfl, hsg, hb6⟩
     have FA6 := Lib.hid (FA'.out.on hb6)
     have IA6 := own_later IA'.out hb6
     obtain ⟨SS, hSS⟩ : ∃ z, z = (keysP l).map (segB l) := ⟨_, rfl⟩
     have hSl : SS.length = j := by rw [hSS, List.length_map, HNK.out]
     rw [← hSS] at hsg
     have MT := Lib.hid (meets_any vS u16 Bf SS w6 hsg (by rw [hSl]; exact RowE.of_own encNt_len (by rw [List.length_range]) IA6) FA6.out (by omega))
     have B46 := Lib.hid (B4A.out.trans (hb6.mono B4A.out.size))
     have N6 := Lib.hid (NA.out.on hb6)
     have C6 := Lib.hid (row_later hb6 CA.out)
     have HSS := Lib.hid hSS
     have z6 : wA.heap.size ≤ w6.heap.size := hb6.size
     clear hsg hb6 IA6 hSS hSl FA6 IA' FA' NA CA LA
     go_wp2_with fail
     refine MT.out.mono ?_
     rintro e w7 ⟨F, rfl, hF7, hg7, hFm⟩
     have N7 := Lib.hid (show NotesAt w7 Bb N0 from MapAt.kept N6.out hg7 (fun e => by injection e with e; omega))
     have C7 := Lib.hid (row_grown hg7 C6.out (fun e => by injection e with e; omega))
     have B47 := Lib.hid (B46.out.grown hg7 B46.out.size (fun j hj => by injection hj with hj; omega))
     have F7 := Lib.hid hF7
     have HFM := Lib.hid hFm
     have z7 := hg7.size
     clear hF7 hg7 hFm MT N6 C6 B46
     obtain ⟨w8, hrr, hra, hgr, hsz⟩ := F7.out.range (T := 128) (E := 3) Tryz.underlying128
     go_wp2_with fail
     obtain ⟨Bi, hBi⟩ : ∃ z, z = w7.heap.size := ⟨_, rfl⟩
     rw [← hBi] at hra ⊢
     have hbi : w4.heap.size ≤ Bi := by have := B47.out.size; omega
     have hbi2 : Bf < Bi := by omega
     have RA8 := Lib.hid hra
     have N8 := Lib.hid (MapAt.kept N7.out hgr (fun e => by cases e))
     have C8 := Lib.hid (row_grown hgr C7.out (fun e => by cases e))
     have B48 := Lib.hid (B47.out.grown hgr B47.out.size (fun j hj => by cases hj))
     have z8 : Bi < w8.heap.size := by omega
     clear hra hrr hgr hsz hBi N7 C7 B47
     go_loopw [23] (fun _ wx => ∃ (done todo : List FdD) (N' : List KeyD), RangeAt intK evI wx Bf Bi F done todo ∧ NotesAt wx Bb N' ∧ CrsInv l N0 N' done ∧ GoodN l N' ∧ wx.heap[Bc]? = some (.cells #[.map (some Bb)] 123) ∧ Below w4.heap.size w4 wx ∧ Bi < wx.heap.size) (fun _ wx => wx.rangeLeft Bf Bi)
     case atStart => exact ⟨[], F, N0, RA8.out, N8.out, CrsInv.nil _ _, H6.out, C8.out, B48.out, z8⟩
     case round =>
      obtain ⟨done, todo, N', hra, hn, hci, hgn, hc1, hb4, hzx⟩ := hrel
      have HPM := Lib.hid hra.perm
      have HLF := Lib.hid hra.left
      have HNT := Lib.hid hn
      have HCI := Lib.hid hci
      have HGN := Lib.hid hgn
      have HC1 := Lib.hid hc1
      have HB4 := Lib.hid hb4
      clear hn hci hgn hc1 hb4
      rcases hra.next (P := Tryz.prog) with ⟨ht, hp, hnx⟩ | ⟨p, todo', w9, hp, hnx, hra9, hg9, hs9, hen⟩
      ·have HKA := Lib.hid (fun key => noted_all H5.out (show CrsInv l N0 N' F from fun key => by
        rw [HCI.out key]
        exact or_congr Iff.rfl ⟨fun ⟨p, hp', h⟩ => ⟨p, hp.mem_iff.2 hp', h⟩, fun ⟨p, hp', h⟩ => ⟨p, hp.mem_iff.1 hp', h⟩⟩) (fun p => by rw [← HSS.out]; exact HFM.out p) key)
       have q0 := cell_of_row wr _ 0 _ _ _ HC1.out
       simp only [List.getElem?_toArray, List.getElem?_cons_zero] at q0
       obtain ⟨w12, hrr2, hra2, hgr2, hsz2⟩ := MapAt.range HNT.out (T := 123) (E := 4) Tryz.underlying123
       obtain ⟨j0, hj, hj0, hj1, hj2⟩ := info_parts infoVi
       obtain ⟨wq, rfl⟩ : ∃ z : World, z = wr := ⟨_, rfl⟩
       have HRA2 := Lib.hid hra2
       have B12 := Lib.hid (HB4.out.grown hgr2 HB4.out.size (fun j hj => by cases hj))
       have zq := HB4.out.size
       have zl := HNT.out.lt
       clear hra hp ht hra2 hgr2
       go_wp2_with fail
       clear hrr2 q0 hnx
       obtain ⟨Bj, hBj⟩ : ∃ z, z = wq.heap.size := ⟨_, rfl⟩
       rw [← hBj] at HRA2 hsz2 zq zl ⊢
       obtain ⟨NB, hNB⟩ : ∃ z : List (KeyD × Bool), z = N'.map fun k => (k, true) := ⟨_, rfl⟩
       rw [← hNB] at HRA2
       have HNB := Lib.hid hNB
       clear hBj hNB
       go_loopw [28] (fun v28 wx => ∃ (done todo : List (KeyD × Bool)) (M : List LineM), RangeAt keyV evB wx Bb Bj NB done todo ∧ wx.ownsRow Bj 102 3 v28 M.length (M.flatMap encVi) ∧ M.map (·.1) = done.map (·.1) ∧ (∀ x ∈ M, VR Bj wx v28 x) ∧ (M = [] → v28 = .slice none 0 0) ∧ Below w4.heap.size w4 wx ∧ Bj < wx.heap.size) (fun _ wx => wx.rangeLeft Bb Bj)
       case atStart => exact ⟨[], NB, [], HRA2.out, World.ownsRow_nil _ _ _ _, rfl, (fun x hx => by cases hx), fun _ => rfl, B12.out, by omega⟩
       case round =>
        obtain ⟨dn, td, M, hra, hown, hmk, hvr, hm0, hb4, hzj⟩ := hrel
        have HMK := Lib.hid hmk
        have HVR := Lib.hid hvr
        have HM0 := Lib.hid hm0
        have HB := Lib.hid hb4
        have HOWN := Lib.hid hown
        have HLF := Lib.hid hra.left
        have HPM := Lib.hid hra.perm
        have HNR := Lib.hid (hra.notRow hown)
        have hml : M.length ≤ N'.length := by
         have h1 := congrArg List.length hmk
         have h2 := hra.perm.length_eq
         rw [HNB.out] at h2
         simp at h1 h2
         omega
        have hnl : N'.length ≤ 1000000 := Nat.le_trans HGN.out.len (by have := Nat.mul_le_mul hl hl; omega)
        rcases hra.next (P := Tryz.prog) with ⟨ht, hp, hnx⟩ | ⟨p, td', w9, hp, hnx, hra9, hg9, hs9, hen⟩
        ·have HPD := Lib.hid hp
         clear hra hown hmk hvr hm0 hb4 ht hp
         go_wp2_with fail
         refine (vios_sort rfl (by omega) HOWN.out HVR.out HM0.out).mono ?_
         rintro e w6 ⟨rfl, M', hM, hso, hown6, hg6⟩
         have HF := Lib.hid (show ViosAt w6 u28 (checkP l) from ⟨M', RowE.of_own encVi_len hM.length_eq.symm hown6, vios_sorted HKA.out HGN.out.1 (by
          have h1 := hM.map (·.1)
          rw [HMK.out] at h1
          have h2 := HPD.out.map (·.1)
          rw [HNB.out, List.map_map] at h2
          have h3 : N'.map ((fun p : KeyD × Bool => p.1) ∘ fun k => (k, true)) = N' := by
           rw [show ((fun p : KeyD × Bool => p.1) ∘ fun k : KeyD => (k, true)) = id from rfl, List.map_id]
          rw [h3] at h2
          exact h1.trans h2.symm) hso, fun x hx => ((HVR.out x (hM.mem_iff.1 hx)).kept hg6 (Or.inl rfl)).row⟩)
         have BF := Lib.hid (B4.out.trans ((HB.out.grown hg6 HB.out.size (fun j hj => by have := (HOWN.out.lt j hj).1; omega)).mono B4.out.size))
         clear hM hso hown6 hg6
         go_wp2
         go_ret
         exact ⟨_, rfl, HF.out, BF.out⟩
        ·have hpm : p ∈ NB := HPM.out.mem_iff.2 (List.mem_append_right _ (hp.mem_iff.2 (List.mem_cons_self ..)))
         obtain ⟨key, hkm, hkp⟩ := List.mem_map.1 (by rw [HNB.out] at hpm; exact hpm)
         subst hkp
         obtain ⟨gk1, gk2, gk3⟩ := HGN.out.2 key hkm
         have HK1 := Lib.hid gk1
         have HKZ := Lib.hid (show key.1.size ≤ 140737488355328 ∧ key.2.size ≤ 140737488355328 from ⟨ids_size HZO.out gk2, ids_size HZO.out gk3⟩)
         have hlt9 : td'.length < td.length := by have := hp.length_eq; simp at this; omega
         have R9 := Lib.hid hra9
         have B9 := Lib.hid (hb4.grown hg9 hb4.size (fun j hj => by injection hj with hj; omega))
         have O9 := Lib.hid (hown.kept hg9 (Or.inr HNR.out.1))
         have V9 := Lib.hid (fun x hx => (HVR.out x hx).kept hg9 (Or.inr (Or.inr rfl)))
         have zj9 : Bj < w9.heap.size := by omega
         obtain ⟨x1, x2⟩ := key
         simp only [keyV, evB] at hnx hen
         clear hra hown hmk hvr hm0 hb4 hg9 hra9 hp hpm hkm gk1 gk2 gk3 HVR HOWN HB hs9
         go_wp2_with fail
         have BN : Below w9.heap.size w9 (w9.alloc (.cells #[.string x1, .string x2] 83)) := (Below.refl _ _).alloc (Nat.le_refl _) _
         have HN2 := row_new w9 (.cells #[.string x1, .string x2] 83)
         generalize hwn : w9.alloc (.cells #[.string x1, .string x2] 83) = wn
         rw [hwn] at BN HN2
         obtain ⟨Bn, hBn⟩ : ∃ z, z = w9.heap.size := ⟨_, rfl⟩
         rw [← hBn] at HN2 zj9 ⊢
         have HBn := Lib.hid hBn
         clear hwn hBn hnx hen
         refine (compact_any (x1, x2) Bn wn HKZ.out.1 HKZ.out.2 HN2).mono ?_
         rintro e w10 ⟨n, rfl, hs10, hg10⟩
         have B910 := BN.grown hg10 BN.size (fun j hj => by injection hj with hj; have := HBn.out; omega)
         have zn : Bn < w10.heap.size := Nat.lt_of_lt_of_le (lt_of_block HN2) hg10.size
         have B10 := Lib.hid (B9.out.trans (B910.mono B9.out.size))
         have R10 := Lib.hid (R9.out.on B910)
         have O10 := Lib.hid (own_later O9.out B910)
         have V10 := Lib.hid (fun x hx => (V9.out x hx).on B910)
         have VN := Lib.hid (show VR Bj w10 u28 ((x1, x2), some ⟨Bn, 0, none⟩, n, 2) from ⟨HK1.out, Bn, n, 2, rfl, hs10, fun c => by have := (O9.out.lt Bn c).2; have := HBn.out; omega, zj9, zn⟩)
         have z10 := B10.out.size
         clear hs10 hg10 B910 BN HN2 R9 O9 V9 B9
         go_wp2_with (at_builtin; refine wpList_append_own_at _ rfl _ _ 55 rfl Bj 102 j0 (.agg #[.string ⟨#[]⟩, .int .i64 0, .slice none 0 0]) 3 48 Tryz.underlying55 hj hj0 hj1 hj2 rfl (by decide) _ _ _ rfl (O10.out.alloc _) ⟨w10.heap.size, 0, none⟩ 1 1 (encVi ((x1, x2), some ⟨Bn, 0, none⟩, n, 2)) rfl rfl (cells_row (row_new _ _)) (encVi_one _) (by unfold maxLen; omega) (by omega) (by simp; omega) ?_; intro v' w11 hown11 hgrow11 _ hloc11)
         have BO := (Below.refl w10.heap.size w10).alloc (Nat.le_refl _) (.cells (encVi ((x1, x2), some ⟨Bn, 0, none⟩, n, 2)).toArray 102)
         have B11 := Lib.hid ((B10.out.trans (BO.mono z10)).grown hgrow11 (Nat.le_trans z10 BO.size) (fun j hj => by have := (O10.out.lt j hj).1; omega))
         have R11 := Lib.hid ((R10.out.on BO).kept hgrow11 (fun c => (R10.out.notRow O10.out).2 c.symm) (fun c => (R10.out.notRow O10.out).1 c.symm))
         have V11 := Lib.hid (show ∀ x ∈ M ++ ([((x1, x2), some ⟨Bn, 0, none⟩, n, 2)] : List LineM), VR Bj w11 v' x from fun x hx => by
          have hx' : VR Bj w10 u28 x := by
           rcases List.mem_append.1 hx with hx | hx
           ·exact V10.out x hx
           ·rw [List.mem_singleton.1 hx]; exact VN.out
          exact ((hx'.on BO).kept hgrow11 (Or.inl rfl)).at (hx'.on BO) hloc11)
         have O11 := Lib.hid (show w11.ownsRow Bj 102 3 v' (M ++ ([((x1, x2), some ⟨Bn, 0, none⟩, n, 2)] : List LineM)).length ((M ++ ([((x1, x2), some ⟨Bn, 0, none⟩, n, 2)] : List LineM)).flatMap encVi) by
          rw [List.length_append, List.flatMap_append]; simpa using hown11)
         have MK := Lib.hid (show (M ++ ([((x1, x2), some ⟨Bn, 0, none⟩, n, 2)] : List LineM)).map (·.1) = (dn ++ ([((x1, x2), true)] : List (KeyD × Bool))).map (·.1) by
          rw [List.map_append, List.map_append, HMK.out]; rfl)
         have z11 := Lib.hid R11.out.lt
         clear hown11 hgrow11 hloc11 BO
         go_roundw
         case rel => exact ⟨dn ++ [((x1, x2), true)], td', M ++ ([((x1, x2), some ⟨Bn, 0, none⟩, n, 2)] : List LineM), R11.out, O11.out, MK.out, V11.out, fun c => by simp at c, B11.out, z11.out.2⟩
         case measure => rw [R11.out.left, HLF.out]; exact hlt9
      ·have hpm : p ∈ F := HPM.out.mem_iff.2 (List.mem_append_right _ (hp.mem_iff.2 (List.mem_cons_self ..)))
       obtain ⟨i, i2, s1, s2, hii, hs1, hs2, rfl, hmz⟩ := (HFM.out p).1 hpm
       have HR9 := Lib.hid hra9
       have hlt9 : todo'.length < todo.length := by have := hp.length_eq; simp at this; omega
       have N9 := Lib.hid (MapAt.kept HNT.out hg9 (fun e => by injection e with e; omega))
       have C9 := Lib.hid (row_grown hg9 HC1.out (fun e => by injection e with e; omega))
       have B9 := Lib.hid (HB4.out.grown hg9 HB4.out.size (fun j hj => by injection hj with hj; omega))
       rw [HSS.out, List.getElem?_map] at hs1 hs2
       obtain ⟨ka, hka, rfl⟩ := Option.map_eq_some_iff.1 hs1
       obtain ⟨kb, hkb, rfl⟩ := Option.map_eq_some_iff.1 hs2
       have li : i < j := by have := (List.getElem?_eq_some_iff.1 hka).1; rw [HNK.out] at this; exact this
       have li2 : i2 < j := by have := (List.getElem?_eq_some_iff.1 hkb).1; rw [HNK.out] at this; exact this
       obtain ⟨x, hx⟩ : ∃ x, L[i]? = some x := ⟨L[i]'(by rw [HN.out]; exact li), List.getElem?_eq_getElem _⟩
       obtain ⟨y, hy⟩ : ∃ y, L[i2]? = some y := ⟨L[i2]'(by rw [HN.out]; exact li2), List.getElem?_eq_getElem _⟩
       have hxk : x.1 = ka := by rw [← HLK.out, List.getElem?_map, hx] at hka; injection hka
       have hyk : y.1 = kb := by rw [← HLK.out, List.getElem?_map, hy] at hkb; injection hkb
       obtain ⟨kd, hkd⟩ : ∃ z, z = meetsQ (segB l ka) (segB l kb) := ⟨_, rfl⟩
       rw [← hkd] at hnx hen HR9
       have HKA := Lib.hid hka
       have HKB := Lib.hid hkb
       have HOX := Lib.hid (HLO.out x (List.mem_of_getElem? hx))
       have HOY := Lib.hid (HLO.out y (List.mem_of_getElem? hy))
       have HXK := Lib.hid hxk
       have HYK := Lib.hid hyk
       have HNE := Lib.hid (show ka ≠ kb from fun c => by
        obtain ⟨q1, e1⟩ := List.getElem?_eq_some_iff.1 hka
        obtain ⟨q2, e2⟩ := List.getElem?_eq_some_iff.1 hkb
        have hso : SortK (keysP l) := setK_sorted _
        have := List.pairwise_iff_getElem.1 hso i i2 q1 q2 hii
        rw [e1, e2, c, ltK_irrefl] at this
        cases this)
       simp only [intK, evI] at hnx hen
       obtain ⟨b, off, ha, hcell⟩ := HC.out (by omega)
       subst ha
       have HCELL := Lib.hid (fun W (hb : Below w4.heap.size w4 W) => (show (W.cell? ⟨b, off + i * 3, none⟩ = some (.string x.1.1) ∧ W.cell? ⟨b, off + i * 3 + 1, none⟩ = some (.string x.1.2) ∧ W.cell? ⟨b, off + i * 3 + 2, none⟩ = some (.slice x.2.1 x.2.2.1 x.2.2.2)) ∧ W.cell? ⟨b, off + i2 * 3, none⟩ = some (.string y.1.1) ∧ W.cell? ⟨b, off + i2 * 3 + 1, none⟩ = some (.string y.1.2) ∧ W.cell? ⟨b, off + i2 * 3 + 2, none⟩ = some (.slice y.2.1 y.2.2.1 y.2.2.2) from
        ⟨⟨cell_later hb (hcell i x hx 0 _ rfl), cell_later hb (hcell i x hx 1 _ rfl), cell_later hb (hcell i x hx 2 _ rfl)⟩, cell_later hb (hcell i2 y hy 0 _ rfl), cell_later hb (hcell i2 y hy 1 _ rfl), cell_later hb (hcell i2 y hy 2 _ rfl)⟩))
       clear hra hra9 hg9 hp hpm hs1 hs2 hka hkb hxk hyk hkd hmz hcell hx hy
       obtain ⟨⟨x1, x2⟩, xa, xn, xc⟩ := x
       obtain ⟨⟨y1, y2⟩, ya, yn, yc⟩ := y
       simp only [] at HCELL HOX HOY HXK HYK
       have zz9 : Bi < w9.heap.size := by omega
       clear hs9
       go_wp2_with fail
       have BX : Below w9.heap.size w9 (w9.alloc (.cells #[.int .i64 i, .int .i64 i2] 130)) := (Below.refl _ _).alloc (Nat.le_refl _) _
       have HX := row_new w9 (.cells #[.int .i64 i, .int .i64 i2] 130)
       generalize hwa : w9.alloc (.cells #[.int .i64 i, .int .i64 i2] 130) = wa
       rw [hwa] at BX HX
       obtain ⟨Bq, hBq⟩ : ∃ z, z = w9.heap.size := ⟨_, rfl⟩
       rw [← hBq] at HX zz9 ⊢
       have HXa := Lib.hid HX
       have NA := Lib.hid (N9.out.on BX)
       have CA := Lib.hid (row_later BX C9.out)
       have BA := Lib.hid (B9.out.trans (BX.mono B9.out.size))
       have RA := Lib.hid (HR9.out.on BX)
       have zqa : Bq < wa.heap.size := lt_of_block HX
       have j1 : (0 : Int) ≤ (i : Int) := by omega
       have j2 : (i : Int) < (j : Int) := by omega
       have j3 : ((i : Int)).toNat = i := by omega
       have j4 : (0 : Int) ≤ (i2 : Int) := by omega
       have j5 : (i2 : Int) < (j : Int) := by omega
       have j6 : ((i2 : Int)).toNat = i2 := by omega
       clear hwa hBq BX HX hnx hen N9 C9 B9 HR9
       go_cut [21, 22] from 109 to 118 (fun v21 v22 wx => ∃ g1 g2 : Nat, v21 = .pointer (some ⟨g1, 0, none⟩) ∧ v22 = .pointer (some ⟨g2, 0, none⟩) ∧ g1 ≠ g2 ∧ wa.heap.size ≤ g1 ∧ wa.heap.size ≤ g2 ∧ wx.heap[g1]? = some (.cells #[.string x1, .string x2, .slice xa xn xc] 85) ∧ wx.heap[g2]? = some (.cells #[.string y1, .string y2, .slice ya yn yc] 85) ∧ Below wa.heap.size wa wx)
       case first =>
        refine wp_region_two 10 (fun W => Below wa.heap.size wa W) (fun W => Below wa.heap.size wa W) mixed (by kernel_rfl) (by kernel_rfl) (by kernel_rfl) (by kernel_rfl) (StableW.below _ _ (Nat.le_refl _)) (fun W hW => hW) (Below.refl _ _).drew _ _ _ rfl ?_
        apply Exists.intro
        refine ⟨fun W hW => ?_, rfl, rfl, ?_, ?_⟩
        ·have HXh := Lib.hid (row_later hW HXa.out)
         obtain ⟨qz, q0, q1⟩ := rk2 HXh.out
         have qq0 := cell_belowBy q0
         have qq1 := cell_belowBy q1
         clear q0 q1
         obtain ⟨⟨a0, a1, a2⟩, a3, a4, a5⟩ := HCELL.out W (BA.out.trans (hW.mono BA.out.size))
         have b0 := cell_belowBy a0
         have b1 := cell_belowBy a1
         have b2 := cell_belowBy a2
         have b3 := cell_belowBy a3
         have b4 := cell_belowBy a4
         have b5 := cell_belowBy a5
         have bz := lt_of_cell a0
         clear a0 a1 a2 a3 a4 a5
         simp only [List.take_succ_cons, List.take_zero]
         repeat (go_big_quiet_step (fail))
         exact wpQuiet_nil rfl
        ·refine LoudB.mk' (ι := Nat) (fun g => .pointer (some ⟨g, 0, none⟩)) (fun g W => Below wa.heap.size wa W ∧ W.heap[g]? = some (.cells #[.string ⟨#[]⟩, .string ⟨#[]⟩, .slice none 0 0] 85) ∧ wa.heap.size ≤ g) (fun _ => (StableW.below _ _ (Nat.le_refl _)).and ((StableW.row _ _).and (StableW.const _))) (fun _ _ h => h.1) (fun W hS K hK => ?_) (fun g1 => ?_)
         ·go_simp
          exact hK W.heap.size _ ⟨hS.alloc hS.size _, row_new _ _, hS.size⟩
         simp only [Act.put, List.setIfInBounds_toArray, List.set_cons_succ, List.set_cons_zero]
         refine tailM_step (ι := Nat) (fun g => .pointer (some ⟨g, 0, none⟩)) (fun g2 W => Below wa.heap.size wa W ∧ W.heap[g1]? = some (.cells #[.string ⟨#[]⟩, .string ⟨#[]⟩, .slice none 0 0] 85) ∧ W.heap[g2]? = some (.cells #[.string ⟨#[]⟩, .string ⟨#[]⟩, .slice none 0 0] 85) ∧ wa.heap.size ≤ g1 ∧ wa.heap.size ≤ g2 ∧ g1 ≠ g2) rfl (fun _ => (StableW.below _ _ (Nat.le_refl _)).and ((StableW.row _ _).and ((StableW.row _ _).and (StableW.const _)))) (fun _ _ h => h.1) (fun W hS K hK => ?_) (fun g2 => ?_)
         ·obtain ⟨hS1, hS2, hS3⟩ := hS
          have lt1 := lt_of_block hS2
          go_simp
          exact hK W.heap.size _ ⟨hS1.alloc hS1.size _, row_past hS2, row_new _ _, hS3, hS1.size, by omega⟩
         simp only [Act.put, List.setIfInBounds_toArray, List.set_cons_succ, List.set_cons_zero]
         refine tailM_step (ι := Unit) (fun _ => undef) (fun _ W => Below wa.heap.size wa W ∧ W.heap[g1]? = some (.cells #[.string x1, .string x2, .slice xa xn xc] 85) ∧ W.heap[g2]? = some (.cells #[.string ⟨#[]⟩, .string ⟨#[]⟩, .slice none 0 0] 85) ∧ wa.heap.size ≤ g1 ∧ wa.heap.size ≤ g2 ∧ g1 ≠ g2) rfl (fun _ => (StableW.below _ _ (Nat.le_refl _)).and ((StableW.row _ _).and ((StableW.row _ _).and (StableW.const _)))) (fun _ _ h => h.1) (fun W hS K hK => ?_) (fun _ => ?_)
         ·obtain ⟨hS1, hS2, hS3, hS4, hS5, hS6⟩ := hS
          have HS2 := Lib.hid hS2
          have HS3 := Lib.hid hS3
          clear hS2 hS3
          obtain ⟨kz, k0, k1, k2⟩ := rk3 HS2.out
          have kf0 := frozen_of_row W _ 0 _ _ HS2.out
          have kf1 := frozen_of_row W _ 1 _ _ HS2.out
          have kf2 := frozen_of_row W _ 2 _ _ HS2.out
          have hcs' : ((W.setCell ⟨g1, 0, none⟩ (.string x1)).setCell ⟨g1, 1, none⟩ (.string x2)).setCell ⟨g1, 2, none⟩ (.slice xa xn xc) = W.setCells g1 0 [.string x1, .string x2, .slice xa xn xc] := rfl
          have H1 := Lib.hid (setCells_block [.string x1, .string x2, .slice xa xn xc] 0 W _ HS2.out)
          have H2 := Lib.hid (row_grown (setCells_grown (g := g1) [.string x1, .string x2, .slice xa xn xc] 0 W) HS3.out (fun e => hS6 (by injection e with e <;> first | exact e | exact e.symm)))
          have H3 := Lib.hid (hS1.grown (setCells_grown (g := g1) [.string x1, .string x2, .slice xa xn xc] 0 W) hS1.size (fun j hj => by injection hj with hj; omega))
          rw [← hcs'] at H1 H2 H3
          clear hcs'
          go_simp
          exact hK () _ ⟨H3.out, H1.out, H2.out, hS4, hS5, hS6⟩
         simp only [Act.put]
         refine tailM_step (ι := Unit) (fun _ => undef) (fun _ W => Below wa.heap.size wa W ∧ W.heap[g1]? = some (.cells #[.string x1, .string x2, .slice xa xn xc] 85) ∧ W.heap[g2]? = some (.cells #[.string y1, .string y2, .slice ya yn yc] 85) ∧ wa.heap.size ≤ g1 ∧ wa.heap.size ≤ g2 ∧ g1 ≠ g2) rfl (fun _ => (StableW.below _ _ (Nat.le_refl _)).and ((StableW.row _ _).and ((StableW.row _ _).and (StableW.const _)))) (fun _ _ h => h.1) (fun W hS K hK => ?_) (fun _ => ?_)
         ·obtain ⟨hS1, hS2, hS3, hS4, hS5, hS6⟩ := hS
          have HS2 := Lib.hid hS2
          have HS3 := Lib.hid hS3
          clear hS2 hS3
          obtain ⟨kz, k0, k1, k2⟩ := rk3 HS3.out
          have kf0 := frozen_of_row W _ 0 _ _ HS3.out
          have kf1 := frozen_of_row W _ 1 _ _ HS3.out
          have kf2 := frozen_of_row W _ 2 _ _ HS3.out
          have hcs' : ((W.setCell ⟨g2, 0, none⟩ (.string y1)).setCell ⟨g2, 1, none⟩ (.string y2)).setCell ⟨g2, 2, none⟩ (.slice ya yn yc) = W.setCells g2 0 [.string y1, .string y2, .slice ya yn yc] := rfl
          have H1 := Lib.hid (setCells_block [.string y1, .string y2, .slice ya yn yc] 0 W _ HS3.out)
          have H2 := Lib.hid (row_grown (setCells_grown (g := g2) [.string y1, .string y2, .slice ya yn yc] 0 W) HS2.out (fun e => hS6 (by injection e with e <;> first | exact e | exact e.symm)))
          have H3 := Lib.hid (hS1.grown (setCells_grown (g := g2) [.string y1, .string y2, .slice ya yn yc] 0 W) hS1.size (fun j hj => by injection hj with hj; omega))
          rw [← hcs'] at H1 H2 H3
          clear hcs'
          go_simp
          exact hK () _ ⟨H3.out, H2.out, H1.out, hS4, hS5, hS6⟩
         simp only [Act.put]
         refine tailM_nil fun W hW => ?_
         obtain ⟨hW1, hW2, hW3, hW4, hW5, hW6⟩ := hW
         go_wp2
         go_meet
         case rel => exact ⟨g1, g2, rfl, rfl, hW6, hW4, hW5, hW2, hW3, hW1⟩
        ·refine LoudB.mk' (ι := Nat) (fun g => .pointer (some ⟨g, 0, none⟩)) (fun g W => Below wa.heap.size wa W ∧ W.heap[g]? = some (.cells #[.string ⟨#[]⟩, .string ⟨#[]⟩, .slice none 0 0] 85) ∧ wa.heap.size ≤ g) (fun _ => (StableW.below _ _ (Nat.le_refl _)).and ((StableW.row _ _).and (StableW.const _))) (fun _ _ h => h.1) (fun W hS K hK => ?_) (fun g2 => ?_)
         ·go_simp
          exact hK W.heap.size _ ⟨hS.alloc hS.size _, row_new _ _, hS.size⟩
         simp only [Act.put, List.setIfInBounds_toArray, List.set_cons_succ, List.set_cons_zero]
         refine ⟨rfl, LoudB.mk' (ι := Nat) (fun g => .pointer (some ⟨g, 0, none⟩)) (fun g1 W => Below wa.heap.size wa W ∧ W.heap[g1]? = some (.cells #[.string ⟨#[]⟩, .string ⟨#[]⟩, .slice none 0 0] 85) ∧ W.heap[g2]? = some (.cells #[.string ⟨#[]⟩, .string ⟨#[]⟩, .slice none 0 0] 85) ∧ wa.heap.size ≤ g1 ∧ wa.heap.size ≤ g2 ∧ g1 ≠ g2) (fun _ => (StableW.below _ _ (Nat.le_refl _)).and ((StableW.row _ _).and ((StableW.row _ _).and (StableW.const _)))) (fun _ _ h => h.1) (fun W hS K hK => ?_) (fun g1 => ?_)⟩
         ·obtain ⟨hS1, hS2, hS3⟩ := hS
          have lt1 := lt_of_block hS2
          go_simp
          exact hK W.heap.size _ ⟨hS1.alloc hS1.size _, row_new _ _, row_past hS2, hS1.size, hS3, by omega⟩
         simp only [Act.put, List.setIfInBounds_toArray, List.set_cons_succ, List.set_cons_zero]
         refine tailM_step (ι := Unit) (fun _ => undef) (fun _ W => Below wa.heap.size wa W ∧ W.heap[g1]? = some (.cells #[.string x1, .string x2, .slice xa xn xc] 85) ∧ W.heap[g2]? = some (.cells #[.string ⟨#[]⟩, .string ⟨#[]⟩, .slice none 0 0] 85) ∧ wa.heap.size ≤ g1 ∧ wa.heap.size ≤ g2 ∧ g1 ≠ g2) rfl (fun _ => (StableW.below _ _ (Nat.le_refl _)).and ((StableW.row _ _).and ((StableW.row _ _).and (StableW.const _)))) (fun _ _ h => h.1) (fun W hS K hK => ?_) (fun _ => ?_)
         ·obtain ⟨hS1, hS2, hS3, hS4, hS5, hS6⟩ := hS
          have HS2 := Lib.hid hS2
          have HS3 := Lib.hid hS3
          clear hS2 hS3
          obtain ⟨kz, k0, k1, k2⟩ := rk3 HS2.out
          have kf0 := frozen_of_row W _ 0 _ _ HS2.out
          have kf1 := frozen_of_row W _ 1 _ _ HS2.out
          have kf2 := frozen_of_row W _ 2 _ _ HS2.out
          have hcs' : ((W.setCell ⟨g1, 0, none⟩ (.string x1)).setCell ⟨g1, 1, none⟩ (.string x2)).setCell ⟨g1, 2, none⟩ (.slice xa xn xc) = W.setCells g1 0 [.string x1, .string x2, .slice xa xn xc] := rfl
          have H1 := Lib.hid (setCells_block [.string x1, .string x2, .slice xa xn xc] 0 W _ HS2.out)
          have H2 := Lib.hid (row_grown (setCells_grown (g := g1) [.string x1, .string x2, .slice xa xn xc] 0 W) HS3.out (fun e => hS6 (by injection e with e <;> first | exact e | exact e.symm)))
          have H3 := Lib.hid (hS1.grown (setCells_grown (g := g1) [.string x1, .string x2, .slice xa xn xc] 0 W) hS1.size (fun j hj => by injection hj with hj; omega))
          rw [← hcs'] at H1 H2 H3
          clear hcs'
          go_simp
          exact hK () _ ⟨H3.out, H1.out, H2.out, hS4, hS5, hS6⟩
         simp only [Act.put]
         refine tailM_step (ι := Unit) (fun _ => undef) (fun _ W => Below wa.heap.size wa W ∧ W.heap[g1]? = some (.cells #[.string x1, .string x2, .slice xa xn xc] 85) ∧ W.heap[g2]? = some (.cells #[.string y1, .string y2, .slice ya yn yc] 85) ∧ wa.heap.size ≤ g1 ∧ wa.heap.size ≤ g2 ∧ g1 ≠ g2) rfl (fun _ => (StableW.below _ _ (Nat.le_refl _)).and ((StableW.row _ _).and ((StableW.row _ _).and (StableW.const _)))) (fun _ _ h => h.1) (fun W hS K hK => ?_) (fun _ => ?_)
         ·obtain ⟨hS1, hS2, hS3, hS4, hS5, hS6⟩ := hS
          have HS2 := Lib.hid hS2
          have HS3 := Lib.hid hS3
          clear hS2 hS3
          obtain ⟨kz, k0, k1, k2⟩ := rk3 HS3.out
          have kf0 := frozen_of_row W _ 0 _ _ HS3.out
          have kf1 := frozen_of_row W _ 1 _ _ HS3.out
          have kf2 := frozen_of_row W _ 2 _ _ HS3.out
          have hcs' : ((W.setCell ⟨g2, 0, none⟩ (.string y1)).setCell ⟨g2, 1, none⟩ (.string y2)).setCell ⟨g2, 2, none⟩ (.slice ya yn yc) = W.setCells g2 0 [.string y1, .string y2, .slice ya yn yc] := rfl
          have H1 := Lib.hid (setCells_block [.string y1, .string y2, .slice ya yn yc] 0 W _ HS3.out)
          have H2 := Lib.hid (row_grown (setCells_grown (g := g2) [.string y1, .string y2, .slice ya yn yc] 0 W) HS2.out (fun e => hS6 (by injection e with e <;> first | exact e | exact e.symm)))
          have H3 := Lib.hid (hS1.grown (setCells_grown (g := g2) [.string y1, .string y2, .slice ya yn yc] 0 W) hS1.size (fun j hj => by injection hj with hj; omega))
          rw [← hcs'] at H1 H2 H3
          clear hcs'
          go_simp
          exact hK () _ ⟨H3.out, H2.out, H1.out, hS4, hS5, hS6⟩
         simp only [Act.put]
         refine tailM_nil fun W hW => ?_
         obtain ⟨hW1, hW2, hW3, hW4, hW5, hW6⟩ := hW
         go_wp2
         go_meet
         case rel => exact ⟨g1, g2, rfl, rfl, hW6, hW4, hW5, hW2, hW3, hW1⟩
       case rest =>
        obtain ⟨g1, g2, rfl, rfl, hgne, hg1, hg2, R1, R2, BC⟩ := hcut
        obtain ⟨wb, rfl⟩ : ∃ z : World, z = wc := ⟨_, rfl⟩
        have HR1 := Lib.hid R1
        have HR2 := Lib.hid R2
        have NC := Lib.hid (NA.out.on BC)
        have CC := Lib.hid (row_later BC CA.out)
        have BCC := Lib.hid (BA.out.trans (BC.mono BA.out.size))
        have RC := Lib.hid (RA.out.on BC)
        clear R1 R2 BC NA CA BA RA HXa
        have hzk := Lib.hid (show (x1.size ≤ 140737488355328 ∧ x2.size ≤ 140737488355328) ∧ y1.size ≤ 140737488355328 ∧ y2.size ≤ 140737488355328 from by
         have hA := HKN.out ka (List.mem_of_getElem? HKA.out)
         have hB := HKN.out kb (List.mem_of_getElem? HKB.out)
         rw [← HXK.out] at hA
         rw [← HYK.out] at hB
         exact ⟨⟨hA.1.1, hA.2.1⟩, hB.1.1, hB.2.1⟩)
        have hstr : StrRow wb (.slice (some ⟨g2, 0, none⟩) 2 2) [y1, y2] := ⟨_, _, rfl, by simp, by simp; exact hzk.out.2, fun _ => ⟨g2, 0, rfl, fun i s hs => by
         have hi : i = 0 ∨ i = 1 := by have := (List.getElem?_eq_some_iff.1 hs).1; simp at this; omega
         rw [cell_of_row _ _ (0 + i) _ _ _ HR2.out]
         rcases hi with rfl | rfl
         ·simp at hs; subst hs; rfl
         ·simp at hs; subst hs; rfl⟩⟩
        have CT1 := Lib.hid (fun n => contains_any (.slice (some ⟨g2, 0, none⟩) 2 2) [y1, y2] x1 (wb.drewN n) (hstr.later (Below.refl _ _).drewN'))
        have CT2 := Lib.hid (fun n => contains_any (.slice (some ⟨g2, 0, none⟩) 2 2) [y1, y2] x2 (wb.drewN n) (hstr.later (Below.refl _ _).drewN'))
        have HCM := Lib.hid (show comK ka kb = (decide (x1 ∈ [y1, y2]) || decide (x2 ∈ [y1, y2])) by rw [← HXK.out, ← HYK.out]; simp [comK])
        obtain ⟨c1, hc1⟩ : ∃ z, z = decide (x1 ∈ [y1, y2]) := ⟨_, rfl⟩
        obtain ⟨c2, hc2⟩ : ∃ z, z = decide (x2 ∈ [y1, y2]) := ⟨_, rfl⟩
        rw [← hc1] at CT1 HCM
        rw [← hc2] at CT2 HCM
        clear hc1 hc2 hstr
        obtain ⟨uz, u0, u1, u2⟩ := rk3 HR1.out
        obtain ⟨vz, v0, v1, v2⟩ := rk3 HR2.out
        go_wp2_with fail
        go_cut [23] from 119 to 132 (fun v23 wx => v23 = .bool (c1 || c2) ∧ Below wb.heap.size wb wx)
        case first =>
         cases c1 with
         |true =>
          go_quiet ((go_at_call 44; exact Calls.quiet_of_same (CT1.out _)))
          go_wp2
          go_meet
          case rel => exact ⟨rfl, (Below.refl _ _).drewN'⟩
         |false =>
          go_quiet (first | (go_at_call 44; (with_reducible exact Calls.quiet_of_same (CT1.out _))) | (go_at_call 44; exact Calls.quiet_of_same (CT2.out _)))
          go_wp2
          go_meet
          case rel => exact ⟨rfl, (Below.refl _ _).drewN'⟩
        case rest =>
         obtain ⟨rfl, BCx⟩ := hcut
         clear u0 u1 u2 uz
         clear v0 v1 v2 vz
         obtain ⟨wd, rfl⟩ : ∃ wd : World, wd = wc := ⟨_, rfl⟩
         have DR1 := Lib.hid (row_later BCx HR1.out)
         have DR2 := Lib.hid (row_later BCx HR2.out)
         have ND := Lib.hid (NC.out.on BCx)
         have CD := Lib.hid (row_later BCx CC.out)
         have BD := Lib.hid (BCC.out.trans (BCx.mono BCC.out.size))
         have RD := Lib.hid (RC.out.on BCx)
         have zd := BCx.size
         have zg1 := lt_of_block DR1.out
         have HEQ := Lib.hid (fun W => eql_key (x1, x2) (y1, y2) W hzk.out.1.1 hzk.out.1.2 hzk.out.2.1 hzk.out.2.2)
         have hne2 : decide ((x1, x2) = (y1, y2)) = false := decide_eq_false (fun c => HNE.out (by rw [← HXK.out, ← HYK.out, c]))
         rw [hne2] at HEQ
         obtain ⟨com, hcom⟩ : ∃ z, (c1 || c2) = z := ⟨_, rfl⟩
         rw [hcom] at HCM ⊢
         obtain ⟨k1, hk1⟩ : ∃ z, (kd == 1) = z := ⟨_, rfl⟩
         have heq := HEQ.out
         simp only [] at heq
         clear BCx CT1 CT2 hne2 hcom NC CC BCC RC HR1 HR2
         obtain ⟨uz, u0, u1, u2⟩ := rk3 DR1.out
         obtain ⟨vz, v0, v1, v2⟩ := rk3 DR2.out
         go_upto_region 37 with fail
         go_cut [144] from 133 to 145 (fun v144 wx => v144 = .bool (k1 && com) ∧ wx = wd)
         case first =>
          cases k1 <;> cases com
          all_goals (
           go_wp2
           go_meet
           case rel => exact ⟨rfl, rfl⟩)
         case rest =>
          obtain ⟨rfl, hwd⟩ := hcut
          rw [hwd]
          clear hwd
          cases hsk : (k1 && com) with
          |true =>
           have CI := Lib.hid (show CrsInv l N0 N' (done ++ [(((i : Int), (i2 : Int)), kd)]) from HCI.out.skip fun key hc => by
            rw [Bool.and_eq_true] at hsk
            obtain ⟨a', b', ha', hb', _, hne', _⟩ := hc
            simp only [Int.toNat_natCast] at ha' hb'
            rw [HKA.out] at ha'
            rw [HKB.out] at hb'
            injection ha' with ha'
            injection hb' with hb'
            subst ha' hb'
            refine hne' ⟨?_, by rw [HCM.out]; exact hsk.2⟩
            have := hk1.trans hsk.1
            simpa using this)
           clear hsk
           clear u0 u1 u2 uz
           clear v0 v1 v2 vz
           go_wp2
           go_roundw
           case rel => exact ⟨_, todo', N', RD.out, ND.out, CI.out, HGN.out, CD.out, BD.out, by omega⟩
           case measure =>
            rw [RD.out.left, HLF.out]; exact hlt9
          |false =>
           have HNC := Lib.hid (show ¬ (kd = 1 ∧ comK ka kb = true) from fun c => by
            rw [HCM.out] at c
            have h1 : k1 = true := by rw [← hk1, c.1]; rfl
            rw [h1, c.2] at hsk
            cases hsk)
           have HXO := HOX.out
           have HYO := HOY.out
           rw [HXK.out] at HXO
           rw [HYK.out] at HYO
           have IX := Lib.hid (fun x (hx : x ∈ ownF l l ka) => own_ids hx)
           have IY := Lib.hid (fun x (hx : x ∈ ownF l l kb) => own_ids hx)
           have ST0 := Lib.hid (show OwSt l w4 wd Bb Bc Bf Bi g1 g2 F (done ++ [(((i : Int), (i2 : Int)), kd)]) todo' #[.string x1, .string x2, .slice xa xn xc] #[.string y1, .string y2, .slice ya yn yc] N' from ⟨ND.out, HGN.out, CD.out, RD.out, DR1.out, DR2.out, BD.out, by omega⟩)
           have HON := Lib.hid (OwnInv.nil N' (ownF l l kb))
           have HCS := Lib.hid (fun N2 (ho : OwnInv N' N2 (ownF l l ka) (ownF l l kb)) => (show CrsInv l N0 N2 (done ++ [(((i : Int), (i2 : Int)), kd)]) from HCI.out.step (p := (((i : Int), (i2 : Int)), kd)) (by simpa using HKA.out) (by simpa using HKB.out) HNE.out HNC.out ho))
           obtain ⟨X, hX⟩ : ∃ z, z = ownF l l ka := ⟨_, rfl⟩
           obtain ⟨Y, hY⟩ : ∃ z, z = ownF l l kb := ⟨_, rfl⟩
           obtain ⟨dn, hdn⟩ : ∃ z, z = done ++ [(((i : Int), (i2 : Int)), kd)] := ⟨_, rfl⟩
           rw [← hX] at HXO IX HCS
           rw [← hY] at HYO IY HCS HON
           rw [← hdn] at ST0 HCS
           obtain ⟨xa', xc', hsx, hxl, hxz, hxc⟩ := HXO
           obtain ⟨ya', yc', hsy, hyl, hyz, hyc⟩ := HYO
           injection hsx with e1 e2 e3
           subst e1 e2 e3
           injection hsy with e1 e2 e3
           subst e1 e2 e3
           have HXC := Lib.hid hxc
           have HYC := Lib.hid hyc
           have HXZ := Lib.hid hxz
           have HYZ := Lib.hid hyz
           have n1 : g1 ≠ Bb := by omega
           have n2 : g2 ≠ Bb := by omega
           clear hxc hyc hxz hyz hX hY hdn hsk HOX HOY HXK HYK HKA HKB HNE HCM HNC ND CD RD BD DR1 DR2 HCI hzk heq HEQ HNT HC1 HB4 HCELL hk1
           go_wp2_with fail
           clear u0 u1 u2 uz
           clear v0 v1 v2 vz
           go_loopw [148] (fun i wr => ∃ (r : Nat) (N2 : List KeyD), i = .int .i64 r ∧ r ≤ X.length ∧ OwnInv N' N2 (X.take r) Y ∧ OwSt l w4 wr Bb Bc Bf Bi g1 g2 F dn todo' #[.string x1, .string x2, .slice xa X.length xc] #[.string y1, .string y2, .slice ya Y.length yc] N2) (fun i _ => X.length - (intOf i).toNat)
           case atStart => exact ⟨0, N', rfl, by omega, HON.out, ST0.out⟩
           case round =>
            obtain ⟨r, N2, rfl, hr, hoi, hst⟩ := hrel
            have HST := Lib.hid hst
            have HOI := Lib.hid hoi
            clear hst hoi
            by_cases hlr : r < X.length
            ·obtain ⟨x0, hx0⟩ : ∃ o, X[r]? = some o := ⟨X[r]'hlr, List.getElem?_eq_getElem _⟩
             obtain ⟨bX, oX, hxa, hcell⟩ := HXC.out (by omega)
             subst hxa
             have v0 := cell_later HST.out.2.2.2.2.2.2.1 (hcell r x0 hx0)
             have bz := lt_of_cell v0
             have I0 := Lib.hid (IX.out x0 (List.mem_of_getElem? hx0))
             have Z0 := Lib.hid (HXZ.out x0 (List.mem_of_getElem? hx0))
             have HSTEP := Lib.hid (fun N3 (h1 : OneInv N2 N3 x0 Y) => HOI.out.step hx0 h1)
             have HR2 := Lib.hid HST.out.2.2.2.2.2.1
             clear hcell hx0 HOI
             obtain ⟨vz, v0, v1, v2⟩ := rk3 HR2.out
             go_wp2_with fail
             clear v0 v1 v2 vz
             clear v0 bz
             go_loopw [155] (fun i wr => ∃ (s : Nat) (N3 : List KeyD), i = .int .i64 s ∧ s ≤ Y.length ∧ OneInv N2 N3 x0 (Y.take s) ∧ OwSt l w4 wr Bb Bc Bf Bi g1 g2 F dn todo' #[.string x1, .string x2, .slice (some ⟨bX, oX, none⟩) X.length xc] #[.string y1, .string y2, .slice ya Y.length yc] N3) (fun i _ => Y.length - (intOf i).toNat)
             case atStart => exact ⟨0, N2, rfl, by omega, OneInv.nil _ _, HST.out⟩
             case round =>
              clear HST HR2
              obtain ⟨s, N3, rfl, hs, hoi, hst⟩ := hrel
              have HST := Lib.hid hst
              have HOI := Lib.hid hoi
              clear hst hoi
              by_cases hls : s < Y.length
              ·obtain ⟨y0, hy0⟩ : ∃ o, Y[s]? = some o := ⟨Y[s]'hls, List.getElem?_eq_getElem _⟩
               obtain ⟨bY, oY, hya, hcell⟩ := HYC.out (by omega)
               subst hya
               have v0 := cell_later HST.out.2.2.2.2.2.2.1 (hcell s y0 hy0)
               have bz := lt_of_cell v0
               have J0 := Lib.hid (IY.out y0 (List.mem_of_getElem? hy0))
               have hlen := Nat.lt_of_le_of_lt HST.out.2.1.len (show l.length * l.length < maxLen by have := Nat.mul_le_mul hl hl; unfold maxLen; omega)
               have NT := Lib.hid (note_any x0 y0 Bc Bb N3 wr Z0.out (HYZ.out y0 (List.mem_of_getElem? hy0)) HST.out.2.2.1 HST.out.1 hlen)
               have HOI2 := Lib.hid (HOI.out.step hy0)
               clear hcell hy0 HOI hlen
               go_wp2_with fail
               refine NT.out.mono ?_
               rintro e w10 ⟨rfl, hn10, hg10⟩
               have ST10 := Lib.hid (HST.out.note hn10 hg10 (by omega) (by omega) (by omega) n1 n2 (by omega) (HST.out.2.1.note I0.out J0.out))
               clear hn10 hg10 v0 bz
               go_wp2
               go_roundw
               case rel => exact ⟨s + 1, _, by go_num, by omega, HOI2.out, ST10.out⟩
               case measure => simp [intOf]; omega
              ·obtain rfl : s = Y.length := by omega
               have HO2 := Lib.hid (HSTEP.out N3 (by have h := HOI.out; rw [List.take_length] at h; exact h))
               go_wp2
               go_roundw
               case rel => exact ⟨r + 1, N3, by go_num, by omega, HO2.out, HST.out⟩
               case measure => simp [intOf]; omega
            ·obtain rfl : r = X.length := by omega
             have CI := Lib.hid (HCS.out N2 (by have h := HOI.out; rw [List.take_length] at h; exact h))
             go_wp2
             go_roundw
             case rel => exact ⟨_, todo', N2, HST.out.2.2.2.1, HST.out.1, CI.out, HST.out.2.1, HST.out.2.2.1, HST.out.2.2.2.2.2.2.1, HST.out.2.2.2.2.2.2.2⟩
             case measure => rw [HST.out.2.2.2.1.left, HLF.out]; exact hlt9
end Go.Proofs.YtibpaaajghbkoaaGreat
