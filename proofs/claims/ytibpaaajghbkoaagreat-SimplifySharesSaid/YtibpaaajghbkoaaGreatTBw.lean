/-  -/
import Derived.Test.YtibpaaajghbkoaaGreatTAw
namespace Go.Proofs.YtibpaaajghbkoaaGreat
open Go.RowKit Go.Maps Go.ChangeMaps Go.Sort
abbrev SlD := Option Addr × Nat × Nat
def encOw (x : SlD) : List Value := [.slice x.1 x.2.1 x.2.2]
theorem encOw_len (x : SlD) : (encOw x).length = 1 := rfl
theorem encOw_one (x : SlD) : ∀ v ∈ encOw x, v.oneCell' = true := by
 intro v hv
 simp only [encOw, List.mem_cons, List.not_mem_nil, or_false] at hv
 rcases hv with rfl; rfl
def TextsAt (w : World) (v : Value) (ls : List (List ByteArray)) : Prop :=
 ∃ L : List SlD, RowE encOw 1 w v L ∧ L.length = ls.length ∧ ∀ (i : Nat) (x : SlD) (ids : List ByteArray), L[i]? = some x → ls[i]? = some ids → StrRow w (.slice x.1 x.2.1 x.2.2) ids
theorem TextsAt.on {w w' : World} {v : Value} {ls : List (List ByteArray)} (h : TextsAt w v ls) (hb : Below w.heap.size w w') : TextsAt w' v ls := by
 obtain ⟨L, h1, h2, h3⟩ := h
 exact ⟨L, h1.later hb, h2, fun i x ids hx hi => (h3 i x ids hx hi).later hb⟩
theorem infoOw : (Tryz.prog.info? 31).map (fun i => (i.zero, i.size, i.bytes)) = some (some (.slice none 0 0), 1, 24) := by kernel_rfl
set_option maxRecDepth 100000 in
set_option maxHeartbeats 4000000 in
theorem segments_any (v : Value) (l : List ObjD) (w : World) (hv : ObjsIs w v l) (hok : mapOK l = true) :
  Calls Tryz.prog 22 #[.agg #[v]] w fun e w' => ∃ v1 v2, e = .returned (.tuple #[v1, v2]) ∧ RowE encSg 4 w' v1 ((keysP l).map (segB l)) ∧ TextsAt w' v2 ((keysP l).map (ownF l l)) ∧ Below w.heap.size w w' := by
 have OF := Lib.hid (fun W hb => of_any v l W (hv.later hb) hok)
 have LN := Lib.hid (fun W Bm hb hat => lines_any v l Bm W (hv.later hb) hok hat)
 have SG := Lib.hid (fun W Bm vL hb hat hl => segs_any v vL Bm l W (hv.later hb) hok hat hl)
 have hkl := keys_len hok
 have hll := (mapOK_sorted hok).1
 obtain ⟨N, hNK⟩ : ∃ N, (keysP l).length = N := ⟨_, rfl⟩
 rw [hNK] at hkl
 have hNb : N ≤ 2000000000 := by omega
 have HNK := Lib.hid hNK
 obtain ⟨a, cap, rfl, _⟩ := hv
 obtain ⟨i0, hi, hi0, hi1, hi2⟩ := info_parts infoOw
 clear hok hkl hll hNK
 go_enter Tryz.func22, Tryz.ntmps22
 go_wp2_with fail
 have B1 : Below w.heap.size w (w.alloc (.cells #[.slice a l.length cap] 24)) := (Below.refl _ _).alloc (Nat.le_refl _) _
 refine (OF.out _ B1).mono ?_
 rintro e w2 ⟨Bm, rfl, hBm, hat, hb⟩
 have B2 := below_step B1 (by simp) hb
 have HAT := Lib.hid hat
 clear hb B1 OF hat
 go_wp2_with fail
 have B3 : Below w2.heap.size w2 (w2.alloc (.cells #[.slice a l.length cap, .map (some Bm)] 78)) := (Below.refl _ _).alloc (Nat.le_refl _) _
 have HP := row_new w2 (.cells #[.slice a l.length cap, .map (some Bm)] 78)
 generalize hw3 : w2.alloc (.cells #[.slice a l.length cap, .map (some Bm)] 78) = w3
 rw [hw3] at B3 HP
 have hz3 : w3.heap.size = w2.heap.size + 1 := by rw [← hw3]; simp
 clear hw3
 have B13 := below_step B2 (Nat.le_refl _) (B3.mono (Nat.le_refl _))
 have hat3 := HAT.out.on B3
 refine (LN.out w3 Bm B13 hat3).mono ?_
 rintro e w4 ⟨vL, rfl, hln, hb⟩
 have B4 := below_step B13 (by have := B13.size; omega) hb
 have HP4 := Lib.hid (row_later hb HP)
 have HAT4 := Lib.hid (hat3.on hb)
 have HLN := Lib.hid hln
 obtain ⟨L, hL, hLk, hLo⟩ := hln
 obtain ⟨aL, capL, rfl, hc⟩ := hL
 have hLN : L.length = N := by rw [← HNK.out, ← hLk, List.length_map]
 rw [hLN] at hc HLN ⊢
 have HLL := Lib.hid hLN
 have HC := Lib.hid hc
 have HLK := Lib.hid hLk
 have HLO := Lib.hid hLo
 clear hb HP hat3 HAT B3 B13 LN hc hLk hLo hLN B2
 go_wp2_with fail
 go_loopw [7, 21] (fun v7 i wr => ∃ k : Nat, i = .int .i64 k ∧ k ≤ N ∧ wr.ownsRow w4.heap.size 31 1 v7 k (((L.take k).map (·.2)).flatMap encOw) ∧ Below w4.heap.size w4 wr) (fun _ i _ => N - (intOf i).toNat)
 case atStart => exact ⟨0, rfl, by omega, World.ownsRow_nil _ _ _ _, Below.refl _ _⟩
 case round =>
  obtain ⟨k, rfl, hk, hown, hbr⟩ := hrel
  have HOWN := Lib.hid hown
  have hzr := hbr.size
  have HBR := Lib.hid hbr
  clear hown
  by_cases hlt : k < N
  ·obtain ⟨x, hx⟩ : ∃ x, L[k]? = some x := ⟨L[k]'(by rw [HLL.out]; exact hlt), List.getElem?_eq_getElem _⟩
   obtain ⟨b, off, ha, hcell⟩ := HC.out (by omega)
   subst ha
   have d0' := cell_later hbr (hcell k x hx 0 _ rfl)
   have d0 : wr.cell? ⟨b, off + k * 3, none⟩ = some (.string x.1.1) := d0'
   have d1 := cell_later hbr (hcell k x hx 1 _ rfl)
   have d2 := cell_later hbr (hcell k x hx 2 _ rfl)
   have HT := Lib.hid (show (L.take (k + 1)).map (·.2) = (L.take k).map (·.2) ++ [x.2] by
    obtain ⟨hk', e⟩ := List.getElem?_eq_some_iff.1 hx
    rw [List.take_succ_eq_append_getElem hk', e]; simp)
   obtain ⟨⟨x1, x2⟩, xa, xn, xc⟩ := x
   simp only [] at d0 d1 d2 HT
   have bz := lt_of_cell d0
   clear hcell d0' hx hbr
   go_wp2_with (at_builtin; refine wpList_append_own _ rfl _ _ 44 rfl w4.heap.size 31 i0 (.slice none 0 0) 1 24 Tryz.underlying44 hi hi0 hi1 hi2 rfl (by decide) _ _ _ rfl ((HOWN.out.alloc _).alloc _) ⟨wr.heap.size + 1, 0, none⟩ 1 1 (encOw (xa, xn, xc)) rfl rfl (cells_new1 _ _ _ _) (encOw_one _) (by unfold maxLen; omega) (by omega) (by simp; omega) ?_; intro v' w6 hown6 hgrow6 _)
   have B6 := Lib.hid (((HBR.out.alloc hzr _).alloc (by simp; omega) _).grown hgrow6 (by simp; omega) (fun j hj => (own_block HOWN.out j hj).1))
   have O6 := Lib.hid (show w6.ownsRow w4.heap.size 31 1 v' (k + 1) (((L.take (k + 1)).map (·.2)).flatMap encOw) by
    rw [HT.out, List.flatMap_append]; simpa using hown6)
   clear hown6 hgrow6
   go_roundw
   case rel => exact ⟨k + 1, by go_num, by omega, O6.out, B6.out⟩
   case measure => simp [intOf]; omega
  ·obtain rfl : k = N := by omega
   have HF := Lib.hid (show L.take k = L from List.take_of_length_le (by rw [HLL.out]; exact Nat.le_refl _))
   have HOF := Lib.hid (show RowE encOw 1 wr u7 (L.map (·.2)) by
    have := HOWN.out
    rw [HF.out] at this
    exact RowE.of_own encOw_len (by rw [List.length_map, HLL.out]) this)
   have HPr := Lib.hid (row_later HBR.out HP4.out)
   have hw4 := B4.size
   have BR := below_step B4 (by omega) HBR.out
   have HATr := HAT4.out.on HBR.out
   have HLNr := HLN.out.on HBR.out
   clear hbr
   obtain ⟨pz, p0, p1⟩ := rk2 HPr.out
   go_wp2_with fail
   refine (SG.out wr Bm _ BR HATr HLNr).mono ?_
   rintro e w5 ⟨v', rfl, hr, hb5⟩
   have B5 := Lib.hid (below_step BR (by omega) hb5)
   have HR5 := Lib.hid hr
   have HT5 := Lib.hid (show TextsAt w5 u7 ((keysP l).map (ownF l l)) from ⟨L.map (·.2), HOF.out.later hb5, by rw [List.length_map, List.length_map, HLL.out, HNK.out], fun i x ids hx hids => by
    rw [List.getElem?_map] at hx hids
    cases hy : L[i]? with
    |none => rw [hy] at hx; cases hx
    |some y =>
     rw [hy] at hx
     injection hx with hx
     have hky : (keysP l)[i]? = some y.1 := by rw [← HLK.out, List.getElem?_map, hy]; rfl
     rw [hky] at hids
     injection hids with hids
     subst hx hids
     exact ((HLO.out y (List.mem_of_getElem? hy)).later HBR.out).later hb5⟩)
   clear hr hb5 HATr HLNr BR
   go_wp2
   go_ret2
   exact ⟨_, _, rfl, HR5.out, HT5.out, B5.out⟩
end Go.Proofs.YtibpaaajghbkoaaGreat
