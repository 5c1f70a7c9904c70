/-  -/
import Derived.Test.YtibpaaajghbkoaaGreatTAs
import Derived.Test.YtibpaaajghbkoaaGreatTAu
import Derived.Test.YtibpaaajghbkoaaGreatTAj
import Derived.Test.YtibpaaajghbkoaaGreatTBr
import Derived.Test.YtibpaaajghbkoaaGreatTAq
import Derived.Test.YtibpaaajghbkoaaGreatTAr
namespace Go.Proofs.YtibpaaajghbkoaaGreat
open Go.RowKit Go.Sort
set_option maxRecDepth 100000 in
set_option maxHeartbeats 2000000 in
theorem hasS_any (v : Value) (ids : List ByteArray) (x : ByteArray) (w : World) (h : StrRow w v ids) :
  Calls Tryz.prog 18 #[v, .string x] w fun e w' => e = .returned (.bool (decide (x ∈ ids))) ∧ w' = w := by
 obtain ⟨a, cap, rfl, hl, _, hc⟩ := h
 obtain ⟨N, hN⟩ : ∃ N, ids.length = N := ⟨_, rfl⟩
 rw [hN] at hl hc ⊢
 have HN := Lib.hid hN
 have HC := Lib.hid hc
 obtain ⟨res, hres⟩ : ∃ z, decide (x ∈ ids) = z := ⟨_, rfl⟩
 rw [hres]
 have HR := Lib.hid hres
 clear hN hc hres
 go_enter Tryz.func18, Tryz.ntmps18
 go_wp2
 go_loopw [5] (fun i wr => ∃ k : Nat, k ≤ N ∧ i = .int .i64 k ∧ Hid (x ∉ ids.take k) ∧ wr = w) (fun i _ => N - (intOf i).toNat)
 case atStart => exact ⟨0, by omega, rfl, Lib.hid (by simp), rfl⟩
 case round =>
  obtain ⟨k, hk, rfl, hT, rfl⟩ := hrel
  by_cases hlt : k < N
  ·obtain ⟨s, hs⟩ : ∃ s, ids[k]? = some s := ⟨ids[k]'(by rw [HN.out]; exact hlt), List.getElem?_eq_getElem _⟩
   obtain ⟨b, off, ha, hcell⟩ := HC.out (by omega)
   subst ha
   have c0 := hcell k s hs
   have HS := Lib.hid hs
   clear hcell hs
   by_cases hx : x = s
   ·subst hx
    have HE := Lib.hid (show res = true by rw [← HR.out]; exact decide_eq_true (List.mem_of_getElem? HS.out))
    go_wp2
    go_ret
    exact ⟨by rw [HE.out] <;> rfl, rfl⟩
   ·have HG : Hid (x ∉ ids.take (k + 1)) := Lib.hid (by
     rw [take_snoc' HS.out, List.mem_append]
     rintro (c | c)
     ·exact hT.out c
     ·exact hx (List.mem_singleton.1 c))
    have hxx := bytesL_ne hx
    have hxx2 := bytesL_ne (fun c : s = x => hx c.symm)
    go_wp2
    go_roundw
    case rel => exact ⟨k + 1, by omega, by go_num, HG, trivial⟩
    case measure => simp [intOf]; omega
  ·obtain rfl : k = N := by omega
   have HE := Lib.hid (show res = false by
    rw [← HR.out]
    refine decide_eq_false fun c => hT.out ?_
    rw [List.take_of_length_le (by rw [HN.out]; exact Nat.le_refl _)]; exact c)
   go_wp2
   go_ret
   exact ⟨by rw [HE.out] <;> rfl, rfl⟩
theorem part_full (l : List ByteArray) : ∀ os : List ByteArray, partI l os l.length = l.length
 |[] => rfl
 |s :: os => by rw [partI, if_neg (by simp)]; exact part_full l os
theorem part_step {l os : List ByteArray} {i k : Nat} {s : ByteArray} (h : os[i]? = some s) : partI l (os.drop i) k = partI l (os.drop (i + 1)) (if l[k]? = some s then k + 1 else k) := by
 obtain ⟨hi, rfl⟩ := List.getElem?_eq_some_iff.1 h
 rw [List.drop_eq_getElem_cons hi, partI]
set_option maxRecDepth 100000 in
set_option maxHeartbeats 2000000 in
theorem part_any (v u : Value) (l os : List ByteArray) (w : World) (hv : StrRow w v l) (hu : StrRow w u os) :
  Calls Tryz.prog 19 #[v, u] w fun e w' => e = .returned (.bool (decide (partI l os 0 = l.length))) ∧ Below w.heap.size w w' := by
 obtain ⟨a, cap, rfl, hl, _, hc⟩ := hv
 obtain ⟨a2, cap2, rfl, hl2, _, hc2⟩ := hu
 obtain ⟨M, hM⟩ : ∃ M, l.length = M := ⟨_, rfl⟩
 obtain ⟨N, hN⟩ : ∃ N, os.length = N := ⟨_, rfl⟩
 have PF := Lib.hid (part_full l)
 rw [hM] at hl hc PF ⊢
 rw [hN] at hl2 hc2 ⊢
 have HM := Lib.hid hM
 have HN := Lib.hid hN
 have HC := Lib.hid hc
 have HC2 := Lib.hid hc2
 obtain ⟨res, hres⟩ : ∃ z, partI l os 0 = z := ⟨_, rfl⟩
 rw [hres]
 have HR := Lib.hid hres
 clear hN hc hres hM hc2
 go_enter Tryz.func19, Tryz.ntmps19
 go_wp2
 go_loopw [5, 6] (fun v5 i wr => ∃ k j : Nat, v5 = .int .i64 j ∧ i = .int .i64 k ∧ k ≤ N ∧ j ≤ M ∧ Hid (partI l (os.drop k) j = res) ∧ Below w.heap.size w wr) (fun _ i _ => N - (intOf i).toNat)
 case atStart => exact ⟨0, 0, rfl, rfl, by omega, by omega, Lib.hid HR.out, Below.refl _ _⟩
 case round =>
  obtain ⟨k, j, rfl, rfl, hk, hj, hT, hbr⟩ := hrel
  by_cases hlt : k < N
  ·by_cases hlj : j < M
   ·obtain ⟨s, hs⟩ : ∃ s, os[k]? = some s := ⟨os[k]'(by rw [HN.out]; exact hlt), List.getElem?_eq_getElem _⟩
    obtain ⟨t, ht⟩ : ∃ t, l[j]? = some t := ⟨l[j]'(by rw [HM.out]; exact hlj), List.getElem?_eq_getElem _⟩
    obtain ⟨b, off, ha, hcell⟩ := HC.out (by omega)
    subst ha
    obtain ⟨b2, off2, ha2, hcell2⟩ := HC2.out (by omega)
    subst ha2
    have c0 := cell_later hbr (hcell j t ht)
    have c1 := cell_later hbr (hcell2 k s hs)
    have HT := Lib.hid ((part_step (l := l) (k := j) hs).symm.trans hT.out)
    have HTT := Lib.hid ht
    clear hcell hs hcell2 ht hT
    by_cases hx : s = t
    ·subst hx
     have HE := Lib.hid (show partI l (os.drop (k + 1)) (j + 1) = res by have := HT.out; rwa [if_pos HTT.out] at this)
     go_wp2_with fail
     go_quiet (fail)
     go_wp2
     go_roundw
     case rel => exact ⟨k + 1, j + 1, by go_num, by go_num, by omega, by omega, HE, hbr.drewN'⟩
     case measure => simp [intOf]; omega
    ·have HE := Lib.hid (show partI l (os.drop (k + 1)) j = res by
      have := HT.out
      rwa [if_neg (fun c => by rw [HTT.out] at c; injection c with c; exact hx c.symm)] at this)
     have hxx := bytesL_ne hx
     have hxx2 := bytesL_ne (fun c : t = s => hx c.symm)
     go_wp2_with fail
     go_quiet (fail)
     go_wp2
     go_roundw
     case rel => exact ⟨k + 1, j, by go_num, rfl, by omega, by omega, HE, hbr.drewN'⟩
     case measure => simp [intOf]; omega
   ·obtain rfl : j = M := by omega
    have HE := Lib.hid (show res = j by rw [← hT.out]; exact PF.out _)
    have d1 : ((j : Int) == (j : Int)) = true := by simp
    go_wp2
    go_ret
    exact ⟨by rw [HE.out] <;> simp, hbr⟩
  ·obtain rfl : k = N := by omega
   have HE := Lib.hid (show res = j by
    rw [← hT.out, List.drop_of_length_le (by rw [HN.out]; exact Nat.le_refl _)]; rfl)
   have d1 : ((j : Int) == (M : Int)) = decide (j = M) := by
    rw [Bool.eq_iff_iff, beq_iff_eq, decide_eq_true_iff]; omega
   go_wp2
   go_ret
   exact ⟨by rw [HE.out] <;> rfl, hbr⟩
theorem own_len {w : World} {base size n : Nat} {e : TypeId} {v : Value} {xs : List Value} (h : w.ownsRow base e size v n xs) : ∃ a c, v = .slice a n c := by
 rcases h.2 with ⟨rfl, h0⟩ | ⟨g, cap, cur, rfl, _⟩
 ·exact ⟨none, 0, by rw [h0]⟩
 ·exact ⟨_, _, rfl⟩
theorem refers_take (l : List ObjD) (r : ByteArray) {k : Nat} {o : ObjD} (ho : l[k]? = some o) : refersP (l.take (k + 1)) r = refersP (l.take k) r ++ (if r ∈ o.refs then [o] else []) := by
 unfold refersP
 rw [take_snoc' ho, List.filter_append]
 by_cases h : r ∈ o.refs
 ·rw [if_pos h, List.filter_cons, if_pos (decide_eq_true h)]; rfl
 ·rw [if_neg h, List.filter_cons, if_neg (by simpa using h)]; rfl
set_option maxRecDepth 100000 in
set_option maxHeartbeats 4000000 in
theorem refers_any (v : Value) (l : List ObjD) (id : ByteArray) (w : World) (hv : ObjsIs w v l) (hok : mapOK l = true) :
  Calls Tryz.prog 21 #[.agg #[v], .string id] w fun e w' => (∃ a c, e = .returned (.slice a (refersP l id).length c)) ∧ Below w.heap.size w w' := by
 have VS := Lib.hid (fun B w' hb hB => validS_any v l B w' (hv.later (w' := w') hb) hB)
 have CT := Lib.hid (fun V ids W (h : StrRow W V ids) => contains_any V ids id W h)
 have RT := Lib.hid (fun k o (ho : l[k]? = some o) => refers_take l id ho)
 obtain ⟨a, cap, rfl, hn, hc⟩ := hv
 obtain ⟨N, hN⟩ : ∃ N, l.length = N := ⟨_, rfl⟩
 have hlm : N ≤ 1000000 := by
  rw [← hN]
  unfold mapOK at hok
  rw [Bool.and_eq_true] at hok
  exact of_decide_eq_true hok.1
 rw [hN] at hn hc VS ⊢
 rw [hok] at VS
 have HN := Lib.hid hN
 have HC := Lib.hid hc
 obtain ⟨i0, hi, hi0, hi1, hi2⟩ := info_parts infoStr
 clear hc hok hN
 go_enter Tryz.func21, Tryz.ntmps21
 go_wp2_with fail
 have B1 : Below w.heap.size w ((w.alloc (.cells #[.slice a N cap] 24)).alloc (.cells #[.slice a N cap] 24)) := ((Below.refl _ w).alloc (Nat.le_refl _) _).alloc (by simp) _
 have HB1 := row_new1 w (.cells #[.slice a N cap] 24) (.cells #[.slice a N cap] 24)
 have HM1 := row_past (o' := .cells #[.slice a N cap] 24) (row_new w (.cells #[.slice a N cap] 24))
 generalize hw1 : (w.alloc (.cells #[.slice a N cap] 24)).alloc (.cells #[.slice a N cap] 24) = w1
 rw [hw1] at B1 HB1 HM1
 clear hw1
 refine (VS.out _ _ B1 (by rw [cell_of_row w1 _ 0 _ _ _ HB1]; rfl)).mono ?_
 rintro e w2 ⟨rfl, hb2⟩
 have B2 := below_step B1 (Nat.le_refl _) hb2
 have HM2 := Lib.hid (row_later hb2 HM1)
 clear HB1 HM1 B1 hb2 VS
 obtain ⟨mz, m0⟩ := rk1 HM2.out
 go_wp2_with fail
 clear m0 mz
 go_loopw [5, 15] (fun v5 i wr => ∃ k : Nat, i = .int .i64 k ∧ k ≤ N ∧ wr.ownsRow w2.heap.size 9 1 v5 (refersP (l.take k) id).length (((refersP (l.take k) id).map (·.id)).map Value.string) ∧ Below w2.heap.size w2 wr) (fun _ i _ => N - (intOf i).toNat)
 case atStart => exact ⟨0, rfl, Nat.zero_le _, World.ownsRow_nil _ _ _ _, Below.refl _ _⟩
 case round =>
  obtain ⟨k, rfl, hk, hown, hbr⟩ := hrel
  have BR := below_step B2 (Nat.le_refl _) hbr
  have hsz := hbr.size
  by_cases hlt : k < N
  ·obtain ⟨o, ho⟩ : ∃ o, l[k]? = some o := ⟨l[k]'(by rw [HN.out]; exact hlt), List.getElem?_eq_getElem _⟩
   obtain ⟨b, off, ha, hcell⟩ := HC.out (by omega)
   subst ha
   obtain ⟨vr, vt, c0, c1, c2, c3, c4, c5, hsr, htr, hz⟩ := (hcell k o ho).later BR
   have HSR := Lib.hid hsr
   obtain ⟨ar, capr, rfl, _⟩ := hsr
   obtain ⟨at1, capt, rfl, _⟩ := htr
   have HT := Lib.hid (RT.out k o ho)
   have hlen : (refersP (l.take k) id).length ≤ k := Nat.le_trans (List.length_filter_le _ _) (by rw [List.length_take]; omega)
   have bz := lt_of_cell c0
   have BX : Below wr.heap.size wr (wr.alloc (.cells #[.string o.id, .int .i64 o.kind, .int .i64 o.x, .int .i64 o.y, .slice ar o.refs.length capr, .slice at1 o.tags.length capt] 36)) := (Below.refl _ _).alloc (Nat.le_refl _) _
   have HX := row_new wr (.cells #[.string o.id, .int .i64 o.kind, .int .i64 o.x, .int .i64 o.y, .slice ar o.refs.length capr, .slice at1 o.tags.length capt] 36)
   have HOWN := Lib.hid (own_later hown BX)
   clear hcell ho hown
   go_upto_region 7 with fail
   generalize hwx : wr.alloc (.cells #[.string o.id, .int .i64 o.kind, .int .i64 o.x, .int .i64 o.y, .slice ar o.refs.length capr, .slice at1 o.tags.length capt] 36) = wx
   rw [hwx] at BX HX HOWN
   have HCX := Lib.hid (CT.out _ _ wx (HSR.out.later BX))
   have HX := Lib.hid HX
   have BRX := below_step hbr (Nat.le_refl _) BX
   have hszx := BRX.size
   clear hwx c0 c1 c2 c3 c4 c5 bz BX hbr BR HSR
   by_cases hm : id ∈ o.refs
   ·have CX := HCX.out
    rw [decide_eq_true hm] at CX
    have HT2 := HT.out
    rw [if_pos hm] at HT2
    have HT2 := Lib.hid HT2
    have CX := Lib.hid CX
    obtain ⟨xz, x0, x1, x2, x3, x4, x5⟩ := rk6 HX.out
    clear hm HT HCX
    go_wp2_with fail
    refine CX.out.mono ?_
    rintro e w5 ⟨rfl, rfl⟩
    have O5 := HOWN.out
    clear CX HOWN
    generalize refersP (l.take k) id = out at O5 HT2 hlen
    go_wp2_with (at_builtin; refine wpList_append_own _ rfl _ _ 31 rfl w2.heap.size 9 i0 (.string ⟨#[]⟩) 1 16 Tryz.underlying31 hi hi0 hi1 hi2 rfl (by decide) _ _ _ rfl (O5.alloc _) ⟨w5.heap.size, 0, none⟩ 1 1 [.string o.id] rfl rfl (cells_new _ _ _) (by simp [Value.oneCell']) (by unfold maxLen; omega) (by omega) (by simp; omega) ?_; intro v' w10 hown2 hgrow _; have hb10 := appended O5 hszx hgrow)
    have HOW := Lib.hid (show w10.ownsRow w2.heap.size 9 1 v' (refersP (l.take (k + 1)) id).length (((refersP (l.take (k + 1)) id).map (·.id)).map Value.string) by rw [HT2.out, List.length_append, List.map_append, List.map_append]; exact hown2)
    have B10 := BRX.trans hb10
    clear hown2 hgrow O5
    go_roundw
    case rel => exact ⟨k + 1, by go_num, by omega, HOW.out, B10⟩
    case measure => simp [intOf]; omega
   ·have CX := HCX.out
    rw [decide_eq_false hm] at CX
    have HT2 := HT.out
    rw [if_neg hm, List.append_nil] at HT2
    have HT2 := Lib.hid HT2
    have CX := Lib.hid CX
    obtain ⟨xz, x0, x1, x2, x3, x4, x5⟩ := rk6 HX.out
    clear hm HT HCX
    go_wp2_with fail
    refine CX.out.mono ?_
    rintro e w5 ⟨rfl, rfl⟩
    have HOW := HOWN.out
    rw [← HT2.out] at HOW
    have HOW := Lib.hid HOW
    clear CX HOWN
    go_wp2
    go_roundw
    case rel => exact ⟨k + 1, by go_num, by omega, HOW.out, BRX⟩
    case measure => simp [intOf]; omega
  ·obtain rfl : k = N := by omega
   have htk : l.take k = l := List.take_of_length_le (by rw [HN.out]; exact Nat.le_refl _)
   rw [htk] at hown
   obtain ⟨a5, c5, rfl⟩ := own_len hown
   clear hown
   go_wp2
   go_ret
   exact ⟨⟨_, _, rfl⟩, BR⟩
end Go.Proofs.YtibpaaajghbkoaaGreat
