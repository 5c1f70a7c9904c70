/- Contract of atlas.Valid, and of atlas.valid at one map. -/
import Derived.Test.YtbkomdinchiffaaGreatObjG
import Derived.Test.YtbkomdinchiffaaGreatObjMN
import Derived.LoopN
namespace Go.Proofs.YtbkomdinchiffaaGreat
open Go.RowKit

/-- Objects in strictly increasing order of names behind a name, each valid. -/
def objsFrom : ByteArray → List ObjD → Bool
  | _, [] => true
  | last, o :: l => objOK o && ltB last o.id && objsFrom o.id l
/-- Is a map valid? -/
def mapOK (l : List ObjD) : Bool := decide (l.length ≤ 1000000) && objsFrom ⟨#[]⟩ l
theorem objsFrom_drop (ls : ByteArray) (l : List ObjD) (k : Nat) (o : ObjD) (ho : l[k]? = some o) : objsFrom ls (l.drop k) = (objOK o && ltB ls o.id && objsFrom o.id (l.drop (k + 1))) := by
  obtain ⟨hk, rfl⟩ := List.getElem?_eq_some_iff.1 ho
  rw [List.drop_eq_getElem_cons hk]; rfl

set_option maxRecDepth 100000 in
set_option maxHeartbeats 2000000 in
theorem validM_any (v : Value) (l : List ObjD) (w : World) (hv : ObjsIs w v l) :
    Calls Tryz.prog 20 #[.agg #[v]] w fun e w' => e = .returned (.bool (mapOK l)) ∧ Below w.heap.size w w' := by
  obtain ⟨a, cap, rfl, hn, hc⟩ := hv
  generalize hN : l.length = N at *
  have HN := Lib.hid hN
  have HC := Lib.hid hc
  have VD := Lib.hid (fun (o : ObjD) (vr vt : Value) w h1 h2 h3 => validO_any o.id o.kind o.x o.y vr vt o.refs o.tags w h1 h2 h3)
  clear hN hc
  go_enter Tryz.func20, Tryz.ntmps20
  go_wp2_with fail
  have B1 : Below w.heap.size w (w.alloc (.cells #[.slice a N cap] 24)) := (Below.refl _ w).alloc (Nat.le_refl _) _
  have HM := row_new w (.cells #[.slice a N cap] 24)
  generalize hw1 : w.alloc (.cells #[.slice a N cap] 24) = w1
  rw [hw1] at B1 HM
  clear hw1
  have HMh := Lib.hid HM
  have mz := lt_of_block HM
  have m0 := cell_of_row w1 _ 0 _ _ _ HM
  simp only [List.getElem?_toArray, List.getElem?_cons_zero] at m0
  have HM' := Lib.hid HM
  clear HM
  go_wp2
  clear m0
  go_loopw [3, 9] (fun s i wr => ∃ (k : Nat) (ls : ByteArray), s = .string ls ∧ k ≤ N ∧ i = .int .i64 k ∧ objsFrom ⟨#[]⟩ l = objsFrom ls (l.drop k) ∧ Below w1.heap.size w1 wr) (fun _ i _ => N - (intOf i).toNat)
  case atStart => exact ⟨0, ⟨#[]⟩, rfl, by omega, rfl, rfl, Below.refl _ _⟩
  case round =>
    obtain ⟨k, ls, rfl, hk, rfl, hT, hbr⟩ := hrel
    have HT := Lib.hid hT
    clear hT
    by_cases hlt : k < N
    · obtain ⟨o, ho⟩ : ∃ o, l[k]? = some o := ⟨l[k]'(by rw [HN.out]; exact hlt), List.getElem?_eq_getElem _⟩
      obtain ⟨b, off, ha, hcell⟩ := HC.out (by omega)
      subst ha
      obtain ⟨vr, vt, c0, c1, c2, c3, c4, c5, hr, ht, hz⟩ := ((hcell k o ho).later B1).later hbr
      have HR := Lib.hid hr
      have HTG := Lib.hid ht
      obtain ⟨ar, capr, evr, _⟩ := hr
      obtain ⟨at1, capt, evt, _⟩ := ht
      subst evr evt
      have HD := Lib.hid (objsFrom_drop ls l k o ho)
      have bz := lt_of_cell c0
      clear hcell ho
      go_wp2_with fail
      have BA : Below w1.heap.size w1 (wr.alloc (.cells #[.string o.id, .int .i64 o.kind, .int .i64 o.x, .int .i64 o.y, .slice ar o.refs.length capr, .slice at1 o.tags.length capt] 59)) := hbr.alloc hbr.size _
      have BA' : Below wr.heap.size wr (wr.alloc (.cells #[.string o.id, .int .i64 o.kind, .int .i64 o.x, .int .i64 o.y, .slice ar o.refs.length capr, .slice at1 o.tags.length capt] 59)) := (Below.refl _ wr).alloc (Nat.le_refl _) _
      have HX := row_new wr (.cells #[.string o.id, .int .i64 o.kind, .int .i64 o.x, .int .i64 o.y, .slice ar o.refs.length capr, .slice at1 o.tags.length capt] 59)
      generalize hwa : wr.alloc (.cells #[.string o.id, .int .i64 o.kind, .int .i64 o.x, .int .i64 o.y, .slice ar o.refs.length capr, .slice at1 o.tags.length capt] 59) = wa
      rw [hwa] at BA BA' HX
      clear hwa c0 c1 c2 c3 c4 c5
      refine (VD.out o _ _ _ hz (HR.out.later BA') (HTG.out.later BA')).mono ?_
      rintro e w2 ⟨rfl, hb2⟩
      have B2 := below_step BA (Nat.le_refl _) hb2
      have HX2 := row_later hb2 HX
      clear HX BA BA' hb2
      have xz := lt_of_block HX2
      have x0 := cell_of_row w2 _ 0 _ _ _ HX2
      have x1 := cell_of_row w2 _ 1 _ _ _ HX2
      have x2 := cell_of_row w2 _ 2 _ _ _ HX2
      have x3 := cell_of_row w2 _ 3 _ _ _ HX2
      have x4 := cell_of_row w2 _ 4 _ _ _ HX2
      have x5 := cell_of_row w2 _ 5 _ _ _ HX2
      simp only [List.getElem?_toArray, List.getElem?_cons_zero, List.getElem?_cons_succ] at x0 x1 x2 x3 x4 x5
      have HX2' := Lib.hid HX2
      clear HX2
      cases hok : objOK o
      case false =>
        have HE := Lib.hid (show mapOK l = false by unfold mapOK; rw [HT.out, HD.out, hok]; simp)
        clear hok
        go_wp2
        go_ret
        exact ⟨ret_bool HE.out.symm, below_step B1 (Nat.le_refl _) B2⟩
      have LQ := leqB o.id ls
      cases hlt2 : ltB ls o.id
      case false =>
        have HE := Lib.hid (show mapOK l = false by unfold mapOK; rw [HT.out, HD.out, hlt2]; simp)
        rw [hlt2] at LQ
        clear hok hlt2
        go_wp2
        go_ret
        exact ⟨ret_bool HE.out.symm, below_step B1 (Nat.le_refl _) B2⟩
      have HG := Lib.hid (show objsFrom ⟨#[]⟩ l = objsFrom o.id (l.drop (k + 1)) by rw [HT.out, HD.out, hlt2, hok]; simp)
      rw [hlt2] at LQ
      clear hok hlt2
      go_wp2
      go_roundw
      case rel => exact ⟨k + 1, o.id, rfl, by omega, by go_num, HG.out, B2⟩
      case measure => simp [intOf]; omega
    · obtain rfl : k = N := by omega
      have HE := Lib.hid (show mapOK l = decide (k ≤ 1000000) by unfold mapOK; rw [HT.out, List.drop_of_length_le (by rw [HN.out]; exact Nat.le_refl _), HN.out]; simp [objsFrom])
      have HM2 := row_later hbr HMh.out
      have BF := below_step B1 (Nat.le_refl _) hbr
      clear B1 hbr HMh
      have mz := lt_of_block HM2
      have m0 := cell_of_row wr _ 0 _ _ _ HM2
      simp only [List.getElem?_toArray, List.getElem?_cons_zero] at m0
      have HM2' := Lib.hid HM2
      clear HM2
      go_wp2
      go_ret
      exact ⟨ret_bool (by rw [HE.out, Bool.eq_iff_iff]; simp; omega), BF⟩

theorem infoMap : (Tryz.prog.info? 24).map (·.size) = some 1 := by kernel_rfl

/-- The closure of atlas.valid. -/
theorem validC_any (v : Value) (l : List ObjD) (w : World) (hv : ObjsIs w v l) :
    Calls Tryz.prog 95 #[.agg #[v]] w fun e w' => e = .returned (.bool (!mapOK l)) ∧ Below w.heap.size w w' := by
  have VD := Lib.hid (fun w' hb => validM_any v l w' (hv.later (w' := w') hb))
  obtain ⟨a, cap, rfl, _⟩ := hv
  go_enter Tryz.func95, Tryz.ntmps95
  go_wp2_with fail
  have B1 : Below w.heap.size w (w.alloc (.cells #[.slice a l.length cap] 24)) := (Below.refl _ w).alloc (Nat.le_refl _) _
  refine (VD.out _ B1).mono ?_
  rintro e w2 ⟨rfl, hb2⟩
  have B2 := below_step B1 (Nat.le_refl _) hb2
  go_wp2
  go_ret
  exact ⟨rfl, B2⟩

/-- slices.IndexFunc at one map. -/
theorem idxM_any (v : Value) (l : List ObjD) (B : Nat) (w : World) (hv : ObjsIs w v l) (hB : w.cell? ⟨B, 0, none⟩ = some v) :
    Calls Tryz.prog 134 #[.slice (some ⟨B, 0, none⟩) 1 1, .func (.func 95) #[] #[]] w fun e w' => e = .returned (.int .i64 (if mapOK l then -1 else 0)) ∧ Below w.heap.size w w' := by
  have VD := Lib.hid (validC_any v l w hv)
  obtain ⟨a, cap, rfl, _⟩ := hv
  have hz := lt_of_cell hB
  cases hm : mapOK l
  · rw [hm] at VD
    go_enter Tryz.func134, Tryz.ntmps134
    go_wp2
    refine wp_loop_rounds 1 ?_
    rw [rounds_succ]
    go_wp2_with fail
    refine VD.out.mono ?_
    rintro e w2 ⟨rfl, hb2⟩
    go_wp2
    go_ret
    exact ⟨rfl, hb2⟩
  · rw [hm] at VD
    go_enter Tryz.func134, Tryz.ntmps134
    go_wp2
    refine wp_loop_rounds 2 ?_
    rw [rounds_succ]
    go_wp2_with fail
    refine VD.out.mono ?_
    rintro e w2 ⟨rfl, hb2⟩
    go_wp2
    rw [rounds_succ]
    go_wp2
    go_ret
    exact ⟨rfl, hb2⟩

theorem hasM_any (v : Value) (l : List ObjD) (B : Nat) (w : World) (hv : ObjsIs w v l) (hB : w.cell? ⟨B, 0, none⟩ = some v) :
    Calls Tryz.prog 94 #[.slice (some ⟨B, 0, none⟩) 1 1, .func (.func 95) #[] #[]] w fun e w' => e = .returned (.bool (!mapOK l)) ∧ Below w.heap.size w w' := by
  have VD := Lib.hid (idxM_any v l B w hv hB)
  clear hv
  go_enter Tryz.func94, Tryz.ntmps94
  go_wp2_with fail
  refine VD.out.mono ?_
  rintro e w2 ⟨rfl, hb2⟩
  clear VD hB
  cases hm : mapOK l
  · go_wp2
    go_ret
    exact ⟨by rw [hm]; rfl, hb2⟩
  · go_wp2
    go_ret
    exact ⟨by rw [hm]; rfl, hb2⟩

/-- Contract of atlas.valid at one map. -/
theorem validS_any (v : Value) (l : List ObjD) (B : Nat) (w : World) (hv : ObjsIs w v l) (hB : w.cell? ⟨B, 0, none⟩ = some v) :
    Calls Tryz.prog 60 #[.slice (some ⟨B, 0, none⟩) 1 1] w fun e w' => e = .returned (.bool (mapOK l)) ∧ Below w.heap.size w w' := by
  have VD := Lib.hid (hasM_any v l B w hv hB)
  clear hv
  go_enter Tryz.func60, Tryz.ntmps60
  go_wp2_with fail
  refine VD.out.mono ?_
  rintro e w2 ⟨rfl, hb2⟩
  clear VD hB
  go_wp2
  go_ret
  exact ⟨by simp, hb2⟩
end Go.Proofs.YtbkomdinchiffaaGreat
