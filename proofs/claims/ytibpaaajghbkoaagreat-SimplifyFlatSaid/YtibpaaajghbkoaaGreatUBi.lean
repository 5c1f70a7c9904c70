/-  -/
import Derived.Test.YtibpaaajghbkoaaGreatUBh
import Derived.Test.YtibpaaajghbkoaaGreatUAn
namespace Go.Proofs.YtibpaaajghbkoaaGreat
open Go.RowKit Go.Sort
def findI (id : ByteArray) (l : List ObjD) : Int := match posO id l with | some i => (i : Int) | none => -1
theorem findI_step (id : ByteArray) {l : List ObjD} {k : Nat} {o : ObjD} (h : l[k]? = some o) (hp : posO id l = (posO id (l.drop k)).map (· + k)) :
  (o.id = id → findI id l = (k : Int)) ∧ (¬ o.id = id → posO id l = (posO id (l.drop (k + 1))).map (· + (k + 1))) := by
 obtain ⟨hk, e⟩ := List.getElem?_eq_some_iff.1 h
 have hd : l.drop k = o :: l.drop (k + 1) := by rw [List.drop_eq_getElem_cons hk, e]
 rw [hd, posO] at hp
 constructor
 ·intro he; unfold findI; rw [hp, if_pos he]; simp
 ·intro he
  rw [hp, if_neg he, Option.map_map]
  congr 1
  funext x
  simp only [Function.comp_apply]; omega
set_option maxHeartbeats 1000000 in
theorem find1_any (x : ObM) (id : ByteArray) (Bs : Nat) (w : World) (hx : ObOK w x) (hs : w.heap[Bs]? = some (.cells #[.string id] 9)) :
  Calls Tryz.prog 40 #[.agg #[.string x.1.id, .int .i64 x.1.kind, .int .i64 x.1.x, .int .i64 x.1.y, x.2.1, x.2.2], .pointer (some ⟨Bs, 0, none⟩)] w fun e w' => e = .returned (.bool (decide (x.1.id = id))) ∧ Below w.heap.size w w' := by
 obtain ⟨o, vr, vt⟩ := x
 obtain ⟨⟨ar, capr, evr, _⟩, ⟨at1, capt, evt, _⟩, _⟩ := hx
 simp only [] at evr evt ⊢
 subst evr evt
 obtain ⟨sz, s0⟩ := rk1 hs
 have hs' := Lib.hid hs
 clear hs
 by_cases e : o.id = id
 ·rw [decide_eq_true e]
  rw [e]
  go_enter Tryz.func40, Tryz.ntmps40
  go_wp2
  go_ret
  exact ⟨rfl, (by repeat' (first | exact Below.refl _ _ | refine Below.drew ?_ | refine Below.drewN' ?_ | refine Below.setCell ?_ (by first | omega | (simp; done) | exact Below.size (by assumption) | (simp; omega)) _ | refine Below.alloc ?_ (by first | omega | (simp; done) | exact Below.size (by assumption) | (simp; omega)) _ | refine Below.trans ?_ (Below.mono (by assumption) ?_) | (first | omega | (simp; done) | exact Below.size (by assumption) | (simp; omega))))⟩
 ·rw [decide_eq_false e]
  have n1 : (o.id.toList == id.toList) = false := by
   rw [ByteArray.toList_eq, ByteArray.toList_eq]
   exact beq_false_of_ne (fun c => e (ByteArray.ext (Array.toList_inj.mp c)))
  go_enter Tryz.func40, Tryz.ntmps40
  go_wp2
  go_ret
  exact ⟨rfl, (by repeat' (first | exact Below.refl _ _ | refine Below.drew ?_ | refine Below.drewN' ?_ | refine Below.setCell ?_ (by first | omega | (simp; done) | exact Below.size (by assumption) | (simp; omega)) _ | refine Below.alloc ?_ (by first | omega | (simp; done) | exact Below.size (by assumption) | (simp; omega)) _ | refine Below.trans ?_ (Below.mono (by assumption) ?_) | (first | omega | (simp; done) | exact Below.size (by assumption) | (simp; omega))))⟩
set_option maxHeartbeats 2000000 in
theorem idxFind_any (v : Value) (L : List ObM) (id : ByteArray) (Bs : Nat) (w : World) (hv : RowE encOb 6 w v L) (hok : ∀ x ∈ L, ObOK w x) (hl : L.length ≤ 2000000000) (hs : w.heap[Bs]? = some (.cells #[.string id] 9)) :
  Calls Tryz.prog 39 #[v, .func (.func 40) #[] #[.pointer (some ⟨Bs, 0, none⟩)]] w fun e w' => e = .returned (.int .i64 (findI id (L.map (·.1)))) ∧ Below w.heap.size w w' := by
 have FR := Lib.hid (fun x W (h : ObOK w x) (hb : Below w.heap.size w W) => find1_any x id Bs W (h.later hb) (row_later hb hs))
 have HK := Lib.hid hok
 obtain ⟨a, cap, rfl, hc⟩ := hv
 obtain ⟨N, hN⟩ : ∃ N, L.length = N := ⟨_, rfl⟩
 rw [hN] at hc hl ⊢
 have HN := Lib.hid hN
 have HC := Lib.hid hc
 obtain ⟨res, hres⟩ : ∃ z, z = findI id (L.map (·.1)) := ⟨_, rfl⟩
 rw [← hres]
 have HR := Lib.hid hres
 clear hN hc hres hs hok
 go_enter Tryz.func39, Tryz.ntmps39
 go_wp2
 go_loopw [8] (fun i wr => ∃ k : Nat, k ≤ N ∧ i = .int .i64 k ∧ Hid (posO id (L.map (·.1)) = (posO id ((L.map (·.1)).drop k)).map (· + k)) ∧ Below w.heap.size w wr) (fun i _ => N - (intOf i).toNat)
 case atStart => exact ⟨0, by omega, rfl, Lib.hid (by simp), Below.refl _ _⟩
 case round =>
  obtain ⟨k, hk, rfl, HT, hbr⟩ := hrel
  have hzr := hbr.size
  by_cases hlt : k < N
  ·obtain ⟨x, hx⟩ : ∃ x, L[k]? = some x := ⟨L[k]'(by rw [HN.out]; exact hlt), List.getElem?_eq_getElem _⟩
   obtain ⟨b, off, ha, hcell⟩ := HC.out (by omega)
   subst ha
   have d0' := cell_later hbr (hcell k x hx 0 _ rfl)
   have d0 : wr.cell? ⟨b, off + k * 6, none⟩ = some (.string x.1.id) := d0'
   have d1 := cell_later hbr (hcell k x hx 1 _ rfl)
   have d2 := cell_later hbr (hcell k x hx 2 _ rfl)
   have d3 := cell_later hbr (hcell k x hx 3 _ rfl)
   have d4 := cell_later hbr (hcell k x hx 4 _ rfl)
   have d5 := cell_later hbr (hcell k x hx 5 _ rfl)
   have hox := HK.out x (List.mem_of_getElem? hx)
   have F1 := Lib.hid (FR.out x wr hox hbr)
   have ST := Lib.hid (findI_step id (l := L.map (·.1)) (k := k) (o := x.1) (by rw [List.getElem?_map, hx]; rfl) HT.out)
   have bz := lt_of_cell d0
   obtain ⟨o, vr, vt⟩ := x
   obtain ⟨⟨ar, capr, evr, _⟩, ⟨at1, capt, evt, _⟩, _⟩ := hox
   simp only [] at evr evt d0 d1 d2 d3 d4 d5 F1 ST
   subst evr evt
   clear hcell d0' hx
   obtain ⟨bd, hbd⟩ : ∃ z, z = decide (o.id = id) := ⟨_, rfl⟩
   rw [← hbd] at F1
   have HBD := Lib.hid hbd
   clear hbd
   go_wp2_with fail
   refine F1.out.mono ?_
   rintro e w2 ⟨rfl, hb2⟩
   have B2 := below_step hbr (Nat.le_refl _) hb2
   clear d0 d1 d2 d3 d4 d5 hb2 F1
   cases bd with
   |true =>
    have HE := Lib.hid (show res = (k : Int) by rw [HR.out]; exact ST.out.1 (of_decide_eq_true HBD.out.symm))
    go_wp2
    go_ret
    exact ⟨by rw [HE.out] <;> rfl, B2⟩
   |false =>
    have HG := Lib.hid (ST.out.2 (of_decide_eq_false HBD.out.symm))
    go_wp2
    go_roundw
    case rel => exact ⟨k + 1, by omega, by go_num, HG, B2⟩
    case measure => simp [intOf]; omega
  ·obtain rfl : k = N := by omega
   have HE := Lib.hid (show res = -1 by
    rw [HR.out]
    have := HT.out
    rw [List.drop_eq_nil_of_le (by rw [List.length_map, HN.out]; exact Nat.le_refl _)] at this
    unfold findI; rw [this]; rfl)
   go_wp2
   go_ret
   exact ⟨by rw [HE.out] <;> rfl, hbr⟩
theorem findO_any (v : Value) (l : List ObjD) (id : ByteArray) (w : World) (hv : ObjsIs w v l) (hl : l.length ≤ 2000000000) :
  Calls Tryz.prog 17 #[.agg #[v], .string id] w fun e w' => e = .returned (.int .i64 (findI id l)) ∧ Below w.heap.size w w' := by
 obtain ⟨L, hL, rfl, hok⟩ := objs_row hv
 rw [List.length_map] at hl
 have FN := Lib.hid (fun Bs W hb => idxFind_any v L id Bs W (hL.later hb) (fun x hx => (hok x hx).later hb) hl)
 obtain ⟨a, cap, rfl, hc⟩ := hL
 generalize findI id (L.map (·.1)) = res at FN ⊢
 clear hv hok hc
 go_enter Tryz.func17, Tryz.ntmps17
 go_wp2_with fail
 have BX : Below w.heap.size w ((w.alloc (.cells #[.slice a L.length cap] 24)).alloc (.cells #[.string id] 9)) := (by repeat' (first | exact Below.refl _ _ | refine Below.drew ?_ | refine Below.drewN' ?_ | refine Below.setCell ?_ (by first | omega | (simp; done) | exact Below.size (by assumption) | (simp; omega)) _ | refine Below.alloc ?_ (by first | omega | (simp; done) | exact Below.size (by assumption) | (simp; omega)) _ | refine Below.trans ?_ (Below.mono (by assumption) ?_) | (first | omega | (simp; done) | exact Below.size (by assumption) | (simp; omega))))
 have HX := row_new1 w (.cells #[.slice a L.length cap] 24) (.cells #[.string id] 9)
 refine (FN.out _ _ BX HX).mono ?_
 rintro e w2 ⟨rfl, hb⟩
 have B2 := BX.trans (hb.mono BX.size)
 go_wp2
 go_ret
 exact ⟨rfl, B2⟩
end Go.Proofs.YtibpaaajghbkoaaGreat
