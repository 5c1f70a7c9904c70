/- border: of, the places of objects by their names; nodes; point. border: nodes, point. -/
import Derived.Test.YtbkomdinchiffaaGreatBorP
import Derived.Test.YtbkomdinchiffaaGreatBorABC
import Derived.LoopN
namespace Go.Proofs.YtbkomdinchiffaaGreat
open Go.RowKit Go.Maps Go.ChangeMaps

theorem zeroI (w : World) : (zeroValue 3).run Tryz.prog w = .ok (.int .i64 0) w := by kernel_rfl
abbrev intV (i : Nat) : Value := .int .i64 i
theorem str_inj : ∀ x y : ByteArray, Value.string x = Value.string y → x = y := fun x y h => by injection h
theorem str_keyOf {s : ByteArray} (h : s.size ≤ 140737488355328) : ∃ kl, keyOf Tryz.prog 9 (.string s) = some kl := ⟨_, WideMaps.keyOf_string_mk Tryz.underlying9 (by unfold maxLen; omega)⟩
/-- A map from names to places, as far as some objects go. -/
def AtIs (w : World) (B : Nat) (l : List ObjD) : Prop := ∃ acc : List (ByteArray × Nat), MapAt Tryz.prog 9 Value.string intV w B acc ∧ acc.length ≤ l.length ∧ ∀ id, aget id acc = posO id l
theorem AtIs.on {w w' : World} {B : Nat} {l : List ObjD} (h : AtIs w B l) (hb : Below w.heap.size w w') : AtIs w' B l := by
  obtain ⟨acc, h1, h2⟩ := h
  exact ⟨acc, h1.on hb, h2⟩
theorem AtIs.lt {w : World} {B : Nat} {l : List ObjD} (h : AtIs w B l) : B < w.heap.size := by
  obtain ⟨acc, h1, h2⟩ := h
  exact h1.lt
theorem AtIs.kept {w w' : World} {B : Nat} {l : List ObjD} {row : Option Nat} (h : AtIs w B l) (hg : w.grownBy w' row) (hne : some B ≠ row) : AtIs w' B l := by
  obtain ⟨acc, h1, h2⟩ := h
  exact ⟨acc, h1.kept hg hne, h2⟩
theorem AtIs.set {w : World} {B : Nat} {l : List ObjD} {a : Addr} {v : Value} (h : AtIs w B l) (hne : B ≠ a.block) : AtIs (w.setCell a v) B l := by
  obtain ⟨acc, h1, h2⟩ := h
  exact ⟨acc, h1.later (Below.heap_setCell w a v B hne), h2⟩
theorem AtIs.look {w : World} {B : Nat} {l : List ObjD} (h : AtIs w B l) (id : ByteArray) (hz : id.size ≤ 140737488355328) :
    (Instr.lookup 74 (.map (some B)) (.string id) false).run Tryz.prog w = .ok (((posO id l).map intV).getD (.int .i64 0)) w := by
  obtain ⟨acc, h1, h2, h3⟩ := h
  have := h1.look keyS str_inj Tryz.underlying74 (zeroI w) id (str_keyOf hz)
  rw [this, h3]
theorem AtIs.lookOk {w : World} {B : Nat} {l : List ObjD} (h : AtIs w B l) (id : ByteArray) (hz : id.size ≤ 140737488355328) :
    (Instr.lookup 74 (.map (some B)) (.string id) true).run Tryz.prog w = .ok (.tuple #[((posO id l).map intV).getD (.int .i64 0), .bool (posO id l).isSome]) w := by
  obtain ⟨acc, h1, h2, h3⟩ := h
  have := h1.lookOk keyS str_inj Tryz.underlying74 (zeroI w) id (str_keyOf hz)
  rw [this, h3]
theorem posO_snoc (id : ByteArray) (o : ObjD) : ∀ l : List ObjD, posO id (l ++ [o]) = match posO id l with
    | some i => some i
    | none => if o.id = id then some l.length else none
  | [] => by simp [posO]
  | x :: l => by
    rw [List.cons_append, posO, posO, posO_snoc id o l]
    by_cases h : x.id = id
    · simp [h]
    · rw [if_neg h, if_neg h]
      cases posO id l with
      | some i => rfl
      | none =>
        by_cases h2 : o.id = id
        · simp [h2]
        · simp [h2]
theorem pos_take_none {l : List ObjD} (h : mapOK l = true) {k : Nat} {o : ObjD} (ho : l[k]? = some o) : posO o.id (l.take k) = none := by
  cases hp : posO o.id (l.take k) with
  | none => rfl
  | some i =>
    obtain ⟨x, hx, e⟩ := posO_some _ _ _ hp
    rw [List.getElem?_take] at hx
    split at hx
    · rename_i hi
      have := (mapOK_sorted h).2 i k x o hi hx ho
      rw [e, ltB_irrefl] at this; cases this
    · cases hx
theorem pos_put {l : List ObjD} (h : mapOK l = true) {k : Nat} {o : ObjD} (ho : l[k]? = some o) {acc : List (ByteArray × Nat)} (ha : ∀ id, aget id acc = posO id (l.take k)) (id : ByteArray) : aget id (aput o.id k acc) = posO id (l.take (k + 1)) := by
  obtain ⟨hk, e⟩ := List.getElem?_eq_some_iff.1 ho
  rw [List.take_succ_eq_append_getElem hk, e, posO_snoc]
  by_cases hi : o.id = id
  · subst hi
    rw [aget_put_same, pos_take_none h ho, if_pos rfl]
    simp; omega
  · rw [aget_put_other _ hi, ha, if_neg hi]
    cases posO id (l.take k) <;> rfl

set_option maxRecDepth 100000 in
set_option maxHeartbeats 4000000 in
theorem of_bad (v : Value) (l : List ObjD) (w : World) (hv : ObjsIs w v l) (hok : mapOK l = false) :
    Calls Tryz.prog 30 #[.agg #[v]] w fun e w' => e = .returned (.tuple #[.agg #[.slice none 0 0, .map none], .bool false]) ∧ Below w.heap.size w w' := by
  have VD := Lib.hid (fun w' hb => validM_any v l w' (hv.later (w' := w') hb))
  rw [hok] at VD
  obtain ⟨a, cap, rfl, hn, _⟩ := hv
  go_enter Tryz.func30, Tryz.ntmps30
  go_wp2_with fail
  have B1 : Below w.heap.size w ((w.alloc (.cells #[.slice a l.length cap] 24)).alloc (.cells #[.slice none 0 0, .map none] 76)) := (by repeat' (first | exact Below.refl _ _ | refine Below.drew ?_ | refine Below.drewN' ?_ | refine Below.setCell ?_ (by first | omega | (simp; done) | exact Below.size (by assumption) | (simp; omega)) _ | refine Below.alloc ?_ (by first | omega | (simp; done) | exact Below.size (by assumption) | (simp; omega)) _ | refine Below.trans ?_ (Below.mono (by assumption) ?_) | (first | omega | (simp; done) | exact Below.size (by assumption) | (simp; omega))))
  have H2 := row_new1 w (.cells #[.slice a l.length cap] 24) (.cells #[.slice none 0 0, .map none] 76)
  generalize hw1 : (w.alloc (.cells #[.slice a l.length cap] 24)).alloc (.cells #[.slice none 0 0, .map none] 76) = w1
  rw [hw1] at B1 H2
  clear hw1
  refine (VD.out _ B1).mono ?_
  rintro e w2 ⟨rfl, hb⟩
  have B2 := below_step B1 (Nat.le_refl _) hb
  have H2 := Lib.hid (row_later hb H2)
  clear hb B1 VD hok
  have rz := lt_of_block H2.out
  have r0 := cell_of_row w2 _ 0 _ _ _ H2.out
  have r1 := cell_of_row w2 _ 1 _ _ _ H2.out
  have rf0 := frozen_of_row w2 _ 0 _ _ H2.out
  have rf1 := frozen_of_row w2 _ 1 _ _ H2.out
  simp only [List.getElem?_toArray, List.getElem?_cons_zero, List.getElem?_cons_succ] at r0 r1
  go_wp2
  refine bodyPost_ret (v := .tuple #[.agg #[.slice none 0 0, .map none], .bool false]) ?_ rfl ⟨rfl, ?_⟩
  · simp [results, Tryz.results30, go_sem, r0, r1]
  · exact ((B2.setCell (p := ⟨w.heap.size + 1, 0, none⟩) (by simp) _).setCell (p := ⟨w.heap.size + 1, 1, none⟩) (by simp) _)

set_option maxRecDepth 100000 in
set_option maxHeartbeats 4000000 in
theorem of_any (v : Value) (l : List ObjD) (w : World) (hv : ObjsIs w v l) (hok : mapOK l = true) :
    Calls Tryz.prog 30 #[.agg #[v]] w fun e w' => ∃ B : Nat, e = .returned (.tuple #[.agg #[v, .map (some B)], .bool true]) ∧ w.heap.size ≤ B ∧ AtIs w' B l ∧ Below w.heap.size w w' := by
  have VD := Lib.hid (fun w' hb => validM_any v l w' (hv.later (w' := w') hb))
  rw [hok] at VD
  obtain ⟨a, cap, rfl, hn, hc⟩ := hv
  have HOK := Lib.hid hok
  have hmax : l.length ≤ 1000000 := (mapOK_sorted hok).1
  generalize hN : l.length = N at *
  have HN := Lib.hid hN
  have HC := Lib.hid hc
  clear hN hc hok
  have hmm := @run_makeMap Tryz.prog
  go_enter Tryz.func30, Tryz.ntmps30
  go_wp2_with fail
  have B1 : Below w.heap.size w ((w.alloc (.cells #[.slice a N cap] 24)).alloc (.cells #[.slice none 0 0, .map none] 76)) := (by repeat' (first | exact Below.refl _ _ | refine Below.drew ?_ | refine Below.drewN' ?_ | refine Below.setCell ?_ (by first | omega | (simp; done) | exact Below.size (by assumption) | (simp; omega)) _ | refine Below.alloc ?_ (by first | omega | (simp; done) | exact Below.size (by assumption) | (simp; omega)) _ | refine Below.trans ?_ (Below.mono (by assumption) ?_) | (first | omega | (simp; done) | exact Below.size (by assumption) | (simp; omega))))
  have H1 := row_past (o' := .cells #[.slice none 0 0, .map none] 76) (row_new w (.cells #[.slice a N cap] 24))
  have H2 := row_new1 w (.cells #[.slice a N cap] 24) (.cells #[.slice none 0 0, .map none] 76)
  generalize hw1 : (w.alloc (.cells #[.slice a N cap] 24)).alloc (.cells #[.slice none 0 0, .map none] 76) = w1
  rw [hw1] at B1 H1 H2
  have hz1 : w.heap.size + 2 ≤ w1.heap.size := by rw [← hw1]; simp
  clear hw1
  refine (VD.out _ B1).mono ?_
  rintro e w2 ⟨rfl, hb⟩
  have B2 := below_step B1 (Nat.le_refl _) hb
  have H1 := Lib.hid (row_later hb H1)
  have H2 := Lib.hid (row_later hb H2)
  have hz2 := hb.size
  clear hb B1 VD
  have mz := lt_of_block H1.out
  have m0 := cell_of_row w2 _ 0 _ _ _ H1.out
  simp only [List.getElem?_toArray, List.getElem?_cons_zero] at m0
  go_wp2
  have MP := (MapAt.made Tryz.prog 9 Value.string intV w2).on ((Below.refl _ _).alloc (Nat.le_refl _) (.cells #[.slice a N cap, .map (some w2.heap.size)] 76))
  have B3 : Below w.heap.size w ((w2.alloc (.map #[] 0)).alloc (.cells #[.slice a N cap, .map (some w2.heap.size)] 76)) := (B2.alloc (by omega) _).alloc (by simp; omega) _
  have B23 : Below w2.heap.size w2 ((w2.alloc (.map #[] 0)).alloc (.cells #[.slice a N cap, .map (some w2.heap.size)] 76)) := (by repeat' (first | exact Below.refl _ _ | refine Below.drew ?_ | refine Below.drewN' ?_ | refine Below.setCell ?_ (by first | omega | (simp; done) | exact Below.size (by assumption) | (simp; omega)) _ | refine Below.alloc ?_ (by first | omega | (simp; done) | exact Below.size (by assumption) | (simp; omega)) _ | refine Below.trans ?_ (Below.mono (by assumption) ?_) | (first | omega | (simp; done) | exact Below.size (by assumption) | (simp; omega))))
  have HP := row_new1 w2 (.map #[] 0) (.cells #[.slice a N cap, .map (some w2.heap.size)] 76)
  generalize hw3 : (w2.alloc (.map #[] 0)).alloc (.cells #[.slice a N cap, .map (some w2.heap.size)] 76) = w3
  rw [hw3] at MP B3 HP B23
  have hz3 : w3.heap.size = w2.heap.size + 2 := by rw [← hw3]; simp
  have H2 := Lib.hid (row_later B23 H2.out)
  have HP := Lib.hid HP
  clear m0 mz
  clear hw3 H1 B23
  obtain ⟨Bm, hBm⟩ : ∃ b, b = w2.heap.size := ⟨_, rfl⟩
  rw [← hBm] at MP HP hz3 ⊢
  have hzz : w.heap.size + 2 ≤ Bm := by omega
  clear hz1 hz2 hBm
  go_loopw [17] (fun i wr => ∃ (k : Nat) (acc : List (ByteArray × Nat)), i = .int .i64 k ∧ k ≤ N ∧ MapAt Tryz.prog 9 Value.string intV wr Bm acc ∧ acc.length ≤ k ∧ (∀ id, aget id acc = posO id (l.take k)) ∧ w3.grownBy wr (some Bm)) (fun i _ => N - (intOf i).toNat)
  case atStart => exact ⟨0, [], rfl, by omega, MP, by simp, fun id => by simp [aget, posO], World.grownBy.refl _ _⟩
  case round =>
    obtain ⟨k, acc, rfl, hk, hmap, hal, hacc, hg⟩ := hrel
    have HA := Lib.hid hacc
    have hszr := hg.size
    clear hacc
    have HP2 := Lib.hid (row_grown hg HP.out (fun h => by injection h; omega))
    have pz := lt_of_block HP2.out
    have p0 := cell_of_row wr _ 0 _ _ _ HP2.out
    have p1 := cell_of_row wr _ 1 _ _ _ HP2.out
    simp only [List.getElem?_toArray, List.getElem?_cons_zero, List.getElem?_cons_succ] at p0 p1
    have BR : Below w.heap.size w wr := B3.grown hg (by omega) (fun j hj => by cases hj; omega)
    by_cases hlt : k < N
    · obtain ⟨o, ho⟩ : ∃ o, l[k]? = some o := ⟨l[k]'(by rw [HN.out]; exact hlt), List.getElem?_eq_getElem _⟩
      obtain ⟨b, off, ha, hcell⟩ := HC.out (by omega)
      subst ha
      obtain ⟨vr, vt, c0, c1, c2, c3, c4, c5, hr, ht, hzo⟩ := (hcell k o ho).later BR
      have HO := Lib.hid (pos_put HOK.out ho HA.out)
      obtain ⟨ar, capr, evr, _⟩ := hr
      obtain ⟨at1, capt, evt, _⟩ := ht
      subst evr evt
      obtain ⟨w5, hrun, hm5, hg5⟩ := (hmap.on ((Below.refl _ _).alloc (Nat.le_refl _) (.cells #[.string o.id, .int .i64 o.kind, .int .i64 o.x, .int .i64 o.y, .slice ar o.refs.length capr, .slice at1 o.tags.length capt] 59))).put keyS str_inj Tryz.underlying74 (by unfold maxLen; omega) o.id (str_keyOf hzo) k
      have bz := lt_of_cell c0
      have HG := Lib.hid (((World.grownBy_alloc wr (.cells #[.string o.id, .int .i64 o.kind, .int .i64 o.x, .int .i64 o.y, .slice ar o.refs.length capr, .slice at1 o.tags.length capt] 59) (some Bm)).trans hg5))
      have HL := Lib.hid (aput_length o.id k acc)
      clear hcell ho hmap hg5 HA
      go_wp2
      go_roundw
      case rel => exact ⟨k + 1, aput o.id k acc, by go_num, by omega, hm5, by have := HL.out; omega, HO.out, hg.trans HG.out⟩
      case measure => simp [intOf]; omega
    · obtain rfl : k = N := by omega
      have H2r := Lib.hid (row_grown hg H2.out (fun h => by injection h; omega))
      have hlen := HN.out
      have HAT : AtIs wr Bm l := ⟨acc, hmap, by omega, fun id => by rw [HA.out, List.take_of_length_le (by omega)]⟩
      clear hmap H2 HP HA
      have rz := lt_of_block H2r.out
      have r0 := cell_of_row wr _ 0 _ _ _ H2r.out
      have r1 := cell_of_row wr _ 1 _ _ _ H2r.out
      have rf0 := frozen_of_row wr _ 0 _ _ H2r.out
      have rf1 := frozen_of_row wr _ 1 _ _ H2r.out
      simp only [List.getElem?_toArray, List.getElem?_cons_zero, List.getElem?_cons_succ] at r0 r1
      clear hlen
      go_wp2
      refine bodyPost_ret (v := .tuple #[.agg #[.slice a k cap, .map (some Bm)], .bool true]) ?_ rfl ⟨Bm, rfl, by omega, ?_, ?_⟩
      · simp [results, Tryz.results30, go_sem, r0, r1]
      · exact (HAT.set (a := ⟨w.heap.size + 1, 0, none⟩) (by simp only; omega)).set (a := ⟨w.heap.size + 1, 1, none⟩) (by simp only; omega)
      · exact ((BR.setCell (p := ⟨w.heap.size + 1, 0, none⟩) (by simp) _).setCell (p := ⟨w.heap.size + 1, 1, none⟩) (by simp) _)
end Go.Proofs.YtbkomdinchiffaaGreat

namespace Go.Proofs.YtbkomdinchiffaaGreat
open Go.RowKit Go.Maps Go.ChangeMaps

set_option maxHeartbeats 1000000 in
theorem nodes1_any (id : ByteArray) (Bp Bm : Nat) (v : Value) (l : List ObjD) (w : World) (hz : id.size ≤ 140737488355328) (hp : w.heap[Bp]? = some (.cells #[v, .map (some Bm)] 76)) (hat : AtIs w Bm l) (hv : ObjsIs w v l) :
    Calls Tryz.prog 101 #[.string id, .pointer (some ⟨Bp, 0, none⟩)] w fun e w' => e = .returned (.bool (!(nodeAt l id).isSome)) ∧ w' = w := by
  obtain ⟨a, cap, rfl, hn, hc⟩ := hv
  have HP := Lib.hid hp
  have hlk := hat.lookOk id hz
  clear hp hat
  obtain ⟨r, hr⟩ : ∃ r, r = !(nodeAt l id).isSome := ⟨_, rfl⟩
  rw [← hr]
  cases hpo : posO id l with
  | none =>
    have HE := Lib.hid (show r = true by rw [hr, nodeAt_none l id hpo]; rfl)
    rw [hpo] at hlk
    simp only [Option.map_none, Option.getD_none, Option.isSome_none] at hlk
    have pz := lt_of_block HP.out
    have p0 := cell_of_row w _ 0 _ _ _ HP.out
    have p1 := cell_of_row w _ 1 _ _ _ HP.out
    simp only [List.getElem?_toArray, List.getElem?_cons_zero, List.getElem?_cons_succ] at p0 p1
    clear hr hc hpo
    go_enter Tryz.func101, Tryz.ntmps101
    go_wp2
    go_ret
    exact ⟨by rw [HE.out] <;> rfl, rfl⟩
  | some k =>
    obtain ⟨o, ho, _⟩ := posO_some id l k hpo
    have hk := (List.getElem?_eq_some_iff.1 ho).1
    obtain ⟨b, off, ha, hcell⟩ := hc (by omega)
    subst ha
    obtain ⟨vr, vt, c0, c1, c2, c3, c4, c5, hrr, ht, hzo⟩ := hcell k o ho
    rw [hpo] at hlk
    simp only [Option.map_some, Option.getD_some, Option.isSome_some, intV] at hlk
    have HR := Lib.hid (hr.trans (congrArg (fun z : Option (Int × Int) => !z.isSome) (nodeAt_some l id k hpo o ho)))
    have pz := lt_of_block HP.out
    have p0 := cell_of_row w _ 0 _ _ _ HP.out
    have p1 := cell_of_row w _ 1 _ _ _ HP.out
    simp only [List.getElem?_toArray, List.getElem?_cons_zero, List.getElem?_cons_succ] at p0 p1
    have k0 : (0 : Int) ≤ (k : Int) := by omega
    have k1 : (k : Int) < (l.length : Int) := by omega
    have kn : ((k : Int)).toNat = k := by omega
    clear hr hc hpo hcell hrr ht ho c0 c2 c3 c4 c5 hk
    by_cases h1 : o.kind = 1
    · have h1d : (o.kind != 1) = false := by rw [h1]; rfl
      have HE := Lib.hid (show r = false by rw [HR.out, if_pos h1]; rfl)
      generalize o.kind = kd at *
      clear h1
      go_enter Tryz.func101, Tryz.ntmps101
      go_wp2
      go_ret
      exact ⟨by rw [HE.out] <;> rfl, rfl⟩
    · have h1d : (o.kind != 1) = true := by rw [bne_iff_ne]; exact h1
      have HE := Lib.hid (show r = true by rw [HR.out, if_neg h1]; rfl)
      generalize o.kind = kd at *
      clear h1
      go_enter Tryz.func101, Tryz.ntmps101
      go_wp2
      go_ret
      exact ⟨by rw [HE.out] <;> rfl, rfl⟩

def IdxN (r : Bool) (w : World) (e : Ending) (w' : World) : Prop := (∃ n : Int, e = .returned (.int .i64 n) ∧ (0 ≤ n ↔ r = false)) ∧ w' = w
set_option maxHeartbeats 1000000 in
theorem idxN_any (vr : Value) (refs : List ByteArray) (Bp Bm : Nat) (v : Value) (l : List ObjD) (w : World) (hr : StrRow w vr refs) (hp : w.heap[Bp]? = some (.cells #[v, .map (some Bm)] 76)) (hat : AtIs w Bm l) (hv : ObjsIs w v l) :
    Calls Tryz.prog 131 #[vr, .func (.func 101) #[] #[.pointer (some ⟨Bp, 0, none⟩)]] w (IdxN (refs.all fun r => (nodeAt l r).isSome) w) := by
  have ND := Lib.hid (fun id hz => nodes1_any id Bp Bm v l w hz hp hat hv)
  clear hp hat hv
  obtain ⟨a, cap, rfl, hn, hsz, hc⟩ := hr
  generalize hN : refs.length = N at *
  have HN := Lib.hid hN
  have HZ := Lib.hid hsz
  have HC := Lib.hid hc
  obtain ⟨res, hres⟩ : ∃ z, z = refs.all fun r => (nodeAt l r).isSome := ⟨_, rfl⟩
  rw [← hres]
  have HR := Lib.hid hres
  clear hN hsz hc hres
  go_enter Tryz.func131, Tryz.ntmps131
  go_wp2
  go_loop [8] (fun i => ∃ k : Nat, k ≤ N ∧ i = .int .i64 k ∧ ∀ s ∈ refs.take k, (nodeAt l s).isSome = true) (fun i => N - (intOf i).toNat)
  case atStart => exact ⟨0, by omega, rfl, by simp⟩
  case round =>
    obtain ⟨k, hk, rfl, hT⟩ := hrel
    have HT := Lib.hid hT
    clear hT
    by_cases hlt : k < N
    · obtain ⟨s, hs⟩ : ∃ s, refs[k]? = some s := ⟨refs[k]'(by rw [HN.out]; exact hlt), List.getElem?_eq_getElem _⟩
      obtain ⟨b, off, ha, hcell⟩ := HC.out (by omega)
      subst ha
      have z1 := HZ.out s (List.mem_of_getElem? hs)
      have c0 := hcell k s hs
      have HS := Lib.hid hs
      clear hcell hs
      go_wp2_with fail
      refine (ND.out s z1).mono ?_
      rintro e w2 ⟨rfl, rfl⟩
      cases hq : (nodeAt l s).isSome
      · have HE := Lib.hid (show res = false by rw [HR.out, List.all_eq_false]; exact ⟨s, List.mem_of_getElem? HS.out, by simp [hq]⟩)
        clear hq
        go_wp2
        go_ret
        exact ⟨⟨_, rfl, by rw [HE.out]; simp⟩, rfl⟩
      · have HG := Lib.hid (refs_upto l refs k s HS.out HT.out hq)
        clear hq
        go_wp2
        go_round
        case rel => exact ⟨k + 1, by omega, by go_num, HG.out⟩
        case measure => simp [intOf]; omega
    · obtain rfl : k = N := by omega
      have HE := Lib.hid (show res = true by rw [HR.out, List.all_eq_true]; have := HT.out; rw [List.take_of_length_le (by rw [HN.out]; exact Nat.le_refl _)] at this; exact this)
      go_wp2
      go_ret
      exact ⟨⟨_, rfl, by rw [HE.out]; simp⟩, rfl⟩

theorem hasN_any (vr : Value) (refs : List ByteArray) (Bp Bm : Nat) (v : Value) (l : List ObjD) (w : World) (hr : StrRow w vr refs) (hp : w.heap[Bp]? = some (.cells #[v, .map (some Bm)] 76)) (hat : AtIs w Bm l) (hv : ObjsIs w v l) :
    Calls Tryz.prog 85 #[vr, .func (.func 101) #[] #[.pointer (some ⟨Bp, 0, none⟩)]] w fun e w' => e = .returned (.bool (!(refs.all fun r => (nodeAt l r).isSome))) ∧ w' = w := by
  have HI := Lib.hid (idxN_any vr refs Bp Bm v l w hr hp hat hv)
  clear hr hp hat hv
  generalize (refs.all fun r => (nodeAt l r).isSome) = res at HI ⊢
  go_enter Tryz.func85, Tryz.ntmps85
  go_wp2_with fail
  refine HI.out.mono ?_
  rintro e w2 ⟨⟨n, rfl, hn⟩, rfl⟩
  by_cases h0 : 0 ≤ n
  · have HR := Lib.hid (hn.1 h0)
    clear hn
    go_wp2
    go_ret
    exact ⟨ret_bool (by rw [HR.out]; first | (simp; done) | (simp; omega)), rfl⟩
  · have HR := Lib.hid (show res = true by
      cases hr : res
      · exact absurd (hn.2 hr) h0
      · rfl)
    clear hn
    have h0' : n < 0 := by omega
    go_wp2
    go_ret
    exact ⟨ret_bool (by rw [HR.out]; first | (simp; done) | (simp; omega)), rfl⟩

set_option maxHeartbeats 1000000 in
theorem nodes_any (o : ObjD) (vr vt : Value) (Bm : Nat) (v : Value) (l : List ObjD) (w : World) (hr : StrRow w vr o.refs) (ht : TagRow w vt o.tags) (hat : AtIs w Bm l) (hv : ObjsIs w v l) :
    Calls Tryz.prog 65 #[.agg #[v, .map (some Bm)], .agg #[.string o.id, .int .i64 o.kind, .int .i64 o.x, .int .i64 o.y, vr, vt]] w fun e w' => e = .returned (.bool (soundB l o)) ∧ Below w.heap.size w w' := by
  have HS := Lib.hid (fun w' hp hb => hasN_any vr o.refs w.heap.size Bm v l w' (hr.later hb) hp (hat.on hb) (hv.later hb))
  have HQ := Lib.hid (show soundB l o = (o.refs.all fun r => (nodeAt l r).isSome) from rfl)
  generalize soundB l o = res at HQ ⊢
  rw [← HQ.out] at HS
  obtain ⟨a, cap, rfl, _⟩ := hv
  obtain ⟨ar, capr, rfl, _⟩ := hr
  obtain ⟨at1, capt, rfl, _⟩ := ht
  clear HQ hat
  obtain ⟨id, kind, x, y, refs, tags⟩ := o
  simp only [] at HS ⊢
  go_enter Tryz.func65, Tryz.ntmps65
  go_wp2_with fail
  have B1 : Below w.heap.size w ((w.alloc (.cells #[.slice a l.length cap, .map (some Bm)] 76)).alloc (.cells #[.string id, .int .i64 kind, .int .i64 x, .int .i64 y, .slice ar refs.length capr, .slice at1 tags.length capt] 59)) := (by repeat' (first | exact Below.refl _ _ | refine Below.drew ?_ | refine Below.drewN' ?_ | refine Below.setCell ?_ (by first | omega | (simp; done) | exact Below.size (by assumption) | (simp; omega)) _ | refine Below.alloc ?_ (by first | omega | (simp; done) | exact Below.size (by assumption) | (simp; omega)) _ | refine Below.trans ?_ (Below.mono (by assumption) ?_) | (first | omega | (simp; done) | exact Below.size (by assumption) | (simp; omega))))
  have H1 := row_past (o' := .cells #[.string id, .int .i64 kind, .int .i64 x, .int .i64 y, .slice ar refs.length capr, .slice at1 tags.length capt] 59) (row_new w (.cells #[.slice a l.length cap, .map (some Bm)] 76))
  refine (HS.out _ H1 B1).mono ?_
  rintro e w2 ⟨rfl, rfl⟩
  clear H1
  go_wp2
  go_ret
  exact ⟨by simp, B1⟩

set_option maxHeartbeats 1000000 in
theorem point_any (id : ByteArray) (Bm : Nat) (v : Value) (l : List ObjD) (w : World) (hz : id.size ≤ 140737488355328) (hat : AtIs w Bm l) (hv : ObjsIs w v l) (hn : (nodeAt l id).isSome = true) :
    Calls Tryz.prog 35 #[.agg #[v, .map (some Bm)], .string id] w fun e w' => e = .returned (ptV (ptO l id)) ∧ Below w.heap.size w w' := by
  have HAT := Lib.hid hat
  obtain ⟨a, cap, rfl, hn', hc⟩ := hv
  cases hpo : posO id l with
  | none => rw [nodeAt_none l id hpo] at hn; cases hn
  | some k =>
    obtain ⟨o, ho, _⟩ := posO_some id l k hpo
    have hk := (List.getElem?_eq_some_iff.1 ho).1
    obtain ⟨b, off, ha, hcell⟩ := hc (by omega)
    subst ha
    obtain ⟨vr, vt, c0, c1, c2, c3, c4, c5, hrr, ht, hzo⟩ := hcell k o ho
    have hpt : ptO l id = (o.x, o.y) := by
      have h := nodeAt_some l id k hpo o ho
      unfold ptO
      rw [h] at hn ⊢
      split at hn
      · rename_i h1; rw [if_pos h1]; rfl
      · cases hn
    rw [hpt]
    have hlk := (HAT.out.on (w' := (w.alloc (.cells #[.slice (some ⟨b, off, none⟩) l.length cap, .map (some Bm)] 76)).alloc (.cells #[.int .i64 0, .int .i64 0] 37)) (by repeat' (first | exact Below.refl _ _ | refine Below.drew ?_ | refine Below.drewN' ?_ | refine Below.setCell ?_ (by first | omega | (simp; done) | exact Below.size (by assumption) | (simp; omega)) _ | refine Below.alloc ?_ (by first | omega | (simp; done) | exact Below.size (by assumption) | (simp; omega)) _ | refine Below.trans ?_ (Below.mono (by assumption) ?_) | (first | omega | (simp; done) | exact Below.size (by assumption) | (simp; omega))))).look id hz
    rw [hpo] at hlk
    simp only [Option.map_some, Option.getD_some, intV] at hlk
    have k0 : (0 : Int) ≤ (k : Int) := by omega
    have k1 : (k : Int) < (l.length : Int) := by omega
    have kn : ((k : Int)).toNat = k := by omega
    have bz := lt_of_cell c2
    clear hpt hn hat hc hpo hcell hrr ht ho c0 c1 c4 c5 hk
    go_enter Tryz.func35, Tryz.ntmps35
    go_wp2
    refine bodyPost_ret (v := .agg #[.int .i64 o.x, .int .i64 o.y]) ?_ rfl ⟨rfl, ?_⟩
    · simp [results, Tryz.results35, go_sem]
    · repeat' (first | exact Below.refl _ _ | refine Below.drew ?_ | refine Below.drewN' ?_ | refine Below.setCell ?_ (by first | omega | (simp; done) | exact Below.size (by assumption) | (simp; omega)) _ | refine Below.alloc ?_ (by first | omega | (simp; done) | exact Below.size (by assumption) | (simp; omega)) _ | refine Below.trans ?_ (Below.mono (by assumption) ?_) | (first | omega | (simp; done) | exact Below.size (by assumption) | (simp; omega)))
end Go.Proofs.YtbkomdinchiffaaGreat
