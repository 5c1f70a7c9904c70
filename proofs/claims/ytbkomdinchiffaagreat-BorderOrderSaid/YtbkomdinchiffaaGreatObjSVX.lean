/- A set of texts as the program keeps it: a map[string]bool that the call made. Contracts of package object: the closure of Valid. slices.IndexFunc and ContainsFunc at the closure of object.Valid. -/
import Derived.Test.YtbkomdinchiffaaGreatObjTW
import Derived.Maps.OwnSet
import Derived.Maps.OwnOps
import Derived.Maps.Views
import Derived.StringKeys
namespace Go.Proofs.YtbkomdinchiffaaGreat
open Go.RowKit Go.Maps Go.ChangeMaps

theorem keyS : Keyed Tryz.prog 9 := string_keyed Tryz.underlying9
theorem zeroB (w : World) : (zeroValue 4).run Tryz.prog w = .ok (.bool false) w := by kernel_rfl

/-- Block b is a map from texts to bools that has true at the texts of the list, and at no other. -/
def SetIs (w : World) (b : Nat) (pre : List ByteArray) : Prop :=
  ∃ (n : Nat) (D : DataW Unit), w.ownsMap Tryz.prog 9 (plainElem Tryz.prog 4) b n D ∧ n ≤ pre.length ∧
    ∀ s : ByteArray, D.atKey (.string s.data.toList) (.lit (.bool false)) = .lit (.bool (pre.any fun p => decide (p = s)))
theorem SetIs.made (w : World) : SetIs (w.alloc (.map #[] 0)) w.heap.size [] :=
  ⟨0, _, World.ownsMap_made _ _ _ _, Nat.le_refl _, fun s => by simp [DataW.atKey]⟩
theorem SetIs.later {w w' : World} {b : Nat} {pre : List ByteArray} (h : SetIs w b pre) (hb : w'.heap[b]? = w.heap[b]?) : SetIs w' b pre := by
  obtain ⟨n, D, ⟨es, clock, h1, h2⟩, h3⟩ := h
  exact ⟨n, D, ⟨es, clock, hb.trans h1, h2⟩, h3⟩
theorem SetIs.lt {w : World} {b : Nat} {pre : List ByteArray} (h : SetIs w b pre) : b < w.heap.size := by
  obtain ⟨n, D, h1, -⟩ := h
  exact h1.lt
theorem plainBool_inv {P : Program} {e : TypeId} (he : P.underlying e = some .bool) {v : Value} {b : Bool} {ps : List MemPlace} (h : plainElem (H := Unit) P e v = some (.lit (.bool b), ps)) : v = .bool b := by
  unfold plainElem at h
  rw [he] at h
  cases v <;> simp at h
  rw [h.1]
theorem str_key {a b : ByteArray} (h : Lit.string a.data.toList = Lit.string b.data.toList) : a = b := by
  injection h with h
  exact ByteArray.ext (Array.toList_inj.mp h)
theorem SetIs.look {w : World} {b : Nat} {pre : List ByteArray} (h : SetIs w b pre) (s : ByteArray) (hs : s.size ≤ maxLen) :
    (Instr.lookup 56 (.map (some b)) (.string s) false).run Tryz.prog w = .ok (.bool (pre.any fun p => decide (p = s))) w := by
  obtain ⟨n, D, h1, h2, h3⟩ := h
  obtain ⟨v, ps, hrun, hv⟩ := h1.lookup keyS Tryz.underlying56 (zeroB w) (plainElem_bool Tryz.underlying4 false) (WideMaps.keyOf_string_mk Tryz.underlying9 hs)
  rw [h3] at hv
  have hv' : v = .bool (pre.any fun p => decide (p = s)) := plainBool_inv Tryz.underlying4 hv
  rw [hrun, hv']
theorem SetIs.put {w : World} {b : Nat} {pre : List ByteArray} (h : SetIs w b pre) (s : ByteArray) (hs : s.size ≤ maxLen) (hn : pre.length < maxLen) :
    ∃ w', (Instr.mapUpdate 56 (.map (some b)) (.string s) (.bool true)).run Tryz.prog w = .ok () w' ∧ SetIs w' b (pre ++ [s]) ∧ w.grownBy w' (some b) := by
  obtain ⟨n, D, h1, h2, h3⟩ := h
  obtain ⟨w', hrun, h4, h5⟩ := h1.update keyS Tryz.underlying56 (by omega) (WideMaps.keyOf_string_mk Tryz.underlying9 hs) (plainElem_bool Tryz.underlying4 true)
  refine ⟨w', hrun, ⟨n + 1, _, h4, by simp; omega, fun t => ?_⟩, h5⟩
  by_cases e : t = s
  · subst e
    rw [atKey_put_same h1.isMap (show WideAt.IsKeyLit (.string t.data.toList) from trivial)]
    simp
  · rw [atKey_put_other (fun h => e (str_key h)), h3]
    simp [Ne.symm e]
end Go.Proofs.YtbkomdinchiffaaGreat

namespace Go.Proofs.YtbkomdinchiffaaGreat
open Go.RowKit

def lastS (pre : List ByteArray) : ByteArray := pre.getLast?.getD ⟨#[]⟩
/-- What the closure's captured variables hold behind some references. -/
structure VSt (w : World) (Bo Bl Bs Bm : Nat) (kind : Int) (pre : List ByteArray) : Prop where
  kindC : w.cell? ⟨Bo, 1, none⟩ = some (.int .i64 kind)
  lastC : w.heap[Bl]? = some (.cells #[.string (lastS pre)] 9 (0, 0))
  seenC : w.heap[Bs]? = some (.cells #[.map (some Bm)] 56 (0, 0))
  setC : SetIs w Bm pre
/-- May a text stand behind these references? -/
def okR (kind : Int) (pre : List ByteArray) (s : ByteArray) : Bool :=
  nameB s && !(decide (kind = 2) && decide (pre.getLast? = some s)) && !(decide (kind = 3) && pre.any fun p => decide (p = s))
theorem name_ne {s : ByteArray} (h : nameB s = true) : s ≠ ⟨#[]⟩ := by
  rintro rfl
  exact absurd h (by decide)
theorem okR_eq (kind : Int) (pre : List ByteArray) (s : ByteArray) :
    (!okR kind pre s) = (((decide (kind = 2) && decide (s = lastS pre)) || (decide (kind = 3) && pre.any fun p => decide (p = s))) || !nameB s) := by
  unfold okR lastS
  cases hn : nameB s
  · simp
  · have hne := name_ne hn
    have e : decide (pre.getLast? = some s) = decide (s = pre.getLast?.getD ⟨#[]⟩) := by
      rw [decide_eq_decide]
      cases pre.getLast? with
      | none => simp [hne]
      | some t => simp [eq_comm]
    rw [e]
    simp
theorem lastS_snoc (pre : List ByteArray) (s : ByteArray) : lastS (pre ++ [s]) = s := by simp [lastS]

theorem Below.grow1 {B : Nat} {w w' : World} {g : Nat} (hB : B ≤ w.heap.size) (hg : w.grownBy w' (some g)) (h : B ≤ g) : Below B w w' :=
  (Below.refl B w).grown hg hB (fun j ej => by cases ej; exact h)

theorem cell_same {w w' : World} {b o : Nat} (h : w'.heap[b]? = w.heap[b]?) : w'.cell? ⟨b, o, none⟩ = w.cell? ⟨b, o, none⟩ := by
  simp only [World.cell?, h]
theorem VSt.later {w w' : World} {Bo Bl Bs Bm : Nat} {kind : Int} {pre : List ByteArray} (h : VSt w Bo Bl Bs Bm kind pre) (hb : Below w.heap.size w w') : VSt w' Bo Bl Bs Bm kind pre :=
  ⟨cell_later hb h.kindC, row_later hb h.lastC, row_later hb h.seenC, h.setC.later (hb.block _ h.setC.lt)⟩
/-- All blocks but two stay as they are. -/
def KeptX (Bl Bm : Nat) (w w' : World) : Prop := ∀ b, b < w.heap.size → b ≠ Bl → b ≠ Bm → w'.heap[b]? = w.heap[b]?
theorem KeptX.refl (Bl Bm : Nat) (w : World) : KeptX Bl Bm w w := fun _ _ _ _ => rfl
theorem KeptX.trans {Bl Bm : Nat} {a b c : World} (h : KeptX Bl Bm a b) (hs : a.heap.size ≤ b.heap.size) (k : KeptX Bl Bm b c) : KeptX Bl Bm a c :=
  fun i hi h1 h2 => (k i (Nat.lt_of_lt_of_le hi hs) h1 h2).trans (h i hi h1 h2)
theorem KeptX.later {Bl Bm : Nat} {a b c : World} (h : KeptX Bl Bm a b) (hs : a.heap.size ≤ b.heap.size) (k : Below b.heap.size b c) : KeptX Bl Bm a c :=
  h.trans hs fun i hi _ _ => k.block i hi
set_option maxRecDepth 100000 in
set_option maxHeartbeats 1000000 in
theorem wrong_any (s : ByteArray) (hs : s.size ≤ 140737488355328) (kind : Int) (pre : List ByteArray) (hn : pre.length ≤ 4000) (Bo Bl Bs Bm B : Nat) (w : World)
    (h : VSt w Bo Bl Bs Bm kind pre) (hl : B ≤ Bl) (hm : B ≤ Bm) (hBw : B ≤ w.heap.size) (n1 : Bo ≠ Bm) (n2 : Bl ≠ Bm) (n3 : Bs ≠ Bm) (n4 : Bo ≠ Bl) (n5 : Bs ≠ Bl) :
    Calls Tryz.prog 84 #[.string s, .pointer (some ⟨Bo, 0, none⟩), .pointer (some ⟨Bl, 0, none⟩), .pointer (some ⟨Bs, 0, none⟩)] w fun e w' => e = .returned (.bool (!okR kind pre s)) ∧ VSt w' Bo Bl Bs Bm kind (pre ++ [s]) ∧ Below B w w' ∧ KeptX Bl Bm w w' := by
  obtain ⟨k0, HL, HS, HM⟩ := h
  have hlook := HM.look s (by unfold maxLen; omega)
  obtain ⟨w1, hput, HM1, hg⟩ := HM.put s (by unfold maxLen; omega) (by unfold maxLen; omega)
  have HL1 : w1.heap[Bl]? = _ := (hg.block Bl (lt_of_block HL) (by simpa using n2)).trans HL
  have HS1 : w1.heap[Bs]? = _ := (hg.block Bs (lt_of_block HS) (by simpa using n3)).trans HS
  have lz := lt_of_block HL
  have l0 := cell_of_row w _ 0 _ _ _ HL
  simp only [List.getElem?_toArray, List.getElem?_cons_zero] at l0
  have HL' := Lib.hid HL
  clear HL
  have mz := lt_of_block HS
  have m0 := cell_of_row w _ 0 _ _ _ HS
  simp only [List.getElem?_toArray, List.getElem?_cons_zero] at m0
  have HS' := Lib.hid HS
  clear HS
  have qz := lt_of_block HL1
  have q0 := cell_of_row w1 _ 0 _ _ _ HL1
  have qf0 := frozen_of_row w1 _ 0 _ _ HL1
  simp only [List.getElem?_toArray, List.getElem?_cons_zero] at q0
  have HL1' := Lib.hid HL1
  clear HL1
  have V2 := Lib.hid (show VSt (w1.setCell ⟨Bl, 0, none⟩ (.string s)) Bo Bl Bs Bm kind (pre ++ [s]) from
    ⟨(cell_same ((Below.heap_setCell _ ⟨Bl, 0, none⟩ _ _ (by simpa using n4)).trans (hg.block Bo (lt_of_cell k0) (by simpa using n1)))).trans k0,
      by rw [lastS_snoc]; exact row_set (i := 0) HL1'.out, row_set_other HS1 (by simpa using n5), HM1.later (Below.heap_setCell _ _ _ _ (by simpa using n2.symm))⟩)
  have B2 : Below B w (w1.setCell ⟨Bl, 0, none⟩ (.string s)) := (Below.grow1 hBw hg hm).setCell (p := ⟨Bl, 0, none⟩) hl _
  have X2 := Lib.hid (show KeptX Bl Bm w (w1.setCell ⟨Bl, 0, none⟩ (.string s)) from fun b hb e1 e2 => (Below.heap_setCell _ ⟨Bl, 0, none⟩ _ _ (by simpa using e1)).trans (hg.block b hb (by simpa using e2)))
  have OK := Lib.hid (okR_eq kind pre s)
  generalize hI : (pre.any fun p => decide (p = s)) = I at *
  clear hI HM HM1 hg HS1 hn
  by_cases e2 : kind = 2
  · subst e2
    by_cases e1 : s = lastS pre
    · have q1 : (s.toList == (lastS pre).toList) = true := str_eq_true e1
      have OK2 := Lib.hid (show (!okR 2 pre s) = true by rw [OK.out]; simp [e1])
      clear e1 OK
      go_enter Tryz.func84, Tryz.ntmps84
      go_wp2_with (go_at_call 81; refine (name_any s hs _).mono ?_; rintro e w3 ⟨rfl, hb3⟩)
      go_ret
      first | exact ⟨ret_bool OK2.out.symm, V2.out, B2, X2.out⟩ | exact ⟨ret_bool OK2.out.symm, V2.out.later hb3, below_step B2 hBw hb3, X2.out.later B2.size hb3⟩
    · have q1 : (s.toList == (lastS pre).toList) = false := str_eq_false e1
      have OK2 := Lib.hid (show (!okR 2 pre s) = !nameB s by rw [OK.out]; simp [e1])
      clear e1 OK
      go_enter Tryz.func84, Tryz.ntmps84
      go_wp2_with (go_at_call 81; refine (name_any s hs _).mono ?_; rintro e w3 ⟨rfl, hb3⟩)
      go_ret
      first | exact ⟨ret_bool OK2.out.symm, V2.out, B2, X2.out⟩ | exact ⟨ret_bool OK2.out.symm, V2.out.later hb3, below_step B2 hBw hb3, X2.out.later B2.size hb3⟩
  · have f2 : (kind == 2) = false := by rw [beq_eq_false_iff_ne]; exact e2
    by_cases e3 : kind = 3
    · subst e3
      cases I
      · have OK2 := Lib.hid (show (!okR 3 pre s) = !nameB s by rw [OK.out]; simp)
        clear OK
        go_enter Tryz.func84, Tryz.ntmps84
        go_wp2_with (go_at_call 81; refine (name_any s hs _).mono ?_; rintro e w3 ⟨rfl, hb3⟩)
        go_ret
        first | exact ⟨ret_bool OK2.out.symm, V2.out, B2, X2.out⟩ | exact ⟨ret_bool OK2.out.symm, V2.out.later hb3, below_step B2 hBw hb3, X2.out.later B2.size hb3⟩
      · have OK2 := Lib.hid (show (!okR 3 pre s) = true by rw [OK.out]; simp)
        clear OK
        go_enter Tryz.func84, Tryz.ntmps84
        go_wp2_with (go_at_call 81; refine (name_any s hs _).mono ?_; rintro e w3 ⟨rfl, hb3⟩)
        go_ret
        first | exact ⟨ret_bool OK2.out.symm, V2.out, B2, X2.out⟩ | exact ⟨ret_bool OK2.out.symm, V2.out.later hb3, below_step B2 hBw hb3, X2.out.later B2.size hb3⟩
    · have f3 : (kind == 3) = false := by rw [beq_eq_false_iff_ne]; exact e3
      have OK2 := Lib.hid (show (!okR kind pre s) = !nameB s by rw [OK.out]; simp [e2, e3])
      clear OK
      go_enter Tryz.func84, Tryz.ntmps84
      go_wp2_with (go_at_call 81; refine (name_any s hs _).mono ?_; rintro e w3 ⟨rfl, hb3⟩)
      go_ret
      first | exact ⟨ret_bool OK2.out.symm, V2.out, B2, X2.out⟩ | exact ⟨ret_bool OK2.out.symm, V2.out.later hb3, below_step B2 hBw hb3, X2.out.later B2.size hb3⟩
end Go.Proofs.YtbkomdinchiffaaGreat

namespace Go.Proofs.YtbkomdinchiffaaGreat
open Go.RowKit

theorem refs_drop (kind : Int) (l : List ByteArray) (k : Nat) (s : ByteArray) (hs : l[k]? = some s) :
    refsFrom kind (l.take k) (l.drop k) = (okR kind (l.take k) s && refsFrom kind (l.take (k + 1)) (l.drop (k + 1))) := by
  obtain ⟨hk, rfl⟩ := List.getElem?_eq_some_iff.1 hs
  rw [List.drop_eq_getElem_cons hk, List.take_succ_eq_append_getElem hk]; rfl
def IdxPost (r : Bool) (Bl Bm : Nat) (w0 w : World) (e : Ending) (w' : World) : Prop :=
  (∃ n : Int, e = .returned (.int .i64 n) ∧ (0 ≤ n ↔ r = false)) ∧ Below w0.heap.size w0 w' ∧ KeptX Bl Bm w w'

set_option maxRecDepth 100000 in
set_option maxHeartbeats 1000000 in
theorem idx_any (v : Value) (l : List ByteArray) (kind : Int) (Bo Bl Bs Bm : Nat) (w0 w : World) (hl : l.length ≤ 4000) (hv : StrRow w0 v l) (hb : Below w0.heap.size w0 w)
    (h : VSt w Bo Bl Bs Bm kind []) (m1 : w0.heap.size ≤ Bl) (m2 : w0.heap.size ≤ Bm) (n1 : Bo ≠ Bm) (n2 : Bl ≠ Bm) (n3 : Bs ≠ Bm) (n4 : Bo ≠ Bl) (n5 : Bs ≠ Bl) :
    Calls Tryz.prog 131 #[v, .func (.func 84) #[] #[.pointer (some ⟨Bo, 0, none⟩), .pointer (some ⟨Bl, 0, none⟩), .pointer (some ⟨Bs, 0, none⟩)]] w (IdxPost (refsFrom kind [] l) Bl Bm w0 w) := by
  obtain ⟨a, cap, rfl, hn, hsz, hc⟩ := hv
  generalize hN : l.length = N at *
  have HN := Lib.hid hN
  have HZ := Lib.hid hsz
  have HC := Lib.hid hc
  have HV := Lib.hid h
  clear hN hsz hc h
  go_enter Tryz.func131, Tryz.ntmps131
  go_wp2
  go_loopw [8] (fun i wr => ∃ k : Nat, k ≤ N ∧ i = .int .i64 k ∧ refsFrom kind [] l = refsFrom kind (l.take k) (l.drop k) ∧ VSt wr Bo Bl Bs Bm kind (l.take k) ∧ Below w0.heap.size w0 wr ∧ w.heap.size ≤ wr.heap.size ∧ KeptX Bl Bm w wr) (fun i _ => N - (intOf i).toNat)
  case atStart => exact ⟨0, by omega, rfl, rfl, HV.out, hb, Nat.le_refl _, KeptX.refl _ _ _⟩
  case round =>
    obtain ⟨k, hk, rfl, hT, hV, hbr, hsw, hx⟩ := hrel
    have HXX := Lib.hid hx
    clear hx
    have HT := Lib.hid hT
    have HVK := Lib.hid hV
    clear hT hV
    by_cases hlt : k < N
    · obtain ⟨s, hs⟩ : ∃ s, l[k]? = some s := ⟨l[k]'(by rw [HN.out]; exact hlt), List.getElem?_eq_getElem _⟩
      obtain ⟨b, off, ha, hcell⟩ := HC.out (by omega)
      subst ha
      have z1 := HZ.out s (List.mem_of_getElem? hs)
      have c0 := cell_later hbr (hcell k s hs)
      have bz := lt_of_cell c0
      have HD := Lib.hid (refs_drop kind l k s hs)
      have HK := Lib.hid (show l.take (k + 1) = l.take k ++ [s] by obtain ⟨hk, rfl⟩ := List.getElem?_eq_some_iff.1 hs; rw [List.take_succ_eq_append_getElem hk])
      have hlen : (l.take k).length ≤ 4000 := by rw [List.length_take, HN.out]; omega
      clear hcell hs
      go_wp2_with fail
      refine (wrong_any s z1 kind (l.take k) hlen Bo Bl Bs Bm w0.heap.size _ HVK.out m1 m2 hbr.size n1 n2 n3 n4 n5).mono ?_
      rintro e w2 ⟨rfl, hV2, hb2, hx2⟩
      have X2 := Lib.hid (HXX.out.trans hsw hx2)
      have SW2 := Nat.le_trans hsw hb2.size
      clear hx2
      have B2 := hbr.trans hb2
      have HV2 := Lib.hid hV2
      clear hV2 hb2 c0
      cases ho : okR kind (l.take k) s
      · have HR := Lib.hid (show refsFrom kind [] l = false by rw [HT.out, HD.out, ho]; rfl)
        clear ho
        go_wp2
        go_ret
        exact ⟨⟨_, rfl, by rw [HR.out]; simp⟩, B2, X2.out⟩
      · have HG := Lib.hid (show refsFrom kind [] l = refsFrom kind (l.take (k + 1)) (l.drop (k + 1)) by rw [HT.out, HD.out, ho]; rfl)
        clear ho
        go_wp2
        go_roundw
        case rel => exact ⟨k + 1, by omega, by go_num, HG.out, by rw [HK.out]; exact HV2.out, B2, SW2, X2.out⟩
        case measure => simp [intOf]; omega
    · obtain rfl : k = N := by omega
      have HR := Lib.hid (show refsFrom kind [] l = true by rw [HT.out, List.drop_of_length_le (by rw [HN.out]; exact Nat.le_refl _)]; rfl)
      go_wp2
      go_ret
      exact ⟨⟨_, rfl, by rw [HR.out]; simp⟩, hbr, HXX.out⟩

theorem has_any (v : Value) (l : List ByteArray) (kind : Int) (Bo Bl Bs Bm : Nat) (w0 w : World) (hl : l.length ≤ 4000) (hv : StrRow w0 v l) (hb : Below w0.heap.size w0 w)
    (h : VSt w Bo Bl Bs Bm kind []) (m1 : w0.heap.size ≤ Bl) (m2 : w0.heap.size ≤ Bm) (n1 : Bo ≠ Bm) (n2 : Bl ≠ Bm) (n3 : Bs ≠ Bm) (n4 : Bo ≠ Bl) (n5 : Bs ≠ Bl) :
    Calls Tryz.prog 85 #[v, .func (.func 84) #[] #[.pointer (some ⟨Bo, 0, none⟩), .pointer (some ⟨Bl, 0, none⟩), .pointer (some ⟨Bs, 0, none⟩)]] w fun e w' => e = .returned (.bool (!refsFrom kind [] l)) ∧ Below w0.heap.size w0 w' ∧ KeptX Bl Bm w w' := by
  have HI := Lib.hid (idx_any v l kind Bo Bl Bs Bm w0 w hl hv hb h m1 m2 n1 n2 n3 n4 n5)
  clear hv h
  go_enter Tryz.func85, Tryz.ntmps85
  go_wp2_with fail
  refine HI.out.mono ?_
  rintro e w2 ⟨⟨n, rfl, hn⟩, hb2, hx2⟩
  have X2 := Lib.hid hx2
  clear hx2
  by_cases h0 : 0 ≤ n
  · have HR := Lib.hid (hn.1 h0)
    clear hn
    go_wp2
    go_ret
    exact ⟨ret_bool (by rw [HR.out]; first | (simp; done) | (simp; omega)), hb2, X2.out⟩
  · have HR := Lib.hid (show refsFrom kind [] l = true by
      cases hr : refsFrom kind [] l
      · exact absurd (hn.2 hr) h0
      · rfl)
    clear hn
    have h0' : n < 0 := by omega
    go_wp2
    go_ret
    exact ⟨ret_bool (by rw [HR.out]; first | (simp; done) | (simp; omega)), hb2, X2.out⟩
end Go.Proofs.YtbkomdinchiffaaGreat
