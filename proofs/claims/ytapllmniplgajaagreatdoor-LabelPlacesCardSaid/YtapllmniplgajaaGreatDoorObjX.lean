/- slices.IndexFunc and ContainsFunc at the closure of object.Valid. -/
import Derived.Test.YtapllmniplgajaaGreatDoorObjV
namespace Go.Proofs.YtapllmniplgajaaGreatDoor
open Go.RowKit

theorem refs_drop (kind : Int) (l : List ByteArray) (k : Nat) (s : ByteArray) (hs : l[k]? = some s) :
    refsFrom kind (l.take k) (l.drop k) = (okR kind (l.take k) s && refsFrom kind (l.take (k + 1)) (l.drop (k + 1))) := by
  obtain ⟨hk, rfl⟩ := List.getElem?_eq_some_iff.1 hs
  rw [List.drop_eq_getElem_cons hk, List.take_succ_eq_append_getElem hk]; rfl
def IdxPost (r : Bool) (Bl Bm : Nat) (w0 w : World) (e : Ending) (w' : World) : Prop :=
  (∃ n : Int, e = .returned (.int .i64 n) ∧ (0 ≤ n ↔ r = false)) ∧ Below w0.heap.size w0 w' ∧ KeptX Bl Bm w w'

set_option maxRecDepth 100000 in
set_option maxHeartbeats 1000000 in
theorem idx_any (v : Value) (l : List ByteArray) (kind : Int) (Bo Bl Bs Bm : Nat) (w0 w : World) (hl : l.length ≤ 4000) (hv : StrRow w0 v l) (hb : Below w0.heap.size w0 w)
    (h : VSt w Bo Bl Bs Bm kind []) (m1 : w0.heap.size ≤ Bl) (m2 : w0.heap.size ≤ Bm) (n1 : Bo ≠ Bm) (n2 : Bl ≠ Bm) (n3 : Bs ≠ Bm) (n4 : Bo ≠ Bl) (n5 : Bs ≠ Bl) :
    Calls Tryz.prog 109 #[v, .func (.func 83) #[] #[.pointer (some ⟨Bo, 0, none⟩), .pointer (some ⟨Bl, 0, none⟩), .pointer (some ⟨Bs, 0, none⟩)]] w (IdxPost (refsFrom kind [] l) Bl Bm w0 w) := by
  obtain ⟨a, cap, rfl, hn, hsz, hc⟩ := hv
  generalize hN : l.length = N at *
  have HN := Lib.hid hN
  have HZ := Lib.hid hsz
  have HC := Lib.hid hc
  have HV := Lib.hid h
  clear hN hsz hc h
  go_enter Tryz.func109, Tryz.ntmps109
  go_wp2
  go_loopw [8] (fun i wr => ∃ k : Nat, k ≤ N ∧ i = .int .i64 k ∧ refsFrom kind [] l = refsFrom kind (l.take k) (l.drop k) ∧ VSt wr Bo Bl Bs Bm kind (l.take k) ∧ Below w0.heap.size w0 wr ∧ w.heap.size ≤ wr.heap.size ∧ KeptX Bl Bm w wr) (fun i _ => N - (intOf i).toNat)
  case atStart => exact ⟨0, by omega, rfl, rfl, HV.out, hb, Nat.le_refl _, KeptX.refl _ _ _⟩
  case round =>
    obtain ⟨k, hk, rfl, hT, hV, hbr, hsw, hx⟩ := hrel
    have HXX := Lib.hid hx
    clear hx
    have HT := Lib.hid hT
    have HVK := Lib.hid hV
    clear hT hV
    by_cases hlt : k < N
    · obtain ⟨s, hs⟩ : ∃ s, l[k]? = some s := ⟨l[k]'(by rw [HN.out]; exact hlt), List.getElem?_eq_getElem _⟩
      obtain ⟨b, off, ha, hcell⟩ := HC.out (by omega)
      subst ha
      have z1 := HZ.out s (List.mem_of_getElem? hs)
      have c0 := cell_later hbr (hcell k s hs)
      have bz := lt_of_cell c0
      have HD := Lib.hid (refs_drop kind l k s hs)
      have HK := Lib.hid (show l.take (k + 1) = l.take k ++ [s] by obtain ⟨hk, rfl⟩ := List.getElem?_eq_some_iff.1 hs; rw [List.take_succ_eq_append_getElem hk])
      have hlen : (l.take k).length ≤ 4000 := by rw [List.length_take, HN.out]; omega
      clear hcell hs
      go_wp2_with fail
      refine (wrong_any s z1 kind (l.take k) hlen Bo Bl Bs Bm w0.heap.size _ HVK.out m1 m2 hbr.size n1 n2 n3 n4 n5).mono ?_
      rintro e w2 ⟨rfl, hV2, hb2, hx2⟩
      have X2 := Lib.hid (HXX.out.trans hsw hx2)
      have SW2 := Nat.le_trans hsw hb2.size
      clear hx2
      have B2 := hbr.trans hb2
      have HV2 := Lib.hid hV2
      clear hV2 hb2 c0
      cases ho : okR kind (l.take k) s
      · have HR := Lib.hid (show refsFrom kind [] l = false by rw [HT.out, HD.out, ho]; rfl)
        clear ho
        go_wp2
        go_ret
        exact ⟨⟨_, rfl, by rw [HR.out]; simp⟩, B2, X2.out⟩
      · have HG := Lib.hid (show refsFrom kind [] l = refsFrom kind (l.take (k + 1)) (l.drop (k + 1)) by rw [HT.out, HD.out, ho]; rfl)
        clear ho
        go_wp2
        go_roundw
        case rel => exact ⟨k + 1, by omega, by go_num, HG.out, by rw [HK.out]; exact HV2.out, B2, SW2, X2.out⟩
        case measure => simp [intOf]; omega
    · obtain rfl : k = N := by omega
      have HR := Lib.hid (show refsFrom kind [] l = true by rw [HT.out, List.drop_of_length_le (by rw [HN.out]; exact Nat.le_refl _)]; rfl)
      go_wp2
      go_ret
      exact ⟨⟨_, rfl, by rw [HR.out]; simp⟩, hbr, HXX.out⟩

theorem has_any (v : Value) (l : List ByteArray) (kind : Int) (Bo Bl Bs Bm : Nat) (w0 w : World) (hl : l.length ≤ 4000) (hv : StrRow w0 v l) (hb : Below w0.heap.size w0 w)
    (h : VSt w Bo Bl Bs Bm kind []) (m1 : w0.heap.size ≤ Bl) (m2 : w0.heap.size ≤ Bm) (n1 : Bo ≠ Bm) (n2 : Bl ≠ Bm) (n3 : Bs ≠ Bm) (n4 : Bo ≠ Bl) (n5 : Bs ≠ Bl) :
    Calls Tryz.prog 84 #[v, .func (.func 83) #[] #[.pointer (some ⟨Bo, 0, none⟩), .pointer (some ⟨Bl, 0, none⟩), .pointer (some ⟨Bs, 0, none⟩)]] w fun e w' => e = .returned (.bool (!refsFrom kind [] l)) ∧ Below w0.heap.size w0 w' ∧ KeptX Bl Bm w w' := by
  have HI := Lib.hid (idx_any v l kind Bo Bl Bs Bm w0 w hl hv hb h m1 m2 n1 n2 n3 n4 n5)
  clear hv h
  go_enter Tryz.func84, Tryz.ntmps84
  go_wp2_with fail
  refine HI.out.mono ?_
  rintro e w2 ⟨⟨n, rfl, hn⟩, hb2, hx2⟩
  have X2 := Lib.hid hx2
  clear hx2
  by_cases h0 : 0 ≤ n
  · have HR := Lib.hid (hn.1 h0)
    clear hn
    go_wp2
    go_ret
    exact ⟨ret_bool (by rw [HR.out]; first | (simp; done) | (simp; omega)), hb2, X2.out⟩
  · have HR := Lib.hid (show refsFrom kind [] l = true by
      cases hr : refsFrom kind [] l
      · exact absurd (hn.2 hr) h0
      · rfl)
    clear hn
    have h0' : n < 0 := by omega
    go_wp2
    go_ret
    exact ⟨ret_bool (by rw [HR.out]; first | (simp; done) | (simp; omega)), hb2, X2.out⟩
end Go.Proofs.YtapllmniplgajaaGreatDoor
