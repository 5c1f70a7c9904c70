/- name.Best: the place of a language, and the walk through the names. Contract of name.Best. -/
import Derived.Test.YtapllmniplgajaaGreatDoorNamAB
import Derived.Maps.AppendAt
import Derived.Laws.EntriesVeiled
namespace Go.Proofs.YtapllmniplgajaaGreatDoor
open Go.RowKit Go.Shelf

attribute [local go_sem] Oper.semAt_some

/-- Where a text stands in a list. -/
def posS (s : ByteArray) : List ByteArray → Option Nat
  | [] => none
  | x :: l => if x = s then some 0 else (posS s l).map (· + 1)
theorem posS_drop (s : ByteArray) (l : List ByteArray) (k : Nat) (x : ByteArray) (hx : l[k]? = some x) : posS s (l.drop k) = if x = s then some 0 else (posS s (l.drop (k + 1))).map (· + 1) := by
  obtain ⟨hk, rfl⟩ := List.getElem?_eq_some_iff.1 hx
  rw [List.drop_eq_getElem_cons hk]; rfl
def posI : Option Nat → Int
  | some i => i
  | none => -1
theorem posI_map (o : Option Nat) (k : Nat) (h : o = none) : posI (o.map (· + k)) = -1 := by rw [h]; rfl

set_option maxRecDepth 100000 in
set_option maxHeartbeats 1000000 in
theorem idxS_any (v : Value) (l : List ByteArray) (s : ByteArray) (w : World) (hv : StrRow w v l) :
    Calls Tryz.prog 53 #[v, .string s] w fun e w' => e = .returned (.int .i64 (posI (posS s l))) ∧ w' = w := by
  obtain ⟨a, cap, rfl, hn, hsz, hc⟩ := hv
  generalize hN : l.length = N at *
  have HN := Lib.hid hN
  have HC := Lib.hid hc
  have HP0 : Hid (posS s l = (posS s (l.drop 0)).map (· + 0)) := (show _ = _ by rw [List.drop_zero]; cases posS s l <;> rfl)
  generalize hr : posI (posS s l) = r
  have HR := Lib.hid hr
  clear hN hc hsz hr
  go_enter Tryz.func53, Tryz.ntmps53
  go_wp2
  go_loopw [8] (fun i wr => ∃ k : Nat, k ≤ N ∧ i = .int .i64 k ∧ Hid (posS s l = (posS s (l.drop k)).map (· + k)) ∧ wr = w) (fun i _ => N - (intOf i).toNat)
  case atStart => exact ⟨0, by omega, rfl, HP0, rfl⟩
  case round =>
    obtain ⟨k, hk, rfl, hT, rfl⟩ := hrel
    clear HP0
    by_cases hlt : k < N
    · obtain ⟨x, hx⟩ : ∃ x, l[k]? = some x := ⟨l[k]'(by rw [HN.out]; exact hlt), List.getElem?_eq_getElem _⟩
      obtain ⟨b, off, ha, hcell⟩ := HC.out (by omega)
      subst ha
      have c0 := hcell k x hx
      have HD := Lib.hid (posS_drop s l k x hx)
      clear hcell hx
      by_cases hs : x = s
      · have e1 : (s.toList == x.toList) = true := str_eq_true hs.symm
        have HE := Lib.hid (show r = (k : Int) by rw [← HR.out, hT.out, HD.out, if_pos hs]; simp [posI])
        clear hs
        go_wp2
        go_ret
        exact ⟨by rw [HE.out]; rfl, rfl⟩
      · have e1 : (s.toList == x.toList) = false := str_eq_false (fun h => hs h.symm)
        have HG : Hid (posS s l = (posS s (l.drop (k + 1))).map (· + (k + 1))) := by
          show _ = _
          rw [hT.out, HD.out, if_neg hs, Option.map_map]
          congr 1
          funext n
          simp; omega
        clear hs
        go_wp2
        go_roundw
        case rel => exact ⟨k + 1, by omega, by go_num, HG, trivial⟩
        case measure => simp [intOf]; omega
    · obtain rfl : k = N := by omega
      have HE := Lib.hid (show r = -1 by rw [← HR.out, hT.out, List.drop_of_length_le (by rw [HN.out]; exact Nat.le_refl _)]; rfl)
      go_wp2
      go_ret
      exact ⟨by rw [HE.out]; rfl, rfl⟩

/-- The place of a language among those that are asked for. -/
def atB (langs : List ByteArray) (own : ByteArray) : Int :=
  match posS own langs with
  | some i => i
  | none => if own = ⟨#[]⟩ then langs.length else langs.length + 1
theorem posS_lt (s : ByteArray) : ∀ (l : List ByteArray) (i : Nat), posS s l = some i → i < l.length
  | [], i, h => by simp [posS] at h
  | x :: l, i, h => by
    rw [posS] at h
    split at h
    · injection h with h; subst h; simp
    · cases hp : posS s l with
      | none => rw [hp] at h; cases h
      | some j =>
        rw [hp] at h
        have := posS_lt s l j hp
        simp at h; subst h; simp; omega

set_option maxRecDepth 100000 in
set_option maxHeartbeats 1000000 in
theorem at_any (v : Value) (l : List ByteArray) (s : ByteArray) (B : Nat) (w : World) (hl : l.length ≤ 1000000) (hv : StrRow w v l) (hB : w.cell? ⟨B, 0, none⟩ = some v) :
    Calls Tryz.prog 52 #[.string s, .pointer (some ⟨B, 0, none⟩)] w fun e w' => e = .returned (.int .i64 (atB l s)) ∧ w' = w := by
  have IX := Lib.hid (idxS_any v l s w hv)
  obtain ⟨a, cap, rfl, _⟩ := hv
  obtain ⟨r, hr⟩ : ∃ r, r = atB l s := ⟨_, rfl⟩
  rw [← hr]
  cases hp : posS s l with
  | some i =>
    have HR := Lib.hid (show r = (i : Int) by rw [hr]; unfold atB; rw [hp])
    rw [hp] at IX
    have h0 : (0 : Int) ≤ (i : Int) := by omega
    clear hp hr
    have IX := Lib.hid (show Calls Tryz.prog 53 #[.slice a l.length cap, .string s] w fun e w' => e = .returned (.int .i64 (i : Int)) ∧ w' = w from IX.out)
    go_enter Tryz.func52, Tryz.ntmps52
    go_wp2_with fail
    refine IX.out.mono ?_
    rintro e w2 ⟨rfl, rfl⟩
    go_wp2
    go_ret
    exact ⟨by rw [HR.out]; rfl, rfl⟩
  | none =>
    have IX := Lib.hid (show Calls Tryz.prog 53 #[.slice a l.length cap, .string s] w fun e w' => e = .returned (.int .i64 (-1)) ∧ w' = w by have := IX.out; rw [hp] at this; exact this)
    have hw : IntKind.i64.wrap ((l.length : Int) + 1) = (l.length : Int) + 1 := by rw [IntKind.wrap_i64]; omega
    by_cases hs : s = ⟨#[]⟩
    · have HR := Lib.hid (show r = (l.length : Int) by rw [hr]; unfold atB; rw [hp]; simp [hs])
      have e0 : s.toList = [] := by rw [hs, ByteArray.toList_eq]
      have e1 : s.toList.isEmpty = true := by rw [e0]; rfl
      clear hs hp hr
      go_enter Tryz.func52, Tryz.ntmps52
      go_wp2_with fail
      refine IX.out.mono ?_
      rintro e w2 ⟨rfl, rfl⟩
      go_wp2
      go_ret
      exact ⟨by rw [HR.out]; rfl, rfl⟩
    · have HR := Lib.hid (show r = (l.length : Int) + 1 by rw [hr]; unfold atB; rw [hp]; simp [hs])
      have e0 : ¬ s.toList = [] := by
        intro h; apply hs
        rw [ByteArray.toList_eq] at h
        exact ByteArray.ext (Array.toList_inj.mp h)
      have e1 : s.toList.isEmpty = false := by simpa using e0
      clear hs hp hr
      go_enter Tryz.func52, Tryz.ntmps52
      go_wp2_with fail
      refine IX.out.mono ?_
      rintro e w2 ⟨rfl, rfl⟩
      go_wp2
      go_ret
      exact ⟨by rw [HR.out]; rfl, rfl⟩

theorem names_any (v : Value) (w : World) (hv : ∃ a n cap, v = .slice a n cap) : Calls Tryz.prog 54 #[v] w fun e w' => e = .returned (.func (.func 86) #[] #[.pointer (some ⟨w.heap.size, 0, none⟩)]) ∧ w' = w.alloc (.cells #[v] 57) := by
  obtain ⟨a, n, cap, rfl⟩ := hv
  go_enter Tryz.func54, Tryz.ntmps54
  go_wp2
  go_ret
  exact ⟨rfl, rfl⟩

def bestStep (langs : List ByteArray) (st : TagD × Int) (p : ByteArray × TagD) : TagD × Int := if atB langs p.1 < st.2 then (p.2, atB langs p.1) else st
def bestF (langs : List ByteArray) (l : List (ByteArray × TagD)) : TagD × Int := l.foldl (bestStep langs) (⟨⟨#[]⟩, ⟨#[]⟩⟩, langs.length + 2)
/-- The best name of tags for some languages, and its key. -/
def bestB (tags : List TagD) (langs : List ByteArray) : ByteArray × ByteArray :=
  if tagsOK tags then ((bestF langs (namesL tags)).1.val, (bestF langs (namesL tags)).1.key) else (⟨#[]⟩, ⟨#[]⟩)

theorem tags_names : ∀ (l : List TagD) (last : ByteArray), tagsFrom last l = true → ∀ t ∈ l, nameB t.key = true
  | [], _, _, t, ht => by cases ht
  | x :: l, last, h, t, ht => by
    simp only [tagsFrom, Bool.and_eq_true] at h
    rcases List.mem_cons.1 ht with rfl | ht
    · exact h.1.1.1
    · exact tags_names l x.key h.2 t ht

set_option maxRecDepth 100000 in
set_option maxHeartbeats 1000000 in
theorem best_bad (vt vl : Value) (tags : List TagD) (langs : List ByteArray) (w : World) (ht : TagRow w vt tags) (hv : StrRow w vl langs) (hok : tagsOK tags = false) :
    Calls Tryz.prog 29 #[vt, vl] w fun e w' => e = .returned (.tuple #[.string (bestB tags langs).1, .string (bestB tags langs).2]) ∧ Below w.heap.size w w' := by
  have HB := Lib.hid (show bestB tags langs = (⟨#[]⟩, ⟨#[]⟩) by unfold bestB; rw [hok]; rfl)
  have TD := Lib.hid (fun (w' : World) (hb : Below w.heap.size w w') => by have := tags_any vt tags w' (ht.later hb); rw [hok] at this; exact this)
  obtain ⟨a, cap, rfl, _⟩ := hv
  generalize bestB tags langs = bb at HB
  clear ht hok
  go_enter Tryz.func29, Tryz.ntmps29
  go_wp2_with fail
  refine (TD.out _ (by repeat' (first | exact Below.refl _ _ | refine Below.drew ?_ | refine Below.drewN' ?_ | refine Below.setCell ?_ (by first | omega | (simp; done) | exact Below.size (by assumption) | (simp; omega)) _ | refine Below.alloc ?_ (by first | omega | (simp; done) | exact Below.size (by assumption) | (simp; omega)) _ | refine Below.trans ?_ (Below.mono (by assumption) ?_) | (first | omega | (simp; done) | exact Below.size (by assumption) | (simp; omega))))).mono ?_
  rintro e w2 ⟨rfl, hb2⟩
  have B2 : Below w.heap.size w w2 := below_step (((Below.refl _ w).alloc (Nat.le_refl _) _).alloc (by simp) _) (Nat.le_refl _) hb2
  go_wp2
  go_ret2
  exact ⟨by rw [HB.out]; rfl, B2⟩
end Go.Proofs.YtapllmniplgajaaGreatDoor

namespace Go.Proofs.YtapllmniplgajaaGreatDoor
open Go.RowKit Go.Shelf

attribute [local go_sem] Oper.semAt_some

theorem names_stops (n : Nat) (hn : 1 ≤ n) (Bn : Nat) (vt : Value) (tags : List TagD) (w w0 : World) (hv : TagRow w vt tags) (hnm : ∀ t ∈ tags, nameB t.key = true) (hlow : ∀ k, k < w.heap.size → w0.heap[k]? = w.heap[k]?) (hsz : w.heap.size ≤ w0.heap.size)
    (hBn : w0.heap[Bn]? = some (.cells #[vt] 57 (0, 0))) :
    SeqStopsK Fence.wide n Tryz.prog 86 #[.pointer (some ⟨Bn, 0, none⟩)] pairV (KpN w.heap.size) (fun ys => ys = namesL tags) (fun pre => pre <+: namesL tags) tags.length w0 := fun l J Jx W hW hJ _ hY h0 =>
  names1_any n hn l Bn vt tags w hv hnm J Jx W hJ hY (fun k hk => (hW.block k (by omega)).trans (hlow k hk)) (Nat.le_trans hsz hW.size) (row_later hW hBn) h0

theorem cells_kept {A B : World} {row : Option Nat} {k : Nat} {o : Obj} (ho : o.isCells = true) (hg : A.grownBy B row) (hr : ∀ r, row = some r → ∃ o : Obj, A.heap[r]? = some o ∧ o.isCells = false) (h : A.heap[k]? = some o) : B.heap[k]? = some o :=
  (hg.block k (lt_of_block h) (by intro e; obtain ⟨o', h1, h2⟩ := hr k e.symm; rw [h] at h1; cases h1; rw [ho] at h2; cases h2)).trans h
/-- What the walk through the names holds, some having come. -/
structure BestI (langs : List ByteArray) (B3 B6 B7 B8 : Nat) (vl : Value) (w : World) (n0 : Nat) (pre : List (ByteArray × TagD)) (W : World) : Prop where
  h3 : W.heap[B3]? = some (.cells #[vl] 36 (0, 0))
  h6 : W.heap[B6]? = some (.cells #[.string (bestF langs pre).1.key, .string (bestF langs pre).1.val] 69 (0, 0))
  h7 : W.heap[B7]? = some (.cells #[.int .i64 (bestF langs pre).2] 3 (0, 0))
  h8 : W.heap[B8]? = some (.cells #[.func (.func 52) #[] #[.pointer (some ⟨B3, 0, none⟩)]] 89 (0, 0))
  hb : Below w.heap.size w W
  hs : n0 ≤ W.heap.size
theorem BestI.own {langs : List ByteArray} {B3 B6 B7 B8 : Nat} {vl : Value} {w : World} {n0 : Nat} (hn : w.heap.size ≤ n0) : OwnFrom n0 (BestI langs B3 B6 B7 B8 vl w n0) := fun s A B row hs hg hr => by
  have hr2 : ∀ r, row = some r → ∃ o : Obj, A.heap[r]? = some o ∧ o.isCells = false := fun r e => (hr r e).2
  exact ⟨cells_kept rfl hg hr2 hs.h3, cells_kept rfl hg hr2 hs.h6, cells_kept rfl hg hr2 hs.h7, cells_kept rfl hg hr2 hs.h8,
    hs.hb.grown hg (Nat.le_trans hn hs.hs) (fun k e => Nat.le_trans hn (hr k e).1), Nat.le_trans hs.hs hg.size⟩
theorem bestF_snoc (langs : List ByteArray) (pre : List (ByteArray × TagD)) (x : ByteArray × TagD) : bestF langs (pre ++ [x]) = bestStep langs (bestF langs pre) x := by unfold bestF; rw [List.foldl_append]; rfl
theorem posB_bd (langs : List ByteArray) (own : ByteArray) : 0 ≤ atB langs own ∧ atB langs own ≤ langs.length + 1 := by
  unfold atB
  cases h : posS own langs with
  | none => simp only []; split <;> omega
  | some i => have := posS_lt own langs i h; simp only []; omega

def BestPost (tags : List TagD) (langs : List ByteArray) (w : World) (e : Ending) (w' : World) : Prop := e = .returned (.tuple #[.string (bestB tags langs).1, .string (bestB tags langs).2]) ∧ Below w.heap.size w w'

set_option maxRecDepth 100000 in
set_option maxHeartbeats 4000000 in
theorem best_good (vt vl : Value) (tags : List TagD) (langs : List ByteArray) (w : World) (hl : langs.length ≤ 1000000) (ht : TagRow w vt tags) (hv : StrRow w vl langs) (hok : tagsOK tags = true) :
    Calls Tryz.prog 29 #[vt, vl] w (BestPost tags langs w) := by
  have HB := Lib.hid (show bestB tags langs = ((bestF langs (namesL tags)).1.val, (bestF langs (namesL tags)).1.key) by unfold bestB; rw [hok]; rfl)
  have TD := Lib.hid (fun (w' : World) (hb : Below w.heap.size w w') => by have := tags_any vt tags w' (ht.later hb); rw [hok] at this; exact this)
  have hnm : ∀ t ∈ tags, nameB t.key = true := by
    have h := hok
    simp only [tagsOK, Bool.and_eq_true] at h
    exact tags_names tags _ h.2
  have HT := Lib.hid ht
  have HV := Lib.hid hv
  obtain ⟨a, cap, rfl, _⟩ := hv
  obtain ⟨at1, capt, rfl, _⟩ := ht
  have NM := Lib.hid (fun w => names_any (.slice at1 tags.length capt) w ⟨_, _, _, rfl⟩)
  refine (callsIn_wide (n := 5)).1 ?_
  refine callsIn_of_wp_marks Tryz.func29 rfl trivial ?_ rfl
  simp only [Tryz.ntmps29, List.size_toArray, List.length_cons, List.length_nil, Nat.reduceAdd, Nat.reduceSub, Array.replicate_succ, Array.replicate_zero, List.push_toArray, List.append_toArray, List.nil_append, List.cons_append]
  have hw : IntKind.i64.wrap ((langs.length : Int) + 2) = (langs.length : Int) + 2 := by rw [IntKind.wrap_i64]; omega
  gi_wp2
  refine ⟨trivial, (callsIn_wide.2 (TD.out _ (((Below.refl _ w).alloc (Nat.le_refl _) _).alloc (by simp) _))).mono ?_⟩
  rintro e w3 ⟨rfl, hb3⟩
  have H3 := row_later hb3 (row_past (o' := .cells #[.string ⟨#[]⟩, .string ⟨#[]⟩] 69) (row_new w (.cells #[.slice a langs.length cap] 36)))
  have H6 := row_later hb3 (row_new1 w (.cells #[.slice a langs.length cap] 36) (.cells #[.string ⟨#[]⟩, .string ⟨#[]⟩] 69))
  have B3 := below_step (((Below.refl _ w).alloc (Nat.le_refl _) (.cells #[.slice a langs.length cap] 36)).alloc (by simp) (.cells #[.string ⟨#[]⟩, .string ⟨#[]⟩] 69)) (Nat.le_refl _) hb3
  have hs3 : w.heap.size + 2 ≤ w3.heap.size := by have := hb3.size; simpa using this
  clear hb3
  have H3h := Lib.hid H3
  have H6h := Lib.hid H6
  have cz := lt_of_block H3
  have c0 := cell_of_row w3 _ 0 _ _ _ H3
  simp only [List.getElem?_toArray, List.getElem?_cons_zero] at c0
  have H3' := Lib.hid H3
  clear H3
  gi_wp2
  refine ⟨trivial, (callsIn_wide.2 (NM.out _)).mono ?_⟩
  rintro e W0 ⟨rfl, hW0⟩
  have G3 := row_past (o' := .cells #[.slice at1 tags.length capt] 57) (row_past (o' := .cells #[.func (.func 52) #[] #[.pointer (some ⟨w.heap.size, 0, none⟩)]] 89) (row_past (o' := .cells #[.int .i64 ((langs.length : Int) + 2)] 3) H3h.out))
  have G6 := row_past (o' := .cells #[.slice at1 tags.length capt] 57) (row_past (o' := .cells #[.func (.func 52) #[] #[.pointer (some ⟨w.heap.size, 0, none⟩)]] 89) (row_past (o' := .cells #[.int .i64 ((langs.length : Int) + 2)] 3) H6h.out))
  have G7 := row_past (o' := .cells #[.slice at1 tags.length capt] 57) (row_past (o' := .cells #[.func (.func 52) #[] #[.pointer (some ⟨w.heap.size, 0, none⟩)]] 89) (row_new w3 (.cells #[.int .i64 ((langs.length : Int) + 2)] 3)))
  have G8 := row_past (o' := .cells #[.slice at1 tags.length capt] 57) (row_new1 w3 (.cells #[.int .i64 ((langs.length : Int) + 2)] 3) (.cells #[.func (.func 52) #[] #[.pointer (some ⟨w.heap.size, 0, none⟩)]] 89))
  have Gn := row_new2 w3 (.cells #[.int .i64 ((langs.length : Int) + 2)] 3) (.cells #[.func (.func 52) #[] #[.pointer (some ⟨w.heap.size, 0, none⟩)]] 89) (.cells #[.slice at1 tags.length capt] 57)
  have BW : Below w.heap.size w (((w3.alloc (.cells #[.int .i64 ((langs.length : Int) + 2)] 3)).alloc (.cells #[.func (.func 52) #[] #[.pointer (some ⟨w.heap.size, 0, none⟩)]] 89)).alloc (.cells #[.slice at1 tags.length capt] 57)) :=
    ((B3.alloc (by omega) _).alloc (by simp; omega) _).alloc (by simp; omega) _
  rw [← hW0] at G3 G6 G7 G8 Gn BW
  have hsW : W0.heap.size = w3.heap.size + 3 := by rw [hW0]; simp
  clear hW0 H3h H6h c0 cz H3' B3 H6
  have hI0 : BestI langs w.heap.size (w.heap.size + 1) w3.heap.size (w3.heap.size + 1) (.slice a langs.length cap) w W0.heap.size [] W0 := ⟨G3, G6, G7, G8, BW, Nat.le_refl _⟩
  have ST := Lib.hid (names_stops 4 (by omega) (w3.heap.size + 2) (.slice at1 tags.length capt) tags w W0 HT.out hnm (fun k hk => BW.block k hk) BW.size Gn)
  clear G3 G6 G7 G8 Gn BW TD NM
  gi_wp2
  refine wpIn_rangeFunc_ownH rfl (by omega) (gf := 86) (lb := #[.pointer (some ⟨w3.heap.size + 2, 0, none⟩)]) rfl trivial (enters_of Tryz.func86 (by kernel_rfl) rfl)
    ST.out KpN.trans
    (fun W l o o' hl _ _ _ => ⟨fun k hk => World.putObj_heap_other (by omega), (grownBy_putObj' W l o').size⟩) (Below.refl _ _) (fun _ => rfl)
    (BestI langs w.heap.size (w.heap.size + 1) w3.heap.size (w3.heap.size + 1) (.slice a langs.length cap) w W0.heap.size)
    (fun _ _ _ => False)
    (BestI.own (by omega))
    (fun _ _ _ _ _ hs _ _ => hs)
    hI0
    (fun x a' W => ∃ Bx, W.heap[Bx]? = some (.cells #[.string x.2.key, .string x.2.val] 69 (0, 0)) ∧ W0.heap.size ≤ Bx ∧ a' = { tmps := #[.slice at1 tags.length capt, .slice a langs.length cap, undef, .pointer (some ⟨w.heap.size, 0, none⟩), .string ⟨#[]⟩, .string ⟨#[]⟩, .pointer (some ⟨w.heap.size + 1, 0, none⟩), .pointer (some ⟨w3.heap.size, 0, none⟩), .pointer (some ⟨w3.heap.size + 1, 0, none⟩), .string x.1, .pointer (some ⟨Bx, 0, none⟩), undef, .slice at1 tags.length capt, .bool true, .bool false, .slice a langs.length cap, .int .i64 langs.length, .int .i64 (langs.length + 2), .func (.func 52) #[] #[.pointer (some ⟨w.heap.size, 0, none⟩)], .slice at1 tags.length capt, .func (.func 86) #[] #[.pointer (some ⟨w3.heap.size + 2, 0, none⟩)], .string x.1, .agg #[.string x.2.key, .string x.2.val], undef, undef, undef, undef, undef, undef, undef, undef, undef, undef, undef, undef], defers := [] })
    (fun x a' _ X Y row hs hg hr => by obtain ⟨Bx, h2, h3⟩ := hs; exact ⟨Bx, cells_kept rfl hg (fun r e => (hr r e).2) h2, h3⟩)
    ?assign ?body ?done ?stop
  case assign =>
    intro l pre x W K hI hK
    have hsz := hI.hs
    have hI1 : BestI langs w.heap.size (w.heap.size + 1) w3.heap.size (w3.heap.size + 1) (.slice a langs.length cap) w W0.heap.size pre (W.alloc (.cells #[.string x.2.key, .string x.2.val] 69)) :=
      ⟨row_past hI.h3, row_past hI.h6, row_past hI.h7, row_past hI.h8, hI.hb.alloc (by omega) _, by simp; omega⟩
    unfold pairV at *
    gi_wp2
    exact hK _ _ ((KeepsOthers.alloc _ _).from _) ⟨fun k hk => Below.heap_alloc _ _ _ (by omega), by simp⟩ hI1 ⟨W.heap.size, row_new _ _, hsz, rfl⟩
  case body =>
    rintro l pre x a' W hl2 ⟨r, hr⟩ hI ⟨Bx, hX, hBx, rfl⟩ hlt
    have AT := Lib.hid (at_any (.slice a langs.length cap) langs x.1 w.heap.size W hl (HV.out.later hI.hb) (by rw [cell_of_row W _ 0 _ _ _ hI.h3]; rfl))
    have HS := Lib.hid (show bestF langs (pre ++ [x]) = if atB langs x.1 < (bestF langs pre).2 then (x.2, atB langs x.1) else bestF langs pre from bestF_snoc langs pre x)
    have hbd := posB_bd langs x.1
    obtain ⟨h3, h6, h7, h8, hb, hsz⟩ := hI
    generalize bestF langs pre = st at h6 h7 HS
    obtain ⟨⟨bk, bv⟩, pl⟩ := st
    generalize atB langs x.1 = p at AT hbd HS
    have G3 := Lib.hid h3
    have G6 := Lib.hid h6
    have G7 := Lib.hid h7
    have G8 := Lib.hid h8
    unfold pairV at *
    have xcz := lt_of_block hX
    have xc0 := cell_of_row W _ 0 _ _ _ hX
    have xc1 := cell_of_row W _ 1 _ _ _ hX
    simp only [List.getElem?_toArray, List.getElem?_cons_zero, List.getElem?_cons_succ] at xc0 xc1
    have hX' := Lib.hid hX
    clear hX
    have c8z := lt_of_block h8
    have c80 := cell_of_row W _ 0 _ _ _ h8
    simp only [List.getElem?_toArray, List.getElem?_cons_zero] at c80
    have h8' := Lib.hid h8
    clear h8
    have c7z := lt_of_block h7
    have c70 := cell_of_row W _ 0 _ _ _ h7
    have c7f0 := frozen_of_row W _ 0 _ _ h7
    simp only [List.getElem?_toArray, List.getElem?_cons_zero] at c70
    have h7' := Lib.hid h7
    clear h7
    have c6z := lt_of_block h6
    have c60 := cell_of_row W _ 0 _ _ _ h6
    have c61 := cell_of_row W _ 1 _ _ _ h6
    have c6f0 := frozen_of_row W _ 0 _ _ h6
    have c6f1 := frozen_of_row W _ 1 _ _ h6
    simp only [List.getElem?_toArray, List.getElem?_cons_zero, List.getElem?_cons_succ] at c60 c61
    have h6' := Lib.hid h6
    clear h6
    clear hX' h8' h7' h6' h3
    by_cases hlp : p < pl
    · gi_wp2_with (refine ⟨trivial, ?_⟩; gi_at_call 52; refine (CallsIn.inRound l (callsIn_wide.2 AT.out)).mono ?_; rintro e' w' ⟨rfl, rfl⟩)
      have HS2 := Lib.hid (show bestF langs (pre ++ [x]) = (x.2, p) by rw [HS.out, if_pos hlp])
      refine ⟨(((KeepsOthers.setCell _ _ _).trans (KeepsOthers.setCell _ _ _)).trans (KeepsOthers.setCell _ _ _)).from _, ⟨fun k hk => ?_, by simp⟩, ?_⟩
      · rw [Below.heap_setCell _ _ _ _ (by simp; omega), Below.heap_setCell _ _ _ _ (by simp; omega), Below.heap_setCell _ _ _ _ (by simp; omega)]
      · have r6 := row_set_other (a := ⟨w3.heap.size, 0, none⟩) (v := .int .i64 p) (row_set (i := 1) (v := .string x.2.val) (row_set (i := 0) (v := .string x.2.key) G6.out)) (by simp; omega)
        have r7 := row_set (i := 0) (v := .int .i64 p) (row_set_other (a := ⟨w.heap.size + 1, 1, none⟩) (v := .string x.2.val) (row_set_other (a := ⟨w.heap.size + 1, 0, none⟩) (v := .string x.2.key) G7.out (by simp; omega)) (by simp; omega))
        have r3 := row_set_other (a := ⟨w3.heap.size, 0, none⟩) (v := .int .i64 p) (row_set_other (a := ⟨w.heap.size + 1, 1, none⟩) (v := .string x.2.val) (row_set_other (a := ⟨w.heap.size + 1, 0, none⟩) (v := .string x.2.key) G3.out (by simp)) (by simp)) (by simp; omega)
        have r8 := row_set_other (a := ⟨w3.heap.size, 0, none⟩) (v := .int .i64 p) (row_set_other (a := ⟨w.heap.size + 1, 1, none⟩) (v := .string x.2.val) (row_set_other (a := ⟨w.heap.size + 1, 0, none⟩) (v := .string x.2.key) G8.out (by simp; omega)) (by simp; omega)) (by simp)
        exact ⟨r3, by rw [HS2.out]; simpa using r6, by rw [HS2.out]; simpa using r7, r8, ((hb.setCell (by simp) _).setCell (by simp) _).setCell (by simp; omega) _, by simpa using hsz⟩
    · gi_wp2_with (refine ⟨trivial, ?_⟩; gi_at_call 52; refine (CallsIn.inRound l (callsIn_wide.2 AT.out)).mono ?_; rintro e' w' ⟨rfl, rfl⟩)
      have HS2 := Lib.hid (show bestF langs (pre ++ [x]) = (⟨bk, bv⟩, pl) by rw [HS.out, if_neg (by omega)])
      exact ⟨(KeepsOthers.refl _).from _, ⟨fun _ _ => rfl, Nat.le_refl _⟩, G3.out, by rw [HS2.out]; exact G6.out, by rw [HS2.out]; exact G7.out, G8.out, hb, hsz⟩
  case done =>
    rintro D ys W hD rfl hI hK
    obtain ⟨h3, h6, h7, h8, hb, hsz⟩ := hI
    generalize bestF langs (namesL tags) = st at h6 h7 HB
    obtain ⟨⟨bk, bv⟩, pl⟩ := st
    have c6z := lt_of_block h6
    have c60 := cell_of_row W _ 0 _ _ _ h6
    have c61 := cell_of_row W _ 1 _ _ _ h6
    simp only [List.getElem?_toArray, List.getElem?_cons_zero, List.getElem?_cons_succ] at c60 c61
    have h6' := Lib.hid h6
    clear h6
    clear h6' h3 h7 h8
    gi_wp2
    refine wpIn_wide.2 ?_
    go_quiet (fail)
    gi_wp2
    have hK2 : (W.drewN nq).heap[D]? = some (.deferred (some [])) := hK
    refine ⟨by simp, .inl ⟨_, _, rfl, run_takeDeferred hK2, ?_⟩⟩
    refine ⟨_, results_tmp2 rfl _ _ _, ?_, (hb.drewN' (n := nq)).trans (belowK_b (w := w) (Nat.le_refl _) (W.drewN nq) D _ _ (by omega) hK2 rfl rfl)⟩
    rw [HB.out]; rfl
  case stop =>
    rintro D c pre W _ _ h _
    exact h.elim

/-- Contract of name.Best. -/
theorem best_any (vt vl : Value) (tags : List TagD) (langs : List ByteArray) (w : World) (hl : langs.length ≤ 1000000) (ht : TagRow w vt tags) (hv : StrRow w vl langs) :
    Calls Tryz.prog 29 #[vt, vl] w fun e w' => e = .returned (.tuple #[.string (bestB tags langs).1, .string (bestB tags langs).2]) ∧ Below w.heap.size w w' := by
  cases hok : tagsOK tags
  · exact best_bad vt vl tags langs w ht hv hok
  · exact best_good vt vl tags langs w hl ht hv hok
end Go.Proofs.YtapllmniplgajaaGreatDoor
