/- The reference of layer 18: Language, names, find, Best. The reference of layer 18: Best. -/
import Derived.Test.YtapllmniplgajaaGreatDoorNamCD
import Derived.Test.YtapllmniplgajaaGreatDoorRefGH
import Derived.Test.YtapllmniplgajaaGreatDoorLabL
import Derived.Lib.IndexBytes
namespace Go.Proofs.YtapllmniplgajaaGreatDoor
open Go.RowKit

def preN : List UInt8 := [110, 97, 109, 101, 95]
theorem pre_take (l : List UInt8) : Lib.hasPrefix l preN = decide (l.take 5 = preN) := by
  unfold Lib.hasPrefix
  rw [Bool.eq_iff_iff, decide_eq_true_eq, List.isPrefixOf_iff_prefix, List.prefix_iff_eq_take]
  exact ⟨fun h => h.symm, fun h => h.symm⟩
theorem ex5 (key : ByteArray) : (key.extract 0 5).toList = key.data.toList.take 5 := by
  rw [ByteArray.toList_eq, Lib.extract_data]; rfl
theorem lang_rest (key : ByteArray) (hp : key.data.toList.take 5 = preN) : restB key = key.extract 5 key.size := by
  have h1 : Lib.hasPrefix key.data.toList preN = true := by rw [pre_take]; exact decide_eq_true hp
  have h2 : (restB key).data.toList = (key.extract 5 key.size).data.toList := by
    unfold restB Lib.trimPrefix
    rw [Lib.extract_to_end]
    show ((if Lib.hasPrefix key.data.toList preN = true then key.data.toList.drop 5 else key.data.toList).toArray).toList = _
    rw [if_pos h1]
  cases h3 : restB key with | mk a =>
  cases h4 : key.extract 5 key.size with | mk b =>
  rw [h3, h4] at h2
  congr 1
  exact Array.toList_inj.1 h2
theorem lang_none_pre (key : ByteArray) (hk : key ≠ ⟨#[110, 97, 109, 101]⟩) (hp : key.data.toList.take 5 ≠ preN) : langB key = none := by
  have h1 : Lib.hasPrefix key.data.toList [110, 97, 109, 101, 95] = false := by
    have := pre_take key.data.toList
    rw [decide_eq_false hp] at this
    exact this
  unfold langB
  rw [if_neg hk, h1]; simp
theorem lang_in (key : ByteArray) (hk : key ≠ ⟨#[110, 97, 109, 101]⟩) (hp : key.data.toList.take 5 = preN) :
    langB key = if lowL (key.data.toList.drop 5) && decide (5 < key.size) && decide (key.size ≤ 13) then some (key.extract 5 key.size) else none := by
  have h1 : Lib.hasPrefix key.data.toList [110, 97, 109, 101, 95] = true := by
    have := pre_take key.data.toList
    rw [decide_eq_true hp] at this
    exact this
  have hs : (key.extract 5 key.size).size = key.size - 5 := by rw [ByteArray.size_extract]; omega
  unfold langB
  rw [if_neg hk, h1, lang_rest key hp, Lib.extract_to_end, hs]
  have e1 : decide (0 < key.size - 5) = decide (5 < key.size) := by rw [decide_eq_decide]; omega
  have e2 : decide (key.size - 5 ≤ 8) = decide (key.size ≤ 13) := by rw [decide_eq_decide]; omega
  rw [e1, e2, Bool.true_and]
theorem low_none (key : ByteArray) (k : Nat) (h5 : 5 ≤ k) (hk : k < key.size) (h : ¬ (97 ≤ (key[k]'hk).toNat ∧ (key[k]'hk).toNat ≤ 122)) : lowL (key.data.toList.drop 5) = false := by
  unfold lowL
  rw [List.all_eq_false]
  refine ⟨key[k]'hk, ?_, by simpa using h⟩
  rw [List.mem_iff_getElem?]
  refine ⟨k - 5, ?_⟩
  rw [List.getElem?_drop, show 5 + (k - 5) = k by omega, List.getElem?_eq_getElem (by simpa using hk)]
  rfl
theorem low_all (key : ByteArray) (h : ∀ k (hk : k < key.size), 5 ≤ k → 97 ≤ (key[k]'hk).toNat ∧ (key[k]'hk).toNat ≤ 122) : lowL (key.data.toList.drop 5) = true := by
  unfold lowL
  rw [List.all_eq_true]
  intro c hc
  obtain ⟨j, hj, rfl⟩ := List.getElem_of_mem hc
  rw [List.length_drop, Array.length_toList] at hj
  have := h (5 + j) (by show _ < key.data.size; omega) (by omega)
  rw [List.getElem_drop]
  exact decide_eq_true this

def LangIs (key : ByteArray) (w : World) (e : Ending) (w' : World) : Prop := e = .returned (.tuple #[.string ((langB key).getD ⟨#[]⟩), .bool (langB key).isSome]) ∧ w' = w
set_option maxRecDepth 100000 in
set_option maxHeartbeats 2000000 in
theorem rlang_any (key : ByteArray) (hz : key.size ≤ 1000) (w : World) :
    Calls Tryz.prog 106 #[.string key] w (LangIs key w) := by
  obtain ⟨res, hres⟩ : ∃ z, z = langB key := ⟨_, rfl⟩
  unfold LangIs
  rw [← hres]
  by_cases hk : key = ⟨#[110, 97, 109, 101]⟩
  · have HL := Lib.hid (show res = some ⟨#[]⟩ by rw [hres]; unfold langB; rw [if_pos hk])
    have e1 : (key.toList == (⟨#[110, 97, 109, 101]⟩ : ByteArray).toList) = true := str_eq_true hk
    have e2 := e1
    rw [show (⟨#[110, 97, 109, 101]⟩ : ByteArray).toList = [110, 97, 109, 101] by rw [ByteArray.toList_eq]] at e1
    clear hk hres
    go_enter Tryz.func106, Tryz.ntmps106
    go_wp2
    go_ret2
    exact ⟨by rw [HL.out]; rfl, rfl⟩
  have e1 : (key.toList == (⟨#[110, 97, 109, 101]⟩ : ByteArray).toList) = false := str_eq_false hk
  have e2 := e1
  rw [show (⟨#[110, 97, 109, 101]⟩ : ByteArray).toList = [110, 97, 109, 101] by rw [ByteArray.toList_eq]] at e1
  by_cases h6 : key.size < 6
  · have HL := Lib.hid (show res = none by
      rw [hres]
      by_cases hp : key.data.toList.take 5 = preN
      · rw [lang_in key hk hp, decide_eq_false (show ¬ 5 < key.size by omega)]; simp
      · exact lang_none_pre key hk hp)
    have h6d : decide ((key.size : Int) < 6) = true := decide_eq_true (by omega)
    clear hk hres
    go_enter Tryz.func106, Tryz.ntmps106
    go_wp2
    go_ret2
    exact ⟨by rw [HL.out]; rfl, rfl⟩
  have h6d : decide ((key.size : Int) < 6) = false := decide_eq_false (by omega)
  by_cases h13 : 13 < key.size
  · have HL := Lib.hid (show res = none by
      rw [hres]
      by_cases hp : key.data.toList.take 5 = preN
      · rw [lang_in key hk hp, decide_eq_false (show ¬ key.size ≤ 13 by omega)]; simp
      · exact lang_none_pre key hk hp)
    have h13d : decide ((13 : Int) < key.size) = true := decide_eq_true (by omega)
    clear hk hres
    go_enter Tryz.func106, Tryz.ntmps106
    go_wp2
    go_ret2
    exact ⟨by rw [HL.out]; rfl, rfl⟩
  have h13d : decide ((13 : Int) < key.size) = false := decide_eq_false (by omega)
  by_cases hp : key.data.toList.take 5 = preN
  case neg =>
    have HL := Lib.hid (show res = none by rw [hres]; exact lang_none_pre key hk hp)
    have p1 : ((key.extract 0 5).toList == [110, 97, 109, 101, 95]) = false := by
      rw [ex5]; exact beq_eq_false_iff_ne.2 hp
    have p2 : ((key.extract 0 5).toList == (⟨#[110, 97, 109, 101, 95]⟩ : ByteArray).toList) = false := by
      rw [show (⟨#[110, 97, 109, 101, 95]⟩ : ByteArray).toList = [110, 97, 109, 101, 95] by rw [ByteArray.toList_eq]]; exact p1
    clear hk hp hres
    go_enter Tryz.func106, Tryz.ntmps106
    go_wp2
    go_ret2
    exact ⟨by rw [HL.out]; rfl, rfl⟩
  have p1 : ((key.extract 0 5).toList == [110, 97, 109, 101, 95]) = true := by
    rw [ex5]; exact beq_iff_eq.2 hp
  have p2 : ((key.extract 0 5).toList == (⟨#[110, 97, 109, 101, 95]⟩ : ByteArray).toList) = true := by
    rw [show (⟨#[110, 97, 109, 101, 95]⟩ : ByteArray).toList = [110, 97, 109, 101, 95] by rw [ByteArray.toList_eq]]; exact p1
  have HIN := Lib.hid (show res = if lowL (key.data.toList.drop 5) then some (key.extract 5 key.size) else none by
    rw [hres, lang_in key hk hp, decide_eq_true (show 5 < key.size by omega), decide_eq_true (show key.size ≤ 13 by omega)]; simp)
  clear hk hp hres
  have h5 : 5 ≤ key.size := by omega
  go_enter Tryz.func106, Tryz.ntmps106
  go_wp2
  go_loop [4] (fun i => ∃ k : Nat, 5 ≤ k ∧ k ≤ key.size ∧ i = .int .i64 k ∧ (∀ j (hj : j < key.size), 5 ≤ j → j < k → 97 ≤ (key[j]'hj).toNat ∧ (key[j]'hj).toNat ≤ 122)) (fun i => key.size - (intOf i).toNat)
  case atStart => exact ⟨5, by omega, by omega, rfl, fun j _ _ _ => by omega⟩
  case round =>
    obtain ⟨k, hk5, hk, rfl, hpre⟩ := hrel
    have HP := Lib.hid hpre
    clear hpre
    by_cases hlt : k < key.size
    · obtain ⟨c, hc⟩ : ∃ c, (key[k]'hlt).toNat = c := ⟨_, rfl⟩
      have HN := Lib.hid (fun h => low_none key k hk5 hlt h)
      have HG := Lib.hid (fun h : 97 ≤ (key[k]'hlt).toNat ∧ (key[k]'hlt).toNat ≤ 122 => show (∀ j (hj : j < key.size), 5 ≤ j → j < k + 1 → 97 ≤ (key[j]'hj).toNat ∧ (key[j]'hj).toNat ≤ 122) from fun j hj h5 hjk => by
        by_cases e : j = k
        · subst e; exact h
        · exact HP.out j hj h5 (by omega))
      rw [hc] at HN HG
      by_cases h1 : 97 ≤ c
      · have h1d : decide ((c : Int) < 97) = false := decide_eq_false (by omega)
        by_cases h2 : c ≤ 122
        · have h2d : decide ((122 : Int) < c) = false := decide_eq_false (by omega)
          go_wp2
          go_round
          case rel => exact ⟨k + 1, by omega, by omega, by go_num, HG.out ⟨h1, h2⟩⟩
          case measure => simp [intOf]; omega
        · have h2d : decide ((122 : Int) < c) = true := decide_eq_true (by omega)
          have HE := Lib.hid (show res = none by rw [HIN.out, HN.out (by omega)]; simp)
          go_wp2
          go_ret2
          exact ⟨by rw [HE.out]; rfl, rfl⟩
      · have h1d : decide ((c : Int) < 97) = true := decide_eq_true (by omega)
        have HE := Lib.hid (show res = none by rw [HIN.out, HN.out (by omega)]; simp)
        go_wp2
        go_ret2
        exact ⟨by rw [HE.out]; rfl, rfl⟩
    · obtain rfl : k = key.size := by omega
      have HE := Lib.hid (show res = some (key.extract 5 key.size) by rw [HIN.out, low_all key (fun j hj h => HP.out j hj h hj)]; simp)
      go_wp2
      go_ret2
      exact ⟨by rw [HE.out]; rfl, rfl⟩

/-- The cells of a tag. -/
def encT (t : TagD) : List Value := [.string t.key, .string t.val]
theorem encT_len (t : TagD) : (encT t).length = 2 := rfl
theorem encT_one (t : TagD) : ∀ v ∈ encT t, v.oneCell' = true := by
  intro v hv
  rcases List.mem_cons.1 hv with rfl | hv
  · rfl
  · rw [List.mem_singleton.1 hv]; rfl
theorem infoTag : (Tryz.prog.info? 69).map (fun i => (i.zero, i.size, i.bytes)) = some (some (.agg #[.string ⟨#[]⟩, .string ⟨#[]⟩]), 2, 32) := by kernel_rfl
/-- The language of a tag's key, the empty one where it is no name. -/
def ownT (t : TagD) : ByteArray := (langB t.key).getD ⟨#[]⟩
/-- The name tags. -/
def nameT (l : List TagD) : List TagD := l.filter fun t => (langB t.key).isSome
theorem names_nameT (l : List TagD) : namesL l = (nameT l).map fun t => (ownT t, t) := by
  induction l with
  | nil => rfl
  | cons t l ih =>
    unfold namesL nameT at *
    rw [List.filterMap_cons, List.filter_cons]
    cases h : langB t.key with
    | none => simp [ih]
    | some s => simp [ih, ownT, h]
theorem nameT_take (l : List TagD) (k : Nat) (t : TagD) (ht : l[k]? = some t) : nameT (l.take (k + 1)) = nameT (l.take k) ++ (if (langB t.key).isSome then [t] else []) := by
  obtain ⟨hk, rfl⟩ := List.getElem?_eq_some_iff.1 ht
  unfold nameT
  rw [List.take_succ_eq_append_getElem hk, List.filter_append]
  cases h : (langB l[k].key).isSome <;> simp [h]
theorem nameT_len (l : List TagD) (k : Nat) : (nameT (l.take k)).length ≤ k := by
  have := List.length_filter_le (fun t : TagD => (langB t.key).isSome) (l.take k)
  rw [List.length_take] at this
  unfold nameT; omega
theorem name_small {key : ByteArray} (h : nameB key = true) : key.size ≤ 24 := by
  simp only [nameB, nameL, Bool.and_eq_true, decide_eq_true_eq, Array.length_toList] at h
  exact h.1.2

set_option maxRecDepth 100000 in
set_option maxHeartbeats 2000000 in
theorem rnames_any (v : Value) (l : List TagD) (w : World) (hl : l.length ≤ 1000000) (hv : TagRow w v l) (hnm : ∀ t ∈ l, nameB t.key = true) :
    Calls Tryz.prog 73 #[v] w fun e w' => ∃ v', e = .returned v' ∧ RowE encT 2 w' v' (nameT l) ∧ Below w.heap.size w w' := by
  obtain ⟨a, cap, rfl, hn, hsz, hc⟩ := hv
  obtain ⟨N, hN⟩ : ∃ N, l.length = N := ⟨_, rfl⟩
  rw [hN] at hn hc hl ⊢
  have HN := Lib.hid hN
  have HC := Lib.hid hc
  have HNM := Lib.hid (fun t ht => name_small (hnm t ht))
  obtain ⟨i0, hi, hi0, hi1, hi2⟩ := info_parts infoTag
  have LG := Lib.hid (fun (key : ByteArray) (h : key.size ≤ 1000) (w : World) => rlang_any key h w)
  clear hN hc hsz hnm
  go_enter Tryz.func73, Tryz.ntmps73
  go_wp2
  go_loopw [3, 4] (fun v3 i wr => ∃ k : Nat, k ≤ N ∧ i = .int .i64 k ∧ wr.ownsRow w.heap.size 69 2 v3 (nameT (l.take k)).length ((nameT (l.take k)).flatMap encT) ∧ Below w.heap.size w wr) (fun _ i _ => N - (intOf i).toNat)
  case atStart => exact ⟨0, by omega, rfl, ⟨rfl, Or.inl ⟨rfl, rfl⟩⟩, Below.refl _ _⟩
  case round =>
    obtain ⟨k, hk, rfl, hown, hbr⟩ := hrel
    by_cases hlt : k < N
    · obtain ⟨t, ht⟩ : ∃ t, l[k]? = some t := ⟨l[k]'(by rw [HN.out]; exact hlt), List.getElem?_eq_getElem _⟩
      obtain ⟨b, off, ha, hcell⟩ := HC.out (by omega)
      subst ha
      have c0 := cell_later hbr (hcell k t ht).1
      have c1 := cell_later hbr (hcell k t ht).2
      have hkz := HNM.out t (List.mem_of_getElem? ht)
      have HT := Lib.hid (nameT_take l k t ht)
      have hlen := nameT_len l k
      have HOWN := Lib.hid hown
      clear hcell ht hown
      go_wp2_with fail
      refine (LG.out _ (by omega) _).mono ?_
      rintro e w2 ⟨rfl, rfl⟩
      obtain ⟨lg, hlg⟩ : ∃ z, z = langB t.key := ⟨_, rfl⟩
      rw [← hlg] at HT ⊢
      clear hlg
      have O6 := HOWN.out
      generalize nameT (l.take k) = out at O6 HT hlen
      clear HOWN
      have hszr := hbr.size
      cases lg with
      | none =>
        have HOW := Lib.hid (show w2.ownsRow w.heap.size 69 2 _ (nameT (l.take (k + 1))).length ((nameT (l.take (k + 1))).flatMap encT) by rw [HT.out]; simpa using O6)
        clear O6
        go_wp2
        go_roundw
        case rel => exact ⟨k + 1, by omega, by go_num, HOW.out, hbr⟩
        case measure => simp [intOf]; omega
      | some s =>
        go_wp2_with (at_builtin; refine wpList_append_own _ rfl _ _ 57 rfl w.heap.size 69 i0 (.agg #[.string ⟨#[]⟩, .string ⟨#[]⟩]) 2 32 Tryz.underlying57 hi hi0 hi1 hi2 rfl (by decide) _ _ _ rfl (O6.alloc _) ⟨w2.heap.size, 0, none⟩ 1 1 (encT t) rfl rfl (cells_new _ _ _) (encT_one _) (by unfold maxLen; omega) (by omega) (by simp; omega) ?_; intro v' w10 hown2 hgrow _; have hb10 := appended O6 hszr hgrow)
        have HOW := Lib.hid (show w10.ownsRow w.heap.size 69 2 v' (nameT (l.take (k + 1))).length ((nameT (l.take (k + 1))).flatMap encT) by rw [HT.out]; simpa using hown2)
        have B10 := hbr.trans hb10
        clear hown2 hgrow O6
        go_roundw
        case rel => exact ⟨k + 1, by omega, by go_num, HOW.out, B10⟩
        case measure => simp [intOf]; omega
    · obtain rfl : k = N := by omega
      have htk : l.take k = l := List.take_of_length_le (by rw [HN.out]; exact Nat.le_refl _)
      rw [htk] at hown
      have HOW := Lib.hid (RowE.of_own encT_len rfl hown)
      clear hown htk
      go_wp2
      go_ret
      exact ⟨_, rfl, HOW.out, hbr⟩

set_option maxRecDepth 100000 in
set_option maxHeartbeats 1000000 in
theorem rfindN_any (v : Value) (l : List TagD) (s : ByteArray) (w : World) (hl : l.length ≤ 1000000) (hv : RowE encT 2 w v l) (hkz : ∀ t ∈ l, t.key.size ≤ 1000) :
    Calls Tryz.prog 75 #[v, .string s] w fun e w' => e = .returned (.int .i64 (posI (posS s (l.map ownT)))) ∧ w' = w := by
  obtain ⟨a, cap, rfl, hc⟩ := hv
  obtain ⟨N, hN⟩ : ∃ N, l.length = N := ⟨_, rfl⟩
  rw [hN] at hl hc ⊢
  have HN := Lib.hid hN
  have HC := Lib.hid hc
  have HKZ := Lib.hid hkz
  have HP0 : Hid (posS s (l.map ownT) = (posS s ((l.map ownT).drop 0)).map (· + 0)) := (show _ = _ by rw [List.drop_zero]; cases posS s (l.map ownT) <;> rfl)
  obtain ⟨r, hr⟩ : ∃ r, posI (posS s (l.map ownT)) = r := ⟨_, rfl⟩
  rw [hr]
  have HR := Lib.hid hr
  have LG := Lib.hid (fun (key : ByteArray) (h : key.size ≤ 1000) (w : World) => rlang_any key h w)
  clear hN hc hr hkz
  go_enter Tryz.func75, Tryz.ntmps75
  go_wp2
  go_loopw [5] (fun i wr => ∃ k : Nat, k ≤ N ∧ i = .int .i64 k ∧ Hid (posS s (l.map ownT) = (posS s ((l.map ownT).drop k)).map (· + k)) ∧ wr = w) (fun i _ => N - (intOf i).toNat)
  case atStart => exact ⟨0, by omega, rfl, HP0, rfl⟩
  case round =>
    obtain ⟨k, hk, rfl, hT, rfl⟩ := hrel
    clear HP0
    by_cases hlt : k < N
    · obtain ⟨t, ht⟩ : ∃ t, l[k]? = some t := ⟨l[k]'(by rw [HN.out]; exact hlt), List.getElem?_eq_getElem _⟩
      obtain ⟨b, off, ha, hcell⟩ := HC.out (by omega)
      subst ha
      have c0 := hcell k t ht 0 (.string t.key) rfl
      have c0' : wr.cell? ⟨b, off + k * 2, none⟩ = some (.string t.key) := c0
      have hz := HKZ.out t (List.mem_of_getElem? ht)
      have HD := Lib.hid (posS_drop s (l.map ownT) k (ownT t) (by rw [List.getElem?_map, ht]; rfl))
      clear hcell ht c0
      go_wp2_with fail
      refine (LG.out _ hz _).mono ?_
      rintro e w2 ⟨rfl, rfl⟩
      obtain ⟨lg, hlg⟩ : ∃ z, z = langB t.key := ⟨_, rfl⟩
      have HO := Lib.hid (show ownT t = lg.getD ⟨#[]⟩ by rw [hlg]; rfl)
      rw [← hlg]
      rw [HO.out] at HD
      obtain ⟨x, hx⟩ : ∃ x, lg.getD ⟨#[]⟩ = x := ⟨_, rfl⟩
      rw [hx] at HD ⊢
      obtain ⟨bb, hbb⟩ : ∃ x, lg.isSome = x := ⟨_, rfl⟩
      rw [hbb]
      clear hlg HO hx hbb
      by_cases hs : x = s
      · have e1 : (x.toList == s.toList) = true := str_eq_true hs
        have HE := Lib.hid (show r = (k : Int) by rw [← HR.out, hT.out, HD.out, if_pos hs]; simp [posI])
        clear hs
        go_wp2
        go_ret
        exact ⟨by rw [HE.out]; rfl, rfl⟩
      · have e1 : (x.toList == s.toList) = false := str_eq_false hs
        have HG : Hid (posS s (l.map ownT) = (posS s ((l.map ownT).drop (k + 1))).map (· + (k + 1))) := by
          show _ = _
          rw [hT.out, HD.out, if_neg hs, Option.map_map]
          congr 1
          funext n
          simp; omega
        clear hs
        go_wp2
        go_roundw
        case rel => exact ⟨k + 1, by omega, by go_num, HG, trivial⟩
        case measure => simp [intOf]; omega
    · obtain rfl : k = N := by omega
      have HE := Lib.hid (show r = -1 by rw [← HR.out, hT.out, List.drop_of_length_le (by rw [List.length_map, HN.out]; exact Nat.le_refl _)]; rfl)
      go_wp2
      go_ret
      exact ⟨by rw [HE.out]; rfl, rfl⟩
end Go.Proofs.YtapllmniplgajaaGreatDoor

namespace Go.Proofs.YtapllmniplgajaaGreatDoor
open Go.RowKit

theorem posS_some (s : ByteArray) : ∀ (l : List ByteArray) (k : Nat), posS s l = some k → l[k]? = some s ∧ ∀ j : Nat, j < k → l[j]? ≠ some s
  | [], k, h => by simp [posS] at h
  | x :: l, k, h => by
    rw [posS] at h
    by_cases hx : x = s
    · rw [if_pos hx] at h
      obtain rfl := Option.some.inj h
      subst hx
      exact ⟨rfl, fun j hj => by omega⟩
    · rw [if_neg hx] at h
      cases hp : posS s l with
      | none => rw [hp] at h; simp at h
      | some m =>
        rw [hp] at h
        obtain rfl : m + 1 = k := by simpa using h
        obtain ⟨h1, h2⟩ := posS_some s l m hp
        refine ⟨by simpa using h1, fun j hj => ?_⟩
        cases j with
        | zero => intro e; exact hx (by simpa using e)
        | succ j => simpa using h2 j (by omega)
theorem posS_none (s : ByteArray) : ∀ (l : List ByteArray), posS s l = none ↔ s ∉ l
  | [] => by simp [posS]
  | x :: l => by
    rw [posS]
    by_cases hx : x = s
    · rw [if_pos hx]; simp [hx]
    · rw [if_neg hx, Option.map_eq_none_iff, posS_none s l, List.mem_cons]
      constructor
      · intro h h2
        rcases h2 with h2 | h2
        · exact hx h2.symm
        · exact h h2
      · intro h h2; exact h (Or.inr h2)
theorem posS_first (s : ByteArray) : ∀ (l : List ByteArray) (k : Nat), l[k]? = some s → (∀ j : Nat, j < k → l[j]? ≠ some s) → posS s l = some k := by
  intro l k h1 h2
  cases hp : posS s l with
  | none => exact absurd (List.mem_of_getElem? h1) ((posS_none s l).1 hp)
  | some m =>
    obtain ⟨h3, h4⟩ := posS_some s l m hp
    rcases Nat.lt_trichotomy m k with h | h | h
    · exact absurd h3 (h2 m h)
    · rw [h]
    · exact absurd h1 (h4 k h)
theorem foldB_stay (langs : List ByteArray) : ∀ (L : List (ByteArray × TagD)) (st : TagD × Int), (∀ y ∈ L, st.2 ≤ atB langs y.1) → L.foldl (bestStep langs) st = st
  | [], _, _ => rfl
  | y :: L, st, h => by
    have h1 := h y (List.mem_cons_self ..)
    rw [List.foldl_cons, show bestStep langs st y = st by unfold bestStep; rw [if_neg (by omega)]]
    exact foldB_stay langs L st fun z hz => h z (List.mem_cons_of_mem _ hz)
theorem foldB_pre (langs : List ByteArray) (p : Int) : ∀ (L : List (ByteArray × TagD)) (st : TagD × Int), p < st.2 → (∀ y ∈ L, p < atB langs y.1) → p < (L.foldl (bestStep langs) st).2
  | [], _, h, _ => h
  | y :: L, st, h, hy => by
    rw [List.foldl_cons]
    refine foldB_pre langs p L _ ?_ fun z hz => hy z (List.mem_cons_of_mem _ hz)
    have := hy y (List.mem_cons_self ..)
    unfold bestStep
    split
    · exact this
    · exact h
theorem bestF_split (langs : List ByteArray) (A D : List TagD) (t : TagD) (p : Int) (hp : atB langs (ownT t) = p)
    (hb : ∀ y ∈ A, p < atB langs (ownT y)) (ha : ∀ y ∈ D, p ≤ atB langs (ownT y)) :
    (bestF langs ((A ++ t :: D).map fun t => (ownT t, t))).1 = t := by
  have hpb := posB_bd langs (ownT t)
  unfold bestF
  rw [List.map_append, List.map_cons, List.foldl_append, List.foldl_cons]
  have h1 := foldB_pre langs p (A.map fun t => (ownT t, t)) (⟨⟨#[]⟩, ⟨#[]⟩⟩, langs.length + 2) (by simp only; omega) (by
    intro y hy
    obtain ⟨z, hz, rfl⟩ := List.mem_map.1 hy
    exact hb z hz)
  generalize List.foldl (bestStep langs) (⟨⟨#[]⟩, ⟨#[]⟩⟩, (langs.length : Int) + 2) (A.map fun t => (ownT t, t)) = st at h1
  have hstep : bestStep langs st (ownT t, t) = (t, p) := by
    unfold bestStep
    simp only [hp]
    rw [if_pos h1]
  rw [hstep, foldB_stay langs]
  intro y hy
  obtain ⟨z, hz, rfl⟩ := List.mem_map.1 hy
  exact ha z hz
theorem bestF_at (langs : List ByteArray) (T : List TagD) (k : Nat) (t : TagD) (p : Int) (ht : T[k]? = some t) (hp : atB langs (ownT t) = p)
    (hb : ∀ (j : Nat) (y : TagD), j < k → T[j]? = some y → p < atB langs (ownT y)) (ha : ∀ (j : Nat) (y : TagD), k < j → T[j]? = some y → p ≤ atB langs (ownT y)) :
    (bestF langs (T.map fun t => (ownT t, t))).1 = t := by
  obtain ⟨hk, rfl⟩ := List.getElem?_eq_some_iff.1 ht
  have hsp : T = T.take k ++ T[k] :: T.drop (k + 1) := by rw [← List.drop_eq_getElem_cons hk, List.take_append_drop]
  have h := bestF_split langs (T.take k) (T.drop (k + 1)) T[k] p hp (by
    intro y hy
    obtain ⟨j, hj, rfl⟩ := List.getElem_of_mem hy
    rw [List.length_take] at hj
    rw [List.getElem_take]
    exact hb j _ (by omega) (List.getElem?_eq_getElem (by omega))) (by
    intro y hy
    obtain ⟨j, hj, rfl⟩ := List.getElem_of_mem hy
    rw [List.length_drop] at hj
    rw [List.getElem_drop]
    exact ha (k + 1 + j) _ (by omega) (List.getElem?_eq_getElem (by omega)))
  rw [← hsp] at h
  exact h
/-- What is said of all names while the languages are gone through. -/
theorem at_low (langs : List ByteArray) (T : List TagD) (i : Nat) (s : ByteArray) (hs : langs[i]? = some s) (hpre : ∀ (j : Nat) (s' : ByteArray), j < i → langs[j]? = some s' → posS s' (T.map ownT) = none) (y : TagD) (hy : y ∈ T) :
    (i : Int) ≤ atB langs (ownT y) ∧ (ownT y ≠ s → (i : Int) < atB langs (ownT y)) ∧ (ownT y = s → atB langs (ownT y) = i) := by
  have hn : ∀ j : Nat, j < i → langs[j]? ≠ some (ownT y) := fun j hj e => by
    have := (posS_none _ _).1 (hpre j _ hj e)
    exact this (List.mem_map.2 ⟨y, hy, rfl⟩)
  have hil := (List.getElem?_eq_some_iff.1 hs).1
  unfold atB
  cases hp : posS (ownT y) langs with
  | some m =>
    obtain ⟨h1, h2⟩ := posS_some _ _ _ hp
    have hm : i ≤ m := by
      rcases Nat.lt_or_ge m i with h | h
      · exact absurd h1 (hn m h)
      · exact h
    refine ⟨by simp only; omega, fun hne => ?_, fun he => ?_⟩
    · simp only
      rcases Nat.lt_or_eq_of_le hm with h | h
      · omega
      · subst h; rw [hs] at h1; exact absurd (Option.some.inj h1).symm hne
    · simp only
      rcases Nat.lt_or_eq_of_le hm with h | h
      · rw [he] at h2; exact absurd hs (h2 i h)
      · omega
  | none =>
    have hns : ownT y ≠ s := fun e => (posS_none _ _).1 hp (by rw [e]; exact List.mem_of_getElem? hs)
    refine ⟨?_, fun _ => ?_, fun e => absurd e hns⟩ <;> (simp only; split <;> omega)
theorem best_found (tags : List TagD) (langs : List ByteArray) (hok : tagsOK tags = true) (i : Nat) (s : ByteArray) (hs : langs[i]? = some s)
    (hpre : ∀ (j : Nat) (s' : ByteArray), j < i → langs[j]? = some s' → posS s' ((nameT tags).map ownT) = none) (k : Nat) (hk : posS s ((nameT tags).map ownT) = some k) (t : TagD) (ht : (nameT tags)[k]? = some t) :
    bestB tags langs = (t.val, t.key) := by
  obtain ⟨h1, h2⟩ := posS_some _ _ _ hk
  rw [List.getElem?_map, ht] at h1
  have hts : ownT t = s := by simpa using h1
  have := bestF_at langs (nameT tags) k t i ht ((at_low langs _ i s hs hpre t (List.mem_of_getElem? ht)).2.2 hts)
    (fun j y hj hy => (at_low langs _ i s hs hpre y (List.mem_of_getElem? hy)).2.1 fun e => by
      refine h2 j hj ?_
      rw [List.getElem?_map, hy, ← e]; rfl)
    (fun j y _ hy => (at_low langs _ i s hs hpre y (List.mem_of_getElem? hy)).1)
  unfold bestB
  rw [hok, names_nameT]
  simp only [if_true]
  rw [this]
theorem best_else (tags : List TagD) (langs : List ByteArray) (hok : tagsOK tags = true)
    (hpre : ∀ s' ∈ langs, posS s' ((nameT tags).map ownT) = none) (k : Nat) (hk : posS ⟨#[]⟩ ((nameT tags).map ownT) = some k ∨ (posS ⟨#[]⟩ ((nameT tags).map ownT) = none ∧ k = 0)) (t : TagD) (ht : (nameT tags)[k]? = some t) :
    bestB tags langs = (t.val, t.key) := by
  have hn : ∀ y ∈ nameT tags, posS (ownT y) langs = none := fun y hy => by
    rw [posS_none]
    intro h
    exact (posS_none _ _).1 (hpre _ h) (List.mem_map.2 ⟨y, hy, rfl⟩)
  have ha : ∀ y ∈ nameT tags, atB langs (ownT y) = if ownT y = ⟨#[]⟩ then (langs.length : Int) else langs.length + 1 := fun y hy => by
    unfold atB; rw [hn y hy]
  have key : (bestF langs ((nameT tags).map fun t => (ownT t, t))).1 = t := by
    rcases hk with hk | ⟨hk, rfl⟩
    · obtain ⟨h1, h2⟩ := posS_some _ _ _ hk
      rw [List.getElem?_map, ht] at h1
      have hts : ownT t = ⟨#[]⟩ := by simpa using h1
      refine bestF_at langs (nameT tags) k t langs.length ht (by rw [ha t (List.mem_of_getElem? ht), if_pos hts]) (fun j y hj hy => ?_) (fun j y _ hy => ?_)
      · rw [ha y (List.mem_of_getElem? hy), if_neg]
        · omega
        · intro e
          refine h2 j hj ?_
          rw [List.getElem?_map, hy, ← e]; rfl
      · rw [ha y (List.mem_of_getElem? hy)]; split <;> omega
    · have hne : ∀ y ∈ nameT tags, ownT y ≠ ⟨#[]⟩ := fun y hy e => (posS_none _ _).1 hk (by rw [← e]; exact List.mem_map.2 ⟨y, hy, rfl⟩)
      refine bestF_at langs (nameT tags) 0 t (langs.length + 1) ht (by rw [ha t (List.mem_of_getElem? ht), if_neg (hne t (List.mem_of_getElem? ht))]) (fun j y hj hy => by omega) (fun j y _ hy => ?_)
      rw [ha y (List.mem_of_getElem? hy), if_neg (hne y (List.mem_of_getElem? hy))]; omega
  unfold bestB
  rw [hok, names_nameT]
  simp only [if_true]
  rw [key]
theorem best_nil (tags : List TagD) (langs : List ByteArray) (h : nameT tags = []) : bestB tags langs = (⟨#[]⟩, ⟨#[]⟩) := by
  unfold bestB
  rw [names_nameT, h]
  cases tagsOK tags <;> rfl

set_option maxRecDepth 100000 in
set_option maxHeartbeats 4000000 in
theorem rbest_any (vt vl : Value) (tags : List TagD) (langs : List ByteArray) (w : World) (hl : langs.length ≤ 1000000) (ht : TagRow w vt tags) (hv : StrRow w vl langs) (hok : tagsOK tags = true) :
    Calls Tryz.prog 46 #[vt, vl] w fun e w' => e = .returned (.tuple #[.string (bestB tags langs).1, .string (bestB tags langs).2]) ∧ Below w.heap.size w w' := by
  have mixed : Tryz.prog.follows .mixedOrders = true := by kernel_rfl
  have hnm : ∀ t ∈ tags, nameB t.key = true := by
    have h := hok
    simp only [tagsOK, Bool.and_eq_true] at h
    exact tags_names tags _ h.2
  have hlen : tags.length ≤ 60 := by
    have h := hok
    simp only [tagsOK, Bool.and_eq_true, decide_eq_true_eq] at h
    exact h.1
  have NM := Lib.hid (rnames_any vt tags w (by omega) ht hnm)
  have VD := Lib.hid (fun w' (hb : Below w.heap.size w w') => by
    have := rtags09_any vt tags w' (ht.later hb)
    rw [hok] at this
    exact this)
  have hTl : (nameT tags).length ≤ 60 := by
    have := List.length_filter_le (fun t : TagD => (langB t.key).isSome) tags
    unfold nameT; omega
  have hkz : ∀ t ∈ nameT tags, t.key.size ≤ 1000 := fun t h => by
    have := name_small (hnm t (List.mem_filter.1 h).1); omega
  have HBF := Lib.hid (fun i s h1 h2 k h3 t h4 => best_found tags langs hok i s h1 h2 k h3 t h4)
  have HBE := Lib.hid (fun h1 k h2 t h3 => best_else tags langs hok h1 k h2 t h3)
  have HBN := Lib.hid (best_nil tags langs)
  obtain ⟨bb, hbb⟩ : ∃ z, z = bestB tags langs := ⟨_, rfl⟩
  rw [← hbb] at HBF HBE HBN ⊢
  clear hbb hok hnm hlen
  generalize nameT tags = T at *
  have HSL := Lib.hid (fun w' (hb : Below w.heap.size w w') => hv.later hb)
  obtain ⟨al, capl, rfl, -, -, hlc⟩ := hv
  obtain ⟨M, hM⟩ : ∃ M, langs.length = M := ⟨_, rfl⟩
  rw [hM] at hl hlc HSL ⊢
  have HM := Lib.hid hM
  have HLC := Lib.hid hlc
  clear hM hlc
  go_enter Tryz.func46, Tryz.ntmps46
  go_wp2_with fail
  refine NM.out.mono ?_
  rintro e w2 ⟨v2, rfl, hrow, hb2⟩
  have FN := Lib.hid (fun w' (hb : Below w2.heap.size w2 w') s => rfindN_any v2 T s w' (by omega) (hrow.later hb) hkz)
  obtain ⟨aT, capT, rfl, hcT⟩ := hrow
  obtain ⟨P, hP⟩ : ∃ P, T.length = P := ⟨_, rfl⟩
  rw [hP] at hTl hcT FN ⊢
  have HP := Lib.hid hP
  have HCT := Lib.hid hcT
  clear hP hcT NM hkz
  go_wp2_with fail
  refine (VD.out _ hb2).mono ?_
  rintro e w3 ⟨rfl, hb3⟩
  have B3 := below_step hb2 (Nat.le_refl _) hb3
  clear VD
  by_cases hP0 : P = 0
  · have HE := Lib.hid (show bb = (⟨#[]⟩, ⟨#[]⟩) from HBN.out (List.length_eq_zero_iff.1 (by rw [HP.out, hP0])))
    subst hP0
    go_wp2
    go_ret2
    exact ⟨by rw [HE.out] <;> rfl, B3⟩
  have hP1 : ((P : Int) == 0) = false := by rw [beq_eq_false_iff_ne]; omega
  go_wp2_with fail
  go_loopw [7] (fun i wr => ∃ k : Nat, k ≤ M ∧ i = .int .i64 k ∧ Hid (∀ (j : Nat) (s' : ByteArray), j < k → langs[j]? = some s' → posS s' (T.map ownT) = none) ∧ Below w2.heap.size w2 wr) (fun i _ => M - (intOf i).toNat)
  case atStart => exact ⟨0, by omega, rfl, Lib.hid (fun j _ h _ => by omega), hb3⟩
  case round =>
    obtain ⟨k, hk, rfl, hT, hbr⟩ := hrel
    have BR := below_step hb2 (Nat.le_refl _) hbr
    by_cases hlt : k < M
    · obtain ⟨s, hs⟩ : ∃ s, langs[k]? = some s := ⟨langs[k]'(by rw [HM.out]; exact hlt), List.getElem?_eq_getElem _⟩
      obtain ⟨bl, offl, ha, hcell⟩ := HLC.out (by omega)
      subst ha
      have c0 := cell_later BR (hcell k s hs)
      have HS := Lib.hid hs
      clear hcell hs
      go_wp2_with fail
      refine (FN.out _ hbr s).mono ?_
      rintro e w4 ⟨rfl, rfl⟩
      cases hp : posS s (T.map ownT) with
      | none =>
        have HG : Hid (∀ (j : Nat) (s' : ByteArray), j < k + 1 → langs[j]? = some s' → posS s' (T.map ownT) = none) := Lib.hid (fun j s' hj hs' => by
          by_cases e : j = k
          · subst e; rw [HS.out] at hs'; cases hs'; exact hp
          · exact hT.out j s' (by omega) hs')
        clear hp
        simp only [posI]
        go_wp2
        go_roundw
        case rel => exact ⟨k + 1, by omega, by go_num, HG, hbr⟩
        case measure => simp [intOf]; omega
      | some kk =>
        have h1 := (posS_some _ _ _ hp).1
        rw [List.getElem?_map] at h1
        obtain ⟨t, ht2⟩ : ∃ t, T[kk]? = some t := by
          cases h : T[kk]? with
          | none => rw [h] at h1; cases h1
          | some t => exact ⟨t, rfl⟩
        have HE := Lib.hid (HBF.out k s HS.out hT.out kk hp t ht2)
        have hkl : kk < P := by rw [← HP.out]; exact (List.getElem?_eq_some_iff.1 ht2).1
        obtain ⟨b, off, ha, hcell⟩ := HCT.out (by omega)
        subst ha
        have hcc := fun i u h => cell_later hbr (hcell kk t ht2 i u h)
        clear hp h1 ht2 hcell c0
        simp only [posI]
        have e0 := cell_belowBy (hcc 0 (.string t.key) rfl)
        have e1 := cell_belowBy (hcc 1 (.string t.val) rfl)
        have e0' : ∀ p : BelowBy _, p.at'.cell? ⟨b, off + kk * 2, none⟩ = some (.string t.key) := e0
        clear e0
        go_wp2_with fail
        refine wp_region_quiet_below (by assumption) (by kernel_rfl) ?_
        repeat (go_big_quiet_step (fail))
        refine wpQuiet_nil ?_
        intro w6 hw'
        obtain ⟨⟨w7, hb7⟩, hw''⟩ := hw'
        subst hw''
        go_wp2
        go_ret2
        exact ⟨by rw [HE.out] <;> rfl, below_step BR (Nat.le_refl _) hb7⟩
    · obtain rfl : k = M := by omega
      have HPRE := Lib.hid (show ∀ s' ∈ langs, posS s' (T.map ownT) = none from fun s' hs' => by
        obtain ⟨j, hj, rfl⟩ := List.getElem_of_mem hs'
        exact hT.out j _ (by rw [← HM.out]; exact hj) (List.getElem?_eq_getElem hj))
      go_wp2_with fail
      refine (FN.out _ hbr ⟨#[]⟩).mono ?_
      rintro e w4 ⟨rfl, rfl⟩
      obtain ⟨kk, hkk, hkv⟩ : ∃ kk : Nat, (posS ⟨#[]⟩ (T.map ownT) = some kk ∨ (posS ⟨#[]⟩ (T.map ownT) = none ∧ kk = 0)) ∧ max (posI (posS ⟨#[]⟩ (T.map ownT))) 0 = (kk : Int) := by
        cases hp : posS ⟨#[]⟩ (T.map ownT) with
        | none => exact ⟨0, Or.inr ⟨rfl, rfl⟩, rfl⟩
        | some m => exact ⟨m, Or.inl rfl, by simp only [posI]; omega⟩
      have hkl : kk < P := by
        rcases hkk with h | ⟨-, rfl⟩
        · have := posS_lt _ _ _ h
          rw [List.length_map, HP.out] at this
          exact this
        · omega
      obtain ⟨t, ht2⟩ : ∃ t, T[kk]? = some t := ⟨T[kk]'(by rw [HP.out]; exact hkl), List.getElem?_eq_getElem _⟩
      have HE := Lib.hid (HBE.out HPRE.out kk hkk t ht2)
      obtain ⟨b, off, ha, hcell⟩ := HCT.out (by omega)
      subst ha
      have hcc := fun i u h => cell_later hbr (hcell kk t ht2 i u h)
      generalize posI (posS ⟨#[]⟩ (T.map ownT)) = pi at hkv ⊢
      clear hkk ht2 hcell
      have e0 := cell_belowBy (hcc 0 (.string t.key) rfl)
      have e1 := cell_belowBy (hcc 1 (.string t.val) rfl)
      have e0' : ∀ p : BelowBy _, p.at'.cell? ⟨b, off + kk * 2, none⟩ = some (.string t.key) := e0
      clear e0
      go_wp2_with fail
      refine wp_region_quiet_below (by assumption) (by kernel_rfl) ?_
      repeat (go_big_quiet_step (fail))
      refine wpQuiet_nil ?_
      intro w6 hw'
      obtain ⟨⟨w7, hb7⟩, hw''⟩ := hw'
      subst hw''
      go_wp2
      go_ret2
      exact ⟨by rw [HE.out] <;> rfl, below_step BR (Nat.le_refl _) hb7⟩
end Go.Proofs.YtapllmniplgajaaGreatDoor
