/- Contract of object.Valid: where the chain of conditions is passed, and the whole. -/
import Derived.Test.YtbkomdinchiffaaGreatObjO
namespace Go.Proofs.YtbkomdinchiffaaGreat
open Go.RowKit


set_option maxRecDepth 100000 in
set_option maxHeartbeats 4000000 in
theorem valid_good (id : ByteArray) (kind x y : Int) (refs : List ByteArray) (tags : List TagD) (a : Option Addr) (N cap : Nat) (vt : Value) (w : World) (hz : id.size ≤ 140737488355328) (ht : TagRow w vt tags) (hv : StrRow w (.slice a N cap) refs) (hk : 1 ≤ kind ∧ kind ≤ 5) (hn : nameB id = true) (htg : tagsOK tags = true) (hN : N = refs.length) (hl : ¬ (N : Int) < leastK kind) (hm : ¬ 2000 < N) :
    Calls Tryz.prog 50 #[.agg #[.string id, .int .i64 kind, .int .i64 x, .int .i64 y, .slice a N cap, vt]] w fun e w' => e = .returned (.bool (objOK ⟨id, kind, x, y, refs, tags⟩)) ∧ Below w.heap.size w w' := by
  have HB := Lib.hid (show objOK ⟨id, kind, x, y, refs, tags⟩ = (refsFrom kind [] refs && (if kind = 1 then decide (N = 0) && onB x y else if kind = 5 then decide (N = 3) && decide (x = 0 ∧ y = 0) else decide (x = 0 ∧ y = 0))) by
    simp only [objOK]; rw [← hN, decide_eq_true hk, hn, htg, show decide (leastK kind ≤ (N : Int)) = true from decide_eq_true (by omega), show decide (N ≤ 2000) = true from decide_eq_true (by omega)]; simp)
  have WD := Lib.hid (fun w => word_any kind w)
  have hwz := wordK_in kind hk.1 hk.2
  generalize wordK kind = wd at WD hwz
  have ew1 : wd.toList.isEmpty = false := str_not_empty hwz
  have ew0 : ¬ wd.toList = [] := by
    intro e; rw [e] at ew1; simp at ew1
  have ND := Lib.hid (fun w => by have := name_any id hz w; rw [hn] at this; exact this)
  have TD := Lib.hid (fun (w' : World) (hb : Below w.heap.size w w') => by have := tags_any vt tags w' (ht.later hb); rw [htg] at this; exact this)
  have LD := Lib.hid (fun w => least_below kind hk.1 hk.2 w)
  generalize leastK kind = m at LD hl
  have hld : decide ((N : Int) < m) = false := decide_eq_false hl
  have hmz : ¬ (2000 : Int) < (N : Int) := by omega
  have hmd : decide ((2000 : Int) < (N : Int)) = false := decide_eq_false hmz
  have HV := Lib.hid hv
  have HK := Lib.hid hk
  have HLE := Lib.hid (show refs.length ≤ 4000 by omega)
  clear hk hn ht htg hN hv
  have mixed : Tryz.prog.follows .mixedOrders = true := by kernel_rfl
  go_enter Tryz.func50, Tryz.ntmps50
  go_wp2_with fail
  have B1 : Below w.heap.size w (w.alloc (.cells #[.string id, .int .i64 kind, .int .i64 x, .int .i64 y, .slice a N cap, vt] 59)) := (Below.refl _ w).alloc (Nat.le_refl _) _
  have HO := row_new w (.cells #[.string id, .int .i64 kind, .int .i64 x, .int .i64 y, .slice a N cap, vt] 59)
  generalize hw1 : w.alloc (.cells #[.string id, .int .i64 kind, .int .i64 x, .int .i64 y, .slice a N cap, vt] 59) = w1
  rw [hw1] at B1 HO
  clear hw1
  have HO1 := Lib.hid HO
  have pz := lt_of_block HO
  have p0 := cell_of_row w1 _ 0 _ _ _ HO
  have p1 := cell_of_row w1 _ 1 _ _ _ HO
  have p2 := cell_of_row w1 _ 2 _ _ _ HO
  have p3 := cell_of_row w1 _ 3 _ _ _ HO
  have p4 := cell_of_row w1 _ 4 _ _ _ HO
  have p5 := cell_of_row w1 _ 5 _ _ _ HO
  simp only [List.getElem?_toArray, List.getElem?_cons_zero, List.getElem?_cons_succ] at p0 p1 p2 p3 p4 p5
  have HO' := Lib.hid HO
  clear HO
  have q0 := cell_belowBy p0
  have q1 := cell_belowBy p1
  have q3 := cell_belowBy p4
  have q5 := cell_belowBy p5
  clear p0 p1 p2 p3 p4 p5
  refine wp_region_quiet_below (by assumption) (by kernel_rfl) ?_
  repeat (quiet_step (first | (go_at_call 80; exact calls_belowBy (WD.out _)) | (go_at_call 81; exact calls_belowBy (ND.out _)) | (go_at_call 82; exact calls_belowBy (TD.out _ (below_step B1 (Nat.le_refl _) (BelowBy.below _)))) | (go_at_call 83; exact calls_belowBy (LD.out _))))
  refine wpQuiet_nil ?_
  intro w2 hw'
  obtain ⟨⟨w3, hb2⟩, hw''⟩ := hw'
  subst hw''
  have hmm := @run_makeMap Tryz.prog
  have HO2 := row_later hb2 HO1.out
  have B2 := below_step B1 (Nat.le_refl _) hb2
  clear HO1 HO' WD ND TD LD hl hld hmz hmd hm
  have HO2h := Lib.hid HO2
  have cz := lt_of_block HO2
  have c0 := cell_of_row w2 _ 0 _ _ _ HO2
  have c1 := cell_of_row w2 _ 1 _ _ _ HO2
  have c2 := cell_of_row w2 _ 2 _ _ _ HO2
  have c3 := cell_of_row w2 _ 3 _ _ _ HO2
  have c4 := cell_of_row w2 _ 4 _ _ _ HO2
  have c5 := cell_of_row w2 _ 5 _ _ _ HO2
  simp only [List.getElem?_toArray, List.getElem?_cons_zero, List.getElem?_cons_succ] at c0 c1 c2 c3 c4 c5
  have HO2' := Lib.hid HO2
  clear HO2
  have B5 : Below w2.heap.size w2 (((w2.alloc (.map #[] 0)).alloc (.cells #[.map (some w2.heap.size)] 56)).alloc (.cells #[.string ⟨#[]⟩] 9)) := (((Below.refl _ w2).alloc (Nat.le_refl _) _).alloc (by simp) _).alloc (by simp; omega) _
  have d4 := cell_later B5 c4
  have HS := row_past (o' := .cells #[.string ⟨#[]⟩] 9) (row_new (w2.alloc (.map #[] 0)) (.cells #[.map (some w2.heap.size)] 56))
  have HL := row_new ((w2.alloc (.map #[] 0)).alloc (.cells #[.map (some w2.heap.size)] 56)) (.cells #[.string ⟨#[]⟩] 9)
  have HMs : SetIs (((w2.alloc (.map #[] 0)).alloc (.cells #[.map (some w2.heap.size)] 56)).alloc (.cells #[.string ⟨#[]⟩] 9)) w2.heap.size [] :=
    (SetIs.made w2).later ((((Below.refl _ (w2.alloc (.map #[] 0))).alloc (Nat.le_refl _) _).alloc (by simp) _).block _ (by simp))
  have HOb := row_later B5 HO2h.out
  clear c0 c1 c2 c3 c4 c5
  go_wp2_with fail
  generalize hw5 : ((w2.alloc (.map #[] 0)).alloc (.cells #[.map (some w2.heap.size)] 56)).alloc (.cells #[.string ⟨#[]⟩] 9) = w5
  rw [hw5] at B5 HS HL HMs HOb
  have hs5 : w5.heap.size = w2.heap.size + 3 := by rw [← hw5]; simp
  clear hw5 hmm d4
  have HS' : w5.heap[w2.heap.size + 1]? = some (.cells #[.map (some w2.heap.size)] 56) := by simpa using HS
  have HL' : w5.heap[w2.heap.size + 1 + 1]? = some (.cells #[.string ⟨#[]⟩] 9) := by simpa using HL
  have V : VSt w5 w.heap.size (w2.heap.size + 1 + 1) (w2.heap.size + 1) w2.heap.size kind [] := ⟨by have := cell_of_row w5 _ 1 _ _ _ HOb; simpa using this, HL', HS', HMs⟩
  refine (has_any (.slice a N cap) refs kind w.heap.size (w2.heap.size + 1 + 1) (w2.heap.size + 1) w2.heap.size w2 w5 HLE.out (HV.out.later B2) B5 V (by omega) (Nat.le_refl _) (by omega) (by omega) (by omega) (by omega) (by omega)).mono ?_
  rintro e w6 ⟨rfl, hb6, hx6⟩
  have B6 := B2.trans (hb6.mono (Nat.le_of_lt cz))
  have HO6 : w6.heap[w.heap.size]? = some (.cells #[.string id, .int .i64 kind, .int .i64 x, .int .i64 y, .slice a N cap, vt] 59) := (hx6 _ (by omega) (by omega) (by omega)).trans HOb
  clear V HS HS' HL HL' HMs HOb hb6 hx6 B5 B2 B1 hb2 pz hs5 cz HO2' HO2h HLE HV
  have oz := lt_of_block HO6
  have o0 := cell_of_row w6 _ 0 _ _ _ HO6
  have o1 := cell_of_row w6 _ 1 _ _ _ HO6
  have o2 := cell_of_row w6 _ 2 _ _ _ HO6
  have o3 := cell_of_row w6 _ 3 _ _ _ HO6
  have o4 := cell_of_row w6 _ 4 _ _ _ HO6
  have o5 := cell_of_row w6 _ 5 _ _ _ HO6
  simp only [List.getElem?_toArray, List.getElem?_cons_zero, List.getElem?_cons_succ] at o0 o1 o2 o3 o4 o5
  have HO6' := Lib.hid HO6
  clear HO6
  cases hrf : refsFrom kind [] refs
  case false =>
    have HE := Lib.hid (show objOK ⟨id, kind, x, y, refs, tags⟩ = false by rw [HB.out, hrf]; rfl)
    clear hrf
    go_wp2
    go_ret
    exact ⟨ret_bool HE.out.symm, B6⟩
  case true =>
    have HE := Lib.hid (show objOK ⟨id, kind, x, y, refs, tags⟩ = (if kind = 1 then decide (N = 0) && onB x y else if kind = 5 then decide (N = 3) && decide (x = 0 ∧ y = 0) else decide (x = 0 ∧ y = 0)) by rw [HB.out, hrf]; rfl)
    clear hrf HB
    by_cases k1 : kind = 1
    · have HE1 := Lib.hid (show objOK ⟨id, kind, x, y, refs, tags⟩ = (decide (N = 0) && onB x y) by rw [HE.out, if_pos k1])
      have f1 : (kind == 1) = true := by rw [k1]; rfl
      clear HE k1 HK
      by_cases n0 : N = 0
      · have HE2 := Lib.hid (show objOK ⟨id, kind, x, y, refs, tags⟩ = onB x y by rw [HE1.out, n0]; rfl)
        have n0b : ((N : Int) == 0) = true := by rw [n0]; rfl
        clear HE1 n0
        go_wp2_with fail
        refine (on_any x y _).mono ?_
        rintro e w7 ⟨rfl, hb7⟩
        have B7 := below_step B6 (Nat.le_refl _) hb7
        clear o0 o1 o2 o3 o4 o5 oz HO6' hb7
        rw [← HE2.out]
        go_wp2
        go_ret
        exact ⟨rfl, B7⟩
      · have HE2 := Lib.hid (show objOK ⟨id, kind, x, y, refs, tags⟩ = false by rw [HE1.out, decide_eq_false n0]; rfl)
        have n0b : ((N : Int) == 0) = false := by rw [beq_eq_false_iff_ne]; omega
        clear HE1
        go_wp2
        go_ret
        exact ⟨ret_bool HE2.out.symm, B6⟩
    · have f1 : (kind == 1) = false := by rw [beq_eq_false_iff_ne]; exact k1
      by_cases k5 : kind = 5
      · have HE1 := Lib.hid (show objOK ⟨id, kind, x, y, refs, tags⟩ = (decide (N = 3) && decide (x = 0 ∧ y = 0)) by rw [HE.out, if_neg k1, if_pos k5])
        have f5 : (kind == 5) = true := by rw [k5]; rfl
        clear HE k1 k5 HK
        by_cases n0 : N = 3
        · have HE2 := Lib.hid (show objOK ⟨id, kind, x, y, refs, tags⟩ = decide (x = 0 ∧ y = 0) by rw [HE1.out, n0]; rfl)
          have n0b : ((N : Int) == 3) = true := by rw [n0]; rfl
          clear HE1 n0
          by_cases kz : x = 0 ∧ y = 0
          · have HE3 := Lib.hid (show objOK ⟨id, kind, x, y, refs, tags⟩ = true by rw [HE2.out, decide_eq_true kz])
            obtain ⟨rfl, rfl⟩ := kz
            clear HE2
            go_wp2
            go_ret
            exact ⟨ret_bool HE3.out.symm, B6⟩
          · have HE3 := Lib.hid (show objOK ⟨id, kind, x, y, refs, tags⟩ = false by rw [HE2.out, decide_eq_false kz])
            have hz : x ≠ 0 ∨ y ≠ 0 := by omega
            clear HE2 kz
            rcases hz with hz | hz
            · have z0 : (x == 0) = false := by rw [beq_eq_false_iff_ne]; exact hz
              go_wp2
              go_ret
              exact ⟨ret_bool HE3.out.symm, B6⟩
            · have z0 : (y == 0) = false := by rw [beq_eq_false_iff_ne]; exact hz
              by_cases hx : x = 0
              · subst hx
                go_wp2
                go_ret
                exact ⟨ret_bool HE3.out.symm, B6⟩
              · have z1 : (x == 0) = false := by rw [beq_eq_false_iff_ne]; exact hx
                go_wp2
                go_ret
                exact ⟨ret_bool HE3.out.symm, B6⟩
        · have HE2 := Lib.hid (show objOK ⟨id, kind, x, y, refs, tags⟩ = false by rw [HE1.out, decide_eq_false n0]; rfl)
          have n0b : ((N : Int) == 3) = false := by rw [beq_eq_false_iff_ne]; omega
          clear HE1
          go_wp2
          go_ret
          exact ⟨ret_bool HE2.out.symm, B6⟩
      · have HE2 := Lib.hid (show objOK ⟨id, kind, x, y, refs, tags⟩ = decide (x = 0 ∧ y = 0) by rw [HE.out, if_neg k1, if_neg k5])
        have f5 : (kind == 5) = false := by rw [beq_eq_false_iff_ne]; exact k5
        clear HE k1 k5 HK
        by_cases kz : x = 0 ∧ y = 0
        · have HE3 := Lib.hid (show objOK ⟨id, kind, x, y, refs, tags⟩ = true by rw [HE2.out, decide_eq_true kz])
          obtain ⟨rfl, rfl⟩ := kz
          clear HE2
          go_wp2
          go_ret
          exact ⟨ret_bool HE3.out.symm, B6⟩
        · have HE3 := Lib.hid (show objOK ⟨id, kind, x, y, refs, tags⟩ = false by rw [HE2.out, decide_eq_false kz])
          have hz : x ≠ 0 ∨ y ≠ 0 := by omega
          clear HE2 kz
          rcases hz with hz | hz
          · have z0 : (x == 0) = false := by rw [beq_eq_false_iff_ne]; exact hz
            go_wp2
            go_ret
            exact ⟨ret_bool HE3.out.symm, B6⟩
          · have z0 : (y == 0) = false := by rw [beq_eq_false_iff_ne]; exact hz
            by_cases hx : x = 0
            · subst hx
              go_wp2
              go_ret
              exact ⟨ret_bool HE3.out.symm, B6⟩
            · have z1 : (x == 0) = false := by rw [beq_eq_false_iff_ne]; exact hx
              go_wp2
              go_ret
              exact ⟨ret_bool HE3.out.symm, B6⟩

/-- Contract of object.Valid. -/
theorem validO_any (id : ByteArray) (kind x y : Int) (vr vt : Value) (refs : List ByteArray) (tags : List TagD) (w : World) (hz : id.size ≤ 140737488355328) (hv : StrRow w vr refs) (ht : TagRow w vt tags) :
    Calls Tryz.prog 50 #[.agg #[.string id, .int .i64 kind, .int .i64 x, .int .i64 y, vr, vt]] w fun e w' => e = .returned (.bool (objOK ⟨id, kind, x, y, refs, tags⟩)) ∧ Below w.heap.size w w' := by
  have hv0 := hv
  obtain ⟨a, cap, rfl, _⟩ := hv
  by_cases hk : 1 ≤ kind ∧ kind ≤ 5
  · cases hn : nameB id
    · exact valid_name id kind x y refs tags a _ cap vt w hz hk hn
    · cases htg : tagsOK tags
      · exact valid_tags id kind x y refs tags a _ cap vt w hz ht hk hn htg
      · by_cases hl : (refs.length : Int) < leastK kind
        · exact valid_least id kind x y refs tags a _ cap vt w hz ht hk hn htg rfl hl
        · by_cases hm : 2000 < refs.length
          · exact valid_many id kind x y refs tags a _ cap vt w hz ht hk hn htg rfl hl hm
          · exact valid_good id kind x y refs tags a _ cap vt w hz ht hv0 hk hn htg rfl hl hm
  · exact valid_kind id kind x y refs tags a _ cap vt w hk
end Go.Proofs.YtbkomdinchiffaaGreat
