/- BorderOrder: the walk. -/
import Derived.Test.YtbkomdinchiffaaGreatBorRFG
import Derived.Test.YtbkomdinchiffaaGreatBorHd
import Derived.Test.YtbkomdinchiffaaGreatBorFx
import Derived.Test.YtbkomdinchiffaaGreatBorLN
import Derived.Laws.CopyOwn
namespace Go.Proofs.YtbkomdinchiffaaGreat
open Go.RowKit Go.Sort Go.Maps Go.ChangeMaps

/-- What the law has noted so far. -/
def OSt (l : List ObjD) (w6 : World) (Mb : Nat) (pre : List KeyD) (W : World) : Prop := NotesAt W Mb (noteA pre) ∧ GoodN l (noteA pre) ∧ Below w6.heap.size w6 W
theorem OSt.on {l : List ObjD} {w6 W W' : World} {Mb : Nat} {pre : List KeyD} (h : OSt l w6 Mb pre W) (hb : Below W.heap.size W W') : OSt l w6 Mb pre W' := ⟨h.1.on hb, h.2.1, h.2.2.trans (hb.mono h.2.2.size)⟩
theorem OSt.stable (l : List ObjD) (w6 : World) (Mb : Nat) (pre : List KeyD) : StableW (OSt l w6 Mb pre) := fun _ _ h h2 => h.on h2
theorem notes_row_ne {W : World} {Mb g : Nat} {N : List KeyD} {cs : Array Value} {e : TypeId} (h : NotesAt W Mb N) (hr : W.heap[g]? = some (.cells cs e)) : some g ≠ some Mb := fun c => by
  injection c with c
  subst c
  obtain ⟨es, clock, h1, _⟩ := h
  rw [hr] at h1; cases h1
theorem OSt.note {l : List ObjD} (hl : l.length ≤ 1000) {w6 W : World} {Mb : Nat} {pre : List KeyD} (h : OSt l w6 Mb pre W) (hM : w6.heap.size ≤ Mb) {x y : ByteArray} (hx : x ∈ l.map (·.id)) (hy : y ∈ l.map (·.id)) (hx1 : x.size ≤ 140737488355328) (hy1 : y.size ≤ 140737488355328) :
    ∃ W', (Instr.mapUpdate 47 (.map (some Mb)) (.agg #[.string (minB x y), .string (maxB x y)]) (.bool true)).run Tryz.prog W = .ok () W' ∧ OSt l w6 Mb (pre ++ [key2 x y]) W' ∧ W.grownBy W' (some Mb) := by
  have hlen := h.2.1.len
  have h2 := Nat.mul_le_mul hl hl
  obtain ⟨w9, hr9, hf9, hg9⟩ := MapAt.put h.1 keyK keyV_inj Tryz.underlying47 (by rw [List.length_map]; unfold maxLen; omega) (key2 x y) (keyV_ok (k := key2 x y) (by unfold key2 minB; simp only; split; exact hy1; exact hx1) (by unfold key2 maxB; simp only; split; exact hy1; exact hx1)) true
  refine ⟨w9, hr9, ⟨?_, ?_, h.2.2.grown hg9 h.2.2.size (fun j hj => by injection hj with hj; omega)⟩, hg9⟩
  · rw [noteA_snoc]; unfold NotesAt; rw [← aput_note]; exact hf9
  · rw [noteA_snoc]; exact h.2.1.note hx hy
theorem eight_cell {W : World} {g : Nat} {t : TypeId} {a b c d e f i j : Value} (h : W.heap[g]? = some (.cells #[a, b, c, d, e, f, i, j] t)) {x : Nat} (hx : x < 4) :
    W.cell? ⟨g, x * 2, none⟩ = some (if x = 0 then a else if x = 1 then c else if x = 2 then e else i) ∧ W.cell? ⟨g, x * 2 + 1, none⟩ = some (if x = 0 then b else if x = 1 then d else if x = 2 then f else j) := by
  have h1 := cell_of_row W _ (x * 2) _ _ _ h
  have h2 := cell_of_row W _ (x * 2 + 1) _ _ _ h
  rw [h1, h2]
  rcases (show x = 0 ∨ x = 1 ∨ x = 2 ∨ x = 3 by omega) with rfl | rfl | rfl | rfl <;> exact ⟨rfl, rfl⟩
/-- Have two borders a common node, as far as looked at? -/
def comX (p q : KeyD) (n : Nat) : Bool := (List.range n).any fun x => decide (endC p x = endD q x)
theorem comX_succ (p q : KeyD) (n : Nat) : comX p q (n + 1) = (comX p q n || decide (endC p n = endD q n)) := by
  unfold comX
  rw [List.range_succ, List.any_append]; simp
theorem comX_all (p q : KeyD) : comX p q 4 = comK p q := by
  have e : comX p q 4 = (decide (p.1 = q.1) || (decide (p.1 = q.2) || (decide (p.2 = q.1) || (decide (p.2 = q.2) || false)))) := rfl
  rw [e]
  unfold comK
  rw [Bool.eq_iff_iff]
  simp only [Bool.or_eq_true, decide_eq_true_eq, Bool.false_eq_true, or_false]
  constructor
  · rintro (h | h | h | h)
    · exact Or.inl (Or.inl h)
    · exact Or.inl (Or.inr h)
    · exact Or.inr (Or.inl h)
    · exact Or.inr (Or.inr h)
  · rintro ((h | h) | (h | h))
    · exact Or.inl h
    · exact Or.inr (Or.inl h)
    · exact Or.inr (Or.inr (Or.inl h))
    · exact Or.inr (Or.inr (Or.inr h))
theorem sixteen_cell {W : World} {g : Nat} {t : TypeId} {a0 a1 a2 a3 a4 a5 a6 a7 a8 a9 b0 b1 b2 b3 b4 b5 : Value} (h : W.heap[g]? = some (.cells #[a0, a1, a2, a3, a4, a5, a6, a7, a8, a9, b0, b1, b2, b3, b4, b5] t)) {x : Nat} (hx : x < 4) :
    W.cell? ⟨g, x * 4, none⟩ = some (if x = 0 then a0 else if x = 1 then a4 else if x = 2 then a8 else b2) ∧ W.cell? ⟨g, x * 4 + 1, none⟩ = some (if x = 0 then a1 else if x = 1 then a5 else if x = 2 then a9 else b3) ∧
    W.cell? ⟨g, x * 4 + 2, none⟩ = some (if x = 0 then a2 else if x = 1 then a6 else if x = 2 then b0 else b4) ∧ W.cell? ⟨g, x * 4 + 3, none⟩ = some (if x = 0 then a3 else if x = 1 then a7 else if x = 2 then b1 else b5) := by
  have h1 := cell_of_row W _ (x * 4) _ _ _ h
  have h2 := cell_of_row W _ (x * 4 + 1) _ _ _ h
  have h3 := cell_of_row W _ (x * 4 + 2) _ _ _ h
  have h4 := cell_of_row W _ (x * 4 + 3) _ _ _ h
  rw [h1, h2, h3, h4]
  rcases (show x = 0 ∨ x = 1 ∨ x = 2 ∨ x = 3 by omega) with rfl | rfl | rfl | rfl <;> exact ⟨rfl, rfl, rfl, rfl⟩
theorem key2_parts {k : KeyD} (h : OrdP k) : minB k.1 k.2 = k.1 ∧ maxB k.1 k.2 = k.2 := by
  have := key2_of h
  unfold key2 at this
  exact ⟨congrArg (·.1) this, congrArg (·.2) this⟩
theorem keys_ordP {l : List ObjD} {k : KeyD} (h : k ∈ keysP l) : OrdP k := by
  obtain ⟨a, b, e⟩ := keys_ord h
  rw [e]; exact key2_ordP a b
/-- Rows that stay while notes are made. -/
def KRow (gs : List (Nat × Obj)) (W : World) : Prop := ∀ x ∈ gs, W.heap[x.1]? = some x.2 ∧ ∃ cs e, x.2 = .cells cs e
theorem KRow.on {gs : List (Nat × Obj)} {W W' : World} (h : KRow gs W) (hb : Below W.heap.size W W') : KRow gs W' := fun x hx => ⟨row_later hb (h x hx).1, (h x hx).2⟩
theorem KRow.stable (gs : List (Nat × Obj)) : StableW (KRow gs) := fun _ _ h h2 => h.on h2
theorem KRow.note {gs : List (Nat × Obj)} {W W' : World} {Mb : Nat} {N : List KeyD} (h : KRow gs W) (hn : NotesAt W Mb N) (hg : W.grownBy W' (some Mb)) : KRow gs W' := fun x hx => by
  obtain ⟨h1, cs, e, h2⟩ := h x hx
  refine ⟨row_grown hg h1 (fun c => ?_), cs, e, h2⟩
  rw [h2] at h1
  exact notes_row_ne hn h1 c
theorem KRow.at {gs : List (Nat × Obj)} {W : World} (h : KRow gs W) {g : Nat} {o : Obj} (hm : (g, o) ∈ gs) : W.heap[g]? = some o := (h _ hm).1
theorem str_row_len {w : World} {a : Option Addr} {n c : Nat} {ids : List ByteArray} (h : StrRow w (.slice a n c) ids) : n = ids.length ∧ n ≤ 140737488355328 := by
  obtain ⟨a', c', e, hl, _⟩ := h
  injection e with e1 e2 e3
  subst e2
  exact ⟨rfl, hl⟩
theorem str_cell {w : World} {a : Option Addr} {n c i : Nat} {ids : List ByteArray} {s : ByteArray} (h : StrRow w (.slice a n c) ids) (hi : ids[i]? = some s) : ∃ b off, a = some ⟨b, off, none⟩ ∧ w.cell? ⟨b, off + i, none⟩ = some (.string s) := by
  obtain ⟨a', c', e, _, _, h4⟩ := h
  injection e with e1 _ _
  subst e1
  obtain ⟨b, off, ha, hc⟩ := h4 (by have := (List.getElem?_eq_some_iff.1 hi).1; omega)
  exact ⟨b, off, ha, hc i s hi⟩
/-- A border is stored into a new variable. -/
theorem st_border (wa W : World) (g : Nat) (old cs : Array Value) (t : TypeId) (hB : Below wa.heap.size wa W) (h : W.heap[g]? = some (.cells old t)) (l : wa.heap.size ≤ g) :
    Below wa.heap.size wa (W.setRow g cs) ∧ (W.setRow g cs).heap[g]? = some (.cells cs t) ∧ ∀ (g' : Nat) (o : Obj), some g' ≠ some g → W.heap[g']? = some o → (W.setRow g cs).heap[g']? = some o :=
  ⟨below_setRow hB l cs, setRow_heap W g old cs t _ h, fun g' _ hne ho => (setRow_other W g g' cs (fun e => hne (by rw [e]))).trans ho⟩
theorem nodes_cell {W : World} {gn : Nat} (p q : KeyD) {x : Nat} (hx : x < 4) (h : W.heap[gn]? = some (.cells #[.string p.1, .string q.1, .string p.1, .string q.2, .string p.2, .string q.1, .string p.2, .string q.2] 50)) : W.cell? ⟨gn, x * 2, none⟩ = some (.string (endC p x)) ∧ W.cell? ⟨gn, x * 2 + 1, none⟩ = some (.string (endD q x)) := by
  obtain ⟨h1, h2⟩ := eight_cell h hx
  rw [h1, h2]
  rcases (show x = 0 ∨ x = 1 ∨ x = 2 ∨ x = 3 by omega) with rfl | rfl | rfl | rfl <;> exact ⟨rfl, rfl⟩
theorem points_cell {W : World} {gp : Nat} (l : List ObjD) (p q : KeyD) {x : Nat} (hx : x < 4) (h : W.heap[gp]? = some (.cells #[.int .i64 (segB l p).1.1, .int .i64 (segB l p).1.2, .int .i64 (segB l q).1.1, .int .i64 (segB l q).1.2, .int .i64 (segB l p).1.1, .int .i64 (segB l p).1.2, .int .i64 (segB l q).2.1, .int .i64 (segB l q).2.2, .int .i64 (segB l p).2.1, .int .i64 (segB l p).2.2, .int .i64 (segB l q).1.1, .int .i64 (segB l q).1.2, .int .i64 (segB l p).2.1, .int .i64 (segB l p).2.2, .int .i64 (segB l q).2.1, .int .i64 (segB l q).2.2] 52)) :
    W.cell? ⟨gp, x * 4, none⟩ = some (.int .i64 (ptO l (endC p x)).1) ∧ W.cell? ⟨gp, x * 4 + 1, none⟩ = some (.int .i64 (ptO l (endC p x)).2) ∧ W.cell? ⟨gp, x * 4 + 2, none⟩ = some (.int .i64 (ptO l (endD q x)).1) ∧ W.cell? ⟨gp, x * 4 + 3, none⟩ = some (.int .i64 (ptO l (endD q x)).2) := by
  obtain ⟨h1, h2, h3, h4⟩ := sixteen_cell h hx
  rw [h1, h2, h3, h4]
  rcases (show x = 0 ∨ x = 1 ∨ x = 2 ∨ x = 3 by omega) with rfl | rfl | rfl | rfl <;> exact ⟨rfl, rfl, rfl, rfl⟩
theorem wp_put_map {P : Program} {o : Oper} {a : Act} {w w' : World} {K : Act → World → Prop} {Q : Exit → Act → World → Prop} (t : TypeId) (m x v : Operand) (hop : o.op = .mapUpdate t m x v) {vm vx vv : Value} (hm : a.eval m = vm) (hx : a.eval x = vx) (hv : a.eval v = vv)
    (hrun : (Instr.mapUpdate t vm vx vv).run P w = .ok () w') (h : K (a.put o.dst undef) w') : o.wp P a w K Q := by
  unfold Oper.wp
  simp [execOp, hop, hm, hx, hv, hrun, Result.andThen]
  exact h
theorem ids_len (k : KeyD) : (idsK k).length = 1 ∨ (idsK k).length = 2 := by
  unfold idsK; split
  · exact Or.inl rfl
  · exact Or.inr rfl
set_option maxRecDepth 100000 in
set_option maxHeartbeats 40000000 in
theorem order_law (v : Value) (l : List ObjD) (w : World) (hv : ObjsIs w v l) :
    Calls Tryz.prog 5 #[.agg #[v]] w fun e w' => e = .returned (.bool true) ∧ Below w.heap.size w w' := by
  have mixed : Tryz.prog.follows .mixedOrders = true := by kernel_rfl
  have hmm := @run_makeMap Tryz.prog
  have HV := Lib.hid (fun W hb => hv.later (w' := W) hb)
  have HZO := Lib.hid (objs_size hv)
  obtain ⟨a, cap, rfl, _⟩ := hv
  go_enter Tryz.func5, Tryz.ntmps5
  go_wp2_with fail
  have BX : Below w.heap.size w (w.alloc (.cells #[.slice a l.length cap] 24)) := (by repeat' (first | exact Below.refl _ _ | refine Below.drew ?_ | refine Below.drewN' ?_ | refine Below.setCell ?_ (by first | omega | (simp; done) | exact Below.size (by assumption) | (simp; omega)) _ | refine Below.alloc ?_ (by first | omega | (simp; done) | exact Below.size (by assumption) | (simp; omega)) _ | refine Below.trans ?_ (Below.mono (by assumption) ?_) | (first | omega | (simp; done) | exact Below.size (by assumption) | (simp; omega))))
  have HX := row_new w (.cells #[.slice a l.length cap] 24)
  generalize hw1 : w.alloc (.cells #[.slice a l.length cap] 24) = w1
  rw [hw1] at BX HX
  have HX1 := Lib.hid HX
  have hz1 : w.heap.size < w1.heap.size := lt_of_block HX
  clear hw1 HX
  refine (head_any _).mono ?_
  rintro e w2 ⟨rfl, hb⟩
  have B2 := below_step BX (by omega) hb
  replace HX1 := Lib.hid (row_later hb HX1.out)
  have hz2 := hb.size
  clear hb BX
  have pz := lt_of_block HX1.out
  have p0 := cell_of_row w2 _ 0 _ _ _ HX1.out
  simp only [List.getElem?_toArray, List.getElem?_cons_zero] at p0
  go_wp2_with fail
  clear p0 pz
  refine (few13_any _ l 24 (by omega) _ (HV.out _ B2)).mono ?_
  rintro e w3 ⟨⟨r, rfl, hr⟩, hb⟩
  have B3 := below_step B2 (by omega) hb
  replace HX1 := Lib.hid (row_later hb HX1.out)
  have hz3 := hb.size
  clear hb B2
  cases r with
  | false =>
    go_wp2
    go_ret
    exact ⟨rfl, B3⟩
  | true =>
    obtain ⟨hl24, hr12⟩ := hr rfl
    have HR12 := Lib.hid hr12
    have hl1000 : l.length ≤ 1000 := by omega
    clear hr12 hr
    have pz := lt_of_block HX1.out
    have p0 := cell_of_row w3 _ 0 _ _ _ HX1.out
    simp only [List.getElem?_toArray, List.getElem?_cons_zero] at p0
    go_wp2_with fail
    clear p0 pz
    refine (validM_any _ l _ (HV.out _ B3)).mono ?_
    rintro e w4 ⟨rfl, hb⟩
    have B4 := below_step B3 (by omega) hb
    replace HX1 := Lib.hid (row_later hb HX1.out)
    have hz4 := hb.size
    clear hb B3
    cases hok : mapOK l with
    | false =>
      go_wp2
      go_ret
      exact ⟨rfl, B4⟩
    | true =>
      have HOK := Lib.hid hok
      have hkl : (keysP l).length ≤ 20000 := by
        have := keys_lenR 12 (l := l) HR12.out
        have : 12 * l.length ≤ 12 * 24 := Nat.mul_le_mul_left _ hl24
        omega
      have HKL := Lib.hid hkl
      have HCL := Lib.hid (check_len (l := l) hl1000)
      clear hok
      have pz := lt_of_block HX1.out
      have p0 := cell_of_row w4 _ 0 _ _ _ HX1.out
      simp only [List.getElem?_toArray, List.getElem?_cons_zero] at p0
      go_wp2_with fail
      clear p0 pz
      refine (check_any _ l _ (HV.out _ B4) HOK.out hl1000 hkl).mono ?_
      rintro e w5 ⟨vg, rfl, hvg, hb⟩
      have B5 := below_step B4 (by omega) hb
      replace HX1 := Lib.hid (row_later hb HX1.out)
      have hz5 := hb.size
      have HVG := Lib.hid hvg
      obtain ⟨ag, cg, rfl, hcg⟩ := vios_get hvg
      obtain ⟨M, hM⟩ : ∃ z, z = (checkP l).length := ⟨_, rfl⟩
      rw [← hM] at hcg HVG HCL ⊢
      have HM := Lib.hid hM
      have HCG := Lib.hid hcg
      clear hb B4 hvg hcg hM hkl
      go_wp2_with fail
      go_loopw [5] (fun v5 wr => ∃ i : Nat, v5 = .int .i64 i ∧ i ≤ M ∧ Below w5.heap.size w5 wr) (fun v5 _ => M - (intOf v5).toNat)
      case atStart => exact ⟨0, rfl, by omega, Below.refl _ _⟩
      case round =>
        obtain ⟨i, rfl, hi, hbr⟩ := hrel
        have hcl := HCL.out
        by_cases hlt : i < M
        · as_aux_lemma =>
            obtain ⟨k, hk⟩ : ∃ k, (checkP l)[i]? = some k := ⟨(checkP l)[i]'(by rw [← HM.out]; exact hlt), List.getElem?_eq_getElem _⟩
            obtain ⟨b, off, hab, hcell⟩ := HCG.out (by omega)
            subst hab
            obtain ⟨vi, c0, c1, c2, hst⟩ := hcell i k hk
            obtain ⟨ia, ic, hvi, _⟩ := id hst
            subst hvi
            have q0 := cell_belowBy (cell_later hbr c0)
            have q1 := cell_belowBy (cell_later hbr c1)
            have q2 := cell_belowBy (cell_later hbr c2)
            have bz := lt_of_cell (cell_later hbr c0)
            have hi1 : (0 : Int) ≤ (i : Int) := by omega
            have hi2 : (i : Int) < (M : Int) := by omega
            cases i with
            | zero =>
              simp only [Nat.zero_mul, Nat.add_zero] at q0 q1 q2
              have hi3 : (0 : Int) < (M : Int) := by omega
              clear hi1 hi2
              have BF := Lib.hid (fun (W : World) (hb : Below w5.heap.size w5 W) => rbefore_any (.slice ia (idsK k).length ic) (.slice ia (idsK k).length ic) (idsK k) (idsK k) W (hst.later hb) (hst.later hb))
              obtain ⟨n, hn⟩ : ∃ z, z = (idsK k).length := ⟨_, rfl⟩
              have hn12 : 1 ≤ n ∧ n ≤ 2 := by rcases ids_len k with h1 | h1 <;> omega
              rw [← hn] at q2 BF
              clear c0 c1 c2 hst hcell hk hn
              have hl1 : ¬ ((n : Int) < 1) := by omega
              have hl2 : ¬ ((2 : Int) < (n : Int)) := by omega
              have dl1 : decide ((n : Int) < 1) = false := decide_eq_false hl1
              have dl2 : decide ((2 : Int) < (n : Int)) = false := decide_eq_false hl2
              clear hn12
              go_wp2_with fail
              refine wp_region_quiet_below mixed (by kernel_rfl) ?_
              repeat (go_big_quiet_step ((go_at_call 21; exact calls_belowBy (BF.out _ (hbr.trans ((BelowBy.below _).mono hbr.size))))))
              refine wpQuiet_nil ?_
              intro w8 hw'
              obtain ⟨⟨wq, hbq⟩, hw''⟩ := hw'
              subst hw''
              clear q0 q1 q2
              go_wp2
              go_roundw
              case rel => exact ⟨1, by go_num, by omega, hbr.trans (hbq.mono hbr.size)⟩
              case measure => simp [intOf]; omega
            | succ z =>
              obtain ⟨k', hk'⟩ : ∃ k, (checkP l)[z]? = some k := ⟨(checkP l)[z]'(by rw [← HM.out]; omega), List.getElem?_eq_getElem _⟩
              obtain ⟨vi', d0, d1, d2, hst'⟩ := hcell z k' hk'
              obtain ⟨ja, jc, hvi', _⟩ := id hst'
              subst hvi'
              have r2 := cell_belowBy (cell_later hbr d2)
              have wk : IntKind.i64.wrap (((z + 1 : Nat) : Int) - 1) = (z : Int) := (IntWalk.i64_in _ (by omega)).trans (by omega)
              have hz1 : (0 : Int) ≤ (z : Int) := by omega
              have hz2 : (z : Int) < (M : Int) := by omega
              have hg0 : (0 : Int) < ((z + 1 : Nat) : Int) := by omega
              have hg1 : decide ((0 : Int) < ((z + 1 : Nat) : Int)) = true := decide_eq_true hg0
              have hlt2 : ltK k' k = true := by
                have hs := checkP_sort l
                obtain ⟨q1', e1⟩ := List.getElem?_eq_some_iff.1 hk'
                obtain ⟨q2', e2⟩ := List.getElem?_eq_some_iff.1 hk
                have := List.pairwise_iff_getElem.1 hs z (z + 1) q1' q2' (by omega)
                rwa [e1, e2] at this
              have BF := Lib.hid (fun (W : World) (hb : Below w5.heap.size w5 W) => (show Calls Tryz.prog 21 #[.slice ja (idsK k').length jc, .slice ia (idsK k).length ic] W fun e w' => e = .returned (.bool true) ∧ Below W.heap.size W w' by
                have h := rbefore_any (.slice ja (idsK k').length jc) (.slice ia (idsK k).length ic) (idsK k') (idsK k) W (hst'.later hb) (hst.later hb)
                rw [idsK_before (check_ord (List.mem_of_getElem? hk')) (check_ord (List.mem_of_getElem? hk)), hlt2] at h
                exact h))
              generalize (idsK k').length = n' at r2 BF
              obtain ⟨n, hn⟩ : ∃ z, z = (idsK k).length := ⟨_, rfl⟩
              have hn12 : 1 ≤ n ∧ n ≤ 2 := by rcases ids_len k with h1 | h1 <;> omega
              rw [← hn] at q2 BF
              clear c0 c1 c2 hst hcell hk hn d0 d1 d2 hst' hk' hlt2
              have hl1 : ¬ ((n : Int) < 1) := by omega
              have hl2 : ¬ ((2 : Int) < (n : Int)) := by omega
              have dl1 : decide ((n : Int) < 1) = false := decide_eq_false hl1
              have dl2 : decide ((2 : Int) < (n : Int)) = false := decide_eq_false hl2
              clear hn12
              go_wp2_with fail
              refine wp_region_quiet_below mixed (by kernel_rfl) ?_
              repeat (go_big_quiet_step ((go_at_call 21; exact calls_belowBy (BF.out _ (hbr.trans ((BelowBy.below _).mono hbr.size))))))
              refine wpQuiet_nil ?_
              intro w8 hw'
              obtain ⟨⟨wq, hbq⟩, hw''⟩ := hw'
              subst hw''
              clear q0 q1 q2
              go_wp2
              go_roundw
              case rel => exact ⟨z + 1 + 1, by go_num, by omega, hbr.trans (hbq.mono hbr.size)⟩
              case measure => simp [intOf]; omega
        · obtain rfl : i = M := by omega
          have B6 := below_step B5 (by omega) hbr
          have HXr := Lib.hid (row_later hbr HX1.out)
          have HVr := Lib.hid (HVG.out.later hbr)
          have hzr := hbr.size
          clear hbr HCG B5
          obtain ⟨wo, rfl⟩ : ∃ z : World, z = wr := ⟨_, rfl⟩
          have pz := lt_of_block HXr.out
          have p0 := cell_of_row wo _ 0 _ _ _ HXr.out
          simp only [List.getElem?_toArray, List.getElem?_cons_zero] at p0
          go_wp2_with fail
          clear p0 pz
          refine (rborders_any _ l _ (HV.out _ B6) HOK.out hl1000 HR12.out).mono ?_
          rintro e w6 ⟨vB, rfl, hbs, hb⟩
          have B7 := below_step B6 (by omega) hb
          have HV6 := Lib.hid (HVr.out.later hb)
          have hz6 := hb.size
          obtain ⟨ao, co, rfl, hc⟩ := brs_get hbs
          obtain ⟨N, hN⟩ : ∃ N, (keysP l).length = N := ⟨_, rfl⟩
          have HKL2 := HKL.out
          rw [hN] at hc HKL2 ⊢
          have HN := Lib.hid hN
          have HC := Lib.hid hc
          clear hb B6 hbs hc hN HVr HXr HX1
          have BY := (Below.refl w6.heap.size w6).alloc (Nat.le_refl _) (.map #[] 0)
          have N0 := MapAt.made Tryz.prog 50 keyV evB w6
          go_wp2_with fail
          generalize hw7 : w6.alloc (.map #[] 0) = w7
          rw [hw7] at BY N0
          obtain ⟨Mb, hMb⟩ : ∃ z, z = w6.heap.size := ⟨_, rfl⟩
          rw [← hMb] at N0 ⊢
          have hM : w6.heap.size ≤ Mb := by omega
          have hz7 : w6.heap.size ≤ w7.heap.size := BY.size
          have ST0 := Lib.hid (show OSt l w6 Mb (ordU l 0) w7 from ⟨N0, GoodN.nil l, BY⟩)
          clear hw7 hMb N0 BY hmm
          go_loopw [8] (fun v8 wr => ∃ i : Nat, v8 = .int .i64 i ∧ i ≤ N ∧ OSt l w6 Mb (ordU l i) wr) (fun v8 _ => N - (intOf v8).toNat)
          case atStart => exact ⟨0, rfl, by omega, ST0.out⟩
          case round =>
            obtain ⟨m, rfl, hmn, hst⟩ := hrel
            have HST := Lib.hid hst
            have B8 := below_step B7 (by omega) hst.2.2
            have hz8 := hst.2.2.size
            clear hst
            by_cases hlm : m < N
            · obtain ⟨p, hp⟩ : ∃ p, (keysP l)[m]? = some p := ⟨(keysP l)[m]'(by rw [HN.out]; exact hlm), List.getElem?_eq_getElem _⟩
              obtain ⟨b, off, hab, hcell⟩ := HC.out (by omega)
              subst hab
              have HCE := Lib.hid hcell
              obtain ⟨pa, pc, c0, c1, c2, c3, c4, c5, c6, hsp⟩ := hcell m p hp
              have HSP := Lib.hid hsp
              obtain ⟨pn, hpn⟩ : ∃ z, z = (ownF l l p).length := ⟨_, rfl⟩
              rw [← hpn] at c6 HSP
              have HPN := Lib.hid hpn
              have hpb := (str_row_len HSP.out).2
              have HAT := Lib.hid (atK_get hp)
              have HPI := Lib.hid (show p.1 ∈ l.map (·.id) ∧ p.2 ∈ l.map (·.id) from ⟨node_id (keys_node (List.mem_of_getElem? hp)).1, node_id (keys_node (List.mem_of_getElem? hp)).2⟩)
              have hm1 : (0 : Int) ≤ (m : Int) := by omega
              have hm2 : (m : Int) < (N : Int) := by omega
              have HC0 := Lib.hid c0
              have HC1 := Lib.hid c1
              have HC2 := Lib.hid c2
              have HC3 := Lib.hid c3
              have HC4 := Lib.hid c4
              have HC5 := Lib.hid c5
              have HC6 := Lib.hid c6
              have HLM := Lib.hid hlm
              clear hcell hp c0 c1 c2 c3 c4 c5 c6 hsp hpn
              go_wp2_with fail
              obtain ⟨wo, rfl⟩ : ∃ z : World, z = wr := ⟨_, rfl⟩
              go_loopw [9] (fun v9 wr => ∃ k : Nat, v9 = .int .i64 k ∧ k ≤ N ∧ OSt l w6 Mb (ordU l m ++ rowU l m k) wr) (fun v9 _ => N - (intOf v9).toNat)
              case atStart => exact ⟨0, rfl, by omega, by simpa [rowU] using HST.out⟩
              case round =>
                obtain ⟨k, rfl, hkn, hst⟩ := hrel
                have HST2 := Lib.hid hst
                clear hst
                by_cases hlk : k < N
                · obtain ⟨q, hq⟩ : ∃ q, (keysP l)[k]? = some q := ⟨(keysP l)[k]'(by rw [HN.out]; exact hlk), List.getElem?_eq_getElem _⟩
                  obtain ⟨qa, qc, d0, d1, d2, d3, d4, d5, d6, hsq⟩ := HCE.out k q hq
                  have HSQ := Lib.hid hsq
                  obtain ⟨qn, hqn⟩ : ∃ z, z = (ownF l l q).length := ⟨_, rfl⟩
                  rw [← hqn] at d6 HSQ
                  have HQN := Lib.hid hqn
                  have hqb := (str_row_len HSQ.out).2
                  have HAQ := Lib.hid (atK_get hq)
                  have HQI := Lib.hid (show q.1 ∈ l.map (·.id) ∧ q.2 ∈ l.map (·.id) from ⟨node_id (keys_node (List.mem_of_getElem? hq)).1, node_id (keys_node (List.mem_of_getElem? hq)).2⟩)
                  have hk1 : (0 : Int) ≤ (k : Int) := by omega
                  have hk2 : (k : Int) < (N : Int) := by omega
                  have HLK := Lib.hid hlk
                  have HRU := Lib.hid (show rowU l m (k + 1) = rowU l m k ++ (nodeUs l p q 4 ++ ownU l m k p q) by
                    unfold rowU; rw [range_step]; unfold pairU; rw [HAT.out, HAQ.out])
                  have HD0 := Lib.hid d0
                  have HD1 := Lib.hid d1
                  have HD2 := Lib.hid d2
                  have HD3 := Lib.hid d3
                  have HD4 := Lib.hid d4
                  have HD5 := Lib.hid d5
                  have HD6 := Lib.hid d6
                  clear hq d0 d1 d2 d3 d4 d5 d6 hsq hqn
                  have HPR := Lib.hid (show ordU l m ++ rowU l m (k + 1) = ordU l m ++ rowU l m k ++ (nodeUs l p q 4 ++ ownU l m k p q) by rw [HRU.out, List.append_assoc])
                  generalize ordU l m ++ rowU l m k = pre at HST2 HPR
                  go_upto_region 18 with fail
                  obtain ⟨wa, rfl⟩ : ∃ z : World, z = wr := ⟨_, rfl⟩
                  have BA := Lib.hid HST2.out.2.2
                  have hza := BA.out.size
                  obtain ⟨p1, hp1⟩ : ∃ z, z = p.1 := ⟨_, rfl⟩
                  rw [← hp1] at HC0
                  obtain ⟨p2, hp2⟩ : ∃ z, z = p.2 := ⟨_, rfl⟩
                  rw [← hp2] at HC1
                  obtain ⟨s1, hs1⟩ : ∃ z, z = (segB l p).1.1 := ⟨_, rfl⟩
                  rw [← hs1] at HC2
                  obtain ⟨s2, hs2⟩ : ∃ z, z = (segB l p).1.2 := ⟨_, rfl⟩
                  rw [← hs2] at HC3
                  obtain ⟨s3, hs3⟩ : ∃ z, z = (segB l p).2.1 := ⟨_, rfl⟩
                  rw [← hs3] at HC4
                  obtain ⟨s4, hs4⟩ : ∃ z, z = (segB l p).2.2 := ⟨_, rfl⟩
                  rw [← hs4] at HC5
                  obtain ⟨q1, hq1⟩ : ∃ z, z = q.1 := ⟨_, rfl⟩
                  rw [← hq1] at HD0
                  obtain ⟨q2, hq2⟩ : ∃ z, z = q.2 := ⟨_, rfl⟩
                  rw [← hq2] at HD1
                  obtain ⟨t1, ht1⟩ : ∃ z, z = (segB l q).1.1 := ⟨_, rfl⟩
                  rw [← ht1] at HD2
                  obtain ⟨t2, ht2⟩ : ∃ z, z = (segB l q).1.2 := ⟨_, rfl⟩
                  rw [← ht2] at HD3
                  obtain ⟨t3, ht3⟩ : ∃ z, z = (segB l q).2.1 := ⟨_, rfl⟩
                  rw [← ht3] at HD4
                  obtain ⟨t4, ht4⟩ : ∃ z, z = (segB l q).2.2 := ⟨_, rfl⟩
                  rw [← ht4] at HD5
                  have Gp1 := Lib.hid hp1
                  have Gp2 := Lib.hid hp2
                  have Gs1 := Lib.hid hs1
                  have Gs2 := Lib.hid hs2
                  have Gs3 := Lib.hid hs3
                  have Gs4 := Lib.hid hs4
                  have Gq1 := Lib.hid hq1
                  have Gq2 := Lib.hid hq2
                  have Gt1 := Lib.hid ht1
                  have Gt2 := Lib.hid ht2
                  have Gt3 := Lib.hid ht3
                  have Gt4 := Lib.hid ht4
                  clear hp1 hp2 hs1 hs2 hs3 hs4 hq1 hq2 ht1 ht2 ht3 ht4
                  go_cut [10, 11] from 105 to 113 (fun v10 v11 wx => ∃ g1 g2 : Nat, v10 = .pointer (some ⟨g1, 0, none⟩) ∧ v11 = .pointer (some ⟨g2, 0, none⟩) ∧ wx.heap[g1]? = some (.cells #[.string p1, .string p2, .int .i64 s1, .int .i64 s2, .int .i64 s3, .int .i64 s4, .slice pa pn pc] 49) ∧ wx.heap[g2]? = some (.cells #[.string q1, .string q2, .int .i64 t1, .int .i64 t2, .int .i64 t3, .int .i64 t4, .slice qa qn qc] 49) ∧ Below wa.heap.size wa wx)
                  case first =>
                    as_aux_lemma =>
                      clear HST HST2 HCE HPI HQI HAT HAQ HRU HPR HV6 HV HZO HC HCL HR12 HOK HKL HM ST0 HSP HSQ HPN HQN
                      go_wp2_with fail
                      refine wp_region_two 8 (fun W => Below wa.heap.size wa W) (fun W => Below wa.heap.size wa W) mixed (by kernel_rfl) (by kernel_rfl) (by kernel_rfl) (by kernel_rfl) (StableW.below _ _ (Nat.le_refl _)) (fun W hW => hW) (Below.refl _ _).drew _ _ _ rfl ?_
                      apply Exists.intro
                      refine ⟨fun W hW => ?_, rfl, rfl, ?_, ?_⟩
                      · have hW6 := BA.out.trans (hW.mono hza)
                        have q0 := cell_belowBy (cell_later hW6 HC0.out)
                        have q1 := cell_belowBy (cell_later hW6 HC1.out)
                        have q2 := cell_belowBy (cell_later hW6 HC2.out)
                        have q3 := cell_belowBy (cell_later hW6 HC3.out)
                        have q4 := cell_belowBy (cell_later hW6 HC4.out)
                        have q5 := cell_belowBy (cell_later hW6 HC5.out)
                        have q6 := cell_belowBy (cell_later hW6 HC6.out)
                        have r0 := cell_belowBy (cell_later hW6 HD0.out)
                        have r1 := cell_belowBy (cell_later hW6 HD1.out)
                        have r2 := cell_belowBy (cell_later hW6 HD2.out)
                        have r3 := cell_belowBy (cell_later hW6 HD3.out)
                        have r4 := cell_belowBy (cell_later hW6 HD4.out)
                        have r5 := cell_belowBy (cell_later hW6 HD5.out)
                        have r6 := cell_belowBy (cell_later hW6 HD6.out)
                        have bz := lt_of_cell (cell_later hW6 HC0.out)
                        simp only [List.take_succ_cons, List.take_zero]
                        repeat (go_big_quiet_step (fail))
                        exact wpQuiet_nil rfl
                      · refine LoudB.mk' (ι := Nat) (fun g => .pointer (some ⟨g, 0, none⟩)) (fun g W => Below wa.heap.size wa W ∧ W.heap[g]? = some (.cells #[.string ⟨#[]⟩, .string ⟨#[]⟩, .int .i64 0, .int .i64 0, .int .i64 0, .int .i64 0, .slice none 0 0] 49) ∧ wa.heap.size ≤ g) (fun _ => (StableW.below _ _ (Nat.le_refl _)).and ((StableW.row _ _).and (StableW.const _))) (fun _ _ h => h.1) (fun W hS K hK => ?_) (fun g1 => ?_)
                        · go_simp
                          exact hK W.heap.size _ ⟨hS.alloc hS.size _, row_new _ _, hS.size⟩
                        simp only [Act.put, List.setIfInBounds_toArray, List.set_cons_succ, List.set_cons_zero]
                        refine tailM_step (ι := Nat) (fun g => .pointer (some ⟨g, 0, none⟩)) (fun g2 W => Below wa.heap.size wa W ∧ W.heap[g1]? = some (.cells #[.string ⟨#[]⟩, .string ⟨#[]⟩, .int .i64 0, .int .i64 0, .int .i64 0, .int .i64 0, .slice none 0 0] 49) ∧ W.heap[g2]? = some (.cells #[.string ⟨#[]⟩, .string ⟨#[]⟩, .int .i64 0, .int .i64 0, .int .i64 0, .int .i64 0, .slice none 0 0] 49) ∧ wa.heap.size ≤ g1 ∧ wa.heap.size ≤ g2 ∧ g1 ≠ g2) rfl (fun _ => (StableW.below _ _ (Nat.le_refl _)).and ((StableW.row _ _).and ((StableW.row _ _).and (StableW.const _)))) (fun _ _ h => h.1) (fun W hS K hK => ?_) (fun g2 => ?_)
                        · obtain ⟨hS1, hS2, hS3⟩ := hS
                          have lt1 := lt_of_block hS2
                          go_simp
                          exact hK W.heap.size _ ⟨hS1.alloc hS1.size _, row_past hS2, row_new _ _, hS3, hS1.size, by omega⟩
                        simp only [Act.put, List.setIfInBounds_toArray, List.set_cons_succ, List.set_cons_zero]
                        refine tailM_step (ι := Unit) (fun _ => undef) (fun _ W => Below wa.heap.size wa W ∧ W.heap[g1]? = some (.cells #[.string p1, .string p2, .int .i64 s1, .int .i64 s2, .int .i64 s3, .int .i64 s4, .slice pa pn pc] 49) ∧ W.heap[g2]? = some (.cells #[.string ⟨#[]⟩, .string ⟨#[]⟩, .int .i64 0, .int .i64 0, .int .i64 0, .int .i64 0, .slice none 0 0] 49) ∧ wa.heap.size ≤ g1 ∧ wa.heap.size ≤ g2 ∧ g1 ≠ g2) rfl (fun _ => (StableW.below _ _ (Nat.le_refl _)).and ((StableW.row _ _).and ((StableW.row _ _).and (StableW.const _)))) (fun _ _ h => h.1) (fun W hS K hK => ?_) (fun _ => ?_)
                        · obtain ⟨hS1, hS2, hS3, hS4, hS5, hS6⟩ := hS
                          have H := Lib.hid (st_border wa W g1 _ #[.string p1, .string p2, .int .i64 s1, .int .i64 s2, .int .i64 s3, .int .i64 s4, .slice pa pn pc] _ hS1 hS2 hS4)
                          have H2 := Lib.hid (H.out.2.2 g2 _ (fun e => hS6 (Option.some.inj e).symm) hS3)
                          refine wp_store_row 49 _ _ rfl g1 #[.string p1, .string p2, .int .i64 s1, .int .i64 s2, .int .i64 s3, .int .i64 s4, .slice pa pn pc] rfl rfl _ _ hS2 (by kernel_rfl) rfl (by simp [Value.oneCell']) ?_
                          exact hK () _ ⟨H.out.1, H.out.2.1, H2.out, hS4, hS5, hS6⟩
                        simp only [Act.put]
                        refine tailM_step (ι := Unit) (fun _ => undef) (fun _ W => Below wa.heap.size wa W ∧ W.heap[g1]? = some (.cells #[.string p1, .string p2, .int .i64 s1, .int .i64 s2, .int .i64 s3, .int .i64 s4, .slice pa pn pc] 49) ∧ W.heap[g2]? = some (.cells #[.string q1, .string q2, .int .i64 t1, .int .i64 t2, .int .i64 t3, .int .i64 t4, .slice qa qn qc] 49) ∧ wa.heap.size ≤ g1 ∧ wa.heap.size ≤ g2 ∧ g1 ≠ g2) rfl (fun _ => (StableW.below _ _ (Nat.le_refl _)).and ((StableW.row _ _).and ((StableW.row _ _).and (StableW.const _)))) (fun _ _ h => h.1) (fun W hS K hK => ?_) (fun _ => ?_)
                        · obtain ⟨hS1, hS2, hS3, hS4, hS5, hS6⟩ := hS
                          have H := Lib.hid (st_border wa W g2 _ #[.string q1, .string q2, .int .i64 t1, .int .i64 t2, .int .i64 t3, .int .i64 t4, .slice qa qn qc] _ hS1 hS3 hS5)
                          have H2 := Lib.hid (H.out.2.2 g1 _ (fun e => hS6 (Option.some.inj e)) hS2)
                          refine wp_store_row 49 _ _ rfl g2 #[.string q1, .string q2, .int .i64 t1, .int .i64 t2, .int .i64 t3, .int .i64 t4, .slice qa qn qc] rfl rfl _ _ hS3 (by kernel_rfl) rfl (by simp [Value.oneCell']) ?_
                          exact hK () _ ⟨H.out.1, H2.out, H.out.2.1, hS4, hS5, hS6⟩
                        simp only [Act.put]
                        refine tailM_nil fun W hW => ?_
                        obtain ⟨hW1, hW2, hW3, hW4, hW5, hW6⟩ := hW
                        go_wp2
                        go_meet
                        case rel => exact ⟨g1, g2, rfl, rfl, hW2, hW3, hW1⟩
                      · refine LoudB.mk' (ι := Nat) (fun g => .pointer (some ⟨g, 0, none⟩)) (fun g W => Below wa.heap.size wa W ∧ W.heap[g]? = some (.cells #[.string ⟨#[]⟩, .string ⟨#[]⟩, .int .i64 0, .int .i64 0, .int .i64 0, .int .i64 0, .slice none 0 0] 49) ∧ wa.heap.size ≤ g) (fun _ => (StableW.below _ _ (Nat.le_refl _)).and ((StableW.row _ _).and (StableW.const _))) (fun _ _ h => h.1) (fun W hS K hK => ?_) (fun g2 => ?_)
                        · go_simp
                          exact hK W.heap.size _ ⟨hS.alloc hS.size _, row_new _ _, hS.size⟩
                        simp only [Act.put, List.setIfInBounds_toArray, List.set_cons_succ, List.set_cons_zero]
                        refine ⟨rfl, LoudB.mk' (ι := Nat) (fun g => .pointer (some ⟨g, 0, none⟩)) (fun g1 W => Below wa.heap.size wa W ∧ W.heap[g1]? = some (.cells #[.string ⟨#[]⟩, .string ⟨#[]⟩, .int .i64 0, .int .i64 0, .int .i64 0, .int .i64 0, .slice none 0 0] 49) ∧ W.heap[g2]? = some (.cells #[.string ⟨#[]⟩, .string ⟨#[]⟩, .int .i64 0, .int .i64 0, .int .i64 0, .int .i64 0, .slice none 0 0] 49) ∧ wa.heap.size ≤ g1 ∧ wa.heap.size ≤ g2 ∧ g1 ≠ g2) (fun _ => (StableW.below _ _ (Nat.le_refl _)).and ((StableW.row _ _).and ((StableW.row _ _).and (StableW.const _)))) (fun _ _ h => h.1) (fun W hS K hK => ?_) (fun g1 => ?_)⟩
                        · obtain ⟨hS1, hS2, hS3⟩ := hS
                          have lt1 := lt_of_block hS2
                          go_simp
                          exact hK W.heap.size _ ⟨hS1.alloc hS1.size _, row_new _ _, row_past hS2, hS1.size, hS3, by omega⟩
                        simp only [Act.put, List.setIfInBounds_toArray, List.set_cons_succ, List.set_cons_zero]
                        refine tailM_step (ι := Unit) (fun _ => undef) (fun _ W => Below wa.heap.size wa W ∧ W.heap[g1]? = some (.cells #[.string p1, .string p2, .int .i64 s1, .int .i64 s2, .int .i64 s3, .int .i64 s4, .slice pa pn pc] 49) ∧ W.heap[g2]? = some (.cells #[.string ⟨#[]⟩, .string ⟨#[]⟩, .int .i64 0, .int .i64 0, .int .i64 0, .int .i64 0, .slice none 0 0] 49) ∧ wa.heap.size ≤ g1 ∧ wa.heap.size ≤ g2 ∧ g1 ≠ g2) rfl (fun _ => (StableW.below _ _ (Nat.le_refl _)).and ((StableW.row _ _).and ((StableW.row _ _).and (StableW.const _)))) (fun _ _ h => h.1) (fun W hS K hK => ?_) (fun _ => ?_)
                        · obtain ⟨hS1, hS2, hS3, hS4, hS5, hS6⟩ := hS
                          have H := Lib.hid (st_border wa W g1 _ #[.string p1, .string p2, .int .i64 s1, .int .i64 s2, .int .i64 s3, .int .i64 s4, .slice pa pn pc] _ hS1 hS2 hS4)
                          have H2 := Lib.hid (H.out.2.2 g2 _ (fun e => hS6 (Option.some.inj e).symm) hS3)
                          refine wp_store_row 49 _ _ rfl g1 #[.string p1, .string p2, .int .i64 s1, .int .i64 s2, .int .i64 s3, .int .i64 s4, .slice pa pn pc] rfl rfl _ _ hS2 (by kernel_rfl) rfl (by simp [Value.oneCell']) ?_
                          exact hK () _ ⟨H.out.1, H.out.2.1, H2.out, hS4, hS5, hS6⟩
                        simp only [Act.put]
                        refine tailM_step (ι := Unit) (fun _ => undef) (fun _ W => Below wa.heap.size wa W ∧ W.heap[g1]? = some (.cells #[.string p1, .string p2, .int .i64 s1, .int .i64 s2, .int .i64 s3, .int .i64 s4, .slice pa pn pc] 49) ∧ W.heap[g2]? = some (.cells #[.string q1, .string q2, .int .i64 t1, .int .i64 t2, .int .i64 t3, .int .i64 t4, .slice qa qn qc] 49) ∧ wa.heap.size ≤ g1 ∧ wa.heap.size ≤ g2 ∧ g1 ≠ g2) rfl (fun _ => (StableW.below _ _ (Nat.le_refl _)).and ((StableW.row _ _).and ((StableW.row _ _).and (StableW.const _)))) (fun _ _ h => h.1) (fun W hS K hK => ?_) (fun _ => ?_)
                        · obtain ⟨hS1, hS2, hS3, hS4, hS5, hS6⟩ := hS
                          have H := Lib.hid (st_border wa W g2 _ #[.string q1, .string q2, .int .i64 t1, .int .i64 t2, .int .i64 t3, .int .i64 t4, .slice qa qn qc] _ hS1 hS3 hS5)
                          have H2 := Lib.hid (H.out.2.2 g1 _ (fun e => hS6 (Option.some.inj e)) hS2)
                          refine wp_store_row 49 _ _ rfl g2 #[.string q1, .string q2, .int .i64 t1, .int .i64 t2, .int .i64 t3, .int .i64 t4, .slice qa qn qc] rfl rfl _ _ hS3 (by kernel_rfl) rfl (by simp [Value.oneCell']) ?_
                          exact hK () _ ⟨H.out.1, H2.out, H.out.2.1, hS4, hS5, hS6⟩
                        simp only [Act.put]
                        refine tailM_nil fun W hW => ?_
                        obtain ⟨hW1, hW2, hW3, hW4, hW5, hW6⟩ := hW
                        go_wp2
                        go_meet
                        case rel => exact ⟨g1, g2, rfl, rfl, hW2, hW3, hW1⟩
                  case rest =>
                    obtain ⟨g1, g2, rfl, rfl, hg1, hg2, hbc⟩ := hcut
                    obtain rfl := Gp1.out
                    obtain rfl := Gp2.out
                    obtain rfl := Gs1.out
                    obtain rfl := Gs2.out
                    obtain rfl := Gs3.out
                    obtain rfl := Gs4.out
                    obtain rfl := Gq1.out
                    obtain rfl := Gq2.out
                    obtain rfl := Gt1.out
                    obtain rfl := Gt2.out
                    obtain rfl := Gt3.out
                    obtain rfl := Gt4.out
                    obtain ⟨wb, rfl⟩ : ∃ z : World, z = wc := ⟨_, rfl⟩
                    have HST3 := Lib.hid (HST2.out.on hbc)
                    have HG1 := Lib.hid hg1
                    have HG2 := Lib.hid hg2
                    clear hg1 hg2 hbc BA hza
                    have xz := lt_of_block HG1.out
                    have x0 := cell_of_row wb _ 0 _ _ _ HG1.out
                    have x1 := cell_of_row wb _ 1 _ _ _ HG1.out
                    have x2 := cell_of_row wb _ 2 _ _ _ HG1.out
                    have x3 := cell_of_row wb _ 3 _ _ _ HG1.out
                    have x4 := cell_of_row wb _ 4 _ _ _ HG1.out
                    have x5 := cell_of_row wb _ 5 _ _ _ HG1.out
                    have x6 := cell_of_row wb _ 6 _ _ _ HG1.out
                    simp only [List.getElem?_toArray, List.getElem?_cons_zero, List.getElem?_cons_succ] at x0 x1 x2 x3 x4 x5 x6
                    have yz := lt_of_block HG2.out
                    have y0 := cell_of_row wb _ 0 _ _ _ HG2.out
                    have y1 := cell_of_row wb _ 1 _ _ _ HG2.out
                    have y2 := cell_of_row wb _ 2 _ _ _ HG2.out
                    have y3 := cell_of_row wb _ 3 _ _ _ HG2.out
                    have y4 := cell_of_row wb _ 4 _ _ _ HG2.out
                    have y5 := cell_of_row wb _ 5 _ _ _ HG2.out
                    have y6 := cell_of_row wb _ 6 _ _ _ HG2.out
                    simp only [List.getElem?_toArray, List.getElem?_cons_zero, List.getElem?_cons_succ] at y0 y1 y2 y3 y4 y5 y6
                    go_wp2_with fail
                    clear x0 x1 x2 x3 x4 x5 x6 xz
                    clear y0 y1 y2 y3 y4 y5 y6 yz
                    have BN := ((Below.refl wb.heap.size wb).alloc (Nat.le_refl _) (.cells #[.string p.1, .string q.1, .string p.1, .string q.2, .string p.2, .string q.1, .string p.2, .string q.2] 50)).alloc (by simp) (.cells #[.int .i64 (segB l p).1.1, .int .i64 (segB l p).1.2, .int .i64 (segB l q).1.1, .int .i64 (segB l q).1.2, .int .i64 (segB l p).1.1, .int .i64 (segB l p).1.2, .int .i64 (segB l q).2.1, .int .i64 (segB l q).2.2, .int .i64 (segB l p).2.1, .int .i64 (segB l p).2.2, .int .i64 (segB l q).1.1, .int .i64 (segB l q).1.2, .int .i64 (segB l p).2.1, .int .i64 (segB l p).2.2, .int .i64 (segB l q).2.1, .int .i64 (segB l q).2.2] 52)
                    have HN1 := row_past (o' := .cells #[.int .i64 (segB l p).1.1, .int .i64 (segB l p).1.2, .int .i64 (segB l q).1.1, .int .i64 (segB l q).1.2, .int .i64 (segB l p).1.1, .int .i64 (segB l p).1.2, .int .i64 (segB l q).2.1, .int .i64 (segB l q).2.2, .int .i64 (segB l p).2.1, .int .i64 (segB l p).2.2, .int .i64 (segB l q).1.1, .int .i64 (segB l q).1.2, .int .i64 (segB l p).2.1, .int .i64 (segB l p).2.2, .int .i64 (segB l q).2.1, .int .i64 (segB l q).2.2] 52) (row_new wb (.cells #[.string p.1, .string q.1, .string p.1, .string q.2, .string p.2, .string q.1, .string p.2, .string q.2] 50))
                    have HP1 := row_new1 wb (.cells #[.string p.1, .string q.1, .string p.1, .string q.2, .string p.2, .string q.1, .string p.2, .string q.2] 50) (.cells #[.int .i64 (segB l p).1.1, .int .i64 (segB l p).1.2, .int .i64 (segB l q).1.1, .int .i64 (segB l q).1.2, .int .i64 (segB l p).1.1, .int .i64 (segB l p).1.2, .int .i64 (segB l q).2.1, .int .i64 (segB l q).2.2, .int .i64 (segB l p).2.1, .int .i64 (segB l p).2.2, .int .i64 (segB l q).1.1, .int .i64 (segB l q).1.2, .int .i64 (segB l p).2.1, .int .i64 (segB l p).2.2, .int .i64 (segB l q).2.1, .int .i64 (segB l q).2.2] 52)
                    generalize hwn : (wb.alloc (.cells #[.string p.1, .string q.1, .string p.1, .string q.2, .string p.2, .string q.1, .string p.2, .string q.2] 50)).alloc (.cells #[.int .i64 (segB l p).1.1, .int .i64 (segB l p).1.2, .int .i64 (segB l q).1.1, .int .i64 (segB l q).1.2, .int .i64 (segB l p).1.1, .int .i64 (segB l p).1.2, .int .i64 (segB l q).2.1, .int .i64 (segB l q).2.2, .int .i64 (segB l p).2.1, .int .i64 (segB l p).2.2, .int .i64 (segB l q).1.1, .int .i64 (segB l q).1.2, .int .i64 (segB l p).2.1, .int .i64 (segB l p).2.2, .int .i64 (segB l q).2.1, .int .i64 (segB l q).2.2] 52) = wn
                    rw [hwn] at BN HN1 HP1
                    obtain ⟨gn, hgn⟩ : ∃ z, z = wb.heap.size := ⟨_, rfl⟩
                    obtain ⟨gp, hgp⟩ : ∃ z, z = gn + 1 := ⟨_, rfl⟩
                    rw [← hgn] at HN1 HP1 ⊢
                    rw [← hgp] at HP1 ⊢
                    have ST4 := Lib.hid (HST3.out.on BN)
                    obtain ⟨gs, hgs⟩ : ∃ z : List (Nat × Obj), z = [(g1, .cells #[.string p.1, .string p.2, .int .i64 (segB l p).1.1, .int .i64 (segB l p).1.2, .int .i64 (segB l p).2.1, .int .i64 (segB l p).2.2, .slice pa pn pc] 49), (g2, .cells #[.string q.1, .string q.2, .int .i64 (segB l q).1.1, .int .i64 (segB l q).1.2, .int .i64 (segB l q).2.1, .int .i64 (segB l q).2.2, .slice qa qn qc] 49), (gn, .cells #[.string p.1, .string q.1, .string p.1, .string q.2, .string p.2, .string q.1, .string p.2, .string q.2] 50), (gp, .cells #[.int .i64 (segB l p).1.1, .int .i64 (segB l p).1.2, .int .i64 (segB l q).1.1, .int .i64 (segB l q).1.2, .int .i64 (segB l p).1.1, .int .i64 (segB l p).1.2, .int .i64 (segB l q).2.1, .int .i64 (segB l q).2.2, .int .i64 (segB l p).2.1, .int .i64 (segB l p).2.2, .int .i64 (segB l q).1.1, .int .i64 (segB l q).1.2, .int .i64 (segB l p).2.1, .int .i64 (segB l p).2.2, .int .i64 (segB l q).2.1, .int .i64 (segB l q).2.2] 52)] := ⟨_, rfl⟩
                    have HKR := Lib.hid (show KRow gs wn from fun x hx => by
                      rw [hgs] at hx
                      simp only [List.mem_cons, List.not_mem_nil, or_false] at hx
                      rcases hx with rfl | rfl | rfl | rfl
                      · exact ⟨row_later BN HG1.out, _, _, rfl⟩
                      · exact ⟨row_later BN HG2.out, _, _, rfl⟩
                      · exact ⟨HN1, _, _, rfl⟩
                      · exact ⟨HP1, _, _, rfl⟩)
                    have M1 := Lib.hid (fun W (h : KRow gs W) => h.at (g := g1) (o := .cells #[.string p.1, .string p.2, .int .i64 (segB l p).1.1, .int .i64 (segB l p).1.2, .int .i64 (segB l p).2.1, .int .i64 (segB l p).2.2, .slice pa pn pc] 49) (by rw [hgs]; exact List.mem_cons_self ..))
                    have M2 := Lib.hid (fun W (h : KRow gs W) => h.at (g := g2) (o := .cells #[.string q.1, .string q.2, .int .i64 (segB l q).1.1, .int .i64 (segB l q).1.2, .int .i64 (segB l q).2.1, .int .i64 (segB l q).2.2, .slice qa qn qc] 49) (by rw [hgs]; exact List.mem_cons_of_mem _ (List.mem_cons_self ..)))
                    have MN := Lib.hid (fun W (x : Nat) (hx : x < 4) (h : KRow gs W) => nodes_cell p q hx (h.at (g := gn) (o := .cells #[.string p.1, .string q.1, .string p.1, .string q.2, .string p.2, .string q.1, .string p.2, .string q.2] 50) (by rw [hgs]; simp)))
                    have MP := Lib.hid (fun W (x : Nat) (hx : x < 4) (h : KRow gs W) => points_cell l p q hx (h.at (g := gp) (o := .cells #[.int .i64 (segB l p).1.1, .int .i64 (segB l p).1.2, .int .i64 (segB l q).1.1, .int .i64 (segB l q).1.2, .int .i64 (segB l p).1.1, .int .i64 (segB l p).1.2, .int .i64 (segB l q).2.1, .int .i64 (segB l q).2.2, .int .i64 (segB l p).2.1, .int .i64 (segB l p).2.2, .int .i64 (segB l q).1.1, .int .i64 (segB l q).1.2, .int .i64 (segB l p).2.1, .int .i64 (segB l p).2.2, .int .i64 (segB l q).2.1, .int .i64 (segB l q).2.2] 52) (by rw [hgs]; simp)))
                    clear hwn hgn hgp BN HN1 HP1 HG1 HG2 HST3 hgs
                    go_loopw [14, 15] (fun v14 v15 wr => ∃ x : Nat, v15 = .int .i64 x ∧ x ≤ 4 ∧ v14 = .bool (comX p q x) ∧ OSt l w6 Mb (pre ++ nodeUs l p q x) wr ∧ KRow gs wr) (fun _ v15 _ => 4 - (intOf v15).toNat)
                    case atStart => exact ⟨0, rfl, by omega, rfl, by simpa [nodeUs] using ST4.out, HKR.out⟩
                    case round =>
                      obtain ⟨x, rfl, hx4, rfl, hst, hkr⟩ := hrel
                      have HS4 := Lib.hid hst
                      have HK4 := Lib.hid hkr
                      clear hst hkr
                      by_cases hlx : x < 4
                      · as_aux_lemma =>
                          obtain ⟨ea, hea⟩ : ∃ z, z = endC p x := ⟨_, rfl⟩
                          obtain ⟨eb, heb⟩ : ∃ z, z = endD q x := ⟨_, rfl⟩
                          have CN := Lib.hid (fun W (h : KRow gs W) => MN.out W x hlx h)
                          have CP := Lib.hid (fun W (h : KRow gs W) => MP.out W x hlx h)
                          rw [← hea, ← heb] at CN CP
                          have HEA := Lib.hid (show ea ∈ l.map (·.id) by rw [hea]; unfold endC; split; exact HPI.out.1; exact HPI.out.2)
                          have HEB := Lib.hid (show eb ∈ l.map (·.id) by rw [heb]; unfold endD; split; exact HQI.out.1; exact HQI.out.2)
                          have HNT := Lib.hid (show nodeUs l p q (x + 1) = nodeUs l p q x ++ (if ea ≠ eb ∧ ptO l ea = ptO l eb then [key2 ea eb] else []) by
                            rw [hea, heb]; exact range_step _ _)
                          have HCX := Lib.hid (show comX p q (x + 1) = (comX p q x || decide (ea = eb)) by rw [hea, heb]; exact comX_succ p q x)
                          generalize ptO l ea = pta at CP HNT
                          generalize ptO l eb = ptb at CP HNT
                          generalize comX p q x = cx at HCX ⊢
                          have xi0 : (0 : Int) ≤ (x : Int) := by omega
                          have xi1 : (x : Int) < 4 := by omega
                          have HLX := Lib.hid hlx
                          clear hea heb hlx
                          go_upto_region 25 with fail
                          obtain ⟨wh, rfl⟩ : ∃ z : World, z = wr := ⟨_, rfl⟩
                          have q0 := cell_belowBy (CN.out wh HK4.out).1
                          have q1 := cell_belowBy (CN.out wh HK4.out).2
                          have z0 := lt_of_cell (CN.out wh HK4.out).1
                          by_cases e : ea = eb
                          · have HRN := Lib.hid (show nodeUs l p q (x + 1) = nodeUs l p q x by rw [HNT.out, if_neg (fun h => h.1 e), List.append_nil])
                            have HCN := Lib.hid (show comX p q (x + 1) = true by rw [HCX.out, decide_eq_true e, Bool.or_true])
                            subst e
                            go_wp2_with fail
                            refine wp_region_quiet_below mixed (by kernel_rfl) ?_
                            repeat (go_big_quiet_step (fail))
                            refine wpQuiet_nil ?_
                            intro w8 hw'
                            obtain ⟨⟨wq, hbq⟩, hw''⟩ := hw'
                            subst hw''
                            clear q0 q1
                            have hlx := HLX.out
                            go_wp2
                            go_roundw
                            case rel => exact ⟨x + 1, by go_num, by omega, by rw [HCN.out] <;> rfl, by rw [HRN.out]; exact HS4.out.on hbq, HK4.out.on hbq⟩
                            case measure => simp [intOf]; omega
                          · have n1 := toList_ne e
                            have HCN := Lib.hid (show comX p q (x + 1) = cx by rw [HCX.out, decide_eq_false e, Bool.or_false])
                            go_wp2_with fail
                            refine wp_region_quiet_below mixed (by kernel_rfl) ?_
                            repeat (go_big_quiet_step (fail))
                            refine wpQuiet_nil ?_
                            intro w8 hw'
                            obtain ⟨⟨wq, hbq⟩, hw''⟩ := hw'
                            subst hw''
                            replace HS4 := Lib.hid (HS4.out.on hbq)
                            replace HK4 := Lib.hid (HK4.out.on hbq)
                            clear q0 q1 z0 hbq
                            obtain ⟨wi, rfl⟩ : ∃ z : World, z = w8 := ⟨_, rfl⟩
                            have q0 := cell_belowBy (CP.out wi HK4.out).1
                            have q1 := cell_belowBy (CP.out wi HK4.out).2.1
                            have q2 := cell_belowBy (CP.out wi HK4.out).2.2.1
                            have q3 := cell_belowBy (CP.out wi HK4.out).2.2.2
                            have z0 := lt_of_cell (CP.out wi HK4.out).1
                            have nq := eql_point pta ptb
                            by_cases e2 : pta = ptb
                            · have HPRE := Lib.hid (show pre ++ nodeUs l p q x ++ [key2 ea eb] = pre ++ nodeUs l p q (x + 1) by
                                rw [HNT.out, if_pos ⟨e, e2⟩, List.append_assoc])
                              rw [decide_eq_true e2] at nq
                              generalize pre ++ nodeUs l p q x = prx at HS4 HPRE
                              clear e2
                              go_wp2_with fail
                              refine wp_region_quiet_below mixed (by kernel_rfl) ?_
                              repeat (go_big_quiet_step (fail))
                              refine wpQuiet_nil ?_
                              intro w8 hw'
                              obtain ⟨⟨wq, hbq⟩, hw''⟩ := hw'
                              subst hw''
                              replace HS4 := Lib.hid (HS4.out.on hbq)
                              replace HK4 := Lib.hid (HK4.out.on hbq)
                              clear q0 q1 q2 q3 z0 hbq nq
                              obtain ⟨wj, rfl⟩ : ∃ z : World, z = w8 := ⟨_, rfl⟩
                              have hmin := run_minB Tryz.prog
                              have hmax' := run_maxB Tryz.prog
                              have ZA := Lib.hid (ids_size HZO.out HEA.out)
                              have ZB := Lib.hid (ids_size HZO.out HEB.out)
                              go_wp2_with fail
                              refine wp_region_mix 24 (fun W => KRow gs W) (fun W => OSt l w6 Mb prx W ∧ KRow gs W) mixed (by kernel_rfl) (by kernel_rfl) (by kernel_rfl) ((OSt.stable _ _ _ _).and (KRow.stable _)) (fun W hW => hW.2) ⟨HS4.out.on (Below.refl _ _).drew, HK4.out.on (Below.refl _ _).drew⟩ ?_
                              apply Exists.intro
                              refine ⟨fun W hW => ?_, ?_⟩
                              · have q0 := cell_belowBy (CN.out W hW).1
                                have q1 := cell_belowBy (CN.out W hW).2
                                have z0 := lt_of_cell (CN.out W hW).1
                                simp only [List.take_succ_cons, List.take_zero]
                                repeat (go_big_quiet_step (fail))
                                exact wpQuiet_nil rfl
                              · simp only [List.drop_succ_cons, List.drop_zero]
                                refine tailM_step (ι := Unit) (fun _ => undef) (fun _ W => OSt l w6 Mb (prx ++ [key2 ea eb]) W ∧ KRow gs W) rfl (fun _ => (OSt.stable _ _ _ _).and (KRow.stable _)) (fun _ _ h => h.2) (fun W hS K hK => ?_) (fun _ => ?_)
                                · obtain ⟨W', hrun, ho, hg⟩ := hS.1.note hl1000 hM HEA.out HEB.out ZA.out ZB.out
                                  have HO := Lib.hid ho
                                  have HKN := Lib.hid (hS.2.note hS.1.1 hg)
                                  clear ho hg hS
                                  refine wp_put_map _ _ _ _ rfl rfl rfl rfl hrun ?_
                                  exact hK () _ ⟨HO.out, HKN.out⟩
                                simp only [Act.put]
                                refine tailM_nil fun W hW => ?_
                                rw [HPRE.out] at hW
                                have HW := Lib.hid hW
                                have hlx := HLX.out
                                clear hW hmin hmax'
                                go_wp2
                                go_roundw
                                case rel => exact ⟨x + 1, by go_num, by omega, by rw [HCN.out] <;> rfl, HW.out.1, HW.out.2⟩
                                case measure => simp [intOf]; omega
                            · have HRN := Lib.hid (show nodeUs l p q (x + 1) = nodeUs l p q x by rw [HNT.out, if_neg (fun h => e2 h.2), List.append_nil])
                              rw [decide_eq_false e2] at nq
                              clear e2
                              go_wp2_with fail
                              refine wp_region_quiet_below mixed (by kernel_rfl) ?_
                              repeat (go_big_quiet_step (fail))
                              refine wpQuiet_nil ?_
                              intro w8 hw'
                              obtain ⟨⟨wq, hbq⟩, hw''⟩ := hw'
                              subst hw''
                              clear q0 q1 q2 q3
                              have hlx := HLX.out
                              go_wp2
                              go_roundw
                              case rel => exact ⟨x + 1, by go_num, by omega, by rw [HCN.out] <;> rfl, by rw [HRN.out]; exact HS4.out.on hbq, HK4.out.on hbq⟩
                              case measure => simp [intOf]; omega
                      · obtain rfl : x = 4 := by omega
                        rw [comX_all]
                        have HFIN := Lib.hid (show ownU l m k p q = [] → OSt l w6 Mb (ordU l m ++ rowU l m (k + 1)) wr from fun e => by
                          have h := HS4.out
                          rw [HPR.out, e, List.append_nil]; exact h)
                        have hlk := HLK.out
                        by_cases hkm : m ≤ k
                        · have HF := Lib.hid (HFIN.out (by unfold ownU; rw [if_neg (by omega)]))
                          have hg1 : (m : Int) ≤ (k : Int) := by omega
                          generalize comK p q = cm
                          go_wp2
                          go_roundw
                          case rel => exact ⟨k + 1, by go_num, by omega, HF.out⟩
                          case measure => simp [intOf]; omega
                        · have hg1 : ¬ (m : Int) ≤ (k : Int) := by omega
                          have HOW := Lib.hid (show ownU l m k p q = ownNs l p q by unfold ownU; rw [if_pos (by omega)])
                          have HR1 := Lib.hid (M1.out wr HK4.out)
                          have HR2 := Lib.hid (M2.out wr HK4.out)
                          have MT := Lib.hid (gmeets_any (segB l p) (segB l q) wr)
                          rw [meetsQ_eq] at MT
                          have HCR := Lib.hid (show crossB l p q = (decide (meetsR (segB l p) (segB l q) ≠ 0) && !(decide (meetsR (segB l p) (segB l q) = 1) && comK p q)) from rfl)
                          generalize meetsR (segB l p) (segB l q) = mq at MT HCR
                          have xz := lt_of_block HR1.out
                          have x0 := cell_of_row wr _ 0 _ _ _ HR1.out
                          have x1 := cell_of_row wr _ 1 _ _ _ HR1.out
                          have x2 := cell_of_row wr _ 2 _ _ _ HR1.out
                          have x3 := cell_of_row wr _ 3 _ _ _ HR1.out
                          have x4 := cell_of_row wr _ 4 _ _ _ HR1.out
                          have x5 := cell_of_row wr _ 5 _ _ _ HR1.out
                          have x6 := cell_of_row wr _ 6 _ _ _ HR1.out
                          simp only [List.getElem?_toArray, List.getElem?_cons_zero, List.getElem?_cons_succ] at x0 x1 x2 x3 x4 x5 x6
                          have yz := lt_of_block HR2.out
                          have y0 := cell_of_row wr _ 0 _ _ _ HR2.out
                          have y1 := cell_of_row wr _ 1 _ _ _ HR2.out
                          have y2 := cell_of_row wr _ 2 _ _ _ HR2.out
                          have y3 := cell_of_row wr _ 3 _ _ _ HR2.out
                          have y4 := cell_of_row wr _ 4 _ _ _ HR2.out
                          have y5 := cell_of_row wr _ 5 _ _ _ HR2.out
                          have y6 := cell_of_row wr _ 6 _ _ _ HR2.out
                          simp only [List.getElem?_toArray, List.getElem?_cons_zero, List.getElem?_cons_succ] at y0 y1 y2 y3 y4 y5 y6
                          generalize comK p q = cm at HCR ⊢
                          go_wp2_with fail
                          clear x0 x1 x2 x3 x4 x5 x6 xz
                          clear y0 y1 y2 y3 y4 y5 y6 yz
                          refine MT.out.mono ?_
                          rintro e w9 ⟨rfl, hb⟩
                          replace HS4 := Lib.hid (HS4.out.on hb)
                          replace HK4 := Lib.hid (HK4.out.on hb)
                          replace HFIN := Lib.hid (show ownU l m k p q = [] → OSt l w6 Mb (ordU l m ++ rowU l m (k + 1)) w9 from fun e => by
                            have h := HS4.out
                            rw [HPR.out, e, List.append_nil]; exact h)
                          clear hb HR1 HR2
                          by_cases h0 : mq = 0
                          · subst h0
                            have HF := Lib.hid (HFIN.out (by rw [HOW.out]; unfold ownNs; rw [if_neg (by rw [HCR.out]; simp)]))
                            go_wp2
                            go_roundw
                            case rel => exact ⟨k + 1, by go_num, by omega, HF.out⟩
                            case measure => simp [intOf]; omega
                          · have h0' : ¬ mq = 0 := h0
                            have hq0 : (mq == 0) = false := by rw [beq_eq_false_iff_ne]; exact h0
                            by_cases h1 : mq = 1
                            · subst h1
                              cases cm with
                              | true =>
                                have HF := Lib.hid (HFIN.out (by rw [HOW.out]; unfold ownNs; rw [if_neg (by rw [HCR.out]; simp)]))
                                go_wp2
                                go_roundw
                                case rel => exact ⟨k + 1, by go_num, by omega, HF.out⟩
                                case measure => simp [intOf]; omega
                              | false =>
                                have h1' := True.intro
                                as_aux_lemma =>
                                  have HOX := Lib.hid (show ownU l m k p q = ownX l p q pn by rw [HOW.out]; unfold ownNs; rw [if_pos (by rw [HCR.out]; first | (simp [h0']; done) | simp [h0', h1'])]; rw [HPN.out])
                                  clear HFIN HCR HOW MT
                                  go_wp2_with fail
                                  obtain ⟨wo2, rfl⟩ : ∃ z : World, z = w9 := ⟨_, rfl⟩
                                  go_loopw [17] (fun v17 wr => ∃ u : Nat, v17 = .int .i64 u ∧ u ≤ pn ∧ OSt l w6 Mb (pre ++ nodeUs l p q 4 ++ ownX l p q u) wr ∧ KRow gs wr) (fun i _ => pn - (intOf i).toNat)
                                  case atStart => exact ⟨0, rfl, by omega, by simpa [ownX] using HS4.out, HK4.out⟩
                                  case round =>
                                    obtain ⟨u, rfl, hu, hst, hkr⟩ := hrel
                                    have HS5 := Lib.hid hst
                                    have HK5 := Lib.hid hkr
                                    clear hst hkr
                                    have HR1 := Lib.hid (M1.out wr HK5.out)
                                    have xz := lt_of_block HR1.out
                                    have x0 := cell_of_row wr _ 0 _ _ _ HR1.out
                                    have x1 := cell_of_row wr _ 1 _ _ _ HR1.out
                                    have x2 := cell_of_row wr _ 2 _ _ _ HR1.out
                                    have x3 := cell_of_row wr _ 3 _ _ _ HR1.out
                                    have x4 := cell_of_row wr _ 4 _ _ _ HR1.out
                                    have x5 := cell_of_row wr _ 5 _ _ _ HR1.out
                                    have x6 := cell_of_row wr _ 6 _ _ _ HR1.out
                                    simp only [List.getElem?_toArray, List.getElem?_cons_zero, List.getElem?_cons_succ] at x0 x1 x2 x3 x4 x5 x6
                                    by_cases hlu : u < pn
                                    · obtain ⟨ox, hox⟩ : ∃ z, (ownF l l p)[u]? = some z := ⟨(ownF l l p)[u]'(by rw [← HPN.out]; exact hlu), List.getElem?_eq_getElem _⟩
                                      have HXS := Lib.hid (ownX_succ (q := q) hox)
                                      have HXI := Lib.hid (own_ids (List.mem_of_getElem? hox))
                                      obtain ⟨pb, poff, hpa, hpc⟩ := str_cell HSP.out hox
                                      have HPA := Lib.hid hpa
                                      have HPC := Lib.hid hpc
                                      obtain ⟨pr2, hpr2⟩ : ∃ z, z = pre ++ nodeUs l p q 4 ++ ownX l p q u := ⟨_, rfl⟩
                                      rw [← hpr2] at HS5
                                      have HP2 := Lib.hid (show pr2 ++ (ownF l l q).map (fun y => key2 ox y) = pre ++ nodeUs l p q 4 ++ ownX l p q (u + 1) by rw [HXS.out, hpr2, List.append_assoc])
                                      have hu0 : (0 : Int) ≤ (u : Int) := by omega
                                      have hu1 : (u : Int) < (pn : Int) := by omega
                                      have HLU := Lib.hid hlu
                                      clear hox hpa hpc hpr2 HXS
                                      go_wp2_with fail
                                      clear x0 x1 x2 x3 x4 x5 x6 xz
                                      obtain ⟨wo3, rfl⟩ : ∃ z : World, z = wr := ⟨_, rfl⟩
                                      go_loopw [18] (fun v18 wr => ∃ t : Nat, v18 = .int .i64 t ∧ t ≤ qn ∧ OSt l w6 Mb (pr2 ++ ((ownF l l q).take t).map (fun y => key2 ox y)) wr ∧ KRow gs wr) (fun i _ => qn - (intOf i).toNat)
                                      case atStart => exact ⟨0, rfl, by omega, by simpa using HS5.out, HK5.out⟩
                                      case round =>
                                        obtain ⟨t, rfl, ht, hst, hkr⟩ := hrel
                                        have HS6 := Lib.hid hst
                                        have HK6 := Lib.hid hkr
                                        clear hst hkr
                                        have HR2 := Lib.hid (M2.out wr HK6.out)
                                        have yz := lt_of_block HR2.out
                                        have y0 := cell_of_row wr _ 0 _ _ _ HR2.out
                                        have y1 := cell_of_row wr _ 1 _ _ _ HR2.out
                                        have y2 := cell_of_row wr _ 2 _ _ _ HR2.out
                                        have y3 := cell_of_row wr _ 3 _ _ _ HR2.out
                                        have y4 := cell_of_row wr _ 4 _ _ _ HR2.out
                                        have y5 := cell_of_row wr _ 5 _ _ _ HR2.out
                                        have y6 := cell_of_row wr _ 6 _ _ _ HR2.out
                                        simp only [List.getElem?_toArray, List.getElem?_cons_zero, List.getElem?_cons_succ] at y0 y1 y2 y3 y4 y5 y6
                                        by_cases hlt : t < qn
                                        · obtain ⟨oy, hoy⟩ : ∃ z, (ownF l l q)[t]? = some z := ⟨(ownF l l q)[t]'(by rw [← HQN.out]; exact hlt), List.getElem?_eq_getElem _⟩
                                          have HYI := Lib.hid (own_ids (List.mem_of_getElem? hoy))
                                          obtain ⟨qb, qoff, hqa, hqc⟩ := str_cell HSQ.out hoy
                                          have HQC := Lib.hid hqc
                                          have HPR3 := Lib.hid (show pr2 ++ ((ownF l l q).take t).map (fun y => key2 ox y) ++ [key2 ox oy] = pr2 ++ ((ownF l l q).take (t + 1)).map (fun y => key2 ox y) by
                                            obtain ⟨hk', e⟩ := List.getElem?_eq_some_iff.1 hoy
                                            rw [List.take_succ_eq_append_getElem hk', e, List.map_append, List.append_assoc]; rfl)
                                          have hpa := HPA.out
                                          subst hpa hqa
                                          have ht0 : (0 : Int) ≤ (t : Int) := by omega
                                          have ht1 : (t : Int) < (qn : Int) := by omega
                                          have hmin := run_minB Tryz.prog
                                          have hmax' := run_maxB Tryz.prog
                                          have ZA := Lib.hid (ids_size HZO.out HXI.out)
                                          have ZB := Lib.hid (ids_size HZO.out HYI.out)
                                          generalize pr2 ++ ((ownF l l q).take t).map (fun y => key2 ox y) = pr3 at HS6 HPR3
                                          clear hoy hqc HR2
                                          have HLT := Lib.hid hlt
                                          go_wp2_with fail
                                          clear y0 y1 y2 y3 y4 y5 y6 yz
                                          refine wp_region_mix 24 (fun W => KRow gs W ∧ Below w6.heap.size w6 W) (fun W => OSt l w6 Mb pr3 W ∧ KRow gs W) mixed (by kernel_rfl) (by kernel_rfl) (by kernel_rfl) ((OSt.stable _ _ _ _).and (KRow.stable _)) (fun W hW => ⟨hW.2, hW.1.2.2⟩) ⟨HS6.out.on (Below.refl _ _).drew, HK6.out.on (Below.refl _ _).drew⟩ ?_
                                          apply Exists.intro
                                          refine ⟨fun W hW => ?_, ?_⟩
                                          · have q0 := cell_belowBy (cell_of_row W _ 6 _ _ _ (M1.out W hW.1))
                                            have q1 := cell_belowBy (cell_of_row W _ 6 _ _ _ (M2.out W hW.1))
                                            have q2 := cell_belowBy (cell_later hW.2 HPC.out)
                                            have q3 := cell_belowBy (cell_later hW.2 HQC.out)
                                            have z0 := lt_of_block (M1.out W hW.1)
                                            have z1 := lt_of_block (M2.out W hW.1)
                                            have z2 := lt_of_cell (cell_later hW.2 HPC.out)
                                            have z3 := lt_of_cell (cell_later hW.2 HQC.out)
                                            simp only [List.take_succ_cons, List.take_zero]
                                            repeat (go_big_quiet_step (fail))
                                            exact wpQuiet_nil rfl
                                          · simp only [List.drop_succ_cons, List.drop_zero]
                                            refine tailM_step (ι := Unit) (fun _ => undef) (fun _ W => OSt l w6 Mb (pr3 ++ [key2 ox oy]) W ∧ KRow gs W) rfl (fun _ => (OSt.stable _ _ _ _).and (KRow.stable _)) (fun _ _ h => ⟨h.2, h.1.2.2⟩) (fun W hS K hK => ?_) (fun _ => ?_)
                                            · obtain ⟨W', hrun, ho, hg⟩ := hS.1.note hl1000 hM HXI.out HYI.out ZA.out ZB.out
                                              have HO := Lib.hid ho
                                              have HKN := Lib.hid (hS.2.note hS.1.1 hg)
                                              clear ho hg hS
                                              refine wp_put_map _ _ _ _ rfl rfl rfl rfl hrun ?_
                                              exact hK () _ ⟨HO.out, HKN.out⟩
                                            simp only [Act.put]
                                            refine tailM_nil fun W hW => ?_
                                            rw [HPR3.out] at hW
                                            have HW := Lib.hid hW
                                            have hlt := HLT.out
                                            clear hW hmin hmax'
                                            go_wp2
                                            go_roundw
                                            case rel => exact ⟨t + 1, by go_num, by omega, HW.out.1, HW.out.2⟩
                                            case measure => simp [intOf]; omega
                                        · obtain rfl : t = qn := by omega
                                          have HN6 := Lib.hid (show OSt l w6 Mb (pre ++ nodeUs l p q 4 ++ ownX l p q (u + 1)) wr by
                                            have h := HS6.out
                                            rw [List.take_of_length_le (by rw [← HQN.out]; exact Nat.le_refl _), HP2.out] at h
                                            exact h)
                                          have hlu := HLU.out
                                          go_wp2
                                          go_roundw
                                          case rel => exact ⟨u + 1, by go_num, by omega, HN6.out, HK6.out⟩
                                          case measure => simp [intOf]; omega
                                    · obtain rfl : u = pn := by omega
                                      have HF := Lib.hid (show OSt l w6 Mb (ordU l m ++ rowU l m (k + 1)) wr by
                                        have h := HS5.out
                                        rw [HPR.out, HOX.out, ← List.append_assoc]
                                        exact h)
                                      go_wp2
                                      go_roundw
                                      case rel => exact ⟨k + 1, by go_num, by omega, HF.out⟩
                                      case measure => simp [intOf]; omega
                            · have h1' : ¬ mq = 1 := h1
                              have hq1 : (mq == 1) = false := by rw [beq_eq_false_iff_ne]; exact h1
                              as_aux_lemma =>
                                have HOX := Lib.hid (show ownU l m k p q = ownX l p q pn by rw [HOW.out]; unfold ownNs; rw [if_pos (by rw [HCR.out]; first | (simp [h0']; done) | simp [h0', h1'])]; rw [HPN.out])
                                clear HFIN HCR HOW MT
                                go_wp2_with fail
                                obtain ⟨wo2, rfl⟩ : ∃ z : World, z = w9 := ⟨_, rfl⟩
                                go_loopw [17] (fun v17 wr => ∃ u : Nat, v17 = .int .i64 u ∧ u ≤ pn ∧ OSt l w6 Mb (pre ++ nodeUs l p q 4 ++ ownX l p q u) wr ∧ KRow gs wr) (fun i _ => pn - (intOf i).toNat)
                                case atStart => exact ⟨0, rfl, by omega, by simpa [ownX] using HS4.out, HK4.out⟩
                                case round =>
                                  obtain ⟨u, rfl, hu, hst, hkr⟩ := hrel
                                  have HS5 := Lib.hid hst
                                  have HK5 := Lib.hid hkr
                                  clear hst hkr
                                  have HR1 := Lib.hid (M1.out wr HK5.out)
                                  have xz := lt_of_block HR1.out
                                  have x0 := cell_of_row wr _ 0 _ _ _ HR1.out
                                  have x1 := cell_of_row wr _ 1 _ _ _ HR1.out
                                  have x2 := cell_of_row wr _ 2 _ _ _ HR1.out
                                  have x3 := cell_of_row wr _ 3 _ _ _ HR1.out
                                  have x4 := cell_of_row wr _ 4 _ _ _ HR1.out
                                  have x5 := cell_of_row wr _ 5 _ _ _ HR1.out
                                  have x6 := cell_of_row wr _ 6 _ _ _ HR1.out
                                  simp only [List.getElem?_toArray, List.getElem?_cons_zero, List.getElem?_cons_succ] at x0 x1 x2 x3 x4 x5 x6
                                  by_cases hlu : u < pn
                                  · obtain ⟨ox, hox⟩ : ∃ z, (ownF l l p)[u]? = some z := ⟨(ownF l l p)[u]'(by rw [← HPN.out]; exact hlu), List.getElem?_eq_getElem _⟩
                                    have HXS := Lib.hid (ownX_succ (q := q) hox)
                                    have HXI := Lib.hid (own_ids (List.mem_of_getElem? hox))
                                    obtain ⟨pb, poff, hpa, hpc⟩ := str_cell HSP.out hox
                                    have HPA := Lib.hid hpa
                                    have HPC := Lib.hid hpc
                                    obtain ⟨pr2, hpr2⟩ : ∃ z, z = pre ++ nodeUs l p q 4 ++ ownX l p q u := ⟨_, rfl⟩
                                    rw [← hpr2] at HS5
                                    have HP2 := Lib.hid (show pr2 ++ (ownF l l q).map (fun y => key2 ox y) = pre ++ nodeUs l p q 4 ++ ownX l p q (u + 1) by rw [HXS.out, hpr2, List.append_assoc])
                                    have hu0 : (0 : Int) ≤ (u : Int) := by omega
                                    have hu1 : (u : Int) < (pn : Int) := by omega
                                    have HLU := Lib.hid hlu
                                    clear hox hpa hpc hpr2 HXS
                                    go_wp2_with fail
                                    clear x0 x1 x2 x3 x4 x5 x6 xz
                                    obtain ⟨wo3, rfl⟩ : ∃ z : World, z = wr := ⟨_, rfl⟩
                                    go_loopw [18] (fun v18 wr => ∃ t : Nat, v18 = .int .i64 t ∧ t ≤ qn ∧ OSt l w6 Mb (pr2 ++ ((ownF l l q).take t).map (fun y => key2 ox y)) wr ∧ KRow gs wr) (fun i _ => qn - (intOf i).toNat)
                                    case atStart => exact ⟨0, rfl, by omega, by simpa using HS5.out, HK5.out⟩
                                    case round =>
                                      obtain ⟨t, rfl, ht, hst, hkr⟩ := hrel
                                      have HS6 := Lib.hid hst
                                      have HK6 := Lib.hid hkr
                                      clear hst hkr
                                      have HR2 := Lib.hid (M2.out wr HK6.out)
                                      have yz := lt_of_block HR2.out
                                      have y0 := cell_of_row wr _ 0 _ _ _ HR2.out
                                      have y1 := cell_of_row wr _ 1 _ _ _ HR2.out
                                      have y2 := cell_of_row wr _ 2 _ _ _ HR2.out
                                      have y3 := cell_of_row wr _ 3 _ _ _ HR2.out
                                      have y4 := cell_of_row wr _ 4 _ _ _ HR2.out
                                      have y5 := cell_of_row wr _ 5 _ _ _ HR2.out
                                      have y6 := cell_of_row wr _ 6 _ _ _ HR2.out
                                      simp only [List.getElem?_toArray, List.getElem?_cons_zero, List.getElem?_cons_succ] at y0 y1 y2 y3 y4 y5 y6
                                      by_cases hlt : t < qn
                                      · obtain ⟨oy, hoy⟩ : ∃ z, (ownF l l q)[t]? = some z := ⟨(ownF l l q)[t]'(by rw [← HQN.out]; exact hlt), List.getElem?_eq_getElem _⟩
                                        have HYI := Lib.hid (own_ids (List.mem_of_getElem? hoy))
                                        obtain ⟨qb, qoff, hqa, hqc⟩ := str_cell HSQ.out hoy
                                        have HQC := Lib.hid hqc
                                        have HPR3 := Lib.hid (show pr2 ++ ((ownF l l q).take t).map (fun y => key2 ox y) ++ [key2 ox oy] = pr2 ++ ((ownF l l q).take (t + 1)).map (fun y => key2 ox y) by
                                          obtain ⟨hk', e⟩ := List.getElem?_eq_some_iff.1 hoy
                                          rw [List.take_succ_eq_append_getElem hk', e, List.map_append, List.append_assoc]; rfl)
                                        have hpa := HPA.out
                                        subst hpa hqa
                                        have ht0 : (0 : Int) ≤ (t : Int) := by omega
                                        have ht1 : (t : Int) < (qn : Int) := by omega
                                        have hmin := run_minB Tryz.prog
                                        have hmax' := run_maxB Tryz.prog
                                        have ZA := Lib.hid (ids_size HZO.out HXI.out)
                                        have ZB := Lib.hid (ids_size HZO.out HYI.out)
                                        generalize pr2 ++ ((ownF l l q).take t).map (fun y => key2 ox y) = pr3 at HS6 HPR3
                                        clear hoy hqc HR2
                                        have HLT := Lib.hid hlt
                                        go_wp2_with fail
                                        clear y0 y1 y2 y3 y4 y5 y6 yz
                                        refine wp_region_mix 24 (fun W => KRow gs W ∧ Below w6.heap.size w6 W) (fun W => OSt l w6 Mb pr3 W ∧ KRow gs W) mixed (by kernel_rfl) (by kernel_rfl) (by kernel_rfl) ((OSt.stable _ _ _ _).and (KRow.stable _)) (fun W hW => ⟨hW.2, hW.1.2.2⟩) ⟨HS6.out.on (Below.refl _ _).drew, HK6.out.on (Below.refl _ _).drew⟩ ?_
                                        apply Exists.intro
                                        refine ⟨fun W hW => ?_, ?_⟩
                                        · have q0 := cell_belowBy (cell_of_row W _ 6 _ _ _ (M1.out W hW.1))
                                          have q1 := cell_belowBy (cell_of_row W _ 6 _ _ _ (M2.out W hW.1))
                                          have q2 := cell_belowBy (cell_later hW.2 HPC.out)
                                          have q3 := cell_belowBy (cell_later hW.2 HQC.out)
                                          have z0 := lt_of_block (M1.out W hW.1)
                                          have z1 := lt_of_block (M2.out W hW.1)
                                          have z2 := lt_of_cell (cell_later hW.2 HPC.out)
                                          have z3 := lt_of_cell (cell_later hW.2 HQC.out)
                                          simp only [List.take_succ_cons, List.take_zero]
                                          repeat (go_big_quiet_step (fail))
                                          exact wpQuiet_nil rfl
                                        · simp only [List.drop_succ_cons, List.drop_zero]
                                          refine tailM_step (ι := Unit) (fun _ => undef) (fun _ W => OSt l w6 Mb (pr3 ++ [key2 ox oy]) W ∧ KRow gs W) rfl (fun _ => (OSt.stable _ _ _ _).and (KRow.stable _)) (fun _ _ h => ⟨h.2, h.1.2.2⟩) (fun W hS K hK => ?_) (fun _ => ?_)
                                          · obtain ⟨W', hrun, ho, hg⟩ := hS.1.note hl1000 hM HXI.out HYI.out ZA.out ZB.out
                                            have HO := Lib.hid ho
                                            have HKN := Lib.hid (hS.2.note hS.1.1 hg)
                                            clear ho hg hS
                                            refine wp_put_map _ _ _ _ rfl rfl rfl rfl hrun ?_
                                            exact hK () _ ⟨HO.out, HKN.out⟩
                                          simp only [Act.put]
                                          refine tailM_nil fun W hW => ?_
                                          rw [HPR3.out] at hW
                                          have HW := Lib.hid hW
                                          have hlt := HLT.out
                                          clear hW hmin hmax'
                                          go_wp2
                                          go_roundw
                                          case rel => exact ⟨t + 1, by go_num, by omega, HW.out.1, HW.out.2⟩
                                          case measure => simp [intOf]; omega
                                      · obtain rfl : t = qn := by omega
                                        have HN6 := Lib.hid (show OSt l w6 Mb (pre ++ nodeUs l p q 4 ++ ownX l p q (u + 1)) wr by
                                          have h := HS6.out
                                          rw [List.take_of_length_le (by rw [← HQN.out]; exact Nat.le_refl _), HP2.out] at h
                                          exact h)
                                        have hlu := HLU.out
                                        go_wp2
                                        go_roundw
                                        case rel => exact ⟨u + 1, by go_num, by omega, HN6.out, HK6.out⟩
                                        case measure => simp [intOf]; omega
                                  · obtain rfl : u = pn := by omega
                                    have HF := Lib.hid (show OSt l w6 Mb (ordU l m ++ rowU l m (k + 1)) wr by
                                      have h := HS5.out
                                      rw [HPR.out, HOX.out, ← List.append_assoc]
                                      exact h)
                                    go_wp2
                                    go_roundw
                                    case rel => exact ⟨k + 1, by go_num, by omega, HF.out⟩
                                    case measure => simp [intOf]; omega
                · obtain rfl : k = N := by omega
                  have HRN := Lib.hid (show OSt l w6 Mb (ordU l (m + 1)) wr by
                    have h := HST2.out
                    rw [show ordU l (m + 1) = ordU l m ++ rowU l m k by unfold ordU; rw [range_step, HN.out]]
                    exact h)
                  have hlm := HLM.out
                  go_wp2
                  go_roundw
                  case rel => exact ⟨m + 1, by go_num, by omega, HRN.out⟩
                  case measure => simp [intOf]; omega
            · as_aux_lemma =>
                obtain rfl : m = N := by omega
                go_wp2_with fail
                obtain ⟨wo, rfl⟩ : ∃ z : World, z = wr := ⟨_, rfl⟩
                go_loopw [19] (fun v19 wr => ∃ i : Nat, v19 = .int .i64 i ∧ i ≤ m ∧ OSt l w6 Mb (ordU l m ++ selfU l i) wr) (fun v19 _ => m - (intOf v19).toNat)
                case atStart => exact ⟨0, rfl, by omega, by simpa [selfU] using HST.out⟩
                case round =>
                  obtain ⟨i2, rfl, hi2, hst⟩ := hrel
                  have HS2 := Lib.hid hst
                  clear hst
                  by_cases hli : i2 < m
                  · obtain ⟨p, hp⟩ : ∃ p, (keysP l)[i2]? = some p := ⟨(keysP l)[i2]'(by rw [HN.out]; exact hli), List.getElem?_eq_getElem _⟩
                    obtain ⟨b, off, hab, hcell⟩ := HC.out (by omega)
                    subst hab
                    obtain ⟨pa, pc, c0, c1, c2, c3, c4, c5, c6, hsp⟩ := hcell i2 p hp
                    have HSU := Lib.hid (show selfU l (i2 + 1) = selfU l i2 ++ (if ptO l p.1 = ptO l p.2 then [p] else []) by
                      unfold selfU; rw [range_step]; unfold selfT; rw [atK_get hp])
                    have HPI := Lib.hid (show p.1 ∈ l.map (·.id) ∧ p.2 ∈ l.map (·.id) from ⟨node_id (keys_node (List.mem_of_getElem? hp)).1, node_id (keys_node (List.mem_of_getElem? hp)).2⟩)
                    have HORD := Lib.hid (keys_ordP (List.mem_of_getElem? hp))
                    simp only [segB] at c2 c3 c4 c5
                    have HD0 := Lib.hid c0
                    have HD1 := Lib.hid c1
                    have hm1 : (0 : Int) ≤ (i2 : Int) := by omega
                    have hm2 : (i2 : Int) < (m : Int) := by omega
                    have HLI := Lib.hid hli
                    have q0 := cell_belowBy (cell_later HS2.out.2.2 c2)
                    have q1 := cell_belowBy (cell_later HS2.out.2.2 c3)
                    have q2 := cell_belowBy (cell_later HS2.out.2.2 c4)
                    have q3 := cell_belowBy (cell_later HS2.out.2.2 c5)
                    have z0 := lt_of_cell (cell_later HS2.out.2.2 c2)
                    have nq := eql_point (ptO l p.1) (ptO l p.2)
                    generalize ptO l p.1 = pta at q0 q1 nq HSU
                    generalize ptO l p.2 = ptb at q2 q3 nq HSU
                    clear hp hcell c0 c1 c2 c3 c4 c5 c6 hsp
                    generalize selfU l i2 = sf at HS2 HSU
                    by_cases e2 : pta = ptb
                    · rw [decide_eq_true e2] at nq
                      have HRN := Lib.hid (show ordU l m ++ sf ++ [p] = ordU l m ++ selfU l (i2 + 1) by rw [HSU.out, if_pos e2, List.append_assoc])
                      generalize ordU l m ++ sf = prx at HS2 HRN
                      clear e2 HSU
                      go_wp2_with fail
                      refine wp_region_quiet_below mixed (by kernel_rfl) ?_
                      repeat (go_big_quiet_step (fail))
                      refine wpQuiet_nil ?_
                      intro w8 hw'
                      obtain ⟨⟨wq, hbq⟩, hw''⟩ := hw'
                      subst hw''
                      replace HS2 := Lib.hid (HS2.out.on hbq)
                      clear q0 q1 q2 q3 z0 hbq nq
                      obtain ⟨wj, rfl⟩ : ∃ z : World, z = w8 := ⟨_, rfl⟩
                      have ZA := Lib.hid (ids_size HZO.out HPI.out.1)
                      have ZB := Lib.hid (ids_size HZO.out HPI.out.2)
                      go_wp2_with fail
                      refine wp_region_mix 12 (fun W => Below w6.heap.size w6 W) (fun W => OSt l w6 Mb prx W) mixed (by kernel_rfl) (by kernel_rfl) (by kernel_rfl) (OSt.stable _ _ _ _) (fun W hW => hW.2.2) (HS2.out.on (Below.refl _ _).drew) ?_
                      apply Exists.intro
                      refine ⟨fun W hW => ?_, ?_⟩
                      · have q0 := cell_belowBy (cell_later hW HD0.out)
                        have q1 := cell_belowBy (cell_later hW HD1.out)
                        have z0 := lt_of_cell (cell_later hW HD0.out)
                        simp only [List.take_succ_cons, List.take_zero]
                        repeat (go_big_quiet_step (fail))
                        exact wpQuiet_nil rfl
                      · simp only [List.drop_succ_cons, List.drop_zero]
                        refine tailM_step (ι := Unit) (fun _ => undef) (fun _ W => OSt l w6 Mb (prx ++ [p]) W) rfl (fun _ => OSt.stable _ _ _ _) (fun _ _ h => h.2.2) (fun W hS K hK => ?_) (fun _ => ?_)
                        · obtain ⟨W', hrun, ho, hg⟩ := hS.note hl1000 hM HPI.out.1 HPI.out.2 ZA.out ZB.out
                          rw [(key2_parts HORD.out).1, (key2_parts HORD.out).2] at hrun
                          rw [key2_of HORD.out] at ho
                          have HO := Lib.hid ho
                          clear ho hg hS
                          refine wp_put_map _ _ _ _ rfl rfl rfl rfl hrun ?_
                          exact hK () _ HO.out
                        simp only [Act.put]
                        refine tailM_nil fun W hW => ?_
                        rw [HRN.out] at hW
                        have HW := Lib.hid hW
                        have hli := HLI.out
                        clear hW
                        go_wp2
                        go_roundw
                        case rel => exact ⟨i2 + 1, by go_num, by omega, HW.out⟩
                        case measure => simp [intOf]; omega
                    · have HRN := Lib.hid (show selfU l (i2 + 1) = sf by rw [HSU.out, if_neg e2, List.append_nil])
                      rw [decide_eq_false e2] at nq
                      clear e2 HSU
                      go_wp2_with fail
                      refine wp_region_quiet_below mixed (by kernel_rfl) ?_
                      repeat (go_big_quiet_step (fail))
                      refine wpQuiet_nil ?_
                      intro w8 hw'
                      obtain ⟨⟨wq, hbq⟩, hw''⟩ := hw'
                      subst hw''
                      clear q0 q1 q2 q3
                      have hli := HLI.out
                      go_wp2
                      go_roundw
                      case rel => exact ⟨i2 + 1, by go_num, by omega, by rw [HRN.out]; exact HS2.out.on hbq⟩
                      case measure => simp [intOf]; omega
                  · obtain rfl : i2 = m := by omega
                    have HNC := Lib.hid (show (∀ x, x ∈ noteA (ordU l i2 ++ selfU l i2) ↔ x ∈ checkP l) ∧ (noteA (ordU l i2 ++ selfU l i2)).length = (checkP l).length by
                      have := noteA_check HOK.out
                      rw [HN.out] at this; exact this)
                    have HNT := Lib.hid HS2.out.1
                    have HGN := Lib.hid HS2.out.2.1
                    have HB2 := Lib.hid HS2.out.2.2
                    obtain ⟨NN, hNN⟩ : ∃ z, z = noteA (ordU l i2 ++ selfU l i2) := ⟨_, rfl⟩
                    rw [← hNN] at HNC HNT HGN
                    obtain ⟨w12, hrr2, hra2, hgr2, hsz2⟩ := MapAt.range HNT.out (T := 47) (E := 4) Tryz.underlying47
                    have HRA2 := Lib.hid hra2
                    have B12 := Lib.hid (HB2.out.grown hgr2 HB2.out.size (fun j hj => by cases hj))
                    have HN12 := Lib.hid (MapAt.kept HNT.out hgr2 (by simp))
                    obtain ⟨wq, rfl⟩ : ∃ z : World, z = wr := ⟨_, rfl⟩
                    have zq := HB2.out.size
                    have zl := HNT.out.lt
                    clear hra2 hgr2 HS2 HST hNN HNT HB2
                    go_wp2_with fail
                    clear hrr2
                    obtain ⟨Bj, hBj⟩ : ∃ z, z = wq.heap.size := ⟨_, rfl⟩
                    rw [← hBj] at HRA2 hsz2 zq zl ⊢
                    have hMj : w6.heap.size ≤ Bj := by omega
                    have hMM : Mb ≠ Bj := by omega
                    obtain ⟨NB, hNB⟩ : ∃ z : List (KeyD × Bool), z = NN.map fun k => (k, true) := ⟨_, rfl⟩
                    rw [← hNB] at HRA2
                    have HNB := Lib.hid hNB
                    clear hBj hNB
                    go_loopw [20] (fun _ wx => ∃ (done todo : List (KeyD × Bool)), RangeAt keyV evB wx Mb Bj NB done todo ∧ NotesAt wx Mb NN ∧ Below w6.heap.size w6 wx) (fun _ wx => wx.rangeLeft Mb Bj)
                    case atStart => exact ⟨[], NB, HRA2.out, HN12.out, B12.out⟩
                    case round =>
                      obtain ⟨dn, td, hra, hnt, hb4⟩ := hrel
                      have HLF := Lib.hid hra.left
                      have HPM := Lib.hid hra.perm
                      rcases hra.next (P := Tryz.prog) with ⟨ht, hp, hnx⟩ | ⟨p, td', w9, hp, hnx, hra9, hg9, hs9, hen⟩
                      · have HCN := Lib.hid (MapAt.count (ty := 3) hnt (T := 47) (E := 4) Tryz.underlying47)
                        rw [List.length_map, HNC.out.2, ← HM.out] at HCN
                        have hcn := HCN.out
                        have BF := below_step B7 (by omega) hb4
                        clear hra ht hp hnt
                        go_wp2
                        go_ret
                        exact ⟨rfl, BF⟩
                      · have hpm : p ∈ NB := HPM.out.mem_iff.2 (List.mem_append_right _ (hp.mem_iff.2 (List.mem_cons_self ..)))
                        obtain ⟨key, hkm, hkp⟩ := List.mem_map.1 (by rw [HNB.out] at hpm; exact hpm)
                        subst hkp
                        obtain ⟨gk1, gk2, gk3⟩ := HGN.out.2 key hkm
                        have HNA := Lib.hid (show namedP (checkP l) key.1 key.2 = true from named_iff.2 (by
                          have h1 := (HNC.out.1 key).1 hkm
                          rw [key2_of (check_ord h1)]; exact h1))
                        have hlt9 : td'.length < td.length := by have := hp.length_eq; simp at this; omega
                        have R9 := Lib.hid hra9
                        have B9 := Lib.hid (hb4.grown hg9 hb4.size (fun j hj => by injection hj with hj; omega))
                        have N9 := Lib.hid (MapAt.kept hnt hg9 (fun e => hMM (Option.some.inj e)))
                        obtain ⟨x1, x2⟩ := key
                        simp only [keyV, evB] at hnx hen
                        simp only [] at HNA
                        clear hra hnt hb4 hg9 hra9 hp hpm hkm gk1 gk2 gk3 hs9
                        go_wp2_with fail
                        have BN : Below w9.heap.size w9 (w9.alloc (.cells #[.string x1, .string x2] 50)) := (by repeat' (first | exact Below.refl _ _ | refine Below.drew ?_ | refine Below.drewN' ?_ | refine Below.setCell ?_ (by first | omega | (simp; done) | exact Below.size (by assumption) | (simp; omega)) _ | refine Below.alloc ?_ (by first | omega | (simp; done) | exact Below.size (by assumption) | (simp; omega)) _ | refine Below.trans ?_ (Below.mono (by assumption) ?_) | (first | omega | (simp; done) | exact Below.size (by assumption) | (simp; omega))))
                        have HN2 := row_new w9 (.cells #[.string x1, .string x2] 50)
                        generalize hwn : w9.alloc (.cells #[.string x1, .string x2] 50) = wn
                        rw [hwn] at BN HN2
                        have BN6 := Lib.hid (B9.out.trans (BN.mono B9.out.size))
                        have RN := Lib.hid (R9.out.on BN)
                        have NN9 := Lib.hid (MapAt.on N9.out BN)
                        have hcl := HCL.out
                        have hml := HM.out
                        clear hwn hnx hen HN2 BN R9 N9 B9
                        refine (named_any (.slice ag i cg) (checkP l) x1 x2 wn (HV6.out.later BN6.out) (by omega)).mono ?_
                        rintro e w13 ⟨rfl, hb⟩
                        rw [HNA.out]
                        have R13 := Lib.hid (RN.out.on hb)
                        have N13 := Lib.hid (MapAt.on NN9.out hb)
                        have B13 := Lib.hid (BN6.out.trans (hb.mono BN6.out.size))
                        clear hb RN NN9 BN6 hcl hml
                        go_wp2
                        go_roundw
                        case rel => exact ⟨dn ++ [((x1, x2), true)], td', R13.out, N13.out, B13.out⟩
                        case measure => rw [R13.out.left, HLF.out]; exact hlt9
end Go.Proofs.YtbkomdinchiffaaGreat
