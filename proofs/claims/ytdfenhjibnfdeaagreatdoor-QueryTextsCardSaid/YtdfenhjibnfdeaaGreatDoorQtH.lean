/- The reference's SameCond and Same. -/
import Derived.Test.YtdfenhjibnfdeaaGreatDoorQyBf
import Derived.Test.YtdfenhjibnfdeaaGreatDoorQtJ
import Derived.Test.YtdfenhjibnfdeaaGreatDoorQyAh
namespace Go.Proofs.YtdfenhjibnfdeaaGreatDoor
open Go.RowKit Go.Shelf

mutual
/-- Are two conditions equal? -/
def sameC : CondD → CondD → Bool
  | .mk o k v n ks, .mk o2 k2 v2 n2 ks2 => (((decide (o = o2) && decide (k = k2)) && decide (v = v2)) && decide (n = n2)) && (decide (ks.length = ks2.length) && sameL ks ks2)
def sameL : List CondD → List CondD → Bool
  | [], _ => true
  | _ :: _, [] => true
  | x :: r, y :: s => sameC x y && sameL r s
end
mutual
theorem sameC_eq : ∀ c d : CondD, sameC c d = true → c = d
  | .mk o k v n ks, .mk o2 k2 v2 n2 ks2, h => by
    rw [sameC] at h
    simp only [Bool.and_eq_true, decide_eq_true_eq] at h
    obtain ⟨⟨⟨⟨rfl, rfl⟩, rfl⟩, rfl⟩, hl, h⟩ := h
    rw [sameL_eq ks ks2 hl h]
theorem sameL_eq : ∀ ks ks2 : List CondD, ks.length = ks2.length → sameL ks ks2 = true → ks = ks2
  | [], [], _, _ => rfl
  | [], _ :: _, hl, _ => by cases hl
  | _ :: _, [], hl, _ => by cases hl
  | x :: r, y :: s, hl, h => by
    rw [sameL, Bool.and_eq_true] at h
    rw [sameC_eq x y h.1, sameL_eq r s (by simpa using hl) h.2]
end
mutual
theorem sameC_refl : ∀ c : CondD, sameC c c = true
  | .mk o k v n ks => by
    rw [sameC, sameL_refl ks]; simp
theorem sameL_refl : ∀ ks : List CondD, sameL ks ks = true
  | [] => rfl
  | x :: r => by rw [sameL, sameC_refl x, sameL_refl r]; rfl
end
theorem sameL_take : ∀ (ks ks2 : List CondD) (i : Nat) (c d : CondD), ks[i]? = some c → ks2[i]? = some d → sameL (ks.take (i + 1)) (ks2.take (i + 1)) = (sameL (ks.take i) (ks2.take i) && sameC c d)
  | [], _, _, _, _, h, _ => by cases h
  | _ :: _, [], _, _, _, _, h => by cases h
  | x :: r, y :: s, i, c, d, h, h2 => by
    cases i with
    | zero =>
      injection h with h; injection h2 with h2; subst h h2
      simp [sameL]
    | succ i =>
      have := sameL_take r s i c d h h2
      rw [List.take_succ_cons, List.take_succ_cons, sameL, this, List.take_succ_cons, List.take_succ_cons, sameL, Bool.and_assoc]
theorem sameL_bad : ∀ (ks ks2 : List CondD) (i : Nat) (c d : CondD), ks[i]? = some c → ks2[i]? = some d → sameC c d = false → sameL ks ks2 = false
  | [], _, _, _, _, h, _, _ => by cases h
  | _ :: _, [], _, _, _, _, h, _ => by cases h
  | x :: r, y :: s, i, c, d, h, h2, hb => by
    rw [sameL]
    cases i with
    | zero => injection h with h; injection h2 with h2; subst h h2; rw [hb]; rfl
    | succ i => rw [sameL_bad r s i c d h h2 hb, Bool.and_false]
def SameK (k : Nat) : Prop := ∀ (c d : CondD) (a : Option Addr) (cap : Nat) (a2 : Option Addr) (cap2 : Nat) (w : World), cnodes c ≤ k → CondIs w c a → CondIs w d a2 →
  Calls Tryz.prog 40 #[condV c a cap, condV d a2 cap2] w fun e w' => e = .returned (.bool (sameC c d)) ∧ Below w.heap.size w w'
set_option maxRecDepth 100000 in
set_option maxHeartbeats 8000000 in
theorem same_step (k : Nat) (IH : SameK k) : SameK (k + 1) := by
  intro c d a cap a2 cap2 w hk hc hd
  obtain ⟨op, key, val, n, ks⟩ := c
  obtain ⟨op2, key2, val2, n2, ks2⟩ := d
  have hk2 : cnodesL ks ≤ k := by rw [cnodes] at hk; omega
  obtain ⟨-, -, h3, h4⟩ := hc.open
  obtain ⟨-, -, g3, g4⟩ := hd.open
  have h3 : ks.length ≤ 140737488355328 := h3
  have g3 : ks2.length ≤ 140737488355328 := g3
  have B1 := ((Below.refl w.heap.size w).alloc (Nat.le_refl _) (.cells #[.int .i64 op, .string key, .string val, .int .i64 n, .slice a ks.length cap] 24)).alloc (by simp) (.cells #[.int .i64 op2, .string key2, .string val2, .int .i64 n2, .slice a2 ks2.length cap2] 24)
  have hx := row_past (o' := .cells #[.int .i64 op2, .string key2, .string val2, .int .i64 n2, .slice a2 ks2.length cap2] 24) (row_new w (.cells #[.int .i64 op, .string key, .string val, .int .i64 n, .slice a ks.length cap] 24))
  have hy := row_new (w.alloc (.cells #[.int .i64 op, .string key, .string val, .int .i64 n, .slice a ks.length cap] 24)) (.cells #[.int .i64 op2, .string key2, .string val2, .int .i64 n2, .slice a2 ks2.length cap2] 24)
  simp only [World.size_alloc] at hy
  have HX0 := Lib.hid hx
  have HY0 := Lib.hid hy
  obtain ⟨RES, hRES⟩ : ∃ z, sameC (.mk op key val n ks) (.mk op2 key2 val2 n2 ks2) = z := ⟨_, rfl⟩
  have HRES := Lib.hid (show ((((decide (op = op2) && decide (key = key2)) && decide (val = val2)) && decide (n = n2)) && (decide (ks.length = ks2.length) && sameL ks ks2)) = RES by rw [← hRES, sameC])
  show Calls Tryz.prog 40 #[.agg #[.int .i64 op, .string key, .string val, .int .i64 n, .slice a ks.length cap], .agg #[.int .i64 op2, .string key2, .string val2, .int .i64 n2, .slice a2 ks2.length cap2]] w _
  rw [hRES]
  obtain ⟨N, hN⟩ : ∃ N, ks.length = N := ⟨_, rfl⟩
  obtain ⟨N2, hN2⟩ : ∃ N, ks2.length = N := ⟨_, rfl⟩
  rw [hN] at h3 HX0 HY0 B1 HRES ⊢
  rw [hN2] at g3 HX0 HY0 B1 HRES ⊢
  have HN := Lib.hid hN
  have HN2 := Lib.hid hN2
  have H4 := Lib.hid (show 0 < ks.length → ∃ b off, a = some ⟨b, off, none⟩ ∧ KidsIs w b ks off from h4)
  have G4 := Lib.hid (show 0 < ks2.length → ∃ b off, a2 = some ⟨b, off, none⟩ ∧ KidsIs w b ks2 off from g4)
  clear hc hd h4 g4 hk hN hN2 hRES hx hy
  by_cases e1 : op = op2
  case neg =>
    have HR := Lib.hid (show false = RES by rw [← HRES.out, decide_eq_false e1]; rfl)
    have x1 : (op != op2) = true := by rw [bne_iff_ne]; exact e1
    clear HRES e1
    go_enter Tryz.func40, Tryz.ntmps40
    go_wp2
    go_ret
    exact ⟨ret_bool HR.out, B1⟩
  subst e1
  by_cases e2 : key = key2
  case neg =>
    have HR := Lib.hid (show false = RES by rw [← HRES.out, decide_eq_false e2, Bool.and_false]; rfl)
    have x2 := ne_str e2
    clear HRES e2
    go_enter Tryz.func40, Tryz.ntmps40
    go_wp2
    go_ret
    exact ⟨ret_bool HR.out, B1⟩
  subst e2
  by_cases e3 : val = val2
  case neg =>
    have HR := Lib.hid (show false = RES by rw [← HRES.out, decide_eq_false e3, Bool.and_false]; rfl)
    have x3 := ne_str e3
    clear HRES e3
    go_enter Tryz.func40, Tryz.ntmps40
    go_wp2
    go_ret
    exact ⟨ret_bool HR.out, B1⟩
  subst e3
  by_cases e4 : n = n2
  case neg =>
    have HR := Lib.hid (show false = RES by rw [← HRES.out, decide_eq_false e4, Bool.and_false]; rfl)
    have x4 : (n != n2) = true := by rw [bne_iff_ne]; exact e4
    clear HRES e4
    go_enter Tryz.func40, Tryz.ntmps40
    go_wp2
    go_ret
    exact ⟨ret_bool HR.out, B1⟩
  subst e4
  by_cases e5 : N = N2
  case neg =>
    have HR := Lib.hid (show false = RES by rw [← HRES.out, decide_eq_false e5, Bool.false_and, Bool.and_false])
    have x5 : ((N : Int) != (N2 : Int)) = true := by rw [bne_iff_ne]; omega
    clear HRES e5
    go_enter Tryz.func40, Tryz.ntmps40
    go_wp2
    go_ret
    exact ⟨ret_bool HR.out, B1⟩
  subst e5
  have HR := Lib.hid (show sameL ks ks2 = RES by
    have := HRES.out
    simpa using this)
  clear HRES g3
  go_enter Tryz.func40, Tryz.ntmps40
  go_wp2
  go_loopw [5] (fun i wr => ∃ (j : Nat), j ≤ N ∧ i = .int .i64 j ∧ sameL (ks.take j) (ks2.take j) = true ∧ Below w.heap.size w wr ∧ wr.heap[w.heap.size]? = some (.cells #[.int .i64 op, .string key, .string val, .int .i64 n, .slice a N cap] 24 (0, 0)) ∧ wr.heap[w.heap.size + 1]? = some (.cells #[.int .i64 op, .string key, .string val, .int .i64 n, .slice a2 N cap2] 24 (0, 0))) (fun i _ => N - (intOf i).toNat)
  case atStart => exact ⟨0, by omega, rfl, rfl, B1, HX0.out, HY0.out⟩
  case round =>
    obtain ⟨j, hj, rfl, hcl, hbr, hbx, hby⟩ := hrel
    have HCL := Lib.hid hcl
    have HBX := Lib.hid hbx
    have HBY := Lib.hid hby
    clear hbx hby hcl
    by_cases hlt : j < N
    · obtain ⟨c, hcj⟩ : ∃ c, ks[j]? = some c := ⟨ks[j]'(by rw [HN.out]; exact hlt), List.getElem?_eq_getElem _⟩
      obtain ⟨d, hdj⟩ : ∃ c, ks2[j]? = some c := ⟨ks2[j]'(by rw [HN2.out]; exact hlt), List.getElem?_eq_getElem _⟩
      obtain ⟨b, off, ha, hrow⟩ := H4.out (by rw [HN.out]; omega)
      obtain ⟨b2, off2, ha2, hrow2⟩ := G4.out (by rw [HN2.out]; omega)
      subst ha ha2
      obtain ⟨a', cap', ⟨q0, q1, q2, q3, q4⟩, hci⟩ := KidsIs.at _ _ j c hrow hcj
      obtain ⟨a2', cap2', ⟨p0, p1, p2, p3, p4⟩, hdi⟩ := KidsIs.at _ _ j d hrow2 hdj
      have c0 := cell_later hbr q0
      have c1 := cell_later hbr q1
      have c2 := cell_later hbr q2
      have c3 := cell_later hbr q3
      have c4 := cell_later hbr q4
      have d0 := cell_later hbr p0
      have d1 := cell_later hbr p1
      have d2 := cell_later hbr p2
      have d3 := cell_later hbr p3
      have d4 := cell_later hbr p4
      have CL := Lib.hid (fun W (hW : Below wr.heap.size wr W) => IH c d a' cap' a2' cap2' W (Nat.le_trans (cnodes_kid _ _ _ hcj) hk2) ((hci.later hbr).later hW) ((hdi.later hbr).later hW))
      have HTK := Lib.hid (sameL_take ks ks2 j c d hcj hdj)
      have HBD := Lib.hid (sameL_bad ks ks2 j c d hcj hdj)
      have dl : decide ((j : Int) < N) = true := decide_eq_true (by omega)
      clear q0 q1 q2 q3 q4 p0 p1 p2 p3 p4 hci hdi hrow hrow2 hcj hdj
      rw [cond_cells, cond_cells] at CL
      obtain ⟨mb, hmb⟩ : ∃ z, sameC c d = z := ⟨_, rfl⟩
      rw [hmb] at CL HTK HBD
      clear hmb
      have zz := lt_of_block HBX.out
      have z0 := cell_of_row wr _ 0 _ _ _ HBX.out
      have z1 := cell_of_row wr _ 1 _ _ _ HBX.out
      have z2 := cell_of_row wr _ 2 _ _ _ HBX.out
      have z3 := cell_of_row wr _ 3 _ _ _ HBX.out
      have z4 := cell_of_row wr _ 4 _ _ _ HBX.out
      simp only [List.getElem?_toArray, List.getElem?_cons_zero, List.getElem?_cons_succ] at z0 z1 z2 z3 z4
      have yz := lt_of_block HBY.out
      have y0 := cell_of_row wr _ 0 _ _ _ HBY.out
      have y1 := cell_of_row wr _ 1 _ _ _ HBY.out
      have y2 := cell_of_row wr _ 2 _ _ _ HBY.out
      have y3 := cell_of_row wr _ 3 _ _ _ HBY.out
      have y4 := cell_of_row wr _ 4 _ _ _ HBY.out
      simp only [List.getElem?_toArray, List.getElem?_cons_zero, List.getElem?_cons_succ] at y0 y1 y2 y3 y4
      have f0 := cell_belowBy c0
      have f1 := cell_belowBy c1
      have f2 := cell_belowBy c2
      have f3 := cell_belowBy c3
      have f4 := cell_belowBy c4
      have g0 := cell_belowBy d0
      have g1 := cell_belowBy d1
      have g2 := cell_belowBy d2
      have g3 := cell_belowBy d3
      have g4 := cell_belowBy d4
      have zz := cell_belowBy z4
      have yy := cell_belowBy y4
      have hmx : Tryz.prog.follows .mixedOrders = true := by kernel_rfl
      go_wp2
      refine wp_region_quiet_below (by assumption) (by kernel_rfl) ?_
      repeat (go_big_quiet_step (first | (go_at_call 40; exact calls_belowBy (CL.out _ (BelowBy.below _)))))
      refine wpQuiet_nil ?_
      intro w6 hw'
      obtain ⟨⟨w3, hb3⟩, hw''⟩ := hw'
      subst hw''
      have HX3 := Lib.hid (row_later hb3 HBX.out)
      have HY3 := Lib.hid (row_later hb3 HBY.out)
      have B3 := below_step hbr (Nat.le_refl _) hb3
      clear hb3 CL f0 f1 f2 f3 f4 g0 g1 g2 g3 g4 zz yy
      cases mb
      · have HE := Lib.hid (show false = RES by rw [← HR.out, HBD.out rfl])
        go_wp2
        go_ret
        exact ⟨ret_bool HE.out, B3⟩
      · have HC2 := Lib.hid (show sameL (ks.take (j + 1)) (ks2.take (j + 1)) = true from by rw [HTK.out, HCL.out]; rfl)
        go_wp2
        go_roundw
        case rel => exact ⟨j + 1, by omega, by go_num, HC2.out, B3, HX3.out, HY3.out⟩
        case measure => simp [intOf]; omega
    · obtain rfl : j = N := by omega
      have hcl2 := HCL.out
      rw [List.take_of_length_le (by rw [HN.out]; exact Nat.le_refl _), List.take_of_length_le (by rw [HN2.out]; exact Nat.le_refl _)] at hcl2
      have HE := Lib.hid (show true = RES by rw [← HR.out, hcl2])
      have dl : decide ((j : Int) < j) = false := decide_eq_false (by omega)
      clear hcl2
      have zz := lt_of_block HBX.out
      have z0 := cell_of_row wr _ 0 _ _ _ HBX.out
      have z1 := cell_of_row wr _ 1 _ _ _ HBX.out
      have z2 := cell_of_row wr _ 2 _ _ _ HBX.out
      have z3 := cell_of_row wr _ 3 _ _ _ HBX.out
      have z4 := cell_of_row wr _ 4 _ _ _ HBX.out
      simp only [List.getElem?_toArray, List.getElem?_cons_zero, List.getElem?_cons_succ] at z0 z1 z2 z3 z4
      have yz := lt_of_block HBY.out
      have y0 := cell_of_row wr _ 0 _ _ _ HBY.out
      have y1 := cell_of_row wr _ 1 _ _ _ HBY.out
      have y2 := cell_of_row wr _ 2 _ _ _ HBY.out
      have y3 := cell_of_row wr _ 3 _ _ _ HBY.out
      have y4 := cell_of_row wr _ 4 _ _ _ HBY.out
      simp only [List.getElem?_toArray, List.getElem?_cons_zero, List.getElem?_cons_succ] at y0 y1 y2 y3 y4
      go_wp2
      go_ret
      exact ⟨ret_bool HE.out, hbr⟩
theorem same_all : ∀ k, SameK k
  | 0 => fun c _ _ _ _ _ _ hk => by have := cnodes_pos c; omega
  | k + 1 => same_step k (same_all k)
theorem samec_any (c d : CondD) (a : Option Addr) (cap : Nat) (a2 : Option Addr) (cap2 : Nat) (w : World) (hc : CondIs w c a) (hd : CondIs w d a2) :
    Calls Tryz.prog 40 #[condV c a cap, condV d a2 cap2] w fun e w' => e = .returned (.bool (sameC c d)) ∧ Below w.heap.size w w' := same_all (cnodes c) c d a cap a2 cap2 w (Nat.le_refl _) hc hd
end Go.Proofs.YtdfenhjibnfdeaaGreatDoor
namespace Go.Proofs.YtdfenhjibnfdeaaGreatDoor
open Go.RowKit Go.Shelf

/-- Are two queries equal? -/
def sameQ (q p : QryD) : Bool := ((((((((decide (q.ask = p.ask) && decide (q.kind = p.kind)) && decide (q.id = p.id)) && decide (q.n = p.n)) && decide (q.x = p.x ∧ q.y = p.y)) && decide (q.key = p.key)) && decide (q.prof = p.prof)) && decide (q.minute = p.minute)) && sameC q.wher p.wher)
theorem sameQ_eq {q p : QryD} (h : sameQ q p = true) : q = p := by
  obtain ⟨a, b, c, d, e, f, g, h1, h2, h3⟩ := q
  obtain ⟨a', b', c', d', e', f', g', h1', h2', h3'⟩ := p
  unfold sameQ at h
  simp only [Bool.and_eq_true, decide_eq_true_eq] at h
  obtain ⟨⟨⟨⟨⟨⟨⟨⟨rfl, rfl⟩, rfl⟩, rfl⟩, rfl, rfl⟩, rfl⟩, rfl⟩, rfl⟩, h⟩ := h
  rw [sameC_eq _ _ h]
theorem sameQ_refl (q : QryD) : sameQ q q = true := by
  unfold sameQ; rw [sameC_refl]; simp
set_option maxRecDepth 100000 in
set_option maxHeartbeats 8000000 in
theorem same_any (q p : QryD) (a : Option Addr) (cap : Nat) (a2 : Option Addr) (cap2 : Nat) (w : World) (hc : CondIs w q.wher a) (hd : CondIs w p.wher a2) :
    Calls Tryz.prog 14 #[qryV q a cap, qryV p a2 cap2] w fun e w' => e = .returned (.bool (sameQ q p)) ∧ Below w.heap.size w w' := by
  obtain ⟨ask, kind, ⟨op, ck, cv, cn, ks⟩, id, n, x, y, key, prof, minute⟩ := q
  obtain ⟨ask2, kind2, ⟨op2, ck2, cv2, cn2, ks2⟩, id2, n2, x2, y2, key2, prof2, minute2⟩ := p
  have B1 := ((Below.refl w.heap.size w).alloc (Nat.le_refl _) (.cells #[.int .i64 ask, .int .i64 kind, .int .i64 op, .string ck, .string cv, .int .i64 cn, .slice a ks.length cap, .string id, .int .i64 n, .int .i64 x, .int .i64 y, .string key, .string prof, .int .i64 minute] 28)).alloc (by simp) (.cells #[.int .i64 ask2, .int .i64 kind2, .int .i64 op2, .string ck2, .string cv2, .int .i64 cn2, .slice a2 ks2.length cap2, .string id2, .int .i64 n2, .int .i64 x2, .int .i64 y2, .string key2, .string prof2, .int .i64 minute2] 28)
  have HS := Lib.hid (fun W (hW : Below w.heap.size w W) => samec_any (.mk op ck cv cn ks) (.mk op2 ck2 cv2 cn2 ks2) a cap a2 cap2 W (hc.later hW) (hd.later hW))
  obtain ⟨b, hb⟩ : ∃ b, sameC (.mk op ck cv cn ks) (.mk op2 ck2 cv2 cn2 ks2) = b := ⟨_, rfl⟩
  have HRES := Lib.hid (show ((((((((decide (ask = ask2) && decide (kind = kind2)) && decide (id = id2)) && decide (n = n2)) && decide (x = x2 ∧ y = y2)) && decide (key = key2)) && decide (prof = prof2)) && decide (minute = minute2)) && sameC (.mk op ck cv cn ks) (.mk op2 ck2 cv2 cn2 ks2)) = sameQ ⟨ask, kind, .mk op ck cv cn ks, id, n, x, y, key, prof, minute⟩ ⟨ask2, kind2, .mk op2 ck2 cv2 cn2 ks2, id2, n2, x2, y2, key2, prof2, minute2⟩ from rfl)
  obtain ⟨RES, hRES⟩ : ∃ z, sameQ ⟨ask, kind, .mk op ck cv cn ks, id, n, x, y, key, prof, minute⟩ ⟨ask2, kind2, .mk op2 ck2 cv2 cn2 ks2, id2, n2, x2, y2, key2, prof2, minute2⟩ = z := ⟨_, rfl⟩
  show Calls Tryz.prog 14 #[.agg #[.int .i64 ask, .int .i64 kind, .int .i64 op, .string ck, .string cv, .int .i64 cn, .slice a ks.length cap, .string id, .int .i64 n, .int .i64 x, .int .i64 y, .string key, .string prof, .int .i64 minute], .agg #[.int .i64 ask2, .int .i64 kind2, .int .i64 op2, .string ck2, .string cv2, .int .i64 cn2, .slice a2 ks2.length cap2, .string id2, .int .i64 n2, .int .i64 x2, .int .i64 y2, .string key2, .string prof2, .int .i64 minute2]] w _
  rw [hRES] at HRES ⊢
  rw [hb] at HS HRES
  rw [cond_cells, cond_cells] at HS
  clear hc hd hRES hb
  by_cases e1 : ask = ask2
  case neg =>
    have HR := Lib.hid (show false = RES by rw [← HRES.out, decide_eq_false e1]; rfl)
    have x1 : (ask == ask2) = false := by rw [beq_eq_false_iff_ne]; exact e1
    clear HRES e1 HS
    go_enter Tryz.func14, Tryz.ntmps14
    go_wp2
    go_ret
    exact ⟨ret_bool HR.out, B1⟩
  subst e1
  by_cases e1 : kind = kind2
  case neg =>
    have HR := Lib.hid (show false = RES by rw [← HRES.out, decide_eq_false e1, Bool.and_false]; rfl)
    have x1 : (kind == kind2) = false := by rw [beq_eq_false_iff_ne]; exact e1
    clear HRES e1 HS
    go_enter Tryz.func14, Tryz.ntmps14
    go_wp2
    go_ret
    exact ⟨ret_bool HR.out, B1⟩
  subst e1
  by_cases e1 : id = id2
  case neg =>
    have HR := Lib.hid (show false = RES by rw [← HRES.out, decide_eq_false e1, Bool.and_false]; rfl)
    have x1 := ne_str e1
    clear HRES e1 HS
    go_enter Tryz.func14, Tryz.ntmps14
    go_wp2
    go_ret
    exact ⟨ret_bool HR.out, B1⟩
  subst e1
  by_cases e1 : n = n2
  case neg =>
    have HR := Lib.hid (show false = RES by rw [← HRES.out, decide_eq_false e1, Bool.and_false]; rfl)
    have x1 : (n == n2) = false := by rw [beq_eq_false_iff_ne]; exact e1
    clear HRES e1 HS
    go_enter Tryz.func14, Tryz.ntmps14
    go_wp2
    go_ret
    exact ⟨ret_bool HR.out, B1⟩
  subst e1
  by_cases e1 : x = x2
  case neg =>
    have HR := Lib.hid (show false = RES by rw [← HRES.out, decide_eq_false (fun h : x = x2 ∧ y = y2 => e1 h.1), Bool.and_false]; rfl)
    have x1 : (x == x2) = false := by rw [beq_eq_false_iff_ne]; exact e1
    clear HRES e1 HS
    go_enter Tryz.func14, Tryz.ntmps14
    go_wp2
    go_ret
    exact ⟨ret_bool HR.out, B1⟩
  subst e1
  by_cases e1 : y = y2
  case neg =>
    have HR := Lib.hid (show false = RES by rw [← HRES.out, decide_eq_false (fun h : x = x ∧ y = y2 => e1 h.2), Bool.and_false]; rfl)
    have x1 : (y == y2) = false := by rw [beq_eq_false_iff_ne]; exact e1
    clear HRES e1 HS
    go_enter Tryz.func14, Tryz.ntmps14
    go_wp2
    go_ret
    exact ⟨ret_bool HR.out, B1⟩
  subst e1
  by_cases e1 : key = key2
  case neg =>
    have HR := Lib.hid (show false = RES by rw [← HRES.out, decide_eq_false e1, Bool.and_false]; rfl)
    have x1 := ne_str e1
    clear HRES e1 HS
    go_enter Tryz.func14, Tryz.ntmps14
    go_wp2
    go_ret
    exact ⟨ret_bool HR.out, B1⟩
  subst e1
  by_cases e1 : prof = prof2
  case neg =>
    have HR := Lib.hid (show false = RES by rw [← HRES.out, decide_eq_false e1, Bool.and_false]; rfl)
    have x1 := ne_str e1
    clear HRES e1 HS
    go_enter Tryz.func14, Tryz.ntmps14
    go_wp2
    go_ret
    exact ⟨ret_bool HR.out, B1⟩
  subst e1
  by_cases e1 : minute = minute2
  case neg =>
    have HR := Lib.hid (show false = RES by rw [← HRES.out, decide_eq_false e1, Bool.and_false]; rfl)
    have x1 : (minute == minute2) = false := by rw [beq_eq_false_iff_ne]; exact e1
    clear HRES e1 HS
    go_enter Tryz.func14, Tryz.ntmps14
    go_wp2
    go_ret
    exact ⟨ret_bool HR.out, B1⟩
  subst e1
  have HR := Lib.hid (show b = RES by have := HRES.out; simpa using this)
  clear HRES
  have BB := Lib.hid B1
  go_enter Tryz.func14, Tryz.ntmps14
  go_wp2_with fail
  refine (HS.out _ BB.out).mono ?_
  rintro e w3 ⟨rfl, hb3⟩
  have B3 := below_step BB.out (Nat.le_refl _) hb3
  go_wp2
  go_ret
  exact ⟨ret_bool HR.out, B3⟩
end Go.Proofs.YtdfenhjibnfdeaaGreatDoor
