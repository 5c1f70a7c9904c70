/- Placing labels: the search for a placed label that overlaps a box, and Place. -/
import Derived.Test.YtapllmniplgajaaGreatDoorLabQ
namespace Go.Proofs.YtapllmniplgajaaGreatDoor
open Go.Shelf Go.RowKit Go.Lib Go.Sort

def IdxB (r : Bool) (w : World) (e : Ending) (w' : World) : Prop := (∃ n : Int, e = .returned (.int .i64 n) ∧ (0 ≤ n ↔ r = true)) ∧ Below w.heap.size w w'
theorem any_drop (f : BoxD) (l : List PlaD) (k : Nat) (p : PlaD) (hp : l[k]? = some p) : (l.drop k).any (fun p => overB f p.box) = (overB f p.box || (l.drop (k + 1)).any (fun p => overB f p.box)) := by
  obtain ⟨hk, rfl⟩ := List.getElem?_eq_some_iff.1 hp
  rw [List.drop_eq_getElem_cons hk, List.any_cons]

set_option maxRecDepth 100000 in
set_option maxHeartbeats 1000000 in
theorem idxP_any (f : BoxD) (v : Value) (l : List PlaD) (w : World) (hv : RowE encP 5 w v l) (hl : l.length ≤ 4000) :
    Calls Tryz.prog 65 #[v, .func (.func 39) #[.agg #[.int .i64 f.a, .int .i64 f.b, .int .i64 f.c, .int .i64 f.d]] #[]] w (IdxB (l.any fun p => overB f p.box) w) := by
  obtain ⟨a, cap, rfl, hc⟩ := hv
  generalize hN : l.length = N at *
  have HN := Lib.hid hN
  have HC := Lib.hid hc
  have HM := Lib.hid (fun (p : PlaD) w => meets_any f p w)
  clear hN hc
  go_enter Tryz.func65, Tryz.ntmps65
  go_wp2
  go_loopw [8] (fun i wr => ∃ k : Nat, k ≤ N ∧ i = .int .i64 k ∧ (l.any fun p => overB f p.box) = ((l.drop k).any fun p => overB f p.box) ∧ Below w.heap.size w wr) (fun i _ => N - (intOf i).toNat)
  case atStart => exact ⟨0, by omega, rfl, rfl, Below.refl _ _⟩
  case round =>
    obtain ⟨k, hk, rfl, hT, hbr⟩ := hrel
    have HT := Lib.hid hT
    clear hT
    by_cases hlt : k < N
    · obtain ⟨p, hp⟩ : ∃ p, l[k]? = some p := ⟨l[k]'(by rw [HN.out]; exact hlt), List.getElem?_eq_getElem _⟩
      obtain ⟨b, off, ha, hcell⟩ := HC.out (by omega)
      subst ha
      have c0 : wr.cell? ⟨b, off + k * 5, none⟩ = some (.string p.id) := cell_later hbr (hcell k p hp 0 _ rfl)
      have c1 : wr.cell? ⟨b, off + k * 5 + 1, none⟩ = some (.int .i64 p.box.a) := cell_later hbr (hcell k p hp 1 _ rfl)
      have c2 : wr.cell? ⟨b, off + k * 5 + 2, none⟩ = some (.int .i64 p.box.b) := cell_later hbr (hcell k p hp 2 _ rfl)
      have c3 : wr.cell? ⟨b, off + k * 5 + 3, none⟩ = some (.int .i64 p.box.c) := cell_later hbr (hcell k p hp 3 _ rfl)
      have c4 : wr.cell? ⟨b, off + k * 5 + 4, none⟩ = some (.int .i64 p.box.d) := cell_later hbr (hcell k p hp 4 _ rfl)
      have HD := Lib.hid (any_drop f l k p hp)
      clear hcell hp
      go_wp2_with fail
      refine (HM.out p _).mono ?_
      rintro e w2 ⟨rfl, hb2⟩
      have B2 := below_step hbr (Nat.le_refl _) hb2
      clear c0 c1 c2 c3 c4
      cases ho : overB f p.box
      · have HG := Lib.hid (show (l.any fun p => overB f p.box) = ((l.drop (k + 1)).any fun p => overB f p.box) by rw [HT.out, HD.out, ho]; rfl)
        clear ho
        go_wp2
        go_roundw
        case rel => exact ⟨k + 1, by omega, by go_num, HG.out, B2⟩
        case measure => simp [intOf]; omega
      · have HR := Lib.hid (show (l.any fun p => overB f p.box) = true by rw [HT.out, HD.out, ho]; rfl)
        clear ho
        go_wp2
        go_ret
        exact ⟨⟨_, rfl, by rw [HR.out]; simp⟩, B2⟩
    · obtain rfl : k = N := by omega
      have HR := Lib.hid (show (l.any fun p => overB f p.box) = false by rw [HT.out, List.drop_of_length_le (by rw [HN.out]; exact Nat.le_refl _)]; rfl)
      go_wp2
      go_ret
      exact ⟨⟨_, rfl, by rw [HR.out]; simp⟩, hbr⟩

theorem hasP_any (f : BoxD) (v : Value) (l : List PlaD) (w : World) (hv : RowE encP 5 w v l) (hl : l.length ≤ 4000) :
    Calls Tryz.prog 41 #[v, .func (.func 39) #[.agg #[.int .i64 f.a, .int .i64 f.b, .int .i64 f.c, .int .i64 f.d]] #[]] w fun e w' => e = .returned (.bool (l.any fun p => overB f p.box)) ∧ Below w.heap.size w w' := by
  have HI := Lib.hid (idxP_any f v l w hv hl)
  clear hv
  generalize (l.any fun p => overB f p.box) = r at HI ⊢
  go_enter Tryz.func41, Tryz.ntmps41
  go_wp2_with fail
  refine HI.out.mono ?_
  rintro e w2 ⟨⟨n, rfl, hn⟩, hb2⟩
  cases r
  · have h : ¬ (0 : Int) ≤ n := fun h => by have := hn.1 h; cases this
    clear hn
    go_wp2
    go_ret
    exact ⟨by simp [h], hb2⟩
  · have h : (0 : Int) ≤ n := hn.2 rfl
    clear hn
    go_wp2
    go_ret
    exact ⟨by simp, hb2⟩

/-- Is a place free: inside the box, and over no placed label? -/
def freeB (b f : BoxD) (out : List PlaD) : Bool := insideB f b && !out.any (fun p => overB f p.box)
/-- A label at its first free place from place i on. -/
def tryAt (b : BoxD) (l : LabD) (out : List PlaD) : Nat → Nat → List PlaD
  | _, 0 => out
  | i, n + 1 => if freeB b (placeB l i) out then out ++ [⟨l.id, placeB l i⟩] else tryAt b l out (i + 1) n
def stepL (b : BoxD) (out : List PlaD) (l : LabD) : List PlaD := if validL l then tryAt b l out 0 4 else out
/-- The placed labels. -/
def placeL (b : BoxD) (ls : List LabD) : List PlaD := ls.foldl (stepL b) []

theorem index_places (i : Nat) (hi : i < 4) (w : World) : (Instr.index 71 (.agg #[cornerF 0, cornerF 1, cornerF 2, cornerF 3]) (.int .i64 i)).run Tryz.prog w = .ok (cornerF i) w := by
  simp only [Instr.index, asIntOf, Sem.run_bind, Sem.run_pure, Result.andThen_ok, run_underlying Tryz.underlying71]
  rw [if_pos (by omega)]
  match i, hi with
  | 0, _ => simp [part, go_sem, cornerF]
  | 1, _ => simp [part, go_sem, cornerF]
  | 2, _ => simp [part, go_sem, cornerF]
  | 3, _ => simp [part, go_sem, cornerF]
theorem corner_bd (l : LabD) (hv : validL l = true) (i : Nat) : -134217728 ≤ (corner l i).1 ∧ (corner l i).1 ≤ 134217728 ∧ -134217728 ≤ (corner l i).2 ∧ (corner l i).2 ≤ 134217728 := by
  obtain ⟨x0, x1, y0, y1, w0, w1, h0, h1⟩ := of_decide_eq_true hv
  unfold corner
  split <;> simp only <;> omega
theorem step_len (b : BoxD) (l : LabD) (out : List PlaD) : ∀ n i, (tryAt b l out i n).length ≤ out.length + 1
  | 0, _ => by simp [tryAt]
  | n + 1, i => by
    rw [tryAt]
    split
    · simp
    · exact step_len b l out n (i + 1)
theorem stepL_len (b : BoxD) (out : List PlaD) (l : LabD) : (stepL b out l).length ≤ out.length + 1 := by
  unfold stepL
  split
  · exact step_len b l out 4 0
  · omega
theorem place_len (b : BoxD) : ∀ (ls : List LabD) (out : List PlaD), (ls.foldl (stepL b) out).length ≤ out.length + ls.length
  | [], out => by simp
  | x :: ls, out => by
    have h1 := place_len b ls (stepL b out x)
    have h2 := stepL_len b out x
    rw [List.foldl_cons, List.length_cons]; omega
theorem place_take (b : BoxD) (ls : List LabD) (k : Nat) (x : LabD) (hx : ls[k]? = some x) : (ls.take (k + 1)).foldl (stepL b) [] = stepL b ((ls.take k).foldl (stepL b) []) x := by
  obtain ⟨hk, rfl⟩ := List.getElem?_eq_some_iff.1 hx
  rw [List.take_succ_eq_append_getElem hk, List.foldl_append]; rfl
end Go.Proofs.YtapllmniplgajaaGreatDoor
