/- A stable sort, in plain terms: swaps of ranges, rotation, merging by symmetric comparisons, and what they make of a list. -/
import Derived.Sort.Statements
namespace Go.Proofs.YtapllmniplgajaaGreatDoor
open Go.Sort
section
variable {α : Type} (lt : α → α → Bool)
/-- The merge of two lists: what is equal is taken off the first one. -/
def mrg : List α → List α → List α
  | [], T => T
  | s :: S, [] => s :: S
  | s :: S, t :: T => if lt t s then t :: mrg (s :: S) T else s :: mrg S (t :: T)
termination_by S T => S.length + T.length

theorem mrg_nil (S : List α) : mrg lt S [] = S := by cases S <;> simp [mrg]
theorem mrg_nil' (S : List α) : mrg lt [] S = S := by simp [mrg]
theorem mrg_length : ∀ (n : Nat) (S T : List α), S.length + T.length = n → (mrg lt S T).length = n := by
  intro n
  induction n with
  | zero => intro S T h; cases S <;> cases T <;> simp at h <;> simp [mrg]
  | succ n ih =>
    intro S T h
    cases S with
    | nil => simpa [mrg] using h
    | cons s S =>
      cases T with
      | nil => simpa [mrg] using h
      | cons t T =>
        rw [mrg]
        split
        · rw [List.length_cons, ih (s :: S) T (by simp at h ⊢; omega)]
        · rw [List.length_cons, ih S (t :: T) (by simp at h ⊢; omega)]

theorem mrg_split : ∀ (n : Nat) (A1 B1 A2 B2 : List α), A1.length + B1.length = n → (∀ x ∈ A2, ∀ y ∈ B1, lt y x = true) → (∀ x ∈ A1, ∀ y ∈ B2, lt y x = false) → mrg lt (A1 ++ A2) (B1 ++ B2) = mrg lt A1 B1 ++ mrg lt A2 B2 := by
  intro n
  induction n with
  | zero => intro A1 B1 A2 B2 h _ _; cases A1 <;> cases B1 <;> simp at h <;> simp [mrg]
  | succ n ih =>
    intro A1 B1 A2 B2 h h1 h2
    cases A1 with
    | nil =>
      cases B1 with
      | nil => simp at h
      | cons y B1 =>
        have ihh := ih [] B1 A2 B2 (by simp at h ⊢; omega) (fun x hx z hz => h1 x hx z (List.mem_cons_of_mem _ hz)) (by intro x hx; cases hx)
        cases A2 with
        | nil => simp [mrg]
        | cons x A2 =>
          simp only [List.nil_append, List.cons_append, mrg_nil'] at ihh ⊢
          rw [mrg, h1 x (List.mem_cons_self ..) y (List.mem_cons_self ..), if_pos rfl, ihh]
    | cons x A1 =>
      cases B1 with
      | nil =>
        cases B2 with
        | nil => simp [mrg_nil]
        | cons y B2 =>
          have ihh := ih A1 [] A2 (y :: B2) (by simp at h ⊢; omega) (by intro _ _ z hz; cases hz) (fun z hz => h2 z (List.mem_cons_of_mem _ hz))
          simp only [List.nil_append, List.cons_append, mrg_nil] at ihh ⊢
          rw [mrg, h2 x (List.mem_cons_self ..) y (List.mem_cons_self ..)]
          simp only [Bool.false_eq_true, if_false]
          rw [ihh]
      | cons y B1 =>
        simp only [List.cons_append]
        rw [mrg, mrg]
        by_cases hl : lt y x = true
        · rw [if_pos hl, if_pos hl]
          have := ih (x :: A1) B1 A2 B2 (by simp at h ⊢; omega) (fun z hz t ht => h1 z hz t (List.mem_cons_of_mem _ ht)) h2
          simp only [List.cons_append] at this ⊢
          rw [this]
        · rw [if_neg hl, if_neg hl]
          have := ih A1 (y :: B1) A2 B2 (by simp at h ⊢; omega) h1 (fun z hz => h2 z (List.mem_cons_of_mem _ hz))
          simp only [List.cons_append] at this ⊢
          rw [this]

/-- One text laid into an ordered list, behind what is equal. -/
def insL (x : α) : List α → List α
  | [] => [x]
  | y :: L => if lt x y then x :: y :: L else y :: insL x L
/-- THE STABLE ORDER of a list. -/
def isort (L : List α) : List α := L.foldl (fun acc x => insL lt x acc) []

theorem insL_mrg (hO : SWO lt) (x : α) : ∀ (n : Nat) (S T : List α), S.length + T.length = n → insL lt x (mrg lt S T) = mrg lt S (insL lt x T) := by
  intro n
  induction n with
  | zero => intro S T h; cases S <;> cases T <;> simp at h <;> simp [mrg, insL]
  | succ n ih =>
    intro S T h
    cases S with
    | nil => simp [mrg]
    | cons s S =>
      cases T with
      | nil =>
        have := ih S [] (by simp at h ⊢; omega)
        rw [mrg_nil] at this ⊢
        rw [insL, insL, mrg]
        simp only [mrg_nil]
        rw [this, insL]
      | cons t T =>
        rw [mrg]
        by_cases hts : lt t s = true
        · rw [if_pos hts, insL, insL]
          by_cases hxt : lt x t = true
          · rw [if_pos hxt, if_pos hxt, mrg, if_pos (hO.trans _ _ _ hxt hts), mrg, if_pos hts]
          · rw [if_neg hxt, if_neg hxt, mrg, if_pos hts, ih (s :: S) T (by simp at h ⊢; omega)]
        · rw [if_neg hts, insL, insL]
          by_cases hxt : lt x t = true
          · rw [if_pos hxt, mrg]
            by_cases hxs : lt x s = true
            · rw [if_pos hxs, if_pos hxs, mrg, if_neg hts]
            · rw [if_neg hxs, if_neg hxs, ih S (t :: T) (by simp at h ⊢; omega), insL, if_pos hxt]
          · have hxs : lt x s = false := by
              have := hO.ntrans x t s (by simpa using hxt) (by simpa using hts)
              exact this
            rw [if_neg hxt, hxs]
            simp only [Bool.false_eq_true, if_false]
            rw [mrg, if_neg hts, ih S (t :: T) (by simp at h ⊢; omega), insL, if_neg hxt]

theorem isort_snoc (L : List α) (x : α) : isort lt (L ++ [x]) = insL lt x (isort lt L) := by simp [isort]
theorem isort_append (hO : SWO lt) (A : List α) : ∀ (n : Nat) (B : List α), B.length = n → isort lt (A ++ B) = mrg lt (isort lt A) (isort lt B) := by
  intro n
  induction n with
  | zero => intro B h; cases B with
    | nil => simp [isort, mrg_nil]
    | cons => simp at h
  | succ n ih =>
    intro B h
    have hne : B ≠ [] := by intro h0; rw [h0] at h; simp at h
    obtain ⟨W, v, rfl⟩ : ∃ W v, B = W ++ [v] := ⟨B.dropLast, B.getLast hne, (List.dropLast_concat_getLast hne).symm⟩
    rw [← List.append_assoc, isort_snoc, isort_snoc, ih W (by simpa using h), insL_mrg lt hO v _ _ _ rfl]

theorem insL_length (x : α) : ∀ L, (insL lt x L).length = L.length + 1
  | [] => rfl
  | y :: L => by rw [insL]; split <;> simp [insL_length x L]
theorem isort_length (L : List α) : (isort lt L).length = L.length := by
  have : ∀ (L acc : List α), (L.foldl (fun acc x => insL lt x acc) acc).length = acc.length + L.length := by
    intro L
    induction L with
    | nil => intro acc; simp
    | cons x L ih => intro acc; rw [List.foldl_cons, ih, insL_length]; simp; omega
  rw [isort, this]; simp

/-- Ordered: nothing is less than what stands before it. -/
def Ord (L : List α) : Prop := L.Pairwise (fun x y => lt y x = false)

theorem insL_mem (x : α) : ∀ (L : List α) (z : α), z ∈ insL lt x L ↔ z = x ∨ z ∈ L
  | [], z => by simp [insL]
  | y :: L, z => by
    rw [insL]
    split
    · simp
    · rw [List.mem_cons, insL_mem x L z, List.mem_cons]
      constructor <;> (intro h; rcases h with h | h | h <;> simp [h])

theorem insL_ord (hO : SWO lt) (x : α) : ∀ (L : List α), Ord lt L → Ord lt (insL lt x L)
  | [], _ => by simp [insL, Ord]
  | y :: L, h => by
    obtain ⟨h1, h2⟩ := List.pairwise_cons.1 h
    rw [insL]
    by_cases hl : lt x y = true
    · rw [if_pos hl]
      have hyx : lt y x = false := by
        cases hh : lt y x
        · rfl
        · have := hO.trans _ _ _ hl hh; rw [hO.irrefl] at this; cases this
      refine List.pairwise_cons.2 ⟨fun z hz => ?_, h⟩
      rcases List.mem_cons.1 hz with rfl | hz
      · exact hyx
      · exact hO.ntrans _ _ _ (h1 z hz) hyx
    · rw [if_neg hl]
      refine List.pairwise_cons.2 ⟨fun z hz => ?_, insL_ord hO x L h2⟩
      rcases (insL_mem lt x L z).1 hz with rfl | hz
      · simpa using hl
      · exact h1 z hz
theorem isort_ord (hO : SWO lt) (L : List α) : Ord lt (isort lt L) := by
  have : ∀ (L acc : List α), Ord lt acc → Ord lt (L.foldl (fun acc x => insL lt x acc) acc) := by
    intro L
    induction L with
    | nil => intro acc h; exact h
    | cons x L ih => intro acc h; exact ih _ (insL_ord lt hO x acc h)
  exact this L [] List.Pairwise.nil

theorem insL_last (x s : α) : ∀ S : List α, lt x s = true → insL lt x (S ++ [s]) = insL lt x S ++ [s]
  | [], h => by simp [insL, h]
  | y :: S, h => by
    simp only [List.cons_append, insL]
    split
    · simp
    · rw [insL_last x s S h]; simp
theorem insL_end (x : α) : ∀ S : List α, (∀ y ∈ S, lt x y = false) → insL lt x S = S ++ [x]
  | [], _ => rfl
  | y :: S, h => by
    rw [insL, h y (List.mem_cons_self ..)]
    simp only [Bool.false_eq_true, if_false, List.cons_append]
    rw [insL_end x S fun z hz => h z (List.mem_cons_of_mem _ hz)]

theorem ord_get (L : List α) (h : Ord lt L) (i j : Nat) (hij : i < j) (hj : j < L.length) : lt L[j] L[i] = false :=
  List.pairwise_iff_getElem.1 h i j (by omega) hj hij

theorem mrg_one_left (x : α) (B1 B2 : List α) (h1 : ∀ y ∈ B1, lt y x = true) (h2 : ∀ y ∈ B2, lt y x = false) : mrg lt [x] (B1 ++ B2) = B1 ++ x :: B2 := by
  have a := mrg_split lt _ [] B1 [x] B2 rfl (fun z hz y hy => by rw [List.mem_singleton.1 hz]; exact h1 y hy) (by intro z hz; cases hz)
  have b := mrg_split lt _ [x] [] [] B2 rfl (by intro z hz; cases hz) (fun z hz y hy => by rw [List.mem_singleton.1 hz]; exact h2 y hy)
  simp only [List.nil_append, List.append_nil, mrg_nil, mrg_nil', List.cons_append] at a b
  rw [a, b]
theorem mrg_one_right (y : α) (A1 A2 : List α) (h1 : ∀ x ∈ A1, lt y x = false) (h2 : ∀ x ∈ A2, lt y x = true) : mrg lt (A1 ++ A2) [y] = A1 ++ y :: A2 := by
  have a := mrg_split lt _ A1 [y] A2 [] rfl (fun z hz t ht => by rw [List.mem_singleton.1 ht]; exact h2 z hz) (by intro _ _ z hz; cases hz)
  have b := mrg_split lt _ A1 [] [] [y] rfl (by intro z hz; cases hz) (fun z hz t ht => by rw [List.mem_singleton.1 ht]; exact h1 z hz)
  simp only [List.nil_append, List.append_nil, mrg_nil, mrg_nil'] at a b
  rw [a, b]; simp

end

section
variable {α : Type} [Inhabited α]

theorem get_at (d : Array α) (X R : List α) (u : α) (i : Nat) (h : d.toList = X ++ u :: R) (hi : i = X.length) : d[i]! = u := by
  subst hi
  have : d[X.length]? = some u := by rw [← Array.getElem?_toList, h]; simp
  rw [getElem!_def, this]

theorem swp_list (d : Array α) (X M Y : List α) (u v : α) (i j : Nat) (h : d.toList = X ++ u :: (M ++ v :: Y)) (hi : i = X.length) (hj : j = X.length + 1 + M.length) :
    (swp d i j).toList = X ++ v :: (M ++ u :: Y) := by
  have h1 : d[i]! = u := get_at d X _ u i h hi
  have h2 : d[j]! = v := get_at d (X ++ u :: M) Y v j (by rw [h]; simp) (by subst hj; simp; omega)
  unfold swp
  rw [h1, h2, Array.toList_setIfInBounds, Array.toList_setIfInBounds, h]
  subst hi hj
  rw [List.set_append_right _ _ (by omega), List.set_append_right _ _ (by omega), Nat.sub_self, List.set_cons_zero,
    show X.length + 1 + M.length - X.length = M.length + 1 by omega, List.set_cons_succ, List.set_append_right _ _ (by omega), Nat.sub_self, List.set_cons_zero]

theorem swp_list' (d : Array α) (X M Y : List α) (u v : α) (i j : Nat) (h : d.toList = X ++ u :: (M ++ v :: Y)) (hi : i = X.length) (hj : j = X.length + 1 + M.length) :
    (swp d j i).toList = X ++ v :: (M ++ u :: Y) := by
  have h1 : d[i]! = u := get_at d X _ u i h hi
  have h2 : d[j]! = v := get_at d (X ++ u :: M) Y v j (by rw [h]; simp) (by subst hj; simp; omega)
  unfold swp
  rw [h1, h2, Array.toList_setIfInBounds, Array.toList_setIfInBounds, h]
  subst hi hj
  rw [List.set_append_right _ _ (by omega), show X.length + 1 + M.length - X.length = M.length + 1 by omega, List.set_cons_succ, List.set_append_right _ _ (by omega), Nat.sub_self, List.set_cons_zero,
    List.set_append_right _ _ (by omega), Nat.sub_self, List.set_cons_zero]

/-- n swaps, of places from a + i and b + i on. -/
def swapRange (a b : Nat) : Nat → Nat → Array α → Array α
  | _, 0, d => d
  | i, n + 1, d => swapRange a b (i + 1) n (swp d (a + i) (b + i))

theorem swapRange_size (a b : Nat) : ∀ (n i : Nat) (d : Array α), (swapRange a b i n d).size = d.size
  | 0, _, _ => rfl
  | n + 1, i, d => by rw [swapRange, swapRange_size a b n]; simp [swp]

theorem swapRange_list (a b : Nat) : ∀ (U V : List α) (i : Nat) (d : Array α) (X M Y : List α), U.length = V.length → d.toList = X ++ U ++ M ++ V ++ Y → a + i = X.length → b + i = X.length + U.length + M.length →
    (swapRange a b i U.length d).toList = X ++ V ++ M ++ U ++ Y := by
  intro U
  induction U with
  | nil => intro V i d X M Y hl h _ _; cases V with
    | nil => simpa [swapRange] using h
    | cons => simp at hl
  | cons u U ih =>
    intro V i d X M Y hl h ha hb
    cases V with
    | nil => simp at hl
    | cons v V =>
      have hl' : U.length = V.length := by simpa using hl
      have hs := swp_list d X (U ++ M) (V ++ Y) u v (a + i) (b + i) (by rw [h]; simp) ha (by rw [hb]; simp; omega)
      show (swapRange a b (i + 1) U.length (swp d (a + i) (b + i))).toList = _
      rw [ih V (i + 1) (swp d (a + i) (b + i)) (X ++ [v]) (M ++ [u]) Y hl' (by rw [hs]; simp) (by simp; omega) (by simp at hb ⊢; omega)]
      simp

/-- The loop of a rotation, at a round. -/
def rot (m : Nat) : Nat → Nat → Nat → Array α → Array α
  | 0, i, _, d => swapRange (m - i) m 0 i d
  | f + 1, i, j, d => if i = j then swapRange (m - i) m 0 i d else if j < i then rot m f (i - j) j (swapRange (m - i) m 0 j d) else rot m f i (j - i) (swapRange (m - i) (m + j - i) 0 i d)

theorem rot_size (m : Nat) : ∀ (f i j : Nat) (d : Array α), (rot m f i j d).size = d.size
  | 0, i, _, d => swapRange_size _ _ _ _ d
  | f + 1, i, j, d => by
    rw [rot]
    split
    · exact swapRange_size _ _ _ _ d
    · split
      · rw [rot_size m f, swapRange_size]
      · rw [rot_size m f, swapRange_size]

theorem rot_list (m : Nat) : ∀ (f : Nat) (U V : List α) (d : Array α) (X Y : List α), U.length + V.length ≤ f → 0 < U.length → 0 < V.length → d.toList = X ++ U ++ V ++ Y → m = X.length + U.length →
    (rot m f U.length V.length d).toList = X ++ V ++ U ++ Y := by
  intro f
  induction f with
  | zero => intro U V d X Y hf hu; omega
  | succ f ih =>
    intro U V d X Y hf hu hv h hm
    rw [rot]
    by_cases he : U.length = V.length
    · rw [if_pos he]
      have := swapRange_list (m - U.length) m U V 0 d X [] Y he (by rw [h]; simp) (by omega) (by simp; omega)
      simpa using this
    · rw [if_neg he]
      by_cases hg : V.length < U.length
      · rw [if_pos hg]
        have hu1 : (U.take V.length).length = V.length := by rw [List.length_take]; omega
        have hs := swapRange_list (m - U.length) m (U.take V.length) V 0 d X (U.drop V.length) Y hu1 (by rw [h]; simp [List.append_assoc]) (by omega) (by simp; omega)
        rw [hu1] at hs
        have hl2 : (U.drop V.length).length = U.length - V.length := List.length_drop
        have := ih (U.drop V.length) (U.take V.length) (swapRange (m - U.length) m 0 V.length d) (X ++ V) Y (by omega) (by omega) (by omega) (by rw [hs]) (by simp; omega)
        rw [hu1, hl2] at this
        rw [this]
        simp only [List.append_assoc]
        rw [← List.append_assoc (U.take _), List.take_append_drop]
      · rw [if_neg hg]
        have hv2 : (V.drop (V.length - U.length)).length = U.length := by rw [List.length_drop]; omega
        have hv1 : (V.take (V.length - U.length)).length = V.length - U.length := by rw [List.length_take]; omega
        have hs := swapRange_list (m - U.length) (m + V.length - U.length) U (V.drop (V.length - U.length)) 0 d X (V.take (V.length - U.length)) Y hv2.symm
          (by rw [h]; simp only [List.append_assoc]; rw [← List.append_assoc (V.take _), List.take_append_drop]) (by omega) (by rw [hv1]; omega)
        have := ih (V.drop (V.length - U.length)) (V.take (V.length - U.length)) (swapRange (m - U.length) (m + V.length - U.length) 0 U.length d) X (U ++ Y) (by omega) (by omega) (by omega) (by rw [hs]; simp only [List.append_assoc]) (by omega)
        rw [hv2, hv1] at this
        rw [this]
        simp only [List.append_assoc]
        rw [← List.append_assoc (V.take _), List.take_append_drop]

/-- One place moves up, n swaps. -/
def bubUp : Nat → Nat → Array α → Array α
  | _, 0, d => d
  | k, n + 1, d => bubUp (k + 1) n (swp d k (k + 1))
/-- One place moves down, n swaps. -/
def bubDown : Nat → Nat → Array α → Array α
  | _, 0, d => d
  | k, n + 1, d => bubDown (k - 1) n (swp d k (k - 1))

theorem bubUp_size : ∀ (n k : Nat) (d : Array α), (bubUp k n d).size = d.size
  | 0, _, _ => rfl
  | n + 1, k, d => by rw [bubUp, bubUp_size n]; simp [swp]
theorem bubDown_size : ∀ (n k : Nat) (d : Array α), (bubDown k n d).size = d.size
  | 0, _, _ => rfl
  | n + 1, k, d => by rw [bubDown, bubDown_size n]; simp [swp]
theorem bubUp_list : ∀ (V : List α) (k : Nat) (d : Array α) (X Y : List α) (x : α), d.toList = X ++ x :: (V ++ Y) → k = X.length → (bubUp k V.length d).toList = X ++ (V ++ x :: Y) := by
  intro V
  induction V with
  | nil => intro k d X Y x h _; simpa [bubUp] using h
  | cons v V ih =>
    intro k d X Y x h hk
    show (bubUp (k + 1) V.length (swp d k (k + 1))).toList = _
    have hs := swp_list d X [] (V ++ Y) x v k (k + 1) (by rw [h]; simp) hk (by simp; omega)
    rw [ih (k + 1) (swp d k (k + 1)) (X ++ [v]) Y x (by rw [hs]; simp) (by simp; omega)]
    simp

theorem bubDown_list : ∀ (n : Nat) (V : List α) (k : Nat) (d : Array α) (X Y : List α) (x : α), V.length = n → d.toList = X ++ (V ++ x :: Y) → k = X.length + V.length → (bubDown k n d).toList = X ++ x :: (V ++ Y) := by
  intro n
  induction n with
  | zero => intro V k d X Y x hl h _; cases V with
    | nil => simpa [bubDown] using h
    | cons => simp at hl
  | succ n ih =>
    intro V k d X Y x hl h hk
    have hne : V ≠ [] := by intro h0; rw [h0] at hl; simp at hl
    obtain ⟨W, v, rfl⟩ : ∃ W v, V = W ++ [v] := ⟨V.dropLast, V.getLast hne, (List.dropLast_concat_getLast hne).symm⟩
    have hl' : W.length = n := by simpa using hl
    show (bubDown (k - 1) n (swp d k (k - 1))).toList = _
    have hs := swp_list' d (X ++ W) [] Y v x (k - 1) k (by rw [h]; simp) (by rw [hk]; simp) (by rw [hk]; simp; omega)
    rw [ih W (k - 1) (swp d k (k - 1)) X (v :: Y) x hl' (by rw [hs]; simp) (by rw [hk]; simp)]
    simp

/-- Halving: the least place from which on a test fails. -/
def half2 (p : Nat → Bool) : Nat → Nat → Nat → Nat
  | 0, i, _ => i
  | f + 1, i, j => if i < j then (if p ((i + j) / 2) then half2 p f ((i + j) / 2 + 1) j else half2 p f i ((i + j) / 2)) else i

theorem half2_in (p : Nat → Bool) : ∀ (f i j : Nat), i ≤ j → i ≤ half2 p f i j ∧ half2 p f i j ≤ j := by
  intro f
  induction f with
  | zero => intro i j h; exact ⟨Nat.le_refl _, h⟩
  | succ f ih =>
    intro i j h
    rw [half2]
    by_cases hlt : i < j
    · rw [if_pos hlt]
      cases hp : p ((i + j) / 2)
      · have := ih i ((i + j) / 2) (by omega); exact ⟨this.1, by have := this.2; simp; omega⟩
      · have := ih ((i + j) / 2 + 1) j (by omega); exact ⟨by have := this.1; simp; omega, this.2⟩
    · rw [if_neg hlt]; exact ⟨Nat.le_refl _, h⟩

/-- At the bound: the test holds just before it, and fails at it, unless it is an end. -/
theorem half2_at (p : Nat → Bool) : ∀ (f i j : Nat), j - i ≤ f → i ≤ j → (half2 p f i j = i ∨ p (half2 p f i j - 1) = true) ∧ (half2 p f i j = j ∨ p (half2 p f i j) = false) := by
  intro f
  induction f with
  | zero => intro i j hf h; have : i = j := by omega
            subst this; exact ⟨Or.inl rfl, Or.inl rfl⟩
  | succ f ih =>
    intro i j hf h
    rw [half2]
    by_cases hlt : i < j
    · rw [if_pos hlt]
      cases hp : p ((i + j) / 2)
      · have := ih i ((i + j) / 2) (by omega) (by omega)
        refine ⟨by simpa using this.1, ?_⟩
        rcases this.2 with h2 | h2
        · right; simp only [Bool.false_eq_true, if_false]; rw [h2]; exact hp
        · right; simpa using h2
      · have := ih ((i + j) / 2 + 1) j (by omega) (by omega)
        refine ⟨?_, by simpa using this.2⟩
        rcases this.1 with h2 | h2
        · right; simp only [if_true]; rw [h2]; simpa using hp
        · right; simpa using h2
    · rw [if_neg hlt]; have : i = j := by omega
      subst this; exact ⟨Or.inl rfl, Or.inl rfl⟩

variable (lt : α → α → Bool)
/-- Merging two ordered runs by symmetric comparisons. -/
def symM : Nat → Nat → Nat → Nat → Array α → Array α
  | 0, _, _, _, d => d
  | f + 1, a, m, b, d =>
    if m - a = 1 then bubUp a (half2 (fun h => lt d[h]! d[a]!) (b - m) m b - 1 - a) d
    else if b - m = 1 then bubDown m (m - half2 (fun h => !lt d[m]! d[h]!) (m - a) a m) d
    else
      let mid := (a + b) / 2
      let s0 := if mid < m then mid + m - b else a
      let r0 := if mid < m then mid else m
      let s := half2 (fun c => !lt d[mid + m - 1 - c]! d[c]!) (r0 - s0) s0 r0
      let e := mid + m - s
      let d1 := if s < m ∧ m < e then rot m (e - s) (m - s) (e - m) d else d
      let d2 := if a < s ∧ s < mid then symM f a s mid d1 else d1
      if mid < e ∧ e < b then symM f mid e b d2 else d2

theorem innerGo (a j : Nat) (d : Array α) (hj : a < j) (hl : lt d[j]! d[j - 1]! = true) : insInner lt a j d = insInner lt a (j - 1) (swp d j (j - 1)) := by
  obtain ⟨k, rfl⟩ : ∃ k, j = k + 1 := ⟨j - 1, by omega⟩
  rw [insInner]
  simp only [Nat.add_sub_cancel] at hl ⊢
  simp [hj, hl]
theorem innerStop (a j : Nat) (d : Array α) (h : j ≤ a ∨ lt d[j]! d[j - 1]! = false) : insInner lt a j d = d := by
  cases j with
  | zero => rw [insInner]
  | succ k =>
    rw [insInner]
    simp only [Nat.add_sub_cancel] at h
    rcases h with h | h
    · simp [show ¬ k + 1 > a by omega]
    · simp [h]
theorem outerGo (a b i : Nat) (d : Array α) (h : i < b) : insOuter lt a b i d = insOuter lt a b (i + 1) (insInner lt a i d) := by rw [insOuter, if_pos h]
theorem outerStop (a b i : Nat) (d : Array α) (h : ¬ i < b) : insOuter lt a b i d = d := by rw [insOuter, if_neg h]

theorem insInner_list (hO : SWO lt) (a : Nat) (x : α) : ∀ (n : Nat) (S : List α) (d : Array α) (X Y : List α), S.length = n → Ord lt S → a = X.length → d.toList = X ++ S ++ x :: Y →
    (insInner lt a (a + n) d).toList = X ++ insL lt x S ++ Y := by
  intro n
  induction n with
  | zero =>
    intro S d X Y hl _ ha h
    have : S = [] := List.length_eq_zero_iff.1 hl
    subst this
    rw [innerStop _ _ _ _ (Or.inl (by omega)), h]; simp [insL]
  | succ n ih =>
    intro S d X Y hl hS ha h
    have hne : S ≠ [] := by intro h0; rw [h0] at hl; simp at hl
    obtain ⟨W, v, rfl⟩ : ∃ W v, S = W ++ [v] := ⟨S.dropLast, S.getLast hne, (List.dropLast_concat_getLast hne).symm⟩
    have hl' : W.length = n := by simpa using hl
    have hx : d[a + (n + 1)]! = x := get_at d (X ++ (W ++ [v])) Y x _ h (by simp; omega)
    have hv : d[a + (n + 1) - 1]! = v := get_at d (X ++ W) (x :: Y) v _ (by rw [h]; simp) (by simp; omega)
    obtain ⟨hW, _, hc⟩ := List.pairwise_append.1 hS
    cases hxv : lt x v with
    | true =>
      rw [innerGo _ _ _ _ (by omega) (by rw [hx, hv]; exact hxv)]
      have hs := swp_list' d (X ++ W) [] Y v x (a + (n + 1) - 1) (a + (n + 1)) (by rw [h]; simp) (by simp; omega) (by simp; omega)
      rw [show a + (n + 1) - 1 = a + n by omega] at hs ⊢
      rw [ih W (swp d (a + (n + 1)) (a + n)) X (v :: Y) hl' hW ha (by rw [hs]; simp), insL_last _ _ _ _ hxv]
      simp
    | false =>
      rw [innerStop _ _ _ _ (Or.inr (by rw [hx, hv]; exact hxv)), h, insL_end _ _ _ ?_]
      · simp
      · intro y hy
        rcases List.mem_append.1 hy with hy | hy
        · exact hO.ntrans _ _ _ hxv (hc y hy v (by simp))
        · rw [List.mem_singleton.1 hy]; exact hxv

theorem insOuter_list (hO : SWO lt) (a b : Nat) : ∀ (B : List α) (A : List α) (d : Array α) (X Y : List α) (S : List α), S = isort lt A → a = X.length → b = X.length + A.length + B.length → d.toList = X ++ S ++ B ++ Y →
    (insOuter lt a b (X.length + A.length) d).toList = X ++ isort lt (A ++ B) ++ Y := by
  intro B
  induction B with
  | nil =>
    intro A d X Y S hS ha hb h
    rw [outerStop _ _ _ _ _ (by simp at hb; omega), h, hS]; simp
  | cons x B ih =>
    intro A d X Y S hS ha hb h
    rw [outerGo _ _ _ _ _ (by simp at hb; omega)]
    have hSl : S.length = A.length := by rw [hS, isort_length]
    have hi := insInner_list lt hO a x A.length S d X (B ++ Y) hSl (by rw [hS]; exact isort_ord lt hO A) ha (by rw [h]; simp)
    rw [ha] at hi ⊢
    have := ih (A ++ [x]) (insInner lt X.length (X.length + A.length) d) X Y (insL lt x S) (by rw [isort_snoc, hS]) ha (by simp at hb ⊢; omega) (by rw [hi]; simp)
    rw [ha] at this
    rw [show X.length + (A ++ [x]).length = X.length + A.length + 1 by simp; omega] at this
    rw [this]
    simp

theorem insertionSort_list (hO : SWO lt) (d : Array α) (X A Y : List α) (a b : Nat) (h : d.toList = X ++ A ++ Y) (ha : a = X.length) (hb : b = X.length + A.length) :
    (insertionSort lt d a b).toList = X ++ isort lt A ++ Y := by
  cases A with
  | nil =>
    simp at h hb
    rw [insertionSort, outerStop _ _ _ _ _ (by omega), h]; simp [isort]
  | cons x A =>
    have := insOuter_list lt hO a b A [x] d X Y [x] (by simp [isort, insL]) ha (by simp at hb ⊢; omega) (by rw [h]; simp)
    rw [insertionSort, ha]
    rw [ha] at this
    simpa using this
theorem get_seg (d : Array α) (X A R : List α) (k i : Nat) (h : d.toList = X ++ A ++ R) (hi : i < A.length) (hk : k = X.length + i) : d[k]! = A[i] := by
  refine get_at d (X ++ A.take i) (A.drop (i + 1) ++ R) A[i] k ?_ (by rw [hk, List.length_append, List.length_take]; omega)
  have e : A.take i ++ (A[i] :: (A.drop (i + 1) ++ R)) = A ++ R := by
    rw [show A[i] :: (A.drop (i + 1) ++ R) = A.drop i ++ R by rw [List.drop_eq_getElem_cons hi]; rfl, ← List.append_assoc, List.take_append_drop]
  rw [h, List.append_assoc, List.append_assoc, e]

theorem symM_size : ∀ (f a m b : Nat) (d : Array α), (symM lt f a m b d).size = d.size
  | 0, _, _, _, _ => rfl
  | f + 1, a, m, b, d => by
    rw [symM]
    split
    · exact bubUp_size _ _ _
    · split
      · exact bubDown_size _ _ _
      · dsimp only
        repeat' split
        all_goals first | rfl | rw [symM_size f, symM_size f, rot_size] | rw [symM_size f, symM_size f] | rw [symM_size f, rot_size] | rw [symM_size f] | rw [rot_size]

set_option maxHeartbeats 1000000 in
theorem symM_list (hO : SWO lt) : ∀ (f : Nat) (A B X Y : List α) (d : Array α) (a m b : Nat), A.length + B.length ≤ f → 0 < A.length → 0 < B.length → Ord lt A → Ord lt B → d.toList = X ++ A ++ B ++ Y →
    a = X.length → m = a + A.length → b = m + B.length → (symM lt f a m b d).toList = X ++ mrg lt A B ++ Y := by
  have lower : ∀ x y z, lt z y = false → lt z x = true → lt y x = true := by
    intro x y z h1 h2
    cases h : lt y x
    · have := hO.ntrans z y x h1 h; rw [h2] at this; cases this
    · rfl
  have upper : ∀ x y z, lt y z = true → lt x z = false → lt y x = true := by
    intro x y z h1 h2
    cases h : lt y x
    · have := hO.ntrans y x z h h2; rw [h1] at this; cases this
    · rfl
  intro f
  induction f with
  | zero => intro A B X Y d a m b hf ha; omega
  | succ f ih =>
    intro A B X Y d a m b hf hA hB oA oB h ha hm hb
    have gA : ∀ i (hi : i < A.length) k, k = a + i → d[k]! = A[i] := fun i hi k hk => get_seg d X A (B ++ Y) k i (by rw [h]; simp) hi (by omega)
    have gB : ∀ i (hi : i < B.length) k, k = m + i → d[k]! = B[i] := fun i hi k hk => get_seg d (X ++ A) B Y k i (by rw [h]) hi (by rw [List.length_append]; omega)
    rw [symM]
    by_cases h1 : m - a = 1
    · rw [if_pos h1]
      obtain ⟨x, rfl⟩ : ∃ x, A = [x] := List.length_eq_one_iff.1 (by omega)
      have hx : d[a]! = x := gA 0 (by simp) a (by omega)
      rw [hx]
      obtain ⟨i, hi⟩ : ∃ i, i = half2 (fun h => lt d[h]! x) (b - m) m b := ⟨_, rfl⟩
      have hin := half2_in (fun h => lt d[h]! x) (b - m) m b (by omega)
      have hat := half2_at (fun h => lt d[h]! x) (b - m) m b (Nat.le_refl _) (by omega)
      rw [← hi] at hin hat ⊢
      have hB1 : (B.take (i - m)).length = i - m := by rw [List.length_take]; omega
      have e : i - 1 - a = (B.take (i - m)).length := by simp at hm; omega
      rw [e, bubUp_list (B.take (i - m)) a d X (B.drop (i - m) ++ Y) x (by rw [h]; simp; rw [← List.append_assoc, List.take_append_drop]) ha]
      conv => rhs; rw [← List.take_append_drop (i - m) B]
      rw [mrg_one_left lt x (B.take (i - m)) (B.drop (i - m)) ?_ ?_]
      · simp
      · intro y hy
        obtain ⟨j, hj, rfl⟩ := List.mem_take_iff_getElem.1 hy
        have hk : i - m - 1 < B.length := by omega
        have hl : lt B[i - m - 1] x = true := by
          rcases hat.1 with h2 | h2
          · omega
          · have := gB (i - m - 1) hk (i - 1) (by omega)
            rw [this] at h2; exact h2
        by_cases hjk : j = i - m - 1
        · subst hjk; exact hl
        · exact lower _ _ _ (ord_get lt B oB j (i - m - 1) (by omega) hk) hl
      · intro y hy
        obtain ⟨j, hj, rfl⟩ := List.mem_drop_iff_getElem.1 hy
        have hk : i - m < B.length := by omega
        have hl : lt B[i - m] x = false := by
          rcases hat.2 with h2 | h2
          · omega
          · have := gB (i - m) hk i (by omega)
            rw [this] at h2; exact h2
        by_cases hjk : j = 0
        · subst hjk; simpa using hl
        · exact hO.ntrans _ _ _ (ord_get lt B oB (i - m) (i - m + j) (by omega) (by omega)) hl
    · rw [if_neg h1]
      by_cases h2 : b - m = 1
      · rw [if_pos h2]
        obtain ⟨y, rfl⟩ : ∃ y, B = [y] := List.length_eq_one_iff.1 (by omega)
        have hy : d[m]! = y := gB 0 (by simp) m (by omega)
        rw [hy]
        obtain ⟨i, hi⟩ : ∃ i, i = half2 (fun h => !lt y d[h]!) (m - a) a m := ⟨_, rfl⟩
        have hin := half2_in (fun h => !lt y d[h]!) (m - a) a m (by omega)
        have hat := half2_at (fun h => !lt y d[h]!) (m - a) a m (Nat.le_refl _) (by omega)
        rw [← hi] at hin hat ⊢
        have hA2 : (A.drop (i - a)).length = m - i := by rw [List.length_drop]; omega
        rw [bubDown_list (m - i) (A.drop (i - a)) m d (X ++ A.take (i - a)) Y y hA2 (by rw [h]; simp; rw [← List.append_assoc, List.take_append_drop]) (by rw [hA2, List.length_append, List.length_take]; omega)]
        conv => rhs; rw [← List.take_append_drop (i - a) A]
        rw [mrg_one_right lt y (A.take (i - a)) (A.drop (i - a)) ?_ ?_]
        · simp
        · intro x hx
          obtain ⟨j, hj, rfl⟩ := List.mem_take_iff_getElem.1 hx
          have hk : i - a - 1 < A.length := by omega
          have hl : lt y A[i - a - 1] = false := by
            rcases hat.1 with h3 | h3
            · omega
            · have := gA (i - a - 1) hk (i - 1) (by omega)
              rw [this] at h3; simpa using h3
          by_cases hjk : j = i - a - 1
          · subst hjk; exact hl
          · exact hO.ntrans _ _ _ hl (ord_get lt A oA j (i - a - 1) (by omega) hk)
        · intro x hx
          obtain ⟨j, hj, rfl⟩ := List.mem_drop_iff_getElem.1 hx
          have hk : i - a < A.length := by omega
          have hl : lt y A[i - a] = true := by
            rcases hat.2 with h3 | h3
            · omega
            · have := gA (i - a) hk i (by omega)
              rw [this] at h3; simpa using h3
          by_cases hjk : j = 0
          · subst hjk; simpa using hl
          · exact upper _ _ _ hl (ord_get lt A oA (i - a) (i - a + j) (by omega) (by omega))
      · rw [if_neg h2]
        obtain ⟨mid, hmid⟩ : ∃ mid, mid = (a + b) / 2 := ⟨_, rfl⟩
        obtain ⟨s0, hs0⟩ : ∃ s0, s0 = if mid < m then mid + m - b else a := ⟨_, rfl⟩
        obtain ⟨r0, hr0⟩ : ∃ r0, r0 = if mid < m then mid else m := ⟨_, rfl⟩
        have hb0 : s0 ≤ r0 ∧ a ≤ s0 ∧ r0 ≤ m ∧ mid + m - r0 ≥ m ∧ mid + m - s0 ≤ b ∧ r0 ≤ mid ∧ s0 ≤ mid := by
          by_cases hc : mid < m
          · rw [if_pos hc] at hs0 hr0; omega
          · rw [if_neg hc] at hs0 hr0; omega
        have ends : (s0 = a ∨ mid + m - s0 = b) ∧ (r0 = m ∨ mid + m - r0 = m) := by
          by_cases hc : mid < m
          · rw [if_pos hc] at hs0 hr0; omega
          · rw [if_neg hc] at hs0 hr0; omega
        rw [← hmid]
        dsimp only
        rw [← hs0, ← hr0]
        obtain ⟨s, hs⟩ : ∃ s, s = half2 (fun c => !lt d[mid + m - 1 - c]! d[c]!) (r0 - s0) s0 r0 := ⟨_, rfl⟩
        have hin := half2_in (fun c => !lt d[mid + m - 1 - c]! d[c]!) (r0 - s0) s0 r0 hb0.1
        have hat := half2_at (fun c => !lt d[mid + m - 1 - c]! d[c]!) (r0 - s0) s0 r0 (Nat.le_refl _) hb0.1
        rw [← hs] at hin hat ⊢
        clear hs hs0 hr0
        obtain ⟨e, he⟩ : ∃ e, e = mid + m - s := ⟨_, rfl⟩
        rw [← he]
        have lA1 : (A.take (s - a)).length = s - a := by rw [List.length_take]; omega
        have lA2 : (A.drop (s - a)).length = m - s := by rw [List.length_drop]; omega
        have lB1 : (B.take (e - m)).length = e - m := by rw [List.length_take]; omega
        have lB2 : (B.drop (e - m)).length = b - e := by rw [List.length_drop]; omega
        have tA := List.take_append_drop (s - a) A
        have tB := List.take_append_drop (e - m) B
        -- all of the first part of B is less than the second part of A
        have c1 : ∀ x ∈ A.drop (s - a), ∀ y ∈ B.take (e - m), lt y x = true := by
          intro x hx y hy
          obtain ⟨j, hj, rfl⟩ := List.mem_drop_iff_getElem.1 hx
          obtain ⟨k, hk, rfl⟩ := List.mem_take_iff_getElem.1 hy
          have hp : lt B[e - m - 1] A[s - a] = true := by
            rcases hat.2 with h3 | h3
            · omega
            · rw [gB (e - m - 1) (by omega) (mid + m - 1 - s) (by omega), gA (s - a) (by omega) s (by omega)] at h3
              simpa using h3
          have hq : lt B[e - m - 1] A[s - a + j] = true := by
            by_cases hj0 : j = 0
            · subst hj0; simpa using hp
            · exact upper _ _ _ hp (ord_get lt A oA (s - a) (s - a + j) (by omega) (by omega))
          by_cases hk0 : k = e - m - 1
          · subst hk0; exact hq
          · exact lower _ _ _ (ord_get lt B oB k (e - m - 1) (by omega) (by omega)) hq
        have c2 : ∀ x ∈ A.take (s - a), ∀ y ∈ B.drop (e - m), lt y x = false := by
          intro x hx y hy
          obtain ⟨j, hj, rfl⟩ := List.mem_take_iff_getElem.1 hx
          obtain ⟨k, hk, rfl⟩ := List.mem_drop_iff_getElem.1 hy
          have hp : lt B[e - m] A[s - a - 1] = false := by
            rcases hat.1 with h3 | h3
            · omega
            · rw [gB (e - m) (by omega) (mid + m - 1 - (s - 1)) (by omega), gA (s - a - 1) (by omega) (s - 1) (by omega)] at h3
              simpa using h3
          have hq : lt B[e - m] A[j] = false := by
            by_cases hj0 : j = s - a - 1
            · subst hj0; exact hp
            · exact hO.ntrans _ _ _ hp (ord_get lt A oA j (s - a - 1) (by omega) (by omega))
          by_cases hk0 : k = 0
          · subst hk0; simpa using hq
          · exact hO.ntrans _ _ _ (ord_get lt B oB (e - m) (e - m + k) (by omega) (by omega)) hq
        have hsplit := mrg_split lt _ (A.take (s - a)) (B.take (e - m)) (A.drop (s - a)) (B.drop (e - m)) rfl c1 c2
        rw [tA, tB] at hsplit
        obtain ⟨A1, hA1⟩ : ∃ A1, A1 = A.take (s - a) := ⟨_, rfl⟩
        obtain ⟨A2, hA2⟩ : ∃ A2, A2 = A.drop (s - a) := ⟨_, rfl⟩
        obtain ⟨B1, hB1⟩ : ∃ B1, B1 = B.take (e - m) := ⟨_, rfl⟩
        obtain ⟨B2, hB2⟩ : ∃ B2, B2 = B.drop (e - m) := ⟨_, rfl⟩
        rw [← hA1, ← hA2, ← hB1, ← hB2] at hsplit
        rw [← hA1] at lA1 tA
        rw [← hB1] at lB1 tB
        rw [← hA2] at lA2 tA
        rw [← hB2] at lB2 tB
        have oA' := List.pairwise_append.1 (show (A1 ++ A2).Pairwise _ by rw [tA]; exact oA)
        have oB' := List.pairwise_append.1 (show (B1 ++ B2).Pairwise _ by rw [tB]; exact oB)
        clear c1 c2 gA gB hat hA1 hA2 hB1 hB2
        rw [hsplit]
        obtain ⟨d1, hd1⟩ : ∃ d1, d1 = if s < m ∧ m < e then rot m (e - s) (m - s) (e - m) d else d := ⟨_, rfl⟩
        have hL1 : d1.toList = X ++ A1 ++ B1 ++ A2 ++ B2 ++ Y := by
          rw [hd1]
          by_cases hc : s < m ∧ m < e
          · rw [if_pos hc]
            have := rot_list m (e - s) A2 B1 d (X ++ A1) (B2 ++ Y) (by omega) (by omega) (by omega) (by rw [h, ← tA, ← tB]; simp) (by rw [List.length_append]; omega)
            rw [lA2, lB1] at this
            rw [this]; simp
          · rw [if_neg hc, h, ← tA, ← tB]
            by_cases hz : A2 = []
            · rw [hz]; simp
            · have : B1 = [] := by
                apply List.length_eq_zero_iff.1
                have := List.length_pos_iff.2 hz
                omega
              rw [this]; simp
        rw [← hd1]
        obtain ⟨d2, hd2⟩ : ∃ d2, d2 = if a < s ∧ s < mid then symM lt f a s mid d1 else d1 := ⟨_, rfl⟩
        have hL2 : d2.toList = X ++ mrg lt A1 B1 ++ A2 ++ B2 ++ Y := by
          rw [hd2]
          by_cases hc : a < s ∧ s < mid
          · rw [if_pos hc, ih A1 B1 X (A2 ++ B2 ++ Y) d1 a s mid (by omega) (by omega) (by omega) oA'.1 oB'.1 (by rw [hL1]; simp) ha (by omega) (by omega)]
            simp
          · rw [if_neg hc, hL1]
            by_cases hz : A1 = []
            · rw [hz, mrg_nil']; simp
            · have : B1 = [] := by
                apply List.length_eq_zero_iff.1
                have := List.length_pos_iff.2 hz
                omega
              rw [this, mrg_nil]; simp
        rw [← hd2]
        have hml := mrg_length lt _ A1 B1 rfl
        by_cases hc : mid < e ∧ e < b
        · rw [if_pos hc, ih A2 B2 (X ++ mrg lt A1 B1) Y d2 mid e b (by omega) (by omega) (by omega) oA'.2.1 oB'.2.1 (by rw [hL2]) (by rw [List.length_append, hml]; omega) (by omega) (by omega)]
          simp
        · rw [if_neg hc, hL2]
          by_cases hz : A2 = []
          · rw [hz, mrg_nil']; simp
          · have : B2 = [] := by
              apply List.length_eq_zero_iff.1
              have := List.length_pos_iff.2 hz
              omega
            rw [this, mrg_nil]; simp

/-- What the library's stable sort makes of at most 40 elements. -/
def stable40 (d : Array α) : Array α :=
  if d.size ≤ 20 then insertionSort lt d 0 d.size
  else symM lt d.size 0 20 d.size (insertionSort lt (insertionSort lt d 0 20) 20 d.size)

theorem stable40_list (hO : SWO lt) (d : Array α) : (stable40 lt d).toList = isort lt d.toList := by
  have hsz : d.toList.length = d.size := by simp
  unfold stable40
  by_cases h : d.size ≤ 20
  · rw [if_pos h, insertionSort_list lt hO d [] d.toList [] 0 d.size (by simp) rfl (by simp)]; simp
  · rw [if_neg h]
    obtain ⟨A, hA⟩ : ∃ A, A = d.toList.take 20 := ⟨_, rfl⟩
    obtain ⟨B, hB⟩ : ∃ B, B = d.toList.drop 20 := ⟨_, rfl⟩
    have hAB : d.toList = A ++ B := by rw [hA, hB, List.take_append_drop]
    have lA : A.length = 20 := by rw [hA, List.length_take, hsz]; omega
    have lB : B.length = d.size - 20 := by rw [hB, List.length_drop, hsz]
    have i1 := insertionSort_list lt hO d [] A B 0 20 (by rw [hAB]; simp) rfl (by rw [lA]; rfl)
    have i2 := insertionSort_list lt hO (insertionSort lt d 0 20) (isort lt A) B [] 20 d.size (by rw [i1]; simp) (by rw [isort_length, lA]) (by rw [isort_length, lA, lB]; omega)
    have := symM_list lt hO d.size (isort lt A) (isort lt B) [] [] (insertionSort lt (insertionSort lt d 0 20) 20 d.size) 0 20 d.size (by rw [isort_length, isort_length, lA, lB]; omega) (by rw [isort_length]; omega) (by rw [isort_length]; omega)
      (isort_ord lt hO A) (isort_ord lt hO B) (by rw [i2]; simp) rfl (by rw [isort_length, lA]) (by rw [isort_length, lB]; omega)
    rw [this, hAB, isort_append lt hO A _ B rfl]; simp
end
end Go.Proofs.YtapllmniplgajaaGreatDoor
