/-     -/
import Derived.Test.YtibpaaajghbkoaaGreatUBc
import Derived.Test.YtibpaaajghbkoaaGreatUAl
namespace Go.Proofs.YtibpaaajghbkoaaGreat
def ndsK (ks : List KeyD) : List ByteArray := ks.flatMap fun k => [k.1, k.2]
def AtInv (l : List ObjD) (ds : List ByteArray) (f : Pt → List ByteArray) : Prop := ∀ q, (f q).length ≤ ds.length ∧ ∀ id, id ∈ f q ↔ id ∈ ds ∧ ptO l id = q
def BadInv (l : List ObjD) (ds : List ByteArray) (N : List KeyD) : Prop := ∀ key, key ∈ N ↔ ∃ a ∈ ds, ∃ b ∈ ds, a ≠ b ∧ ptO l a = ptO l b ∧ key = key2 a b
theorem AtInv.nil (l : List ObjD) : AtInv l [] fun _ => [] := fun q => ⟨Nat.le_refl _, fun id => by simp⟩
theorem BadInv.nil (l : List ObjD) : BadInv l [] [] := fun key => by simp
theorem mem_snoc {α : Type} {x y : α} {l : List α} (hx : x ∈ l) : y ∈ l ++ [x] ↔ y ∈ l := by
 rw [List.mem_append, List.mem_singleton]
 exact ⟨fun h => h.elim id fun e => e ▸ hx, Or.inl⟩
theorem AtInv.old {l : List ObjD} {ds : List ByteArray} {f : Pt → List ByteArray} {id : ByteArray} (h : AtInv l ds f) (hid : id ∈ f (ptO l id)) : AtInv l (ds ++ [id]) f := fun q => by
 have hm := ((h _).2 id).1 hid
 refine ⟨Nat.le_trans (h q).1 (by simp), fun x => ?_⟩
 rw [(h q).2 x, mem_snoc hm.1]
theorem BadInv.old {l : List ObjD} {ds : List ByteArray} {N : List KeyD} {id : ByteArray} (h : BadInv l ds N) (hid : id ∈ ds) : BadInv l (ds ++ [id]) N := fun key => by
 rw [h key]
 constructor
 ·rintro ⟨a, ha, b, hb, h⟩; exact ⟨a, List.mem_append_left _ ha, b, List.mem_append_left _ hb, h⟩
 ·rintro ⟨a, ha, b, hb, h⟩; exact ⟨a, (mem_snoc hid).1 ha, b, (mem_snoc hid).1 hb, h⟩
theorem AtInv.new {l : List ObjD} {ds : List ByteArray} {f g : Pt → List ByteArray} {id : ByteArray} (h : AtInv l ds f) (hg : ∀ q, g q = if q = ptO l id then f q ++ [id] else f q) : AtInv l (ds ++ [id]) g := fun q => by
 rw [hg q]
 by_cases e : q = ptO l id
 ·rw [if_pos e]
  refine ⟨by have := (h q).1; simp; exact this, fun x => ?_⟩
  rw [List.mem_append, List.mem_append, (h q).2 x, List.mem_singleton]
  constructor
  ·rintro (⟨a, b⟩ | rfl)
   ·exact ⟨Or.inl a, b⟩
   ·exact ⟨Or.inr rfl, e.symm⟩
  ·rintro ⟨a | rfl, b⟩
   ·exact Or.inl ⟨a, b⟩
   ·exact Or.inr rfl
 ·rw [if_neg e]
  refine ⟨Nat.le_trans (h q).1 (by simp), fun x => ?_⟩
  rw [(h q).2 x, List.mem_append, List.mem_singleton]
  constructor
  ·rintro ⟨a, b⟩; exact ⟨Or.inl a, b⟩
  ·rintro ⟨a | rfl, b⟩
   ·exact ⟨a, b⟩
   ·exact absurd b.symm e
def NoteInv (N0 N : List KeyD) (G : List ByteArray) (id : ByteArray) : Prop := ∀ key, key ∈ N ↔ key ∈ N0 ∨ ∃ o ∈ G, key = key2 o id
theorem NoteInv.nil (N0 : List KeyD) (id : ByteArray) : NoteInv N0 N0 [] id := fun key => by simp
theorem NoteInv.step {N0 N : List KeyD} {G : List ByteArray} {id o : ByteArray} {r : Nat} (h : NoteInv N0 N (G.take r) id) (ho : G[r]? = some o) : NoteInv N0 (noteK (key2 o id) N) (G.take (r + 1)) id := fun key => by
 obtain ⟨hk, e⟩ := List.getElem?_eq_some_iff.1 ho
 rw [note_mem, h key, List.take_succ_eq_append_getElem hk, e]
 constructor
 ·rintro (h | h | ⟨x, hx, h⟩)
  ·exact Or.inr ⟨o, by simp, h⟩
  ·exact Or.inl h
  ·exact Or.inr ⟨x, List.mem_append_left _ hx, h⟩
 ·rintro (h | ⟨x, hx, h⟩)
  ·exact Or.inr (Or.inl h)
  ·rcases List.mem_append.1 hx with hx | hx
   ·exact Or.inr (Or.inr ⟨x, hx, h⟩)
   ·rw [List.mem_singleton.1 hx] at h; exact Or.inl h
theorem BadInv.new {l : List ObjD} {ds : List ByteArray} {f : Pt → List ByteArray} {N N' : List KeyD} {id : ByteArray} (h : BadInv l ds N) (hf : AtInv l ds f) (hid : id ∉ f (ptO l id)) (hn : NoteInv N N' (f (ptO l id)) id) : BadInv l (ds ++ [id]) N' := fun key => by
 have hid' : id ∉ ds := fun c => hid (((hf _).2 id).2 ⟨c, rfl⟩)
 rw [hn key, h key]
 constructor
 ·rintro (⟨a, ha, b, hb, h⟩ | ⟨o, ho, h⟩)
  ·exact ⟨a, List.mem_append_left _ ha, b, List.mem_append_left _ hb, h⟩
  ·obtain ⟨h1, h2⟩ := ((hf _).2 o).1 ho
   exact ⟨o, List.mem_append_left _ h1, id, by simp, fun c => hid' (c ▸ h1), h2, h⟩
 ·rintro ⟨a, ha, b, hb, h1, h2, h3⟩
  rcases List.mem_append.1 ha with ha | ha <;> rcases List.mem_append.1 hb with hb | hb
  ·exact Or.inl ⟨a, ha, b, hb, h1, h2, h3⟩
  ·rw [List.mem_singleton.1 hb] at h2 h3
   exact Or.inr ⟨a, ((hf _).2 a).2 ⟨ha, h2⟩, h3⟩
  ·rw [List.mem_singleton.1 ha] at h2 h3
   exact Or.inr ⟨b, ((hf _).2 b).2 ⟨hb, h2.symm⟩, by rw [h3, key2_comm]⟩
  ·rw [List.mem_singleton.1 ha, List.mem_singleton.1 hb] at h1
   exact absurd rfl h1
def Crs (l : List ObjD) (p : FdD) (key : KeyD) : Prop := ∃ a b, (keysP l)[p.1.1.toNat]? = some a ∧ (keysP l)[p.1.2.toNat]? = some b ∧ a ≠ b ∧ ¬ (p.2 = 1 ∧ comK a b = true) ∧ ∃ x ∈ ownF l l a, ∃ y ∈ ownF l l b, key = key2 x y
def CrsInv (l : List ObjD) (N0 N : List KeyD) (done : List FdD) : Prop := ∀ key, key ∈ N ↔ key ∈ N0 ∨ ∃ p ∈ done, Crs l p key
theorem CrsInv.nil (l : List ObjD) (N0 : List KeyD) : CrsInv l N0 N0 [] := fun key => by simp
theorem CrsInv.skip {l : List ObjD} {N0 N : List KeyD} {done : List FdD} {p : FdD} (h : CrsInv l N0 N done) (hp : ∀ key, ¬ Crs l p key) : CrsInv l N0 N (done ++ [p]) := fun key => by
 rw [h key]
 constructor
 ·rintro (h | ⟨x, hx, h⟩)
  ·exact Or.inl h
  ·exact Or.inr ⟨x, List.mem_append_left _ hx, h⟩
 ·rintro (h | ⟨x, hx, h⟩)
  ·exact Or.inl h
  ·rcases List.mem_append.1 hx with hx | hx
   ·exact Or.inr ⟨x, hx, h⟩
   ·rw [List.mem_singleton.1 hx] at h; exact absurd h (hp key)
def OwnInv (N0 N : List KeyD) (X Y : List ByteArray) : Prop := ∀ key, key ∈ N ↔ key ∈ N0 ∨ ∃ x ∈ X, ∃ y ∈ Y, key = key2 x y
def OneInv (N0 N : List KeyD) (x : ByteArray) (Y : List ByteArray) : Prop := ∀ key, key ∈ N ↔ key ∈ N0 ∨ ∃ y ∈ Y, key = key2 x y
theorem OwnInv.nil (N0 : List KeyD) (Y : List ByteArray) : OwnInv N0 N0 [] Y := fun key => by simp
theorem OneInv.nil (N0 : List KeyD) (x : ByteArray) : OneInv N0 N0 x [] := fun key => by simp
theorem OneInv.step {N0 N : List KeyD} {x y : ByteArray} {Y : List ByteArray} {s : Nat} (h : OneInv N0 N x (Y.take s)) (hy : Y[s]? = some y) : OneInv N0 (noteK (key2 x y) N) x (Y.take (s + 1)) := fun key => by
 obtain ⟨hk, e⟩ := List.getElem?_eq_some_iff.1 hy
 rw [note_mem, h key, List.take_succ_eq_append_getElem hk, e]
 constructor
 ·rintro (h | h | ⟨z, hz, h⟩)
  ·exact Or.inr ⟨y, by simp, h⟩
  ·exact Or.inl h
  ·exact Or.inr ⟨z, List.mem_append_left _ hz, h⟩
 ·rintro (h | ⟨z, hz, h⟩)
  ·exact Or.inr (Or.inl h)
  ·rcases List.mem_append.1 hz with hz | hz
   ·exact Or.inr (Or.inr ⟨z, hz, h⟩)
   ·rw [List.mem_singleton.1 hz] at h; exact Or.inl h
theorem OwnInv.step {N0 N N' : List KeyD} {x : ByteArray} {X Y : List ByteArray} {r : Nat} (h : OwnInv N0 N (X.take r) Y) (hx : X[r]? = some x) (h1 : OneInv N N' x Y) : OwnInv N0 N' (X.take (r + 1)) Y := fun key => by
 obtain ⟨hk, e⟩ := List.getElem?_eq_some_iff.1 hx
 rw [h1 key, h key, List.take_succ_eq_append_getElem hk, e]
 constructor
 ·rintro ((h | ⟨z, hz, h⟩) | h)
  ·exact Or.inl h
  ·exact Or.inr ⟨z, List.mem_append_left _ hz, h⟩
  ·exact Or.inr ⟨x, by simp, h⟩
 ·rintro (h | ⟨z, hz, h⟩)
  ·exact Or.inl (Or.inl h)
  ·rcases List.mem_append.1 hz with hz | hz
   ·exact Or.inl (Or.inr ⟨z, hz, h⟩)
   ·rw [List.mem_singleton.1 hz] at h; exact Or.inr h
theorem CrsInv.step {l : List ObjD} {N0 N N' : List KeyD} {done : List FdD} {p : FdD} {a b : KeyD} (h : CrsInv l N0 N done) (ha : (keysP l)[p.1.1.toNat]? = some a) (hb : (keysP l)[p.1.2.toNat]? = some b) (hne : a ≠ b) (hc : ¬ (p.2 = 1 ∧ comK a b = true)) (ho : OwnInv N N' (ownF l l a) (ownF l l b)) : CrsInv l N0 N' (done ++ [p]) := fun key => by
 rw [ho key, h key]
 constructor
 ·rintro ((h | ⟨x, hx, h⟩) | h)
  ·exact Or.inl h
  ·exact Or.inr ⟨x, List.mem_append_left _ hx, h⟩
  ·exact Or.inr ⟨p, by simp, a, b, ha, hb, hne, hc, h⟩
 ·rintro (h | ⟨x, hx, h⟩)
  ·exact Or.inl (Or.inl h)
  ·rcases List.mem_append.1 hx with hx | hx
   ·exact Or.inl (Or.inr ⟨x, hx, h⟩)
   ·rw [List.mem_singleton.1 hx] at h
    obtain ⟨a', b', ha', hb', _, _, h⟩ := h
    rw [ha] at ha'
    rw [hb] at hb'
    cases ha'; cases hb'
    exact Or.inr h
def GoodN (l : List ObjD) (N : List KeyD) : Prop := N.Nodup ∧ ∀ key ∈ N, OrdK key ∧ key.1 ∈ l.map (·.id) ∧ key.2 ∈ l.map (·.id)
theorem GoodN.nil (l : List ObjD) : GoodN l [] := ⟨List.nodup_nil, by simp⟩
theorem GoodN.note {l : List ObjD} {N : List KeyD} (h : GoodN l N) {a b : ByteArray} (ha : a ∈ l.map (·.id)) (hb : b ∈ l.map (·.id)) : GoodN l (noteK (key2 a b) N) := by
 refine ⟨?_, fun key hk => ?_⟩
 ·unfold noteK
  split
  ·exact h.1
  ·rename_i hm
   rw [List.nodup_append]
   exact ⟨h.1, by simp, fun x hx y hy e => hm (by rw [← List.mem_singleton.1 hy, ← e]; exact hx)⟩
 ·rcases note_mem.1 hk with rfl | hk
  ·refine ⟨key2_le a b, ?_⟩
   rcases key2_or a b with e | e <;> rw [e]
   ·exact ⟨ha, hb⟩
   ·exact ⟨hb, ha⟩
  ·exact h.2 key hk
theorem nodup_len {α : Type} [DecidableEq α] : ∀ {L M : List α}, L.Nodup → (∀ x ∈ L, x ∈ M) → L.length ≤ M.length
 |[], M, _, _ => Nat.zero_le _
 |x :: L, M, hn, hs => by
  rw [List.nodup_cons] at hn
  have hx := hs x (List.mem_cons_self ..)
  have ih := nodup_len (M := M.erase x) hn.2 fun y hy => (List.mem_erase_of_ne (a := y) (b := x) (fun e => hn.1 (by rw [← e]; exact hy))).2 (hs y (List.mem_cons_of_mem _ hy))
  rw [List.length_erase_of_mem hx] at ih
  have := List.length_pos_of_mem hx
  simp; omega
theorem GoodN.len {l : List ObjD} {N : List KeyD} (h : GoodN l N) : N.length ≤ l.length * l.length := by
 have hp : ∀ (A B : List ByteArray), (A.flatMap fun a => B.map fun b => (a, b)).length = A.length * B.length := by
  intro A B
  induction A with
  |nil => simp
  |cons a A ih => rw [List.flatMap_cons, List.length_append, ih, List.length_map, List.length_cons, Nat.succ_mul, Nat.add_comm]
 have := nodup_len h.1 (M := (l.map (·.id)).flatMap fun a => (l.map (·.id)).map fun b => (a, b)) fun key hk => by
  obtain ⟨_, h1, h2⟩ := h.2 key hk
  exact List.mem_flatMap.2 ⟨_, h1, List.mem_map.2 ⟨_, h2, rfl⟩⟩
 rw [hp, List.length_map] at this
 exact this
theorem noted_all {l : List ObjD} {N0 N : List KeyD} {F : List FdD} (h0 : BadInv l (ndsK (keysP l)) N0) (h : CrsInv l N0 N F)
  (hF : ∀ p : FdD, p ∈ F ↔ ∃ (i j : Nat) (s t : Sg), i < j ∧ ((keysP l).map (segB l))[i]? = some s ∧ ((keysP l).map (segB l))[j]? = some t ∧ p = (((i : Int), (j : Int)), meetsQ s t) ∧ meetsQ s t ≠ 0) (key : KeyD) : key ∈ N ↔ key ∈ badP l := by
 rw [h key, h0 key, bad_mem]
 have hn : ndsK (keysP l) = nodesP l := by
  unfold ndsK nodesP bordersP
  rw [List.flatMap_map]
 rw [hn]
 refine or_congr Iff.rfl ?_
 constructor
 ·rintro ⟨p, hp, a, b, ha, hb, hne, hc, x, hx, y, hy, e⟩
  obtain ⟨i, j, s, t, hij, hs, ht, rfl, hm⟩ := (hF p).1 hp
  simp only [Int.toNat_natCast] at ha hb
  rw [List.getElem?_map, ha] at hs
  rw [List.getElem?_map, hb] at ht
  injection hs with hs
  injection ht with ht
  subst hs ht
  refine ⟨(a, ownF l l a), borders_mem.2 ⟨List.mem_of_getElem? ha, rfl⟩, (b, ownF l l b), borders_mem.2 ⟨List.mem_of_getElem? hb, rfl⟩, hne, ?_, x, hx, y, hy, e⟩
  rw [meetsQ_eq] at hm hc
  simp only [crossB]
  rw [decide_eq_true hm, Bool.true_and]
  cases hcm : comK a b with
  |false => simp
  |true =>
   have : meetsR (segB l a) (segB l b) ≠ 1 := fun c => hc ⟨c, hcm⟩
   simp [this]
 ·rintro ⟨p, hp, q, hq, hne, hc, x, hx, y, hy, e⟩
  obtain ⟨hp1, hp2⟩ := borders_mem.1 hp
  obtain ⟨hq1, hq2⟩ := borders_mem.1 hq
  rw [hp2] at hx
  rw [hq2] at hy
  obtain ⟨i, hi⟩ := List.getElem?_of_mem hp1
  obtain ⟨j, hj⟩ := List.getElem?_of_mem hq1
  have key : ∀ (a b : KeyD) (i j : Nat), i < j → (keysP l)[i]? = some a → (keysP l)[j]? = some b → crossB l a b = true → (((i : Int), (j : Int)), meetsQ (segB l a) (segB l b)) ∈ F ∧ ¬ (meetsQ (segB l a) (segB l b) = 1 ∧ comK a b = true) := by
   intro a b i j hij ha hb hc
   unfold crossB at hc
   rw [Bool.and_eq_true, decide_eq_true_eq, Bool.not_eq_true'] at hc
   rw [meetsQ_eq]
   refine ⟨(hF _).2 ⟨i, j, segB l a, segB l b, hij, by rw [List.getElem?_map, ha]; rfl, by rw [List.getElem?_map, hb]; rfl, by rw [meetsQ_eq], by rw [meetsQ_eq]; exact hc.1⟩, fun ⟨c1, c2⟩ => ?_⟩
   have := hc.2
   rw [c2, c1] at this
   simp at this
  rcases Nat.lt_trichotomy i j with hij | rfl | hij
  ·obtain ⟨h1, h2⟩ := key p.1 q.1 i j hij hi hj hc
   exact ⟨_, h1, p.1, q.1, by simpa using hi, by simpa using hj, hne, h2, x, hx, y, hy, e⟩
  ·rw [hi] at hj; injection hj with hj; exact absurd hj hne
  ·obtain ⟨h1, h2⟩ := key q.1 p.1 j i hij hj hi (by rw [crossB_symm]; exact hc)
   exact ⟨_, h1, q.1, p.1, by simpa using hj, by simpa using hi, fun c => hne c.symm, h2, y, hy, x, hx, by rw [e, key2_comm]⟩
end Go.Proofs.YtibpaaajghbkoaaGreat

namespace Go.Proofs.YtibpaaajghbkoaaGreat
open Go.RowKit Go.Maps
theorem pair_lits (k : KeyD) (h1 : k.1.size ≤ 140737488355328) (h2 : k.2.size ≤ 140737488355328) : ∃ (D : Nat), Tryz.prog.keyLits D 83 (keyV k).cells.toList = some [.string k.1.data.toList, .string k.2.data.toList] ∧ (keyV k).formed Tryz.prog 83 = true := by
 obtain ⟨m, hm⟩ := typesS2
 have a1 : k.1.size ≤ maxLen := by unfold maxLen; omega
 have a2 : k.2.size ≤ maxLen := by unfold maxLen; omega
 refine ⟨m + 2, ?_, by simp [Value.formed, Tryz.underlying83, cells50]⟩
 unfold Program.keyLits
 simp only [Tryz.underlying83, Value.cells]
 rw [if_pos (by rw [cells50]; rfl), show List.range 2 = [0, 1] from rfl, List.mapM_cons, List.mapM_cons, List.mapM_nil]
 simp [cells9, Program.keyLits, Tryz.underlying9, a1, a2]
set_option maxRecDepth 100000 in
theorem eql_key (a b : KeyD) (w : World) (a1 : a.1.size ≤ 140737488355328) (a2 : a.2.size ≤ 140737488355328) (b1 : b.1.size ≤ 140737488355328) (b2 : b.2.size ≤ 140737488355328) :
  (binOp .eql 83 (.agg #[.string a.1, .string a.2]) (.agg #[.string b.1, .string b.2])).run Tryz.prog w = .ok (.bool (decide (a = b))) w := by
 obtain ⟨D, hD, fD⟩ := pair_lits a a1 a2
 obtain ⟨D', hD', fD'⟩ := pair_lits b b1 b2
 obtain ⟨r, hr, hiff⟩ := run_equalIn_deep 9997 3 83 keyT50 w D D' (keyV a) (keyV b) _ _ fD fD' hD hD'
 simp only [Nat.reduceAdd] at hr
 simp only [run_eql_struct]
 rw [hr]
 simp only [Result.andThen]
 congr 2
 rw [Bool.eq_iff_iff, hiff, decide_eq_true_eq]
 simp only [List.cons.injEq, Lit.string.injEq, and_true]
 have hb : ∀ x y : ByteArray, x.data.toList = y.data.toList ↔ x = y := fun x y => ⟨fun e => by cases x; cases y; simp at e; rw [e], fun e => by rw [e]⟩
 rw [hb, hb, Prod.ext_iff]
end Go.Proofs.YtibpaaajghbkoaaGreat

namespace Go.Proofs.YtibpaaajghbkoaaGreat
open Go.RowKit Go.Sort Go.Maps Go.ChangeMaps
theorem cell_row_same {w w' : World} {g i : Nat} (h : w'.heap[g]? = w.heap[g]?) : w'.cell? ⟨g, i, none⟩ = w.cell? ⟨g, i, none⟩ := by
 simp only [World.cell?, h]
def VR (lo : Nat) (w : World) (v : Value) (x : LineM) : Prop :=
 OrdK x.1 ∧ ∃ g n c, x.2 = (some ⟨g, 0, none⟩, n, c) ∧ StrRow w (.slice (some ⟨g, 0, none⟩) n c) (idsK x.1) ∧ v.ownBlock ≠ some g ∧ lo < g ∧ g < w.heap.size
theorem StrRow.same {w w' : World} {g n c : Nat} {ids : List ByteArray} (h : StrRow w (.slice (some ⟨g, 0, none⟩) n c) ids) (hg : w'.heap[g]? = w.heap[g]?) : StrRow w' (.slice (some ⟨g, 0, none⟩) n c) ids := by
 obtain ⟨a, cap, e, h1, h2, h3⟩ := h
 injection e with e1 e2 e3
 subst e1 e2 e3
 refine ⟨_, _, rfl, h1, h2, fun hl => ?_⟩
 obtain ⟨b, off, hb, h4⟩ := h3 hl
 injection hb with hb
 injection hb with e1 e2 e3
 subst e1 e2
 exact ⟨_, _, rfl, fun i s hs => by rw [cell_row_same hg]; exact h4 i s hs⟩
theorem VR.kept {lo : Nat} {w w' : World} {v : Value} {x : LineM} {row : Option Nat} (h : VR lo w v x) (hg : w.grownBy w' row) (hr : row = v.ownBlock ∨ row = none ∨ row = some lo) : VR lo w' v x := by
 obtain ⟨h0, g, n, c, h1, h2, h3, h4, h5⟩ := h
 have hne : some g ≠ row := fun e => by
  rcases hr with hr | hr | hr
  ·exact h3 (hr.symm.trans e.symm)
  ·rw [hr] at e; cases e
  ·rw [hr] at e; injection e with e; omega
 exact ⟨h0, g, n, c, h1, h2.same (hg.block g h5 hne), h3, h4, Nat.lt_of_lt_of_le h5 hg.size⟩
theorem VR.on {lo : Nat} {w w' : World} {v : Value} {x : LineM} (h : VR lo w v x) (hb : Below w.heap.size w w') : VR lo w' v x := by
 obtain ⟨h0, g, n, c, h1, h2, h3, h4, h5⟩ := h
 exact ⟨h0, g, n, c, h1, h2.same (hb.block g h5), h3, h4, Nat.lt_of_lt_of_le h5 hb.size⟩
theorem VR.at {lo : Nat} {w w0 : World} {v v' : Value} {x : LineM} (h : VR lo w v x) (hs : VR lo w0 v x) (hl : v'.ownBlock = v.ownBlock ∨ v'.ownBlock = some w0.heap.size) : VR lo w v' x := by
 obtain ⟨h0, g, n, c, h1, h2, h3, h4, h5⟩ := h
 obtain ⟨_, g', n', c', h1', _, _, _, h5'⟩ := hs
 rw [h1] at h1'
 injection h1' with e _
 injection e with e
 injection e with e _
 subst e
 refine ⟨h0, g, n, c, h1, h2, fun e => ?_, h4, h5⟩
 rcases hl with hl | hl
 ·exact h3 (hl.symm.trans e)
 ·rw [hl] at e; injection e with e; omega
theorem VR.row {lo : Nat} {w : World} {v : Value} {x : LineM} (h : VR lo w v x) : StrRow w (.slice x.2.1 x.2.2.1 x.2.2.2) (idsK x.1) := by
 obtain ⟨h0, g, n, c, h1, h2, h3, h4, h5⟩ := h
 rw [h1]; exact h2
theorem vios_sort {lo : Nat} {w : World} {base n : Nat} {v : Value} {L : List LineM} (hn : n = L.length) (hsz : n < 4611686018427387904) (hown : w.ownsRow base 102 3 v n (L.flatMap encVi)) (hv : ∀ x ∈ L, VR lo w v x) (h0 : L = [] → v = .slice none 0 0) :
  Calls Tryz.prog 78 #[v, .func (.func 79) #[] #[]] w fun e w' => e = .returned (.tuple #[]) ∧ ∃ L' : List LineM, L'.Perm L ∧ L'.Pairwise (fun x y => ltOf cfLn y x = false) ∧ w'.ownsRow base 102 3 v n (L'.flatMap encVi) ∧ w.grownBy w' v.ownBlock := by
 subst hn
 cases hL : L with
 |nil =>
  have hv0 := h0 hL
  subst hv0
  rw [hL] at hown
  refine (AnyF.slices_SortFunc_none Tryz.sort_viol none 0 (.func (.func 79) #[] #[]) w).mono ?_
  rintro en w' ⟨rfl, rfl⟩
  exact ⟨rfl, [], List.Perm.refl _, List.Pairwise.nil, hown, World.grownBy.refl _ _⟩
 |cons x0 L0 =>
 rw [← hL]
 haveI : Inhabited {x : LineM // VR lo w v x} := ⟨⟨x0, hv x0 (by rw [hL]; exact List.mem_cons_self ..)⟩⟩
 clear hL
 have hflat : ∀ M : List {x : LineM // VR lo w v x}, M.flatMap (fun x => encVi x.1) = (M.map (·.1)).flatMap encVi := fun M => by rw [List.flatMap_map]
 have hat : (L.attachWith _ hv).map (·.1) = L := by simp [List.attach_map_subtype_val]
 have hH : w.ownsRow base 102 3 v L.length ((L.attachWith _ hv).flatMap fun x => encVi x.1) := by rw [hflat, hat]; exact hown
 have HS := sort_own (α := {x : LineM // VR lo w v x}) Tryz.sort_viol 3 Tryz.isAgg102 Tryz.sizeOf102 (fun x => encVi x.1) (fun _ => rfl) (fun x => encVi_one x.1) (fun x y => cfLn x.1 y.1)
  { irrefl := fun x => swoLn.irrefl x.1, trans := fun x y z h h2 => swoLn.trans x.1 y.1 z.1 h h2, ntrans := fun x y z h h2 => swoLn.ntrans x.1 y.1 z.1 h h2 }
  79 #[] (enters_of Tryz.func79 (by kernel_rfl) rfl) (by simp) hsz (fun W hg x y => vic_any x.1 y.1 W (x.2.kept hg (Or.inl rfl)).row (y.2.kept hg (Or.inl rfl)).row x.2.1 y.2.1) hH
 refine HS.mono ?_
 rintro e w' ⟨rfl, M, hp, hso, ho, hg⟩
 refine ⟨rfl, M.map (·.1), ?_, ?_, by rw [← hflat]; exact ho, hg⟩
 ·have := hp.map (·.1)
  rwa [hat] at this
 ·rw [List.pairwise_map]; exact hso
theorem vios_sorted {l : List ObjD} {N : List KeyD} (hk : ∀ key, key ∈ N ↔ key ∈ badP l) (hn : N.Nodup) {L : List LineM} (hL : (L.map (·.1)).Perm N) (hso : L.Pairwise (fun x y => ltOf cfLn y x = false)) : L.map (·.1) = checkP l := by
 refine sortK_ext ?_ (setK_sorted _) fun x => by rw [hL.mem_iff, hk]; exact mem_setK.symm
 have hn' := hL.nodup_iff.2 hn
 unfold SortK
 rw [List.pairwise_map]
 rw [List.nodup_iff_pairwise_ne, List.pairwise_map] at hn'
 refine (hso.and hn').imp fun {a b} h => ?_
 have h1 := h.1
 rw [cfLn_lt] at h1
 cases h2 : ltK a.1 b.1 with
 |true => rfl
 |false => exact absurd (ltK_total h2 h1) h.2
end Go.Proofs.YtibpaaajghbkoaaGreat

namespace Go.Proofs.YtibpaaajghbkoaaGreat
open Go.RowKit
section
variable {P : Program} {md : Region.Mode} {ops : Array Oper} {S0 : World → Prop} {Q : Act → World → Prop}
theorem LoudB.mk' {o : Oper} {a : Act} {S : World → Prop} {K' : Act → (World → Prop) → Prop} {ι : Type} (val : ι → Value) (T : ι → World → Prop) (hst : ∀ x, StableW (T x)) (hs0 : ∀ x w, T x w → S0 w)
  (hrun : ∀ w, S w → ∀ K : Act → World → Prop, (∀ x w', T x w' → K (a.put o.dst (val x)) w') → o.wp P a w K (fun _ _ _ => False)) (hk : ∀ x, K' (a.put o.dst (val x)) (T x)) : LoudB P S0 o a K' S :=
 ⟨ι, val, T, hst, hs0, fun w hS => hrun w hS _ fun x _ hT => ⟨x, rfl, hT⟩, hk⟩
theorem getD_set_same {listed : Array Bool} {i : Nat} (h : i < listed.size) (d : Bool) : (listed.setIfInBounds i true).getD i d = true := by simp [h]
theorem two_lex {n : Nat} (hc : Region.chainB md ops (n + 1) = true) (hw2 : Region.waitsFor md ops (n + 2) n = true) (o1 o2 : Oper) (rest : List Oper) (listed : Array Bool) (a : Act) (S : World → Prop)
  (hd : DoneTo ops n listed) (hl : ∀ j, (o1 :: o2 :: rest)[j]? = ops[n + j]?) (hB : Region.lexFrom md ops (rest.length + 2) n listed = true) (hw1a : Region.wanted o1 (yielded ops a.tmps) = true) (hw2a : Region.wanted o2 (yielded ops a.tmps) = true)
  (h1 : LoudB P S0 o1 a (tailM P ops S0 Q (o2 :: rest)) S)
  (h2 : LoudB P S0 o2 a (fun a' S' => Region.wanted o1 (yielded ops a'.tmps) = true ∧ LoudB P S0 o1 a' (tailM P ops S0 Q rest) S') S) : anyM P md ops S0 Q (rest.length + 2) listed a S := by
 have g1 : ops[n]? = some o1 := by simpa using (hl 0).symm
 have g2 : ops[n + 1]? = some o2 := by simpa using (hl 1).symm
 have z1 : n < ops.size := (Array.getElem?_eq_some_iff.1 g1).1
 have z2 : n + 1 < ops.size := (Array.getElem?_eq_some_iff.1 g2).1
 simp only [Region.lexFrom, Bool.and_eq_true] at hB
 obtain ⟨⟨hr, hf⟩, ⟨hr2, hf2⟩, hB2⟩ := hB
 have hr' : n ∈ Region.ready md ops listed := by simpa using hr
 have late : ∀ (listed' : Array Bool) (i : Nat), (∀ j, n + 2 ≤ j → j < ops.size → listed'.getD j false = false) → i ∈ Region.ready md ops listed' → n + 3 ≤ i → False := fun listed' i hno hi hge => by
  obtain ⟨hun, oi, hoi, hall⟩ := mem_ready.1 hi
  have hiz : i < ops.size := (Array.getElem?_eq_some_iff.1 hoi).1
  have h4 := List.all_eq_true.1 hc i (List.mem_range.2 hiz)
  simp only [Bool.or_eq_true, decide_eq_true_eq] at h4
  rcases h4 with h4 | h4
  ·omega
  ·obtain ⟨o', ho', e, he, hb, hon⟩ := Region.waitsFor_spec h4
   have : o' = oi := Option.some.inj (ho'.symm.trans hoi)
   subst this
   have h5 := hall e he hb
   rw [hon, hno (i - 1) (by omega) (by omega)] at h5
   cases h5
 have wait2 : ∀ (listed' : Array Bool) , listed'.getD n false = false → n + 2 ∈ Region.ready md ops listed' → False := fun listed' hno hi => by
  obtain ⟨hun, oi, hoi, hall⟩ := mem_ready.1 hi
  obtain ⟨o', ho', e, he, hb, hon⟩ := Region.waitsFor_spec hw2
  have : o' = oi := Option.some.inj (ho'.symm.trans hoi)
  subst this
  have h5 := hall e he hb
  rw [hon, hno] at h5
  cases h5
 have no1 : ∀ j, n ≤ j → j < ops.size → ∀ d, listed.getD j d = false := fun j hj hz d => by rw [hd.2 j hz d]; exact decide_eq_false (by omega)
 refine ⟨fun e => (by rw [e] at hr'; cases hr'), fun i hi => ?_⟩
 have hik : i = n ∨ i = n + 1 := by
  obtain ⟨hun, oi, hoi, _⟩ := mem_ready.1 hi
  have hiz : i < ops.size := (Array.getElem?_eq_some_iff.1 hoi).1
  have h1 := hd.2 i hiz true
  rw [hun] at h1
  have h2 : ¬ i < n := of_decide_eq_false h1.symm
  by_cases e2 : i = n + 2
  ·subst e2; exact (wait2 listed (no1 n (Nat.le_refl _) z1 _) hi).elim
  ·by_cases e3 : n + 3 ≤ i
   ·exact (late listed i (fun j hj hz => no1 j (by omega) hz _) hi e3).elim
   ·omega
 rcases hik with rfl | rfl
 ·have step : ∀ b S', tailM P ops S0 Q (o2 :: rest) b S' → anyM P md ops S0 Q (o2 :: rest).length (listed.setIfInBounds i true) b S' := fun b S' hb =>
   tail_lex hc (o2 :: rest) (i + 1) _ b S' (Nat.le_refl _) hd.step (fun j => by have := hl (j + 1); simpa [Nat.add_assoc, Nat.add_comm 1 j] using this) (by simp only [List.length_cons, Region.lexFrom, Bool.and_eq_true]; exact ⟨⟨hr2, hf2⟩, hB2⟩) hb
  unfold opM
  simp only [g1, hw1a, if_true]
  exact Or.inr (h1.mono fun a' S' _ _ hk => step a' S' hk)
 ·have hsz : n + 1 < listed.size := by rw [hd.1]; exact z2
  have un : (listed.setIfInBounds (n + 1) true).getD n false = false := by
   rw [getD_set_ne false (by omega), no1 n (Nat.le_refl _) z1]
  have unt : (listed.setIfInBounds (n + 1) true).getD n true = false := by
   rw [getD_set_ne true (by omega), no1 n (Nat.le_refl _) z1]
  have comm : (listed.setIfInBounds (n + 1) true).setIfInBounds n true = (listed.setIfInBounds n true).setIfInBounds (n + 1) true := by
   rw [Array.setIfInBounds_comm]; omega
  have hrn : n ∈ Region.ready md ops (listed.setIfInBounds (n + 1) true) := by
   obtain ⟨_, oi, hoi, hall⟩ := mem_ready.1 hr'
   refine mem_ready.2 ⟨unt, oi, hoi, fun e he hb => ?_⟩
   have h5 := hall e he hb
   by_cases ee : n + 1 = e.on
   ·rw [← ee]; exact getD_set_same hsz _
   ·rw [getD_set_ne false ee]; exact h5
  unfold opM
  simp only [g2, hw2a, if_true]
  refine Or.inr (h2.mono fun a' S' _ _ hk => ⟨fun e => (by rw [e] at hrn; cases hrn), fun i hi => ?_⟩)
  have hin : i = n := by
   obtain ⟨hun, oi, hoi, _⟩ := mem_ready.1 hi
   have hiz : i < ops.size := (Array.getElem?_eq_some_iff.1 hoi).1
   by_cases e1 : i = n + 1
   ·subst e1; rw [getD_set_same hsz] at hun; cases hun
   ·rw [getD_set_ne true (by omega)] at hun
    have h1 := hd.2 i hiz true
    rw [hun] at h1
    have h2 : ¬ i < n := of_decide_eq_false h1.symm
    by_cases e2 : i = n + 2
    ·subst e2; exact (wait2 _ un hi).elim
    ·by_cases e3 : n + 3 ≤ i
     ·exact (late _ i (fun j hj hz => by rw [getD_set_ne false (by omega)]; exact no1 j (by omega) hz _) hi e3).elim
     ·omega
  subst hin
  unfold opM
  simp only [g1, hk.1, if_true]
  refine Or.inr (hk.2.mono fun b S2 _ _ hk2 => ?_)
  rw [comm]
  exact tail_lex hc rest (i + 2) _ b S2 (by omega) hd.step.step (fun j => by have := hl (j + 2); simpa [Nat.add_assoc, Nat.add_comm 2 j] using this) hB2 hk2
theorem wp_region_two {id : Nat} {Q' : Exit → Act → World → Prop} {a : Act} {w : World} {l : List Oper} (n : Nat) (S0 S1 : World → Prop) (hm : P.follows .mixedOrders = true)
  (hB : Region.lexB .any l.toArray = true) (hc : Region.chainB .any l.toArray (n + 1) = true) (hw2 : Region.waitsFor .any l.toArray (n + 2) n = true) (hd : dstsB (l.take n) a.tmps.size = true) (hst : StableW S1) (h10 : ∀ W, S1 W → S0 W) (h1 : S1 w.drew)
  (o1 o2 : Oper) (rest : List Oper) (hl : l.drop n = o1 :: o2 :: rest)
  (hh : ∃ b, (∀ W, S0 W → wpQuiet P l.toArray (ByW W) (fun a' => a' = b) (l.take n) a) ∧ Region.wanted o1 (yielded l.toArray b.tmps) = true ∧ Region.wanted o2 (yielded l.toArray b.tmps) = true ∧
   LoudB P S0 o1 b (tailM P l.toArray S0 (fun a' w' => Q' .normal a' w') (o2 :: rest)) S1 ∧
   LoudB P S0 o2 b (fun a' S' => Region.wanted o1 (yielded l.toArray a'.tmps) = true ∧ LoudB P S0 o1 a' (tailM P l.toArray S0 (fun a' w' => Q' .normal a' w') rest) S') S1) :
  (Code.region id l.toArray true).wp P Q' a w := by
 obtain ⟨b, hq, wa, wb, ht1, ht2⟩ := hh
 simp only [Region.lexB, Bool.and_eq_true] at hB
 refine wp_region_any hm (anyM_sound (Q := fun a' w' => Q' .normal a' w') (S0 := S0) (fun _ _ h => h) _ _ _ S1 hst h10 ?_ _ h1)
 have hlen : l.toArray.size = (l.take n).length + (l.drop n).length := by
  rw [List.size_toArray, ← List.length_append, List.take_append_drop]
 rw [hlen]
 have hn : n < l.length := by
  have := congrArg List.length hl
  rw [List.length_drop] at this
  simp at this; omega
 have e : (l.take n).length = n := by rw [List.length_take]; omega
 refine head_lex hB.1 hst h10 (l.drop n).length (l.take n) 0 _ a (by rw [← hlen]; exact DoneTo.start) (fun j o hj => ?_) (by rw [← hlen]; exact hB.2) (head_of_quiet _ _ hd ⟨_, h10 _ h1⟩ hq) (fun listed' hd' hB' => ?_)
 ·rw [List.getElem?_take] at hj
  rw [Nat.zero_add, List.getElem?_toArray]
  split at hj
  ·exact hj
  ·cases hj
 ·rw [e, Nat.zero_add] at hd' hB'
  rw [hl] at hB' ⊢
  exact two_lex hc hw2 o1 o2 rest listed' b S1 hd' (fun j => by rw [← hl, List.getElem?_drop, List.getElem?_toArray]) hB' wa wb ht1 ht2
end
end Go.Proofs.YtibpaaajghbkoaaGreat
