/-  -/
import Derived.Test.YtibpaaajghbkoaaGreatTBj
import Derived.Test.YtibpaaajghbkoaaGreatTAs
import Derived.Test.YtibpaaajghbkoaaGreatTAt
namespace Go.Proofs.YtibpaaajghbkoaaGreat
open Go.RowKit Go.Maps Go.Sort Go.ChangeMaps
def CaOK (l : List ObjD) (x : CaM) : Prop := x.2.1 = ptO l x.1.1 ∧ x.2.2.1 = ptO l x.1.2.2.1 ∧ x.2.2.2 = ptO l x.1.2.2.2
set_option maxRecDepth 100000 in
set_option maxHeartbeats 4000000 in
theorem free_any (bp : Nat) (ord : List ByteArray) (l : List ObjD) (bo bn br : Nat) (vo : Value) (x : CaM) (w : World) (hp : PlanAt w bp ord l bo bn br vo) (hok : mapOK l = true) (hx : CaOK l x) :
  Calls Tryz.prog 63 #[.pointer (some ⟨bp, 0, none⟩), .agg (encCa x).toArray] w fun e w' => e = .returned (.bool (freeC l x.1)) ∧ Below w.heap.size w w' := by
 have HPR := Lib.hid hp.row
 obtain ⟨Nn, hmap, hN, hlen⟩ := hp.nods
 have HFA := Lib.hid (free_all (N := Nn) (fun r => hN r) hmap.nodup x.1)
 have HS := Lib.hid (fun (p : ByteArray × Pt) (hm : p ∈ Nn) => (NodesT.mem (N := Nn) (fun r => hN r) hmap.nodup hm))
 have HT := Lib.hid (fun (q : Pt) (hq : nearQ q = true) W => hasT_any x.2.1 x.2.2.1 x.2.2.2 q (by rw [hx.1]; exact pt_near hok _) (by rw [hx.2.1]; exact pt_near hok _) (by rw [hx.2.2]; exact pt_near hok _) hq W)
 have HO := Lib.hid (fun (r : ByteArray) (q : Pt) => (show oneF l x.1 r q = (decide (r = x.1.1 ∨ r = x.1.2.2.1 ∨ r = x.1.2.2.2) || !hasT x.2.1 x.2.2.1 x.2.2.2 q) by rw [hx.1, hx.2.1, hx.2.2]; rfl))
 have HOK := Lib.hid hok
 have HMAP := Lib.hid hmap
 clear hp hok hx hN hlen hmap
 generalize freeC l x.1 = res at HFA ⊢
 obtain ⟨⟨xi, xs, x1, x2⟩, ⟨x3, x4⟩, ⟨x5, x6⟩, ⟨x7, x8⟩⟩ := x
 simp only [] at HT HO HFA
 simp only [encCa]
 obtain ⟨w0r, hrange, hra, hgr, hsr⟩ := (HMAP.out.on ((Below.refl _ _).alloc (Nat.le_refl _) (.cells #[.string xi, .int .i64 xs, .string x1, .string x2, .int .i64 x3, .int .i64 x4, .int .i64 x5, .int .i64 x6, .int .i64 x7, .int .i64 x8] 115))).range Tryz.underlying62
 go_enter Tryz.func63, Tryz.ntmps63
 obtain ⟨pz, p0, p1, p2, p3⟩ := rk4 HPR.out
 go_wp2_with fail
 clear p0 p1 p2 p3 pz
 obtain ⟨wv, hwv⟩ : ∃ z, z = w.alloc (.cells #[.string xi, .int .i64 xs, .string x1, .string x2, .int .i64 x3, .int .i64 x4, .int .i64 x5, .int .i64 x6, .int .i64 x7, .int .i64 x8] 115) := ⟨_, rfl⟩
 have hzv : wv.heap.size = w.heap.size + 1 := by rw [hwv]; simp
 have BV : Below w.heap.size w wv := by rw [hwv]; exact (Below.refl _ _).alloc (Nat.le_refl _) _
 have HC := Lib.hid (show wv.heap[w.heap.size]? = some (.cells #[.string xi, .int .i64 xs, .string x1, .string x2, .int .i64 x3, .int .i64 x4, .int .i64 x5, .int .i64 x6, .int .i64 x7, .int .i64 x8] 115) by rw [hwv]; exact row_new _ _)
 have B0 : Below (w.heap.size + 1) wv w0r := (Below.refl _ _).grown (hwv ▸ hgr) (by omega) (fun j hj => by cases hj)
 rw [World.size_alloc] at hra hsr
 have HRA := Lib.hid hra
 clear hra hgr hwv hrange hsr
 go_loopw [5] (fun _ wx => ∃ (done todo : List (ByteArray × Pt)), RangeAt Value.string intK wx bn (w.heap.size + 1) Nn done todo ∧ (∀ p ∈ done, oneF l (xi, xs, x1, x2) p.1 p.2 = true) ∧ Below (w.heap.size + 1) wv wx) (fun _ wx => wx.rangeLeft bn (w.heap.size + 1))
 case atStart => exact ⟨[], Nn, HRA.out, (fun p hp => by cases hp), B0⟩
 case round =>
  obtain ⟨done, todo, hra, hdn, hbx⟩ := hrel
  have hzx := hbx.size
  have HDN := Lib.hid hdn
  have HB := Lib.hid hbx
  have HLF := Lib.hid hra.left
  have HPM := Lib.hid hra.perm
  rcases hra.next (P := Tryz.prog) with ⟨ht, hp, hnx⟩ | ⟨⟨r, ⟨q1, q2⟩⟩, todo', w5, hp, hnx, hra5, hg5, hs5, hen⟩
  ·have HE := Lib.hid (show res = true by
    rw [HFA.out, List.all_eq_true]
    exact fun p hm => hdn p (hp.mem_iff.1 hm))
   have BF := Lib.hid (BV.trans (hbx.mono (by omega)))
   clear hra hdn hbx ht hp
   go_wp2
   go_ret
   exact ⟨by rw [HE.out] <;> rfl, BF.out⟩
  ·have hpm : (r, (q1, q2)) ∈ Nn := HPM.out.mem_iff.2 (List.mem_append_right _ (hp.mem_iff.2 (List.mem_cons_self ..)))
   obtain ⟨hbr, hpt⟩ := HS.out _ hpm
   simp only [] at hpt
   have HPM2 := Lib.hid hpm
   have HR5 := Lib.hid hra5
   have hlt5 : todo'.length < todo.length := by have := hp.length_eq; simp at this; omega
   have B5 := Lib.hid (hbx.grown hg5 (by omega) (fun j hj => by injection hj with hj; omega))
   have HZ5 := Lib.hid (show w.heap.size + 1 ≤ w5.heap.size by rw [hs5]; omega)
   have HC5 := Lib.hid (row_later (Below.mono B5.out (by omega)) HC.out)
   have HAS := Lib.hid (fun W => HT.out (q1, q2) (by rw [hpt]; exact pt_near HOK.out r) W)
   have HO2 := Lib.hid (HO.out r (q1, q2))
   simp only [intK] at hnx hen
   clear hra hdn hbx hg5 hra5 hp hpm hpt hbr hs5
   obtain ⟨hb, hhb⟩ : ∃ z, hasT (x3, x4) (x5, x6) (x7, x8) (q1, q2) = z := ⟨_, rfl⟩
   rw [hhb] at HAS HO2
   clear hhb
   have B56 := Lib.hid (show Below w5.heap.size w5 (w5.alloc (.cells #[.int .i64 q1, .int .i64 q2] 33)) from (Below.refl _ _).alloc (Nat.le_refl _) _)
   have cz := lt_of_block HC5.out
   have c0 := cell_of_row w5 _ 0 _ _ _ HC5.out
   have c1 := cell_of_row w5 _ 1 _ _ _ HC5.out
   have c2 := cell_of_row w5 _ 2 _ _ _ HC5.out
   have c3 := cell_of_row w5 _ 3 _ _ _ HC5.out
   have c4 := cell_of_row w5 _ 4 _ _ _ HC5.out
   have c5 := cell_of_row w5 _ 5 _ _ _ HC5.out
   have c6 := cell_of_row w5 _ 6 _ _ _ HC5.out
   have c7 := cell_of_row w5 _ 7 _ _ _ HC5.out
   have c8 := cell_of_row w5 _ 8 _ _ _ HC5.out
   have c9 := cell_of_row w5 _ 9 _ _ _ HC5.out
   simp only [List.getElem?_toArray, List.getElem?_cons_zero, List.getElem?_cons_succ] at c0 c1 c2 c3 c4 c5 c6 c7 c8 c9
   by_cases e0 : r = xi
   ·have HONE := Lib.hid (show oneF l (xi, xs, x1, x2) r (q1, q2) = true by rw [HO2.out, decide_eq_true (Or.inl e0)]; rfl)
    obtain rfl : xi = r := e0.symm
    have HG := Lib.hid (show ∀ p ∈ done ++ [(xi, (q1, q2))], oneF l (xi, xs, x1, x2) p.1 p.2 = true from fun p hp => by
     rcases List.mem_append.1 hp with h | h
     ·exact HDN.out p h
     ·rw [List.mem_singleton.1 h]; exact HONE.out)
    have HR6 := Lib.hid (HR5.out.on B56.out)
    have B6 := Lib.hid (B5.out.trans (B56.out.mono HZ5.out))
    go_wp2
    go_roundw
    case rel => exact ⟨_, todo', HR6.out, HG.out, B6.out⟩
    case measure =>
     rw [HR6.out.left, HLF.out]; exact hlt5
   ·have d0 := bytesL_ne e0
    by_cases e1 : r = x1
    ·have HONE := Lib.hid (show oneF l (xi, xs, x1, x2) r (q1, q2) = true by rw [HO2.out, decide_eq_true (Or.inr (Or.inl e1))]; rfl)
     obtain rfl : x1 = r := e1.symm
     have HG := Lib.hid (show ∀ p ∈ done ++ [(x1, (q1, q2))], oneF l (xi, xs, x1, x2) p.1 p.2 = true from fun p hp => by
      rcases List.mem_append.1 hp with h | h
      ·exact HDN.out p h
      ·rw [List.mem_singleton.1 h]; exact HONE.out)
     have HR6 := Lib.hid (HR5.out.on B56.out)
     have B6 := Lib.hid (B5.out.trans (B56.out.mono HZ5.out))
     go_wp2
     go_roundw
     case rel => exact ⟨_, todo', HR6.out, HG.out, B6.out⟩
     case measure =>
      rw [HR6.out.left, HLF.out]; exact hlt5
    ·have d1 := bytesL_ne e1
     by_cases e2 : r = x2
     ·have HONE := Lib.hid (show oneF l (xi, xs, x1, x2) r (q1, q2) = true by rw [HO2.out, decide_eq_true (Or.inr (Or.inr e2))]; rfl)
      obtain rfl : x2 = r := e2.symm
      have HG := Lib.hid (show ∀ p ∈ done ++ [(x2, (q1, q2))], oneF l (xi, xs, x1, x2) p.1 p.2 = true from fun p hp => by
       rcases List.mem_append.1 hp with h | h
       ·exact HDN.out p h
       ·rw [List.mem_singleton.1 h]; exact HONE.out)
      have HR6 := Lib.hid (HR5.out.on B56.out)
      have B6 := Lib.hid (B5.out.trans (B56.out.mono HZ5.out))
      go_wp2
      go_roundw
      case rel => exact ⟨_, todo', HR6.out, HG.out, B6.out⟩
      case measure =>
       rw [HR6.out.left, HLF.out]; exact hlt5
     ·have d2 := bytesL_ne e2
      have HOE := Lib.hid (show oneF l (xi, xs, x1, x2) r (q1, q2) = !hb by rw [HO2.out, decide_eq_false (by rintro (c | c | c); exact e0 c; exact e1 c; exact e2 c)]; rfl)
      clear e0 e1 e2
      go_wp2_with fail
      refine (HAS.out _).mono ?_
      rintro e w6 ⟨rfl, hb6⟩
      have B56 := Lib.hid (below_step B56.out (Nat.le_refl _) hb6)
      clear hb6
      cases hb with
      |false =>
       have HONE := Lib.hid (show oneF l (xi, xs, x1, x2) r (q1, q2) = true from HOE.out)
       have HG := Lib.hid (show ∀ p ∈ done ++ [(r, (q1, q2))], oneF l (xi, xs, x1, x2) p.1 p.2 = true from fun p hp => by
        rcases List.mem_append.1 hp with h | h
        ·exact HDN.out p h
        ·rw [List.mem_singleton.1 h]; exact HONE.out)
       have HR6 := Lib.hid (HR5.out.on B56.out)
       have B6 := Lib.hid (B5.out.trans (B56.out.mono HZ5.out))
       go_wp2
       go_roundw
       case rel => exact ⟨_, todo', HR6.out, HG.out, B6.out⟩
       case measure =>
        rw [HR6.out.left, HLF.out]; exact hlt5
      |true =>
       have HE := Lib.hid (show res = false by
        rw [HFA.out, List.all_eq_false]
        exact ⟨_, HPM2.out, by rw [HOE.out]; simp⟩)
       have BF := Lib.hid (BV.trans ((B5.out.trans (B56.out.mono HZ5.out)).mono (by omega)))
       go_wp2
       go_ret
       exact ⟨by rw [HE.out] <;> rfl, BF.out⟩
end Go.Proofs.YtibpaaajghbkoaaGreat
