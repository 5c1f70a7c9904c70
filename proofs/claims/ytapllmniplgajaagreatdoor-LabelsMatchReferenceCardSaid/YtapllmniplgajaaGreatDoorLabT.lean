/- The library's exchange of two ranges and its rotation, at labels. -/
import Derived.Test.YtapllmniplgajaaGreatDoorLabS
import Derived.Test.YtapllmniplgajaaGreatDoorProg
import Derived.Test.YtapllmniplgajaaGreatDoorKit
import Derived.Shelf.SlSortCmp.KitK
import Derived.Deep.LoopGhost
namespace Go.Proofs.YtapllmniplgajaaGreatDoor
open Go.Shelf Go.RowKit Go.Lib Go.Sort

/-- A label. -/
structure LabD where
  id : ByteArray
  x : Int
  y : Int
  w : Int
  h : Int
  rank : Int
  deriving DecidableEq
instance : Inhabited LabD := ⟨⟨⟨#[]⟩, 0, 0, 0, 0, 0⟩⟩
/-- Its six cells. -/
def encL (l : LabD) : List Value := [.string l.id, .int .i64 l.x, .int .i64 l.y, .int .i64 l.w, .int .i64 l.h, .int .i64 l.rank]
theorem encL_len (l : LabD) : (encL l).length = 6 := rfl
theorem encL_one (l : LabD) : ∀ v ∈ encL l, v.oneCell' = true := by
  intro v hv
  simp only [encL, List.mem_cons, List.not_mem_nil, or_false] at hv
  rcases hv with rfl | rfl | rfl | rfl | rfl | rfl <;> rfl


/-- What the walks ask of a program: bodies of the sort's functions, and their types. -/
structure SortP (P : Program) (k : Nat) : Prop where
  mixed : P.follows .mixedOrders = true
  f1 : P.funcs[155]? = some Tryz.f155
  f2 : P.funcs[145]? = some Tryz.f145
  f3 : P.funcs[132]? = some Tryz.f132
  t0 : P.underlying 0 = some (TypeDesc.tuple #[])
  a0 : ∀ w, (isAgg 0).run P w = .ok false w
  z0 : ∀ w, (Go.sizeOf 0).run P w = .ok 1 w
  v0 : ∀ w, (zeroValue 0).run P w = .ok (Value.tuple #[]) w
  t3 : P.underlying 3 = some (TypeDesc.int IntKind.i64)
  a3 : ∀ w, (isAgg 3).run P w = .ok false w
  z3 : ∀ w, (Go.sizeOf 3).run P w = .ok 1 w
  v3 : ∀ w, (zeroValue 3).run P w = .ok (Value.int IntKind.i64 0) w
  t4 : P.underlying 4 = some (TypeDesc.bool)
  a4 : ∀ w, (isAgg 4).run P w = .ok false w
  z4 : ∀ w, (Go.sizeOf 4).run P w = .ok 1 w
  v4 : ∀ w, (zeroValue 4).run P w = .ok (Value.bool false) w
  t5 : P.underlying 86 = some (TypeDesc.int IntKind.u64)
  a5 : ∀ w, (isAgg 86).run P w = .ok false w
  z5 : ∀ w, (Go.sizeOf 86).run P w = .ok 1 w
  v5 : ∀ w, (zeroValue 86).run P w = .ok (Value.int IntKind.u64 0) w
  t22 : P.underlying 22 = some (TypeDesc.slice 47)
  a22 : ∀ w, (isAgg 22).run P w = .ok false w
  z22 : ∀ w, (Go.sizeOf 22).run P w = .ok 1 w
  a47 : ∀ w, (isAgg 47).run P w = .ok true w
  z47 : ∀ w, (Go.sizeOf 47).run P w = .ok k w
theorem sortP : SortP Tryz.prog 6 where
  mixed := by kernel_rfl
  f1 := Tryz.func155
  f2 := Tryz.func145
  f3 := Tryz.func132
  t0 := Tryz.underlying0
  a0 := Tryz.isAgg0
  z0 := Tryz.sizeOf0
  v0 := Tryz.zeroValue0
  t3 := Tryz.underlying3
  a3 := Tryz.isAgg3
  z3 := Tryz.sizeOf3
  v3 := Tryz.zeroValue3
  t4 := Tryz.underlying4
  a4 := Tryz.isAgg4
  z4 := Tryz.sizeOf4
  v4 := Tryz.zeroValue4
  t5 := Tryz.underlying86
  a5 := Tryz.isAgg86
  z5 := Tryz.sizeOf86
  v5 := Tryz.zeroValue86
  t22 := Tryz.underlying22
  a22 := Tryz.isAgg22
  z22 := Tryz.sizeOf22
  a47 := Tryz.isAgg47
  z47 := Tryz.sizeOf47

variable {P : Program}


set_option maxHeartbeats 4000000 in
set_option maxRecDepth 1000000 in
theorem swapRange_any (k : Nat) (L : SortP P k) (blk off cap a b n : Nat) (d0 d : Array LabD) (fv : Value) (w0 w : World) (R : RowK encL k w0 blk off d0) (hs : d0.size = d.size) (S : SWK encL k w0 blk off d w) (ha : a + n ≤ d.size) (hb : b + n ≤ d.size) (hsz : d.size < 4611686018427387904) :
    Calls P 155 #[.slice (some ⟨blk, off, none⟩) d.size cap, .int .i64 a, .int .i64 b, .int .i64 n, fv] w fun e w' => e = .returned (.tuple #[]) ∧ SWK encL k w0 blk off (swapRange a b 0 n d) w' := by
  have S0 : Aside (SWK encL k w0 blk off d w) := S
  clear S
  have mixed := L.mixed
  have t0 := L.t0
  have a0 := L.a0
  have z0 := L.z0
  have v0 := L.v0
  have t3 := L.t3
  have a3 := L.a3
  have z3 := L.z3
  have v3 := L.v3
  have t4 := L.t4
  have a4 := L.a4
  have z4 := L.z4
  have v4 := L.v4
  have t5 := L.t5
  have a5 := L.a5
  have z5 := L.z5
  have v5 := L.v5
  have t22 := L.t22
  have a22 := L.a22
  have z22 := L.z22
  have u22 := run_underlying L.t22
  have a47 := L.a47
  have z47 := L.z47
  go_enter L.f1, Tryz.ntmps155
  go_wp2
  go_loopg [10] n (fun kx s10 wr => ∃ (i : Nat) (dk : Array LabD), s10 = .int .i64 i ∧ i ≤ n ∧ n - i ≤ kx ∧ dk.size = d.size ∧ Aside (SWK encL k w0 blk off dk wr) ∧ swapRange a b i (n - i) dk = swapRange a b 0 n d)
  case atStart => exact ⟨0, d, rfl, by omega, by omega, rfl, S0, rfl⟩
  case round =>
    clear S0
    obtain ⟨i, dk, rfl, hi, hkx, hds, S1, heq⟩ := hrel
    by_cases hlt : i < n
    · have hltz : (i : Int) < (n : Int) := by omega
      go_wp2_with fail
      have ea : ((a : Int) + (i : Int)).toNat = a + i := by omega
      have pa : (0 : Int) ≤ (a : Int) + (i : Int) := by omega
      have ba : (a : Int) + (i : Int) < (d.size : Int) := by omega
      have ra : IntKind.i64.wrap ((a : Int) + (i : Int)) = (a : Int) + (i : Int) := by rw [IntKind.wrap_i64]; omega
      have ec : ((b : Int) + (i : Int)).toNat = b + i := by omega
      have pc : (0 : Int) ≤ (b : Int) + (i : Int) := by omega
      have bc : (b : Int) + (i : Int) < (d.size : Int) := by omega
      have rc : IntKind.i64.wrap ((b : Int) + (i : Int)) = (b : Int) + (i : Int) := by rw [IntKind.wrap_i64]; omega
      have S2 : Aside (SWK encL k w0 blk off (swp dk (a + i) (b + i)) ((wr.drew.setCells blk (off + (a + i) * k) (encL dk[b + i]!)).setCells blk (off + (b + i) * k) (encL dk[a + i]!))) := S1.out.swapped R (a + i) (b + i) (by omega) (by omega)
      have la := S1.out.ld1 R (by omega) P (a + i) (by omega)
      have lb := S1.out.ld1 R (by omega) P (b + i) (by omega)
      have sa := S1.out.st1 R (by omega) P (a + i) (by omega) dk[b + i]!
      have sb := S1.out.st2 R (by omega) P (a + i) (b + i) (by omega) (by omega) dk[b + i]! dk[a + i]!
      have na : (encL dk[a + i]!).length = k := R.hk _
      have nb : (encL dk[b + i]!).length = k := R.hk _
      have HEQ := Lib.hid (show swapRange a b (i + 1) (n - (i + 1)) (swp dk (a + i) (b + i)) = swapRange a b 0 n d by
        rw [← heq, show n - i = (n - (i + 1)) + 1 by omega]; rfl)
      have HDS := Lib.hid (show (swp dk (a + i) (b + i)).size = d.size by rw [size_swp]; exact hds)
      generalize swp dk (a + i) (b + i) = dn at S2 HEQ HDS
      generalize encL dk[a + i]! = cI at S2 la sb na
      generalize encL dk[b + i]! = cJ at S2 lb sa sb nb
      clear S1 heq
      go_wp2_with fail
      go_big_region_o
      clear la lb sa sb
      generalize (wr.drew.setCells blk (off + (a + i) * k) cJ).setCells blk (off + (b + i) * k) cI = w2 at S2 ⊢
      go_wp2
      go_roundg (n - (i + 1))
      case measure => omega
      case rel => exact ⟨i + 1, dn, by go_num, by omega, Nat.le_refl _, HDS.out, S2, HEQ.out⟩
    · have hltz : ¬ (i : Int) < (n : Int) := by omega
      go_wp2
      go_end0
      refine ⟨rfl, ?_⟩
      rw [show n - i = 0 by omega] at heq
      rw [← heq]
      exact S1.out

set_option maxHeartbeats 4000000 in
set_option maxRecDepth 1000000 in
theorem rotate_any (k : Nat) (L : SortP P k) (blk off cap a m b : Nat) (d0 d : Array LabD) (fv : Value) (w0 w : World) (R : RowK encL k w0 blk off d0) (hs : d0.size = d.size) (S : SWK encL k w0 blk off d w) (ha : a < m) (hm : m < b) (hb : b ≤ d.size) (hsz : d.size < 4611686018427387904) :
    Calls P 145 #[.slice (some ⟨blk, off, none⟩) d.size cap, .int .i64 a, .int .i64 m, .int .i64 b, fv] w fun e w' => e = .returned (.tuple #[]) ∧ SWK encL k w0 blk off (rot m (b - a) (m - a) (b - m) d) w' := by
  have S0 : Aside (SWK encL k w0 blk off d w) := S
  have C : Aside (∀ (dk : Array LabD) (wk : World) (x y n : Nat), dk.size = d.size → SWK encL k w0 blk off dk wk → x + n ≤ d.size → y + n ≤ d.size → Calls P 155 #[.slice (some ⟨blk, off, none⟩) d.size cap, .int .i64 x, .int .i64 y, .int .i64 n, fv] wk fun e w' => e = .returned (.tuple #[]) ∧ Aside (SWK encL k w0 blk off (swapRange x y 0 n dk) w')) := fun dk wk x y n h1 h2 h3 h4 => by
    have := swapRange_any k L blk off cap x y n d0 dk fv w0 wk R (by omega) h2 (by omega) (by omega) (by omega)
    rw [h1] at this; exact this
  clear S
  have mixed := L.mixed
  have t0 := L.t0
  have a0 := L.a0
  have z0 := L.z0
  have v0 := L.v0
  have t3 := L.t3
  have a3 := L.a3
  have z3 := L.z3
  have v3 := L.v3
  have t4 := L.t4
  have a4 := L.a4
  have z4 := L.z4
  have v4 := L.v4
  have t5 := L.t5
  have a5 := L.a5
  have z5 := L.z5
  have v5 := L.v5
  have t22 := L.t22
  have a22 := L.a22
  have z22 := L.z22
  have u22 := run_underlying L.t22
  have a47 := L.a47
  have z47 := L.z47
  have e1 : ∀ args w, (callFunc 155 args).run P w = .ok (.enter 155 args) w := enters_of L.f1 (by kernel_rfl) rfl
  go_enter L.f2, Tryz.ntmps145
  go_wp2
  go_loopg [10, 11] (b - a) (fun kx s10 s11 wr => ∃ (i j : Nat) (dk : Array LabD), s10 = .int .i64 i ∧ s11 = .int .i64 j ∧ 0 < i ∧ 0 < j ∧ i ≤ m - a ∧ j ≤ b - m ∧ i + j ≤ kx ∧ dk.size = d.size ∧ Aside (SWK encL k w0 blk off dk wr) ∧ Aside (rot m kx i j dk = rot m (b - a) (m - a) (b - m) d))
  case atStart => exact ⟨m - a, b - m, d, by go_num, by go_num, by omega, by omega, by omega, by omega, by omega, rfl, S0, rfl⟩
  case round =>
    clear S0
    obtain ⟨i, j, dk, rfl, rfl, hi, hj, him, hjb, hkx, hds, S1, heq⟩ := hrel
    have em : ((m - i : Nat) : Int) = (m : Int) - (i : Int) := by omega
    have emj : ((m + j - i : Nat) : Int) = (m : Int) + (j : Int) - (i : Int) := by omega
    by_cases he : i = j
    · subst he
      have CC := C.out dk wr (m - i) m i hds S1.out (by omega) (by omega)
      have HEQ : Aside (swapRange (m - i) m 0 i dk = rot m (b - a) (m - a) (b - m) d) := by
        show _ = _
        rw [← heq.out]; cases gk with
        | zero => omega
        | succ f => rw [rot, if_pos rfl]
      rw [em] at CC
      clear S1 heq C
      go_wp2_with (go_at_fn 155; refine CC.mono ?_; rintro e w2 ⟨rfl, S2⟩)
      go_end0
      refine ⟨rfl, ?_⟩
      rw [← HEQ.out]; exact S2.out
    · have hez : ¬ (i : Int) = (j : Int) := by omega
      obtain ⟨f, rfl⟩ : ∃ f, gk = f + 1 := ⟨gk - 1, by omega⟩
      by_cases hg : j < i
      · have hgz : (j : Int) < (i : Int) := by omega
        have CC := C.out dk wr (m - i) m j hds S1.out (by omega) (by omega)
        have HEQ : Aside (rot m f (i - j) j (swapRange (m - i) m 0 j dk) = rot m (b - a) (m - a) (b - m) d) := by
          show _ = _
          rw [← heq.out, rot, if_neg he, if_pos hg]
        have HDS := Lib.hid (show (swapRange (m - i) m 0 j dk).size = d.size by rw [swapRange_size]; exact hds)
        rw [em] at CC
        generalize swapRange (m - i) m 0 j dk = dn at CC HEQ HDS
        clear S1 heq
        go_wp2_with (go_at_fn 155; refine CC.mono ?_; rintro e w2 ⟨rfl, S2⟩)
        go_roundg f
        case measure => omega
        case rel => exact ⟨i - j, j, dn, by go_num, rfl, by omega, hj, by omega, hjb, by omega, HDS.out, S2, HEQ⟩
      · have hgz : ¬ (j : Int) < (i : Int) := by omega
        have CC := C.out dk wr (m - i) (m + j - i) i hds S1.out (by omega) (by omega)
        have HEQ : Aside (rot m f i (j - i) (swapRange (m - i) (m + j - i) 0 i dk) = rot m (b - a) (m - a) (b - m) d) := by
          show _ = _
          rw [← heq.out, rot, if_neg he, if_neg hg]
        have HDS := Lib.hid (show (swapRange (m - i) (m + j - i) 0 i dk).size = d.size by rw [swapRange_size]; exact hds)
        rw [em, emj] at CC
        generalize swapRange (m - i) (m + j - i) 0 i dk = dn at CC HEQ HDS
        clear S1 heq
        go_wp2_with (go_at_fn 155; refine CC.mono ?_; rintro e w2 ⟨rfl, S2⟩)
        go_roundg f
        case measure => omega
        case rel => exact ⟨i, j - i, dn, rfl, by go_num, hi, by omega, him, by omega, by omega, HDS.out, S2, HEQ⟩
end Go.Proofs.YtapllmniplgajaaGreatDoor
