/-  -/
import Derived.Test.YtibpaaajghbkoaaGreatUAq
namespace Go.Proofs.YtibpaaajghbkoaaGreat
open Go.RowKit Go.Maps Go.ChangeMaps Go.Sort
theorem zeroSl (w : World) : (zeroValue 31).run Tryz.prog w = .ok (.slice none 0 0) w := by kernel_rfl
theorem zeroKA (w : World) : (zeroValue 83).run Tryz.prog w = .ok (.agg #[.string ⟨#[]⟩, .string ⟨#[]⟩]) w := by kernel_rfl
theorem infoStr : (Tryz.prog.info? 9).map (fun i => (i.zero, i.size, i.bytes)) = some (some (.string ⟨#[]⟩), 1, 16) := by kernel_rfl
theorem infoLn : (Tryz.prog.info? 85).map (fun i => (i.zero, i.size, i.bytes)) = some (some (.agg #[.string ⟨#[]⟩, .string ⟨#[]⟩, .slice none 0 0]), 3, 56) := by kernel_rfl
theorem ownF_length (l objs : List ObjD) (k : KeyD) : (ownF l objs k).length ≤ objs.length := by unfold ownF; rw [List.length_map]; exact List.length_filter_le _ _
theorem partF_length (l objs : List ObjD) (o : ObjD) (j : Nat) (k : KeyD) : (partF l objs o j k).length ≤ objs.length + 1 := by
 unfold partF
 have := ownF_length l objs k
 rw [List.length_append]
 split <;> simp <;> omega
theorem ownF_take (l : List ObjD) (k : Nat) (o : ObjD) (key : KeyD) (ho : l[k]? = some o) : ownF l (l.take (k + 1)) key = if isB l o = true then partF l (l.take k) o (sideN o) key else ownF l (l.take k) key := by
 obtain ⟨hk, e⟩ := List.getElem?_eq_some_iff.1 ho
 rw [List.take_succ_eq_append_getElem hk, e, ownF_snoc]
theorem ref_get (o : ObjD) (i : Nat) (h : i < o.refs.length) : o.refs[i]? = some (refAt o i) := by unfold refAt; rw [List.getElem?_eq_getElem h]; rfl
theorem run_minB (P : Program) (w : World) (ts : Array TypeId) (t : TypeId) (x y : ByteArray) : (Builtin.min_ ts t #[.string x, .string y]).run P w = .ok (.string (minB x y)) w := by
 have h := bl_leq x.toList y.toList
 unfold minB ltB
 cases h2 : Op.bytesLess y.toList x.toList <;> rw [h2] at h <;> simp [Builtin.min_, Builtin.min2, Op.stringOp, asBool, h]
theorem run_maxB (P : Program) (w : World) (ts : Array TypeId) (t : TypeId) (x y : ByteArray) : (Builtin.max_ ts t #[.string x, .string y]).run P w = .ok (.string (maxB x y)) w := by
 unfold maxB ltB
 cases h2 : Op.bytesLess x.toList y.toList <;> simp [Builtin.max_, Builtin.max2, Op.stringOp, asBool, h2]
theorem own_put {acc : List (KeyD × Value × List ByteArray)} {f g : KeyD → List ByteArray} (h : Owns (rowsOf acc) f) (key : KeyD) (id : ByteArray) (v' : Value) (hid : id ∉ f key) (hg : ∀ k', g k' = if k' = key ∧ id ∉ f key then f k' ++ [id] else f k') :
  Owns (rowsOf (aput key (v', f key ++ [id]) acc)) g := by
 have := h.add key id hg
 unfold addOwn at this
 rw [h.getD, if_neg hid] at this
 rw [rows_put]
 exact this
theorem partF_size {l : List ObjD} {k : Nat} {o : ObjD} (ho : l[k]? = some o) (hz : ∀ x ∈ l, x.id.size ≤ 140737488355328) (j : Nat) (key : KeyD) : ∀ s ∈ partF l (l.take k) o j key, s.size ≤ 140737488355328 := by
 intro s hs
 unfold partF at hs
 rcases List.mem_append.1 hs with h | h
 ·obtain ⟨x, hx, _, _, rfl⟩ := ownF_mem.1 h
  exact hz x (List.mem_of_mem_take hx)
 ·split at h
  ·rw [List.mem_singleton.1 h]; exact hz o (List.mem_of_getElem? ho)
  ·cases h
def OwnSt (w : World) (Bo : Nat) (f : KeyD → List ByteArray) (n : Nat) : Prop :=
 ∃ acc : List (KeyD × Value × List ByteArray), GroupAt Tryz.prog 83 keyV (Bo + 1) 9 w Bo acc ∧ acc.length ≤ n ∧ Owns (rowsOf acc) f
theorem OwnSt.on {w w' : World} {Bo n : Nat} {f : KeyD → List ByteArray} (h : OwnSt w Bo f n) (hb : Below w.heap.size w w') : OwnSt w' Bo f n := by
 obtain ⟨acc, h1, h2⟩ := h
 exact ⟨acc, h1.on hb, h2⟩
theorem OwnSt.congr {w : World} {Bo n n' : Nat} {f g : KeyD → List ByteArray} (h : OwnSt w Bo f n) (hn : n ≤ n') (e : ∀ k, f k = g k) : OwnSt w Bo g n' := by
 obtain ⟨acc, h1, h2, h3⟩ := h
 exact ⟨acc, h1, Nat.le_trans h2 hn, h3.congr e⟩
def LinesAt (w : World) (v : Value) (l : List ObjD) : Prop := ∃ L : List LineM, RowE encLn 3 w v L ∧ L.map (·.1) = keysP l ∧ ∀ x ∈ L, StrRow w (.slice x.2.1 x.2.2.1 x.2.2.2) (ownF l l x.1)
theorem LinesAt.on {w w' : World} {v : Value} {l : List ObjD} (h : LinesAt w v l) (hb : Below w.heap.size w w') : LinesAt w' v l := by
 obtain ⟨L, h1, h2, h3⟩ := h
 exact ⟨L, h1.later hb, h2, fun x hx => (h3 x hx).later hb⟩
theorem lines_sorted {l : List ObjD} {acc : List (KeyD × Value × List ByteArray)} {f : KeyD × Value × List ByteArray → LineM} (hk : ∀ key, key ∈ acc.map (·.1) ↔ key ∈ keysP l) (hn : (acc.map (·.1)).Nodup) {L : List LineM} (hL : L.Perm (acc.map f)) (hso : L.Pairwise (fun x y => ltOf cfLn y x = false)) (hf : ∀ p, (f p).1 = p.1 := by intro p; rfl) : L.map (·.1) = keysP l := by
 have hp : (L.map (·.1)).Perm (acc.map (·.1)) := by
  have := hL.map (·.1)
  rw [List.map_map] at this
  rwa [show ((fun x : LineM => x.1) ∘ f) = (fun p => p.1) from funext hf] at this
 refine sortK_ext ?_ (setK_sorted _) fun x => by rw [hp.mem_iff]; exact hk x
 have hn' := hp.nodup_iff.2 hn
 unfold SortK
 rw [List.pairwise_map]
 rw [List.nodup_iff_pairwise_ne, List.pairwise_map] at hn'
 refine (hso.and hn').imp fun {a b} h => ?_
 have h1 := h.1
 rw [cfLn_lt] at h1
 cases h2 : ltK a.1 b.1 with
 |true => rfl
 |false => exact absurd (ltK_total h2 h1) h.2
def toLn (p : KeyD × Value × List ByteArray) : LineM := (p.1, slParts p.2.1)
theorem linesKeys {l : List ObjD} {acc : List (KeyD × Value × List ByteArray)} (h : Owns (rowsOf acc) (ownF l l)) (hn : (acc.map (·.1)).Nodup) : (∀ key, key ∈ acc.map (·.1) ↔ key ∈ keysP l) ∧ ∀ p ∈ acc, p.2.2 = ownF l l p.1 := by
 have hr : (rowsOf acc).map (·.1) = acc.map (·.1) := by unfold rowsOf; rw [List.map_map]; rfl
 have hv : ∀ p ∈ acc, p.2.2 = ownF l l p.1 ∧ p.1 ∈ keysP l := fun p hp => by
  have hm : (p.1, p.2.2) ∈ rowsOf acc := List.mem_map.2 ⟨p, hp, rfl⟩
  have := aget_of_mem (by rw [hr]; exact hn) hm
  rw [h p.1] at this
  split at this
  ·cases this
  ·rename_i hne
   injection this with this
   refine ⟨this.symm, ?_⟩
   refine Classical.byContradiction fun hc => hne (ownF_nil.2 hc)
 refine ⟨fun key => ⟨fun hk => ?_, fun hk => ?_⟩, fun p hp => (hv p hp).1⟩
 ·obtain ⟨p, hp, rfl⟩ := List.mem_map.1 hk
  exact (hv p hp).2
 ·have hg := h key
  rw [if_neg (fun c => (ownF_nil.1 c) hk)] at hg
  rw [← hr]
  exact List.mem_map.2 ⟨_, aget_mem hg, rfl⟩
set_option maxRecDepth 100000 in
set_option maxHeartbeats 8000000 in
theorem lines_any (v : Value) (l : List ObjD) (Bm : Nat) (w : World) (hv : ObjsIs w v l) (hok : mapOK l = true) (hat : AtIs w Bm l) :
  Calls Tryz.prog 46 #[.agg #[v, .map (some Bm)]] w fun e w' => ∃ v', e = .returned v' ∧ LinesAt w' v' l ∧ Below w.heap.size w w' := by
 have mixed : Tryz.prog.follows .mixedOrders = true := by kernel_rfl
 have ND := Lib.hid (fun (o : ObjD) vr vt w' hb hr ht => nodes_any o vr vt Bm v l w' hr ht (hat.on (w' := w') hb) (hv.later hb))
 have hmax : l.length ≤ 1000000 := (mapOK_sorted hok).1
 have HOK := Lib.hid hok
 obtain ⟨a, cap, rfl, hn, hc⟩ := hv
 generalize hN : l.length = N at *
 have HN := Lib.hid hN
 have HC := Lib.hid hc
 have HZO := Lib.hid (show ∀ x ∈ l, x.id.size ≤ 140737488355328 from fun x hx => by
  obtain ⟨i, hi⟩ := List.getElem?_of_mem hx
  obtain ⟨b, off, _, h⟩ := hc (by have := (List.getElem?_eq_some_iff.1 hi).1; omega)
  obtain ⟨_, _, _, _, _, _, _, _, _, _, h⟩ := h i x hi
  exact h)
 clear hN hc hok hat
 obtain ⟨i0, hi, hi0, hi1, hi2⟩ := info_parts infoStr
 have hmm := @run_makeMap Tryz.prog
 have hmin := run_minB Tryz.prog
 have hza := zeroKA
 have hmax' := run_maxB Tryz.prog
 go_enter Tryz.func46, Tryz.ntmps46
 go_wp2_with fail
 have G0 := GroupAt.made Tryz.prog 83 keyV 9 (w.alloc (.cells #[.slice a N cap, .map (some Bm)] 78))
 have B1 : Below w.heap.size w ((w.alloc (.cells #[.slice a N cap, .map (some Bm)] 78)).alloc (.map #[] 0)) := (by repeat' (first | exact Below.refl _ _ | refine Below.drew ?_ | refine Below.drewN' ?_ | refine Below.setCell ?_ (by first | omega | (simp; done) | exact Below.size (by assumption) | (simp; omega)) _ | refine Below.alloc ?_ (by first | omega | (simp; done) | exact Below.size (by assumption) | (simp; omega)) _ | refine Below.trans ?_ (Below.mono (by assumption) ?_) | (first | omega | (simp; done) | exact Below.size (by assumption) | (simp; omega))))
 have H1 := row_past (o' := .map #[] 0) (row_new w (.cells #[.slice a N cap, .map (some Bm)] 78))
 have hG : (w.alloc (.cells #[.slice a N cap, .map (some Bm)] 78)).heap.size = w.heap.size + 1 := by simp
 rw [hG] at G0
 clear hG
 generalize hw1 : (w.alloc (.cells #[.slice a N cap, .map (some Bm)] 78)).alloc (.map #[] 0) = w1
 rw [hw1] at G0 B1 H1
 have hz1 : w1.heap.size = w.heap.size + 2 := by rw [← hw1]; simp
 clear hw1
 have H1 := Lib.hid H1
 have OS0 := Lib.hid (show OwnSt w1 (w.heap.size + 1) (ownF l (l.take 0)) 0 from ⟨[], G0, by simp, Owns.nil (fun k => by simp [ownF])⟩)
 clear G0
 obtain ⟨pz, p0, p1⟩ := rk2 H1.out
 go_wp2_with fail
 clear p0 p1 pz
 go_loopw [19] (fun i wr => ∃ k : Nat, i = .int .i64 k ∧ k ≤ N ∧ OwnSt wr (w.heap.size + 1) (ownF l (l.take k)) (2000 * k) ∧ Below (w.heap.size + 1) w1 wr) (fun i _ => N - (intOf i).toNat)
 case atStart => exact ⟨0, rfl, by omega, OS0.out, Below.refl _ _⟩
 case round =>
  obtain ⟨k, rfl, hk, hst, hbr⟩ := hrel
  have HST := Lib.hid hst
  have hszr := hbr.size
  have BR := B1.trans (hbr.mono (by omega))
  have H1r := Lib.hid (show wr.heap[w.heap.size]? = some (.cells #[.slice a N cap, .map (some Bm)] 78) from (hbr.block _ (by omega)).trans H1.out)
  clear hst
  by_cases hlt : k < N
  ·obtain ⟨o, ho⟩ : ∃ o, l[k]? = some o := ⟨l[k]'(by rw [HN.out]; exact hlt), List.getElem?_eq_getElem _⟩
   obtain ⟨b, off, ha, hcell⟩ := HC.out (by omega)
   subst ha
   obtain ⟨vr, vt, e0, e1, e2, e3, e4, e5, hr, ht, hzo⟩ := hcell k o ho
   have c0 := cell_later BR e0
   have c1 := cell_later BR e1
   have c2 := cell_later BR e2
   have c3 := cell_later BR e3
   have c4 := cell_later BR e4
   have c5 := cell_later BR e5
   clear e0 e1 e2 e3 e4 e5
   have hrl := obj_refs (map_obj HOK.out (List.mem_of_getElem? ho))
   have HR := Lib.hid hr
   have HT := Lib.hid ht
   obtain ⟨ar, capr, evr, hrn, hrz, hrc⟩ := hr
   obtain ⟨at1, capt, evt, hnot⟩ := ht
   clear hnot
   subst evr evt
   have HRZ := Lib.hid hrz
   have HRC := Lib.hid hrc
   have HI := Lib.hid ho
   have HTK := Lib.hid (fun key => ownF_take l k o key ho)
   have bz := lt_of_cell c0
   obtain ⟨M, hM⟩ : ∃ M, o.refs.length = M := ⟨_, rfl⟩
   rw [hM] at c4 hrl hrn
   have HM := Lib.hid hM
   clear hcell hrz hrc ho hM
   clear hzo
   obtain ⟨wo, rfl⟩ : ∃ wo : World, wo = wr := ⟨_, rfl⟩
   by_cases k2 : o.kind = 2
   ·have k2a : (o.kind != 2) = false := by rw [k2]; rfl
    have k2b : (o.kind == 2) = true := by rw [k2]; rfl
    have HSN := Lib.hid (show sideN o = M - 1 by unfold sideN; rw [if_pos k2, HM.out])
    have HB := Lib.hid (show isB l o = soundB l o by unfold isB; rw [decide_eq_true (Or.inl k2)]; rfl)
    clear k2
    obtain ⟨pz, p0, p1⟩ := rk2 H1r.out
    go_wp2_with fail
    clear p0 p1 pz
    have BX : Below wo.heap.size wo (wo.alloc (.cells #[.string o.id, .int .i64 o.kind, .int .i64 o.x, .int .i64 o.y, .slice ar M capr, .slice at1 o.tags.length capt] 36)) := (Below.refl _ _).alloc (Nat.le_refl _) _
    have HX := row_new wo (.cells #[.string o.id, .int .i64 o.kind, .int .i64 o.x, .int .i64 o.y, .slice ar M capr, .slice at1 o.tags.length capt] 36)
    generalize hw2 : wo.alloc (.cells #[.string o.id, .int .i64 o.kind, .int .i64 o.x, .int .i64 o.y, .slice ar M capr, .slice at1 o.tags.length capt] 36) = w2
    rw [hw2] at BX HX
    have hzx : w2.heap.size = wo.heap.size + 1 := by rw [← hw2]; simp
    clear hw2 c0 c1 c2 c3 c4 c5
    have BRX := BR.trans (BX.mono (by omega))
    refine (ND.out o _ _ _ BRX (HM.out ▸ HR.out.later BRX) (HT.out.later BRX)).mono ?_
    rintro e w3 ⟨rfl, hb3⟩
    have BX3 := below_step BX (Nat.le_refl _) hb3
    have HX := Lib.hid (row_later hb3 HX)
    have hz3 := hb3.size
    have BW3 := hbr.trans (BX3.mono (by omega))
    clear hb3 BX
    cases hsn : soundB l o
    ·have OS2 := Lib.hid ((HST.out.on BX3).congr (n' := 2000 * (k + 1)) (g := ownF l (l.take (k + 1))) (by omega) (fun key => by rw [HTK.out, HB.out, hsn]; rfl))
     clear hsn
     go_wp2
     go_roundw
     case rel => exact ⟨k + 1, by go_num, by omega, OS2.out, BW3⟩
     case measure => simp [intOf]; omega
    ·have HBT := Lib.hid (show isB l o = true by rw [HB.out, hsn])
     clear hsn HB
     have OS3 := Lib.hid ((HST.out.on BX3).congr (n' := 2000 * k + 0) (g := partF l (l.take k) o 0) (by omega) (fun key => (partF_zero ..).symm))
     obtain ⟨xz, x0, x1, x2, x3, x4, x5⟩ := rk6 HX.out
     go_wp2_with fail
     clear x0 x1 x2 x3 x4 x5 xz
     go_loopw [40] (fun i wr => ∃ j : Nat, i = .int .i64 j ∧ j ≤ sideN o ∧ OwnSt wr (w.heap.size + 1) (partF l (l.take k) o j) (2000 * k + j) ∧ Below (w.heap.size + 1) w1 wr ∧ wr.heap[wo.heap.size]? = some (.cells #[.string o.id, .int .i64 o.kind, .int .i64 o.x, .int .i64 o.y, .slice ar M capr, .slice at1 o.tags.length capt] 36)) (fun i _ => M - (intOf i).toNat)
     case atStart => exact ⟨0, rfl, Nat.zero_le _, OS3.out, BW3, HX.out⟩
     case round =>
      obtain ⟨j, rfl, hj, hst, hbr2, hx⟩ := hrel
      have HJ := Lib.hid hst
      have hszr2 := hbr2.size
      have BRr := B1.trans (hbr2.mono (by omega))
      have hsn := HSN.out
      clear hst
      by_cases hjs : j < sideN o
      ·have hjM : j < M := by omega
       obtain ⟨br, offr, har, hcr⟩ := HRC.out (by rw [HM.out]; omega)
       subst har
       obtain ⟨nx, hnx⟩ : ∃ nx, nx = (j + 1) % M := ⟨_, rfl⟩
       have hnM : nx < M := by rw [hnx]; exact Nat.mod_lt _ (by omega)
       obtain ⟨ra, hra⟩ : ∃ ra, ra = refAt o j := ⟨_, rfl⟩
       obtain ⟨rb, hrb⟩ : ∃ rb, rb = refAt o nx := ⟨_, rfl⟩
       have g0 : o.refs[j]? = some ra := by rw [hra]; exact ref_get o j (by rw [HM.out]; exact hjM)
       have g1 : o.refs[nx]? = some rb := by rw [hrb]; exact ref_get o nx (by rw [HM.out]; exact hnM)
       have d0 := cell_later BRr (hcr j ra g0)
       have d1 := cell_later BRr (hcr nx rb g1)
       have z0 := Lib.hid (HRZ.out ra (List.mem_of_getElem? g0))
       have z1 := Lib.hid (HRZ.out rb (List.mem_of_getElem? g1))
       have HSA := Lib.hid (show sideAt o j = key2 ra rb by unfold sideAt; rw [HM.out, ← hnx, ← hra, ← hrb])
       have m1 : ((j : Int) + 1).tmod (M : Int) = (nx : Int) := by rw [hnx, Int.natCast_emod, Int.tmod_eq_emod_of_nonneg (by omega)]; rfl
       have m2 : ((j : Int) + 1) % (M : Int) = (nx : Int) := by rw [hnx, Int.natCast_emod]; rfl
       have wj : IntKind.i64.wrap ((j : Int) + 1) = (j : Int) + 1 := IntWalk.i64_in _ (by omega)
       have b0 : (0 : Int) ≤ (nx : Int) := by omega
       have b1 : (nx : Int) < (M : Int) := by omega
       have b2 : ((nx : Int)).toNat = nx := by omega
       have HNX := Lib.hid hnx
       clear hcr g0 g1 hra hrb hnx
       by_cases hl : j + 1 = M
       ·have e1 : (((j : Int) + 1) == (M : Int)) = true := by rw [beq_iff_eq]; omega
        have HW := Lib.hid m1
        have HW2 := Lib.hid m2
        have HW3 := Lib.hid wj
        clear m1 m2 wj
        exact absurd hl (by omega)
       ·have e1 : (((j : Int) + 1) == (M : Int)) = false := by rw [beq_eq_false_iff_ne]; omega
        have HW := Lib.hid m1
        have HW2 := Lib.hid m2
        have HW3 := Lib.hid wj
        clear hl m1 m2 wj
        have hx1 := Lib.hid hx
        obtain ⟨xz, x0, x1, x2, x3, x4, x5⟩ := rk6 hx1.out
        go_wp2_with fail
        have m1 := HW.out
        have wj := HW3.out
        go_quiet (fail)
        clear x0 x1 x2 x3 x4 x5 xz
        have BQ : Below wr.heap.size wr (wr.drewN nq) := (Below.refl _ _).drewN'
        generalize hwq : wr.drewN nq = wq
        rw [hwq] at BQ
        have hzq : wq.heap.size = wr.heap.size := by rw [← hwq]; rfl
        clear m1 wj hwq
        go_wp2_with fail
        have B4 : Below wr.heap.size wr (wq.alloc (.cells #[.string (minB ra rb), .string (maxB ra rb)] 83)) := BQ.alloc (by omega) _
        have HK := row_new wq (.cells #[.string (minB ra rb), .string (maxB ra rb)] 83)
        generalize hw4 : wq.alloc (.cells #[.string (minB ra rb), .string (maxB ra rb)] 83) = w4
        rw [hw4] at B4 HK
        have hz4 : w4.heap.size = wr.heap.size + 1 := by rw [← hw4, ← hzq]; simp
        clear hw4
        rw [hzq] at HK
        have hx4 := Lib.hid (row_later B4 hx1.out)
        have HK4 := Lib.hid HK
        obtain ⟨key, hkey⟩ : ∃ z : KeyD, z = (minB ra rb, maxB ra rb) := ⟨_, rfl⟩
        have hkk : key = sideAt o j := by rw [hkey, HSA.out]; rfl
        have hok1 := keyV_ok (k := key) (by rw [hkey]; unfold minB; simp only; split; exact z1.out; exact z0.out) (by rw [hkey]; unfold maxB; simp only; split; exact z1.out; exact z0.out)
        obtain ⟨acc, hga, hal, how⟩ := HJ.out
        have hga4 := hga.on B4
        obtain ⟨V, ids, hlk, hids, hown⟩ := hga4.get keyK keyV_inj Tryz.underlying138 zeroSl key hok1
        rw [how.getD] at hids
        have hilen : ids.length ≤ 1000001 := by
         have := partF_length l (l.take k) o j key
         rw [← hids, List.length_take] at this; omega
        have hstr : StrRow w4 V ids := StrRow.of_own hown (by omega) (by rw [hids]; exact partF_size HI.out HZO.out j key)
        have CT := Lib.hid (fun n => contains_any V ids o.id (w4.drewN n) (hstr.later (Below.refl _ _).drewN'))
        have HGA := Lib.hid hga4
        have HAL := Lib.hid hal
        have HOW := Lib.hid how
        have HIDS := Lib.hid hids
        have HKK := Lib.hid hkk
        have HOK1 := Lib.hid hok1
        have HKEY := Lib.hid hkey
        rw [hkey] at hlk
        simp only [keyV] at hlk
        clear hga hga4 hal how hids hkk hok1 hkey hown hstr hzq BQ HK d0 d1 bz
        obtain ⟨xz, x0, x1, x2, x3, x4, x5⟩ := rk6 hx4.out
        obtain ⟨qz, q0, q1⟩ := rk2 HK4.out
        go_wp2_with fail
        go_quiet ((go_at_call 44; exact Calls.quiet_of_same (CT.out _)))
        clear x0 x1 x2 x3 x4 x5 xz
        clear q0 q1 qz
        have B45 : Below w4.heap.size w4 (w4.drewN nq) := (Below.refl _ _).drewN'
        generalize hw5 : w4.drewN nq = w5
        rw [hw5] at B45
        have hz5 : w5.heap.size = wr.heap.size + 1 := by rw [← hz4, ← hw5]; rfl
        clear hw5 hlk
        have B5 := below_step B4 (by omega) B45
        have HX5 := Lib.hid (row_later B45 hx4.out)
        have HK5 := Lib.hid (row_later B45 HK4.out)
        have HG5 := Lib.hid (HGA.out.on B45)
        have HNO := Lib.hid (ids_not HOK.out HI.out l)
        have HSU := Lib.hid (fun key' => partF_succ (l := l) (objs := l.take k) (o := o) hjs HNO.out key')
        have hbr5 := hbr2.trans (B5.mono (by omega))
        clear B45 B4
        cases hm : decide (o.id ∈ ids) with
        |true =>
         have OS6 := Lib.hid (show OwnSt w5 (w.heap.size + 1) (partF l (l.take k) o (j + 1)) (2000 * k + (j + 1)) from ⟨acc, HG5.out, by have := HAL.out; omega, HOW.out.congr (fun key' => by
          rw [HSU.out, if_neg (fun c => c.2 (by rw [← HKK.out, ← HIDS.out]; exact of_decide_eq_true hm))])⟩)
         have HX5' := HX5.out
         clear hm
         go_wp2
         go_roundw
         case rel => exact ⟨j + 1, by go_num, by omega, OS6.out, hbr5, HX5.out⟩
         case measure => simp [intOf]; omega
        |false =>
         have HNM := Lib.hid (of_decide_eq_false hm)
         clear hm
         have B6 : Below w5.heap.size w5 (w5.alloc (.cells #[.string o.id] 9)) := (Below.refl _ _).alloc (Nat.le_refl _) _
         have HG6 := HG5.out.on B6
         obtain ⟨w7, st, V7, ids7, hrE, hg7, hs7, hids7, hown7, hvb7, hvp7, hback⟩ := HG6.entry keyK keyV_inj Tryz.underlying138 (zeroSl _) (by have := HAL.out; unfold maxLen; omega) key HOK1.out
         rw [HOW.out.getD] at hids7
         have hil7 : ids7.length ≤ 1000001 := by
          have := partF_length l (l.take k) o j key
          rw [← hids7, List.length_take] at this; omega
         have HX6 := row_later B6 HX5.out
         have HS6 := row_new w5 (.cells #[.string o.id] 9)
         rw [hz5] at HS6
         have hz6 : (w5.alloc (.cells #[.string o.id] 9)).heap.size = wr.heap.size + 2 := by simp [hz5]
         have hnb : ∀ g : Nat, g ≠ w.heap.size + 1 → some g ≠ some (w.heap.size + 1) := fun g h e => h (by injection e)
         have HX7 := Lib.hid (row_grown hg7 HX6 (hnb _ (by omega)))
         have HS7 := Lib.hid (row_grown hg7 HS6 (hnb _ (by omega)))
         have HAP := Lib.hid (show V7.ownBlock ≠ some wo.heap.size from fun c => by
          rcases hvp7 with h | ⟨p, hp, h⟩
          ·rw [h] at c; cases c
          ·rw [h] at c; exact HG6.other HX6 (by decide) p hp c)
         have HV7 := Lib.hid hvb7
         have HE7 := Lib.hid hids7
         have HB7 := Lib.hid hback
         have HO7 := Lib.hid hown7
         have hs7' := hs7.trans hz6
         rw [HKEY.out] at hrE
         simp only [keyV] at hrE
         have HG7 := Lib.hid hg7
         have B67 := Lib.hid (hbr5.trans (B6.mono (by omega)))
         clear HG6 hvp7 hback hids7 hown7 hvb7 hg7 HX6 HS6 hs7 hnb hz6
         obtain ⟨xz, x0, x1, x2, x3, x4, x5⟩ := rk6 HX5.out
         obtain ⟨qz, q0, q1⟩ := rk2 HK5.out
         go_wp2_with (at_builtin; refine wpList_append_own_at _ rfl _ _ 31 rfl (w.heap.size + 1 + 1) 9 i0 (.string ⟨#[]⟩) 1 16 Tryz.underlying31 hi hi0 hi1 hi2 rfl (by decide) _ _ _ rfl HO7.out ⟨wr.heap.size + 1, 0, none⟩ 1 1 [.string o.id] rfl rfl (cells_row HS7.out) (by simp [Value.oneCell']) (by unfold maxLen; omega) (by omega) (by omega) ?_; intro v' w8 hown8 hgrow8 _ hloc8; obtain ⟨w9, hrS, hga9, hg9⟩ := HB7.out w8 v' (ids7 ++ [o.id]) hgrow8 (by simpa using hown8) (hloc8.imp id (fun h => ⟨_, h, Nat.le_refl _⟩)); have HG9 := Lib.hid hg9; have HGR8 := Lib.hid hgrow8; have HGA9 := Lib.hid hga9; clear hown8 hloc8 hgrow8 hg9 hga9)
         have hbl : (w.heap.size + 1) ≤ w5.heap.size + 1 := by omega
         have B77 := B67.out.grown HG7.out (by simp; omega) (fun j hj => by injection hj with hj; omega)
         have B88 := B77.grown HGR8.out (by omega) (fun j hj => by have := (own_block HO7.out j hj).1; omega)
         have hz8 := HGR8.out.size
         have B99 := Lib.hid (B88.grown HG9.out (by omega) (fun j hj => by injection hj with hj; omega))
         have HX8 := row_grown HGR8.out HX7.out (fun c => HAP.out c.symm)
         have HX9 := Lib.hid (row_grown HG9.out HX8 (fun c => by injection c with c; omega))
         have OS9 := Lib.hid (show OwnSt w9 (w.heap.size + 1) (partF l (l.take k) o (j + 1)) (2000 * k + (j + 1)) from ⟨_, HGA9.out, by have := aput_length key (v', ids7 ++ [o.id]) acc; have := HAL.out; omega, by
          rw [HE7.out]
          exact own_put HOW.out key o.id v' (by rw [← HIDS.out]; exact HNM.out) (by rw [HKK.out]; exact HSU.out)⟩)
         clear B77 B88 HX8
         clear x0 x1 x2 x3 x4 x5 xz
         clear q0 q1 qz
         go_wp2
         go_roundw
         case rel => exact ⟨j + 1, by go_num, by omega, OS9.out, B99.out, HX9.out⟩
         case measure => simp [intOf]; omega
      ·have hje : j = sideN o := by omega
       have OS9 := Lib.hid (HJ.out.congr (n' := 2000 * (k + 1)) (g := ownF l (l.take (k + 1))) (by omega) (fun key => by rw [HTK.out, if_pos HBT.out, hje]))
       clear hje
       by_cases hjM : j < M
       case pos =>
        have e1 : (((j : Int) + 1) == (M : Int)) = true := by rw [beq_iff_eq]; omega
        obtain ⟨br, offr, har, hcr⟩ := HRC.out (by rw [HM.out]; omega)
        subst har
        have d0 := cell_later BRr (hcr j _ (ref_get o j (by rw [HM.out]; exact hjM)))
        have hx1 := Lib.hid hx
        obtain ⟨xz, x0, x1, x2, x3, x4, x5⟩ := rk6 hx1.out
        clear hcr
        go_wp2
        go_roundw
        case rel => exact ⟨k + 1, by go_num, by omega, OS9.out, hbr2⟩
        case measure => simp [intOf]; omega
       case neg =>
        go_wp2
        go_roundw
        case rel => exact ⟨k + 1, by go_num, by omega, OS9.out, hbr2⟩
        case measure => simp [intOf]; omega
   by_cases k3 : o.kind = 3
   ·have k2a : (o.kind != 2) = true := by rw [k3]; rfl
    have k2b : (o.kind == 2) = false := by rw [k3]; rfl
    have k3a : (o.kind != 3) = false := by rw [k3]; rfl
    have HSN := Lib.hid (show sideN o = M by unfold sideN; rw [if_neg k2, HM.out])
    have HB := Lib.hid (show isB l o = soundB l o by unfold isB; rw [decide_eq_true (Or.inr k3)]; rfl)
    clear k2 k3
    obtain ⟨pz, p0, p1⟩ := rk2 H1r.out
    go_wp2_with fail
    clear p0 p1 pz
    have BX : Below wo.heap.size wo (wo.alloc (.cells #[.string o.id, .int .i64 o.kind, .int .i64 o.x, .int .i64 o.y, .slice ar M capr, .slice at1 o.tags.length capt] 36)) := (Below.refl _ _).alloc (Nat.le_refl _) _
    have HX := row_new wo (.cells #[.string o.id, .int .i64 o.kind, .int .i64 o.x, .int .i64 o.y, .slice ar M capr, .slice at1 o.tags.length capt] 36)
    generalize hw2 : wo.alloc (.cells #[.string o.id, .int .i64 o.kind, .int .i64 o.x, .int .i64 o.y, .slice ar M capr, .slice at1 o.tags.length capt] 36) = w2
    rw [hw2] at BX HX
    have hzx : w2.heap.size = wo.heap.size + 1 := by rw [← hw2]; simp
    clear hw2 c0 c1 c2 c3 c4 c5
    have BRX := BR.trans (BX.mono (by omega))
    refine (ND.out o _ _ _ BRX (HM.out ▸ HR.out.later BRX) (HT.out.later BRX)).mono ?_
    rintro e w3 ⟨rfl, hb3⟩
    have BX3 := below_step BX (Nat.le_refl _) hb3
    have HX := Lib.hid (row_later hb3 HX)
    have hz3 := hb3.size
    have BW3 := hbr.trans (BX3.mono (by omega))
    clear hb3 BX
    cases hsn : soundB l o
    ·have OS2 := Lib.hid ((HST.out.on BX3).congr (n' := 2000 * (k + 1)) (g := ownF l (l.take (k + 1))) (by omega) (fun key => by rw [HTK.out, HB.out, hsn]; rfl))
     clear hsn
     go_wp2
     go_roundw
     case rel => exact ⟨k + 1, by go_num, by omega, OS2.out, BW3⟩
     case measure => simp [intOf]; omega
    ·have HBT := Lib.hid (show isB l o = true by rw [HB.out, hsn])
     clear hsn HB
     have OS3 := Lib.hid ((HST.out.on BX3).congr (n' := 2000 * k + 0) (g := partF l (l.take k) o 0) (by omega) (fun key => (partF_zero ..).symm))
     obtain ⟨xz, x0, x1, x2, x3, x4, x5⟩ := rk6 HX.out
     go_wp2_with fail
     clear x0 x1 x2 x3 x4 x5 xz
     go_loopw [40] (fun i wr => ∃ j : Nat, i = .int .i64 j ∧ j ≤ sideN o ∧ OwnSt wr (w.heap.size + 1) (partF l (l.take k) o j) (2000 * k + j) ∧ Below (w.heap.size + 1) w1 wr ∧ wr.heap[wo.heap.size]? = some (.cells #[.string o.id, .int .i64 o.kind, .int .i64 o.x, .int .i64 o.y, .slice ar M capr, .slice at1 o.tags.length capt] 36)) (fun i _ => M - (intOf i).toNat)
     case atStart => exact ⟨0, rfl, Nat.zero_le _, OS3.out, BW3, HX.out⟩
     case round =>
      obtain ⟨j, rfl, hj, hst, hbr2, hx⟩ := hrel
      have HJ := Lib.hid hst
      have hszr2 := hbr2.size
      have BRr := B1.trans (hbr2.mono (by omega))
      have hsn := HSN.out
      clear hst
      by_cases hjs : j < sideN o
      ·have hjM : j < M := by omega
       obtain ⟨br, offr, har, hcr⟩ := HRC.out (by rw [HM.out]; omega)
       subst har
       obtain ⟨nx, hnx⟩ : ∃ nx, nx = (j + 1) % M := ⟨_, rfl⟩
       have hnM : nx < M := by rw [hnx]; exact Nat.mod_lt _ (by omega)
       obtain ⟨ra, hra⟩ : ∃ ra, ra = refAt o j := ⟨_, rfl⟩
       obtain ⟨rb, hrb⟩ : ∃ rb, rb = refAt o nx := ⟨_, rfl⟩
       have g0 : o.refs[j]? = some ra := by rw [hra]; exact ref_get o j (by rw [HM.out]; exact hjM)
       have g1 : o.refs[nx]? = some rb := by rw [hrb]; exact ref_get o nx (by rw [HM.out]; exact hnM)
       have d0 := cell_later BRr (hcr j ra g0)
       have d1 := cell_later BRr (hcr nx rb g1)
       have z0 := Lib.hid (HRZ.out ra (List.mem_of_getElem? g0))
       have z1 := Lib.hid (HRZ.out rb (List.mem_of_getElem? g1))
       have HSA := Lib.hid (show sideAt o j = key2 ra rb by unfold sideAt; rw [HM.out, ← hnx, ← hra, ← hrb])
       have m1 : ((j : Int) + 1).tmod (M : Int) = (nx : Int) := by rw [hnx, Int.natCast_emod, Int.tmod_eq_emod_of_nonneg (by omega)]; rfl
       have m2 : ((j : Int) + 1) % (M : Int) = (nx : Int) := by rw [hnx, Int.natCast_emod]; rfl
       have wj : IntKind.i64.wrap ((j : Int) + 1) = (j : Int) + 1 := IntWalk.i64_in _ (by omega)
       have b0 : (0 : Int) ≤ (nx : Int) := by omega
       have b1 : (nx : Int) < (M : Int) := by omega
       have b2 : ((nx : Int)).toNat = nx := by omega
       have HNX := Lib.hid hnx
       clear hcr g0 g1 hra hrb hnx
       by_cases hl : j + 1 = M
       ·have e1 : (((j : Int) + 1) == (M : Int)) = true := by rw [beq_iff_eq]; omega
        have HW := Lib.hid m1
        have HW2 := Lib.hid m2
        have HW3 := Lib.hid wj
        clear m1 m2 wj
        clear hl
        have hx1 := Lib.hid hx
        obtain ⟨xz, x0, x1, x2, x3, x4, x5⟩ := rk6 hx1.out
        go_wp2_with fail
        have m1 := HW.out
        have wj := HW3.out
        go_quiet (fail)
        clear x0 x1 x2 x3 x4 x5 xz
        have BQ : Below wr.heap.size wr (wr.drewN nq) := (Below.refl _ _).drewN'
        generalize hwq : wr.drewN nq = wq
        rw [hwq] at BQ
        have hzq : wq.heap.size = wr.heap.size := by rw [← hwq]; rfl
        clear m1 wj hwq
        go_wp2_with fail
        have B4 : Below wr.heap.size wr (wq.alloc (.cells #[.string (minB ra rb), .string (maxB ra rb)] 83)) := BQ.alloc (by omega) _
        have HK := row_new wq (.cells #[.string (minB ra rb), .string (maxB ra rb)] 83)
        generalize hw4 : wq.alloc (.cells #[.string (minB ra rb), .string (maxB ra rb)] 83) = w4
        rw [hw4] at B4 HK
        have hz4 : w4.heap.size = wr.heap.size + 1 := by rw [← hw4, ← hzq]; simp
        clear hw4
        rw [hzq] at HK
        have hx4 := Lib.hid (row_later B4 hx1.out)
        have HK4 := Lib.hid HK
        obtain ⟨key, hkey⟩ : ∃ z : KeyD, z = (minB ra rb, maxB ra rb) := ⟨_, rfl⟩
        have hkk : key = sideAt o j := by rw [hkey, HSA.out]; rfl
        have hok1 := keyV_ok (k := key) (by rw [hkey]; unfold minB; simp only; split; exact z1.out; exact z0.out) (by rw [hkey]; unfold maxB; simp only; split; exact z1.out; exact z0.out)
        obtain ⟨acc, hga, hal, how⟩ := HJ.out
        have hga4 := hga.on B4
        obtain ⟨V, ids, hlk, hids, hown⟩ := hga4.get keyK keyV_inj Tryz.underlying138 zeroSl key hok1
        rw [how.getD] at hids
        have hilen : ids.length ≤ 1000001 := by
         have := partF_length l (l.take k) o j key
         rw [← hids, List.length_take] at this; omega
        have hstr : StrRow w4 V ids := StrRow.of_own hown (by omega) (by rw [hids]; exact partF_size HI.out HZO.out j key)
        have CT := Lib.hid (fun n => contains_any V ids o.id (w4.drewN n) (hstr.later (Below.refl _ _).drewN'))
        have HGA := Lib.hid hga4
        have HAL := Lib.hid hal
        have HOW := Lib.hid how
        have HIDS := Lib.hid hids
        have HKK := Lib.hid hkk
        have HOK1 := Lib.hid hok1
        have HKEY := Lib.hid hkey
        rw [hkey] at hlk
        simp only [keyV] at hlk
        clear hga hga4 hal how hids hkk hok1 hkey hown hstr hzq BQ HK d0 d1 bz
        obtain ⟨xz, x0, x1, x2, x3, x4, x5⟩ := rk6 hx4.out
        obtain ⟨qz, q0, q1⟩ := rk2 HK4.out
        go_wp2_with fail
        go_quiet ((go_at_call 44; exact Calls.quiet_of_same (CT.out _)))
        clear x0 x1 x2 x3 x4 x5 xz
        clear q0 q1 qz
        have B45 : Below w4.heap.size w4 (w4.drewN nq) := (Below.refl _ _).drewN'
        generalize hw5 : w4.drewN nq = w5
        rw [hw5] at B45
        have hz5 : w5.heap.size = wr.heap.size + 1 := by rw [← hz4, ← hw5]; rfl
        clear hw5 hlk
        have B5 := below_step B4 (by omega) B45
        have HX5 := Lib.hid (row_later B45 hx4.out)
        have HK5 := Lib.hid (row_later B45 HK4.out)
        have HG5 := Lib.hid (HGA.out.on B45)
        have HNO := Lib.hid (ids_not HOK.out HI.out l)
        have HSU := Lib.hid (fun key' => partF_succ (l := l) (objs := l.take k) (o := o) hjs HNO.out key')
        have hbr5 := hbr2.trans (B5.mono (by omega))
        clear B45 B4
        cases hm : decide (o.id ∈ ids) with
        |true =>
         have OS6 := Lib.hid (show OwnSt w5 (w.heap.size + 1) (partF l (l.take k) o (j + 1)) (2000 * k + (j + 1)) from ⟨acc, HG5.out, by have := HAL.out; omega, HOW.out.congr (fun key' => by
          rw [HSU.out, if_neg (fun c => c.2 (by rw [← HKK.out, ← HIDS.out]; exact of_decide_eq_true hm))])⟩)
         have HX5' := HX5.out
         clear hm
         go_wp2
         go_roundw
         case rel => exact ⟨j + 1, by go_num, by omega, OS6.out, hbr5, HX5.out⟩
         case measure => simp [intOf]; omega
        |false =>
         have HNM := Lib.hid (of_decide_eq_false hm)
         clear hm
         have B6 : Below w5.heap.size w5 (w5.alloc (.cells #[.string o.id] 9)) := (Below.refl _ _).alloc (Nat.le_refl _) _
         have HG6 := HG5.out.on B6
         obtain ⟨w7, st, V7, ids7, hrE, hg7, hs7, hids7, hown7, hvb7, hvp7, hback⟩ := HG6.entry keyK keyV_inj Tryz.underlying138 (zeroSl _) (by have := HAL.out; unfold maxLen; omega) key HOK1.out
         rw [HOW.out.getD] at hids7
         have hil7 : ids7.length ≤ 1000001 := by
          have := partF_length l (l.take k) o j key
          rw [← hids7, List.length_take] at this; omega
         have HX6 := row_later B6 HX5.out
         have HS6 := row_new w5 (.cells #[.string o.id] 9)
         rw [hz5] at HS6
         have hz6 : (w5.alloc (.cells #[.string o.id] 9)).heap.size = wr.heap.size + 2 := by simp [hz5]
         have hnb : ∀ g : Nat, g ≠ w.heap.size + 1 → some g ≠ some (w.heap.size + 1) := fun g h e => h (by injection e)
         have HX7 := Lib.hid (row_grown hg7 HX6 (hnb _ (by omega)))
         have HS7 := Lib.hid (row_grown hg7 HS6 (hnb _ (by omega)))
         have HAP := Lib.hid (show V7.ownBlock ≠ some wo.heap.size from fun c => by
          rcases hvp7 with h | ⟨p, hp, h⟩
          ·rw [h] at c; cases c
          ·rw [h] at c; exact HG6.other HX6 (by decide) p hp c)
         have HV7 := Lib.hid hvb7
         have HE7 := Lib.hid hids7
         have HB7 := Lib.hid hback
         have HO7 := Lib.hid hown7
         have hs7' := hs7.trans hz6
         rw [HKEY.out] at hrE
         simp only [keyV] at hrE
         have HG7 := Lib.hid hg7
         have B67 := Lib.hid (hbr5.trans (B6.mono (by omega)))
         clear HG6 hvp7 hback hids7 hown7 hvb7 hg7 HX6 HS6 hs7 hnb hz6
         obtain ⟨xz, x0, x1, x2, x3, x4, x5⟩ := rk6 HX5.out
         obtain ⟨qz, q0, q1⟩ := rk2 HK5.out
         go_wp2_with (at_builtin; refine wpList_append_own_at _ rfl _ _ 31 rfl (w.heap.size + 1 + 1) 9 i0 (.string ⟨#[]⟩) 1 16 Tryz.underlying31 hi hi0 hi1 hi2 rfl (by decide) _ _ _ rfl HO7.out ⟨wr.heap.size + 1, 0, none⟩ 1 1 [.string o.id] rfl rfl (cells_row HS7.out) (by simp [Value.oneCell']) (by unfold maxLen; omega) (by omega) (by omega) ?_; intro v' w8 hown8 hgrow8 _ hloc8; obtain ⟨w9, hrS, hga9, hg9⟩ := HB7.out w8 v' (ids7 ++ [o.id]) hgrow8 (by simpa using hown8) (hloc8.imp id (fun h => ⟨_, h, Nat.le_refl _⟩)); have HG9 := Lib.hid hg9; have HGR8 := Lib.hid hgrow8; have HGA9 := Lib.hid hga9; clear hown8 hloc8 hgrow8 hg9 hga9)
         have hbl : (w.heap.size + 1) ≤ w5.heap.size + 1 := by omega
         have B77 := B67.out.grown HG7.out (by simp; omega) (fun j hj => by injection hj with hj; omega)
         have B88 := B77.grown HGR8.out (by omega) (fun j hj => by have := (own_block HO7.out j hj).1; omega)
         have hz8 := HGR8.out.size
         have B99 := Lib.hid (B88.grown HG9.out (by omega) (fun j hj => by injection hj with hj; omega))
         have HX8 := row_grown HGR8.out HX7.out (fun c => HAP.out c.symm)
         have HX9 := Lib.hid (row_grown HG9.out HX8 (fun c => by injection c with c; omega))
         have OS9 := Lib.hid (show OwnSt w9 (w.heap.size + 1) (partF l (l.take k) o (j + 1)) (2000 * k + (j + 1)) from ⟨_, HGA9.out, by have := aput_length key (v', ids7 ++ [o.id]) acc; have := HAL.out; omega, by
          rw [HE7.out]
          exact own_put HOW.out key o.id v' (by rw [← HIDS.out]; exact HNM.out) (by rw [HKK.out]; exact HSU.out)⟩)
         clear B77 B88 HX8
         clear x0 x1 x2 x3 x4 x5 xz
         clear q0 q1 qz
         go_wp2
         go_roundw
         case rel => exact ⟨j + 1, by go_num, by omega, OS9.out, B99.out, HX9.out⟩
         case measure => simp [intOf]; omega
       ·have e1 : (((j : Int) + 1) == (M : Int)) = false := by rw [beq_eq_false_iff_ne]; omega
        have HW := Lib.hid m1
        have HW2 := Lib.hid m2
        have HW3 := Lib.hid wj
        clear hl m1 m2 wj
        have hx1 := Lib.hid hx
        obtain ⟨xz, x0, x1, x2, x3, x4, x5⟩ := rk6 hx1.out
        go_wp2_with fail
        have m1 := HW.out
        have wj := HW3.out
        go_quiet (fail)
        clear x0 x1 x2 x3 x4 x5 xz
        have BQ : Below wr.heap.size wr (wr.drewN nq) := (Below.refl _ _).drewN'
        generalize hwq : wr.drewN nq = wq
        rw [hwq] at BQ
        have hzq : wq.heap.size = wr.heap.size := by rw [← hwq]; rfl
        clear m1 wj hwq
        go_wp2_with fail
        have B4 : Below wr.heap.size wr (wq.alloc (.cells #[.string (minB ra rb), .string (maxB ra rb)] 83)) := BQ.alloc (by omega) _
        have HK := row_new wq (.cells #[.string (minB ra rb), .string (maxB ra rb)] 83)
        generalize hw4 : wq.alloc (.cells #[.string (minB ra rb), .string (maxB ra rb)] 83) = w4
        rw [hw4] at B4 HK
        have hz4 : w4.heap.size = wr.heap.size + 1 := by rw [← hw4, ← hzq]; simp
        clear hw4
        rw [hzq] at HK
        have hx4 := Lib.hid (row_later B4 hx1.out)
        have HK4 := Lib.hid HK
        obtain ⟨key, hkey⟩ : ∃ z : KeyD, z = (minB ra rb, maxB ra rb) := ⟨_, rfl⟩
        have hkk : key = sideAt o j := by rw [hkey, HSA.out]; rfl
        have hok1 := keyV_ok (k := key) (by rw [hkey]; unfold minB; simp only; split; exact z1.out; exact z0.out) (by rw [hkey]; unfold maxB; simp only; split; exact z1.out; exact z0.out)
        obtain ⟨acc, hga, hal, how⟩ := HJ.out
        have hga4 := hga.on B4
        obtain ⟨V, ids, hlk, hids, hown⟩ := hga4.get keyK keyV_inj Tryz.underlying138 zeroSl key hok1
        rw [how.getD] at hids
        have hilen : ids.length ≤ 1000001 := by
         have := partF_length l (l.take k) o j key
         rw [← hids, List.length_take] at this; omega
        have hstr : StrRow w4 V ids := StrRow.of_own hown (by omega) (by rw [hids]; exact partF_size HI.out HZO.out j key)
        have CT := Lib.hid (fun n => contains_any V ids o.id (w4.drewN n) (hstr.later (Below.refl _ _).drewN'))
        have HGA := Lib.hid hga4
        have HAL := Lib.hid hal
        have HOW := Lib.hid how
        have HIDS := Lib.hid hids
        have HKK := Lib.hid hkk
        have HOK1 := Lib.hid hok1
        have HKEY := Lib.hid hkey
        rw [hkey] at hlk
        simp only [keyV] at hlk
        clear hga hga4 hal how hids hkk hok1 hkey hown hstr hzq BQ HK d0 d1 bz
        obtain ⟨xz, x0, x1, x2, x3, x4, x5⟩ := rk6 hx4.out
        obtain ⟨qz, q0, q1⟩ := rk2 HK4.out
        go_wp2_with fail
        go_quiet ((go_at_call 44; exact Calls.quiet_of_same (CT.out _)))
        clear x0 x1 x2 x3 x4 x5 xz
        clear q0 q1 qz
        have B45 : Below w4.heap.size w4 (w4.drewN nq) := (Below.refl _ _).drewN'
        generalize hw5 : w4.drewN nq = w5
        rw [hw5] at B45
        have hz5 : w5.heap.size = wr.heap.size + 1 := by rw [← hz4, ← hw5]; rfl
        clear hw5 hlk
        have B5 := below_step B4 (by omega) B45
        have HX5 := Lib.hid (row_later B45 hx4.out)
        have HK5 := Lib.hid (row_later B45 HK4.out)
        have HG5 := Lib.hid (HGA.out.on B45)
        have HNO := Lib.hid (ids_not HOK.out HI.out l)
        have HSU := Lib.hid (fun key' => partF_succ (l := l) (objs := l.take k) (o := o) hjs HNO.out key')
        have hbr5 := hbr2.trans (B5.mono (by omega))
        clear B45 B4
        cases hm : decide (o.id ∈ ids) with
        |true =>
         have OS6 := Lib.hid (show OwnSt w5 (w.heap.size + 1) (partF l (l.take k) o (j + 1)) (2000 * k + (j + 1)) from ⟨acc, HG5.out, by have := HAL.out; omega, HOW.out.congr (fun key' => by
          rw [HSU.out, if_neg (fun c => c.2 (by rw [← HKK.out, ← HIDS.out]; exact of_decide_eq_true hm))])⟩)
         have HX5' := HX5.out
         clear hm
         go_wp2
         go_roundw
         case rel => exact ⟨j + 1, by go_num, by omega, OS6.out, hbr5, HX5.out⟩
         case measure => simp [intOf]; omega
        |false =>
         have HNM := Lib.hid (of_decide_eq_false hm)
         clear hm
         have B6 : Below w5.heap.size w5 (w5.alloc (.cells #[.string o.id] 9)) := (Below.refl _ _).alloc (Nat.le_refl _) _
         have HG6 := HG5.out.on B6
         obtain ⟨w7, st, V7, ids7, hrE, hg7, hs7, hids7, hown7, hvb7, hvp7, hback⟩ := HG6.entry keyK keyV_inj Tryz.underlying138 (zeroSl _) (by have := HAL.out; unfold maxLen; omega) key HOK1.out
         rw [HOW.out.getD] at hids7
         have hil7 : ids7.length ≤ 1000001 := by
          have := partF_length l (l.take k) o j key
          rw [← hids7, List.length_take] at this; omega
         have HX6 := row_later B6 HX5.out
         have HS6 := row_new w5 (.cells #[.string o.id] 9)
         rw [hz5] at HS6
         have hz6 : (w5.alloc (.cells #[.string o.id] 9)).heap.size = wr.heap.size + 2 := by simp [hz5]
         have hnb : ∀ g : Nat, g ≠ w.heap.size + 1 → some g ≠ some (w.heap.size + 1) := fun g h e => h (by injection e)
         have HX7 := Lib.hid (row_grown hg7 HX6 (hnb _ (by omega)))
         have HS7 := Lib.hid (row_grown hg7 HS6 (hnb _ (by omega)))
         have HAP := Lib.hid (show V7.ownBlock ≠ some wo.heap.size from fun c => by
          rcases hvp7 with h | ⟨p, hp, h⟩
          ·rw [h] at c; cases c
          ·rw [h] at c; exact HG6.other HX6 (by decide) p hp c)
         have HV7 := Lib.hid hvb7
         have HE7 := Lib.hid hids7
         have HB7 := Lib.hid hback
         have HO7 := Lib.hid hown7
         have hs7' := hs7.trans hz6
         rw [HKEY.out] at hrE
         simp only [keyV] at hrE
         have HG7 := Lib.hid hg7
         have B67 := Lib.hid (hbr5.trans (B6.mono (by omega)))
         clear HG6 hvp7 hback hids7 hown7 hvb7 hg7 HX6 HS6 hs7 hnb hz6
         obtain ⟨xz, x0, x1, x2, x3, x4, x5⟩ := rk6 HX5.out
         obtain ⟨qz, q0, q1⟩ := rk2 HK5.out
         go_wp2_with (at_builtin; refine wpList_append_own_at _ rfl _ _ 31 rfl (w.heap.size + 1 + 1) 9 i0 (.string ⟨#[]⟩) 1 16 Tryz.underlying31 hi hi0 hi1 hi2 rfl (by decide) _ _ _ rfl HO7.out ⟨wr.heap.size + 1, 0, none⟩ 1 1 [.string o.id] rfl rfl (cells_row HS7.out) (by simp [Value.oneCell']) (by unfold maxLen; omega) (by omega) (by omega) ?_; intro v' w8 hown8 hgrow8 _ hloc8; obtain ⟨w9, hrS, hga9, hg9⟩ := HB7.out w8 v' (ids7 ++ [o.id]) hgrow8 (by simpa using hown8) (hloc8.imp id (fun h => ⟨_, h, Nat.le_refl _⟩)); have HG9 := Lib.hid hg9; have HGR8 := Lib.hid hgrow8; have HGA9 := Lib.hid hga9; clear hown8 hloc8 hgrow8 hg9 hga9)
         have hbl : (w.heap.size + 1) ≤ w5.heap.size + 1 := by omega
         have B77 := B67.out.grown HG7.out (by simp; omega) (fun j hj => by injection hj with hj; omega)
         have B88 := B77.grown HGR8.out (by omega) (fun j hj => by have := (own_block HO7.out j hj).1; omega)
         have hz8 := HGR8.out.size
         have B99 := Lib.hid (B88.grown HG9.out (by omega) (fun j hj => by injection hj with hj; omega))
         have HX8 := row_grown HGR8.out HX7.out (fun c => HAP.out c.symm)
         have HX9 := Lib.hid (row_grown HG9.out HX8 (fun c => by injection c with c; omega))
         have OS9 := Lib.hid (show OwnSt w9 (w.heap.size + 1) (partF l (l.take k) o (j + 1)) (2000 * k + (j + 1)) from ⟨_, HGA9.out, by have := aput_length key (v', ids7 ++ [o.id]) acc; have := HAL.out; omega, by
          rw [HE7.out]
          exact own_put HOW.out key o.id v' (by rw [← HIDS.out]; exact HNM.out) (by rw [HKK.out]; exact HSU.out)⟩)
         clear B77 B88 HX8
         clear x0 x1 x2 x3 x4 x5 xz
         clear q0 q1 qz
         go_wp2
         go_roundw
         case rel => exact ⟨j + 1, by go_num, by omega, OS9.out, B99.out, HX9.out⟩
         case measure => simp [intOf]; omega
      ·have hje : j = sideN o := by omega
       have OS9 := Lib.hid (HJ.out.congr (n' := 2000 * (k + 1)) (g := ownF l (l.take (k + 1))) (by omega) (fun key => by rw [HTK.out, if_pos HBT.out, hje]))
       clear hje
       by_cases hjM : j < M
       case pos =>
        exact absurd hjM (by omega)
       case neg =>
        go_wp2
        go_roundw
        case rel => exact ⟨k + 1, by go_num, by omega, OS9.out, hbr2⟩
        case measure => simp [intOf]; omega
   ·have k2a : (o.kind != 2) = true := by rw [bne_iff_ne]; exact k2
    have k3a : (o.kind != 3) = true := by rw [bne_iff_ne]; exact k3
    have HB := Lib.hid (show isB l o = false by unfold isB; rw [decide_eq_false (by rintro (h | h); exact k2 h; exact k3 h)]; rfl)
    clear k2 k3
    have BX : Below wo.heap.size wo (wo.alloc (.cells #[.string o.id, .int .i64 o.kind, .int .i64 o.x, .int .i64 o.y, .slice ar M capr, .slice at1 o.tags.length capt] 36)) := (Below.refl _ _).alloc (Nat.le_refl _) _
    have OS2 := Lib.hid ((HST.out.on BX).congr (n' := 2000 * (k + 1)) (g := ownF l (l.take (k + 1))) (by omega) (fun key => by rw [HTK.out, HB.out]; rfl))
    have BW := hbr.alloc (by omega) (.cells #[.string o.id, .int .i64 o.kind, .int .i64 o.x, .int .i64 o.y, .slice ar M capr, .slice at1 o.tags.length capt] 36)
    clear BX
    go_wp2
    go_roundw
    case rel => exact ⟨k + 1, by go_num, by omega, OS2.out, BW⟩
    case measure => simp [intOf]; omega
  ·obtain rfl : k = N := by omega
   obtain ⟨acc, hga, hal, how⟩ := HST.out.congr (n' := 2000 * k) (g := ownF l l) (Nat.le_refl _) (fun key => by rw [List.take_of_length_le (by rw [HN.out]; exact Nat.le_refl _)])
   have HGA := Lib.hid hga
   have HOW := Lib.hid how
   have hcnt := fun ty => hga.1.count (ty := ty) Tryz.underlying138
   have HKS := Lib.hid (linesKeys how hga.1.nodup)
   obtain ⟨A, hA⟩ : ∃ A, acc.length = A := ⟨_, rfl⟩
   rw [hA] at hcnt hal
   have HA := Lib.hid hA
   obtain ⟨j0, hj, hj0, hj1, hj2⟩ := info_parts infoLn
   have hbk : w.heap.size + 1 < wr.heap.size := by omega
   clear hga how hA HST H1 H1r ND HC HOK OS0
   go_wp2_with (at_make; refine wpList_make_own _ rfl _ _ 81 rfl wr.heap.size 85 j0 (.agg #[.string ⟨#[]⟩, .string ⟨#[]⟩, .slice none 0 0]) 3 Tryz.underlying81 hj hj0 hj1 .i64 .i64 A A rfl rfl rfl (by rw [hj2]; omega) (by unfold maxLen; omega) (Nat.le_refl _) ?_; intro wm hownm hgm; have BM := (Below.refl wr.heap.size wr).grown hgm (Nat.le_refl _) (fun j hj => by cases hj); obtain ⟨w2, hrr, hra, hgr, hsz⟩ := (HGA.out.on BM).1.range Tryz.underlying138; have HRA := Lib.hid hra; have HOM := Lib.hid hownm; have HGR := Lib.hid hgr; clear hra hownm hgr hgm)
   obtain ⟨Bi, hBi⟩ : ∃ b, b = wm.heap.size := ⟨_, rfl⟩
   rw [← hBi]
   obtain ⟨wv, rfl⟩ : ∃ wv : World, wv = wr := ⟨_, rfl⟩
   have HRA2 := HRA.out
   rw [← hBi] at HRA2
   have hbi : wv.heap.size ≤ Bi := by rw [hBi]; exact BM.size
   have B2 := BM.grown HGR.out (by omega) (fun j hj => by cases hj)
   have O2 := HOM.out.kept HGR.out (Or.inr (by simp [Value.ownBlock]))
   have HRA3 := Lib.hid HRA2
   have HO2 := Lib.hid O2
   have hz2 := B2.size
   clear HRA HOM HGR hsz BM O2 HRA2 hBi hrr
   go_loopw [11] (fun v11 wx => ∃ (done todo : List (KeyD × Value × List ByteArray)), RangeAt keyV (fun p : Value × List ByteArray => p.1) wx (w.heap.size + 1) Bi acc done todo ∧ wx.ownsRow wv.heap.size 85 3 v11 done.length ((done.map toLn).flatMap encLn) ∧ Below wv.heap.size wv wx) (fun _ wx => wx.rangeLeft (w.heap.size + 1) Bi)
   case atStart => exact ⟨[], acc, HRA3.out, HO2.out, B2⟩
   case round =>
    obtain ⟨done, todo, hra, hown, hbx⟩ := hrel
    have hzx := hbx.size
    have HB := Lib.hid hbx
    have HOWN := Lib.hid hown
    have hlen := hra.perm.length_eq
    rw [HA.out, List.length_append] at hlen
    have hdl : done.length ≤ A := by omega
    clear hlen
    have HLF := Lib.hid hra.left
    have HPM := Lib.hid hra.perm
    rcases hra.next (P := Tryz.prog) with ⟨ht, hp, hnx⟩ | ⟨p, todo', w5, hp, hnx, hra5, hg5, hs5, hen⟩
    ·have HPD := Lib.hid hp
     have HNR := Lib.hid (hra.notRow hown)
     clear hra hown hbx ht hp
     go_wp2_with fail
     have HS := sort_own (α := LineM) Tryz.sort_line 3 Tryz.isAgg85 Tryz.sizeOf85 encLn encLn_len encLn_one cfLn swoLn 86 #[] (enters_of Tryz.func86 (by kernel_rfl) rfl) (by simp) (by omega) (fun W _ x y => lnc_any x y W) HOWN.out
     refine HS.mono ?_
     rintro e w6 ⟨rfl, L, hL, hso, hown6, hg6⟩
     have hnd := HGA.out.1.nodup
     have HL := Lib.hid (show L.map (·.1) = keysP l from lines_sorted HKS.out.1 hnd (hL.trans ((HPD.out.symm).map toLn)) hso)
     have HG6 := Lib.hid ((HGA.out.on HB.out).keptBy hg6 (fun c => HNR.out.2 c.symm) (fun p hp => (HGA.out.on HB.out).otherRow HOWN.out (by decide) p hp))
     have HR6 := Lib.hid (RowE.of_own encLn_len (by rw [hL.length_eq]; simp) hown6)
     have HLL := Lib.hid (show ∀ x ∈ L, StrRow w6 (.slice x.2.1 x.2.2.1 x.2.2.2) (ownF l l x.1) from fun x hx => by
      obtain ⟨p, hp, rfl⟩ := List.mem_map.1 (hL.mem_iff.1 hx)
      have hpa := HPD.out.mem_iff.2 hp
      have ho := HG6.out.2.2.1 p hpa
      have he := HKS.out.2 p hpa
      have hv := own_parts ho
      show StrRow w6 (.slice (slParts p.2.1).1 (slParts p.2.1).2.1 (slParts p.2.1).2.2) (ownF l l p.1)
      rw [← hv, ← he]
      exact StrRow.of_own ho (by rw [he]; have := ownF_length l l p.1; rw [HN.out] at this; omega) (by
       rw [he]; intro s hs
       obtain ⟨x, hx, _, _, rfl⟩ := ownF_mem.1 hs
       exact HZO.out x hx))
     have BF := Lib.hid (show Below w.heap.size w w6 from BR.trans ((HB.out.grown hg6 (by omega) (fun j hj => (own_block HOWN.out j hj).1)).mono (by omega)))
     clear hL hso hown6 hg6 hnd HS
     go_wp2
     go_ret
     exact ⟨_, rfl, ⟨L, HR6.out, HL.out, HLL.out⟩, BF.out⟩
    ·have hpm : p ∈ acc := HPM.out.mem_iff.2 (List.mem_append_right _ (hp.mem_iff.2 (List.mem_cons_self ..)))
     have HR5 := Lib.hid hra5
     have hlt5 : todo'.length < todo.length := by have := hp.length_eq; simp at this; omega
     have B5 := Lib.hid (hbx.grown hg5 hzx (fun j hj => by injection hj with hj; omega))
     have hgb : u11.ownBlock ≠ some Bi := (hra.notRow hown).1
     have O5 := Lib.hid (hown.kept hg5 (Or.inr hgb))
     have hpp := own_parts ((HGA.out.on hbx).2.2.1 p hpm)
     have HQ := Lib.hid (show toLn p = (p.1, slParts p.2.1) from rfl)
     obtain ⟨pa, hpa⟩ : ∃ z, z = slParts p.2.1 := ⟨_, rfl⟩
     rw [← hpa] at hpp HQ
     obtain ⟨pa, pn, pc⟩ := pa
     simp only [] at hpp
     rw [hpp] at hnx hen
     obtain ⟨⟨x1, x2⟩, hx⟩ : ∃ z : KeyD, z = p.1 := ⟨_, rfl⟩
     rw [← hx] at hnx hen HQ
     simp only [keyV] at hnx hen
     have hz5 : wv.heap.size ≤ w5.heap.size := by omega
     have HS5 := Lib.hid hs5
     clear hra hown hbx hg5 hra5 hp hpm hx hpa hpp hgb hs5
     go_wp2_with (at_builtin; refine wpList_append_own _ rfl _ _ 81 rfl wv.heap.size 85 j0 (.agg #[.string ⟨#[]⟩, .string ⟨#[]⟩, .slice none 0 0]) 3 56 Tryz.underlying81 hj hj0 hj1 hj2 rfl (by decide) _ _ _ rfl ((O5.out.alloc _).alloc _) ⟨w5.heap.size + 1, 0, none⟩ 1 1 (encLn ((x1, x2), pa, pn, pc)) rfl rfl (cells_new1 _ _ _ _) (encLn_one _) (by unfold maxLen; omega) (by omega) (by simp; omega) ?_; intro v' w6 hown6 hgrow6 _)
     have B7 := ((B5.out.alloc hz5 _).alloc (by simp; omega) _).grown hgrow6 (by simp; omega) (fun j hj => (own_block O5.out j hj).1)
     have R7 := ((HR5.out.on ((Below.refl _ _).alloc (Nat.le_refl _) _)).on ((Below.refl _ _).alloc (Nat.le_refl _) _)).kept hgrow6 (fun c => (HR5.out.notRow O5.out).2 c.symm) (fun c => (HR5.out.notRow O5.out).1 c.symm)
     have O7 := Lib.hid (show w6.ownsRow wv.heap.size 85 3 v' (done ++ [p]).length (((done ++ [p]).map toLn).flatMap encLn) by
      rw [List.length_append, List.map_append, List.flatMap_append]
      simpa [HQ.out] using hown6)
     have R7' := Lib.hid R7
     clear hown6 hgrow6 R7
     go_roundw
     case rel => exact ⟨done ++ [p], todo', R7'.out, O7.out, B7⟩
     case measure => rw [R7'.out.left, HLF.out]; exact hlt5
end Go.Proofs.YtibpaaajghbkoaaGreat
