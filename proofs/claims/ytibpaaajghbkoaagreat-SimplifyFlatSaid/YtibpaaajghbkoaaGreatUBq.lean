/-  -/
import Derived.Test.YtibpaaajghbkoaaGreatUBo
import Derived.Test.YtibpaaajghbkoaaGreatUAu
import Derived.Test.YtibpaaajghbkoaaGreatUBk
import Derived.Test.YtibpaaajghbkoaaGreatUBp
namespace Go.Proofs.YtibpaaajghbkoaaGreat
open Go.RowKit Go.Maps Go.Sort Go.ChangeMaps
theorem infoCa : (Tryz.prog.info? 115).map (fun i => (i.zero, i.size, i.bytes)) = some (some (.agg #[.string ⟨#[]⟩, .int .i64 0, .string ⟨#[]⟩, .string ⟨#[]⟩, .int .i64 0, .int .i64 0, .int .i64 0, .int .i64 0, .int .i64 0, .int .i64 0]), 10, 104) := by kernel_rfl
theorem key2_mem {a b : ByteArray} {p : KeyD} (h : p = key2 a b) : (p.1 = a ∨ p.1 = b) ∧ (p.2 = a ∨ p.2 = b) := by
 subst h
 unfold key2 minB maxB
 constructor
 ·simp only; split
  ·exact Or.inr rfl
  ·exact Or.inl rfl
 ·simp only; split
  ·exact Or.inr rfl
  ·exact Or.inl rfl
theorem nbr_refs {o : ObjD} {id : ByteArray} {p : KeyD} (hid : id ∈ o.refs) (h : nbrO o id = some p) : (o.kind = 2 ∨ o.kind = 3) ∧ p.1 ∈ o.refs ∧ p.2 ∈ o.refs := by
 have hl : 0 < o.refs.length := List.length_pos_of_mem hid
 unfold nbrO at h
 split at h
 ·rename_i hc
  split at h
  ·cases h
  ·injection h with h
   obtain ⟨h1, h2⟩ := key2_mem h.symm
   have m1 : refAt o ((idxR id o.refs + o.refs.length - 1) % o.refs.length) ∈ o.refs := List.mem_of_getElem? (ref_get o _ (Nat.mod_lt _ hl))
   have m2 : refAt o ((idxR id o.refs + 1) % o.refs.length) ∈ o.refs := List.mem_of_getElem? (ref_get o _ (Nat.mod_lt _ hl))
   refine ⟨hc.imp (·.1) (·.1), ?_, ?_⟩
   ·rcases h1 with e | e <;> rw [e] <;> assumption
   ·rcases h2 with e | e <;> rw [e] <;> assumption
 ·cases h
theorem neigh_bref {l : List ObjD} {id : ByteArray} {p : KeyD} (h : neighP l id = some p) : ∃ o ∈ l, p.1 ∈ o.refs ∧ p.2 ∈ o.refs ∧ p.1 ∈ brefP l ∧ p.2 ∈ brefP l := by
 obtain ⟨⟨o, ho, hr⟩, hall⟩ := neigh_spec h
 obtain ⟨hk, h1, h2⟩ := nbr_refs hr (hall o ho hr)
 exact ⟨o, ho, h1, h2, bref_mem.2 ⟨o, ho, hk, h1⟩, bref_mem.2 ⟨o, ho, hk, h2⟩⟩
theorem set_all {g : Nat} {t : TypeId} {w : World} {cur : Array Value} {vs : List Value} (h : w.heap[g]? = some (.cells cur t (0, 0))) (hl : vs.length = cur.size) : (w.setCells g 0 vs).heap[g]? = some (.cells vs.toArray t (0, 0)) := by
 have h1 := setCells_block vs 0 w cur h
 have e : splice cur 0 vs = vs.toArray := by
  apply Array.ext_getElem?
  intro i
  rw [splice_get _ _ _ (by omega)]
  by_cases hi : i < vs.length
  ·rw [if_pos ⟨by omega, by omega⟩]; simp
  ·rw [if_neg (by omega), Array.getElem?_eq_none (by omega), Array.getElem?_eq_none (by simp; omega)]
 rw [e] at h1
 exact h1
def candF (l : List ObjD) (tol : Int) (id : ByteArray) : Option CandD := (atO l id).bind (candO l tol)
theorem candF_snoc {l : List ObjD} {tol : Int} {ord : List ByteArray} {k : Nat} {id : ByteArray} (h : ord[k]? = some id) : (ord.take (k + 1)).filterMap (candF l tol) = (ord.take k).filterMap (candF l tol) ++ match candF l tol id with | none => [] | some c => [c] := by
 rw [take_snoc' h, List.filterMap_append]
 congr 1
 cases hc : candF l tol id <;> simp [hc]
def CandPost (l : List ObjD) (tol : Int) (w : World) (e : Ending) (w' : World) : Prop :=
 ∃ (Bs : Nat) (S : List CaM) (vt : Value), e = .returned (.func (.func 161) #[] #[.pointer (some ⟨Bs, 0, none⟩)]) ∧ w'.heap[Bs]? = some (.cells #[vt] 163 (0, 0)) ∧ RowE encCa 10 w' vt S ∧
  (S.map (·.1)).Perm (candP l tol) ∧ (S.map (·.1)).Pairwise (fun c d => ltC d c = false) ∧ (∀ x ∈ S, CaOK l x) ∧ S.length ≤ 1000000 ∧ Below w.heap.size w w'
set_option maxRecDepth 100000 in
set_option maxHeartbeats 4000000 in
theorem cands_any (bp : Nat) (ord : List ByteArray) (l : List ObjD) (bo bn br : Nat) (vo : Value) (tol : Int) (w : World) (hp : PlanAt w bp ord l bo bn br vo) (hok : mapOK l = true) (hnd : ord.Nodup) (hsub : (l.map (·.id)).Sublist ord) (hol : ord.length ≤ 1000000) :
  Calls Tryz.prog 62 #[.pointer (some ⟨bp, 0, none⟩), .int .i64 tol] w (CandPost l tol w) := by
 have mixed : Tryz.prog.follows .mixedOrders = true := by kernel_rfl
 obtain ⟨i0, hi, hi0, hi1, hi2⟩ := info_parts infoCa
 have HPL := Lib.hid hp
 have HOK := Lib.hid hok
 have HPR := Lib.hid hp.row
 have HCP := Lib.hid (order_map hok hnd hsub (candO l tol))
 obtain ⟨N, hN⟩ : ∃ N, ord.length = N := ⟨_, rfl⟩
 obtain ⟨ar, capr, hvo, _, hzs, hcell⟩ := hp.ord
 rw [hN] at hvo hcell hol
 subst hvo
 have HN := Lib.hid hN
 have HC := Lib.hid hcell
 have HZ := Lib.hid hzs
 have NB := Lib.hid (fun id W (hb : Below w.heap.size w W) (hz : id.size ≤ 140737488355328) => neigh_any bp ord l bo bn br (.slice ar N capr) id W (hp.on hb) hok hz)
 clear hp hok hnd hsub hN hcell hzs
 go_enter Tryz.func62, Tryz.ntmps62
 obtain ⟨pz, p0, p1, p2, p3⟩ := rk4 HPR.out
 go_wp2_with fail
 clear p0 p1 p2 p3 pz
 go_loopw [5, 18] (fun v5 i wr => ∃ (k : Nat) (L : List CaM), i = .int .i64 k ∧ k ≤ N ∧ wr.ownsRow w.heap.size 115 10 v5 L.length (L.flatMap encCa) ∧ L.map (·.1) = (ord.take k).filterMap (candF l tol) ∧ (∀ x ∈ L, CaOK l x) ∧ Below w.heap.size w wr) (fun _ i _ => N - (intOf i).toNat)
 case atStart => exact ⟨0, [], rfl, Nat.zero_le _, World.ownsRow_nil _ _ _ _, rfl, (fun x hx => by cases hx), Below.refl _ _⟩
 case round =>
  obtain ⟨k, L, rfl, hk, hown, hlm, hoks, hbr⟩ := hrel
  have HOWN := Lib.hid hown
  have HLM := Lib.hid hlm
  have HOKS := Lib.hid hoks
  have hll : L.length ≤ k := by
   have := congrArg List.length hlm
   rw [List.length_map] at this
   rw [this]
   exact Nat.le_trans (List.length_filterMap_le _ _) (by rw [List.length_take]; omega)
  have hzr := hbr.size
  clear hown hlm hoks
  by_cases hlt : k < N
  ·obtain ⟨id, hid⟩ : ∃ s, ord[k]? = some s := ⟨ord[k]'(by rw [HN.out]; exact hlt), List.getElem?_eq_getElem _⟩
   obtain ⟨b, off, ha, hcell⟩ := HC.out (by omega)
   subst ha
   have c0 := cell_later hbr (hcell k id hid)
   have hz := HZ.out id (List.mem_of_getElem? hid)
   have HSN := Lib.hid (candF_snoc (l := l) (tol := tol) hid)
   have HPRr := Lib.hid (row_later hbr HPR.out)
   have HPLr := Lib.hid (HPL.out.on hbr)
   clear hcell hid
   cases hat : atO l id with
   |none =>
    have hlo := HPLr.out.objs.lookNone hat hz wr (Below.refl _ _)
    have HSK := Lib.hid (show candF l tol id = none by unfold candF; rw [hat]; rfl)
    have BX : Below wr.heap.size wr (wr.alloc (.cells #[.string ⟨#[]⟩, .int .i64 0, .int .i64 0, .int .i64 0, .slice none 0 0, .slice none 0 0] 36)) := (Below.refl _ _).alloc (Nat.le_refl _) _
    have N1 := Lib.hid (NB.out id _ (hbr.trans (BX.mono hzr)) hz)
    clear hat
    obtain ⟨pz, p0, p1, p2, p3⟩ := rk4 HPRr.out
    go_wp2_with fail
    refine N1.out.mono ?_
    rintro e w2 ⟨pa, pb, rfl, -, hb2⟩
    clear p0 p1 p2 p3 pz
    have B2 := below_step BX (Nat.le_refl _) hb2
    have BWR := Lib.hid (B2.alloc B2.size (.cells #[.string pa, .string pb] 83))
    have BW := Lib.hid (hbr.trans (BWR.out.mono hzr))
    clear B2 BX hb2 N1 hlo
    have HLK2 := Lib.hid (show L.map (·.1) = (ord.take (k + 1)).filterMap (candF l tol) by rw [HSN.out, HSK.out, HLM.out]; simp)
    have HOW := Lib.hid (own_later HOWN.out BWR.out)
    go_wp2
    go_roundw
    case rel => exact ⟨k + 1, L, by go_num, by omega, HOW.out, HLK2.out, HOKS.out, BW.out⟩
    case measure => simp [intOf]; omega
   |some o =>
    obtain ⟨hol', hoi⟩ := at_node hat
    obtain ⟨vr, vt, hcap, -, hlo⟩ := HPLr.out.objs.look hat hz
    have hlo1 := hlo wr (Below.refl _ _)
    obtain ⟨⟨hr, ht, _⟩, hcv⟩ := hcap
    have hr : StrRow wr vr o.refs := hr
    have ht : TagRow wr vt o.tags := ht
    obtain ⟨aq, capq, evq, _⟩ := hr
    obtain ⟨at1, capt, evt, htn, _⟩ := ht
    subst evq evt
    have HCF := Lib.hid (show candF l tol id = candO l tol o by unfold candF; rw [hat]; rfl)
    have HPT := Lib.hid (fun hk => pt_at HOK.out hat hk)
    have HCO := Lib.hid (show candO l tol o = match neighP l o.id with
     |none => none
     |some p => if o.kind = 1 ∧ o.tags.length = 0 ∧ sizeT (ptO l o.id) (ptO l p.1) (ptO l p.2) ≤ tol then some (o.id, sizeT (ptO l o.id) (ptO l p.1) (ptO l p.2), p) else none from rfl)
    rw [hoi] at HCO
    have HOI := Lib.hid hoi
    have BX : Below wr.heap.size wr (wr.alloc (.cells #[.string o.id, .int .i64 o.kind, .int .i64 o.x, .int .i64 o.y, .slice aq o.refs.length capq, .slice at1 o.tags.length capt] 36)) := (Below.refl _ _).alloc (Nat.le_refl _) _
    have HX := row_new wr (.cells #[.string o.id, .int .i64 o.kind, .int .i64 o.x, .int .i64 o.y, .slice aq o.refs.length capq, .slice at1 o.tags.length capt] 36)
    have N1 := Lib.hid (NB.out id _ (hbr.trans (BX.mono hzr)) hz)
    clear hat hol' hoi hlo hcv
    obtain ⟨pz, p0, p1, p2, p3⟩ := rk4 HPRr.out
    go_wp2_with fail
    refine N1.out.mono ?_
    rintro e w2 ⟨pa, pb, rfl, hpab, hb2⟩
    clear p0 p1 p2 p3 pz
    have HX2 := row_later hb2 HX
    have B2 := below_step BX (Nat.le_refl _) hb2
    clear hb2 BX HX N1 hlo1
    obtain ⟨wn, hwn⟩ : ∃ z, z = w2.alloc (.cells #[.string pa, .string pb] 83) := ⟨_, rfl⟩
    have BX2 : Below w2.heap.size w2 wn := by rw [hwn]; exact (Below.refl _ _).alloc (Nat.le_refl _) _
    have HP2 := Lib.hid (show wn.heap[w2.heap.size]? = some (.cells #[.string pa, .string pb] 83) by rw [hwn]; exact row_new _ _)
    have HX2 := row_later BX2 HX2
    have HX2 := Lib.hid HX2
    have BWR := Lib.hid (below_step B2 (Nat.le_refl _) BX2)
    have BW := Lib.hid (hbr.trans (BWR.out.mono hzr))
    have hzn : wr.heap.size ≤ wn.heap.size := BWR.out.size
    go_upto_region 7 with fail
    rw [← hwn]
    have HPRn := Lib.hid (row_later BWR.out HPRr.out)
    have hxl : wr.heap.size < wn.heap.size := lt_of_block HX2.out
    clear hwn BX2 B2
    cases hnb : neighP l id with
    |none =>
     have HSK := Lib.hid (show candF l tol id = none by rw [HCF.out, HCO.out, hnb])
     clear hnb hpab
     obtain ⟨xz, x0, x1, x2, x3, x4, x5⟩ := rk6 HX2.out
     have HLK2 := Lib.hid (show L.map (·.1) = (ord.take (k + 1)).filterMap (candF l tol) by rw [HSN.out, HSK.out, HLM.out]; simp)
     have HOW := Lib.hid (own_later HOWN.out BWR.out)
     go_wp2
     go_roundw
     case rel => exact ⟨k + 1, L, by go_num, by omega, HOW.out, HLK2.out, HOKS.out, BW.out⟩
     case measure => simp [intOf]; omega
    |some p =>
     obtain ⟨p1, p2⟩ := p
     have hpp := hpab _ hnb
     injection hpp with e1 e2
     subst e1 e2
     have HNB := Lib.hid hnb
     have HCO := Lib.hid (show candO l tol o = if o.kind = 1 ∧ o.tags.length = 0 ∧ sizeT (ptO l id) (ptO l p1) (ptO l p2) ≤ tol then some (id, sizeT (ptO l id) (ptO l p1) (ptO l p2), (p1, p2)) else none by rw [HCO.out, hnb])
     clear hnb hpab
     obtain ⟨xz, x0, x1, x2, x3, x4, x5⟩ := rk6 HX2.out
     by_cases hk1 : o.kind = 1
     ·have hkb : (o.kind != 1) = false := by rw [hk1]; rfl
      have HK1 := Lib.hid hk1
      clear hk1
      by_cases ht0 : o.tags.length = 0
      ·have htb : decide ((0 : Int) < (o.tags.length : Int)) = false := decide_eq_false (by omega)
       have htb2 : decide (0 < o.tags.length) = false := decide_eq_false (by omega)
       have HT0 := Lib.hid ht0
       clear ht0
       go_upto_region 8 with fail
       clear x0 x1 x2 x3 x4 x5 xz
       obtain ⟨oq, hoq, m1, m2, mb1, mb2⟩ := neigh_bref HNB.out
       have zz := (HPL.out.size HOK.out hoq).2
       have z1 := zz _ m1
       have z2 := zz _ m2
       have HN1 := Lib.hid (show nodF l p1 = some (ptO l p1) by unfold nodF; rw [if_pos mb1])
       have HN2 := Lib.hid (show nodF l p2 = some (ptO l p2) by unfold nodF; rw [if_pos mb2])
       have HA := Lib.hid (show ptO l id = (o.x, o.y) from HPT.out HK1.out)
       have na := pt_near HOK.out id
       have n1 := pt_near HOK.out p1
       have n2 := pt_near HOK.out p2
       have hbd := cross_bd (near_diff na n1) (near_diff na n2)
       have TW := Lib.hid (fun W => twice_any _ _ _ na n1 n2 W)
       have hcr : ((ptO l p1).1 - (ptO l id).1) * ((ptO l p2).2 - (ptO l id).2) - ((ptO l p1).2 - (ptO l id).2) * ((ptO l p2).1 - (ptO l id).1) = crs (ptO l id) (ptO l p1) (ptO l p2) := rfl
       simp only [] at hbd
       rw [hcr] at hbd
       have HSZ := Lib.hid (show sizeT (ptO l id) (ptO l p1) (ptO l p2) = max (crs (ptO l id) (ptO l p1) (ptO l p2)) (-(crs (ptO l id) (ptO l p1) (ptO l p2))) from rfl)
       generalize crs (ptO l id) (ptO l p1) (ptO l p2) = cr at hbd TW HSZ
       clear hcr
       rw [HA.out] at TW
       obtain ⟨⟨q1, q2⟩, hq⟩ : ∃ z, z = ptO l p1 := ⟨_, rfl⟩
       obtain ⟨⟨q3, q4⟩, hq'⟩ : ∃ z, z = ptO l p2 := ⟨_, rfl⟩
       rw [← hq] at HN1 TW
       rw [← hq'] at HN2 TW
       have HQ := Lib.hid hq
       have HQ' := Lib.hid hq'
       have HND := Lib.hid (HPLr.out.nods.on BWR.out)
       clear hoq m1 m2 mb1 mb2 zz na n1 n2 hq hq' oq
       refine wp_region_mix 20 (fun W => Below wn.heap.size wn W) (fun W => Below wn.heap.size wn W) mixed (by kernel_rfl) (by kernel_rfl) (by kernel_rfl) (StableW.below _ _ (Nat.le_refl _)) (fun W hW => hW) (Below.refl _ _).drew ?_
       apply Exists.intro
       refine ⟨fun W hW => ?_, ?_⟩
       ·have HR1 := Lib.hid (row_later hW HPRn.out)
        have HR2 := Lib.hid (row_later hW HX2.out)
        have HR3 := Lib.hid (row_later hW HP2.out)
        have hl1 := fun p : BelowBy W => (HND.out.on (below_step hW (Nat.le_refl _) p.below)).look p1 z1
        have hl2 := fun p : BelowBy W => (HND.out.on (below_step hW (Nat.le_refl _) p.below)).look p2 z2
        rw [HN1.out] at hl1
        rw [HN2.out] at hl2
        simp only [Option.getD_some, intK] at hl1 hl2
        obtain ⟨pz, p0, p1, p2, p3⟩ := rk4 HR1.out
        have qp0 := cell_belowBy p0
        have qp1 := cell_belowBy p1
        have qp2 := cell_belowBy p2
        have qp3 := cell_belowBy p3
        clear p0 p1 p2 p3
        obtain ⟨xz, x0, x1, x2, x3, x4, x5⟩ := rk6 HR2.out
        have qx0 := cell_belowBy x0
        have qx1 := cell_belowBy x1
        have qx2 := cell_belowBy x2
        have qx3 := cell_belowBy x3
        have qx4 := cell_belowBy x4
        have qx5 := cell_belowBy x5
        clear x0 x1 x2 x3 x4 x5
        obtain ⟨yz, y0, y1⟩ := rk2 HR3.out
        have qy0 := cell_belowBy y0
        have qy1 := cell_belowBy y1
        clear y0 y1
        simp only [List.take_succ_cons, List.take_zero]
        repeat (go_big_quiet_step (fail))
        exact wpQuiet_nil rfl
       ·simp only [List.drop_succ_cons, List.drop_zero]
        refine tailM_step (ι := Nat) (fun g => .pointer (some ⟨g, 0, none⟩)) (fun g W => Below wn.heap.size wn W ∧ W.heap[g]? = some (.cells #[.string ⟨#[]⟩, .int .i64 0, .string ⟨#[]⟩, .string ⟨#[]⟩, .int .i64 0, .int .i64 0, .int .i64 0, .int .i64 0, .int .i64 0, .int .i64 0] 115) ∧ wn.heap.size ≤ g) rfl (fun g => (StableW.below _ _ (Nat.le_refl _)).and ((StableW.row _ _).and (StableW.const _))) (fun _ _ h => h.1) (fun W hS K hK => ?_) (fun g => ?_)
        ·go_simp
         exact hK W.heap.size _ ⟨hS.alloc hS.size _, row_new _ _, hS.size⟩
        simp only [Act.put, List.setIfInBounds_toArray, List.set_cons_succ, List.set_cons_zero]
        refine tailM_step (ι := Unit) (fun _ => undef) (fun _ W => Below wn.heap.size wn W ∧ W.heap[g]? = some (.cells #[.string id, .int .i64 0, .string p1, .string p2, .int .i64 o.x, .int .i64 o.y, .int .i64 q1, .int .i64 q2, .int .i64 q3, .int .i64 q4] 115) ∧ wn.heap.size ≤ g) rfl (fun _ => (StableW.below _ _ (Nat.le_refl _)).and ((StableW.row _ _).and (StableW.const _))) (fun _ _ h => h.1) (fun W hS K hK => ?_) (fun _ => ?_)
        ·obtain ⟨hS1, hS2, hS3⟩ := hS
         have HS2 := Lib.hid hS2
         clear hS2
         have ccz := lt_of_block HS2.out
         have cc0 := cell_of_row W _ 0 _ _ _ HS2.out
         have cc1 := cell_of_row W _ 1 _ _ _ HS2.out
         have cc2 := cell_of_row W _ 2 _ _ _ HS2.out
         have cc3 := cell_of_row W _ 3 _ _ _ HS2.out
         have cc4 := cell_of_row W _ 4 _ _ _ HS2.out
         have cc5 := cell_of_row W _ 5 _ _ _ HS2.out
         have cc6 := cell_of_row W _ 6 _ _ _ HS2.out
         have cc7 := cell_of_row W _ 7 _ _ _ HS2.out
         have cc8 := cell_of_row W _ 8 _ _ _ HS2.out
         have cc9 := cell_of_row W _ 9 _ _ _ HS2.out
         have ccf0 := frozen_of_row W _ 0 _ _ HS2.out
         have ccf1 := frozen_of_row W _ 1 _ _ HS2.out
         have ccf2 := frozen_of_row W _ 2 _ _ HS2.out
         have ccf3 := frozen_of_row W _ 3 _ _ HS2.out
         have ccf4 := frozen_of_row W _ 4 _ _ HS2.out
         have ccf5 := frozen_of_row W _ 5 _ _ HS2.out
         have ccf6 := frozen_of_row W _ 6 _ _ HS2.out
         have ccf7 := frozen_of_row W _ 7 _ _ HS2.out
         have ccf8 := frozen_of_row W _ 8 _ _ HS2.out
         have ccf9 := frozen_of_row W _ 9 _ _ HS2.out
         simp only [List.getElem?_toArray, List.getElem?_cons_zero, List.getElem?_cons_succ] at cc0 cc1 cc2 cc3 cc4 cc5 cc6 cc7 cc8 cc9
         have K1 := Lib.hid (set_all (vs := [.string id, .int .i64 0, .string p1, .string p2, .int .i64 o.x, .int .i64 o.y, .int .i64 q1, .int .i64 q2, .int .i64 q3, .int .i64 q4]) HS2.out rfl)
         have K3 := Lib.hid (hS1.grown (setCells_grown (g := g) [.string id, .int .i64 0, .string p1, .string p2, .int .i64 o.x, .int .i64 o.y, .int .i64 q1, .int .i64 q2, .int .i64 q3, .int .i64 q4] 0 W) hS1.size (fun j hj => by injection hj with hj; omega))
         simp only [World.setCells] at K1 K3
         go_simp
         exact hK () _ ⟨K3.out, K1.out, hS3⟩
        simp only [Act.put]
        refine tailM_nil fun W hW => ?_
        obtain ⟨hW1, hW2, hW3⟩ := hW
        have HG := Lib.hid hW2
        have HBW := Lib.hid hW1
        clear hW1 hW2
        obtain ⟨wz, rfl⟩ : ∃ z : World, z = W := ⟨_, rfl⟩
        have wneg : IntKind.i64.wrap (-cr) = -cr := IntWalk.i64_in _ (by omega)
        go_upto_region 9 with fail
        refine wp_region_mix 9 (fun W => Below wn.heap.size wn W ∧ ∃ z, W.heap[g]? = some (.cells #[.string id, z, .string p1, .string p2, .int .i64 o.x, .int .i64 o.y, .int .i64 q1, .int .i64 q2, .int .i64 q3, .int .i64 q4] 115)) (fun W => Below wn.heap.size wn W ∧ W.heap[g]? = some (.cells #[.string id, .int .i64 0, .string p1, .string p2, .int .i64 o.x, .int .i64 o.y, .int .i64 q1, .int .i64 q2, .int .i64 q3, .int .i64 q4] 115)) mixed (by kernel_rfl) (by kernel_rfl) (by kernel_rfl) ((StableW.below _ _ (Nat.le_refl _)).and (StableW.row _ _)) (fun W hW => ⟨hW.1, _, hW.2⟩) ⟨HBW.out.drew, row_later (Below.refl _ _).drew HG.out⟩ ?_
        apply Exists.intro
        refine ⟨fun W hW => ?_, ?_⟩
        ·obtain ⟨hW1, z, hW2⟩ := hW
         have HR1 := Lib.hid hW2
         clear hW2
         have cz := lt_of_block HR1.out
         have c0 := cell_of_row W _ 0 _ _ _ HR1.out
         have c1 := cell_of_row W _ 1 _ _ _ HR1.out
         have c2 := cell_of_row W _ 2 _ _ _ HR1.out
         have c3 := cell_of_row W _ 3 _ _ _ HR1.out
         have c4 := cell_of_row W _ 4 _ _ _ HR1.out
         have c5 := cell_of_row W _ 5 _ _ _ HR1.out
         have c6 := cell_of_row W _ 6 _ _ _ HR1.out
         have c7 := cell_of_row W _ 7 _ _ _ HR1.out
         have c8 := cell_of_row W _ 8 _ _ _ HR1.out
         have c9 := cell_of_row W _ 9 _ _ _ HR1.out
         simp only [List.getElem?_toArray, List.getElem?_cons_zero, List.getElem?_cons_succ] at c0 c1 c2 c3 c4 c5 c6 c7 c8 c9
         have qc0 := cell_belowBy c0
         have qc1 := cell_belowBy c1
         have qc2 := cell_belowBy c2
         have qc3 := cell_belowBy c3
         have qc4 := cell_belowBy c4
         have qc5 := cell_belowBy c5
         have qc6 := cell_belowBy c6
         have qc7 := cell_belowBy c7
         have qc8 := cell_belowBy c8
         have qc9 := cell_belowBy c9
         clear c0 c1 c2 c3 c4 c5 c6 c7 c8 c9
         simp only [List.take_succ_cons, List.take_zero]
         repeat (go_big_quiet_step ((go_at_call 110; exact calls_belowBy (TW.out _))))
         exact wpQuiet_nil rfl
        ·simp only [List.drop_succ_cons, List.drop_zero]
         refine tailM_step (ι := Unit) (fun _ => undef) (fun _ W => Below wn.heap.size wn W ∧ W.heap[g]? = some (.cells #[.string id, .int .i64 (max cr (-cr)), .string p1, .string p2, .int .i64 o.x, .int .i64 o.y, .int .i64 q1, .int .i64 q2, .int .i64 q3, .int .i64 q4] 115)) rfl (fun _ => (StableW.below _ _ (Nat.le_refl _)).and (StableW.row _ _)) (fun _ W hW => ⟨hW.1, _, hW.2⟩) (fun W hS K hK => ?_) (fun _ => ?_)
         ·obtain ⟨hS1, hS2⟩ := hS
          have HS2 := Lib.hid hS2
          clear hS2
          obtain ⟨ccz, cc0, cc1⟩ := rk2 HS2.out
          have ccf0 := frozen_of_row W _ 0 _ _ HS2.out
          have ccf1 := frozen_of_row W _ 1 _ _ HS2.out
          have K1 := Lib.hid (row_set (i := 1) (v := .int .i64 (max cr (-cr))) HS2.out)
          have K3 := Lib.hid (hS1.setCell (p := ⟨g, 1, none⟩) hW3 (.int .i64 (max cr (-cr))))
          go_simp
          exact hK () _ ⟨K3.out, K1.out⟩
         simp only [Act.put]
         refine tailM_nil fun W hW => ?_
         obtain ⟨hW1, hW2⟩ := hW
         have HG := Lib.hid hW2
         obtain ⟨wy, rfl⟩ : ∃ z : World, z = W := ⟨_, rfl⟩
         have BWR := Lib.hid (below_step BWR.out (Nat.le_refl _) (hW1.mono (Nat.le_refl _)))
         have BW := Lib.hid (hbr.trans (BWR.out.mono hzr))
         clear hW1 hW2 HBW
         have cz := lt_of_block HG.out
         have c0 := cell_of_row wy _ 0 _ _ _ HG.out
         have c1 := cell_of_row wy _ 1 _ _ _ HG.out
         have c2 := cell_of_row wy _ 2 _ _ _ HG.out
         have c3 := cell_of_row wy _ 3 _ _ _ HG.out
         have c4 := cell_of_row wy _ 4 _ _ _ HG.out
         have c5 := cell_of_row wy _ 5 _ _ _ HG.out
         have c6 := cell_of_row wy _ 6 _ _ _ HG.out
         have c7 := cell_of_row wy _ 7 _ _ _ HG.out
         have c8 := cell_of_row wy _ 8 _ _ _ HG.out
         have c9 := cell_of_row wy _ 9 _ _ _ HG.out
         simp only [List.getElem?_toArray, List.getElem?_cons_zero, List.getElem?_cons_succ] at c0 c1 c2 c3 c4 c5 c6 c7 c8 c9
         by_cases hle : max cr (-cr) ≤ tol
         ·have hleb : decide (max cr (-cr) ≤ tol) = true := decide_eq_true hle
          have HSK := Lib.hid (show candF l tol id = some (id, max cr (-cr), (p1, p2)) by rw [HCF.out, HCO.out, HSZ.out, if_pos ⟨HK1.out, HT0.out, hle⟩])
          have HLK2 := Lib.hid (show (L ++ [((id, max cr (-cr), (p1, p2)), (o.x, o.y), (q1, q2), (q3, q4))]).map (·.1) = (ord.take (k + 1)).filterMap (candF l tol) by rw [HSN.out, HSK.out, List.map_append, HLM.out]; rfl)
          have HOK2 := Lib.hid (show ∀ x ∈ L ++ [((id, max cr (-cr), (p1, p2)), (o.x, o.y), (q1, q2), (q3, q4))], CaOK l x from fun x hx => by
           rcases List.mem_append.1 hx with h | h
           ·exact HOKS.out x h
           ·rw [List.mem_singleton.1 h]
            exact ⟨HA.out.symm, HQ.out, HQ'.out⟩)
          have O5 := Lib.hid (own_later HOWN.out BWR.out)
          have hbw := BW.out.size
          clear hle HSK
          go_wp2_with (at_builtin; refine wpList_append_own _ rfl _ _ 163 rfl w.heap.size 115 i0 (.agg #[.string ⟨#[]⟩, .int .i64 0, .string ⟨#[]⟩, .string ⟨#[]⟩, .int .i64 0, .int .i64 0, .int .i64 0, .int .i64 0, .int .i64 0, .int .i64 0]) 10 104 Tryz.underlying163 hi hi0 hi1 hi2 rfl (by decide) _ _ _ rfl (O5.out.alloc _) ⟨wy.heap.size, 0, none⟩ 1 1 (encCa ((id, max cr (-cr), (p1, p2)), (o.x, o.y), (q1, q2), (q3, q4))) rfl rfl (cells_new wy _ _) (encCa_one _) (by unfold maxLen; omega) (by omega) (by simp; omega) ?_; intro v' w9 hown9 hgrow9 _; have HO9 := Lib.hid hown9; have HG9 := Lib.hid hgrow9; clear hown9 hgrow9)
          go_roundw
          case rel =>
           refine ⟨k + 1, L ++ [((id, max cr (-cr), (p1, p2)), (o.x, o.y), (q1, q2), (q3, q4))], by go_num, by omega, ?_, HLK2.out, HOK2.out, ?_⟩
           ·have := HO9.out
            rw [List.flatMap_append, List.length_append]
            simpa using this
           ·exact (BW.out.alloc hbw _).grown HG9.out (by simp; omega) (fun j hj => (own_block O5.out j hj).1)
          case measure => simp [intOf]; omega
         ·have hleb : decide (max cr (-cr) ≤ tol) = false := decide_eq_false hle
          have HSK := Lib.hid (show candF l tol id = none by rw [HCF.out, HCO.out, HSZ.out, if_neg (fun c => hle c.2.2)])
          clear hle
          have HLK2 := Lib.hid (show L.map (·.1) = (ord.take (k + 1)).filterMap (candF l tol) by rw [HSN.out, HSK.out, HLM.out]; simp)
          have HOW := Lib.hid (own_later HOWN.out BWR.out)
          go_wp2
          go_roundw
          case rel => exact ⟨k + 1, L, by go_num, by omega, HOW.out, HLK2.out, HOKS.out, BW.out⟩
          case measure => simp [intOf]; omega
      ·have HSK := Lib.hid (show candF l tol id = none by rw [HCF.out, HCO.out, if_neg (fun c => ht0 c.2.1)])
       have htb : decide ((0 : Int) < (o.tags.length : Int)) = true := decide_eq_true (by omega)
       have htb2 : decide (0 < o.tags.length) = true := decide_eq_true (by omega)
       clear ht0
       have HLK2 := Lib.hid (show L.map (·.1) = (ord.take (k + 1)).filterMap (candF l tol) by rw [HSN.out, HSK.out, HLM.out]; simp)
       have HOW := Lib.hid (own_later HOWN.out BWR.out)
       go_wp2
       go_roundw
       case rel => exact ⟨k + 1, L, by go_num, by omega, HOW.out, HLK2.out, HOKS.out, BW.out⟩
       case measure => simp [intOf]; omega
     ·have HSK := Lib.hid (show candF l tol id = none by rw [HCF.out, HCO.out, if_neg (fun c => hk1 c.1)])
      have hkb : (o.kind != 1) = true := by rw [bne_iff_ne]; exact hk1
      clear hk1
      have HLK2 := Lib.hid (show L.map (·.1) = (ord.take (k + 1)).filterMap (candF l tol) by rw [HSN.out, HSK.out, HLM.out]; simp)
      have HOW := Lib.hid (own_later HOWN.out BWR.out)
      go_wp2
      go_roundw
      case rel => exact ⟨k + 1, L, by go_num, by omega, HOW.out, HLK2.out, HOKS.out, BW.out⟩
      case measure => simp [intOf]; omega
  ·obtain rfl : k = N := by omega
   have HTK := Lib.hid (show L.map (·.1) = candP l tol by
    rw [HLM.out, List.take_of_length_le (by rw [HN.out]; exact Nat.le_refl _)]
    exact HCP.out)
   have SO := Lib.hid (sortCa_any rfl (by omega) HOWN.out)
   obtain ⟨va, vn, vc, hv5⟩ : ∃ a n c, u5 = .slice a n c := ⟨_, _, _, own_parts HOWN.out⟩
   subst hv5
   go_wp2_with fail
   refine SO.out.mono ?_
   rintro e w6 ⟨rfl, S, hS, hso, hown6, hg6⟩
   have B6 := Lib.hid (hbr.grown hg6 hzr (fun j hj => (own_block HOWN.out j hj).1))
   have HRE := Lib.hid (RowE.of_own encCa_len (by rw [hS.length_eq]) hown6)
   have HPM := Lib.hid (show (S.map (·.1)).Perm (candP l tol) by rw [← HTK.out]; exact hS.map _)
   have HSO := Lib.hid (show (S.map (·.1)).Pairwise (fun c d => ltC d c = false) by
    rw [List.pairwise_map]
    exact hso.imp fun {a b} h => by rw [← cfCa_lt]; exact h)
   have HOS := Lib.hid (show ∀ x ∈ S, CaOK l x from fun x hx => HOKS.out x (hS.mem_iff.1 hx))
   have HLS := Lib.hid (show S.length ≤ 1000000 by rw [hS.length_eq]; omega)
   have VA := Lib.hid (fun W => valC_any va vn vc W)
   clear hS hso hown6 hg6
   go_wp2_with fail
   refine (VA.out _).mono ?_
   rintro e w7 ⟨rfl, rfl⟩
   have BV : Below w6.heap.size w6 (w6.alloc (.cells #[.slice va vn vc] 163)) := (Below.refl _ _).alloc (Nat.le_refl _) _
   go_wp2
   go_ret
   exact ⟨w6.heap.size, S, .slice va vn vc, rfl, row_new _ _, HRE.out.later BV, HPM.out, HSO.out, HOS.out, HLS.out, B6.out.trans (BV.mono B6.out.size)⟩
end Go.Proofs.YtibpaaajghbkoaaGreat
