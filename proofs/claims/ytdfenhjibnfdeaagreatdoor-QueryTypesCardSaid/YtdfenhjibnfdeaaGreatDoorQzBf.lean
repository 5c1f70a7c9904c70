/-   -/
import Derived.Test.YtdfenhjibnfdeaaGreatDoorQzAt
namespace Go.Proofs.YtdfenhjibnfdeaaGreatDoor
open Go.RowKit Go.Shelf
theorem series_bad {one:List TokD→PR CondD} {word:ByteArray} {op:Int} {ts:List TokD} {er:Int} {off:Nat} (h:one ts=.bad er off):seriesP one word op ts=.bad er off:=by rw [seriesP,h];rfl
theorem series_ok {one:List TokD→PR CondD} {word:ByteArray} {op:Int} {ts r r2:List TokD} {c:CondD} {l:List CondD} (h:one ts=.ok c r) (h2:moreP one word r.length [c] r=.ok l r2):seriesP one word op ts=.ok (mkP op l) r2:=by
 rw [seriesP,h]
 show (moreP one word r.length [c] r).bind _=_
 rw [h2];rfl
theorem series_worse {one:List TokD→PR CondD} {word:ByteArray} {op:Int} {ts r:List TokD} {c:CondD} {er:Int} {off:Nat} (h:one ts=.ok c r) (h2:moreP one word r.length [c] r=.bad er off):seriesP one word op ts=.bad er off:=by
 rw [seriesP,h]
 show (moreP one word r.length [c] r).bind _=_
 rw [h2];rfl
theorem moreP_bad {one:List TokD→PR CondD} {word:ByteArray} {k:Nat} {acc:List CondD} {t:TokD} {ts:List TokD} {er:Int} {off:Nat} (hk:(t :: ts).length≤k) (hw:isP word (t :: ts)=true) (h:one ts=.bad er off):moreP one word k acc (t :: ts)=.bad er off:=by
 obtain ⟨k',rfl⟩:∃k',k=k'+1:=⟨k - 1,by rw [List.length_cons] at hk;omega⟩
 rw [moreP,hw,if_pos rfl]
 show (one ts).bind _=_
 rw [h];rfl
theorem mkP_more (op:Int) (l:List CondD) (h:l.length≠1):mkP op l=.mk op emptyB emptyB 0 l:=by
 match l,h with
 |[],_=>rfl
 |[_],h=>exact absurd rfl h
 |_ :: _ :: _,_=>rfl
abbrev set5 (w:World) (b:Nat) (v0 v1 v2 v3 v4:Value):World:=((((w.setCell ⟨b,0,none⟩ v0).setCell ⟨b,1,none⟩ v1).setCell ⟨b,2,none⟩ v2).setCell ⟨b,3,none⟩ v3).setCell ⟨b,4,none⟩ v4
theorem set5_row {w:World} {b:Nat} {u0 u1 u2 u3 u4:Value} {T:TypeId} (h:w.heap[b]?=some (.cells #[u0,u1,u2,u3,u4] T (0,0))) (v0 v1 v2 v3 v4:Value):(set5 w b v0 v1 v2 v3 v4).heap[b]?=some (.cells #[v0,v1,v2,v3,v4] T (0,0)) :=
 row_set (i:=4) (row_set (i:=3) (row_set (i:=2) (row_set (i:=1) (row_set (i:=0) h))))
theorem set5_heap {w:World} {b i:Nat} (v0 v1 v2 v3 v4:Value) (h:i≠b):(set5 w b v0 v1 v2 v3 v4).heap[i]?=w.heap[i]?:=by
 rw [Below.heap_setCell _ _ _ _ h,Below.heap_setCell _ _ _ _ h,Below.heap_setCell _ _ _ _ h,Below.heap_setCell _ _ _ _ h,Below.heap_setCell _ _ _ _ h]
theorem set5_low {B:Nat} {w W:World} {b:Nat} (h:Below B w W) (hb:B≤b) (v0 v1 v2 v3 v4:Value):Below B w (set5 W b v0 v1 v2 v3 v4) :=
 ((((h.setCell hb _).setCell hb _).setCell hb _).setCell hb _).setCell hb _
theorem set5_size {w:World} {b:Nat} (v0 v1 v2 v3 v4:Value):(set5 w b v0 v1 v2 v3 v4).heap.size=w.heap.size:=by simp [set5]
theorem res5 {B pb fin:Nat} {w W wF:World} {v0 v1 v2 v3 v4:Value} {ts:List TokD} {c:CondD} {a:Option Addr} {cap:Nat} (hwF:set5 W w.heap.size v0 v1 v2 v3 v4=wF) (hBw:B≤w.heap.size) (hpb:pb<w.heap.size) (hm:PMem B pb w W) (hp:PAt B W pb ts fin) (hv:condV c a cap=.agg #[v0,v1,v2,v3,v4])
  (hc:CondP (fun b=>w.heap.size+1≤b) W c a):PRes B pb fin (condR w.heap.size) (.ok c ts) w (.returned (.agg #[v0,v1,v2,v3,v4])) wF:=by
 subst hwF
 refine ⟨⟨set5_low hm.low hBw _ _ _ _ _,by rw [set5_size];exact hm.keep.1,fun i hi hne=>by rw [set5_heap _ _ _ _ _ (by omega)];exact hm.keep.2 i hi hne⟩,_,rfl,⟨a,cap,hv.symm,?_⟩,hp.keep (set5_low (Below.refl _ _) hBw _ _ _ _ _) (set5_heap _ _ _ _ _ (by omega))⟩
 exact hc.to (fun b h1 _=>by omega) fun b h1 _=>set5_heap _ _ _ _ _ (by omega)
set_option maxRecDepth 100000 in
set_option maxHeartbeats 4000000 in
theorem seriesN_any (one:List TokD→PR CondD) (hone:∀ts c r,one ts=.ok c r→r.length≤ts.length) (B pb fin n:Nat) (hB:B≤pb)
  (H1:∀ts W,ts.length≤n→B≤W.heap.size→PAt B W pb ts fin→Calls Tryz.prog 125 #[.pointer (some ⟨pb,0,none⟩)] W (PRes B pb fin (condR W.heap.size) (one ts) W))
  (word:ByteArray) (op:Int) (ts:List TokD) (w:World) (hBw:B≤w.heap.size) (hlen:ts.length≤n) (h:PAt B w pb ts fin) :
  Calls Tryz.prog 100 #[.pointer (some ⟨pb,0,none⟩),.string word,.func (.func 125) #[.pointer (some ⟨pb,0,none⟩)] #[],.func (.func 102) #[.int .i64 op] #[]] w (PRes B pb fin (condR w.heap.size) (seriesP one word op ts) w):=by
 have hpb:pb<w.heap.size:=by obtain ⟨_,h1,_⟩:=h;exact lt_of_block h1
 have b1:=(Below.refl w.heap.size w).alloc (Nat.le_refl _) (.cells zeroC 24)
 have HR0:=Lib.hid (row_new w (.cells zeroC 24))
 have HC1:=Lib.hid (H1 ts _ hlen (by simp;omega) (h.low b1))
 have HH1:=Lib.hid H1
 have HONE:=Lib.hid hone
 have M1:=Lib.hid (PMem.of_low (pb:=pb) hBw b1)
 clear h H1 hone b1
 obtain ⟨RES,hRES⟩:∃z,seriesP one word op ts=z:=⟨_,rfl⟩
 rw [hRES]
 have HRES:=Lib.hid hRES
 clear hRES
 cases hr:one ts with
 |bad er off =>
  rw [hr] at HC1
  have HB:=Lib.hid (HRES.out.symm.trans (series_bad hr))
  clear hr
  go_enter Tryz.func100,Tryz.ntmps100
  go_wp2_with fail
  refine HC1.out.mono ?_
  rintro e w2 ⟨hm,rfl⟩
  exact ⟨rfl,by rw [HB.out];exact ⟨M1.out.trans hm,rfl⟩⟩
 |ok c r =>
  rw [hr] at HC1
  have HRR:=Lib.hid hr
  have hl:=HONE.out _ _ _ hr
  obtain ⟨i0,hi,hi0,hi1,hi2⟩:=info_parts infoCond
  clear hr
  go_enter Tryz.func100,Tryz.ntmps100
  go_wp2_with fail
  refine HC1.out.mono ?_
  rintro e w2 ⟨hm,v,rfl,⟨a0,cap0,rfl,hc0⟩,hp⟩
  have hz:=(hm.keep.2 _ (by simp) (by omega)).trans HR0.out
  simp only [World.size_alloc] at hc0
  have HS:=Lib.hid (SerI.start (one:=one) (word:=word) (n:=n) (cap:=cap0) hB hpb hp (by omega) (M1.out.trans hm) hz hc0)
  clear hm hp hc0 hz HC1 M1 HR0
  rw [cond_cells]
  go_wp2
  go_loopw [9] (fun v wr=>∃(L:List CE) (ts':List TokD) (k g cap:Nat),v=.slice (some ⟨g,0,none⟩) L.length cap∧Hid (SerI one word B pb fin n w (moreP one word r.length [c] r) L ts' k g cap wr)) (fun _ wr=>leftP wr pb)
  case atStart=>exact ⟨_,_,_,_,_,rfl,HS⟩
  case round =>
   clear HS
   obtain ⟨L,ts',k,g,cap,rfl,HS⟩:=hrel
   have SK:=Lib.hid (skip_any B pb hB ts' fin word _ HS.out.at')
   cases hw:isP word ts'
   ·rw [hw] at SK
    have hrun:=HS.out.run
    rw [moreP_end _ _ _ _ _ hw] at hrun
    have HOK:=Lib.hid (HRES.out.symm.trans (series_ok HRR.out hrun.symm))
    have hpos:=HS.out.pos
    have hmany:=HS.out.many
    clear hw hrun
    by_cases hL:L.length=1
    ·obtain ⟨x,rfl⟩:=List.length_eq_one_iff.1 hL
     have l1:((([x]:List CE).length:Int)==1)=true:=rfl
     clear hL
     go_wp2_with fail
     refine SK.out.mono ?_
     rintro e w4 ⟨rfl,hp4,hm4⟩
     have hgw:w.heap.size+1≤g∧g<wr.heap.size:=by
      obtain ⟨g2,cap3,e,e1,e2⟩:=own_slice HS.out.own HS.out.pos
      injection e with e _ _
      injection e with e
      injection e with e
      omega
     have o4:=own_move HS.out.own (hm4.keep.2 g hgw.2 (by omega))
     have hc:=World.ownsRow.cells o4 (g:=g) rfl
     have q0:=hc 0 _ rfl
     have q1:=hc 1 _ rfl
     have q2:=hc 2 _ rfl
     have q3:=hc 3 _ rfl
     have q4:=hc 4 _ rfl
     rw [Addr.add_lit] at q0 q1 q2 q3 q4
     simp only [Nat.zero_add] at q0 q1 q2 q3 q4
     have hz4:=(hm4.keep.2 _ (lt_of_block HS.out.res) (by omega)).trans HS.out.res
     unfold zeroC at hz4
     have HZ4:=Lib.hid hz4
     have HC:=Lib.hid ((HS.out.conds x (List.mem_singleton.2 rfl)).to (Q:=fun b=>w.heap.size+1≤b) (fun b h1 _=>h1.1) fun b h1 h2=>hm4.keep.2 b h2 (by omega))
     have HM:=Lib.hid (HS.out.mem.trans hm4)
     have HP4:=Lib.hid hp4
     clear hz4 o4 hc hm4 hp4
     obtain ⟨zz,z0,z1,z2,z3,z4⟩:=rk5 HZ4.out
     have zf0:=frozen_of_row w4 _ 0 _ _ HZ4.out
     have zf1:=frozen_of_row w4 _ 1 _ _ HZ4.out
     have zf2:=frozen_of_row w4 _ 2 _ _ HZ4.out
     have zf3:=frozen_of_row w4 _ 3 _ _ HZ4.out
     have zf4:=frozen_of_row w4 _ 4 _ _ HZ4.out
     go_wp2
     generalize hwF:((((w4.setCell ⟨w.heap.size,0,none⟩ (.int .i64 x.1.op)).setCell ⟨w.heap.size,1,none⟩ (.string x.1.key)).setCell ⟨w.heap.size,2,none⟩ (.string x.1.val)).setCell ⟨w.heap.size,3,none⟩ (.int .i64 x.1.n)).setCell ⟨w.heap.size,4,none⟩ (.slice x.2.1 x.1.kids.length x.2.2)=wF
     have HF:=Lib.hid (show wF.heap[w.heap.size]?=some (.cells #[.int .i64 x.1.op,.string x.1.key,.string x.1.val,.int .i64 x.1.n,.slice x.2.1 x.1.kids.length x.2.2] 24 (0,0)) by rw [←hwF];exact set5_row HZ4.out _ _ _ _ _)
     obtain ⟨sz,s0,s1,s2,s3,s4⟩:=rk5 HF.out
     refine bodyPost_ret (v:=.agg #[.int .i64 x.1.op,.string x.1.key,.string x.1.val,.int .i64 x.1.n,.slice x.2.1 x.1.kids.length x.2.2]) (by simp [results,Tryz.results100,go_sem,s0,s1,s2,s3,s4]) rfl ?_
     rw [HOK.out]
     exact res5 hwF hBw hpb HM.out HP4.out rfl HC.out
    ·have l1:((L.length:Int)==1)=false:=by rw [beq_eq_false_iff_ne];omega
     go_wp2_with fail
     refine SK.out.mono ?_
     rintro e w4 ⟨rfl,hp4,hm4⟩
     have OF:=Lib.hid (of_any op (some ⟨g,0,none⟩) L.length cap w4)
     go_wp2_with fail
     refine OF.out.mono ?_
     rintro e w5 ⟨rfl,hb5⟩
     have hgw:w.heap.size+1≤g∧g<wr.heap.size:=by
      obtain ⟨g2,cap3,e,e1,e2⟩:=own_slice HS.out.own HS.out.pos
      injection e with e _ _
      injection e with e
      injection e with e
      omega
     have hs4:=hm4.keep.1
     have hz4:=row_later hb5 ((hm4.keep.2 _ (lt_of_block HS.out.res) (by omega)).trans HS.out.res)
     unfold zeroC at hz4
     have HZ4:=Lib.hid hz4
     have o4:=own_move (own_move HS.out.own (hm4.keep.2 g hgw.2 (by omega))) (hb5.block g (by omega))
     have HC:=Lib.hid (show CondP (fun b=>w.heap.size+1≤b) w5 (.mk op emptyB emptyB 0 (L.map (·.1))) (some ⟨g,0,none⟩) by
      rw [CondP]
      refine ⟨by decide,by decide,by rw [List.length_map];omega,fun _=>⟨g,0,rfl,hgw.1,row_kids o4 fun x hx=>?_⟩⟩
      exact (HS.out.conds x hx).to (Q:=fun b=>w.heap.size+1≤b) (fun b h1 _=>h1.1) fun b h1 h2=>(hb5.block b (by omega)).trans (hm4.keep.2 b h2 (by omega)))
     have HM:=Lib.hid ((HS.out.mem.trans hm4).trans (PMem.of_low (pb:=pb) (by have:=HS.out.mem.keep.1;omega) hb5))
     have HP4:=Lib.hid (hp4.low hb5)
     have HMK:=Lib.hid (mkP_more op (L.map (·.1)) (by rw [List.length_map];exact hL))
     clear hz4 o4 hm4 hp4 hb5
     obtain ⟨zz,z0,z1,z2,z3,z4⟩:=rk5 HZ4.out
     have zf0:=frozen_of_row w5 _ 0 _ _ HZ4.out
     have zf1:=frozen_of_row w5 _ 1 _ _ HZ4.out
     have zf2:=frozen_of_row w5 _ 2 _ _ HZ4.out
     have zf3:=frozen_of_row w5 _ 3 _ _ HZ4.out
     have zf4:=frozen_of_row w5 _ 4 _ _ HZ4.out
     go_wp2
     generalize hwF:((((w5.setCell ⟨w.heap.size,0,none⟩ (.int .i64 op)).setCell ⟨w.heap.size,1,none⟩ (.string ⟨#[]⟩)).setCell ⟨w.heap.size,2,none⟩ (.string ⟨#[]⟩)).setCell ⟨w.heap.size,3,none⟩ (.int .i64 0)).setCell ⟨w.heap.size,4,none⟩ (.slice (some ⟨g,0,none⟩) L.length cap)=wF
     have HF:=Lib.hid (show wF.heap[w.heap.size]?=some (.cells #[.int .i64 op,.string ⟨#[]⟩,.string ⟨#[]⟩,.int .i64 0,.slice (some ⟨g,0,none⟩) L.length cap] 24 (0,0)) by rw [←hwF];exact set5_row HZ4.out _ _ _ _ _)
     obtain ⟨sz,s0,s1,s2,s3,s4⟩:=rk5 HF.out
     refine bodyPost_ret (v:=.agg #[.int .i64 op,.string ⟨#[]⟩,.string ⟨#[]⟩,.int .i64 0,.slice (some ⟨g,0,none⟩) L.length cap]) (by simp [results,Tryz.results100,go_sem,s0,s1,s2,s3,s4]) rfl ?_
     rw [HOK.out,HMK.out]
     exact res5 hwF hBw hpb HM.out HP4.out (by show Value.agg #[.int .i64 op,.string ⟨#[]⟩,.string ⟨#[]⟩,.int .i64 0,.slice (some ⟨g,0,none⟩) (L.map (·.1)).length cap]=_;rw [List.length_map]) HC.out
   ·obtain ⟨t,r',rfl⟩:=isP_cons hw
    rw [hw] at SK
    have HWD:=Lib.hid hw
    clear hw
    go_wp2_with fail
    refine SK.out.mono ?_
    rintro e w4 ⟨rfl,hp4,hm4⟩
    have hfew:=HS.out.few
    have hfuel:=HS.out.fuel
    have hmany:=HS.out.many
    have hs4:=hm4.keep.1
    have hsr:=HS.out.mem.keep.1
    rw [List.length_cons] at hfew hmany
    have HC2:=Lib.hid (HH1.out r' w4 (by omega) (by omega) hp4)
    have HP4:=Lib.hid hp4
    have HM4:=Lib.hid hm4
    clear hp4 hm4
    cases hr2:one r' with
    |bad er off =>
     rw [hr2] at HC2
     have hrun:=HS.out.run
     rw [moreP_bad hfuel HWD.out hr2] at hrun
     have HB:=Lib.hid (HRES.out.symm.trans (series_worse HRR.out hrun.symm))
     have HM:=Lib.hid ((HS.out.mem.trans HM4.out))
     clear hrun hr2
     go_wp2_with fail
     refine HC2.out.mono ?_
     rintro e w5 ⟨hm,rfl⟩
     exact ⟨rfl,by rw [HB.out];exact ⟨HM.out.trans hm,rfl⟩⟩
    |ok c2 r2 =>
     rw [hr2] at HC2
     have HR2:=Lib.hid hr2
     have hl2:=HONE.out _ _ _ hr2
     clear hr2
     go_wp2_with fail
     refine HC2.out.mono ?_
     rintro e w5 ⟨hm5,v,rfl,⟨a2,cap2,rfl,hc5⟩,hp5⟩
     have HM5:=Lib.hid hm5
     have HC5:=Lib.hid hc5
     have HP5:=Lib.hid hp5
     have hs5:=hm5.keep.1
     have hgw:w.heap.size+1≤g∧g<wr.heap.size:=by
      obtain ⟨g2,cap3,e,e1,e2⟩:=own_slice HS.out.own HS.out.pos
      injection e with e _ _
      injection e with e
      injection e with e
      omega
     have O5:=Lib.hid (own_move (own_move HS.out.own (HM4.out.keep.2 g hgw.2 (by omega))) (hm5.keep.2 g (by omega) (by omega)))
     clear hm5 hc5 hp5
     rw [cond_cells c2 a2 cap2]
     go_wp2_with (at_builtin;refine wpList_append_own_at _ rfl _ _ 22 rfl (w.heap.size+1) 24 i0 (.agg #[.int .i64 0,.string ⟨#[]⟩,.string ⟨#[]⟩,.int .i64 0,.slice none 0 0]) 5 72 Tryz.underlying22 hi hi0 hi1 hi2 rfl (by decide) _ _ _ rfl (O5.out.alloc _) ⟨w5.heap.size,0,none⟩ 1 1 (encC (c2,a2,cap2)) rfl rfl (cells_newQ w5 _ _) (encC_one _) (by unfold maxLen;omega) (by omega) (by simp;omega) ?_;intro v' w9 hown9 hgrow9 _ hblk9;obtain ⟨k',g',cap',hv',hS'⟩:=SerI.next hB hpb HS.out HWD.out HR2.out hl2 HM4.out HM5.out HP5.out HC5.out hown9 hgrow9 hblk9;subst hv';have HS9:=Lib.hid hS';clear hown9 hgrow9 hblk9 hS')
     go_roundw
     case rel=>exact ⟨_,_,_,_,_,by simp,HS9⟩
     case measure=>rw [HS9.out.at'.left,HS.out.at'.left];simp;omega
set_option maxRecDepth 100000 in
set_option maxHeartbeats 4000000 in
theorem seriesA_any (one:List TokD→PR CondD) (hone:∀ts c r,one ts=.ok c r→r.length≤ts.length) (B pb fin n:Nat) (hB:B≤pb)
  (H1:∀ts W,ts.length≤n→B≤W.heap.size→PAt B W pb ts fin→Calls Tryz.prog 101 #[.pointer (some ⟨pb,0,none⟩)] W (PRes B pb fin (condR W.heap.size) (one ts) W))
  (word:ByteArray) (op:Int) (ts:List TokD) (w:World) (hBw:B≤w.heap.size) (hlen:ts.length≤n) (h:PAt B w pb ts fin) :
  Calls Tryz.prog 100 #[.pointer (some ⟨pb,0,none⟩),.string word,.func (.func 101) #[.pointer (some ⟨pb,0,none⟩)] #[],.func (.func 102) #[.int .i64 op] #[]] w (PRes B pb fin (condR w.heap.size) (seriesP one word op ts) w):=by
 have hpb:pb<w.heap.size:=by obtain ⟨_,h1,_⟩:=h;exact lt_of_block h1
 have b1:=(Below.refl w.heap.size w).alloc (Nat.le_refl _) (.cells zeroC 24)
 have HR0:=Lib.hid (row_new w (.cells zeroC 24))
 have HC1:=Lib.hid (H1 ts _ hlen (by simp;omega) (h.low b1))
 have HH1:=Lib.hid H1
 have HONE:=Lib.hid hone
 have M1:=Lib.hid (PMem.of_low (pb:=pb) hBw b1)
 clear h H1 hone b1
 obtain ⟨RES,hRES⟩:∃z,seriesP one word op ts=z:=⟨_,rfl⟩
 rw [hRES]
 have HRES:=Lib.hid hRES
 clear hRES
 cases hr:one ts with
 |bad er off =>
  rw [hr] at HC1
  have HB:=Lib.hid (HRES.out.symm.trans (series_bad hr))
  clear hr
  go_enter Tryz.func100,Tryz.ntmps100
  go_wp2_with fail
  refine HC1.out.mono ?_
  rintro e w2 ⟨hm,rfl⟩
  exact ⟨rfl,by rw [HB.out];exact ⟨M1.out.trans hm,rfl⟩⟩
 |ok c r =>
  rw [hr] at HC1
  have HRR:=Lib.hid hr
  have hl:=HONE.out _ _ _ hr
  obtain ⟨i0,hi,hi0,hi1,hi2⟩:=info_parts infoCond
  clear hr
  go_enter Tryz.func100,Tryz.ntmps100
  go_wp2_with fail
  refine HC1.out.mono ?_
  rintro e w2 ⟨hm,v,rfl,⟨a0,cap0,rfl,hc0⟩,hp⟩
  have hz:=(hm.keep.2 _ (by simp) (by omega)).trans HR0.out
  simp only [World.size_alloc] at hc0
  have HS:=Lib.hid (SerI.start (one:=one) (word:=word) (n:=n) (cap:=cap0) hB hpb hp (by omega) (M1.out.trans hm) hz hc0)
  clear hm hp hc0 hz HC1 M1 HR0
  rw [cond_cells]
  go_wp2
  go_loopw [9] (fun v wr=>∃(L:List CE) (ts':List TokD) (k g cap:Nat),v=.slice (some ⟨g,0,none⟩) L.length cap∧Hid (SerI one word B pb fin n w (moreP one word r.length [c] r) L ts' k g cap wr)) (fun _ wr=>leftP wr pb)
  case atStart=>exact ⟨_,_,_,_,_,rfl,HS⟩
  case round =>
   clear HS
   obtain ⟨L,ts',k,g,cap,rfl,HS⟩:=hrel
   have SK:=Lib.hid (skip_any B pb hB ts' fin word _ HS.out.at')
   cases hw:isP word ts'
   ·rw [hw] at SK
    have hrun:=HS.out.run
    rw [moreP_end _ _ _ _ _ hw] at hrun
    have HOK:=Lib.hid (HRES.out.symm.trans (series_ok HRR.out hrun.symm))
    have hpos:=HS.out.pos
    have hmany:=HS.out.many
    clear hw hrun
    by_cases hL:L.length=1
    ·obtain ⟨x,rfl⟩:=List.length_eq_one_iff.1 hL
     have l1:((([x]:List CE).length:Int)==1)=true:=rfl
     clear hL
     go_wp2_with fail
     refine SK.out.mono ?_
     rintro e w4 ⟨rfl,hp4,hm4⟩
     have hgw:w.heap.size+1≤g∧g<wr.heap.size:=by
      obtain ⟨g2,cap3,e,e1,e2⟩:=own_slice HS.out.own HS.out.pos
      injection e with e _ _
      injection e with e
      injection e with e
      omega
     have o4:=own_move HS.out.own (hm4.keep.2 g hgw.2 (by omega))
     have hc:=World.ownsRow.cells o4 (g:=g) rfl
     have q0:=hc 0 _ rfl
     have q1:=hc 1 _ rfl
     have q2:=hc 2 _ rfl
     have q3:=hc 3 _ rfl
     have q4:=hc 4 _ rfl
     rw [Addr.add_lit] at q0 q1 q2 q3 q4
     simp only [Nat.zero_add] at q0 q1 q2 q3 q4
     have hz4:=(hm4.keep.2 _ (lt_of_block HS.out.res) (by omega)).trans HS.out.res
     unfold zeroC at hz4
     have HZ4:=Lib.hid hz4
     have HC:=Lib.hid ((HS.out.conds x (List.mem_singleton.2 rfl)).to (Q:=fun b=>w.heap.size+1≤b) (fun b h1 _=>h1.1) fun b h1 h2=>hm4.keep.2 b h2 (by omega))
     have HM:=Lib.hid (HS.out.mem.trans hm4)
     have HP4:=Lib.hid hp4
     clear hz4 o4 hc hm4 hp4
     obtain ⟨zz,z0,z1,z2,z3,z4⟩:=rk5 HZ4.out
     have zf0:=frozen_of_row w4 _ 0 _ _ HZ4.out
     have zf1:=frozen_of_row w4 _ 1 _ _ HZ4.out
     have zf2:=frozen_of_row w4 _ 2 _ _ HZ4.out
     have zf3:=frozen_of_row w4 _ 3 _ _ HZ4.out
     have zf4:=frozen_of_row w4 _ 4 _ _ HZ4.out
     go_wp2
     generalize hwF:((((w4.setCell ⟨w.heap.size,0,none⟩ (.int .i64 x.1.op)).setCell ⟨w.heap.size,1,none⟩ (.string x.1.key)).setCell ⟨w.heap.size,2,none⟩ (.string x.1.val)).setCell ⟨w.heap.size,3,none⟩ (.int .i64 x.1.n)).setCell ⟨w.heap.size,4,none⟩ (.slice x.2.1 x.1.kids.length x.2.2)=wF
     have HF:=Lib.hid (show wF.heap[w.heap.size]?=some (.cells #[.int .i64 x.1.op,.string x.1.key,.string x.1.val,.int .i64 x.1.n,.slice x.2.1 x.1.kids.length x.2.2] 24 (0,0)) by rw [←hwF];exact set5_row HZ4.out _ _ _ _ _)
     obtain ⟨sz,s0,s1,s2,s3,s4⟩:=rk5 HF.out
     refine bodyPost_ret (v:=.agg #[.int .i64 x.1.op,.string x.1.key,.string x.1.val,.int .i64 x.1.n,.slice x.2.1 x.1.kids.length x.2.2]) (by simp [results,Tryz.results100,go_sem,s0,s1,s2,s3,s4]) rfl ?_
     rw [HOK.out]
     exact res5 hwF hBw hpb HM.out HP4.out rfl HC.out
    ·have l1:((L.length:Int)==1)=false:=by rw [beq_eq_false_iff_ne];omega
     go_wp2_with fail
     refine SK.out.mono ?_
     rintro e w4 ⟨rfl,hp4,hm4⟩
     have OF:=Lib.hid (of_any op (some ⟨g,0,none⟩) L.length cap w4)
     go_wp2_with fail
     refine OF.out.mono ?_
     rintro e w5 ⟨rfl,hb5⟩
     have hgw:w.heap.size+1≤g∧g<wr.heap.size:=by
      obtain ⟨g2,cap3,e,e1,e2⟩:=own_slice HS.out.own HS.out.pos
      injection e with e _ _
      injection e with e
      injection e with e
      omega
     have hs4:=hm4.keep.1
     have hz4:=row_later hb5 ((hm4.keep.2 _ (lt_of_block HS.out.res) (by omega)).trans HS.out.res)
     unfold zeroC at hz4
     have HZ4:=Lib.hid hz4
     have o4:=own_move (own_move HS.out.own (hm4.keep.2 g hgw.2 (by omega))) (hb5.block g (by omega))
     have HC:=Lib.hid (show CondP (fun b=>w.heap.size+1≤b) w5 (.mk op emptyB emptyB 0 (L.map (·.1))) (some ⟨g,0,none⟩) by
      rw [CondP]
      refine ⟨by decide,by decide,by rw [List.length_map];omega,fun _=>⟨g,0,rfl,hgw.1,row_kids o4 fun x hx=>?_⟩⟩
      exact (HS.out.conds x hx).to (Q:=fun b=>w.heap.size+1≤b) (fun b h1 _=>h1.1) fun b h1 h2=>(hb5.block b (by omega)).trans (hm4.keep.2 b h2 (by omega)))
     have HM:=Lib.hid ((HS.out.mem.trans hm4).trans (PMem.of_low (pb:=pb) (by have:=HS.out.mem.keep.1;omega) hb5))
     have HP4:=Lib.hid (hp4.low hb5)
     have HMK:=Lib.hid (mkP_more op (L.map (·.1)) (by rw [List.length_map];exact hL))
     clear hz4 o4 hm4 hp4 hb5
     obtain ⟨zz,z0,z1,z2,z3,z4⟩:=rk5 HZ4.out
     have zf0:=frozen_of_row w5 _ 0 _ _ HZ4.out
     have zf1:=frozen_of_row w5 _ 1 _ _ HZ4.out
     have zf2:=frozen_of_row w5 _ 2 _ _ HZ4.out
     have zf3:=frozen_of_row w5 _ 3 _ _ HZ4.out
     have zf4:=frozen_of_row w5 _ 4 _ _ HZ4.out
     go_wp2
     generalize hwF:((((w5.setCell ⟨w.heap.size,0,none⟩ (.int .i64 op)).setCell ⟨w.heap.size,1,none⟩ (.string ⟨#[]⟩)).setCell ⟨w.heap.size,2,none⟩ (.string ⟨#[]⟩)).setCell ⟨w.heap.size,3,none⟩ (.int .i64 0)).setCell ⟨w.heap.size,4,none⟩ (.slice (some ⟨g,0,none⟩) L.length cap)=wF
     have HF:=Lib.hid (show wF.heap[w.heap.size]?=some (.cells #[.int .i64 op,.string ⟨#[]⟩,.string ⟨#[]⟩,.int .i64 0,.slice (some ⟨g,0,none⟩) L.length cap] 24 (0,0)) by rw [←hwF];exact set5_row HZ4.out _ _ _ _ _)
     obtain ⟨sz,s0,s1,s2,s3,s4⟩:=rk5 HF.out
     refine bodyPost_ret (v:=.agg #[.int .i64 op,.string ⟨#[]⟩,.string ⟨#[]⟩,.int .i64 0,.slice (some ⟨g,0,none⟩) L.length cap]) (by simp [results,Tryz.results100,go_sem,s0,s1,s2,s3,s4]) rfl ?_
     rw [HOK.out,HMK.out]
     exact res5 hwF hBw hpb HM.out HP4.out (by show Value.agg #[.int .i64 op,.string ⟨#[]⟩,.string ⟨#[]⟩,.int .i64 0,.slice (some ⟨g,0,none⟩) (L.map (·.1)).length cap]=_;rw [List.length_map]) HC.out
   ·obtain ⟨t,r',rfl⟩:=isP_cons hw
    rw [hw] at SK
    have HWD:=Lib.hid hw
    clear hw
    go_wp2_with fail
    refine SK.out.mono ?_
    rintro e w4 ⟨rfl,hp4,hm4⟩
    have hfew:=HS.out.few
    have hfuel:=HS.out.fuel
    have hmany:=HS.out.many
    have hs4:=hm4.keep.1
    have hsr:=HS.out.mem.keep.1
    rw [List.length_cons] at hfew hmany
    have HC2:=Lib.hid (HH1.out r' w4 (by omega) (by omega) hp4)
    have HP4:=Lib.hid hp4
    have HM4:=Lib.hid hm4
    clear hp4 hm4
    cases hr2:one r' with
    |bad er off =>
     rw [hr2] at HC2
     have hrun:=HS.out.run
     rw [moreP_bad hfuel HWD.out hr2] at hrun
     have HB:=Lib.hid (HRES.out.symm.trans (series_worse HRR.out hrun.symm))
     have HM:=Lib.hid ((HS.out.mem.trans HM4.out))
     clear hrun hr2
     go_wp2_with fail
     refine HC2.out.mono ?_
     rintro e w5 ⟨hm,rfl⟩
     exact ⟨rfl,by rw [HB.out];exact ⟨HM.out.trans hm,rfl⟩⟩
    |ok c2 r2 =>
     rw [hr2] at HC2
     have HR2:=Lib.hid hr2
     have hl2:=HONE.out _ _ _ hr2
     clear hr2
     go_wp2_with fail
     refine HC2.out.mono ?_
     rintro e w5 ⟨hm5,v,rfl,⟨a2,cap2,rfl,hc5⟩,hp5⟩
     have HM5:=Lib.hid hm5
     have HC5:=Lib.hid hc5
     have HP5:=Lib.hid hp5
     have hs5:=hm5.keep.1
     have hgw:w.heap.size+1≤g∧g<wr.heap.size:=by
      obtain ⟨g2,cap3,e,e1,e2⟩:=own_slice HS.out.own HS.out.pos
      injection e with e _ _
      injection e with e
      injection e with e
      omega
     have O5:=Lib.hid (own_move (own_move HS.out.own (HM4.out.keep.2 g hgw.2 (by omega))) (hm5.keep.2 g (by omega) (by omega)))
     clear hm5 hc5 hp5
     rw [cond_cells c2 a2 cap2]
     go_wp2_with (at_builtin;refine wpList_append_own_at _ rfl _ _ 22 rfl (w.heap.size+1) 24 i0 (.agg #[.int .i64 0,.string ⟨#[]⟩,.string ⟨#[]⟩,.int .i64 0,.slice none 0 0]) 5 72 Tryz.underlying22 hi hi0 hi1 hi2 rfl (by decide) _ _ _ rfl (O5.out.alloc _) ⟨w5.heap.size,0,none⟩ 1 1 (encC (c2,a2,cap2)) rfl rfl (cells_newQ w5 _ _) (encC_one _) (by unfold maxLen;omega) (by omega) (by simp;omega) ?_;intro v' w9 hown9 hgrow9 _ hblk9;obtain ⟨k',g',cap',hv',hS'⟩:=SerI.next hB hpb HS.out HWD.out HR2.out hl2 HM4.out HM5.out HP5.out HC5.out hown9 hgrow9 hblk9;subst hv';have HS9:=Lib.hid hS';clear hown9 hgrow9 hblk9 hS')
     go_roundw
     case rel=>exact ⟨_,_,_,_,_,by simp,HS9⟩
     case measure=>rw [HS9.out.at'.left,HS.out.at'.left];simp;omega
end Go.Proofs.YtdfenhjibnfdeaaGreatDoor

namespace Go.Proofs.YtdfenhjibnfdeaaGreatDoor
open Go.RowKit Go.Shelf
theorem isP_tail {s:ByteArray} {ts:List TokD} (h:isP s ts=true):ts.tail.length<ts.length:=by
 obtain ⟨t,r,rfl⟩:=isP_cons h
 simp
theorem nextP_ok {fin:Nat} {kind:Int} {check:ByteArray→Bool} {ts r:List TokD} {s:ByteArray} (h:nextP fin kind check ts=.ok s r):check s=true∧r.length<ts.length:=by
 cases ts with
 |nil=>cases h
 |cons t ts =>
  rw [nextP] at h
  split at h
  ·split at h
   ·rename_i hc
    injection h with h1 h2
    subst h1 h2
    exact ⟨hc,by simp⟩
   ·cases h
  ·cases h
theorem bind_ok {α β:Type} {x:PR α} {f:α→List TokD→PR β} {b:β} {r:List TokD} (h:x.bind f=.ok b r):∃a r',x=.ok a r'∧f a r'=.ok b r:=by
 cases x with
 |ok a r'=>exact ⟨a,r',rfl,h⟩
 |bad e o=>cases h
theorem numP_ok {fin:Nat} {lo hi v:Int} {ts r:List TokD} (h:numP fin lo hi ts=.ok v r):r.length<ts.length:=by
 obtain ⟨s,r',h1,h2⟩:=bind_ok h
 injection h2 with h3 h4
 subst h4
 exact (nextP_ok h1).2
theorem wantP_ok {fin:Nat} {s:ByteArray} {ts r:List TokD} {u:Unit} (h:wantP fin s ts=.ok u r):r.length<ts.length:=by
 rw [wantP] at h
 split at h
 ·rename_i hi
  injection h with h1 h2
  subst h2
  exact isP_tail hi
 ·cases ts<;>cases h
theorem moreP_len {one:List TokD→PR CondD} {word:ByteArray} (hone:∀ts c r,one ts=.ok c r→r.length≤ts.length):∀(k:Nat) (acc l:List CondD) (ts r:List TokD),moreP one word k acc ts=.ok l r→r.length≤ts.length
 |0,acc,l,ts,r,h=>by
  rw [moreP] at h
  injection h with h1 h2
  subst h2
  exact Nat.le_refl _
 |k+1,acc,l,ts,r,h=>by
  rw [moreP] at h
  split at h
  ·rename_i hw
   obtain ⟨c,r',h1,h2⟩:=bind_ok h
   have:=moreP_len hone k _ _ _ _ h2
   have:=hone _ _ _ h1
   have:=isP_tail hw
   omega
  ·injection h with h1 h2
   subst h2
   exact Nat.le_refl _
theorem seriesP_len {one:List TokD→PR CondD} {word:ByteArray} {op:Int} (hone:∀ts c r,one ts=.ok c r→r.length≤ts.length) (ts:List TokD) (c:CondD) (r:List TokD) (h:seriesP one word op ts=.ok c r):r.length≤ts.length:=by
 obtain ⟨c1,r1,h1,h2⟩:=bind_ok h
 obtain ⟨l,r2,h3,h4⟩:=bind_ok h2
 injection h4 with h5 h6
 subst h6
 have:=hone _ _ _ h1
 have:=moreP_len hone _ _ _ _ _ h3
 omega
theorem notP_len (fin:Nat):∀(f:Nat) (ts:List TokD) (c:CondD) (r:List TokD),notP fin f ts=.ok c r→r.length≤ts.length
 |0,ts,c,r,h=>by rw [notP] at h;cases ts<;>cases h
 |f+1,ts,c,r,h=>by
  rw [notP] at h
  split at h
  ·rename_i hw
   obtain ⟨c1,r1,h1,h2⟩:=bind_ok h
   injection h2 with h3 h4
   subst h4
   have:=notP_len fin f _ _ _ h1
   have:=isP_tail hw
   omega
  ·split at h
   ·rename_i hw
    obtain ⟨c1,r1,h1,h2⟩:=bind_ok h
    obtain ⟨u,r2,h3,h4⟩:=bind_ok h2
    injection h4 with h5 h6
    subst h6
    have:=seriesP_len (seriesP_len (notP_len fin f)) _ _ _ h1
    have:=wantP_ok h3
    have:=isP_tail hw
    omega
   ·split at h
    ·rename_i hw
     injection h with h3 h4
     subst h4
     have:=isP_tail hw
     omega
    ·split at h
     ·cases ts<;>cases h
     ·obtain ⟨k,r1,h1,h2⟩:=bind_ok h
      have l1:=(nextP_ok h1).2
      split at h2
      ·rename_i hw
       obtain ⟨v,r2,h3,h4⟩:=bind_ok h2
       injection h4 with h5 h6
       subst h6
       have:=(nextP_ok h3).2
       have:=isP_tail hw
       omega
      ·split at h2
       ·rename_i hw
        obtain ⟨v,r2,h3,h4⟩:=bind_ok h2
        injection h4 with h5 h6
        subst h6
        have:=numP_ok h3
        have:=isP_tail hw
        omega
       ·injection h2 with h5 h6
        subst h6
        omega
def NotK (B pb fin f:Nat):Prop:=∀(ts:List TokD) (W:World),ts.length<f→B≤W.heap.size→PAt B W pb ts fin →
 Calls Tryz.prog 125 #[.pointer (some ⟨pb,0,none⟩)] W (PRes B pb fin (condR W.heap.size) (notP fin f ts) W)
def AndK (B pb fin f:Nat):Prop:=∀(ts:List TokD) (W:World),ts.length<f→B≤W.heap.size→PAt B W pb ts fin →
 Calls Tryz.prog 101 #[.pointer (some ⟨pb,0,none⟩)] W (PRes B pb fin (condR W.heap.size) (andP fin f ts) W)
def CndK (B pb fin f:Nat):Prop:=∀(ts:List TokD) (W:World),ts.length<f→B≤W.heap.size→PAt B W pb ts fin →
 Calls Tryz.prog 66 #[.pointer (some ⟨pb,0,none⟩)] W (PRes B pb fin (condR W.heap.size) (condP fin f ts) W)
set_option maxRecDepth 100000 in
set_option maxHeartbeats 2000000 in
theorem and_any (B pb fin f:Nat) (hB:B≤pb) (hK:NotK B pb fin f):AndK B pb fin f:=by
 intro ts w hlen hBw h
 have hpb:pb<w.heap.size:=by obtain ⟨_,h1,_⟩:=h;exact lt_of_block h1
 have b1:=(Below.refl w.heap.size w).alloc (Nat.le_refl _) (.cells zeroC 24)
 have hz:=row_new w (.cells zeroC 24)
 have HS:=Lib.hid (seriesN_any (notP fin f) (notP_len fin f) B pb fin (f - 1) hB (fun ts W hl hb hp=>hK ts W (by omega) hb hp) wAnd 5 ts _ (by simp;omega) (by omega) (h.low b1))
 have M1:=Lib.hid (PMem.of_low (pb:=pb) hBw b1)
 have HR0:=Lib.hid hz
 obtain ⟨RES,hRES⟩:∃z,seriesP (notP fin f) wAnd 5 ts=z:=⟨_,rfl⟩
 rw [hRES] at HS
 show Calls Tryz.prog 101 #[.pointer (some ⟨pb,0,none⟩)] w (PRes B pb fin (condR w.heap.size) (seriesP (notP fin f) wAnd 5 ts) w)
 rw [hRES]
 clear h b1 hz hRES
 cases RES with
 |bad er off =>
  go_enter Tryz.func101,Tryz.ntmps101
  go_wp2_with fail
  refine HS.out.mono ?_
  rintro e w2 ⟨hm,rfl⟩
  exact ⟨rfl,M1.out.trans hm,rfl⟩
 |ok c r =>
  go_enter Tryz.func101,Tryz.ntmps101
  go_wp2_with fail
  refine HS.out.mono ?_
  rintro e w2 ⟨hm,v,rfl,⟨a0,cap0,rfl,hc0⟩,hp⟩
  have hz4:=(hm.keep.2 _ (by simp) (by omega)).trans HR0.out
  unfold zeroC at hz4
  have HZ4:=Lib.hid hz4
  simp only [World.size_alloc] at hc0
  have HC:=Lib.hid hc0
  have HM:=Lib.hid (M1.out.trans hm)
  have HP:=Lib.hid hp
  clear hm hp hc0 hz4
  rw [cond_cells c a0 cap0]
  obtain ⟨zz,z0,z1,z2,z3,z4⟩:=rk5 HZ4.out
  have zf0:=frozen_of_row w2 _ 0 _ _ HZ4.out
  have zf1:=frozen_of_row w2 _ 1 _ _ HZ4.out
  have zf2:=frozen_of_row w2 _ 2 _ _ HZ4.out
  have zf3:=frozen_of_row w2 _ 3 _ _ HZ4.out
  have zf4:=frozen_of_row w2 _ 4 _ _ HZ4.out
  go_wp2
  generalize hwF:((((w2.setCell ⟨w.heap.size,0,none⟩ (.int .i64 c.op)).setCell ⟨w.heap.size,1,none⟩ (.string c.key)).setCell ⟨w.heap.size,2,none⟩ (.string c.val)).setCell ⟨w.heap.size,3,none⟩ (.int .i64 c.n)).setCell ⟨w.heap.size,4,none⟩ (.slice a0 c.kids.length cap0)=wF
  have HF:=Lib.hid (show wF.heap[w.heap.size]?=some (.cells #[.int .i64 c.op,.string c.key,.string c.val,.int .i64 c.n,.slice a0 c.kids.length cap0] 24 (0,0)) by rw [←hwF];exact set5_row HZ4.out _ _ _ _ _)
  obtain ⟨sz,s0,s1,s2,s3,s4⟩:=rk5 HF.out
  refine bodyPost_ret (v:=.agg #[.int .i64 c.op,.string c.key,.string c.val,.int .i64 c.n,.slice a0 c.kids.length cap0]) (by simp [results,Tryz.results101,go_sem,s0,s1,s2,s3,s4]) rfl ?_
  exact res5 hwF hBw hpb HM.out HP.out rfl HC.out
set_option maxRecDepth 100000 in
set_option maxHeartbeats 2000000 in
theorem cond_any (B pb fin f:Nat) (hB:B≤pb) (hK:AndK B pb fin f):CndK B pb fin f:=by
 intro ts w hlen hBw h
 have hpb:pb<w.heap.size:=by obtain ⟨_,h1,_⟩:=h;exact lt_of_block h1
 have b1:=(Below.refl w.heap.size w).alloc (Nat.le_refl _) (.cells zeroC 24)
 have hz:=row_new w (.cells zeroC 24)
 have HS:=Lib.hid (seriesA_any (andP fin f) (seriesP_len (notP_len fin f)) B pb fin (f - 1) hB (fun ts W hl hb hp=>hK ts W (by omega) hb hp) wOr 6 ts _ (by simp;omega) (by omega) (h.low b1))
 have M1:=Lib.hid (PMem.of_low (pb:=pb) hBw b1)
 have HR0:=Lib.hid hz
 obtain ⟨RES,hRES⟩:∃z,seriesP (andP fin f) wOr 6 ts=z:=⟨_,rfl⟩
 rw [hRES] at HS
 show Calls Tryz.prog 66 #[.pointer (some ⟨pb,0,none⟩)] w (PRes B pb fin (condR w.heap.size) (seriesP (andP fin f) wOr 6 ts) w)
 rw [hRES]
 clear h b1 hz hRES
 cases RES with
 |bad er off =>
  go_enter Tryz.func66,Tryz.ntmps66
  go_wp2_with fail
  refine HS.out.mono ?_
  rintro e w2 ⟨hm,rfl⟩
  exact ⟨rfl,M1.out.trans hm,rfl⟩
 |ok c r =>
  go_enter Tryz.func66,Tryz.ntmps66
  go_wp2_with fail
  refine HS.out.mono ?_
  rintro e w2 ⟨hm,v,rfl,⟨a0,cap0,rfl,hc0⟩,hp⟩
  have hz4:=(hm.keep.2 _ (by simp) (by omega)).trans HR0.out
  unfold zeroC at hz4
  have HZ4:=Lib.hid hz4
  simp only [World.size_alloc] at hc0
  have HC:=Lib.hid hc0
  have HM:=Lib.hid (M1.out.trans hm)
  have HP:=Lib.hid hp
  clear hm hp hc0 hz4
  rw [cond_cells c a0 cap0]
  obtain ⟨zz,z0,z1,z2,z3,z4⟩:=rk5 HZ4.out
  have zf0:=frozen_of_row w2 _ 0 _ _ HZ4.out
  have zf1:=frozen_of_row w2 _ 1 _ _ HZ4.out
  have zf2:=frozen_of_row w2 _ 2 _ _ HZ4.out
  have zf3:=frozen_of_row w2 _ 3 _ _ HZ4.out
  have zf4:=frozen_of_row w2 _ 4 _ _ HZ4.out
  go_wp2
  generalize hwF:((((w2.setCell ⟨w.heap.size,0,none⟩ (.int .i64 c.op)).setCell ⟨w.heap.size,1,none⟩ (.string c.key)).setCell ⟨w.heap.size,2,none⟩ (.string c.val)).setCell ⟨w.heap.size,3,none⟩ (.int .i64 c.n)).setCell ⟨w.heap.size,4,none⟩ (.slice a0 c.kids.length cap0)=wF
  have HF:=Lib.hid (show wF.heap[w.heap.size]?=some (.cells #[.int .i64 c.op,.string c.key,.string c.val,.int .i64 c.n,.slice a0 c.kids.length cap0] 24 (0,0)) by rw [←hwF];exact set5_row HZ4.out _ _ _ _ _)
  obtain ⟨sz,s0,s1,s2,s3,s4⟩:=rk5 HF.out
  refine bodyPost_ret (v:=.agg #[.int .i64 c.op,.string c.key,.string c.val,.int .i64 c.n,.slice a0 c.kids.length cap0]) (by simp [results,Tryz.results66,go_sem,s0,s1,s2,s3,s4]) rfl ?_
  exact res5 hwF hBw hpb HM.out HP.out rfl HC.out
end Go.Proofs.YtdfenhjibnfdeaaGreatDoor
