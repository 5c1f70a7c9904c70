/-    -/
import Derived.Test.YtdfenhjibnfdeaaGreatDoorQyAt
namespace Go.Proofs.YtdfenhjibnfdeaaGreatDoor
open Go.RowKit Go.Shelf
theorem isP_tail {s:ByteArray} {ts:List TokD} (h:isP s ts=true):ts.tail.length<ts.length:=by
 obtain ⟨t,r,rfl⟩:=isP_cons h
 simp
theorem nextP_ok {fin:Nat} {kind:Int} {check:ByteArray→Bool} {ts r:List TokD} {s:ByteArray} (h:nextP fin kind check ts=.ok s r):check s=true∧r.length<ts.length:=by
 cases ts with
 |nil=>cases h
 |cons t ts =>
  rw [nextP] at h
  split at h
  ·split at h
   ·rename_i hc
    injection h with h1 h2
    subst h1 h2
    exact ⟨hc,by simp⟩
   ·cases h
  ·cases h
theorem bind_ok {α β:Type} {x:PR α} {f:α→List TokD→PR β} {b:β} {r:List TokD} (h:x.bind f=.ok b r):∃a r',x=.ok a r'∧f a r'=.ok b r:=by
 cases x with
 |ok a r'=>exact ⟨a,r',rfl,h⟩
 |bad e o=>cases h
theorem numP_ok {fin:Nat} {lo hi v:Int} {ts r:List TokD} (h:numP fin lo hi ts=.ok v r):r.length<ts.length:=by
 obtain ⟨s,r',h1,h2⟩:=bind_ok h
 injection h2 with h3 h4
 subst h4
 exact (nextP_ok h1).2
theorem wantP_ok {fin:Nat} {s:ByteArray} {ts r:List TokD} {u:Unit} (h:wantP fin s ts=.ok u r):r.length<ts.length:=by
 rw [wantP] at h
 split at h
 ·rename_i hi
  injection h with h1 h2
  subst h2
  exact isP_tail hi
 ·cases ts<;>cases h
theorem moreP_len {one:List TokD→PR CondD} {word:ByteArray} (hone:∀ts c r,one ts=.ok c r→r.length≤ts.length):∀(k:Nat) (acc l:List CondD) (ts r:List TokD),moreP one word k acc ts=.ok l r→r.length≤ts.length
 |0,acc,l,ts,r,h=>by
  rw [moreP] at h
  injection h with h1 h2
  subst h2
  exact Nat.le_refl _
 |k+1,acc,l,ts,r,h=>by
  rw [moreP] at h
  split at h
  ·rename_i hw
   obtain ⟨c,r',h1,h2⟩:=bind_ok h
   have:=moreP_len hone k _ _ _ _ h2
   have:=hone _ _ _ h1
   have:=isP_tail hw
   omega
  ·injection h with h1 h2
   subst h2
   exact Nat.le_refl _
theorem seriesP_len {one:List TokD→PR CondD} {word:ByteArray} {op:Int} (hone:∀ts c r,one ts=.ok c r→r.length≤ts.length) (ts:List TokD) (c:CondD) (r:List TokD) (h:seriesP one word op ts=.ok c r):r.length≤ts.length:=by
 obtain ⟨c1,r1,h1,h2⟩:=bind_ok h
 obtain ⟨l,r2,h3,h4⟩:=bind_ok h2
 injection h4 with h5 h6
 subst h6
 have:=hone _ _ _ h1
 have:=moreP_len hone _ _ _ _ _ h3
 omega
theorem notP_len (fin:Nat):∀(f:Nat) (ts:List TokD) (c:CondD) (r:List TokD),notP fin f ts=.ok c r→r.length≤ts.length
 |0,ts,c,r,h=>by rw [notP] at h;cases ts<;>cases h
 |f+1,ts,c,r,h=>by
  rw [notP] at h
  split at h
  ·rename_i hw
   obtain ⟨c1,r1,h1,h2⟩:=bind_ok h
   injection h2 with h3 h4
   subst h4
   have:=notP_len fin f _ _ _ h1
   have:=isP_tail hw
   omega
  ·split at h
   ·rename_i hw
    obtain ⟨c1,r1,h1,h2⟩:=bind_ok h
    obtain ⟨u,r2,h3,h4⟩:=bind_ok h2
    injection h4 with h5 h6
    subst h6
    have:=seriesP_len (seriesP_len (notP_len fin f)) _ _ _ h1
    have:=wantP_ok h3
    have:=isP_tail hw
    omega
   ·split at h
    ·rename_i hw
     injection h with h3 h4
     subst h4
     have:=isP_tail hw
     omega
    ·split at h
     ·cases ts<;>cases h
     ·obtain ⟨k,r1,h1,h2⟩:=bind_ok h
      have l1:=(nextP_ok h1).2
      split at h2
      ·rename_i hw
       obtain ⟨v,r2,h3,h4⟩:=bind_ok h2
       injection h4 with h5 h6
       subst h6
       have:=(nextP_ok h3).2
       have:=isP_tail hw
       omega
      ·split at h2
       ·rename_i hw
        obtain ⟨v,r2,h3,h4⟩:=bind_ok h2
        injection h4 with h5 h6
        subst h6
        have:=numP_ok h3
        have:=isP_tail hw
        omega
       ·injection h2 with h5 h6
        subst h6
        omega
def NotK (B pb fin f:Nat):Prop:=∀(ts:List TokD) (W:World),ts.length<f→B≤W.heap.size→PAt B W pb ts fin →
 Calls Tryz.prog 125 #[.pointer (some ⟨pb,0,none⟩)] W (PRes B pb fin (condR W.heap.size) (notP fin f ts) W)
def AndK (B pb fin f:Nat):Prop:=∀(ts:List TokD) (W:World),ts.length<f→B≤W.heap.size→PAt B W pb ts fin →
 Calls Tryz.prog 101 #[.pointer (some ⟨pb,0,none⟩)] W (PRes B pb fin (condR W.heap.size) (andP fin f ts) W)
def CndK (B pb fin f:Nat):Prop:=∀(ts:List TokD) (W:World),ts.length<f→B≤W.heap.size→PAt B W pb ts fin →
 Calls Tryz.prog 66 #[.pointer (some ⟨pb,0,none⟩)] W (PRes B pb fin (condR W.heap.size) (condP fin f ts) W)
set_option maxRecDepth 100000 in
set_option maxHeartbeats 2000000 in
theorem and_any (B pb fin f:Nat) (hB:B≤pb) (hK:NotK B pb fin f):AndK B pb fin f:=by
 intro ts w hlen hBw h
 have hpb:pb<w.heap.size:=by obtain ⟨_,h1,_⟩:=h;exact lt_of_block h1
 have b1:=(Below.refl w.heap.size w).alloc (Nat.le_refl _) (.cells zeroC 24)
 have hz:=row_new w (.cells zeroC 24)
 have HS:=Lib.hid (seriesN_any (notP fin f) (notP_len fin f) B pb fin (f - 1) hB (fun ts W hl hb hp=>hK ts W (by omega) hb hp) wAnd 5 ts _ (by simp;omega) (by omega) (h.low b1))
 have M1:=Lib.hid (PMem.of_low (pb:=pb) hBw b1)
 have HR0:=Lib.hid hz
 obtain ⟨RES,hRES⟩:∃z,seriesP (notP fin f) wAnd 5 ts=z:=⟨_,rfl⟩
 rw [hRES] at HS
 show Calls Tryz.prog 101 #[.pointer (some ⟨pb,0,none⟩)] w (PRes B pb fin (condR w.heap.size) (seriesP (notP fin f) wAnd 5 ts) w)
 rw [hRES]
 clear h b1 hz hRES
 cases RES with
 |bad er off =>
  go_enter Tryz.func101,Tryz.ntmps101
  go_wp2_with fail
  refine HS.out.mono ?_
  rintro e w2 ⟨hm,rfl⟩
  exact ⟨rfl,M1.out.trans hm,rfl⟩
 |ok c r =>
  go_enter Tryz.func101,Tryz.ntmps101
  go_wp2_with fail
  refine HS.out.mono ?_
  rintro e w2 ⟨hm,v,rfl,⟨a0,cap0,rfl,hc0⟩,hp⟩
  have hz4:=(hm.keep.2 _ (by simp) (by omega)).trans HR0.out
  unfold zeroC at hz4
  have HZ4:=Lib.hid hz4
  simp only [World.size_alloc] at hc0
  have HC:=Lib.hid hc0
  have HM:=Lib.hid (M1.out.trans hm)
  have HP:=Lib.hid hp
  clear hm hp hc0 hz4
  rw [cond_cells c a0 cap0]
  obtain ⟨zz,z0,z1,z2,z3,z4⟩:=rk5 HZ4.out
  have zf0:=frozen_of_row w2 _ 0 _ _ HZ4.out
  have zf1:=frozen_of_row w2 _ 1 _ _ HZ4.out
  have zf2:=frozen_of_row w2 _ 2 _ _ HZ4.out
  have zf3:=frozen_of_row w2 _ 3 _ _ HZ4.out
  have zf4:=frozen_of_row w2 _ 4 _ _ HZ4.out
  go_wp2
  generalize hwF:((((w2.setCell ⟨w.heap.size,0,none⟩ (.int .i64 c.op)).setCell ⟨w.heap.size,1,none⟩ (.string c.key)).setCell ⟨w.heap.size,2,none⟩ (.string c.val)).setCell ⟨w.heap.size,3,none⟩ (.int .i64 c.n)).setCell ⟨w.heap.size,4,none⟩ (.slice a0 c.kids.length cap0)=wF
  have HF:=Lib.hid (show wF.heap[w.heap.size]?=some (.cells #[.int .i64 c.op,.string c.key,.string c.val,.int .i64 c.n,.slice a0 c.kids.length cap0] 24 (0,0)) by rw [←hwF];exact set5_row HZ4.out _ _ _ _ _)
  obtain ⟨sz,s0,s1,s2,s3,s4⟩:=rk5 HF.out
  refine bodyPost_ret (v:=.agg #[.int .i64 c.op,.string c.key,.string c.val,.int .i64 c.n,.slice a0 c.kids.length cap0]) (by simp [results,Tryz.results101,go_sem,s0,s1,s2,s3,s4]) rfl ?_
  exact res5 hwF hBw hpb HM.out HP.out rfl HC.out
set_option maxRecDepth 100000 in
set_option maxHeartbeats 2000000 in
theorem cond_any (B pb fin f:Nat) (hB:B≤pb) (hK:AndK B pb fin f):CndK B pb fin f:=by
 intro ts w hlen hBw h
 have hpb:pb<w.heap.size:=by obtain ⟨_,h1,_⟩:=h;exact lt_of_block h1
 have b1:=(Below.refl w.heap.size w).alloc (Nat.le_refl _) (.cells zeroC 24)
 have hz:=row_new w (.cells zeroC 24)
 have HS:=Lib.hid (seriesA_any (andP fin f) (seriesP_len (notP_len fin f)) B pb fin (f - 1) hB (fun ts W hl hb hp=>hK ts W (by omega) hb hp) wOr 6 ts _ (by simp;omega) (by omega) (h.low b1))
 have M1:=Lib.hid (PMem.of_low (pb:=pb) hBw b1)
 have HR0:=Lib.hid hz
 obtain ⟨RES,hRES⟩:∃z,seriesP (andP fin f) wOr 6 ts=z:=⟨_,rfl⟩
 rw [hRES] at HS
 show Calls Tryz.prog 66 #[.pointer (some ⟨pb,0,none⟩)] w (PRes B pb fin (condR w.heap.size) (seriesP (andP fin f) wOr 6 ts) w)
 rw [hRES]
 clear h b1 hz hRES
 cases RES with
 |bad er off =>
  go_enter Tryz.func66,Tryz.ntmps66
  go_wp2_with fail
  refine HS.out.mono ?_
  rintro e w2 ⟨hm,rfl⟩
  exact ⟨rfl,M1.out.trans hm,rfl⟩
 |ok c r =>
  go_enter Tryz.func66,Tryz.ntmps66
  go_wp2_with fail
  refine HS.out.mono ?_
  rintro e w2 ⟨hm,v,rfl,⟨a0,cap0,rfl,hc0⟩,hp⟩
  have hz4:=(hm.keep.2 _ (by simp) (by omega)).trans HR0.out
  unfold zeroC at hz4
  have HZ4:=Lib.hid hz4
  simp only [World.size_alloc] at hc0
  have HC:=Lib.hid hc0
  have HM:=Lib.hid (M1.out.trans hm)
  have HP:=Lib.hid hp
  clear hm hp hc0 hz4
  rw [cond_cells c a0 cap0]
  obtain ⟨zz,z0,z1,z2,z3,z4⟩:=rk5 HZ4.out
  have zf0:=frozen_of_row w2 _ 0 _ _ HZ4.out
  have zf1:=frozen_of_row w2 _ 1 _ _ HZ4.out
  have zf2:=frozen_of_row w2 _ 2 _ _ HZ4.out
  have zf3:=frozen_of_row w2 _ 3 _ _ HZ4.out
  have zf4:=frozen_of_row w2 _ 4 _ _ HZ4.out
  go_wp2
  generalize hwF:((((w2.setCell ⟨w.heap.size,0,none⟩ (.int .i64 c.op)).setCell ⟨w.heap.size,1,none⟩ (.string c.key)).setCell ⟨w.heap.size,2,none⟩ (.string c.val)).setCell ⟨w.heap.size,3,none⟩ (.int .i64 c.n)).setCell ⟨w.heap.size,4,none⟩ (.slice a0 c.kids.length cap0)=wF
  have HF:=Lib.hid (show wF.heap[w.heap.size]?=some (.cells #[.int .i64 c.op,.string c.key,.string c.val,.int .i64 c.n,.slice a0 c.kids.length cap0] 24 (0,0)) by rw [←hwF];exact set5_row HZ4.out _ _ _ _ _)
  obtain ⟨sz,s0,s1,s2,s3,s4⟩:=rk5 HF.out
  refine bodyPost_ret (v:=.agg #[.int .i64 c.op,.string c.key,.string c.val,.int .i64 c.n,.slice a0 c.kids.length cap0]) (by simp [results,Tryz.results66,go_sem,s0,s1,s2,s3,s4]) rfl ?_
  exact res5 hwF hBw hpb HM.out HP.out rfl HC.out
end Go.Proofs.YtdfenhjibnfdeaaGreatDoor

namespace Go.Proofs.YtdfenhjibnfdeaaGreatDoor
open Go.RowKit Go.Shelf
theorem one_kid {n0:Nat} {w:World} {c:CondD} {a:Option Addr} {cap:Nat} (h:CondP (fun b=>n0≤b) w c a):KidsP (fun b=>n0≤b) (w.alloc (.cells (encC (c,a,cap)).toArray 24)) w.heap.size [c] 0:=by
 have hr:(w.alloc (.cells (encC (c,a,cap)).toArray 24)).ownsRow w.heap.size 24 5 (.slice (some ⟨w.heap.size,0,none⟩) 1 1) 1 ([(c,a,cap)].flatMap encC) :=
  ⟨rfl,.inr ⟨w.heap.size,1,_,rfl,Nat.le_refl _,row_new _ _,by simp,by unfold maxLen;omega,rfl,rfl⟩⟩
 refine row_kids (L:=[(c,a,cap)]) hr fun x hx=>?_
 rw [List.mem_singleton.1 hx]
 exact h.to (fun _ h _=>h) fun b _ hb=>Below.heap_alloc _ _ _ hb
theorem two_sets {B pb fin D i j:Nat} {w w9:World} {u v:Value} {r:List TokD} {o:Obj} (hM:PMem B pb w w9) (hP:PAt B w9 pb r fin) (hz:w9.heap[w.heap.size]?=some o) (hD:w.heap.size<D) (hB:B≤w.heap.size) (hpb:pb<w.heap.size) :
  PMem B pb w ((w9.setCell ⟨D,i,none⟩ u).setCell ⟨D,j,none⟩ v)∧PAt B ((w9.setCell ⟨D,i,none⟩ u).setCell ⟨D,j,none⟩ v) pb r fin∧((w9.setCell ⟨D,i,none⟩ u).setCell ⟨D,j,none⟩ v).heap[w.heap.size]?=some o:=by
 have e:∀b,b≠D→((w9.setCell ⟨D,i,none⟩ u).setCell ⟨D,j,none⟩ v).heap[b]?=w9.heap[b]?:=fun b hb=>by rw [Below.heap_setCell _ _ _ _ hb,Below.heap_setCell _ _ _ _ hb]
 have hl:∀a,Below B a w9→Below B a ((w9.setCell ⟨D,i,none⟩ u).setCell ⟨D,j,none⟩ v):=fun a h=>(h.setCell (by simp only;omega) _).setCell (by simp only;omega) _
 exact ⟨⟨hl _ hM.low,(hM.keep.over (by omega) _).over (by omega) _⟩,hP.keep (hl _ (Below.refl _ _)) (e pb (by omega)),(e _ (by omega)).trans hz⟩
theorem nameB_size {s:ByteArray} (h:nameB s=true):s.size≤24:=by
 simp only [nameB,nameL,Bool.and_eq_true,decide_eq_true_eq] at h
 have:=h.1.2
 rw [Array.length_toList] at this
 exact this
theorem leafP (P:Nat→Prop) (w:World) (o:Int) (k s:ByteArray) (n:Int) (hk:k.size≤140737488355328) (hs:s.size≤140737488355328):CondP P w (.mk o k s n []) none:=by
 rw [CondP];exact ⟨hk,hs,by simp,fun h=>absurd h (by simp)⟩
set_option maxRecDepth 100000 in
set_option maxHeartbeats 8000000 in
theorem not_step (B pb fin f:Nat) (hB:B≤pb) (hK:NotK B pb fin f) (hCK:CndK B pb fin f):NotK B pb fin (f+1):=by
 intro ts w hlen hBw h
 have hpb:pb<w.heap.size:=by obtain ⟨_,h1,_⟩:=h;exact lt_of_block h1
 have b1:=(Below.refl w.heap.size w).alloc (Nat.le_refl _) (.cells #[.int .i64 0,.string ⟨#[]⟩,.string ⟨#[]⟩,.int .i64 0,.slice none 0 0] 24)
 have hz1:(w.alloc (.cells #[.int .i64 0,.string ⟨#[]⟩,.string ⟨#[]⟩,.int .i64 0,.slice none 0 0] 24)).heap[w.heap.size]?=some (.cells #[.int .i64 0,.string ⟨#[]⟩,.string ⟨#[]⟩,.int .i64 0,.slice none 0 0] 24 (0,0)):=row_new w (.cells #[.int .i64 0,.string ⟨#[]⟩,.string ⟨#[]⟩,.int .i64 0,.slice none 0 0] 24)
 have HZ1:=Lib.hid hz1
 have HM1:=Lib.hid (PMem.of_low (pb:=pb) hBw b1)
 have HP1:=Lib.hid (h.low b1)
 obtain ⟨w1,hw1⟩:∃w1,w.alloc (.cells #[.int .i64 0,.string ⟨#[]⟩,.string ⟨#[]⟩,.int .i64 0,.slice none 0 0] 24)=w1:=⟨_,rfl⟩
 rw [hw1] at HZ1 HM1 HP1
 have hs1:w.heap.size+1≤w1.heap.size:=by rw [←hw1];simp
 have HW1:=Lib.hid hw1
 have hts5:∀t∈ts,t.text.size≤20000:=by obtain ⟨_,_,_,_,h6,_⟩:=h;exact fun t ht=>(h6 t ht).1
 have HKK:=Lib.hid hK
 have HCK:=Lib.hid hCK
 have HTX:=Lib.hid hts5
 obtain ⟨RES,hRES⟩:∃z,notP fin (f+1) ts=z:=⟨_,rfl⟩
 rw [hRES]
 rw [notP] at hRES
 clear h b1 hz1 hw1 hK hCK hts5
 go_enter Tryz.func125,Tryz.ntmps125
 cases i1:isP wNot ts
 case true =>
  have hl1:=isP_tail i1
  rw [i1,if_pos rfl] at hRES
  cases hr:notP fin f ts.tail with
  |bad er off =>
   rw [hr] at hRES
   have HOK:=Lib.hid (show RES=.bad er off from hRES.symm)
   clear hRES
   have SK2:=Lib.hid (skip_any B pb hB ts fin wNot _ HP1.out)
   rw [i1] at SK2
   go_wp2_with fail
   rw [HW1.out]
   refine SK2.out.mono ?_
   rintro e w2 ⟨rfl,hp2,hm2⟩
   have hz2:=(hm2.keep.2 _ (lt_of_block HZ1.out) (by omega)).trans HZ1.out
   have HZ2:=Lib.hid hz2
   have HM2:=Lib.hid (HM1.out.trans hm2)
   have HP2:=Lib.hid hp2
   have hs2:=hm2.keep.1
   clear hz2 hm2 hp2
   have HC:=Lib.hid (HKK.out ts.tail w2 (by omega) (by omega) HP2.out)
   rw [hr] at HC
   clear hr
   go_wp2_with fail
   refine HC.out.mono ?_
   rintro e w9 ⟨hm9,rfl⟩
   exact ⟨rfl,by rw [HOK.out];exact ⟨HM2.out.trans hm9,rfl⟩⟩
  |ok c r =>
   rw [hr] at hRES
   have HOK:=Lib.hid (show RES=.ok (.mk 4 emptyB emptyB 0 [c]) r from hRES.symm)
   clear hRES
   have SK2:=Lib.hid (skip_any B pb hB ts fin wNot _ HP1.out)
   rw [i1] at SK2
   go_wp2_with fail
   rw [HW1.out]
   refine SK2.out.mono ?_
   rintro e w2 ⟨rfl,hp2,hm2⟩
   have hz2:=(hm2.keep.2 _ (lt_of_block HZ1.out) (by omega)).trans HZ1.out
   have HZ2:=Lib.hid hz2
   have HM2:=Lib.hid (HM1.out.trans hm2)
   have HP2:=Lib.hid hp2
   have hs2:=hm2.keep.1
   clear hz2 hm2 hp2
   have HC:=Lib.hid (HKK.out ts.tail w2 (by omega) (by omega) HP2.out)
   rw [hr] at HC
   clear hr
   go_wp2_with fail
   refine HC.out.mono ?_
   rintro e w3 ⟨hm3,v,rfl,⟨a0,cap0,rfl,hc3⟩,hp3⟩
   have HC3:=Lib.hid hc3
   clear hc3
   have hz3:=(hm3.keep.2 _ (lt_of_block HZ2.out) (by omega)).trans HZ2.out
   have HZ3:=Lib.hid hz3
   have HM3:=Lib.hid (HM2.out.trans hm3)
   have HP3:=Lib.hid hp3
   have hs3:=hm3.keep.1
   clear hz3 hm3 hp3
   rw [cond_cells c a0 cap0]
   have OF:=Lib.hid (of_any 4 (some ⟨w3.heap.size,0,none⟩) 1 1 (w3.alloc (.cells (encC (c,a0,cap0)).toArray 24)))
   go_wp2_with fail
   refine OF.out.mono ?_
   rintro e w4 ⟨rfl,hb4⟩
   have ba:=(Below.refl w3.heap.size w3).alloc (Nat.le_refl _) (.cells (encC (c,a0,cap0)).toArray 24)
   have hb34:=below_step ba (Nat.le_refl _) hb4
   have hz4:=row_later hb34 HZ3.out
   have HZ4:=Lib.hid hz4
   have HM4:=Lib.hid (HM3.out.trans (PMem.of_low (pb:=pb) (by omega) hb34))
   have HP4:=Lib.hid (HP3.out.low hb34)
   have HCD:=Lib.hid (show CondP (fun b=>w.heap.size+1≤b) w4 (.mk 4 emptyB emptyB 0 [c]) (some ⟨w3.heap.size,0,none⟩) by
    rw [CondP]
    refine ⟨by decide,by decide,by simp,fun _=>⟨w3.heap.size,0,rfl,by omega,?_⟩⟩
    have hk:=one_kid (cap:=cap0) (HC3.out.to (Q:=fun b=>w.heap.size+1≤b) (fun b h1 _=>by omega) fun b _ _=>rfl)
    exact KidsP.move (fun b h=>h.1) (fun b h=>hb4.block b h.2) _ ⟨by omega,by simp⟩ _ _ (KidsP.lt _ _ _ hk))
   clear hz4 hb4 ba hb34
   obtain ⟨zz,z0,z1,z2,z3,z4⟩:=rk5 HZ4.out
   have zf0:=frozen_of_row w4 _ 0 _ _ HZ4.out
   have zf1:=frozen_of_row w4 _ 1 _ _ HZ4.out
   have zf2:=frozen_of_row w4 _ 2 _ _ HZ4.out
   have zf3:=frozen_of_row w4 _ 3 _ _ HZ4.out
   have zf4:=frozen_of_row w4 _ 4 _ _ HZ4.out
   go_wp2
   generalize hwF:((((w4.setCell ⟨w.heap.size,0,none⟩ (.int .i64 4)).setCell ⟨w.heap.size,1,none⟩ (.string ⟨#[]⟩)).setCell ⟨w.heap.size,2,none⟩ (.string ⟨#[]⟩)).setCell ⟨w.heap.size,3,none⟩ (.int .i64 0)).setCell ⟨w.heap.size,4,none⟩ (.slice (some ⟨w3.heap.size,0,none⟩) 1 1)=wF
   have HF:=Lib.hid (show wF.heap[w.heap.size]?=some (.cells #[.int .i64 4,.string ⟨#[]⟩,.string ⟨#[]⟩,.int .i64 0,.slice (some ⟨w3.heap.size,0,none⟩) 1 1] 24 (0,0)) by rw [←hwF];exact set5_row HZ4.out _ _ _ _ _)
   obtain ⟨sz,s0,s1,s2,s3,s4⟩:=rk5 HF.out
   refine bodyPost_ret (v:=.agg #[.int .i64 4,.string ⟨#[]⟩,.string ⟨#[]⟩,.int .i64 0,.slice (some ⟨w3.heap.size,0,none⟩) 1 1]) (by simp [results,Tryz.results125,go_sem,s0,s1,s2,s3,s4]) rfl ?_
   rw [HOK.out]
   exact res5 hwF hBw hpb HM4.out HP4.out rfl HCD.out
 rw [i1,if_neg (by decide)] at hRES
 have SK2:=Lib.hid (skip_any B pb hB ts fin wNot _ HP1.out)
 rw [i1] at SK2
 go_wp2_with fail
 rw [HW1.out]
 refine SK2.out.mono ?_
 rintro e w2 ⟨rfl,hp2,hm2⟩
 have hz2:=(hm2.keep.2 _ (lt_of_block HZ1.out) (by omega)).trans HZ1.out
 have HZ2:=Lib.hid hz2
 have HM2:=Lib.hid (HM1.out.trans hm2)
 have HP2:=Lib.hid hp2
 have hs2:=hm2.keep.1
 clear hz2 hm2 hp2
 cases i2:isP wOpen ts
 case true =>
  have hl1:=isP_tail i2
  rw [i2,if_pos rfl] at hRES
  cases hr:condP fin f ts.tail with
  |bad er off =>
   have hr':seriesP (seriesP (notP fin f) wAnd 5) wOr 6 ts.tail=.bad er off:=hr
   rw [hr'] at hRES
   have HOK:=Lib.hid (show RES=.bad er off from hRES.symm)
   clear hRES hr'
   have SK3:=Lib.hid (skip_any B pb hB ts fin wOpen _ HP2.out)
   rw [i2] at SK3
   go_wp2_with fail
   skip
   refine SK3.out.mono ?_
   rintro e w3 ⟨rfl,hp3,hm3⟩
   have KP3:=Lib.hid hm3.keep
   have hz3:=(hm3.keep.2 _ (lt_of_block HZ2.out) (by omega)).trans HZ2.out
   have HZ3:=Lib.hid hz3
   have HM3:=Lib.hid (HM2.out.trans hm3)
   have HP3:=Lib.hid hp3
   have hs3:=hm3.keep.1
   clear hz3 hm3 hp3
   have HC:=Lib.hid (HCK.out ts.tail w3 (by omega) (by omega) HP3.out)
   rw [hr] at HC
   clear hr
   go_wp2_with fail
   refine HC.out.mono ?_
   rintro e w9 ⟨hm9,rfl⟩
   exact ⟨rfl,by rw [HOK.out];exact ⟨HM3.out.trans hm9,rfl⟩⟩
  |ok c r =>
   have hr':seriesP (seriesP (notP fin f) wAnd 5) wOr 6 ts.tail=.ok c r:=hr
   rw [hr'] at hRES
   have hRES:(wantP fin wClose r).bind (fun _ r=>PR.ok c r)=RES:=hRES
   clear hr'
   have SK3:=Lib.hid (skip_any B pb hB ts fin wOpen _ HP2.out)
   rw [i2] at SK3
   go_wp2_with fail
   skip
   refine SK3.out.mono ?_
   rintro e w3 ⟨rfl,hp3,hm3⟩
   have KP3:=Lib.hid hm3.keep
   have hz3:=(hm3.keep.2 _ (lt_of_block HZ2.out) (by omega)).trans HZ2.out
   have HZ3:=Lib.hid hz3
   have HM3:=Lib.hid (HM2.out.trans hm3)
   have HP3:=Lib.hid hp3
   have hs3:=hm3.keep.1
   clear hz3 hm3 hp3
   have HC:=Lib.hid (HCK.out ts.tail w3 (by omega) (by omega) HP3.out)
   rw [hr] at HC
   clear hr
   go_wp2_with fail
   refine HC.out.mono ?_
   rintro e w4 ⟨hm4,v,rfl,⟨a0,cap0,rfl,hc4⟩,hp4⟩
   have HC4:=Lib.hid hc4
   clear hc4
   have hz4:=(hm4.keep.2 _ (lt_of_block HZ3.out) (by omega)).trans HZ3.out
   have HZ4:=Lib.hid hz4
   have HM4:=Lib.hid (HM3.out.trans hm4)
   have HP4:=Lib.hid hp4
   have hs4:=hm4.keep.1
   clear hz4 hm4 hp4
   rw [cond_cells c a0 cap0]
   obtain ⟨w5,hw5⟩:∃w5,w4.alloc (.cells #[.int .i64 c.op,.string c.key,.string c.val,.int .i64 c.n,.slice a0 c.kids.length cap0] 24)=w5:=⟨_,rfl⟩
   have ba5:=(Below.refl w4.heap.size w4).alloc (Nat.le_refl _) (.cells #[.int .i64 c.op,.string c.key,.string c.val,.int .i64 c.n,.slice a0 c.kids.length cap0] 24)
   have hr5:=row_new w4 (.cells #[.int .i64 c.op,.string c.key,.string c.val,.int .i64 c.n,.slice a0 c.kids.length cap0] 24)
   rw [hw5] at ba5 hr5
   have HD5:=Lib.hid hr5
   have HW5:=Lib.hid hw5
   have HZ5:=Lib.hid (row_later ba5 HZ4.out)
   have HM5:=Lib.hid (HM4.out.trans (PMem.of_low (pb:=pb) (by omega) ba5))
   have HP5:=Lib.hid (HP4.out.low ba5)
   have hs5:w4.heap.size+1≤w5.heap.size:=by rw [←hw5];simp
   clear hw5 hr5
   have WN:=Lib.hid (want_any B pb hB r fin wClose w5 HP5.out)
   cases hr:wantP fin wClose r with
   |bad er off =>
    rw [hr] at hRES WN
    have HOK:=Lib.hid (show RES=.bad er off from hRES.symm)
    clear hRES hr
    go_wp2_with fail
    rw [HW5.out]
    refine WN.out.mono ?_
    rintro e w9 ⟨hm9,rfl⟩
    exact ⟨rfl,by rw [HOK.out];exact ⟨HM5.out.trans hm9,rfl⟩⟩
   |ok u r2 =>
    rw [hr] at hRES WN
    have HOK:=Lib.hid (show RES=.ok c r2 from hRES.symm)
    clear hRES hr
    go_wp2_with fail
    rw [HW5.out]
    refine WN.out.mono ?_
    rintro e w6 ⟨hm6,v,rfl,rfl,hp6⟩
    have HD6:=Lib.hid (hm6.keep.row HD5.out (by omega))
    have HCD:=Lib.hid (HC4.out.to (Q:=fun b=>w.heap.size+1≤b) (fun b h1 _=>by omega) fun b h1 h2=>(hm6.keep.2 b (by omega) (by omega)).trans (ba5.block b h2))
    clear ba5
    have hz6:=(hm6.keep.2 _ (lt_of_block HZ5.out) (by omega)).trans HZ5.out
    have HZ6:=Lib.hid hz6
    have HM6:=Lib.hid (HM5.out.trans hm6)
    have HP6:=Lib.hid hp6
    have hs6:=hm6.keep.1
    clear hz6 hm6 hp6
    obtain ⟨dz,d0,d1,d2,d3,d4⟩:=rk5 HD6.out
    obtain ⟨zz,z0,z1,z2,z3,z4⟩:=rk5 HZ6.out
    have zf0:=frozen_of_row w6 _ 0 _ _ HZ6.out
    have zf1:=frozen_of_row w6 _ 1 _ _ HZ6.out
    have zf2:=frozen_of_row w6 _ 2 _ _ HZ6.out
    have zf3:=frozen_of_row w6 _ 3 _ _ HZ6.out
    have zf4:=frozen_of_row w6 _ 4 _ _ HZ6.out
    have HZ4:=HZ6
    go_wp2
    generalize hwF:((((w6.setCell ⟨w.heap.size,0,none⟩ (.int .i64 c.op)).setCell ⟨w.heap.size,1,none⟩ (.string c.key)).setCell ⟨w.heap.size,2,none⟩ (.string c.val)).setCell ⟨w.heap.size,3,none⟩ (.int .i64 c.n)).setCell ⟨w.heap.size,4,none⟩ (.slice a0 c.kids.length cap0)=wF
    have HF:=Lib.hid (show wF.heap[w.heap.size]?=some (.cells #[.int .i64 c.op,.string c.key,.string c.val,.int .i64 c.n,.slice a0 c.kids.length cap0] 24 (0,0)) by rw [←hwF];exact set5_row HZ4.out _ _ _ _ _)
    obtain ⟨sz,s0,s1,s2,s3,s4⟩:=rk5 HF.out
    refine bodyPost_ret (v:=.agg #[.int .i64 c.op,.string c.key,.string c.val,.int .i64 c.n,.slice a0 c.kids.length cap0]) (by simp [results,Tryz.results125,go_sem,s0,s1,s2,s3,s4]) rfl ?_
    rw [HOK.out]
    exact res5 hwF hBw hpb HM6.out HP6.out rfl HCD.out
 rw [i2,if_neg (by decide)] at hRES
 have SK3:=Lib.hid (skip_any B pb hB ts fin wOpen _ HP2.out)
 rw [i2] at SK3
 go_wp2_with fail
 skip
 refine SK3.out.mono ?_
 rintro e w3 ⟨rfl,hp3,hm3⟩
 have KP3:=Lib.hid hm3.keep
 have hz3:=(hm3.keep.2 _ (lt_of_block HZ2.out) (by omega)).trans HZ2.out
 have HZ3:=Lib.hid hz3
 have HM3:=Lib.hid (HM2.out.trans hm3)
 have HP3:=Lib.hid hp3
 have hs3:=hm3.keep.1
 clear hz3 hm3 hp3
 cases i3:isP wAlways ts
 case true =>
  rw [i3,if_pos rfl] at hRES
  have HOK:=Lib.hid (show RES=.ok (.mk 1 emptyB emptyB 0 []) ts.tail from hRES.symm)
  clear hRES
  have SK4:=Lib.hid (skip_any B pb hB ts fin wAlways _ HP3.out)
  rw [i3] at SK4
  go_wp2_with fail
  skip
  refine SK4.out.mono ?_
  rintro e w4 ⟨rfl,hp4,hm4⟩
  have KP4:=Lib.hid hm4.keep
  have hz4:=(hm4.keep.2 _ (lt_of_block HZ3.out) (by omega)).trans HZ3.out
  have HZ4:=Lib.hid hz4
  have HM4:=Lib.hid (HM3.out.trans hm4)
  have HP4:=Lib.hid hp4
  have hs4:=hm4.keep.1
  clear hz4 hm4 hp4
  have HCD:=Lib.hid (show CondP (fun b=>w.heap.size+1≤b) w4 (.mk 1 emptyB emptyB 0 []) none by
   rw [CondP];exact ⟨by decide,by decide,by decide,fun h=>absurd h (by decide)⟩)
  obtain ⟨zz,z0,z1,z2,z3,z4⟩:=rk5 HZ4.out
  have zf0:=frozen_of_row w4 _ 0 _ _ HZ4.out
  have zf1:=frozen_of_row w4 _ 1 _ _ HZ4.out
  have zf2:=frozen_of_row w4 _ 2 _ _ HZ4.out
  have zf3:=frozen_of_row w4 _ 3 _ _ HZ4.out
  have zf4:=frozen_of_row w4 _ 4 _ _ HZ4.out
  go_wp2
  generalize hwF:((((w4.setCell ⟨w.heap.size,0,none⟩ (.int .i64 1)).setCell ⟨w.heap.size,1,none⟩ (.string ⟨#[]⟩)).setCell ⟨w.heap.size,2,none⟩ (.string ⟨#[]⟩)).setCell ⟨w.heap.size,3,none⟩ (.int .i64 0)).setCell ⟨w.heap.size,4,none⟩ (.slice none 0 0)=wF
  have HF:=Lib.hid (show wF.heap[w.heap.size]?=some (.cells #[.int .i64 1,.string ⟨#[]⟩,.string ⟨#[]⟩,.int .i64 0,.slice none 0 0] 24 (0,0)) by rw [←hwF];exact set5_row HZ4.out _ _ _ _ _)
  obtain ⟨sz,s0,s1,s2,s3,s4⟩:=rk5 HF.out
  refine bodyPost_ret (v:=.agg #[.int .i64 1,.string ⟨#[]⟩,.string ⟨#[]⟩,.int .i64 0,.slice none 0 0]) (by simp [results,Tryz.results125,go_sem,s0,s1,s2,s3,s4]) rfl ?_
  rw [HOK.out]
  exact res5 (cap:=0) hwF hBw hpb HM4.out HP4.out rfl HCD.out
 rw [i3,if_neg (by decide)] at hRES
 have SK4:=Lib.hid (skip_any B pb hB ts fin wAlways _ HP3.out)
 rw [i3] at SK4
 go_wp2_with fail
 skip
 refine SK4.out.mono ?_
 rintro e w4 ⟨rfl,hp4,hm4⟩
 have KP4:=Lib.hid hm4.keep
 have hz4:=(hm4.keep.2 _ (lt_of_block HZ3.out) (by omega)).trans HZ3.out
 have HZ4:=Lib.hid hz4
 have HM4:=Lib.hid (HM3.out.trans hm4)
 have HP4:=Lib.hid hp4
 have hs4:=hm4.keep.1
 clear hz4 hm4 hp4
 obtain ⟨tv,hq1,hq2,hq3⟩:=HP4.out
 have HQ1:=Lib.hid hq1
 cases ts with
 |nil =>
  obtain ⟨a,cap,rfl,-⟩:=hq2
  have HOK:=Lib.hid (show RES=.bad 6 fin from hRES.symm)
  have PN:=Lib.hid (pname_any B pb hB [] fin w4 (by omega) HP4.out)
  clear hRES hq1 hq3
  obtain ⟨pz,p0,p1⟩:=rk2 HQ1.out
  go_wp2_with fail
  refine PN.out.mono ?_
  rintro e w9 ⟨hm9,rfl⟩
  exact ⟨rfl,by rw [HOK.out];exact ⟨HM4.out.trans hm9,rfl⟩⟩
 |cons t r =>
  obtain ⟨b,off,cap,rfl,hc1,hc2,c0,c1,c2⟩:=hq2.open
  have hts:=HTX.out t (List.mem_cons_self ..)
  have RS:=Lib.hid (fun W=>reserved_any t.text W)
  have hRES:(if resB t.text=true then failP fin 5 (t :: r) else (nameP fin (t :: r)).bind fun k r =>
   if isP wIs r then (nextP fin 3 (fun s=>decide (s≠emptyB∧s.size≤200)) r.tail).bind fun v r=>.ok (.mk 3 k v 0 []) r
   else if isP wMore r then (numP fin 0 9999999 r.tail).bind fun n r=>.ok (.mk 7 k emptyB n []) r
   else .ok (.mk 2 k emptyB 0 []) r)=RES:=hRES
  have dl:decide ((0:Int)<(r.length:Int)+1)=true:=by rw [decide_eq_true_eq];omega
  clear hq1 hq2 hq3 hc1 hc2
  cases hrs:resB t.text
  case true =>
   rw [hrs] at RS
   rw [hrs,if_pos rfl] at hRES
   have HOK:=Lib.hid (show RES=.bad 5 t.off from hRES.symm)
   clear hRES hrs
   obtain ⟨pz,p0,p1⟩:=rk2 HQ1.out
   go_wp2_with fail
   refine (RS.out _).mono ?_
   rintro e w5 ⟨rfl,hb5⟩
   have HM5:=Lib.hid (HM4.out.trans (PMem.of_low (pb:=pb) (by omega) hb5))
   have FL:=Lib.hid (fail_any pb (t :: r) fin 5 w5 (HP4.out.low hb5))
   go_wp2_with fail
   refine FL.out.mono ?_
   rintro e w6 ⟨rfl,hw⟩
   subst w6
   exact ⟨rfl,by rw [HOK.out];exact ⟨HM5.out,rfl⟩⟩
  rw [hrs] at RS
  rw [hrs,if_neg (by decide)] at hRES
  clear hrs
  obtain ⟨pz,p0,p1⟩:=rk2 HQ1.out
  go_wp2_with fail
  refine (RS.out _).mono ?_
  rintro e w5 ⟨rfl,hb5⟩
  have HM5:=Lib.hid (HM4.out.trans (PMem.of_low (pb:=pb) (by omega) hb5))
  have HP5:=Lib.hid (HP4.out.low hb5)
  have HZ5:=Lib.hid (row_later hb5 HZ4.out)
  have hs5:=hb5.size
  have PN:=Lib.hid (pname_any B pb hB (t :: r) fin w5 (by omega) HP5.out)
  clear hb5 p0 p1 pz c0 c1 c2
  cases hn:nameP fin (t :: r) with
  |bad er off =>
   rw [hn] at hRES PN
   have HOK:=Lib.hid (show RES=.bad er off from hRES.symm)
   clear hRES hn
   go_wp2_with fail
   refine PN.out.mono ?_
   rintro e w9 ⟨hm9,rfl⟩
   exact ⟨rfl,by rw [HOK.out];exact ⟨HM5.out.trans hm9,rfl⟩⟩
  |ok k r1 =>
   rw [hn] at hRES PN
   have hk:=nameB_size (nextP_ok hn).1
   have hRES:(if isP wIs r1 then (nextP fin 3 (fun s=>decide (s≠emptyB∧s.size≤200)) r1.tail).bind fun v r=>.ok (.mk 3 k v 0 []) r
    else if isP wMore r1 then (numP fin 0 9999999 r1.tail).bind fun n r=>.ok (.mk 7 k emptyB n []) r
    else .ok (.mk 2 k emptyB 0 []) r1)=RES:=hRES
   clear hn
   go_wp2_with fail
   refine PN.out.mono ?_
   rintro e w6 ⟨hm6,v,rfl,rfl,hp6⟩
   have hz6:=(hm6.keep.2 _ (lt_of_block HZ5.out) (by omega)).trans HZ5.out
   have HZ6:=Lib.hid hz6
   have HM6:=Lib.hid (HM5.out.trans hm6)
   have HP6:=Lib.hid hp6
   have hs6:=hm6.keep.1
   clear hz6 hm6 hp6
   obtain ⟨w7,hw7⟩:∃w7,w6.alloc (.cells #[.int .i64 2,.string k,.string ⟨#[]⟩,.int .i64 0,.slice none 0 0] 24)=w7:=⟨_,rfl⟩
   have ba7:=(Below.refl w6.heap.size w6).alloc (Nat.le_refl _) (.cells #[.int .i64 2,.string k,.string ⟨#[]⟩,.int .i64 0,.slice none 0 0] 24)
   have hr7:=row_new w6 (.cells #[.int .i64 2,.string k,.string ⟨#[]⟩,.int .i64 0,.slice none 0 0] 24)
   rw [hw7] at ba7 hr7
   have HD7:=Lib.hid hr7
   have HW7:=Lib.hid hw7
   have HZ7:=Lib.hid (row_later ba7 HZ6.out)
   have HM7:=Lib.hid (HM6.out.trans (PMem.of_low (pb:=pb) (by omega) ba7))
   have HP7:=Lib.hid (HP6.out.low ba7)
   have hs7:w6.heap.size+1≤w7.heap.size:=by rw [←hw7];simp
   clear hw7 hr7
   have h67:w6.heap.size<w7.heap.size:=by omega
   cases i4:isP wIs r1
   case true =>
    rw [i4,if_pos rfl] at hRES
    have SK8:=Lib.hid (skip_any B pb hB r1 fin wIs _ HP7.out)
    rw [i4] at SK8
    go_wp2_with fail
    rw [HW7.out]
    refine SK8.out.mono ?_
    rintro e w8 ⟨rfl,hp8,hm8⟩
    have KP8:=Lib.hid hm8.keep
    have hz8:=(hm8.keep.2 _ (lt_of_block HZ7.out) (by omega)).trans HZ7.out
    have HZ8:=Lib.hid hz8
    have HM8:=Lib.hid (HM7.out.trans hm8)
    have HP8:=Lib.hid hp8
    have hs8:=hm8.keep.1
    clear hz8 hm8 hp8
    have NV:=Lib.hid (nextV_any B pb hB (tailP true r1) fin 3 w8 (by omega) HP8.out)
    cases hv:nextP fin 3 valOK (tailP true r1) with
    |bad er off =>
     have hv':nextP fin 3 (fun s=>decide (s≠emptyB∧s.size≤200)) r1.tail=.bad er off:=hv
     rw [hv'] at hRES
     rw [hv] at NV
     have HOK:=Lib.hid (show RES=.bad er off from hRES.symm)
     clear hRES hv hv'
     go_wp2_with fail
     refine NV.out.mono ?_
     rintro e w9 ⟨hm9,rfl⟩
     exact ⟨rfl,by rw [HOK.out];exact ⟨HM8.out.trans hm9,rfl⟩⟩
    |ok v r2 =>
     have hv':nextP fin 3 (fun s=>decide (s≠emptyB∧s.size≤200)) r1.tail=.ok v r2:=hv
     rw [hv'] at hRES
     rw [hv] at NV
     have HOK:=Lib.hid (show RES=.ok (.mk 3 k v 0 []) r2 from hRES.symm)
     have hvz:v.size≤200:=(of_decide_eq_true (nextP_ok hv).1).2
     clear hRES hv hv'
     go_wp2_with fail
     refine NV.out.mono ?_
     rintro e w9 ⟨hm9,v',rfl,rfl,hp9⟩
     have HD9:=Lib.hid (hm9.keep.row (KP8.out.row HD7.out (by omega)) (by omega))
     have hz9:=(hm9.keep.2 _ (lt_of_block HZ8.out) (by omega)).trans HZ8.out
     have HZ9:=Lib.hid hz9
     have HM9:=Lib.hid (HM8.out.trans hm9)
     have HP9:=Lib.hid hp9
     have hs9:=hm9.keep.1
     clear hz9 hm9 hp9
     obtain ⟨hmF,hpF,hzF⟩:=two_sets (i:=0) (j:=2) (u:=.int .i64 3) (v:=.string v) HM9.out HP9.out HZ9.out (show w.heap.size<w6.heap.size by omega) hBw hpb
     have HMF:=Lib.hid hmF
     have HPF:=Lib.hid hpF
     have HZ4:=Lib.hid hzF
     clear hmF hpF hzF
     obtain ⟨dz,d0,d1,d2,d3,d4⟩:=rk5 HD9.out
     have df0:=frozen_of_row w9 _ 0 _ _ HD9.out
     have df1:=frozen_of_row w9 _ 1 _ _ HD9.out
     have df2:=frozen_of_row w9 _ 2 _ _ HD9.out
     have df3:=frozen_of_row w9 _ 3 _ _ HD9.out
     have df4:=frozen_of_row w9 _ 4 _ _ HD9.out
     obtain ⟨zz,z0,z1,z2,z3,z4⟩:=rk5 HZ9.out
     have zf0:=frozen_of_row w9 _ 0 _ _ HZ9.out
     have zf1:=frozen_of_row w9 _ 1 _ _ HZ9.out
     have zf2:=frozen_of_row w9 _ 2 _ _ HZ9.out
     have zf3:=frozen_of_row w9 _ 3 _ _ HZ9.out
     have zf4:=frozen_of_row w9 _ 4 _ _ HZ9.out
     go_wp2
     generalize hwF:((((((w9.setCell ⟨w6.heap.size,0,none⟩ (.int .i64 3)).setCell ⟨w6.heap.size,2,none⟩ (.string v)).setCell ⟨w.heap.size,0,none⟩ (.int .i64 3)).setCell ⟨w.heap.size,1,none⟩ (.string k)).setCell ⟨w.heap.size,2,none⟩ (.string v)).setCell ⟨w.heap.size,3,none⟩ (.int .i64 0)).setCell ⟨w.heap.size,4,none⟩ (.slice none 0 0)=wF
     have HF:=Lib.hid (show wF.heap[w.heap.size]?=some (.cells #[.int .i64 3,.string k,.string v,.int .i64 0,.slice none 0 0] 24 (0,0)) by rw [←hwF];exact set5_row HZ4.out _ _ _ _ _)
     obtain ⟨sz,s0,s1,s2,s3,s4⟩:=rk5 HF.out
     refine bodyPost_ret (v:=.agg #[.int .i64 3,.string k,.string v,.int .i64 0,.slice none 0 0]) (by simp [results,Tryz.results125,go_sem,s0,s1,s2,s3,s4]) rfl ?_
     rw [HOK.out]
     exact res5 (cap:=0) hwF hBw hpb HMF.out HPF.out rfl (leafP _ _ _ _ _ _ (by omega) (by omega))
   rw [i4,if_neg (by decide)] at hRES
   have SK8:=Lib.hid (skip_any B pb hB r1 fin wIs _ HP7.out)
   rw [i4] at SK8
   go_wp2_with fail
   rw [HW7.out]
   refine SK8.out.mono ?_
   rintro e w8 ⟨rfl,hp8,hm8⟩
   have KP8:=Lib.hid hm8.keep
   have hz8:=(hm8.keep.2 _ (lt_of_block HZ7.out) (by omega)).trans HZ7.out
   have HZ8:=Lib.hid hz8
   have HM8:=Lib.hid (HM7.out.trans hm8)
   have HP8:=Lib.hid hp8
   have hs8:=hm8.keep.1
   clear hz8 hm8 hp8
   cases i5:isP wMore r1
   case true =>
    rw [i5,if_pos rfl] at hRES
    have SK9:=Lib.hid (skip_any B pb hB r1 fin wMore _ HP8.out)
    rw [i5] at SK9
    go_wp2_with fail
    skip
    refine SK9.out.mono ?_
    rintro e w9 ⟨rfl,hp9,hm9⟩
    have KP9:=Lib.hid hm9.keep
    have hz9:=(hm9.keep.2 _ (lt_of_block HZ8.out) (by omega)).trans HZ8.out
    have HZ9:=Lib.hid hz9
    have HM9:=Lib.hid (HM8.out.trans hm9)
    have HP9:=Lib.hid hp9
    have hs9:=hm9.keep.1
    clear hz9 hm9 hp9
    have NI:=Lib.hid (number_any B pb hB (tailP true r1) fin 0 9999999 w9 (by omega) HP9.out)
    cases hv:numP fin 0 9999999 (tailP true r1) with
    |bad er off =>
     have hv':numP fin 0 9999999 r1.tail=.bad er off:=hv
     rw [hv'] at hRES
     rw [hv] at NI
     have HOK:=Lib.hid (show RES=.bad er off from hRES.symm)
     clear hRES hv hv'
     go_wp2_with fail
     refine NI.out.mono ?_
     rintro e w9 ⟨hm9,rfl⟩
     exact ⟨rfl,by rw [HOK.out];exact ⟨HM9.out.trans hm9,rfl⟩⟩
    |ok n r2 =>
     have hv':numP fin 0 9999999 r1.tail=.ok n r2:=hv
     rw [hv'] at hRES
     rw [hv] at NI
     have HOK:=Lib.hid (show RES=.ok (.mk 7 k emptyB n []) r2 from hRES.symm)
     clear hRES hv hv'
     go_wp2_with fail
     refine NI.out.mono ?_
     rintro e w10 ⟨hm10,v',rfl,rfl,hp10⟩
     have HD10:=Lib.hid (hm10.keep.row (KP9.out.row (KP8.out.row HD7.out (by omega)) (by omega)) (by omega))
     have hz10:=(hm10.keep.2 _ (lt_of_block HZ9.out) (by omega)).trans HZ9.out
     have HZ10:=Lib.hid hz10
     have HM10:=Lib.hid (HM9.out.trans hm10)
     have HP10:=Lib.hid hp10
     have hs10:=hm10.keep.1
     clear hz10 hm10 hp10
     obtain ⟨hmF,hpF,hzF⟩:=two_sets (i:=0) (j:=3) (u:=.int .i64 7) (v:=.int .i64 n) HM10.out HP10.out HZ10.out (show w.heap.size<w6.heap.size by omega) hBw hpb
     have HMF:=Lib.hid hmF
     have HPF:=Lib.hid hpF
     have HZ4:=Lib.hid hzF
     clear hmF hpF hzF
     obtain ⟨dz,d0,d1,d2,d3,d4⟩:=rk5 HD10.out
     have df0:=frozen_of_row w10 _ 0 _ _ HD10.out
     have df1:=frozen_of_row w10 _ 1 _ _ HD10.out
     have df2:=frozen_of_row w10 _ 2 _ _ HD10.out
     have df3:=frozen_of_row w10 _ 3 _ _ HD10.out
     have df4:=frozen_of_row w10 _ 4 _ _ HD10.out
     obtain ⟨zz,z0,z1,z2,z3,z4⟩:=rk5 HZ10.out
     have zf0:=frozen_of_row w10 _ 0 _ _ HZ10.out
     have zf1:=frozen_of_row w10 _ 1 _ _ HZ10.out
     have zf2:=frozen_of_row w10 _ 2 _ _ HZ10.out
     have zf3:=frozen_of_row w10 _ 3 _ _ HZ10.out
     have zf4:=frozen_of_row w10 _ 4 _ _ HZ10.out
     go_wp2
     generalize hwF:((((((w10.setCell ⟨w6.heap.size,0,none⟩ (.int .i64 7)).setCell ⟨w6.heap.size,3,none⟩ (.int .i64 n)).setCell ⟨w.heap.size,0,none⟩ (.int .i64 7)).setCell ⟨w.heap.size,1,none⟩ (.string k)).setCell ⟨w.heap.size,2,none⟩ (.string ⟨#[]⟩)).setCell ⟨w.heap.size,3,none⟩ (.int .i64 n)).setCell ⟨w.heap.size,4,none⟩ (.slice none 0 0)=wF
     have HF:=Lib.hid (show wF.heap[w.heap.size]?=some (.cells #[.int .i64 7,.string k,.string ⟨#[]⟩,.int .i64 n,.slice none 0 0] 24 (0,0)) by rw [←hwF];exact set5_row HZ4.out _ _ _ _ _)
     obtain ⟨sz,s0,s1,s2,s3,s4⟩:=rk5 HF.out
     refine bodyPost_ret (v:=.agg #[.int .i64 7,.string k,.string ⟨#[]⟩,.int .i64 n,.slice none 0 0]) (by simp [results,Tryz.results125,go_sem,s0,s1,s2,s3,s4]) rfl ?_
     rw [HOK.out]
     exact res5 (cap:=0) hwF hBw hpb HMF.out HPF.out rfl (leafP _ _ _ _ _ _ (by omega) (by decide))
   rw [i5,if_neg (by decide)] at hRES
   have HOK:=Lib.hid (show RES=.ok (.mk 2 k emptyB 0 []) r1 from hRES.symm)
   clear hRES
   have SK9:=Lib.hid (skip_any B pb hB r1 fin wMore _ HP8.out)
   rw [i5] at SK9
   go_wp2_with fail
   skip
   refine SK9.out.mono ?_
   rintro e w9 ⟨rfl,hp9,hm9⟩
   have KP9:=Lib.hid hm9.keep
   have hz9:=(hm9.keep.2 _ (lt_of_block HZ8.out) (by omega)).trans HZ8.out
   have HZ9:=Lib.hid hz9
   have HM9:=Lib.hid (HM8.out.trans hm9)
   have HP9:=Lib.hid hp9
   have hs9:=hm9.keep.1
   clear hz9 hm9 hp9
   have HD9:=Lib.hid (KP9.out.row (KP8.out.row HD7.out (by omega)) (by omega))
   obtain ⟨dz,d0,d1,d2,d3,d4⟩:=rk5 HD9.out
   obtain ⟨zz,z0,z1,z2,z3,z4⟩:=rk5 HZ9.out
   have zf0:=frozen_of_row w9 _ 0 _ _ HZ9.out
   have zf1:=frozen_of_row w9 _ 1 _ _ HZ9.out
   have zf2:=frozen_of_row w9 _ 2 _ _ HZ9.out
   have zf3:=frozen_of_row w9 _ 3 _ _ HZ9.out
   have zf4:=frozen_of_row w9 _ 4 _ _ HZ9.out
   have HZ4:=HZ9
   go_wp2
   generalize hwF:((((w9.setCell ⟨w.heap.size,0,none⟩ (.int .i64 2)).setCell ⟨w.heap.size,1,none⟩ (.string k)).setCell ⟨w.heap.size,2,none⟩ (.string ⟨#[]⟩)).setCell ⟨w.heap.size,3,none⟩ (.int .i64 0)).setCell ⟨w.heap.size,4,none⟩ (.slice none 0 0)=wF
   have HF:=Lib.hid (show wF.heap[w.heap.size]?=some (.cells #[.int .i64 2,.string k,.string ⟨#[]⟩,.int .i64 0,.slice none 0 0] 24 (0,0)) by rw [←hwF];exact set5_row HZ4.out _ _ _ _ _)
   obtain ⟨sz,s0,s1,s2,s3,s4⟩:=rk5 HF.out
   refine bodyPost_ret (v:=.agg #[.int .i64 2,.string k,.string ⟨#[]⟩,.int .i64 0,.slice none 0 0]) (by simp [results,Tryz.results125,go_sem,s0,s1,s2,s3,s4]) rfl ?_
   rw [HOK.out]
   exact res5 (cap:=0) hwF hBw hpb HM9.out HP9.out rfl (leafP _ _ _ _ _ _ (by omega) (by decide))
end Go.Proofs.YtdfenhjibnfdeaaGreatDoor

namespace Go.Proofs.YtdfenhjibnfdeaaGreatDoor
open Go.RowKit Go.Shelf
theorem not_all (B pb fin:Nat) (hB:B≤pb):∀f,NotK B pb fin f
 |0=>fun _ _ h=>by omega
 |f+1=>not_step B pb fin f hB (not_all B pb fin hB f) (cond_any B pb fin f hB (and_any B pb fin f hB (not_all B pb fin hB f)))
theorem cnd_all (B pb fin f:Nat) (hB:B≤pb):CndK B pb fin f:=cond_any B pb fin f hB (and_any B pb fin f hB (not_all B pb fin hB f))
end Go.Proofs.YtdfenhjibnfdeaaGreatDoor
