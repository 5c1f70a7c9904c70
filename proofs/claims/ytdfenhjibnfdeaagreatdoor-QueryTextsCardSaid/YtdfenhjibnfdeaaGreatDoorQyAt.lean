/-   -/
import Derived.Test.YtdfenhjibnfdeaaGreatDoorQyAs
import Derived.Maps.AppendAt
namespace Go.Proofs.YtdfenhjibnfdeaaGreatDoor
open Go.RowKit Go.Shelf
set_option maxHeartbeats 1000000 in
theorem of_any (op:Int) (a:Option Addr) (n cap:Nat) (w:World) :
  Calls Tryz.prog 102 #[.int .i64 op,.slice a n cap] w fun e w'=>e=.returned (.agg #[.int .i64 op,.string ⟨#[]⟩,.string ⟨#[]⟩,.int .i64 0,.slice a n cap])∧Below w.heap.size w w':=by
 go_enter Tryz.func102,Tryz.ntmps102
 go_wp2
 have HZ:=Lib.hid (row_new w (.cells #[.int .i64 op,.string ⟨#[]⟩,.string ⟨#[]⟩,.int .i64 0,.slice a n cap] 24))
 obtain ⟨sz,s0,s1,s2,s3,s4⟩:=rk5 HZ.out
 exact bodyPost_ret (v:=.agg #[.int .i64 op,.string ⟨#[]⟩,.string ⟨#[]⟩,.int .i64 0,.slice a n cap]) (by simp [results,Tryz.results102,go_sem,s0,s1,s2,s3,s4]) rfl ⟨rfl,(Below.refl _ _).alloc (Nat.le_refl _) _⟩
def leftP (w:World) (pb:Nat):Nat:=match w.heap[pb]? with
 |some (Obj.cells cs _ _)=>(match cs[0]? with
  |some (Value.slice _ n _)=>n
  |_=>0)
 |_=>0
theorem PAt.left {B:Nat} {w:World} {pb:Nat} {ts:List TokD} {fin:Nat} (h:PAt B w pb ts fin):leftP w pb=ts.length:=by
 obtain ⟨tv,h1,⟨a,cap,rfl,_⟩,_⟩:=h
 simp [leftP,h1]
theorem moreP_end (one:List TokD→PR CondD) (word:ByteArray) (k:Nat) (acc:List CondD) (ts:List TokD) (h:isP word ts=false):moreP one word k acc ts=.ok acc ts:=by
 cases k with
 |zero=>rfl
 |succ k=>rw [moreP,h];rfl
theorem isP_cons {word:ByteArray} {ts:List TokD} (h:isP word ts=true):∃t r,ts=t :: r:=by
 cases ts with
 |nil=>cases h
 |cons t r=>exact ⟨t,r,rfl⟩
theorem KidsP.lt1 {P:Nat→Prop} {w:World} {b:Nat} {ks:List CondD} {off:Nat} (h:KidsP P w b ks off) (h0:0<ks.length):b<w.heap.size:=by
 cases ks with
 |nil=>simp at h0
 |cons c r =>
  rw [KidsP] at h
  obtain ⟨⟨a,cap,h1,_⟩,_⟩:=h
  exact lt_of_cell h1.1
mutual
theorem CondP.lt {P:Nat→Prop} {w:World}:∀(c:CondD) (a:Option Addr),CondP P w c a→CondP (fun b=>P b∧b<w.heap.size) w c a
 |.mk o k s n ks,a,h=>by
  rw [CondP] at h ⊢
  refine ⟨h.1,h.2.1,h.2.2.1,fun h0=>?_⟩
  obtain ⟨b,off,ha,hp,hk⟩:=h.2.2.2 h0
  exact ⟨b,off,ha,⟨hp,hk.lt1 h0⟩,KidsP.lt b ks off hk⟩
theorem KidsP.lt {P:Nat→Prop} {w:World} (b:Nat):∀(ks:List CondD) (off:Nat),KidsP P w b ks off→KidsP (fun b=>P b∧b<w.heap.size) w b ks off
 |[],_,_=>by rw [KidsP];trivial
 |c :: r,off,h=>by
  rw [KidsP] at h ⊢
  obtain ⟨⟨a,cap,h1,h2⟩,h3⟩:=h
  exact ⟨⟨a,cap,h1,CondP.lt c a h2⟩,KidsP.lt b r (off+5) h3⟩
end
theorem CondP.to {P Q:Nat→Prop} {w w':World} {c:CondD} {a:Option Addr} (h:CondP P w c a) (hq:∀b,P b→b<w.heap.size→Q b) (hb:∀b,P b→b<w.heap.size→w'.heap[b]?=w.heap[b]?):CondP Q w' c a :=
 CondP.move (fun b hp=>hq b hp.1 hp.2) (fun b hp=>hb b hp.1 hp.2) c a (CondP.lt c a h)
theorem own_move {w w':World} {N e size n m g cap:Nat} {xs:List Value} (h:w.ownsRow N e size (.slice (some ⟨g,0,none⟩) m cap) n xs) (hb:w'.heap[g]?=w.heap[g]?):w'.ownsRow N e size (.slice (some ⟨g,0,none⟩) m cap) n xs:=by
 refine ⟨h.1,?_⟩
 rcases h.2 with ⟨h,_⟩ | ⟨g2,cap2,cur,h1,h2,h3,h4⟩
 ·cases h
 ·injection h1 with e1 e2 e3
  injection e1 with e1
  injection e1 with e1
  subst e1
  exact .inr ⟨_,cap2,cur,by rw [e2,e3],h2,hb.trans h3,h4⟩
theorem own_slice {w:World} {N e size n:Nat} {v:Value} {xs:List Value} (h:w.ownsRow N e size v n xs) (h0:0<n):∃g cap,v=.slice (some ⟨g,0,none⟩) n cap∧N≤g∧g<w.heap.size:=by
 rcases h.2 with ⟨_,h⟩ | ⟨g2,cap2,cur,h1,h2,h3,_⟩
 ·omega
 ·exact ⟨g2,cap2,h1,h2,lt_of_block h3⟩
def zeroC:Array Value:=#[.int .i64 0,.string ⟨#[]⟩,.string ⟨#[]⟩,.int .i64 0,.slice none 0 0]
structure SerI (one:List TokD→PR CondD) (word:ByteArray) (B pb fin n:Nat) (w:World) (RR:PR (List CondD)) (L:List CE) (ts:List TokD) (k g cap:Nat) (wr:World):Prop where
 at':PAt B wr pb ts fin
 fuel:ts.length≤k
 few:ts.length≤n
 mem:PMem B pb w wr
 res:wr.heap[w.heap.size]?=some (.cells zeroC 24 (0,0))
 own:wr.ownsRow (w.heap.size+1) 24 5 (.slice (some ⟨g,0,none⟩) L.length cap) L.length (L.flatMap encC)
 conds:∀x∈L,CondP (fun b=>w.heap.size+1≤b∧b≠g) wr x.1 x.2.1
 pos:1≤L.length
 many:L.length+ts.length≤5001
 run:moreP one word k (L.map (·.1)) ts=RR
theorem SerI.start {one:List TokD→PR CondD} {word:ByteArray} {B pb fin n:Nat} {w w2:World} {c:CondD} {a:Option Addr} {cap:Nat} {r:List TokD} (hB:B≤pb) (hpb:pb<w.heap.size) (hp:PAt B w2 pb r fin) (hn:r.length≤n) (hm:PMem B pb w w2)
  (hz:w2.heap[w.heap.size]?=some (.cells zeroC 24 (0,0))) (hc:CondP (fun b=>w.heap.size+1≤b) w2 c a) :
  SerI one word B pb fin n w (moreP one word r.length [c] r) [(c,a,cap)] r r.length w2.heap.size 1 (w2.alloc (.cells (encC (c,a,cap)).toArray 24)):=by
 have hs:=hm.keep.1
 have hal:=fun b (h:b<w2.heap.size)=>Below.heap_alloc w2 (.cells (encC (c,a,cap)).toArray 24) b h
 refine ⟨hp.low ((Below.refl _ _).alloc (Nat.le_refl _) _),Nat.le_refl _,hn,hm.trans (PMem.of_low (by omega) ((Below.refl _ _).alloc (Nat.le_refl _) _)),row_past hz,?_,?_,Nat.le_refl _,?_,rfl⟩
 ·exact ⟨rfl,.inr ⟨w2.heap.size,1,_,rfl,by have:=lt_of_block hz;omega,row_new _ _,by simp,by unfold maxLen;omega,rfl,rfl⟩⟩
 ·intro x hx
  rw [List.mem_singleton.1 hx]
  exact hc.to (fun b h1 h2=>⟨h1,by omega⟩) fun b _ h2=>hal b h2
 ·obtain ⟨_,_,_,h3,_⟩:=hp
  simp only [List.length_cons,List.length_nil];omega
theorem SerI.next {one:List TokD→PR CondD} {word:ByteArray} {B pb fin n:Nat} {w wr w4 w5 w9:World} {RR:PR (List CondD)} {L:List CE} {t:TokD} {ts ts2:List TokD} {k g cap:Nat} {v':Value} {c2:CondD} {a2:Option Addr} {cap2:Nat}
  (hB:B≤pb) (hpb:pb<w.heap.size) (h:SerI one word B pb fin n w RR L (t :: ts) k g cap wr) (hw:isP word (t :: ts)=true) (hone:one ts=.ok c2 ts2) (hl:ts2.length≤ts.length)
  (hm4:PMem B pb wr w4) (hm5:PMem B pb w4 w5) (hp5:PAt B w5 pb ts2 fin) (hc5:CondP (fun b=>w4.heap.size≤b) w5 c2 a2)
  (hown:w9.ownsRow (w.heap.size+1) 24 5 v' (L.length+1) (L.flatMap encC++encC (c2,a2,cap2)))
  (hg:(w5.alloc (.cells (encC (c2,a2,cap2)).toArray 24)).grownBy w9 (some g)) (hv:v'.ownBlock=some g∨v'.ownBlock=some (w5.alloc (.cells (encC (c2,a2,cap2)).toArray 24)).heap.size) :
  ∃k' g' cap',v'=.slice (some ⟨g',0,none⟩) (L.length+1) cap'∧SerI one word B pb fin n w RR (L++[(c2,a2,cap2)]) ts2 k' g' cap' w9:=by
 obtain ⟨g',cap',rfl,hg1,hg2⟩:=own_slice hown (by omega)
 have hgl:g<wr.heap.size∧w.heap.size+1≤g:=by
  obtain ⟨g2,cap3,e,e1,e2⟩:=own_slice h.own h.pos
  injection e with e _ _
  injection e with e
  injection e with e
  omega
 have s4:=hm4.keep.1
 have s5:=hm5.keep.1
 have s6:(w5.alloc (.cells (encC (c2,a2,cap2)).toArray 24)).heap.size=w5.heap.size+1:=by simp
 rw [s6] at hv
 have hgv:g'=g∨g'=w5.heap.size+1:=by
  rcases hv with hv | hv<;>simp [Value.ownBlock] at hv<;>omega
 have same:∀b,b<w5.heap.size→b≠g→w9.heap[b]?=w5.heap[b]?:=fun b hb hne=>by
  rw [hg.block b (by rw [s6];omega) (by simpa using hne),Below.heap_alloc _ _ _ hb]
 have s9:w5.heap.size≤w9.heap.size:=by have:=hg.size;rw [s6] at this;omega
 have low9:Below B w5 w9:=((Below.refl B w5).alloc (by have:=lt_of_block h.res;omega) _).grown hg (by rw [s6];have:=lt_of_block h.res;omega) (fun j ej=>by injection ej with ej;omega)
 obtain ⟨k',rfl⟩:∃k',k=k'+1:=⟨k - 1,by have:=h.fuel;rw [List.length_cons] at this;omega⟩
 have hf:=h.fuel
 have hfw:=h.few
 have hmn:=h.many
 rw [List.length_cons] at hf hfw hmn
 refine ⟨k',g',cap',rfl,⟨hp5.keep low9 (same pb (by have:=h.mem.keep.1;omega) (by omega)),by omega,by omega,⟨((h.mem.low.trans hm4.low).trans hm5.low).trans low9,⟨by have:=((h.mem.trans hm4).trans hm5).keep.1;omega,fun i hi hne=>?_⟩⟩,?_,by simpa using hown,?_,by simp,by simp;omega,?_⟩⟩
 ·have:=((h.mem.trans hm4).trans hm5).keep.1
  rw [same i (by omega) (by omega)]
  exact ((h.mem.trans hm4).trans hm5).keep.2 i hi hne
 ·have hlt:=lt_of_block h.res
  rw [same _ (by omega) (by omega),hm5.keep.2 _ (by omega) (by omega),hm4.keep.2 _ (by omega) (by omega)]
  exact h.res
 ·intro x hx
  rcases List.mem_append.1 hx with hx | hx
  ·refine (h.conds x hx).to (fun b h1 h2=>⟨h1.1,by omega⟩) fun b h1 h2=>?_
   rw [same b (by omega) h1.2,hm5.keep.2 b (by omega) (by omega),hm4.keep.2 b (by omega) (by omega)]
  ·rw [List.mem_singleton.1 hx]
   have:=h.mem.keep.1
   have hlt:=lt_of_block h.res
   exact hc5.to (fun b h1 h2=>⟨by omega,by omega⟩) fun b h1 h2=>same b h2 (by omega)
 ·have hr:=h.run
  rw [moreP,hw,if_pos rfl] at hr
  rw [←hr]
  show _=(one ts).bind _
  rw [hone,List.map_append]
  rfl
end Go.Proofs.YtdfenhjibnfdeaaGreatDoor

namespace Go.Proofs.YtdfenhjibnfdeaaGreatDoor
open Go.RowKit Go.Shelf
theorem series_bad {one:List TokD→PR CondD} {word:ByteArray} {op:Int} {ts:List TokD} {er:Int} {off:Nat} (h:one ts=.bad er off):seriesP one word op ts=.bad er off:=by rw [seriesP,h];rfl
theorem series_ok {one:List TokD→PR CondD} {word:ByteArray} {op:Int} {ts r r2:List TokD} {c:CondD} {l:List CondD} (h:one ts=.ok c r) (h2:moreP one word r.length [c] r=.ok l r2):seriesP one word op ts=.ok (mkP op l) r2:=by
 rw [seriesP,h]
 show (moreP one word r.length [c] r).bind _=_
 rw [h2];rfl
theorem series_worse {one:List TokD→PR CondD} {word:ByteArray} {op:Int} {ts r:List TokD} {c:CondD} {er:Int} {off:Nat} (h:one ts=.ok c r) (h2:moreP one word r.length [c] r=.bad er off):seriesP one word op ts=.bad er off:=by
 rw [seriesP,h]
 show (moreP one word r.length [c] r).bind _=_
 rw [h2];rfl
theorem moreP_bad {one:List TokD→PR CondD} {word:ByteArray} {k:Nat} {acc:List CondD} {t:TokD} {ts:List TokD} {er:Int} {off:Nat} (hk:(t :: ts).length≤k) (hw:isP word (t :: ts)=true) (h:one ts=.bad er off):moreP one word k acc (t :: ts)=.bad er off:=by
 obtain ⟨k',rfl⟩:∃k',k=k'+1:=⟨k - 1,by rw [List.length_cons] at hk;omega⟩
 rw [moreP,hw,if_pos rfl]
 show (one ts).bind _=_
 rw [h];rfl
theorem mkP_more (op:Int) (l:List CondD) (h:l.length≠1):mkP op l=.mk op emptyB emptyB 0 l:=by
 match l,h with
 |[],_=>rfl
 |[_],h=>exact absurd rfl h
 |_ :: _ :: _,_=>rfl
abbrev set5 (w:World) (b:Nat) (v0 v1 v2 v3 v4:Value):World:=((((w.setCell ⟨b,0,none⟩ v0).setCell ⟨b,1,none⟩ v1).setCell ⟨b,2,none⟩ v2).setCell ⟨b,3,none⟩ v3).setCell ⟨b,4,none⟩ v4
theorem set5_row {w:World} {b:Nat} {u0 u1 u2 u3 u4:Value} {T:TypeId} (h:w.heap[b]?=some (.cells #[u0,u1,u2,u3,u4] T (0,0))) (v0 v1 v2 v3 v4:Value):(set5 w b v0 v1 v2 v3 v4).heap[b]?=some (.cells #[v0,v1,v2,v3,v4] T (0,0)) :=
 row_set (i:=4) (row_set (i:=3) (row_set (i:=2) (row_set (i:=1) (row_set (i:=0) h))))
theorem set5_heap {w:World} {b i:Nat} (v0 v1 v2 v3 v4:Value) (h:i≠b):(set5 w b v0 v1 v2 v3 v4).heap[i]?=w.heap[i]?:=by
 rw [Below.heap_setCell _ _ _ _ h,Below.heap_setCell _ _ _ _ h,Below.heap_setCell _ _ _ _ h,Below.heap_setCell _ _ _ _ h,Below.heap_setCell _ _ _ _ h]
theorem set5_low {B:Nat} {w W:World} {b:Nat} (h:Below B w W) (hb:B≤b) (v0 v1 v2 v3 v4:Value):Below B w (set5 W b v0 v1 v2 v3 v4) :=
 ((((h.setCell hb _).setCell hb _).setCell hb _).setCell hb _).setCell hb _
theorem set5_size {w:World} {b:Nat} (v0 v1 v2 v3 v4:Value):(set5 w b v0 v1 v2 v3 v4).heap.size=w.heap.size:=by simp [set5]
theorem res5 {B pb fin:Nat} {w W wF:World} {v0 v1 v2 v3 v4:Value} {ts:List TokD} {c:CondD} {a:Option Addr} {cap:Nat} (hwF:set5 W w.heap.size v0 v1 v2 v3 v4=wF) (hBw:B≤w.heap.size) (hpb:pb<w.heap.size) (hm:PMem B pb w W) (hp:PAt B W pb ts fin) (hv:condV c a cap=.agg #[v0,v1,v2,v3,v4])
  (hc:CondP (fun b=>w.heap.size+1≤b) W c a):PRes B pb fin (condR w.heap.size) (.ok c ts) w (.returned (.agg #[v0,v1,v2,v3,v4])) wF:=by
 subst hwF
 refine ⟨⟨set5_low hm.low hBw _ _ _ _ _,by rw [set5_size];exact hm.keep.1,fun i hi hne=>by rw [set5_heap _ _ _ _ _ (by omega)];exact hm.keep.2 i hi hne⟩,_,rfl,⟨a,cap,hv.symm,?_⟩,hp.keep (set5_low (Below.refl _ _) hBw _ _ _ _ _) (set5_heap _ _ _ _ _ (by omega))⟩
 exact hc.to (fun b h1 _=>by omega) fun b h1 _=>set5_heap _ _ _ _ _ (by omega)
set_option maxRecDepth 100000 in
set_option maxHeartbeats 4000000 in
theorem seriesN_any (one:List TokD→PR CondD) (hone:∀ts c r,one ts=.ok c r→r.length≤ts.length) (B pb fin n:Nat) (hB:B≤pb)
  (H1:∀ts W,ts.length≤n→B≤W.heap.size→PAt B W pb ts fin→Calls Tryz.prog 125 #[.pointer (some ⟨pb,0,none⟩)] W (PRes B pb fin (condR W.heap.size) (one ts) W))
  (word:ByteArray) (op:Int) (ts:List TokD) (w:World) (hBw:B≤w.heap.size) (hlen:ts.length≤n) (h:PAt B w pb ts fin) :
  Calls Tryz.prog 100 #[.pointer (some ⟨pb,0,none⟩),.string word,.func (.func 125) #[.pointer (some ⟨pb,0,none⟩)] #[],.func (.func 102) #[.int .i64 op] #[]] w (PRes B pb fin (condR w.heap.size) (seriesP one word op ts) w):=by
 have hpb:pb<w.heap.size:=by obtain ⟨_,h1,_⟩:=h;exact lt_of_block h1
 have b1:=(Below.refl w.heap.size w).alloc (Nat.le_refl _) (.cells zeroC 24)
 have HR0:=Lib.hid (row_new w (.cells zeroC 24))
 have HC1:=Lib.hid (H1 ts _ hlen (by simp;omega) (h.low b1))
 have HH1:=Lib.hid H1
 have HONE:=Lib.hid hone
 have M1:=Lib.hid (PMem.of_low (pb:=pb) hBw b1)
 clear h H1 hone b1
 obtain ⟨RES,hRES⟩:∃z,seriesP one word op ts=z:=⟨_,rfl⟩
 rw [hRES]
 have HRES:=Lib.hid hRES
 clear hRES
 cases hr:one ts with
 |bad er off =>
  rw [hr] at HC1
  have HB:=Lib.hid (HRES.out.symm.trans (series_bad hr))
  clear hr
  go_enter Tryz.func100,Tryz.ntmps100
  go_wp2_with fail
  refine HC1.out.mono ?_
  rintro e w2 ⟨hm,rfl⟩
  exact ⟨rfl,by rw [HB.out];exact ⟨M1.out.trans hm,rfl⟩⟩
 |ok c r =>
  rw [hr] at HC1
  have HRR:=Lib.hid hr
  have hl:=HONE.out _ _ _ hr
  obtain ⟨i0,hi,hi0,hi1,hi2⟩:=info_parts infoCond
  clear hr
  go_enter Tryz.func100,Tryz.ntmps100
  go_wp2_with fail
  refine HC1.out.mono ?_
  rintro e w2 ⟨hm,v,rfl,⟨a0,cap0,rfl,hc0⟩,hp⟩
  have hz:=(hm.keep.2 _ (by simp) (by omega)).trans HR0.out
  simp only [World.size_alloc] at hc0
  have HS:=Lib.hid (SerI.start (one:=one) (word:=word) (n:=n) (cap:=cap0) hB hpb hp (by omega) (M1.out.trans hm) hz hc0)
  clear hm hp hc0 hz HC1 M1 HR0
  rw [cond_cells]
  go_wp2
  go_loopw [9] (fun v wr=>∃(L:List CE) (ts':List TokD) (k g cap:Nat),v=.slice (some ⟨g,0,none⟩) L.length cap∧Hid (SerI one word B pb fin n w (moreP one word r.length [c] r) L ts' k g cap wr)) (fun _ wr=>leftP wr pb)
  case atStart=>exact ⟨_,_,_,_,_,rfl,HS⟩
  case round =>
   clear HS
   obtain ⟨L,ts',k,g,cap,rfl,HS⟩:=hrel
   have SK:=Lib.hid (skip_any B pb hB ts' fin word _ HS.out.at')
   cases hw:isP word ts'
   ·rw [hw] at SK
    have hrun:=HS.out.run
    rw [moreP_end _ _ _ _ _ hw] at hrun
    have HOK:=Lib.hid (HRES.out.symm.trans (series_ok HRR.out hrun.symm))
    have hpos:=HS.out.pos
    have hmany:=HS.out.many
    clear hw hrun
    by_cases hL:L.length=1
    ·obtain ⟨x,rfl⟩:=List.length_eq_one_iff.1 hL
     have l1:((([x]:List CE).length:Int)==1)=true:=rfl
     clear hL
     go_wp2_with fail
     refine SK.out.mono ?_
     rintro e w4 ⟨rfl,hp4,hm4⟩
     have hgw:w.heap.size+1≤g∧g<wr.heap.size:=by
      obtain ⟨g2,cap3,e,e1,e2⟩:=own_slice HS.out.own HS.out.pos
      injection e with e _ _
      injection e with e
      injection e with e
      omega
     have o4:=own_move HS.out.own (hm4.keep.2 g hgw.2 (by omega))
     have hc:=World.ownsRow.cells o4 (g:=g) rfl
     have q0:=hc 0 _ rfl
     have q1:=hc 1 _ rfl
     have q2:=hc 2 _ rfl
     have q3:=hc 3 _ rfl
     have q4:=hc 4 _ rfl
     rw [Addr.add_lit] at q0 q1 q2 q3 q4
     simp only [Nat.zero_add] at q0 q1 q2 q3 q4
     have hz4:=(hm4.keep.2 _ (lt_of_block HS.out.res) (by omega)).trans HS.out.res
     unfold zeroC at hz4
     have HZ4:=Lib.hid hz4
     have HC:=Lib.hid ((HS.out.conds x (List.mem_singleton.2 rfl)).to (Q:=fun b=>w.heap.size+1≤b) (fun b h1 _=>h1.1) fun b h1 h2=>hm4.keep.2 b h2 (by omega))
     have HM:=Lib.hid (HS.out.mem.trans hm4)
     have HP4:=Lib.hid hp4
     clear hz4 o4 hc hm4 hp4
     obtain ⟨zz,z0,z1,z2,z3,z4⟩:=rk5 HZ4.out
     have zf0:=frozen_of_row w4 _ 0 _ _ HZ4.out
     have zf1:=frozen_of_row w4 _ 1 _ _ HZ4.out
     have zf2:=frozen_of_row w4 _ 2 _ _ HZ4.out
     have zf3:=frozen_of_row w4 _ 3 _ _ HZ4.out
     have zf4:=frozen_of_row w4 _ 4 _ _ HZ4.out
     go_wp2
     generalize hwF:((((w4.setCell ⟨w.heap.size,0,none⟩ (.int .i64 x.1.op)).setCell ⟨w.heap.size,1,none⟩ (.string x.1.key)).setCell ⟨w.heap.size,2,none⟩ (.string x.1.val)).setCell ⟨w.heap.size,3,none⟩ (.int .i64 x.1.n)).setCell ⟨w.heap.size,4,none⟩ (.slice x.2.1 x.1.kids.length x.2.2)=wF
     have HF:=Lib.hid (show wF.heap[w.heap.size]?=some (.cells #[.int .i64 x.1.op,.string x.1.key,.string x.1.val,.int .i64 x.1.n,.slice x.2.1 x.1.kids.length x.2.2] 24 (0,0)) by rw [←hwF];exact set5_row HZ4.out _ _ _ _ _)
     obtain ⟨sz,s0,s1,s2,s3,s4⟩:=rk5 HF.out
     refine bodyPost_ret (v:=.agg #[.int .i64 x.1.op,.string x.1.key,.string x.1.val,.int .i64 x.1.n,.slice x.2.1 x.1.kids.length x.2.2]) (by simp [results,Tryz.results100,go_sem,s0,s1,s2,s3,s4]) rfl ?_
     rw [HOK.out]
     exact res5 hwF hBw hpb HM.out HP4.out rfl HC.out
    ·have l1:((L.length:Int)==1)=false:=by rw [beq_eq_false_iff_ne];omega
     go_wp2_with fail
     refine SK.out.mono ?_
     rintro e w4 ⟨rfl,hp4,hm4⟩
     have OF:=Lib.hid (of_any op (some ⟨g,0,none⟩) L.length cap w4)
     go_wp2_with fail
     refine OF.out.mono ?_
     rintro e w5 ⟨rfl,hb5⟩
     have hgw:w.heap.size+1≤g∧g<wr.heap.size:=by
      obtain ⟨g2,cap3,e,e1,e2⟩:=own_slice HS.out.own HS.out.pos
      injection e with e _ _
      injection e with e
      injection e with e
      omega
     have hs4:=hm4.keep.1
     have hz4:=row_later hb5 ((hm4.keep.2 _ (lt_of_block HS.out.res) (by omega)).trans HS.out.res)
     unfold zeroC at hz4
     have HZ4:=Lib.hid hz4
     have o4:=own_move (own_move HS.out.own (hm4.keep.2 g hgw.2 (by omega))) (hb5.block g (by omega))
     have HC:=Lib.hid (show CondP (fun b=>w.heap.size+1≤b) w5 (.mk op emptyB emptyB 0 (L.map (·.1))) (some ⟨g,0,none⟩) by
      rw [CondP]
      refine ⟨by decide,by decide,by rw [List.length_map];omega,fun _=>⟨g,0,rfl,hgw.1,row_kids o4 fun x hx=>?_⟩⟩
      exact (HS.out.conds x hx).to (Q:=fun b=>w.heap.size+1≤b) (fun b h1 _=>h1.1) fun b h1 h2=>(hb5.block b (by omega)).trans (hm4.keep.2 b h2 (by omega)))
     have HM:=Lib.hid ((HS.out.mem.trans hm4).trans (PMem.of_low (pb:=pb) (by have:=HS.out.mem.keep.1;omega) hb5))
     have HP4:=Lib.hid (hp4.low hb5)
     have HMK:=Lib.hid (mkP_more op (L.map (·.1)) (by rw [List.length_map];exact hL))
     clear hz4 o4 hm4 hp4 hb5
     obtain ⟨zz,z0,z1,z2,z3,z4⟩:=rk5 HZ4.out
     have zf0:=frozen_of_row w5 _ 0 _ _ HZ4.out
     have zf1:=frozen_of_row w5 _ 1 _ _ HZ4.out
     have zf2:=frozen_of_row w5 _ 2 _ _ HZ4.out
     have zf3:=frozen_of_row w5 _ 3 _ _ HZ4.out
     have zf4:=frozen_of_row w5 _ 4 _ _ HZ4.out
     go_wp2
     generalize hwF:((((w5.setCell ⟨w.heap.size,0,none⟩ (.int .i64 op)).setCell ⟨w.heap.size,1,none⟩ (.string ⟨#[]⟩)).setCell ⟨w.heap.size,2,none⟩ (.string ⟨#[]⟩)).setCell ⟨w.heap.size,3,none⟩ (.int .i64 0)).setCell ⟨w.heap.size,4,none⟩ (.slice (some ⟨g,0,none⟩) L.length cap)=wF
     have HF:=Lib.hid (show wF.heap[w.heap.size]?=some (.cells #[.int .i64 op,.string ⟨#[]⟩,.string ⟨#[]⟩,.int .i64 0,.slice (some ⟨g,0,none⟩) L.length cap] 24 (0,0)) by rw [←hwF];exact set5_row HZ4.out _ _ _ _ _)
     obtain ⟨sz,s0,s1,s2,s3,s4⟩:=rk5 HF.out
     refine bodyPost_ret (v:=.agg #[.int .i64 op,.string ⟨#[]⟩,.string ⟨#[]⟩,.int .i64 0,.slice (some ⟨g,0,none⟩) L.length cap]) (by simp [results,Tryz.results100,go_sem,s0,s1,s2,s3,s4]) rfl ?_
     rw [HOK.out,HMK.out]
     exact res5 hwF hBw hpb HM.out HP4.out (by show Value.agg #[.int .i64 op,.string ⟨#[]⟩,.string ⟨#[]⟩,.int .i64 0,.slice (some ⟨g,0,none⟩) (L.map (·.1)).length cap]=_;rw [List.length_map]) HC.out
   ·obtain ⟨t,r',rfl⟩:=isP_cons hw
    rw [hw] at SK
    have HWD:=Lib.hid hw
    clear hw
    go_wp2_with fail
    refine SK.out.mono ?_
    rintro e w4 ⟨rfl,hp4,hm4⟩
    have hfew:=HS.out.few
    have hfuel:=HS.out.fuel
    have hmany:=HS.out.many
    have hs4:=hm4.keep.1
    have hsr:=HS.out.mem.keep.1
    rw [List.length_cons] at hfew hmany
    have HC2:=Lib.hid (HH1.out r' w4 (by omega) (by omega) hp4)
    have HP4:=Lib.hid hp4
    have HM4:=Lib.hid hm4
    clear hp4 hm4
    cases hr2:one r' with
    |bad er off =>
     rw [hr2] at HC2
     have hrun:=HS.out.run
     rw [moreP_bad hfuel HWD.out hr2] at hrun
     have HB:=Lib.hid (HRES.out.symm.trans (series_worse HRR.out hrun.symm))
     have HM:=Lib.hid ((HS.out.mem.trans HM4.out))
     clear hrun hr2
     go_wp2_with fail
     refine HC2.out.mono ?_
     rintro e w5 ⟨hm,rfl⟩
     exact ⟨rfl,by rw [HB.out];exact ⟨HM.out.trans hm,rfl⟩⟩
    |ok c2 r2 =>
     rw [hr2] at HC2
     have HR2:=Lib.hid hr2
     have hl2:=HONE.out _ _ _ hr2
     clear hr2
     go_wp2_with fail
     refine HC2.out.mono ?_
     rintro e w5 ⟨hm5,v,rfl,⟨a2,cap2,rfl,hc5⟩,hp5⟩
     have HM5:=Lib.hid hm5
     have HC5:=Lib.hid hc5
     have HP5:=Lib.hid hp5
     have hs5:=hm5.keep.1
     have hgw:w.heap.size+1≤g∧g<wr.heap.size:=by
      obtain ⟨g2,cap3,e,e1,e2⟩:=own_slice HS.out.own HS.out.pos
      injection e with e _ _
      injection e with e
      injection e with e
      omega
     have O5:=Lib.hid (own_move (own_move HS.out.own (HM4.out.keep.2 g hgw.2 (by omega))) (hm5.keep.2 g (by omega) (by omega)))
     clear hm5 hc5 hp5
     rw [cond_cells c2 a2 cap2]
     go_wp2_with (at_builtin;refine wpList_append_own_at _ rfl _ _ 22 rfl (w.heap.size+1) 24 i0 (.agg #[.int .i64 0,.string ⟨#[]⟩,.string ⟨#[]⟩,.int .i64 0,.slice none 0 0]) 5 72 Tryz.underlying22 hi hi0 hi1 hi2 rfl (by decide) _ _ _ rfl (O5.out.alloc _) ⟨w5.heap.size,0,none⟩ 1 1 (encC (c2,a2,cap2)) rfl rfl (cells_newQ w5 _ _) (encC_one _) (by unfold maxLen;omega) (by omega) (by simp;omega) ?_;intro v' w9 hown9 hgrow9 _ hblk9;obtain ⟨k',g',cap',hv',hS'⟩:=SerI.next hB hpb HS.out HWD.out HR2.out hl2 HM4.out HM5.out HP5.out HC5.out hown9 hgrow9 hblk9;subst hv';have HS9:=Lib.hid hS';clear hown9 hgrow9 hblk9 hS')
     go_roundw
     case rel=>exact ⟨_,_,_,_,_,by simp,HS9⟩
     case measure=>rw [HS9.out.at'.left,HS.out.at'.left];simp;omega
set_option maxRecDepth 100000 in
set_option maxHeartbeats 4000000 in
theorem seriesA_any (one:List TokD→PR CondD) (hone:∀ts c r,one ts=.ok c r→r.length≤ts.length) (B pb fin n:Nat) (hB:B≤pb)
  (H1:∀ts W,ts.length≤n→B≤W.heap.size→PAt B W pb ts fin→Calls Tryz.prog 101 #[.pointer (some ⟨pb,0,none⟩)] W (PRes B pb fin (condR W.heap.size) (one ts) W))
  (word:ByteArray) (op:Int) (ts:List TokD) (w:World) (hBw:B≤w.heap.size) (hlen:ts.length≤n) (h:PAt B w pb ts fin) :
  Calls Tryz.prog 100 #[.pointer (some ⟨pb,0,none⟩),.string word,.func (.func 101) #[.pointer (some ⟨pb,0,none⟩)] #[],.func (.func 102) #[.int .i64 op] #[]] w (PRes B pb fin (condR w.heap.size) (seriesP one word op ts) w):=by
 have hpb:pb<w.heap.size:=by obtain ⟨_,h1,_⟩:=h;exact lt_of_block h1
 have b1:=(Below.refl w.heap.size w).alloc (Nat.le_refl _) (.cells zeroC 24)
 have HR0:=Lib.hid (row_new w (.cells zeroC 24))
 have HC1:=Lib.hid (H1 ts _ hlen (by simp;omega) (h.low b1))
 have HH1:=Lib.hid H1
 have HONE:=Lib.hid hone
 have M1:=Lib.hid (PMem.of_low (pb:=pb) hBw b1)
 clear h H1 hone b1
 obtain ⟨RES,hRES⟩:∃z,seriesP one word op ts=z:=⟨_,rfl⟩
 rw [hRES]
 have HRES:=Lib.hid hRES
 clear hRES
 cases hr:one ts with
 |bad er off =>
  rw [hr] at HC1
  have HB:=Lib.hid (HRES.out.symm.trans (series_bad hr))
  clear hr
  go_enter Tryz.func100,Tryz.ntmps100
  go_wp2_with fail
  refine HC1.out.mono ?_
  rintro e w2 ⟨hm,rfl⟩
  exact ⟨rfl,by rw [HB.out];exact ⟨M1.out.trans hm,rfl⟩⟩
 |ok c r =>
  rw [hr] at HC1
  have HRR:=Lib.hid hr
  have hl:=HONE.out _ _ _ hr
  obtain ⟨i0,hi,hi0,hi1,hi2⟩:=info_parts infoCond
  clear hr
  go_enter Tryz.func100,Tryz.ntmps100
  go_wp2_with fail
  refine HC1.out.mono ?_
  rintro e w2 ⟨hm,v,rfl,⟨a0,cap0,rfl,hc0⟩,hp⟩
  have hz:=(hm.keep.2 _ (by simp) (by omega)).trans HR0.out
  simp only [World.size_alloc] at hc0
  have HS:=Lib.hid (SerI.start (one:=one) (word:=word) (n:=n) (cap:=cap0) hB hpb hp (by omega) (M1.out.trans hm) hz hc0)
  clear hm hp hc0 hz HC1 M1 HR0
  rw [cond_cells]
  go_wp2
  go_loopw [9] (fun v wr=>∃(L:List CE) (ts':List TokD) (k g cap:Nat),v=.slice (some ⟨g,0,none⟩) L.length cap∧Hid (SerI one word B pb fin n w (moreP one word r.length [c] r) L ts' k g cap wr)) (fun _ wr=>leftP wr pb)
  case atStart=>exact ⟨_,_,_,_,_,rfl,HS⟩
  case round =>
   clear HS
   obtain ⟨L,ts',k,g,cap,rfl,HS⟩:=hrel
   have SK:=Lib.hid (skip_any B pb hB ts' fin word _ HS.out.at')
   cases hw:isP word ts'
   ·rw [hw] at SK
    have hrun:=HS.out.run
    rw [moreP_end _ _ _ _ _ hw] at hrun
    have HOK:=Lib.hid (HRES.out.symm.trans (series_ok HRR.out hrun.symm))
    have hpos:=HS.out.pos
    have hmany:=HS.out.many
    clear hw hrun
    by_cases hL:L.length=1
    ·obtain ⟨x,rfl⟩:=List.length_eq_one_iff.1 hL
     have l1:((([x]:List CE).length:Int)==1)=true:=rfl
     clear hL
     go_wp2_with fail
     refine SK.out.mono ?_
     rintro e w4 ⟨rfl,hp4,hm4⟩
     have hgw:w.heap.size+1≤g∧g<wr.heap.size:=by
      obtain ⟨g2,cap3,e,e1,e2⟩:=own_slice HS.out.own HS.out.pos
      injection e with e _ _
      injection e with e
      injection e with e
      omega
     have o4:=own_move HS.out.own (hm4.keep.2 g hgw.2 (by omega))
     have hc:=World.ownsRow.cells o4 (g:=g) rfl
     have q0:=hc 0 _ rfl
     have q1:=hc 1 _ rfl
     have q2:=hc 2 _ rfl
     have q3:=hc 3 _ rfl
     have q4:=hc 4 _ rfl
     rw [Addr.add_lit] at q0 q1 q2 q3 q4
     simp only [Nat.zero_add] at q0 q1 q2 q3 q4
     have hz4:=(hm4.keep.2 _ (lt_of_block HS.out.res) (by omega)).trans HS.out.res
     unfold zeroC at hz4
     have HZ4:=Lib.hid hz4
     have HC:=Lib.hid ((HS.out.conds x (List.mem_singleton.2 rfl)).to (Q:=fun b=>w.heap.size+1≤b) (fun b h1 _=>h1.1) fun b h1 h2=>hm4.keep.2 b h2 (by omega))
     have HM:=Lib.hid (HS.out.mem.trans hm4)
     have HP4:=Lib.hid hp4
     clear hz4 o4 hc hm4 hp4
     obtain ⟨zz,z0,z1,z2,z3,z4⟩:=rk5 HZ4.out
     have zf0:=frozen_of_row w4 _ 0 _ _ HZ4.out
     have zf1:=frozen_of_row w4 _ 1 _ _ HZ4.out
     have zf2:=frozen_of_row w4 _ 2 _ _ HZ4.out
     have zf3:=frozen_of_row w4 _ 3 _ _ HZ4.out
     have zf4:=frozen_of_row w4 _ 4 _ _ HZ4.out
     go_wp2
     generalize hwF:((((w4.setCell ⟨w.heap.size,0,none⟩ (.int .i64 x.1.op)).setCell ⟨w.heap.size,1,none⟩ (.string x.1.key)).setCell ⟨w.heap.size,2,none⟩ (.string x.1.val)).setCell ⟨w.heap.size,3,none⟩ (.int .i64 x.1.n)).setCell ⟨w.heap.size,4,none⟩ (.slice x.2.1 x.1.kids.length x.2.2)=wF
     have HF:=Lib.hid (show wF.heap[w.heap.size]?=some (.cells #[.int .i64 x.1.op,.string x.1.key,.string x.1.val,.int .i64 x.1.n,.slice x.2.1 x.1.kids.length x.2.2] 24 (0,0)) by rw [←hwF];exact set5_row HZ4.out _ _ _ _ _)
     obtain ⟨sz,s0,s1,s2,s3,s4⟩:=rk5 HF.out
     refine bodyPost_ret (v:=.agg #[.int .i64 x.1.op,.string x.1.key,.string x.1.val,.int .i64 x.1.n,.slice x.2.1 x.1.kids.length x.2.2]) (by simp [results,Tryz.results100,go_sem,s0,s1,s2,s3,s4]) rfl ?_
     rw [HOK.out]
     exact res5 hwF hBw hpb HM.out HP4.out rfl HC.out
    ·have l1:((L.length:Int)==1)=false:=by rw [beq_eq_false_iff_ne];omega
     go_wp2_with fail
     refine SK.out.mono ?_
     rintro e w4 ⟨rfl,hp4,hm4⟩
     have OF:=Lib.hid (of_any op (some ⟨g,0,none⟩) L.length cap w4)
     go_wp2_with fail
     refine OF.out.mono ?_
     rintro e w5 ⟨rfl,hb5⟩
     have hgw:w.heap.size+1≤g∧g<wr.heap.size:=by
      obtain ⟨g2,cap3,e,e1,e2⟩:=own_slice HS.out.own HS.out.pos
      injection e with e _ _
      injection e with e
      injection e with e
      omega
     have hs4:=hm4.keep.1
     have hz4:=row_later hb5 ((hm4.keep.2 _ (lt_of_block HS.out.res) (by omega)).trans HS.out.res)
     unfold zeroC at hz4
     have HZ4:=Lib.hid hz4
     have o4:=own_move (own_move HS.out.own (hm4.keep.2 g hgw.2 (by omega))) (hb5.block g (by omega))
     have HC:=Lib.hid (show CondP (fun b=>w.heap.size+1≤b) w5 (.mk op emptyB emptyB 0 (L.map (·.1))) (some ⟨g,0,none⟩) by
      rw [CondP]
      refine ⟨by decide,by decide,by rw [List.length_map];omega,fun _=>⟨g,0,rfl,hgw.1,row_kids o4 fun x hx=>?_⟩⟩
      exact (HS.out.conds x hx).to (Q:=fun b=>w.heap.size+1≤b) (fun b h1 _=>h1.1) fun b h1 h2=>(hb5.block b (by omega)).trans (hm4.keep.2 b h2 (by omega)))
     have HM:=Lib.hid ((HS.out.mem.trans hm4).trans (PMem.of_low (pb:=pb) (by have:=HS.out.mem.keep.1;omega) hb5))
     have HP4:=Lib.hid (hp4.low hb5)
     have HMK:=Lib.hid (mkP_more op (L.map (·.1)) (by rw [List.length_map];exact hL))
     clear hz4 o4 hm4 hp4 hb5
     obtain ⟨zz,z0,z1,z2,z3,z4⟩:=rk5 HZ4.out
     have zf0:=frozen_of_row w5 _ 0 _ _ HZ4.out
     have zf1:=frozen_of_row w5 _ 1 _ _ HZ4.out
     have zf2:=frozen_of_row w5 _ 2 _ _ HZ4.out
     have zf3:=frozen_of_row w5 _ 3 _ _ HZ4.out
     have zf4:=frozen_of_row w5 _ 4 _ _ HZ4.out
     go_wp2
     generalize hwF:((((w5.setCell ⟨w.heap.size,0,none⟩ (.int .i64 op)).setCell ⟨w.heap.size,1,none⟩ (.string ⟨#[]⟩)).setCell ⟨w.heap.size,2,none⟩ (.string ⟨#[]⟩)).setCell ⟨w.heap.size,3,none⟩ (.int .i64 0)).setCell ⟨w.heap.size,4,none⟩ (.slice (some ⟨g,0,none⟩) L.length cap)=wF
     have HF:=Lib.hid (show wF.heap[w.heap.size]?=some (.cells #[.int .i64 op,.string ⟨#[]⟩,.string ⟨#[]⟩,.int .i64 0,.slice (some ⟨g,0,none⟩) L.length cap] 24 (0,0)) by rw [←hwF];exact set5_row HZ4.out _ _ _ _ _)
     obtain ⟨sz,s0,s1,s2,s3,s4⟩:=rk5 HF.out
     refine bodyPost_ret (v:=.agg #[.int .i64 op,.string ⟨#[]⟩,.string ⟨#[]⟩,.int .i64 0,.slice (some ⟨g,0,none⟩) L.length cap]) (by simp [results,Tryz.results100,go_sem,s0,s1,s2,s3,s4]) rfl ?_
     rw [HOK.out,HMK.out]
     exact res5 hwF hBw hpb HM.out HP4.out (by show Value.agg #[.int .i64 op,.string ⟨#[]⟩,.string ⟨#[]⟩,.int .i64 0,.slice (some ⟨g,0,none⟩) (L.map (·.1)).length cap]=_;rw [List.length_map]) HC.out
   ·obtain ⟨t,r',rfl⟩:=isP_cons hw
    rw [hw] at SK
    have HWD:=Lib.hid hw
    clear hw
    go_wp2_with fail
    refine SK.out.mono ?_
    rintro e w4 ⟨rfl,hp4,hm4⟩
    have hfew:=HS.out.few
    have hfuel:=HS.out.fuel
    have hmany:=HS.out.many
    have hs4:=hm4.keep.1
    have hsr:=HS.out.mem.keep.1
    rw [List.length_cons] at hfew hmany
    have HC2:=Lib.hid (HH1.out r' w4 (by omega) (by omega) hp4)
    have HP4:=Lib.hid hp4
    have HM4:=Lib.hid hm4
    clear hp4 hm4
    cases hr2:one r' with
    |bad er off =>
     rw [hr2] at HC2
     have hrun:=HS.out.run
     rw [moreP_bad hfuel HWD.out hr2] at hrun
     have HB:=Lib.hid (HRES.out.symm.trans (series_worse HRR.out hrun.symm))
     have HM:=Lib.hid ((HS.out.mem.trans HM4.out))
     clear hrun hr2
     go_wp2_with fail
     refine HC2.out.mono ?_
     rintro e w5 ⟨hm,rfl⟩
     exact ⟨rfl,by rw [HB.out];exact ⟨HM.out.trans hm,rfl⟩⟩
    |ok c2 r2 =>
     rw [hr2] at HC2
     have HR2:=Lib.hid hr2
     have hl2:=HONE.out _ _ _ hr2
     clear hr2
     go_wp2_with fail
     refine HC2.out.mono ?_
     rintro e w5 ⟨hm5,v,rfl,⟨a2,cap2,rfl,hc5⟩,hp5⟩
     have HM5:=Lib.hid hm5
     have HC5:=Lib.hid hc5
     have HP5:=Lib.hid hp5
     have hs5:=hm5.keep.1
     have hgw:w.heap.size+1≤g∧g<wr.heap.size:=by
      obtain ⟨g2,cap3,e,e1,e2⟩:=own_slice HS.out.own HS.out.pos
      injection e with e _ _
      injection e with e
      injection e with e
      omega
     have O5:=Lib.hid (own_move (own_move HS.out.own (HM4.out.keep.2 g hgw.2 (by omega))) (hm5.keep.2 g (by omega) (by omega)))
     clear hm5 hc5 hp5
     rw [cond_cells c2 a2 cap2]
     go_wp2_with (at_builtin;refine wpList_append_own_at _ rfl _ _ 22 rfl (w.heap.size+1) 24 i0 (.agg #[.int .i64 0,.string ⟨#[]⟩,.string ⟨#[]⟩,.int .i64 0,.slice none 0 0]) 5 72 Tryz.underlying22 hi hi0 hi1 hi2 rfl (by decide) _ _ _ rfl (O5.out.alloc _) ⟨w5.heap.size,0,none⟩ 1 1 (encC (c2,a2,cap2)) rfl rfl (cells_newQ w5 _ _) (encC_one _) (by unfold maxLen;omega) (by omega) (by simp;omega) ?_;intro v' w9 hown9 hgrow9 _ hblk9;obtain ⟨k',g',cap',hv',hS'⟩:=SerI.next hB hpb HS.out HWD.out HR2.out hl2 HM4.out HM5.out HP5.out HC5.out hown9 hgrow9 hblk9;subst hv';have HS9:=Lib.hid hS';clear hown9 hgrow9 hblk9 hS')
     go_roundw
     case rel=>exact ⟨_,_,_,_,_,by simp,HS9⟩
     case measure=>rw [HS9.out.at'.left,HS.out.at'.left];simp;omega
end Go.Proofs.YtdfenhjibnfdeaaGreatDoor
