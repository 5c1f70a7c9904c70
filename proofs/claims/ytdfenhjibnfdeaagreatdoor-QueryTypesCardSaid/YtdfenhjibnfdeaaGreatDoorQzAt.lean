/-  -/
import Derived.Test.YtdfenhjibnfdeaaGreatDoorQzAs
import Derived.Maps.AppendAt
namespace Go.Proofs.YtdfenhjibnfdeaaGreatDoor
open Go.RowKit Go.Shelf
set_option maxHeartbeats 1000000 in
theorem of_any (op:Int) (a:Option Addr) (n cap:Nat) (w:World) :
  Calls Tryz.prog 102 #[.int .i64 op,.slice a n cap] w fun e w'=>e=.returned (.agg #[.int .i64 op,.string ⟨#[]⟩,.string ⟨#[]⟩,.int .i64 0,.slice a n cap])∧Below w.heap.size w w':=by
 go_enter Tryz.func102,Tryz.ntmps102
 go_wp2
 have HZ:=Lib.hid (row_new w (.cells #[.int .i64 op,.string ⟨#[]⟩,.string ⟨#[]⟩,.int .i64 0,.slice a n cap] 24))
 obtain ⟨sz,s0,s1,s2,s3,s4⟩:=rk5 HZ.out
 exact bodyPost_ret (v:=.agg #[.int .i64 op,.string ⟨#[]⟩,.string ⟨#[]⟩,.int .i64 0,.slice a n cap]) (by simp [results,Tryz.results102,go_sem,s0,s1,s2,s3,s4]) rfl ⟨rfl,(Below.refl _ _).alloc (Nat.le_refl _) _⟩
def leftP (w:World) (pb:Nat):Nat:=match w.heap[pb]? with
 |some (Obj.cells cs _ _)=>(match cs[0]? with
  |some (Value.slice _ n _)=>n
  |_=>0)
 |_=>0
theorem PAt.left {B:Nat} {w:World} {pb:Nat} {ts:List TokD} {fin:Nat} (h:PAt B w pb ts fin):leftP w pb=ts.length:=by
 obtain ⟨tv,h1,⟨a,cap,rfl,_⟩,_⟩:=h
 simp [leftP,h1]
theorem moreP_end (one:List TokD→PR CondD) (word:ByteArray) (k:Nat) (acc:List CondD) (ts:List TokD) (h:isP word ts=false):moreP one word k acc ts=.ok acc ts:=by
 cases k with
 |zero=>rfl
 |succ k=>rw [moreP,h];rfl
theorem isP_cons {word:ByteArray} {ts:List TokD} (h:isP word ts=true):∃t r,ts=t :: r:=by
 cases ts with
 |nil=>cases h
 |cons t r=>exact ⟨t,r,rfl⟩
theorem KidsP.lt1 {P:Nat→Prop} {w:World} {b:Nat} {ks:List CondD} {off:Nat} (h:KidsP P w b ks off) (h0:0<ks.length):b<w.heap.size:=by
 cases ks with
 |nil=>simp at h0
 |cons c r =>
  rw [KidsP] at h
  obtain ⟨⟨a,cap,h1,_⟩,_⟩:=h
  exact lt_of_cell h1.1
mutual
theorem CondP.lt {P:Nat→Prop} {w:World}:∀(c:CondD) (a:Option Addr),CondP P w c a→CondP (fun b=>P b∧b<w.heap.size) w c a
 |.mk o k s n ks,a,h=>by
  rw [CondP] at h ⊢
  refine ⟨h.1,h.2.1,h.2.2.1,fun h0=>?_⟩
  obtain ⟨b,off,ha,hp,hk⟩:=h.2.2.2 h0
  exact ⟨b,off,ha,⟨hp,hk.lt1 h0⟩,KidsP.lt b ks off hk⟩
theorem KidsP.lt {P:Nat→Prop} {w:World} (b:Nat):∀(ks:List CondD) (off:Nat),KidsP P w b ks off→KidsP (fun b=>P b∧b<w.heap.size) w b ks off
 |[],_,_=>by rw [KidsP];trivial
 |c :: r,off,h=>by
  rw [KidsP] at h ⊢
  obtain ⟨⟨a,cap,h1,h2⟩,h3⟩:=h
  exact ⟨⟨a,cap,h1,CondP.lt c a h2⟩,KidsP.lt b r (off+5) h3⟩
end
theorem CondP.to {P Q:Nat→Prop} {w w':World} {c:CondD} {a:Option Addr} (h:CondP P w c a) (hq:∀b,P b→b<w.heap.size→Q b) (hb:∀b,P b→b<w.heap.size→w'.heap[b]?=w.heap[b]?):CondP Q w' c a :=
 CondP.move (fun b hp=>hq b hp.1 hp.2) (fun b hp=>hb b hp.1 hp.2) c a (CondP.lt c a h)
theorem own_move {w w':World} {N e size n m g cap:Nat} {xs:List Value} (h:w.ownsRow N e size (.slice (some ⟨g,0,none⟩) m cap) n xs) (hb:w'.heap[g]?=w.heap[g]?):w'.ownsRow N e size (.slice (some ⟨g,0,none⟩) m cap) n xs:=by
 refine ⟨h.1,?_⟩
 rcases h.2 with ⟨h,_⟩ | ⟨g2,cap2,cur,h1,h2,h3,h4⟩
 ·cases h
 ·injection h1 with e1 e2 e3
  injection e1 with e1
  injection e1 with e1
  subst e1
  exact .inr ⟨_,cap2,cur,by rw [e2,e3],h2,hb.trans h3,h4⟩
theorem own_slice {w:World} {N e size n:Nat} {v:Value} {xs:List Value} (h:w.ownsRow N e size v n xs) (h0:0<n):∃g cap,v=.slice (some ⟨g,0,none⟩) n cap∧N≤g∧g<w.heap.size:=by
 rcases h.2 with ⟨_,h⟩ | ⟨g2,cap2,cur,h1,h2,h3,_⟩
 ·omega
 ·exact ⟨g2,cap2,h1,h2,lt_of_block h3⟩
def zeroC:Array Value:=#[.int .i64 0,.string ⟨#[]⟩,.string ⟨#[]⟩,.int .i64 0,.slice none 0 0]
structure SerI (one:List TokD→PR CondD) (word:ByteArray) (B pb fin n:Nat) (w:World) (RR:PR (List CondD)) (L:List CE) (ts:List TokD) (k g cap:Nat) (wr:World):Prop where
 at':PAt B wr pb ts fin
 fuel:ts.length≤k
 few:ts.length≤n
 mem:PMem B pb w wr
 res:wr.heap[w.heap.size]?=some (.cells zeroC 24 (0,0))
 own:wr.ownsRow (w.heap.size+1) 24 5 (.slice (some ⟨g,0,none⟩) L.length cap) L.length (L.flatMap encC)
 conds:∀x∈L,CondP (fun b=>w.heap.size+1≤b∧b≠g) wr x.1 x.2.1
 pos:1≤L.length
 many:L.length+ts.length≤5001
 run:moreP one word k (L.map (·.1)) ts=RR
theorem SerI.start {one:List TokD→PR CondD} {word:ByteArray} {B pb fin n:Nat} {w w2:World} {c:CondD} {a:Option Addr} {cap:Nat} {r:List TokD} (hB:B≤pb) (hpb:pb<w.heap.size) (hp:PAt B w2 pb r fin) (hn:r.length≤n) (hm:PMem B pb w w2)
  (hz:w2.heap[w.heap.size]?=some (.cells zeroC 24 (0,0))) (hc:CondP (fun b=>w.heap.size+1≤b) w2 c a) :
  SerI one word B pb fin n w (moreP one word r.length [c] r) [(c,a,cap)] r r.length w2.heap.size 1 (w2.alloc (.cells (encC (c,a,cap)).toArray 24)):=by
 have hs:=hm.keep.1
 have hal:=fun b (h:b<w2.heap.size)=>Below.heap_alloc w2 (.cells (encC (c,a,cap)).toArray 24) b h
 refine ⟨hp.low ((Below.refl _ _).alloc (Nat.le_refl _) _),Nat.le_refl _,hn,hm.trans (PMem.of_low (by omega) ((Below.refl _ _).alloc (Nat.le_refl _) _)),row_past hz,?_,?_,Nat.le_refl _,?_,rfl⟩
 ·exact ⟨rfl,.inr ⟨w2.heap.size,1,_,rfl,by have:=lt_of_block hz;omega,row_new _ _,by simp,by unfold maxLen;omega,rfl,rfl⟩⟩
 ·intro x hx
  rw [List.mem_singleton.1 hx]
  exact hc.to (fun b h1 h2=>⟨h1,by omega⟩) fun b _ h2=>hal b h2
 ·obtain ⟨_,_,_,h3,_⟩:=hp
  simp only [List.length_cons,List.length_nil];omega
theorem SerI.next {one:List TokD→PR CondD} {word:ByteArray} {B pb fin n:Nat} {w wr w4 w5 w9:World} {RR:PR (List CondD)} {L:List CE} {t:TokD} {ts ts2:List TokD} {k g cap:Nat} {v':Value} {c2:CondD} {a2:Option Addr} {cap2:Nat}
  (hB:B≤pb) (hpb:pb<w.heap.size) (h:SerI one word B pb fin n w RR L (t :: ts) k g cap wr) (hw:isP word (t :: ts)=true) (hone:one ts=.ok c2 ts2) (hl:ts2.length≤ts.length)
  (hm4:PMem B pb wr w4) (hm5:PMem B pb w4 w5) (hp5:PAt B w5 pb ts2 fin) (hc5:CondP (fun b=>w4.heap.size≤b) w5 c2 a2)
  (hown:w9.ownsRow (w.heap.size+1) 24 5 v' (L.length+1) (L.flatMap encC++encC (c2,a2,cap2)))
  (hg:(w5.alloc (.cells (encC (c2,a2,cap2)).toArray 24)).grownBy w9 (some g)) (hv:v'.ownBlock=some g∨v'.ownBlock=some (w5.alloc (.cells (encC (c2,a2,cap2)).toArray 24)).heap.size) :
  ∃k' g' cap',v'=.slice (some ⟨g',0,none⟩) (L.length+1) cap'∧SerI one word B pb fin n w RR (L++[(c2,a2,cap2)]) ts2 k' g' cap' w9:=by
 obtain ⟨g',cap',rfl,hg1,hg2⟩:=own_slice hown (by omega)
 have hgl:g<wr.heap.size∧w.heap.size+1≤g:=by
  obtain ⟨g2,cap3,e,e1,e2⟩:=own_slice h.own h.pos
  injection e with e _ _
  injection e with e
  injection e with e
  omega
 have s4:=hm4.keep.1
 have s5:=hm5.keep.1
 have s6:(w5.alloc (.cells (encC (c2,a2,cap2)).toArray 24)).heap.size=w5.heap.size+1:=by simp
 rw [s6] at hv
 have hgv:g'=g∨g'=w5.heap.size+1:=by
  rcases hv with hv | hv<;>simp [Value.ownBlock] at hv<;>omega
 have same:∀b,b<w5.heap.size→b≠g→w9.heap[b]?=w5.heap[b]?:=fun b hb hne=>by
  rw [hg.block b (by rw [s6];omega) (by simpa using hne),Below.heap_alloc _ _ _ hb]
 have s9:w5.heap.size≤w9.heap.size:=by have:=hg.size;rw [s6] at this;omega
 have low9:Below B w5 w9:=((Below.refl B w5).alloc (by have:=lt_of_block h.res;omega) _).grown hg (by rw [s6];have:=lt_of_block h.res;omega) (fun j ej=>by injection ej with ej;omega)
 obtain ⟨k',rfl⟩:∃k',k=k'+1:=⟨k - 1,by have:=h.fuel;rw [List.length_cons] at this;omega⟩
 have hf:=h.fuel
 have hfw:=h.few
 have hmn:=h.many
 rw [List.length_cons] at hf hfw hmn
 refine ⟨k',g',cap',rfl,⟨hp5.keep low9 (same pb (by have:=h.mem.keep.1;omega) (by omega)),by omega,by omega,⟨((h.mem.low.trans hm4.low).trans hm5.low).trans low9,⟨by have:=((h.mem.trans hm4).trans hm5).keep.1;omega,fun i hi hne=>?_⟩⟩,?_,by simpa using hown,?_,by simp,by simp;omega,?_⟩⟩
 ·have:=((h.mem.trans hm4).trans hm5).keep.1
  rw [same i (by omega) (by omega)]
  exact ((h.mem.trans hm4).trans hm5).keep.2 i hi hne
 ·have hlt:=lt_of_block h.res
  rw [same _ (by omega) (by omega),hm5.keep.2 _ (by omega) (by omega),hm4.keep.2 _ (by omega) (by omega)]
  exact h.res
 ·intro x hx
  rcases List.mem_append.1 hx with hx | hx
  ·refine (h.conds x hx).to (fun b h1 h2=>⟨h1.1,by omega⟩) fun b h1 h2=>?_
   rw [same b (by omega) h1.2,hm5.keep.2 b (by omega) (by omega),hm4.keep.2 b (by omega) (by omega)]
  ·rw [List.mem_singleton.1 hx]
   have:=h.mem.keep.1
   have hlt:=lt_of_block h.res
   exact hc5.to (fun b h1 h2=>⟨by omega,by omega⟩) fun b h1 h2=>same b h2 (by omega)
 ·have hr:=h.run
  rw [moreP,hw,if_pos rfl] at hr
  rw [←hr]
  show _=(one ts).bind _
  rw [hone,List.map_append]
  rfl
end Go.Proofs.YtdfenhjibnfdeaaGreatDoor
