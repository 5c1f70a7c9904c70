/-    -/
import Derived.Test.YtibpaaajghbkoaaGreatWAu
import Derived.Test.YtibpaaajghbkoaaGreatWAr
import Derived.Maps.AppendAt
import Derived.Test.YtibpaaajghbkoaaGreatWAm
namespace Go.Proofs.YtibpaaajghbkoaaGreat
open Go.RowKit Go.Maps Go.Sort Go.ChangeMaps
section
variable {P:Program} {w:World}
theorem zoy {o:Oper} {a:Act} {K:Act→World→Prop} {Q:Exit→Act→World→Prop} (s x:Operand) (t:TypeId)
  (ho:o.op=.call { callee:=.builtin .append,args:=#[s,x],argTypes:=#[t,t] })
  (base:Nat) (e:TypeId) (i:TypeInfo) (z:Value) (size bytes:Nat) (ht:P.underlying t=some (.slice e)) (hi:P.info? e=some i) (hz:i.zero=some z)
  (hsize:i.size=size) (hby:i.bytes=bytes) (hzs:z.cells.size=size) (hsz:0<size)
  (v:Value) (n:Nat) (xs:List Value) (hs:a.eval s=v) (hown:w.ownsRow base e size v n xs)
  (ad:Addr) (m c:Nat) (news:List Value) (hx:a.eval x=.slice (some ad) m c) (hl:news.length=m * size) (hnews:∀j u,news[j]?=some u→w.cell? (ad.add j)=some u) (h1:∀u∈news,u.oneCell'=true)
  (h63:n+m≤maxLen) (hbytes:(n+m) * bytes≤140737488355328) (hbase:base≤w.heap.size)
  (h:∀v' w',w'.ownsRow base e size v' (n+m) (xs++news)→w.grownBy w' v.ownBlock→(v'.ownBlock=v.ownBlock∨v'.ownBlock=some w.heap.size)→K (a.put o.dst v') w'):o.wp P a w K Q:=by
 obtain ⟨v',w',hr,h2,h3,h4,h5⟩:=run_append_own_at (P:=P) w base t o.type e i z size bytes ht hi hz hsize hby hzs hsz v n xs hown ad m c news hl hnews h1 h63 hbytes hbase;unfold Oper.wp execOp;simp only [ho,resolve,invoke,builtin,Sem.run_bind,Sem.run_pure,Result.andThen_ok,List.map_toArray,List.map_cons,List.map_nil,hs,hx,hr];exact h v' w' h2 h3 h5
end
section
variable {κ:Type} {P:Program} {t:TypeId} {ek:κ→Value} {base:Nat} {e:TypeId} {w:World} {b:Nat} {acc:List (κ × Value × List ByteArray)}
theorem zbt.store [DecidableEq κ] {T E:TypeId} (h:zbt P t ek base e w b acc) (K:Keyed P t) (hinj:∀x y,ek x=ek y→x=y) (hT:P.underlying T=some (.map t E)) (hroom:acc.length<maxLen) (k:κ) (hk:∃kl,keyOf P t (ek k)=some kl) {v:Value} {ids:List ByteArray} (hv:((aget k acc).map (fun p:Value × List ByteArray=>p.1)).getD (.slice none 0 0)=v) (hids:ids=(aget k (zek acc)).getD [])
  {w2:World} {v':Value} {ids':List ByteArray} (hg2:w.grownBy w2 v.ownBlock) (hown':w2.ownsRow base e 1 v' ids'.length (ids'.map Value.string)) (hloc:v'.ownBlock=v.ownBlock∨∃g,v'.ownBlock=some g∧w.heap.size≤g) :
  ∃w3,(Instr.mapUpdate T (.map (some b)) (ek k) v').run P w2=.ok () w3∧zbt P t ek base e w3 b (aput k (v',ids') acc)∧w2.grownBy w3 (some b):=by
 obtain ⟨hm,hbb,hrows,hap⟩:=h;have hn:=hm.nodup;have notb:∀{w:World} {u:Value} {n:Nat} {xs:List Value},w.ownsRow base e 1 u n xs→u.ownBlock≠some b:=fun ho hc=>by have:=(zap ho b hc).1;omega
 obtain ⟨hown,hvb,hvo⟩:w.ownsRow base e 1 v ids.length (ids.map Value.string)∧v.ownBlock≠some b∧(∀p∈acc,p.1≠k→p.2.1.ownBlock=none∨p.2.1.ownBlock≠v.ownBlock):=by
  rw [zgy] at hids;cases hg:aget k acc with
  |none =>rw [hg] at hids hv;subst hids hv;exact ⟨World.ownsRow_nil _ _ _ _,by simp [Value.ownBlock],fun p _ _=>by cases hp:p.2.1.ownBlock<;>simp [Value.ownBlock]⟩
  |some q =>
   have hq:=zdy hg;rw [hg] at hids hv;simp only [Option.map_some,Option.getD_some] at hids hv;subst hids hv;refine ⟨hrows _ hq,notb (hrows _ hq),fun p hp hne=>?_⟩;obtain ⟨i,hi⟩:=List.getElem?_of_mem hp;obtain ⟨j,hj⟩:=List.getElem?_of_mem hq;obtain ⟨hi1,hi2⟩:=List.getElem?_eq_some_iff.1 hi;obtain ⟨hj1,hj2⟩:=List.getElem?_eq_some_iff.1 hj;rcases Nat.lt_trichotomy i j with h | h | h
   ·have:=List.pairwise_iff_getElem.1 hap i j hi1 hj1 h;rw [hi2,hj2] at this;exact this
   ·subst h;rw [hi2] at hj2;exact absurd (by rw [hj2]) hne
   ·have:=(List.pairwise_iff_getElem.1 hap j i hj1 hi1 h).symm;rw [hi2,hj2] at this;exact this
 have hm2:=hm.kept hg2 (fun c=>hvb c.symm);obtain ⟨w3,hrun3,hm3,hg3⟩:=hm2.put K hinj hT hroom k hk (v',ids');refine ⟨w3,hrun3,⟨hm3,hbb,fun p hp=>?_,?_⟩,hg3⟩
 ·rcases zwb hn hp with rfl | ⟨hp,hne⟩
  ·exact hown'.kept hg3 (Or.inr (notb hown'))
  ·have:=(hrows p hp).kept hg2 (hvo p hp hne);exact this.kept hg3 (Or.inr (notb this))
 ·refine zkf (fun p q=>zle.symm) hn hap fun p hp hne=>?_;rcases hloc with h | ⟨g,h,hlt⟩
  ·unfold zle;simp only;rw [h];exact hvo p hp hne
  ·unfold zle;simp only;cases hpb:p.2.1.ownBlock with
   |none=>exact Or.inl rfl
   |some g' =>right;rw [h];intro c;injection c with c;have:=(zap (hrows p hp) g' hpb).2;omega
end
def GrpI (base br:Nat) (f:ByteArray→List ByteArray) (n:Nat) (W:World):Prop :=
 ∃acc:List (ByteArray × Value × List ByteArray),zbt Tryz.prog 9 Value.string base 9 W br acc∧acc.length≤n∧∀r,(aget r (zek acc)).getD []=f r
theorem GrpI.on {base br n:Nat} {f:ByteArray→List ByteArray} {W W':World} (h:GrpI base br f n W) (hb:Below W.heap.size W W'):GrpI base br f n W':=by obtain ⟨acc,h1,h2⟩:=h;exact ⟨acc,h1.on hb,h2⟩
theorem GrpI.noCells {base br n:Nat} {f:ByteArray→List ByteArray} {W:World} (h:GrpI base br f n W):zbg W (some br):=by obtain ⟨acc,h1,h2⟩:=h;exact h1.1.noCells
theorem GrpI.congr {base br n m:Nat} {f g:ByteArray→List ByteArray} {W:World} (h:GrpI base br f n W) (hn:n≤m) (e:∀r,f r=g r):GrpI base br g m W:=by obtain ⟨acc,h1,h2,h3⟩:=h;exact ⟨acc,h1,Nat.le_trans h2 hn,fun r=>(h3 r).trans (e r)⟩
theorem GrpI.kept {base br n:Nat} {f:ByteArray→List ByteArray} {W W':World} {b:Nat} (h:GrpI base br f n W) (hg:W.grownBy W' (some b)) (hne:br≠b) (hn:zbg W (some b)):GrpI base br f n W':=by
 obtain ⟨acc,h1,h2⟩:=h;refine ⟨acc,h1.keptBy hg (zdh hne) (fun p hp=>?_),h2⟩;rcases (h1.2.2.1 p hp).2 with ⟨e,_⟩ | ⟨g',cap,cur,e,_,hc,_⟩
 ·rw [e];exact Or.inl rfl
 ·rw [e];refine Or.inr fun c=>?_;simp only [Value.ownBlock,Option.some.injEq] at c;subst c;obtain ⟨o,a1,a2⟩:=hn _ rfl;rw [hc] at a1;injection a1 with a1;rw [←a1] at a2;cases a2
def MidG (base br:Nat) (f:ByteArray→List ByteArray) (n:Nat) (s:ByteArray) (v':Value) (ids':List ByteArray) (W:World):Prop :=
 ∃(acc:List (ByteArray × Value × List ByteArray)) (Wp:World) (V:Value),zbt Tryz.prog 9 Value.string base 9 Wp br acc∧acc.length≤n∧(∀r,(aget r (zek acc)).getD []=f r)∧((aget s acc).map (fun p:Value × List ByteArray=>p.1)).getD (.slice none 0 0)=V ∧
  Wp.grownBy W V.ownBlock∧W.ownsRow base 9 1 v' ids'.length (ids'.map Value.string)∧(v'.ownBlock=V.ownBlock∨∃g,v'.ownBlock=some g∧Wp.heap.size≤g)
theorem zzl {a b c:World} {row:Option Nat} (h:a.grownBy b row) (h2:Below b.heap.size b c):a.grownBy c row :=
 ⟨h2.os.trans h.os,h2.tape.trans h.tape,h2.output.trans h.output,Nat.le_trans h.size h2.size,fun k hk hne=>(h2.block k (Nat.lt_of_lt_of_le hk h.size)).trans (h.block k hk hne)⟩
theorem MidG.on {base br n:Nat} {f:ByteArray→List ByteArray} {s:ByteArray} {v':Value} {ids':List ByteArray} {W W':World} (h:MidG base br f n s v' ids' W) (hb:Below W.heap.size W W'):MidG base br f n s v' ids' W':=by obtain ⟨acc,Wp,V,h1,h2,h3,h4,h5,h6,h7⟩:=h;exact ⟨acc,Wp,V,h1,h2,h3,h4,zzl h5 hb,zaq h6 hb,h7⟩
theorem MidG.store {base br n:Nat} {f g:ByteArray→List ByteArray} {s:ByteArray} {v':Value} {ids':List ByteArray} {W:World} (h:MidG base br f n s v' ids' W) (hn:n≤4000000000) (hz:s.size≤140737488355328) (hg:∀r,g r=if r=s then ids' else f r) :
  ∃W',(Instr.mapUpdate 63 (.map (some br)) (.string s) v').run Tryz.prog W=.ok () W'∧GrpI base br g (n+1) W'∧W.grownBy W' (some br):=by
 obtain ⟨acc,Wp,V,h1,h2,h3,h4,h5,h6,h7⟩:=h;obtain ⟨w3,hr,hG,hg3⟩:=h1.store keyS zef Tryz.underlying63 (by unfold maxLen;omega) s (zcf hz) h4 rfl h5 h6 h7;refine ⟨w3,hr,⟨_,hG,Nat.le_trans (zde _ _ _) (Nat.succ_le_succ h2),fun r=>?_⟩,hg3⟩;rw [zpd,hg];by_cases e:r=s
 ·subst e;rw [zby,if_pos rfl];rfl
 ·rw [zci _ (fun c=>e c.symm),if_neg e];exact h3 r
theorem GrpI.look {base br n:Nat} {f:ByteArray→List ByteArray} {W:World} (h:GrpI base br f n W) (s:ByteArray) (hz:s.size≤140737488355328) :
  ∃V,(∀W',Below W.heap.size W W'→(Instr.lookup 63 (.map (some br)) (.string s) false).run Tryz.prog W'=.ok V W')∧W.ownsRow base 9 1 V (f s).length ((f s).map Value.string):=by
 obtain ⟨acc,h1,h2,h3⟩:=h;refine ⟨((aget s acc).map (fun p:Value × List ByteArray=>p.1)).getD (.slice none 0 0),fun W' hb=>?_,?_⟩
 ·exact (h1.1.on hb).look keyS zef Tryz.underlying63 (ziu W') s (zcf hz)
 ·rw [←h3 s,zgy];cases hg:aget s acc with
  |none=>exact World.ownsRow_nil _ _ _ _
  |some p=>exact h1.2.2.1 _ (zdy hg)
open Classical in
noncomputable def nodG (l:List ObjD) (k i:Nat) (o:ObjD) (r:ByteArray):Option Pt:=if nodI l k i o r then some (ptO l r) else none
theorem zahi {l:List ObjD} {k i:Nat} {o:ObjD} {s:ByteArray} (hs:o.refs[i]?=some s) (hb:o.kind=2∨o.kind=3) (r:ByteArray):nodG l k (i+1) o r=if r=s then some (ptO l s) else nodG l k i o r:=by
 classical
 unfold nodG;by_cases e:r=s
 ·rw [if_pos e,if_pos ((ztt hs r).2 (Or.inr ⟨hb,e⟩)),e]
 ·rw [if_neg e];have:nodI l k (i+1) o r↔nodI l k i o r:=by
   rw [ztt hs];constructor
   ·rintro (h | ⟨_,h⟩)
    ·exact h
    ·exact absurd h e
   ·exact Or.inl
  simp only [this]
theorem zahj {l:List ObjD} {k i:Nat} {o:ObjD} {s:ByteArray} (hs:o.refs[i]?=some s) (hb:¬(o.kind=2∨o.kind=3)) (r:ByteArray):nodG l k (i+1) o r=nodG l k i o r:=by
 classical
 unfold nodG;have:nodI l k (i+1) o r↔nodI l k i o r:=by
  rw [ztt hs];constructor
  ·rintro (h | ⟨h,_⟩)
   ·exact h
   ·exact absurd h hb
  ·exact Or.inl
 simp only [this]
theorem zahh (l:List ObjD) (k:Nat) (o o':ObjD) (r:ByteArray):nodG l k 0 o r=nodG l k 0 o' r:=by
 classical
 unfold nodG;simp only [zpj]
theorem zahl {l:List ObjD} {k:Nat} {o o':ObjD} (ho:l[k]?=some o) (r:ByteArray):nodG l k o.refs.length o r=nodG l (k+1) 0 o' r:=by
 classical
 unfold nodG;simp only [zalt ho,zpj]
theorem zalu (l:List ObjD) (o:ObjD) (r:ByteArray):nodG l l.length 0 o r=nodF l r:=by
 classical
 unfold nodG nodF;simp only [zpj,List.take_length]
theorem zagg (l:List ObjD) (k:Nat) (o o':ObjD) (r:ByteArray):refI l k 0 o r=refI l k 0 o' r:=by rw [zms,zms]
theorem zagh {l:List ObjD} {k:Nat} {o o':ObjD} (ho:l[k]?=some o) (r:ByteArray):refI l k o.refs.length o r=refI l (k+1) 0 o' r:=by rw [zali ho,zms]
theorem zalj (l:List ObjD) (o:ObjD) (r:ByteArray):refI l l.length 0 o r=refF l r:=by rw [zms,List.take_length];rfl
theorem GrpI.refs {base br n:Nat} {f:ByteArray→List ByteArray} {W:World} (h:GrpI base br f n W) (hl:∀r,(f r).length≤1000000∧∀s∈f r,s.size≤140737488355328):zfi W br f:=by
 obtain ⟨acc,h1,h2,h3⟩:=h;refine ⟨acc.map fun p=>(p.1,p.2.1),?_,fun r=>?_⟩
 ·obtain ⟨es,clock,a1,a2,a3,a4,a5⟩:=h1.1;refine ⟨es,clock,a1,a2,a3,by rw [List.map_map];exact a4,fun p hp=>?_⟩;obtain ⟨q,hq,rfl⟩:=List.mem_map.1 hp;exact a5 q hq
 ·have e:aget r (acc.map fun p:ByteArray × Value × List ByteArray=>(p.1,p.2.1))=(aget r acc).map (·.1):=by
   have:∀A:List (ByteArray × Value × List ByteArray),aget r (A.map fun p=>(p.1,p.2.1))=(aget r A).map (·.1):=by
    intro A
    induction A with
    |nil=>rfl
    |cons p A ih =>
     rw [List.map_cons,aget,aget];split
     ·rfl
     ·exact ih
   exact this acc
  rw [e];have h4:=h3 r;rw [zgy] at h4;cases hg:aget r acc with
  |none =>rw [hg] at h4;rw [←h4];exact zaj.nil W
  |some p =>rw [hg] at h4;simp only [Option.map_some,Option.getD_some] at h4 ⊢;rw [←h4];have hr:=hl r;rw [←h4] at hr;exact zaj.of_own (h1.2.2.1 _ (zdy hg)) (by omega) hr.2
end Go.Proofs.YtibpaaajghbkoaaGreat

namespace Go.Proofs.YtibpaaajghbkoaaGreat
open Go.RowKit Go.Maps Go.ChangeMaps Go.Sort
theorem zfg {l:List ObjD} {k:KeyD} (h:k∈zau l):(zbi l k.1).isSome=true∧(zbi l k.2).isSome=true:=by
 obtain ⟨o,_,hb,hk⟩:=zbx.1 h;unfold isB at hb;rw [Bool.and_eq_true] at hb;have hs:=hb.2;unfold zfn at hs;rw [List.all_eq_true] at hs;obtain ⟨i,hi,rfl⟩:=List.mem_map.1 hk;rw [List.mem_range] at hi;have hlen:i<o.refs.length:=by unfold zdp at hi;split at hi<;>omega
 have r0:(zbi l (zcc o i)).isSome=true:=hs _ (zM (zfb o i hlen));have r1:(zbi l (zcc o ((i+1) % o.refs.length))).isSome=true:=hs _ (zM (zfb o _ (Nat.mod_lt _ (by omega))));unfold zds;rcases zhy (zcc o i) (zcc o ((i+1) % o.refs.length)) with e | e<;>rw [e]
 ·exact ⟨r0,r1⟩
 ·exact ⟨r1,r0⟩
theorem zmz {l:List ObjD} {id:ByteArray} (h:(zbi l id).isSome=true) (hz:∀x∈l,x.id.size≤140737488355328):id.size≤140737488355328:=by
 cases hp:posO id l with
 |none=>rw [zel l id hp] at h;cases h
 |some k =>obtain ⟨o,ho,e⟩:=zdt id l k hp;rw [←e];exact hz o (zM ho)
theorem zjd {w:World} {v:Value} {l:List ObjD} (hv:zbb w v l):∀x∈l,x.id.size≤140737488355328:=fun x hx=>by obtain ⟨a,cap,_,_,hc⟩:=hv;obtain ⟨i,hi⟩:=List.getElem?_of_mem hx;obtain ⟨b,off,_,h⟩:=hc (by have:=(List.getElem?_eq_some_iff.1 hi).1;omega);obtain ⟨_,_,_,_,_,_,_,_,_,_,h⟩:=h i x hi;exact h
def zsy (l:List ObjD) (id:ByteArray):Prop:=id.size≤140737488355328∧(zbi l id).isSome=true
theorem zabs {l : List ObjD} (h : zas l = true) : (zau l).length ≤ 2000 * l.length := by
  have h1 : ∀ ks : List KeyD, (setK ks).length ≤ ks.length := fun ks => by
    have : ∀ (ks acc : List KeyD), (ks.foldl (fun acc k => insK k acc) acc).length ≤ acc.length + ks.length := by
      intro ks
      induction ks with
      | nil => intro acc; simp
      | cons k ks ih =>
        intro acc;rw [List.foldl_cons];have := ih (insK k acc);have hi : ∀ l : List KeyD, (insK k l).length ≤ l.length + 1 := by
          intro l
          induction l with
          | nil => simp [insK]
          | cons x l ih => rw [insK]; split; · simp; omega
                           split <;> simp
        have := hi acc;simp; omega
    have := this ks [];unfold setK;simpa using this
  refine Nat.le_trans (h1 _) ?_;have h2 : ∀ os : List ObjD, (∀ o ∈ os, o.refs.length ≤ 2000) → (os.flatMap zbh).length ≤ 2000 * os.length := by
    intro os
    induction os with
    | nil => intro _; simp
    | cons o os ih =>intro hr;rw [List.flatMap_cons, List.length_append];have := ih fun x hx => hr x (List.mem_cons_of_mem _ hx);have h3 := hr o (List.mem_cons_self ..);have : (zbh o).length ≤ 2000 := (by unfold zbh zdp; rw [List.length_map, List.length_range]; split <;> omega);rw [List.length_cons]; omega
  have := h2 (l.filter (isB l)) fun o ho => ztq (zda h (List.mem_filter.1 ho).1);have h4 := List.length_filter_le (isB l) l;omega
def zis (s:Sg):List Value:=[.int .i64 s.1.1,.int .i64 s.1.2,.int .i64 s.2.1,.int .i64 s.2.2]
theorem zwn (s:Sg):(zis s).length=4:=rfl
theorem zra (s:Sg):∀v∈zis s,v.oneCell'=true:=by intro v hv;simp only [zis,List.mem_cons,List.not_mem_nil,or_false] at hv;rcases hv with rfl | rfl | rfl | rfl<;>rfl
theorem zanu:(Tryz.prog.info? 48).map (fun i=>(i.zero,i.size,i.bytes))=some (some (.agg #[.int .i64 0,.int .i64 0,.int .i64 0,.int .i64 0]),4,32):=by kernel_rfl
set_option maxRecDepth 100000 in
set_option maxHeartbeats 4000000 in
theorem zalb (v vL:Value) (Bm:Nat) (l:List ObjD) (w:World) (hv:zbb w v l) (hok:zas l=true) (hat:AtIs w Bm l) (hl:zrp w vL l) :
  Calls Tryz.prog 47 #[.agg #[v,.map (some Bm)],vL] w fun e w'=>∃v',e=.returned v'∧RowE zis 4 w' v' ((zau l).map (segB l))∧Below w.heap.size w w':=by
 have mixed:Tryz.prog.follows .mixedOrders=true:=by kernel_rfl
 have PT:=zH (fun id W (hb:Below w.heap.size w W) (h:zsy l id)=>zvx id Bm v l W h.1 (hat.on hb) (hv.later hb) h.2);have HKN:=zH (fun k (hk:k∈zau l)=>(show zsy l k.1∧zsy l k.2 from ⟨⟨zmz (zfg hk).1 (zjd hv),(zfg hk).1⟩,⟨zmz (zfg hk).2 (zjd hv),(zfg hk).2⟩⟩));have hkl:=zabs hok;have hll:=(zcs hok).1;obtain ⟨a,cap,rfl,_⟩:=hv;obtain ⟨L,hL,hLk,_⟩:=hl;obtain ⟨aL,capL,rfl,hc⟩:=hL;obtain ⟨N,hN⟩:∃N,L.length=N:=⟨_,rfl⟩;have hNK:(zau l).length=N:=by rw [←hLk,List.length_map,hN]
 rw [hN] at hc ⊢;rw [hNK] at hkl;have hNb:N≤2000000000:=by omega
 have HN:=zH hN;have HC:=zH hc;have HLK:=zH hLk;have HNK:=zH hNK;obtain ⟨i0,hi,hi0,hi1,hi2⟩:=info_parts zanu;clear hok hat hkl hll hN hc hLk hNK;go_enter Tryz.func47,Tryz.ntmps47;go_wp2_with fail;generalize hw1:w.alloc _=w1;have B1:=gB1 hw1;have H1:=gA11 hw1;have hz1:w.heap.size+1≤w1.heap.size:=by rw [←hw1];simp
 have H1:=zH H1;clear hw1;go_loopw [5,10] (fun v5 i wr=>∃k:Nat,i=.int .i64 k∧k≤N∧wr.ownsRow w1.heap.size 48 4 v5 k ((((zau l).take k).map (segB l)).flatMap zis)∧Below w1.heap.size w1 wr) (fun _ i _=>N - (intOf i).toNat);case atStart=>exact ⟨0,rfl,by omega,World.ownsRow_nil _ _ _ _,Below.refl _ _⟩
 case round =>
  obtain ⟨k,rfl,hk,hown,hbr⟩:=hrel;have HOWN:=zH hown;have hzr:=hbr.size;have BR:=zac B1 (by omega) hbr;clear hown;by_cases hlt:k<N
  ·obtain ⟨x,hx⟩:∃x,L[k]?=some x:=⟨L[k]'(by rw [HN.out];exact hlt),List.getElem?_eq_getElem _⟩;obtain ⟨b,off,ha,hcell⟩:=HC.out (by omega);subst ha;have d0':=cell_later BR (hcell k x hx 0 _ rfl);have d0:wr.cell? ⟨b,off+k * 3,none⟩=some (.string x.1.1):=d0';have d1:=cell_later BR (hcell k x hx 1 _ rfl);have d2:=cell_later BR (hcell k x hx 2 _ rfl);have hkk:(zau l)[k]?=some x.1:=(by rw [←HLK.out,List.getElem?_map,hx];rfl);have HT:=zH (show ((zau l).take (k+1)).map (segB l)=((zau l).take k).map (segB l)++[segB l x.1] by
    obtain ⟨hk',e⟩:=List.getElem?_eq_some_iff.1 hkk
    rw [List.take_succ_eq_append_getElem hk',e];simp)
   obtain ⟨n1,n2⟩:=HKN.out x.1 (zM hkk);obtain ⟨⟨x1,x2⟩,xa,xn,xc⟩:=x;simp only [] at d0 d1 d2 n1 n2 HT;have HSG:=zH (show segB l (x1,x2)=(ptO l x1,ptO l x2) from rfl);obtain ⟨p1,hp1⟩:∃z,z=ptO l x1:=⟨_,rfl⟩;obtain ⟨p2,hp2⟩:∃z,z=ptO l x2:=⟨_,rfl⟩;have P1:=zH (fun W hb=>PT.out x1 W hb n1);have P2:=zH (fun W hb=>PT.out x2 W hb n2);rw [←hp1] at P1 HSG;rw [←hp2] at P2 HSG;clear hcell d0' hx hkk hp1 hp2 n1 n2;have bz:=zag d0;go_wp2_with fail;generalize hw3:wr.alloc _=w3;have BX:=gB1 hw3;have HX:=gA11 hw3;have hz3:w3.heap.size=wr.heap.size+1:=(by rw [←hw3];simp);obtain ⟨Bx,hBx⟩:∃z,z=wr.heap.size:=⟨_,rfl⟩;rw [←hBx] at HX hz3 ⊢;have H13:=zH (zab (hbr.trans (BX.mono hzr)) H1.out);have HX3:=zH HX;have BW3:=zac hbr zR (BX.mono zR);have O3:=zH (zaq HOWN.out BX);have BR3:=zac BR (by omega) BX;have NXB:=zH (show some Bx≠u5.ownBlock from fun e=>by
    have:=(HOWN.out.lt Bx e.symm).2
    omega)
   have hz13:w1.heap.size≤w3.heap.size:=(by omega);clear hw3 hBx d0 d1 d2 bz BX HX;refine wp_region_mix 12 (fun W=>Below w1.heap.size w1 W∧W.heap[Bx]?=some (.cells #[.string x1,.string x2,.slice xa xn xc] 85)) (fun W=>Below w3.heap.size w3 W) mixed (by kernel_rfl) (by kernel_rfl) (by kernel_rfl) (StableW.below _ _ zR) (fun W hW=>⟨zac BW3 zR hW,zab hW HX3.out⟩) (Below.refl _ _).drew ?_;apply Exists.intro;refine ⟨fun W hW=>?_,?_⟩
   ·obtain ⟨hW1,HX⟩:=hW;have BW:=zac B1 (by omega) hW1;have HP:=(hW1.block _ (by omega)).trans H1.out;have HXh:=zH HX;have HPh:=zH HP;obtain ⟨xz,x0,x1,x2⟩:=rk3 HXh.out;have qx0:=zaa x0;have qx1:=zaa x1;have qx2:=zaa x2;clear x0 x1 x2;obtain ⟨pz,p0,p1⟩:=rk2 HPh.out;have qp0:=zaa p0;have qp1:=zaa p1;clear p0 p1;clear HX HP;simp only [List.take_succ_cons,List.take_zero];iterate 6 (go_big_quiet_step ((go_at_call 75;exact zad (P1.out _ (zac BW zR (zam.below _))))))
    repeat (go_big_quiet_step ((go_at_call 75;exact zad (P2.out _ (zac BW zR (zam.below _))))))
    exact wpQuiet_nil rfl
   ·simp only [List.drop_succ_cons,List.drop_zero];refine tailM_step (ι:=Nat) (fun g=>.slice (some ⟨g,0,none⟩) 1 1) (fun g W=>(Below w1.heap.size w1 W∧W.heap[Bx]?=some (.cells #[.string x1,.string x2,.slice xa xn xc] 85))∧(W.ownsRow w1.heap.size 48 4 u5 k ((((zau l).take k).map (segB l)).flatMap zis)∧W.heap[g]?=some (.cells (zis (p1,p2)).toArray 48))) rfl (fun g=>((StableW.below _ _ zR).and (StableW.row _ _)).and ((StableW.owns _ _ _ _ _ _).and (StableW.row _ _))) (fun _ _ h=>h.1) (fun W hS K hK=>?_) (fun g=>?_)
    ·have O:=zaq O3.out hS;have HX:=zab hS HX3.out;have BB:=zac BW3 zR hS;go_simp;exact hK W.heap.size _ ⟨⟨BB.alloc BB.size _,zao HX⟩,O.alloc _,zan _ _⟩
    simp only [Act.put,List.setIfInBounds_toArray,List.set_cons_succ,List.set_cons_zero];refine tailM_step (ι:=Value) (fun v=>v) (fun v' W=>(Below w1.heap.size w1 W∧W.heap[Bx]?=some (.cells #[.string x1,.string x2,.slice xa xn xc] 85))∧W.ownsRow w1.heap.size 48 4 v' (k+1) ((((zau l).take (k+1)).map (segB l)).flatMap zis)) rfl (fun _=>((StableW.below _ _ zR).and (StableW.row _ _)).and (StableW.owns _ _ _ _ _ _)) (fun _ _ h=>h.1) (fun W hS K hK=>?_) (fun v'=>?_)
    ·obtain ⟨⟨hS1,hSX⟩,hSO,hSG⟩:=hS;refine wp_append_own _ _ _ 43 rfl w1.heap.size 48 i0 (.agg #[.int .i64 0,.int .i64 0,.int .i64 0,.int .i64 0]) 4 32 Tryz.underlying43 hi hi0 hi1 hi2 rfl (by decide) _ _ _ rfl hSO ⟨g,0,none⟩ 1 1 (zis (p1,p2)) rfl rfl (zdv hSG) (zra _) (by unfold maxLen;omega) (by omega) hS1.size ?_;intro v' w9 hown2 hgrow _;exact hK v' w9 ⟨⟨hS1.grown hgrow hS1.size (fun j ej=>(hSO.lt j ej).1),zak hgrow hSX NXB.out⟩,by rw [HT.out,HSG.out,List.flatMap_append];simpa using hown2⟩
    simp only [Act.put,List.setIfInBounds_toArray,List.set_cons_succ,List.set_cons_zero];refine tailM_pure v' rfl (((StableW.below _ _ zR).and (StableW.row _ _)).and (StableW.owns _ _ _ _ _ _)) (fun _ h=>h.1) (fun W hS K hK=>?_) (tailM_nil fun W hW=>?_)
    ·go_simp;exact hK
    obtain ⟨⟨hW1,-⟩,hWO⟩:=hW;have HWO:=zH hWO;clear hWO;simp only [Act.put,List.setIfInBounds_toArray,List.set_cons_succ,List.set_cons_zero];go_wp2;go_roundw;case rel=>exact ⟨k+1,by go_num,by omega,HWO.out,hW1⟩
    case measure=>simp [intOf];omega
  ·obtain rfl:k=N:=(by omega);have HF:=zH (show (zau l).take k=zau l from List.take_of_length_le (by rw [HNK.out];exact Nat.le_refl _));have HR:=zH (show RowE zis 4 wr u5 ((zau l).map (segB l)) by
    have:=HOWN.out
    rw [HF.out] at this
    exact RowE.of_own zwn (by rw [List.length_map,HNK.out]) this)
   go_wp2;go_ret;exact ⟨_,rfl,HR.out,BR⟩
end Go.Proofs.YtibpaaajghbkoaaGreat

namespace Go.Proofs.YtibpaaajghbkoaaGreat
open Go.RowKit
theorem ztg {w:World} {g:Nat} {a b c d x y z u:Value} {t:TypeId} (h:w.heap[g]?=some (.cells #[a,b,c,d] t (0,0))):((((w.setCell ⟨g,0,none⟩ x).setCell ⟨g,1,none⟩ y).setCell ⟨g,2,none⟩ z).setCell ⟨g,3,none⟩ u).heap[g]?=some (.cells #[x,y,z,u] t (0,0)) :=
 zbl (i:=3) (zbl (i:=2) (zbl (i:=1) (zbl (i:=0) h)))
theorem zoa {w:World} {g k:Nat} {o:Obj} {x y z u:Value} (h:w.heap[k]?=some o) (hne:k≠g):((((w.setCell ⟨g,0,none⟩ x).setCell ⟨g,1,none⟩ y).setCell ⟨g,2,none⟩ z).setCell ⟨g,3,none⟩ u).heap[k]?=some o :=
 zai (zai (zai (zai h hne) hne) hne) hne
theorem zob {B:Nat} {w0 w:World} {g:Nat} {x y z u:Value} (h:Below B w0 w) (hg:B≤g):Below B w0 ((((w.setCell ⟨g,0,none⟩ x).setCell ⟨g,1,none⟩ y).setCell ⟨g,2,none⟩ z).setCell ⟨g,3,none⟩ u) :=
 (((h.setCell (p:=⟨g,0,none⟩) hg _).setCell (p:=⟨g,1,none⟩) hg _).setCell (p:=⟨g,2,none⟩) hg _).setCell (p:=⟨g,3,none⟩) hg _
set_option maxRecDepth 100000 in
set_option maxHeartbeats 4000000 in
theorem zagz (s:Sg) (p:Pt) (hs:zbd s=true) (hp:zat p=true) (w:World) :
  Calls Tryz.prog 23 #[sgV s,ptV p] w fun e w'=>e=.returned (.bool (onQ s p))∧Below w.heap.size w w':=by
 have hs1:zat s.1=true:=by unfold zbd at hs;rw [Bool.and_eq_true] at hs;exact hs.1
 have hs2:zat s.2=true:=by unfold zbd at hs;rw [Bool.and_eq_true] at hs;exact hs.2
 have NR:=zH (fun (v:Value) w' hv=>by
  have:=ztu v [s.1,s.2,p] w' (by simp) hv
  rw [show [s.1,s.2,p].all zat=true by simp [hs1,hs2,hp]] at this
  exact this)
 have SR:=zH (fun w=>zny s w);have hn':=zkm s;rw [hs] at hn';unfold zbd at hn';rw [Bool.and_eq_true] at hn';have HO:=zH (show onQ s p=(decide (crs (srtS s).1 (srtS s).2 p=0) && decide (lexC (srtS s).1 p≤0) && decide (lexC p (srtS s).2≤0) && (decide ((srtS s).1≠(srtS s).2) || decide (p=(srtS s).1))) from rfl);generalize onQ s p=res at HO ⊢;generalize srtS s=r at SR hn' HO;have OR:=zH (fun w=>zfp r.1 r.2 p hn'.1 hn'.2 hp w);have C1:=zH (fun w=>zkx r.1 p w);have C2:=zH (fun w=>zkx p r.2 w);have eqg:=eg37;have nq:=zahn r.1 r.2;have eq:=zdc p r.1;have hz:=@zij (crs r.1 r.2 p);obtain ⟨o,ho⟩:∃z,z=sgn (crs r.1 r.2 p):=⟨_,rfl⟩;rw [←ho] at OR hz;have HZ:=zH hz;generalize crs r.1 r.2 p=n at HO HZ;generalize lexC r.1 p=c1 at C1 HO;generalize lexC p r.2=c2 at C2 HO;obtain ⟨d1,hd1⟩:∃z,z=decide (r.1=r.2):=⟨_,rfl⟩;obtain ⟨d2,hd2⟩:∃z,z=decide (p=r.1):=⟨_,rfl⟩;rw [←hd1] at nq;rw [←hd2] at eq HO;have HO2:=zH (show res=(decide (n=0) && decide (c1≤0) && decide (c2≤0) && (!d1 || d2)) by rw [HO.out,hd1];simp);clear ho hd1 hd2 HO hs hs1 hs2 hp hn' hz;obtain ⟨⟨ax,ay⟩,⟨bx,by1⟩⟩:=s;obtain ⟨px,py⟩:=p;obtain ⟨⟨rx,ry⟩,⟨qx,qy⟩⟩:=r;simp only [] at NR SR OR C1 C2 nq eq ⊢;go_enter Tryz.func23,Tryz.ntmps23;go_wp2_with fail;have H1:=zao (o':=.cells #[.int .i64 ax,.int .i64 ay,.int .i64 bx,.int .i64 by1,.int .i64 px,.int .i64 py] 33) (zao (o':=.cells #[.int .i64 px,.int .i64 py] 33) (zan w (.cells #[.int .i64 ax,.int .i64 ay,.int .i64 bx,.int .i64 by1] 48)));have H2:=zao (o':=.cells #[.int .i64 ax,.int .i64 ay,.int .i64 bx,.int .i64 by1,.int .i64 px,.int .i64 py] 33) (zfj w (.cells #[.int .i64 ax,.int .i64 ay,.int .i64 bx,.int .i64 by1] 48) (.cells #[.int .i64 px,.int .i64 py] 33));have H3:=zth w (.cells #[.int .i64 ax,.int .i64 ay,.int .i64 bx,.int .i64 by1] 48) (.cells #[.int .i64 px,.int .i64 py] 33) (.cells #[.int .i64 ax,.int .i64 ay,.int .i64 bx,.int .i64 by1,.int .i64 px,.int .i64 py] 33);refine (NR.out _ _ (RowE.of_block (l:=[(ax,ay),(bx,by1),(px,py)]) zeb rfl H3 3 rfl)).mono ?_;rintro e w2 ⟨rfl,hb⟩;have B2:Below w.heap.size w w2:=zac (by repeat' (first | exact Below.refl _ _ | refine Below.drew ?_ | refine Below.drewN' ?_ | refine Below.setCell ?_ (by first | omega | (simp;done) | exact Below.size (by assumption) | (simp;omega)) _ | refine Below.alloc ?_ (by first | omega | (simp;done) | exact Below.size (by assumption) | (simp;omega)) _ | refine Below.trans ?_ (Below.mono (by assumption) ?_) | (first | omega | (simp;done) | exact Below.size (by assumption) | (simp;omega)))) zR hb;have H1:=zH (zab hb H1);have H2:=zH (zab hb H2);clear hb H3 NR;obtain ⟨az,a0,a1,a2,a3⟩:=rk4 H1.out;go_wp2_with fail;refine (SR.out _).mono ?_;rintro e w3 ⟨rfl,hb⟩;have B3:=zac B2 zR hb;clear a0 a1 a2 a3 az;replace H1:=zH (zab hb H1.out);replace H2:=zH (zab hb H2.out);clear hb B2 SR;obtain ⟨az,a0,a1,a2,a3⟩:=rk4 H1.out;have af0:=frozen_of_row w3 _ 0 _ _ H1.out;have af1:=frozen_of_row w3 _ 1 _ _ H1.out;have af2:=frozen_of_row w3 _ 2 _ _ H1.out;have af3:=frozen_of_row w3 _ 3 _ _ H1.out;obtain ⟨bz,b0,b1⟩:=rk2 H2.out;go_wp2_with fail;have hne:w.heap.size+1≠w.heap.size:=by omega
 have G1:=ztg (x:=.int .i64 rx) (y:=.int .i64 ry) (z:=.int .i64 qx) (u:=.int .i64 qy) H1.out;have G2:=zoa (g:=w.heap.size) (x:=.int .i64 rx) (y:=.int .i64 ry) (z:=.int .i64 qx) (u:=.int .i64 qy) H2.out hne;have B4:=zob (g:=w.heap.size) (x:=.int .i64 rx) (y:=.int .i64 ry) (z:=.int .i64 qx) (u:=.int .i64 qy) B3 zR;generalize hw4:(((w3.setCell ⟨w.heap.size,0,none⟩ (.int .i64 rx)).setCell ⟨w.heap.size,1,none⟩ (.int .i64 ry)).setCell ⟨w.heap.size,2,none⟩ (.int .i64 qx)).setCell ⟨w.heap.size,3,none⟩ (.int .i64 qy)=w4;rw [hw4] at G1 G2 B4;clear a0 a1 a2 a3 az af0 af1 af2 af3;clear b0 b1 bz;have H1:=zH G1;have H2:=zH G2;clear G1 G2 hw4 B3;refine (OR.out _).mono ?_;rintro e w5 ⟨rfl,hb⟩;have B5:=zac B4 zR hb;replace H1:=zH (zab hb H1.out);replace H2:=zH (zab hb H2.out);clear hb B4 OR;by_cases h0:o=0;case neg =>
  have h0d:(o==0)=false:=by rw [beq_eq_false_iff_ne];exact h0
  have HE:=zH (show res=false by
   have:n≠0:=fun e=>h0 (HZ.out.2 e)
   rw [HO2.out,decide_eq_false this];rfl)
  clear h0;go_wp2;go_ret;exact ⟨by rw [HE.out]<;>rfl,B5⟩
 have hn0:=HZ.out.1 h0;subst h0;obtain ⟨az,a0,a1,a2,a3⟩:=rk4 H1.out;obtain ⟨bz,b0,b1⟩:=rk2 H2.out;go_wp2_with fail;refine (C1.out _).mono ?_;rintro e w6 ⟨rfl,hb⟩;have B6:=zac B5 zR hb;replace H1:=zH (zab hb H1.out);replace H2:=zH (zab hb H2.out);clear a0 a1 a2 a3 az;clear b0 b1 bz;clear hb B5 C1;by_cases h1:c1≤0;case neg =>
  have h1d:decide (c1≤0)=false:=decide_eq_false h1;have HE:=zH (show res=false by rw [HO2.out,h1d];simp);clear h1;go_wp2;go_ret;exact ⟨by rw [HE.out]<;>rfl,B6⟩
 have h1d:decide (c1≤0)=true:=decide_eq_true h1;obtain ⟨az,a0,a1,a2,a3⟩:=rk4 H1.out;obtain ⟨bz,b0,b1⟩:=rk2 H2.out;go_wp2_with fail;refine (C2.out _).mono ?_;rintro e w7 ⟨rfl,hb⟩;have B7:=zac B6 zR hb;replace H1:=zH (zab hb H1.out);replace H2:=zH (zab hb H2.out);clear a0 a1 a2 a3 az;clear b0 b1 bz;clear hb B6 C2;by_cases h2:c2≤0;case neg =>
  have h2d:decide (c2≤0)=false:=decide_eq_false h2;have HE:=zH (show res=false by rw [HO2.out,h2d];simp);clear h2;go_wp2;go_ret;exact ⟨by rw [HE.out]<;>rfl,B7⟩
 have h2d:decide (c2≤0)=true:=decide_eq_true h2;have HE2:=zH (show res=(!d1 || d2) by rw [HO2.out,h1d,h2d,decide_eq_true hn0];rfl);obtain ⟨az,a0,a1,a2,a3⟩:=rk4 H1.out;obtain ⟨bz,b0,b1⟩:=rk2 H2.out;cases d1 with
 |false =>have HE:=zH (show res=true by rw [HE2.out];rfl);clear hn0;go_wp2;go_ret;exact ⟨by rw [HE.out]<;>rfl,B7⟩
 |true =>have HE:=zH (show res=d2 by rw [HE2.out];rfl);clear hn0;go_wp2;go_ret;exact ⟨by rw [HE.out]<;>rfl,B7⟩
end Go.Proofs.YtibpaaajghbkoaaGreat
