/-  -/
import Derived.Test.YtibpaaajghbkoaaGreatWAv
import Derived.Test.YtibpaaajghbkoaaGreatWAu
import Derived.Test.YtibpaaajghbkoaaGreatWBc
import Derived.Test.YtibpaaajghbkoaaGreatWAr
import Derived.Test.YtibpaaajghbkoaaGreatWBd
import Derived.StillTailTactics
namespace Go.Proofs.YtibpaaajghbkoaaGreat
open Go.RowKit Go.Maps Go.Sort Go.ChangeMaps
theorem zzz {a b c:Nat} {w W:World} {d o:Nat} {v:Value} (h:w.cell? ⟨d,o,none⟩=some v) (hk:zed a b c w W) (ha:zbg w (some a)) (hb:zbg w (some b)) (hc:zbg w (some c)):W.cell? ⟨d,o,none⟩=some v:=by
 obtain ⟨ob,ho,hcell⟩:=cells_of_cell h;have ne:∀q,zbg w (some q)→d≠q:=fun q hq e=>by obtain ⟨o',h1,h2⟩:=hq q rfl;subst e;simp only at ho;rw [h1] at ho;injection ho with ho;rw [ho,hcell] at h2;cases h2
 exact (World.cell?_of_block (hk.2 d (zag h) (ne a ha) (ne b hb) (ne c hc))).trans h
theorem zaj.k3 {a b c:Nat} {w W:World} {v:Value} {l:List ByteArray} (h:zaj w v l) (hk:zed a b c w W) (ha:zbg w (some a)) (hb:zbg w (some b)) (hc:zbg w (some c)):zaj W v l:=by obtain ⟨ad,cap,e,h1,h2,h3⟩:=h;refine ⟨ad,cap,e,h1,h2,fun hp=>?_⟩;obtain ⟨bb,off,had,hcc⟩:=h3 hp;exact ⟨bb,off,had,fun i s hs=>zzz (hcc i s hs) hk ha hb hc⟩
theorem zba.k3 {a b c:Nat} {w W:World} {v:Value} {l:List TagD} (h:zba w v l) (hk:zed a b c w W) (ha:zbg w (some a)) (hb:zbg w (some b)) (hc:zbg w (some c)):zba W v l:=by obtain ⟨ad,cap,e,h1,h2,h3⟩:=h;refine ⟨ad,cap,e,h1,h2,fun hp=>?_⟩;obtain ⟨bb,off,had,hcc⟩:=h3 hp;exact ⟨bb,off,had,fun i s hs=>⟨zzz (hcc i s hs).1 hk ha hb hc,zzz (hcc i s hs).2 hk ha hb hc⟩⟩
theorem zgh.k3 {a b c:Nat} {w W:World} {x:ObM} (h:zgh w x) (hk:zed a b c w W) (ha:zbg w (some a)) (hb:zbg w (some b)) (hc:zbg w (some c)):zgh W x:=⟨⟨h.1.1.k3 hk ha hb hc,h.1.2.1.k3 hk ha hb hc,h.1.2.2⟩,h.2⟩
theorem zcu.k3 {b c bo:Nat} {w W:World} {f:ByteArray→Option ObjD} (h:zcu w bo f) (hk:zed b b c w W) (hb:zbg w (some b)) (hc:zbg w (some c)) (n1:bo≠b) (n2:bo≠c):zcu W bo f:=by obtain ⟨O,h1,h2,h3,h4⟩:=h;exact ⟨O,h1.later (hk.2 bo h1.lt n1 n1 n2),h2,fun p hp=>(h3 p hp).k3 hk hb hb hc,h4⟩
def ObjC (w:World) (v:Value) (l:List ObjD):Prop:=∃L:List ObM,RowE zgw 6 w v L∧L.map (·.1)=l∧∀x∈L,zgh w x
theorem ObjC.later {w W:World} {v:Value} {l:List ObjD} (h:ObjC w v l) (hb:Below w.heap.size w W):ObjC W v l:=by obtain ⟨L,h1,h2,h3⟩:=h;exact ⟨L,h1.later hb,h2,fun x hx=>(h3 x hx).later hb⟩
theorem ObjC.is {w:World} {v:Value} {l:List ObjD} (h:ObjC w v l) (hl:l.length≤140737488355328):zbb w v l:=by obtain ⟨L,h1,h2,h3⟩:=h;subst h2;rw [List.length_map] at hl;exact zahb h1 (fun x hx=>(h3 x hx).1) hl
def zkj (L:List ObM) (w:World) (b:Nat) (f:ByteArray→Option ObjD) (n:Nat):Prop :=
 ∃O:List (ByteArray × ObM),zbj Tryz.prog 9 Value.string objV w b O∧(∀id,(aget id O).map (·.1)=f id)∧(∀p∈O,p.2∈L)∧O.length≤n
theorem zkj.at {L:List ObM} {w:World} {b n:Nat} {f:ByteArray→Option ObjD} (h:zkj L w b f n) (hn:n≤1000000) (hL:∀x∈L,zgh w x):zcu w b f:=by obtain ⟨O,h1,h2,h3,h4⟩:=h;exact ⟨O,h1,h2,fun p hp=>hL _ (h3 p hp),Nat.le_trans h4 hn⟩
theorem zkj.on {L:List ObM} {w w':World} {b n:Nat} {f:ByteArray→Option ObjD} (h:zkj L w b f n) (hb:Below w.heap.size w w'):zkj L w' b f n:=by obtain ⟨O,h1,h2,h3,h4⟩:=h;exact ⟨O,h1.on hb,h2,h3,h4⟩
theorem zkj.kept {L:List ObM} {w w':World} {b n:Nat} {f:ByteArray→Option ObjD} {row:Option Nat} (h:zkj L w b f n) (hg:w.grownBy w' row) (hne:some b≠row):zkj L w' b f n:=by obtain ⟨O,h1,h2⟩:=h;exact ⟨O,h1.kept hg hne,h2⟩
theorem zkj.later {L:List ObM} {w w':World} {b n:Nat} {f:ByteArray→Option ObjD} (h:zkj L w b f n) (hg:w'.heap[b]?=w.heap[b]?):zkj L w' b f n:=by obtain ⟨O,h1,h2⟩:=h;exact ⟨O,h1.later hg,h2⟩
theorem zkj.noCells {L:List ObM} {w:World} {b n:Nat} {f:ByteArray→Option ObjD} (h:zkj L w b f n):zbg w (some b):=by obtain ⟨O,h1,_⟩:=h;exact h1.noCells
theorem zkj.put {L:List ObM} {w:World} {b n:Nat} {f g:ByteArray→Option ObjD} (h:zkj L w b f n) (hn:n≤1000000) (id:ByteArray) (hz:id.size≤140737488355328) (x:ObM) (hx:x∈L) (hg:∀r,g r=if r=id then some x.1 else f r) :
  ∃w',(Instr.mapUpdate 61 (.map (some b)) (.string id) (objV x)).run Tryz.prog w=.ok () w'∧zkj L w' b g (n+1)∧w.grownBy w' (some b):=by
 obtain ⟨O,h1,h2,h3,h4⟩:=h;obtain ⟨w',hr,hm,hgr⟩:=h1.put keyS zef Tryz.underlying61 (by unfold maxLen;omega) id (zcf hz) x;refine ⟨w',hr,⟨_,hm,fun r=>?_,fun p hp=>?_,Nat.le_trans (zde id x O) (Nat.succ_le_succ h4)⟩,hgr⟩
 ·rw [hg];by_cases e:r=id
  ·subst e;rw [zby,if_pos rfl];rfl
  ·rw [zci _ (fun c=>e c.symm),if_neg e];exact h2 r
 ·rcases zim hp with rfl | hp
  ·exact hx
  ·exact h3 p hp
def zjn (w:World) (b:Nat) (f:ByteArray→Option Pt) (n:Nat):Prop :=
 ∃O:List (ByteArray × Pt),zbj Tryz.prog 9 Value.string intK w b O∧(∀r,aget r O=f r)∧O.length≤n
theorem zjn.at {w:World} {b n:Nat} {f:ByteArray→Option Pt} (h:zjn w b f n) (hn:n≤4000000000):zej w b f:=by obtain ⟨O,h1,h2,h3⟩:=h;exact ⟨O,h1,h2,Nat.le_trans h3 hn⟩
theorem zjn.on {w w':World} {b n:Nat} {f:ByteArray→Option Pt} (h:zjn w b f n) (hb:Below w.heap.size w w'):zjn w' b f n:=by obtain ⟨O,h1,h2⟩:=h;exact ⟨O,h1.on hb,h2⟩
theorem zjn.noCells {w:World} {b n:Nat} {f:ByteArray→Option Pt} (h:zjn w b f n):zbg w (some b):=by obtain ⟨O,h1,_⟩:=h;exact h1.noCells
theorem zjn.kept {w w':World} {b n:Nat} {f:ByteArray→Option Pt} {row:Option Nat} (h:zjn w b f n) (hg:w.grownBy w' row) (hne:some b≠row):zjn w' b f n:=by obtain ⟨O,h1,h2⟩:=h;exact ⟨O,h1.kept hg hne,h2⟩
theorem zjn.congr {w:World} {b n m:Nat} {f g:ByteArray→Option Pt} (h:zjn w b f n) (hn:n≤m) (e:∀r,f r=g r):zjn w b g m:=by obtain ⟨O,h1,h2,h3⟩:=h;exact ⟨O,h1,fun r=>(h2 r).trans (e r),Nat.le_trans h3 hn⟩
theorem zjn.put {w:World} {b n:Nat} {f g:ByteArray→Option Pt} (h:zjn w b f n) (hn:n≤4000000000) (id:ByteArray) (hz:id.size≤140737488355328) (x:Pt) (hg:∀r,g r=if r=id then some x else f r) :
  ∃w',(Instr.mapUpdate 62 (.map (some b)) (.string id) (intK x)).run Tryz.prog w=.ok () w'∧zjn w' b g (n+1)∧w.grownBy w' (some b):=by
 obtain ⟨O,h1,h2,h4⟩:=h;obtain ⟨w',hr,hm,hgr⟩:=h1.put keyS zef Tryz.underlying62 (by unfold maxLen;omega) id (zcf hz) x;refine ⟨w',hr,⟨_,hm,fun r=>?_,Nat.le_trans (zde id x O) (Nat.succ_le_succ h4)⟩,hgr⟩;rw [hg];by_cases e:r=id
 ·subst e;rw [zby,if_pos rfl]
 ·rw [zci _ (fun c=>e c.symm),if_neg e];exact h2 r
structure OfI (L:List ObM) (w:World) (bp bo bn br base:Nat) (f:ByteArray→Option ObjD) (vo:Value) (ids:List ByteArray) (n:Nat) (W:World):Prop where
 row:W.heap[bp]?=some (.cells #[.map (some bo),vo,.map (some bn),.map (some br)] 65)
 objs:zkj L W bo f n
 own:W.ownsRow base 9 1 vo ids.length (ids.map Value.string)
 nods:zbj Tryz.prog 9 Value.string intK W bn []
 refs:zbj Tryz.prog 9 Value.string (fun p:Value × List ByteArray=>p.1) W br []
 low:Below w.heap.size w W
 big:base≤W.heap.size
theorem OfI.on {L:List ObM} {w:World} {bp bo bn br base n:Nat} {f:ByteArray→Option ObjD} {vo:Value} {ids:List ByteArray} {W W':World} (h:OfI L w bp bo bn br base f vo ids n W) (hb:Below W.heap.size W W'):OfI L w bp bo bn br base f vo ids n W' :=
 ⟨zab hb h.row,h.objs.on hb,zaq h.own hb,h.nods.on hb,h.refs.on hb,h.low.trans (hb.mono h.low.size),Nat.le_trans h.big hb.size⟩
theorem OfI.put {L:List ObM} {w:World} {bp bo bn br base n:Nat} {f:ByteArray→Option ObjD} {vo:Value} {ids:List ByteArray} {W:World} (h:OfI L w bp bo bn br base f vo ids n W) (n1:bo≠bn) (n2:bo≠br) (hb:bo<base) (hw:w.heap.size≤bo) (hn:n≤1000000) (id:ByteArray) (hz:id.size≤140737488355328) (x:ObM) (hx:x∈L) {f':ByteArray→Option ObjD} (hf:∀r,f' r=if r=id then some x.1 else f r) :
  ∃W',(Instr.mapUpdate 61 (.map (some bo)) (.string id) (objV x)).run Tryz.prog W=.ok () W'∧OfI L w bp bo bn br base f' vo ids (n+1) W'∧W.grownBy W' (some bo):=by
 obtain ⟨W',hr,ho,hg⟩:=h.objs.put hn id hz x hx hf;have hnc:=h.objs.noCells;have hvo:vo.ownBlock≠some bo:=fun c=>by have:=(zap h.own _ c).1;omega
 exact ⟨W',hr,⟨zcm rfl hg hnc h.row,ho,h.own.kept hg (Or.inr hvo),h.nods.kept hg (zdh n1.symm),h.refs.kept hg (zdh n2.symm),h.low.grown hg h.low.size (fun j hj=>by injection hj with hj;omega),Nat.le_trans h.big hg.size⟩,hg⟩
structure OfA (L:List ObM) (w:World) (bp bo bn br base:Nat) (f:ByteArray→Option ObjD) (vo v':Value) (ids:List ByteArray) (n:Nat) (W:World):Prop where
 row:W.heap[bp]?=some (.cells #[.map (some bo),vo,.map (some bn),.map (some br)] 65)
 objs:zkj L W bo f n
 own:W.ownsRow base 9 1 v' ids.length (ids.map Value.string)
 nods:zbj Tryz.prog 9 Value.string intK W bn []
 refs:zbj Tryz.prog 9 Value.string (fun p:Value × List ByteArray=>p.1) W br []
 low:Below w.heap.size w W
 big:base≤W.heap.size
theorem OfA.on {L:List ObM} {w:World} {bp bo bn br base n:Nat} {f:ByteArray→Option ObjD} {vo v':Value} {ids:List ByteArray} {W W':World} (h:OfA L w bp bo bn br base f vo v' ids n W) (hb:Below W.heap.size W W'):OfA L w bp bo bn br base f vo v' ids n W' :=
 ⟨zab hb h.row,h.objs.on hb,zaq h.own hb,h.nods.on hb,h.refs.on hb,h.low.trans (hb.mono h.low.size),Nat.le_trans h.big hb.size⟩
theorem OfI.append {L:List ObM} {w:World} {bp bo bn br base n:Nat} {f:ByteArray→Option ObjD} {vo v':Value} {ids ids':List ByteArray} {W W':World} (h:OfI L w bp bo bn br base f vo ids n W) (h1:bp<base) (h2:bo<base) (h3:bn<base) (h4:br<base) (hwb:w.heap.size≤base) (hg:W.grownBy W' vo.ownBlock) (hown:W'.ownsRow base 9 1 v' ids'.length (ids'.map Value.string)):OfA L w bp bo bn br base f vo v' ids' n W':=by
 have hvb:∀q,q<base→some q≠vo.ownBlock:=fun q hq c=>by have:=(zap h.own _ c.symm).1;omega
 exact ⟨zak hg h.row (hvb _ h1),h.objs.kept hg (hvb _ h2),hown,h.nods.kept hg (hvb _ h3),h.refs.kept hg (hvb _ h4),h.low.grown hg h.low.size (fun j hj=>Nat.le_trans hwb (zap h.own j hj).1),Nat.le_trans h.big hg.size⟩
theorem OfA.store {L:List ObM} {w:World} {bp bo bn br base n:Nat} {f:ByteArray→Option ObjD} {vo v':Value} {ids:List ByteArray} {W:World} (h:OfA L w bp bo bn br base f vo v' ids n W) (h1:bp<base) (h2:bo≠bp) (h3:bn≠bp) (h4:br≠bp) (hwb:w.heap.size≤bp):OfI L w bp bo bn br base f v' ids n (W.setCell ⟨bp,1,none⟩ v'):=by have hset:=zal (g:=bp) [v'] 1 W;have hr:=zbl (i:=1) (v:=v') h.row;exact ⟨by simpa using hr,h.objs.kept hset (zdh h2),h.own.kept hset (Or.inr (fun c=>by have:=(zap h.own _ c).1;omega)),h.nods.kept hset (zdh h3),h.refs.kept hset (zdh h4),h.low.grown hset h.low.size (fun j hj=>by injection hj with hj;omega),Nat.le_trans h.big hset.size⟩
theorem zdg.of {P:Program} {S0:World→Prop} {o:Oper} {a:Act} {v:Value} (h:∀w,S0 w→(execOp a.eval o).run P w=.ok (.value v) w):zdg P S0 o a v:=fun w hw=>by show Oper.quietUpon P (ByW w) w v _;rw [h w hw];exact ⟨rfl,rfl⟩
abbrev idsT (l:List ObjD) (k:Nat):List ByteArray:=(l.take k).map fun q:ObjD=>q.id
structure OgI (l:List ObjD) (wB:World) (bn br:Nat) (o:ObjD) (k i:Nat) (W:World):Prop where
 kept:zed bn bn br wB W
 grp:GrpI wB.heap.size br (refI l k i o) (2000 * k+i) W
 nods:zjn W bn (nodG l k i o) (2000 * k+i)
theorem OgI.on {l:List ObjD} {wB:World} {bn br:Nat} {o:ObjD} {k i:Nat} {W W':World} (h:OgI l wB bn br o k i W) (hb:Below W.heap.size W W'):OgI l wB bn br o k i W':=⟨h.kept.trans (zed.of_below hb),h.grp.on hb,h.nods.on hb⟩
structure OgM (l:List ObjD) (wB:World) (bn br:Nat) (o:ObjD) (k i:Nat) (W:World):Prop where
 kept:zed bn bn br wB W
 grp:GrpI wB.heap.size br (refI l k (i+1) o) (2000 * k+(i+1)) W
 nods:zjn W bn (nodG l k i o) (2000 * k+i)
theorem OgM.on {l:List ObjD} {wB:World} {bn br:Nat} {o:ObjD} {k i:Nat} {W W':World} (h:OgM l wB bn br o k i W) (hb:Below W.heap.size W W'):OgM l wB bn br o k i W':=⟨h.kept.trans (zed.of_below hb),h.grp.on hb,h.nods.on hb⟩
structure OgA (l:List ObjD) (wB:World) (bn br:Nat) (o:ObjD) (k i:Nat) (s:ByteArray) (v':Value) (W:World):Prop where
 kept:zed bn bn br wB W
 mid:MidG wB.heap.size br (refI l k i o) (2000 * k+i) s v' (refI l k i o s++[o.id]) W
 nods:zjn W bn (nodG l k i o) (2000 * k+i)
theorem OgA.on {l:List ObjD} {wB:World} {bn br:Nat} {o:ObjD} {k i:Nat} {s:ByteArray} {v':Value} {W W':World} (h:OgA l wB bn br o k i s v' W) (hb:Below W.heap.size W W'):OgA l wB bn br o k i s v' W':=⟨h.kept.trans (zed.of_below hb),h.mid.on hb,h.nods.on hb⟩
theorem OgA.store {l:List ObjD} {wB:World} {bn br:Nat} {o:ObjD} {k i:Nat} {s:ByteArray} {v':Value} {W:World} (h:OgA l wB bn br o k i s v' W) (hne:bn≠br) (hk:k≤1000) (hi:i≤2000) (hz:s.size≤140737488355328) (hs:o.refs[i]?=some s) (hnot:s ∉ o.refs.take i) :
  ∃W',(Instr.mapUpdate 63 (.map (some br)) (.string s) v').run Tryz.prog W=.ok () W'∧OgM l wB bn br o k i W'∧W.grownBy W' (some br):=by
 obtain ⟨W',hr,hG,hg⟩:=h.mid.store (g:=refI l k (i+1) o) (by omega) hz (fun r=>by
  rw [zabd hs]
  by_cases e:r=s
  ·subst e;rw [if_pos ⟨rfl,hnot⟩,if_pos rfl]
  ·rw [if_neg (fun c=>e c.1),if_neg e])
 exact ⟨W',hr,⟨h.kept.trans (zed.row hg (Or.inr (Or.inr rfl))),hG,h.nods.kept hg (zdh hne)⟩,hg⟩
theorem OgI.old {l:List ObjD} {wB:World} {bn br:Nat} {o:ObjD} {k i:Nat} {s:ByteArray} {W:World} (h:OgI l wB bn br o k i W) (hs:o.refs[i]?=some s) (hin:s∈o.refs.take i):OgM l wB bn br o k i W :=
 ⟨h.kept,h.grp.congr (by omega) (fun r=>by
  rw [zabd hs]
  by_cases e:r=s
  ·subst e;rw [if_neg (fun c=>c.2 hin)]
  ·rw [if_neg (fun c=>e c.1)]),h.nods⟩
theorem OgM.skip {l:List ObjD} {wB:World} {bn br:Nat} {o:ObjD} {k i:Nat} {s:ByteArray} {W:World} (h:OgM l wB bn br o k i W) (hs:o.refs[i]?=some s) (hb:¬(o.kind=2∨o.kind=3)):OgI l wB bn br o k (i+1) W :=
 ⟨h.kept,h.grp,h.nods.congr (by omega) (fun r=>(zahj hs hb r).symm)⟩
theorem OgM.put {l:List ObjD} {wB:World} {bn br:Nat} {o:ObjD} {k i:Nat} {s:ByteArray} {W:World} (h:OgM l wB bn br o k i W) (hne:bn≠br) (hk:k≤1000) (hi:i≤2000) (hz:s.size≤140737488355328) (hs:o.refs[i]?=some s) (hb:o.kind=2∨o.kind=3) {p:Pt} (hp:p=ptO l s) :
  ∃W',(Instr.mapUpdate 62 (.map (some bn)) (.string s) (intK p)).run Tryz.prog W=.ok () W'∧OgI l wB bn br o k (i+1) W'∧W.grownBy W' (some bn):=by
 obtain ⟨W',hr,hG,hg⟩:=h.nods.put (g:=nodG l k (i+1) o) (by omega) s hz p (fun r=>by rw [zahi hs hb,hp]);exact ⟨W',hr,⟨h.kept.trans (zed.row hg (Or.inl rfl)),h.grp.kept hg (Ne.symm hne) h.nods.noCells,hG⟩,hg⟩
structure OgV (l:List ObjD) (wB:World) (bn br:Nat) (o:ObjD) (k i:Nat) (s:ByteArray) (V:Value) (W:World):Prop where
 kept:zed bn bn br wB W
 grp:∃acc:List (ByteArray × Value × List ByteArray),zbt Tryz.prog 9 Value.string wB.heap.size 9 W br acc∧acc.length≤2000 * k+i∧(∀r,(aget r (zek acc)).getD []=refI l k i o r)∧((aget s acc).map (fun p:Value × List ByteArray=>p.1)).getD (.slice none 0 0)=V
 nods:zjn W bn (nodG l k i o) (2000 * k+i)
theorem OgV.on {l:List ObjD} {wB:World} {bn br:Nat} {o:ObjD} {k i:Nat} {s:ByteArray} {V:Value} {W W':World} (h:OgV l wB bn br o k i s V W) (hb:Below W.heap.size W W'):OgV l wB bn br o k i s V W':=by obtain ⟨h1,⟨acc,a1,a2⟩,h3⟩:=h;exact ⟨h1.trans (zed.of_below hb),⟨acc,a1.on hb,a2⟩,h3.on hb⟩
theorem OgI.looks {l:List ObjD} {wB:World} {bn br:Nat} {o:ObjD} {k i:Nat} {W:World} (h:OgI l wB bn br o k i W) (s:ByteArray) (hz:s.size≤140737488355328) :
  ∃V,(Instr.lookup 63 (.map (some br)) (.string s) false).run Tryz.prog W=.ok V W∧OgV l wB bn br o k i s V W:=by
 obtain ⟨acc,h1,h2,h3⟩:=h.grp;exact ⟨_,h1.1.look keyS zef Tryz.underlying63 (ziu W) s (zcf hz),⟨h.kept,⟨acc,h1,h2,h3,rfl⟩,h.nods⟩⟩
theorem OgV.own {l:List ObjD} {wB:World} {bn br:Nat} {o:ObjD} {k i:Nat} {s:ByteArray} {V:Value} {W:World} (h:OgV l wB bn br o k i s V W):W.ownsRow wB.heap.size 9 1 V (refI l k i o s).length ((refI l k i o s).map Value.string):=by
 obtain ⟨acc,h1,h2,h3,h4⟩:=h.grp;rw [←h4,←h3 s,zgy];cases hg:aget s acc with
 |none=>exact World.ownsRow_nil _ _ _ _
 |some p=>exact h1.2.2.1 _ (zdy hg)
theorem OgV.append {l:List ObjD} {wB:World} {bn br:Nat} {o:ObjD} {k i:Nat} {s:ByteArray} {V v':Value} {W W':World} (h:OgV l wB bn br o k i s V W) (hbn:bn<wB.heap.size) (hg:W.grownBy W' V.ownBlock) (hown:W'.ownsRow wB.heap.size 9 1 v' (refI l k i o s++[o.id]).length ((refI l k i o s++[o.id]).map Value.string)) (hloc:v'.ownBlock=V.ownBlock∨v'.ownBlock=some W.heap.size):OgA l wB bn br o k i s v' W':=by have ho:=h.own;obtain ⟨acc,h1,h2,h3,h4⟩:=h.grp;refine ⟨⟨h.kept.1.grown hg (Nat.zero_le _) (fun _ _=>Nat.zero_le _),fun q hq e1 e2 e3=>(hg.block q (Nat.lt_of_lt_of_le hq h.kept.1.size) (fun c=>by have:=(zap ho q c.symm).1;omega)).trans (h.kept.2 q hq e1 e2 e3)⟩,⟨acc,W,V,h1,h2,h3,h4,hg,hown,hloc.imp id (fun e=>⟨_,e,Nat.le_refl _⟩)⟩,h.nods.kept hg (fun c=>by have:=(zap ho bn c.symm).1;omega)⟩
theorem OgI.swap {l:List ObjD} {wB:World} {bn br:Nat} {o o':ObjD} {k:Nat} {W:World} (h:OgI l wB bn br o k 0 W):OgI l wB bn br o' k 0 W :=
 ⟨h.kept,h.grp.congr zR (fun r=>zagg l k o o' r),h.nods.congr zR (fun r=>zahh l k o o' r)⟩
theorem OgI.next {l:List ObjD} {wB:World} {bn br:Nat} {o o':ObjD} {k:Nat} {W:World} (ho:l[k]?=some o) (hr:o.refs.length≤2000) (h:OgI l wB bn br o k o.refs.length W):OgI l wB bn br o' (k+1) 0 W :=
 ⟨h.kept,h.grp.congr (by omega) (fun r=>zagh ho r),h.nods.congr (by omega) (fun r=>zahl ho r)⟩
def zfv (b7 b10 bp:Nat) (x7 x10 xp:Array Value) (W:World):Prop:=W.heap[b7]?=some (.cells x7 36)∧W.heap[b10]?=some (.cells x10 36)∧W.heap[bp]?=some (.cells xp 65)
theorem zfv.on {b7 b10 bp:Nat} {x7 x10 xp:Array Value} {W W':World} (h:zfv b7 b10 bp x7 x10 xp W) (hb:Below W.heap.size W W'):zfv b7 b10 bp x7 x10 xp W':=⟨zab hb h.1,zab hb h.2.1,zab hb h.2.2⟩
theorem zfv.grown {b7 b10 bp:Nat} {x7 x10 xp:Array Value} {W W':World} {row:Option Nat} (h:zfv b7 b10 bp x7 x10 xp W) (hg:W.grownBy W' row) (hn:zbg W row):zfv b7 b10 bp x7 x10 xp W':=⟨zcm rfl hg hn h.1,zcm rfl hg hn h.2.1,zcm rfl hg hn h.2.2⟩
theorem zcn {W:World} {b base n size:Nat} {cs:Array Value} {t e:TypeId} {v:Value} {xs:List Value} (h:W.heap[b]?=some (.cells cs t)) (ho:W.ownsRow base e size v n xs) (hne:t≠e):some b≠v.ownBlock:=by
 rcases ho.2 with ⟨rfl,_⟩ | ⟨g,cap,cur,rfl,_,hc,_⟩
 ·simp [Value.ownBlock]
 ·intro c;simp only [Value.ownBlock,Option.some.injEq] at c;subst c;rw [hc] at h;injection h with h;injection h with _ h2 _;exact hne h2.symm
theorem zfv.own {b7 b10 bp base n:Nat} {x7 x10 xp:Array Value} {W W':World} {v:Value} {xs:List Value} (h:zfv b7 b10 bp x7 x10 xp W) (ho:W.ownsRow base 9 1 v n xs) (hg:W.grownBy W' v.ownBlock):zfv b7 b10 bp x7 x10 xp W' :=
 ⟨zak hg h.1 (zcn h.1 ho (by decide)),zak hg h.2.1 (zcn h.2.1 ho (by decide)),zak hg h.2.2 (zcn h.2.2 ho (by decide))⟩
theorem MidG.noCells {base br n:Nat} {f:ByteArray→List ByteArray} {s:ByteArray} {v':Value} {ids':List ByteArray} {W:World} (h:MidG base br f n s v' ids' W):zbg W (some br):=by
 obtain ⟨acc,Wp,V,h1,h2,h3,h4,h5,h6,h7⟩:=h;have hV:V.ownBlock≠some br:=by
  rw [←h4];cases hg:aget s acc with
  |none=>simp [Value.ownBlock]
  |some p =>intro c;have h8:=(zap (h1.2.2.1 _ (zdy hg)) br c).1;have h9:=h1.2.1;omega
 intro r e;injection e with e;subst e;obtain ⟨ob,a1,a2⟩:=h1.1.noCells br rfl;exact ⟨ob,(h5.block br h1.1.lt (fun c=>hV c.symm)).trans a1,a2⟩
theorem zahk (l:List ObjD) (o:ObjD) (r:ByteArray):nodG l 0 0 o r=none:=by
 classical
 unfold nodG;rw [if_neg];rw [zpj];intro c;obtain ⟨x,hx,_⟩:=zgf.1 c;cases hx
theorem zake {a b:Int} (h:a=b):(a != b)=false:=by rw [h];simp
theorem zakd {a b:Int} (h:¬a=b):(a != b)=true:=by rw [bne_iff_ne];exact h
theorem zic {a b:Int} (h:¬a=b):(a==b)=false:=by rw [beq_eq_false_iff_ne];exact h
theorem zsq (k:Int):((k=2∨k=3)∧(k==2)=true)∨((k=2∨k=3)∧(k==2)=false∧(k==3)=true)∨(¬(k=2∨k=3)∧(k==2)=false∧(k==3)=false):=by
 by_cases h2:k=2
 ·exact Or.inl ⟨Or.inl h2,by rw [h2];rfl⟩
 ·by_cases h3:k=3
  ·exact Or.inr (Or.inl ⟨Or.inr h3,zic h2,by rw [h3];rfl⟩)
  ·exact Or.inr (Or.inr ⟨fun c=>c.elim h2 h3,zic h2,zic h3⟩)
theorem zwi (o:ObjD) (i:Nat):((o.kind==4)=true∧True∧True∧zfd o i=2∧¬(o.kind=2∨o.kind=3))∨((o.kind==4)=false∧(o.kind==5)=true∧((i:Int) != 1)=false∧zfd o i=1∧¬(o.kind=2∨o.kind=3))∨((o.kind==4)=false∧(o.kind==5)=true∧((i:Int) != 1)=true∧zfd o i=2∧¬(o.kind=2∨o.kind=3))∨((o.kind==4)=false∧(o.kind==5)=false∧True∧zfd o i=1∧True):=by
 unfold zfd;by_cases h4:o.kind=4
 ·exact Or.inl ⟨by rw [h4];rfl,trivial,trivial,if_pos (Or.inl h4),by omega⟩
 ·by_cases h5:o.kind=5
  ·by_cases h1:i=1
   ·exact Or.inr (Or.inl ⟨zic h4,by rw [h5];rfl,by rw [h1];rfl,if_neg (by omega),by omega⟩)
   ·exact Or.inr (Or.inr (Or.inl ⟨zic h4,by rw [h5];rfl,by rw [bne_iff_ne];omega,if_pos (Or.inr ⟨h5,h1⟩),by omega⟩))
  ·exact Or.inr (Or.inr (Or.inr ⟨zic h4,zic h5,trivial,if_neg (by omega),trivial⟩))
def oZ:ObjD:=⟨⟨#[]⟩,0,0,0,[],[]⟩
def zard (l:List ObjD) (w:World) (e:Ending) (w':World):Prop :=
 Below w.heap.size w w'∧((fitP l=false∧e=.returned (.pointer none))∨(fitP l=true∧∃bp bo bn br vo,e=.returned (.pointer (some ⟨bp,0,none⟩))∧zdl w' bp (l.map (·.id)) l bo bn br vo∧w.heap.size≤bo∧w.heap.size≤bn∧w.heap.size≤br))
set_option maxRecDepth 100000 in
set_option maxHeartbeats 4000000 in
theorem zaow (v:Value) (l:List ObjD) (w:World) (hv:ObjC w v l) (hl:l.length≤1000) (hkl:(zau l).length≤20000) :
  Calls Tryz.prog 32 #[.agg #[v]] w (zard l w):=by
 have mixed:Tryz.prog.follows .mixedOrders=true:=by kernel_rfl
 have hmm:=@run_makeMap Tryz.prog;have hvi:=hv.is (by omega);have VD:=zH (fun w' hb=>zrv v l w' (hvi.later (w':=w') hb));have CK:=zH (fun hok w' hb=>zajp v l w' (hvi.later (w':=w') hb) hok hl hkl);have HV:=zH hv;obtain ⟨L,hre,hL,hcap⟩:=hv;obtain ⟨a,cap,rfl,hc⟩:=hre;obtain ⟨N,hN⟩:∃N,L.length=N:=⟨_,rfl⟩;have hNl:l.length=N:=by rw [←hL,List.length_map,hN]
 rw [hN] at hc VD CK HV ⊢;rw [hNl] at hl;have HN:=zH hN;have HL:=zH hL;have HC:=zH hc;have HCAP:=zH hcap;have B1:Below w.heap.size w (w.alloc (.cells #[.slice a N cap] 24)):=(Below.refl _ _).alloc zR _;have H1:=zan w (.cells #[.slice a N cap] 24);clear hvi hc hN hL hcap hkl;cases hok:zas l with
 |false =>have V1:=zH (VD.out _ B1);rw [hok] at V1;have HF:=zH (show fitP l=false by unfold fitP;rw [hok];rfl);clear hok;go_enter Tryz.func32,Tryz.ntmps32;go_wp2_with fail;refine V1.out.mono ?_;rintro e w2 ⟨rfl,hb⟩;have B2:=zac B1 zR hb;go_wp2;go_ret;exact ⟨B2,Or.inl ⟨HF.out,rfl⟩⟩
 |true =>
  have V1:=zH (VD.out _ B1);rw [hok] at V1;have HOK:=zH hok;clear hok;go_enter Tryz.func32,Tryz.ntmps32;go_wp2_with fail;generalize hw1:w.alloc _=w1;rw [hw1] at V1 B1 H1;have hz1:w1.heap.size=w.heap.size+1:=by rw [←hw1];simp
  clear hw1;refine V1.out.mono ?_;rintro e w2 ⟨rfl,hb⟩;have B2:=zac B1 zR hb;have H2:=zH (zab hb H1);have H1:=zH H1;have C2:=hb;clear hb V1;obtain ⟨mz,m0⟩:=rk1 H2.out;go_wp2_with fail;refine (CK.out HOK.out _ B2).mono ?_;rintro e w3 ⟨v3,rfl,hva,hb⟩;have B3:=zac B2 zR hb;have H3:=zH (zab hb H2.out);have C3:=zac C2 zR hb;obtain ⟨L3,hr3,hl3,_⟩:=hva;obtain ⟨a3,c3,hv3,_⟩:=hr3;subst hv3;have h3l:L3.length=(zdf l).length:=by rw [←hl3,List.length_map]
  rw [h3l];clear hb B2 CK VD hl3 h3l C2 H2;clear m0 mz;by_cases hck:(zdf l).length=0
  ·have d1:decide ((0:Int)<((zdf l).length:Int))=false:=decide_eq_false (by omega);have d2:decide (0<(zdf l).length)=false:=decide_eq_false (by omega);have HCK:=zH (List.length_eq_zero_iff.1 hck);clear hck;go_upto_region 4 with fail;have MO:=(zbj.made Tryz.prog 9 Value.string objV w3);have MN:=(zbj.made Tryz.prog 9 Value.string intK (w3.alloc (.map #[] 0)));have MR:=(zbj.made Tryz.prog 9 Value.string (fun p:Value × List ByteArray=>p.1) ((w3.alloc (.map #[] 0)).alloc (.map #[] 0)));have HP:=zan (((w3.alloc (.map #[] 0)).alloc (.map #[] 0)).alloc (.map #[] 0)) (.cells #[.map (some w3.heap.size),.slice none 0 0,.map (some (w3.heap.size+1)),.map (some (w3.heap.size+1+1))] 65);have BA1:Below (w3.alloc (.map #[] 0)).heap.size (w3.alloc (.map #[] 0)) ((((w3.alloc (.map #[] 0)).alloc (.map #[] 0)).alloc (.map #[] 0)).alloc (.cells #[.map (some w3.heap.size),.slice none 0 0,.map (some (w3.heap.size+1)),.map (some (w3.heap.size+1+1))] 65)):=(by repeat' (first | exact Below.refl _ _ | refine Below.drew ?_ | refine Below.drewN' ?_ | refine Below.setCell ?_ (by first | omega | (simp;done) | exact Below.size (by assumption) | (simp;omega)) _ | refine Below.alloc ?_ (by first | omega | (simp;done) | exact Below.size (by assumption) | (simp;omega)) _ | refine Below.trans ?_ (Below.mono (by assumption) ?_) | (first | omega | (simp;done) | exact Below.size (by assumption) | (simp;omega))));have BA2:Below ((w3.alloc (.map #[] 0)).alloc (.map #[] 0)).heap.size ((w3.alloc (.map #[] 0)).alloc (.map #[] 0)) ((((w3.alloc (.map #[] 0)).alloc (.map #[] 0)).alloc (.map #[] 0)).alloc (.cells #[.map (some w3.heap.size),.slice none 0 0,.map (some (w3.heap.size+1)),.map (some (w3.heap.size+1+1))] 65)):=(by repeat' (first | exact Below.refl _ _ | refine Below.drew ?_ | refine Below.drewN' ?_ | refine Below.setCell ?_ (by first | omega | (simp;done) | exact Below.size (by assumption) | (simp;omega)) _ | refine Below.alloc ?_ (by first | omega | (simp;done) | exact Below.size (by assumption) | (simp;omega)) _ | refine Below.trans ?_ (Below.mono (by assumption) ?_) | (first | omega | (simp;done) | exact Below.size (by assumption) | (simp;omega))));have BA3:Below (((w3.alloc (.map #[] 0)).alloc (.map #[] 0)).alloc (.map #[] 0)).heap.size (((w3.alloc (.map #[] 0)).alloc (.map #[] 0)).alloc (.map #[] 0)) ((((w3.alloc (.map #[] 0)).alloc (.map #[] 0)).alloc (.map #[] 0)).alloc (.cells #[.map (some w3.heap.size),.slice none 0 0,.map (some (w3.heap.size+1)),.map (some (w3.heap.size+1+1))] 65)):=(by repeat' (first | exact Below.refl _ _ | refine Below.drew ?_ | refine Below.drewN' ?_ | refine Below.setCell ?_ (by first | omega | (simp;done) | exact Below.size (by assumption) | (simp;omega)) _ | refine Below.alloc ?_ (by first | omega | (simp;done) | exact Below.size (by assumption) | (simp;omega)) _ | refine Below.trans ?_ (Below.mono (by assumption) ?_) | (first | omega | (simp;done) | exact Below.size (by assumption) | (simp;omega))));have MO:=MO.on BA1;have MN:=MN.on BA2;have MR:=MR.on BA3;simp only [World.size_alloc] at MN MR HP;generalize hw4:(((w3.alloc _).alloc _).alloc _).alloc _=w4;have BA0:=gB4 hw4;rw [hw4] at MO MN MR HP;have hz4:w4.heap.size=w3.heap.size+1+1+1+1:=(by rw [←hw4];simp);have C4:=zac C3 zR BA0;have H4:=zH (zab BA0 H3.out);have hz3:=B3.size;obtain ⟨bo,hbo⟩:∃z,z=w3.heap.size:=⟨_,rfl⟩;obtain ⟨bn,hbn⟩:∃z,z=w3.heap.size+1:=⟨_,rfl⟩;obtain ⟨br,hbr⟩:∃z,z=w3.heap.size+1+1:=⟨_,rfl⟩;obtain ⟨bp,hbp⟩:∃z,z=w3.heap.size+1+1+1:=⟨_,rfl⟩;obtain ⟨base,hbase⟩:∃z,z=w4.heap.size:=⟨_,rfl⟩;rw [←hbp,←hbr,←hbn,←hbo] at HP;rw [←hbo] at MO;rw [←hbn] at MN;rw [←hbr] at MR;rw [←hbp,←hbr,←hbn,←hbo];have O1:=zH (show w1.heap.size≤bo∧bo<bn∧bn<br∧br<bp∧bp<base∧w.heap.size<bo by
    have:=C3.size
    omega)
   have HI0:=zH (show OfI L w1 bp bo bn br base (fun r=>atO (l.take 0) r) (.slice none 0 0) (idsT l 0) 0 w4 from
    ⟨HP,⟨[],MO,fun _=>rfl,(fun p hp=>by cases hp),Nat.le_refl _⟩,World.ownsRow_nil _ _ _ _,MN,MR,C4,by omega⟩)
   obtain ⟨o1,o2,o3,o4,o5,o6⟩:=O1.out;clear MO MN MR HP BA0 BA1 BA2 BA3 hw4 C4 C3 hbo hbn hbr hbp hbase B3 H3 hz3 hz4;obtain ⟨mz,m0⟩:=rk1 H4.out;go_wp2_with fail;clear m0 mz;have hNs:N≤1000:=hl;go_loopw [30] (fun i wr=>∃(k:Nat) (vo:Value),i=.int .i64 k∧k≤N∧OfI L w1 bp bo bn br base (fun r=>atO (l.take k) r) vo (idsT l k) k wr) (fun i _=>N - (intOf i).toNat);case atStart=>exact ⟨0,_,rfl,Nat.zero_le _,HI0.out⟩
   case round =>
    obtain ⟨k,vo,rfl,hk,hst⟩:=hrel;have HST:=zH hst;have hzr:=hst.low.size;have BWR:=zac B1 (by omega) hst.low;by_cases hlt:k<N
    ·obtain ⟨x,hx⟩:∃x,L[k]?=some x:=⟨L[k]'(by rw [HN.out];exact hlt),List.getElem?_eq_getElem _⟩;obtain ⟨b,off,ha,hcell⟩:=HC.out (by omega);subst ha;have c0':=cell_later BWR (hcell k x hx 0 _ rfl);have c0:wr.cell? ⟨b,off+k * 6,none⟩=some (.string x.1.id):=c0';have c1:=cell_later BWR (hcell k x hx 1 _ rfl);have c2:=cell_later BWR (hcell k x hx 2 _ rfl);have c3:=cell_later BWR (hcell k x hx 3 _ rfl);have c4:=cell_later BWR (hcell k x hx 4 _ rfl);have c5:=cell_later BWR (hcell k x hx 5 _ rfl);have hlk:l[k]?=some x.1:=(by rw [←HL.out,List.getElem?_map,hx];rfl);have HCX:=zH (HCAP.out x (zM hx));have HXL:=zH (zM hx);have HAT:=zH (fun r=>zaqa HOK.out hlk r);have HTK:=zH (show idsT l (k+1)=idsT l k++[x.1.id] by unfold idsT;rw [zbn hlk,List.map_append];rfl);have hzi:x.1.id.size≤140737488355328:=HCX.out.1.2.2;have hidl:(idsT l k).length=k:=by unfold idsT;rw [List.length_map,List.length_take];have:=(List.getElem?_eq_some_iff.1 hlk).1;omega
     obtain ⟨o,vr,vt⟩:=x;simp only [] at c0 c1 c2 c3 c4 c5 HCX HAT HTK hzi HXL;obtain ⟨aq,capq,evq,_⟩:=HCX.out.1.1;obtain ⟨at1,capt,evt,_⟩:=HCX.out.1.2.1;simp only [] at evq evt;subst evq evt;have bz:=zag c0;clear hcell c0' hx hlk hst;go_wp2_with fail;generalize hwx:wr.alloc _=wx;have BX:=gB1 hwx;have HX:=gA11 hwx;have HX:=zH HX;have HSX:=zH (HST.out.on BX);have hxl:=zaf HX.out;have hbw:base≤wr.heap.size:=HST.out.big;clear hwx BX c0 c1 c2 c3 c4 c5 bz;refine wp_region_mix 7 (fun W=>(∃f n,OfI L w1 bp bo bn br base f vo (idsT l k) n W)∧W.heap[wr.heap.size]?=some (.cells #[.string o.id,.int .i64 o.kind,.int .i64 o.x,.int .i64 o.y,.slice aq o.refs.length capq,.slice at1 o.tags.length capt] 36))
      (fun W=>(OfI L w1 bp bo bn br base (fun r=>atO (l.take k) r) vo (idsT l k) k W)∧W.heap[wr.heap.size]?=some (.cells #[.string o.id,.int .i64 o.kind,.int .i64 o.x,.int .i64 o.y,.slice aq o.refs.length capq,.slice at1 o.tags.length capt] 36)) mixed (by kernel_rfl) (by kernel_rfl) (by kernel_rfl)
      (fun W W' d hb=>⟨OfI.on d.1 hb,zab hb d.2⟩) (fun W d=>⟨⟨_,_,d.1⟩,d.2⟩) ⟨OfI.on HSX.out (Below.refl _ _).drew,zab (Below.refl _ _).drew HX.out⟩ ?_
     apply Exists.intro;refine ⟨fun W hW=>?_,?_⟩
     ·obtain ⟨⟨f,n,d⟩,hx⟩:=hW;have HA:=zH d.row;have HB:=zH hx;clear d hx;obtain ⟨pz,p0,p1,p2,p3⟩:=rk4 HA.out;have qp0:=zaa p0;have qp1:=zaa p1;have qp2:=zaa p2;have qp3:=zaa p3;clear p0 p1 p2 p3;obtain ⟨xz,x0,x1,x2,x3,x4,x5⟩:=rk6 HB.out;have qx0:=zaa x0;have qx1:=zaa x1;have qx2:=zaa x2;have qx3:=zaa x3;have qx4:=zaa x4;have qx5:=zaa x5;clear x0 x1 x2 x3 x4 x5;simp only [List.take_succ_cons,List.take_zero];repeat (go_big_quiet_step (fail))
      exact wpQuiet_nil rfl
     ·simp only [List.drop_succ_cons,List.drop_zero];refine tailM_step (ι:=Unit) (fun _=>undef) (fun _ W=>(OfI L w1 bp bo bn br base (fun r=>atO (l.take (k+1)) r) vo (idsT l k) (k+1) W)∧W.heap[wr.heap.size]?=some (.cells #[.string o.id,.int .i64 o.kind,.int .i64 o.x,.int .i64 o.y,.slice aq o.refs.length capq,.slice at1 o.tags.length capt] 36)) rfl (fun _ W W' d hb=>⟨OfI.on d.1 hb,zab hb d.2⟩) (fun _ W d=>⟨⟨_,_,d.1⟩,d.2⟩) (fun W hS K hK=>?_) (fun _=>?_)
      ·obtain ⟨d,hx⟩:=hS;obtain ⟨W',hrun,d',hg'⟩:=d.put (by omega) (by omega) (by omega) o1 (by omega) o.id hzi _ HXL.out (f':=fun r=>atO (l.take (k+1)) r) (fun r=>by
        rw [HAT.out r]
        by_cases e:r=o.id
        ·rw [if_pos e,if_pos e.symm]
        ·rw [if_neg e,if_neg (fun c=>e c.symm)])
       have HDD:=zH d';have HXX:=zH (zcm rfl hg' d.objs.noCells hx);clear hg' d hx;refine zhn _ _ _ _ rfl rfl rfl rfl hrun ?_;exact hK () _ ⟨HDD.out,HXX.out⟩
      simp only [Act.put];refine tailM_nil fun W hW=>?_;have HDW:=zH hW.1;have HXW:=zH hW.2;clear hW HSX HCX HX;obtain ⟨wy,rfl⟩:∃z:World,z=W:=⟨_,rfl⟩;go_upto_region 8 with fail;obtain ⟨i0,hi,hi0,hi1,hi2⟩:=info_parts zkv;obtain ⟨av,nv,cv,hvo⟩:∃a n c,vo=.slice a n c:=⟨_,_,_,zcy HDW.out.own⟩;subst hvo;have hnb:(Value.slice av nv cv).ownBlock≠some wr.heap.size:=fun c=>Nat.lt_irrefl _ (zap HST.out.own _ c).2;refine zkk 4 8 (fun W=>W.heap[wr.heap.size]?=some (.cells #[.string o.id,.int .i64 o.kind,.int .i64 o.x,.int .i64 o.y,.slice aq o.refs.length capq,.slice at1 o.tags.length capt] 36)) (fun W=>OfI L w1 bp bo bn br base (fun r=>atO (l.take (k+1)) r) (.slice av nv cv) (idsT l k) (k+1) W∧W.heap[wr.heap.size]?=some (.cells #[.string o.id,.int .i64 o.kind,.int .i64 o.x,.int .i64 o.y,.slice aq o.refs.length capq,.slice at1 o.tags.length capt] 36)) mixed (by kernel_rfl) (by kernel_rfl) (by kernel_rfl) (fun W W' d hb=>⟨OfI.on d.1 hb,zab hb d.2⟩) (fun W d=>d.2) ⟨HDW.out.on (Below.refl _ _).drew,zab (Below.refl _ _).drew HXW.out⟩ rfl ?_;apply Exists.intro;refine ⟨fun W hW=>?_,?_⟩
      ·clear hW;simp only [List.take_succ_cons,List.take_zero];repeat (go_big_quiet_step (fail))
       exact wpQuiet_nil rfl
      ·have hstS:StableW (fun W=>OfI L w1 bp bo bn br base (fun r=>atO (l.take (k+1)) r) (.slice av nv cv) (idsT l k) (k+1) W∧W.heap[wr.heap.size]?=some (.cells #[.string o.id,.int .i64 o.kind,.int .i64 o.x,.int .i64 o.y,.slice aq o.refs.length capq,.slice at1 o.tags.length capt] 36)):=fun W W' d hb=>⟨OfI.on d.1 hb,zab hb d.2⟩;refine zjl 5 (.pointer (some ⟨wr.heap.size,0,none⟩)) hstS (fun W d=>d.2) rfl (by kernel_rfl) (by kernel_rfl) (by kernel_rfl) rfl (zdg.pure fun w=>?_) ?_
       ·go_simp
       simp only [Act.put,List.getElem_toArray,List.getElem_cons_succ,List.getElem_cons_zero,List.setIfInBounds_toArray,List.set_cons_succ,List.set_cons_zero];refine zjl 6 (.string o.id) hstS (fun W d=>d.2) rfl (by kernel_rfl) (by kernel_rfl) (by kernel_rfl) rfl (zdg.of fun W hW=>?_) ?_
       ·have HB:=zH hW;clear hW;obtain ⟨xz,x0⟩:=rk1 HB.out;go_simp
       simp only [Act.put,List.getElem_toArray,List.getElem_cons_succ,List.getElem_cons_zero,List.setIfInBounds_toArray,List.set_cons_succ,List.set_cons_zero];have hidk:=HTK.out;refine zaki 4 7 (by kernel_rfl) rfl rfl rfl rfl ?_ ?_
       focus
        refine zdn.mk' (ι:=Unit) (fun _=>.slice av nv cv) (fun _=>fun W=>OfI L w1 bp bo bn br base (fun r=>atO (l.take (k+1)) r) (.slice av nv cv) (idsT l k) (k+1) W∧W.heap[wr.heap.size]?=some (.cells #[.string o.id,.int .i64 o.kind,.int .i64 o.x,.int .i64 o.y,.slice aq o.refs.length capq,.slice at1 o.tags.length capt] 36)) (fun _=>hstS) (fun _ W d=>d.2) (fun W hS K' hK'=>?_) (fun _=>?_)
        ·have hK2:=hK' () W hS;have HA:=zH hS.1.row;clear hS hK';obtain ⟨pz,p0,p1,p2,p3⟩:=rk4 HA.out;go_simp;exact hK2
        simp only [Act.put,List.getElem_toArray,List.getElem_cons_succ,List.getElem_cons_zero,List.setIfInBounds_toArray,List.set_cons_succ,List.set_cons_zero];refine zlb 7 (by kernel_rfl) rfl rfl ?_;refine zdn.mk' (ι:=Nat) (fun g=>.slice (some ⟨g,0,none⟩) 1 1) (fun g=>fun W=>(OfI L w1 bp bo bn br base (fun r=>atO (l.take (k+1)) r) (.slice av nv cv) (idsT l k) (k+1) W∧W.heap[wr.heap.size]?=some (.cells #[.string o.id,.int .i64 o.kind,.int .i64 o.x,.int .i64 o.y,.slice aq o.refs.length capq,.slice at1 o.tags.length capt] 36))∧W.heap[g]?=some (.cells #[.string o.id] 9)) (fun g=>hstS.and (StableW.row _ _)) (fun _ W d=>d.1.2) (fun W hS K' hK'=>?_) (fun g=>?_)
        ·have h2:=hstS _ _ hS ((Below.refl W.heap.size W).alloc zR (.cells #[.string o.id] 9));clear hS;go_simp;exact hK' W.heap.size _ ⟨h2,zan _ _⟩
        simp only [Act.put,List.getElem_toArray,List.getElem_cons_succ,List.getElem_cons_zero,List.setIfInBounds_toArray,List.set_cons_succ,List.set_cons_zero]
       rotate_left
       focus
        refine zdn.mk' (ι:=Nat) (fun g=>.slice (some ⟨g,0,none⟩) 1 1) (fun g=>fun W=>(OfI L w1 bp bo bn br base (fun r=>atO (l.take (k+1)) r) (.slice av nv cv) (idsT l k) (k+1) W∧W.heap[wr.heap.size]?=some (.cells #[.string o.id,.int .i64 o.kind,.int .i64 o.x,.int .i64 o.y,.slice aq o.refs.length capq,.slice at1 o.tags.length capt] 36))∧W.heap[g]?=some (.cells #[.string o.id] 9)) (fun g=>hstS.and (StableW.row _ _)) (fun _ W d=>d.1.2) (fun W hS K' hK'=>?_) (fun g=>?_)
        ·have h2:=hstS _ _ hS ((Below.refl W.heap.size W).alloc zR (.cells #[.string o.id] 9));clear hS;go_simp;exact hK' W.heap.size _ ⟨h2,zan _ _⟩
        simp only [Act.put,List.getElem_toArray,List.getElem_cons_succ,List.getElem_cons_zero,List.setIfInBounds_toArray,List.set_cons_succ,List.set_cons_zero];refine zlb 4 (by kernel_rfl) rfl rfl ?_;refine zdn.mk' (ι:=Unit) (fun _=>.slice av nv cv) (fun _=>fun W=>(OfI L w1 bp bo bn br base (fun r=>atO (l.take (k+1)) r) (.slice av nv cv) (idsT l k) (k+1) W∧W.heap[wr.heap.size]?=some (.cells #[.string o.id,.int .i64 o.kind,.int .i64 o.x,.int .i64 o.y,.slice aq o.refs.length capq,.slice at1 o.tags.length capt] 36))∧W.heap[g]?=some (.cells #[.string o.id] 9)) (fun _=>hstS.and (StableW.row _ _)) (fun _ W d=>d.1.2) (fun W hS K' hK'=>?_) (fun _=>?_)
        ·have hK2:=hK' () W hS;have HA:=zH hS.1.1.row;clear hS hK';obtain ⟨pz,p0,p1,p2,p3⟩:=rk4 HA.out;go_simp;exact hK2
        simp only [Act.put,List.getElem_toArray,List.getElem_cons_succ,List.getElem_cons_zero,List.setIfInBounds_toArray,List.set_cons_succ,List.set_cons_zero]
       all_goals
        refine zlb 8 (by kernel_rfl) rfl rfl ?_;refine zdn.mk' (ι:=Value) (fun v'=>v') (fun v'=>fun W=>OfA L w1 bp bo bn br base (fun r=>atO (l.take (k+1)) r) (.slice av nv cv) v' (idsT l (k+1)) (k+1) W∧W.heap[wr.heap.size]?=some (.cells #[.string o.id,.int .i64 o.kind,.int .i64 o.x,.int .i64 o.y,.slice aq o.refs.length capq,.slice at1 o.tags.length capt] 36)) (fun v'=>fun W W' d hb=>⟨d.1.on hb,zab hb d.2⟩) (fun _ W d=>d.2) (fun W hS K' hK'=>?_) (fun v'=>?_)
        ·obtain ⟨⟨hS1,hS2⟩,hS3⟩:=hS;have hown:=hS1.own;rw [show (idsT l k).length=k from hidl] at hown;refine wp_append_own _ _ _ 31 rfl base 9 i0 (.string ⟨#[]⟩) 1 16 Tryz.underlying31 hi hi0 hi1 hi2 rfl (by decide) _ _ _ rfl hown ⟨g,0,none⟩ 1 1 [.string o.id] rfl rfl (zdv hS3) (by simp [Value.oneCell']) (by unfold maxLen;omega) (by omega) hS1.big ?_;intro v' w9 hown2 hgrow _;exact hK' v' w9 ⟨hS1.append (by omega) (by omega) (by omega) (by omega) (by omega) hgrow (by
          rw [hidk,List.length_append,List.map_append,show (idsT l k).length=k from hidl]
          exact hown2),zak hgrow hS2 (fun c=>hnb c.symm)⟩
        simp only [Act.put,List.getElem_toArray,List.getElem_cons_succ,List.getElem_cons_zero,List.setIfInBounds_toArray,List.set_cons_succ,List.set_cons_zero];have hstA:∀v':Value,StableW (fun W=>OfA L w1 bp bo bn br base (fun r=>atO (l.take (k+1)) r) (.slice av nv cv) v' (idsT l (k+1)) (k+1) W∧W.heap[wr.heap.size]?=some (.cells #[.string o.id,.int .i64 o.kind,.int .i64 o.x,.int .i64 o.y,.slice aq o.refs.length capq,.slice at1 o.tags.length capt] 36)):=fun v'=>fun W W' d hb=>⟨d.1.on hb,zab hb d.2⟩;refine zjl 9 (.pointer (some ⟨bp,0,none⟩)) (hstA v') (fun W d=>d.2) rfl (by kernel_rfl) (by kernel_rfl) (by kernel_rfl) rfl (zdg.pure fun w=>?_) ?_
        ·go_simp
        simp only [Act.put,List.getElem_toArray,List.getElem_cons_succ,List.getElem_cons_zero,List.setIfInBounds_toArray,List.set_cons_succ,List.set_cons_zero];refine zjl 10 (.pointer (some ⟨bp,1,none⟩)) (hstA v') (fun W d=>d.2) rfl (by kernel_rfl) (by kernel_rfl) (by kernel_rfl) rfl (zdg.pure fun w=>?_) ?_
        ·go_simp
        simp only [Act.put,List.getElem_toArray,List.getElem_cons_succ,List.getElem_cons_zero,List.setIfInBounds_toArray,List.set_cons_succ,List.set_cons_zero];refine zlb 11 (by kernel_rfl) rfl rfl ?_;refine zdn.mk' (ι:=Unit) (fun _=>undef) (fun _=>fun W=>OfI L w1 bp bo bn br base (fun r=>atO (l.take (k+1)) r) v' (idsT l (k+1)) (k+1) W∧W.heap[wr.heap.size]?=some (.cells #[.string o.id,.int .i64 o.kind,.int .i64 o.x,.int .i64 o.y,.slice aq o.refs.length capq,.slice at1 o.tags.length capt] 36)) (fun _=>fun W W' d hb=>⟨d.1.on hb,zab hb d.2⟩) (fun _ W d=>d.2) (fun W hS K' hK'=>?_) (fun _=>?_)
        ·obtain ⟨a9,n9,c9,hv9⟩:∃a n c,v'=.slice a n c:=⟨_,_,_,zcy hS.1.own⟩;subst hv9;have h2:=hS.1.store (by omega) (by omega) (by omega) (by omega) (by omega);have h3:=zai (a:=⟨bp,1,none⟩) (v:=.slice a9 n9 c9) hS.2 (show wr.heap.size≠bp by omega);have hK2:=hK' () _ ⟨h2,h3⟩;have HA:=zH hS.1.row;clear hS hK' h2 h3;obtain ⟨pz,p0,p1,p2,p3⟩:=rk4 HA.out;have pf0:=frozen_of_row W _ 0 _ _ HA.out;have pf1:=frozen_of_row W _ 1 _ _ HA.out;have pf2:=frozen_of_row W _ 2 _ _ HA.out;have pf3:=frozen_of_row W _ 3 _ _ HA.out;go_simp;exact hK2
        simp only [Act.put,List.getElem_toArray,List.getElem_cons_succ,List.getElem_cons_zero];refine zakj (by kernel_rfl) (fun W hW=>?_);have HFI:=zH hW.1;clear hW hstA;go_wp2;go_roundw;case rel=>exact ⟨k+1,v',by go_num,by omega,HFI.out⟩
        case measure=>simp [intOf];omega
    ·obtain rfl:k=N:=(by omega);obtain ⟨wB,rfl⟩:∃z:World,z=wr:=⟨_,rfl⟩;have hll:l.length=k:=(by rw [←HL.out,List.length_map,HN.out]);have htk:l.take k=l:=List.take_of_length_le (by omega);have hst':=HST.out;have hidk:idsT l k=l.map (fun q:ObjD=>q.id):=(by unfold idsT;rw [htk]);rw [hidk] at hst';simp only [htk] at hst';have hcapb:∀x∈L,zgh wB x:=fun x hx=>(HCAP.out x hx).later BWR;have HOB:=zH (hst'.objs.at (by omega) hcapb);have HORD:=zH (show zaj wB vo (l.map (·.id)) from zaj.of_own hst'.own (by rw [List.length_map];omega) (fun s hs=>by
      obtain ⟨q,hq,rfl⟩:=List.mem_map.1 hs
      rw [←HL.out] at hq
      obtain ⟨x,hx,rfl⟩:=List.mem_map.1 hq
      exact (HCAP.out x hx).1.2.2))
     have HRB:=zH hst'.row;have HG0:=zH (show OgI l wB bn br oZ 0 0 wB from ⟨⟨Below.refl _ _,fun _ _ _ _ _=>rfl⟩,⟨[],⟨hst'.refs,hst'.refs.lt,(fun p hp=>by cases hp),List.Pairwise.nil⟩,Nat.zero_le _,fun r=>by rw [zms];rfl⟩,⟨[],hst'.nods,fun r=>(zahk l oZ r).symm,Nat.zero_le _⟩⟩);have H1r:=zH (zab hst'.low H1.out);have hlts:bo<wB.heap.size∧bn<wB.heap.size∧br<wB.heap.size∧bp<wB.heap.size:=(by have:=hst'.big;omega);have HNB:=zH hst'.objs.noCells;have HNN:=zH (show zbg wB (some bn) from hst'.nods.noCells);have HNR:=zH (show zbg wB (some br) from hst'.refs.noCells);have HCB:=zH hcapb;have HBWR:=zH BWR;clear hst' hidk htk hcapb BWR hst;obtain ⟨mz,m0⟩:=rk1 H1r.out;go_wp2_with fail;clear m0 mz;go_loopw [56] (fun i wq=>∃k2:Nat,i=.int .i64 k2∧k2≤k∧OgI l wB bn br oZ k2 0 wq∧∀q∈l.take k2,fitO l q=true) (fun i _=>k - (intOf i).toNat);case atStart=>exact ⟨0,rfl,Nat.zero_le _,HG0.out,fun q hq=>by simp at hq⟩
     case round =>
      obtain ⟨wq,rfl⟩:∃z:World,z=wr:=⟨_,rfl⟩;obtain ⟨k2,rfl,hk2,hog,hfit⟩:=hrel;have HOG:=zH hog;have HFIT:=zH hfit;have hzq:=hog.kept.1.size;have BW2:=HBWR.out.trans (hog.kept.below (B:=w.heap.size) (by omega) (by omega) (by omega) (by omega));clear hog hfit;by_cases hlt2:k2<k
      ·obtain ⟨x,hx⟩:∃x,L[k2]?=some x:=⟨L[k2]'(by rw [HN.out];exact hlt2),List.getElem?_eq_getElem _⟩;obtain ⟨b,off,ha,hcell⟩:=HC.out (by omega);subst ha;have c0':=cell_later BW2 (hcell k2 x hx 0 _ rfl);have c0:wq.cell? ⟨b,off+k2 * 6,none⟩=some (.string x.1.id):=c0';have c1:=cell_later BW2 (hcell k2 x hx 1 _ rfl);have c2:=cell_later BW2 (hcell k2 x hx 2 _ rfl);have c3:=cell_later BW2 (hcell k2 x hx 3 _ rfl);have c4:=cell_later BW2 (hcell k2 x hx 4 _ rfl);have c5:=cell_later BW2 (hcell k2 x hx 5 _ rfl);have hlo:l[k2]?=some x.1:=(by rw [←HL.out,List.getElem?_map,hx];rfl);have HCX:=zH (HCAP.out x (zM hx));have hMb:x.1.refs.length≤2000:=by have:=zda HOK.out (zM hlo);simp only [zay,Bool.and_eq_true,decide_eq_true_eq] at this;have:=this.1.1.2;omega
       obtain ⟨o,vr,vt⟩:=x;simp only [] at c0 c1 c2 c3 c4 c5 HCX hlo hMb;obtain ⟨aq,capq,evq,_⟩:=HCX.out.1.1;obtain ⟨at1,capt,evt,_⟩:=HCX.out.1.2.1;simp only [] at evq evt;subst evq evt;have bz:=zag c0;have HLO:=zH hlo;clear hcell c0' hx hlo;go_wp2_with fail;generalize hwx:wq.alloc _=wx;have BX:=gB1 hwx;have HX:=gA11 hwx;have HX:=zH HX;have HOX:=zH (show OgI l wB bn br o k2 0 wx from (HOG.out.on BX).swap);have hxl:=zaf HX.out;obtain ⟨b7,hb7⟩:∃z,z=wq.heap.size:=⟨_,rfl⟩;rw [←hb7] at HX hxl ⊢;have hb7l:wB.heap.size≤b7:=(by rw [hb7];exact hzq);clear hwx BX c0 c1 c2 c3 c4 c5 bz hb7 BW2;go_loopw [63] (fun i wi=>∃j:Nat,i=.int .i64 j∧j≤o.refs.length∧OgI l wB bn br o k2 j wi∧(∀(q:Nat) (r:ByteArray),q<j→o.refs[q]?=some r→∃x,atO l r=some x∧x.kind=zfd o q)∧wi.heap[b7]?=some (.cells #[.string o.id,.int .i64 o.kind,.int .i64 o.x,.int .i64 o.y,.slice aq o.refs.length capq,.slice at1 o.tags.length capt] 36)) (fun i _=>o.refs.length - (intOf i).toNat);case atStart=>exact ⟨0,rfl,Nat.zero_le _,HOX.out,(fun q r h=>absurd h (Nat.not_lt_zero q)),HX.out⟩
       case round =>
        obtain ⟨wi,rfl⟩:∃z:World,z=wr:=⟨_,rfl⟩;obtain ⟨i,rfl,hi,hog,hfi,hx7⟩:=hrel;have HOI:=zH hog;have HFI:=zH hfi;have HX7:=zH hx7;have hzi:=hog.kept.1.size;have BWI:=HBWR.out.trans (hog.kept.below (B:=w.heap.size) (by omega) (by omega) (by omega) (by omega));clear hog hfi hx7;by_cases hlt3:i<o.refs.length
        ·obtain ⟨s,hs⟩:∃s,o.refs[i]?=some s:=⟨o.refs[i],List.getElem?_eq_getElem hlt3⟩;obtain ⟨a',cap',e',_,hzs,hc8⟩:=HCX.out.1.1.later BWI;injection e' with e1 e2 e3;subst e1 e3;obtain ⟨b8,off8,ha8,hcell8⟩:=hc8 (by omega);subst ha8;have c0:=hcell8 i s hs;have hz:=hzs s (zM hs);have HS:=zH hs;have HKE:=zH HOI.out.kept;have HOBi:=zH (HOB.out.k3 HKE.out HNN.out HNR.out (by omega) (by omega));have HRBi:=zH ((HKE.out.2 bp hlts.2.2.2 (by omega) (by omega) (by omega)).trans HRB.out);clear hcell8 hc8 hs hzs e2;cases hat:atO l s with
         |none =>have hlo:=HOBi.out.lookNone hat hz wi (Below.refl _ _);have HF:=zH (show fitP l=false from zaiy (zM HLO.out) HS.out (fun z hz'=>by rw [hat] at hz';cases hz'));clear hat;obtain ⟨pz,p0,p1,p2,p3⟩:=rk4 HRBi.out;obtain ⟨xz,x0,x1,x2,x3,x4,x5⟩:=rk6 HX7.out;go_wp2;all_goals (go_ret;exact ⟨BWI.alloc BWI.size _,Or.inl ⟨HF.out,rfl⟩⟩)
         |some y =>
          obtain ⟨vr2,vt2,hcap2,-,hlo⟩:=HOBi.out.look hat hz;have hlo1:=hlo wi (Below.refl _ _);obtain ⟨ay,capy,ev1,_⟩:=(show zaj wi vr2 y.refs from hcap2.1.1);obtain ⟨ty,capz,ev2,_⟩:=(show zba wi vt2 y.tags from hcap2.1.2.1);subst ev1 ev2;have HAT:=zH hat;have HPYK:=zH (fun hk=>zalo HOK.out hat hk);clear hat hlo hcap2;obtain ⟨pz,p0,p1,p2,p3⟩:=rk4 HRBi.out;go_upto_region 17 with fail;clear p0 p1 p2 p3 pz;generalize hwa:wi.alloc _=wa;have BA:=gB1 hwa;have HT:=gA11 hwa;obtain ⟨b10,hb10⟩:∃z,z=wi.heap.size:=⟨_,rfl⟩;have HRW:=zH (show zfv b7 b10 bp #[.string o.id,.int .i64 o.kind,.int .i64 o.x,.int .i64 o.y,.slice (some ⟨b8,off8,none⟩) o.refs.length capq,.slice at1 o.tags.length capt] #[.string y.id,.int .i64 y.kind,.int .i64 y.x,.int .i64 y.y,.slice ay y.refs.length capy,.slice ty y.tags.length capz] #[.map (some bo),vo,.map (some bn),.map (some br)] wa from ⟨zab BA HX7.out,hb10 ▸ HT,zab BA HRBi.out⟩);rw [←hb10];have HOA:=zH (HOI.out.on BA);have BWA:=zH (zac BWI (by omega) BA);obtain ⟨V,hlk,hownV⟩:=HOA.out.grp.look s hz;have HRL:=zH (show (refI l k2 i o s).length≤2000 by
           unfold refI
           rw [List.length_append,List.length_map]
           have h1:(zax (l.take k2) s).length≤k2:=Nat.le_trans (List.length_filter_le _ _) (by rw [List.length_take];omega)
           split<;>simp<;>omega)
          have hst:=zaj.of_own hownV (by have:=HRL.out;omega) (fun q hq=>by
           unfold refI at hq
           have hall:∀x∈l,x.id.size≤140737488355328:=fun x hx=>by
            rw [←HL.out] at hx
            obtain ⟨u,hu,rfl⟩:=List.mem_map.1 hx
            exact (HCAP.out u hu).1.2.2
           rcases List.mem_append.1 hq with h | h
           ·obtain ⟨x,hx,rfl⟩:=List.mem_map.1 h
            exact hall x (List.mem_of_mem_take (List.mem_filter.1 hx).1)
           ·split at h
            ·rw [List.mem_singleton.1 h];exact hall o (zM HLO.out)
            ·cases h)
          have CT:=zH (fun n=>zdk V (refI l k2 i o s) o.id (wa.drewN n) (hst.later (Below.refl _ _).drewN'));have hlq:=fun n:Nat=>hlk (wa.drewN n) (Below.refl _ _).drewN';clear hwa BA HT hb10 hlk hownV hst hlo1;have HPY:=zH (show ∀h:y.kind=1,ptO l s=(y.x,y.y) from fun h=>HPYK.out h);rcases zwi o i with ⟨k4b,k5b,hib,hw,hnb2⟩ | ⟨k4b,k5b,hib,hw,hnb2⟩ | ⟨k4b,k5b,hib,hw,hnb2⟩ | ⟨k4b,k5b,hib,hw,hnb2⟩;all_goals
           have HW:=zH hw;clear hw;by_cases hy:y.kind=zfd o i
           ·rw [HW.out] at hy;have hyb:=zake hy;have HYK:=zH hy;have HFI2:=zH (show ∀(q:Nat) (r:ByteArray),q<i+1→o.refs[q]?=some r→∃x,atO l r=some x∧x.kind=zfd o q from fun q r hq hr=>by
             by_cases hqi:q=i
             ·subst hqi
              rw [HS.out] at hr
              injection hr with hr
              subst hr
              exact ⟨y,HAT.out,by rw [HYK.out,HW.out]⟩
             ·exact HFI.out q r (by omega) hr)
            clear hy;have H7:=zH HRW.out.1;have H10:=zH HRW.out.2.1;have HPB:=zH HRW.out.2.2;obtain ⟨xz,x0,x1,x2,x3,x4,x5⟩:=rk6 H7.out;obtain ⟨yz,y0,y1,y2,y3,y4,y5⟩:=rk6 H10.out;obtain ⟨pz,p0,p1,p2,p3⟩:=rk4 HPB.out;go_upto_region 22 with fail;go_quiet ((go_at_call 44;exact Calls.quiet_of_same (CT.out _)));clear x0 x1 x2 x3 x4 x5 xz;clear y0 y1 y2 y3 y4 y5 yz;clear p0 p1 p2 p3 pz;have BC:Below wa.heap.size wa (wa.drewN nq):=(Below.refl _ _).drewN';have HRW:=zH (HRW.out.on BC);have HOC:=zH (HOA.out.on BC);generalize hwc:wa.drewN nq=wc;rw [hwc] at HRW HOC;clear hwc BC hlq H7 H10 HPB;cases hm:decide (o.id∈refI l k2 i o s) with
            |true =>
             have HM:=zH (HOC.out.old HS.out ((zagf HOK.out HLO.out s).1 (of_decide_eq_true hm)));clear hm;rcases zsq o.kind with ⟨hB,kb2⟩ | ⟨hB,kb2,kb3⟩ | ⟨hB,kb2,kb3⟩;all_goals first | exact absurd hB hnb2 | skip
             all_goals first
              |have hBn:¬(o.kind=2∨o.kind=3):=hB
               clear hB;have HNI:=zH (HM.out.skip HS.out hBn);have H7:=zH HRW.out.1;obtain ⟨xz,x0,x1,x2,x3,x4,x5⟩:=rk6 H7.out;go_wp2;go_roundw;case rel=>exact ⟨i+1,by go_num,by omega,HNI.out,HFI2.out,H7.out⟩
               case measure=>simp [intOf];omega
              |have hBp:o.kind=2∨o.kind=3:=hB
               clear hB;have H7:=zH HRW.out.1;obtain ⟨xz,x0,x1,x2,x3,x4,x5⟩:=rk6 H7.out;go_upto_region 25 with fail;clear x0 x1 x2 x3 x4 x5 xz;refine wp_region_mix 7 (fun W=>zfv b7 b10 bp #[.string o.id,.int .i64 o.kind,.int .i64 o.x,.int .i64 o.y,.slice (some ⟨b8,off8,none⟩) o.refs.length capq,.slice at1 o.tags.length capt] #[.string y.id,.int .i64 y.kind,.int .i64 y.x,.int .i64 y.y,.slice ay y.refs.length capy,.slice ty y.tags.length capz] #[.map (some bo),vo,.map (some bn),.map (some br)] W) (fun W=>OgM l wB bn br o k2 i W∧zfv b7 b10 bp #[.string o.id,.int .i64 o.kind,.int .i64 o.x,.int .i64 o.y,.slice (some ⟨b8,off8,none⟩) o.refs.length capq,.slice at1 o.tags.length capt] #[.string y.id,.int .i64 y.kind,.int .i64 y.x,.int .i64 y.y,.slice ay y.refs.length capy,.slice ty y.tags.length capz] #[.map (some bo),vo,.map (some bn),.map (some br)] W) mixed (by kernel_rfl) (by kernel_rfl) (by kernel_rfl) (fun W W' d hb=>⟨d.1.on hb,d.2.on hb⟩) (fun W d=>d.2) ⟨HM.out.on (Below.refl _ _).drew,HRW.out.on (Below.refl _ _).drew⟩ ?_;apply Exists.intro;refine ⟨fun W hW=>?_,?_⟩
               ·have HA:=zH hW.2.2;have HB2:=zH hW.2.1;clear hW;obtain ⟨pz,p0,p1,p2,p3⟩:=rk4 HA.out;have qp0:=zaa p0;have qp1:=zaa p1;have qp2:=zaa p2;have qp3:=zaa p3;clear p0 p1 p2 p3;obtain ⟨xz,x0,x1,x2,x3,x4,x5⟩:=rk6 HB2.out;have qx0:=zaa x0;have qx1:=zaa x1;have qx2:=zaa x2;have qx3:=zaa x3;have qx4:=zaa x4;have qx5:=zaa x5;clear x0 x1 x2 x3 x4 x5;simp only [List.take_succ_cons,List.take_zero];repeat (go_big_quiet_step (fail))
                exact wpQuiet_nil rfl
               ·simp only [List.drop_succ_cons,List.drop_zero];refine tailM_step (ι:=Unit) (fun _=>undef) (fun _ W=>OgI l wB bn br o k2 (i+1) W∧zfv b7 b10 bp #[.string o.id,.int .i64 o.kind,.int .i64 o.x,.int .i64 o.y,.slice (some ⟨b8,off8,none⟩) o.refs.length capq,.slice at1 o.tags.length capt] #[.string y.id,.int .i64 y.kind,.int .i64 y.x,.int .i64 y.y,.slice ay y.refs.length capy,.slice ty y.tags.length capz] #[.map (some bo),vo,.map (some bn),.map (some br)] W) rfl (fun _ W W' d hb=>⟨d.1.on hb,d.2.on hb⟩) (fun _ W d=>d.2) (fun W hS K hK=>?_) (fun _=>?_)
                ·obtain ⟨W',hrun,d',hg'⟩:=hS.1.put (by omega) (by omega) (by omega) hz HS.out hBp (p:=(y.x,y.y)) (HPY.out HYK.out).symm;have h2:=hS.2.grown hg' hS.1.nods.noCells;have hK2:=hK () _ ⟨d',h2⟩;clear d' hg' h2 hS hK;refine zhn _ _ _ _ rfl rfl rfl rfl hrun ?_;exact hK2
                simp only [Act.put];refine tailM_nil fun W hW=>?_;have HNI:=zH hW.1;have H77:=zH hW.2.1;clear hW;go_wp2;go_roundw;case rel=>exact ⟨i+1,by go_num,by omega,HNI.out,HFI2.out,H77.out⟩
                case measure=>simp [intOf];omega
            |false =>
             have HNOT:=zH (show s ∉ o.refs.take i from fun c=>of_decide_eq_false hm ((zagf HOK.out HLO.out s).2 c));clear hm;go_upto_region 23 with fail;obtain ⟨i0,hi0',hi0,hi1,hi2⟩:=info_parts zkv;have hstI:StableW (fun W=>OgI l wB bn br o k2 i W∧zfv b7 b10 bp #[.string o.id,.int .i64 o.kind,.int .i64 o.x,.int .i64 o.y,.slice (some ⟨b8,off8,none⟩) o.refs.length capq,.slice at1 o.tags.length capt] #[.string y.id,.int .i64 y.kind,.int .i64 y.x,.int .i64 y.y,.slice ay y.refs.length capy,.slice ty y.tags.length capz] #[.map (some bo),vo,.map (some bn),.map (some br)] W):=fun W W' d hb=>⟨d.1.on hb,d.2.on hb⟩;refine zkk 10 6 (fun W=>zfv b7 b10 bp #[.string o.id,.int .i64 o.kind,.int .i64 o.x,.int .i64 o.y,.slice (some ⟨b8,off8,none⟩) o.refs.length capq,.slice at1 o.tags.length capt] #[.string y.id,.int .i64 y.kind,.int .i64 y.x,.int .i64 y.y,.slice ay y.refs.length capy,.slice ty y.tags.length capz] #[.map (some bo),vo,.map (some bn),.map (some br)] W) (fun W=>OgI l wB bn br o k2 i W∧zfv b7 b10 bp #[.string o.id,.int .i64 o.kind,.int .i64 o.x,.int .i64 o.y,.slice (some ⟨b8,off8,none⟩) o.refs.length capq,.slice at1 o.tags.length capt] #[.string y.id,.int .i64 y.kind,.int .i64 y.x,.int .i64 y.y,.slice ay y.refs.length capy,.slice ty y.tags.length capz] #[.map (some bo),vo,.map (some bn),.map (some br)] W) mixed (by kernel_rfl) (by kernel_rfl) (by kernel_rfl) hstI (fun W d=>d.2) ⟨HOC.out.on (Below.refl _ _).drew,HRW.out.on (Below.refl _ _).drew⟩ rfl ?_;apply Exists.intro;refine ⟨fun W hW=>?_,?_⟩
             ·have HA:=zH hW.2.2;clear hW;obtain ⟨pz,p0,p1,p2,p3⟩:=rk4 HA.out;have qp0:=zaa p0;have qp1:=zaa p1;have qp2:=zaa p2;have qp3:=zaa p3;clear p0 p1 p2 p3;simp only [List.take_succ_cons,List.take_zero];repeat (go_big_quiet_step (fail))
              exact wpQuiet_nil rfl
             ·refine zjl 11 (.pointer (some ⟨b7,0,none⟩)) hstI (fun W d=>d.2) rfl (by kernel_rfl) (by kernel_rfl) (by kernel_rfl) rfl (zdg.pure fun w=>?_) ?_
              ·go_simp
              simp only [Act.put,List.getElem_toArray,List.getElem_cons_succ,List.getElem_cons_zero,List.setIfInBounds_toArray,List.set_cons_succ,List.set_cons_zero];refine zjl 12 (.string o.id) hstI (fun W d=>d.2) rfl (by kernel_rfl) (by kernel_rfl) (by kernel_rfl) rfl (zdg.of fun W hW=>?_) ?_
              ·have HB2:=zH hW.1;clear hW;obtain ⟨xz,x0⟩:=rk1 HB2.out;go_simp
              simp only [Act.put,List.getElem_toArray,List.getElem_cons_succ,List.getElem_cons_zero,List.setIfInBounds_toArray,List.set_cons_succ,List.set_cons_zero];refine zaki 10 13 (by kernel_rfl) rfl rfl rfl rfl ?_ ?_
              focus
               refine zdn.mk' (ι:=Value) (fun V'=>V') (fun V'=>fun W=>OgV l wB bn br o k2 i s V' W∧zfv b7 b10 bp #[.string o.id,.int .i64 o.kind,.int .i64 o.x,.int .i64 o.y,.slice (some ⟨b8,off8,none⟩) o.refs.length capq,.slice at1 o.tags.length capt] #[.string y.id,.int .i64 y.kind,.int .i64 y.x,.int .i64 y.y,.slice ay y.refs.length capy,.slice ty y.tags.length capz] #[.map (some bo),vo,.map (some bn),.map (some br)] W) (fun V'=>fun W W' d hb=>⟨d.1.on hb,d.2.on hb⟩) (fun _ W d=>d.2) (fun W hS K' hK'=>?_) (fun V'=>?_)
               ·obtain ⟨V',hl9,hv9⟩:=hS.1.looks s hz;have hK2:=hK' V' W ⟨hv9,hS.2⟩;clear hS hK' hv9;go_simp;exact hK2
               simp only [Act.put,List.getElem_toArray,List.getElem_cons_succ,List.getElem_cons_zero,List.setIfInBounds_toArray,List.set_cons_succ,List.set_cons_zero];refine zlb 13 (by kernel_rfl) rfl rfl ?_;refine zdn.mk' (ι:=Nat) (fun g=>.slice (some ⟨g,0,none⟩) 1 1) (fun g=>fun W=>(OgV l wB bn br o k2 i s V' W∧zfv b7 b10 bp #[.string o.id,.int .i64 o.kind,.int .i64 o.x,.int .i64 o.y,.slice (some ⟨b8,off8,none⟩) o.refs.length capq,.slice at1 o.tags.length capt] #[.string y.id,.int .i64 y.kind,.int .i64 y.x,.int .i64 y.y,.slice ay y.refs.length capy,.slice ty y.tags.length capz] #[.map (some bo),vo,.map (some bn),.map (some br)] W)∧W.heap[g]?=some (.cells #[.string o.id] 9)) (fun g=>(show StableW (fun W=>OgV l wB bn br o k2 i s V' W∧zfv b7 b10 bp #[.string o.id,.int .i64 o.kind,.int .i64 o.x,.int .i64 o.y,.slice (some ⟨b8,off8,none⟩) o.refs.length capq,.slice at1 o.tags.length capt] #[.string y.id,.int .i64 y.kind,.int .i64 y.x,.int .i64 y.y,.slice ay y.refs.length capy,.slice ty y.tags.length capz] #[.map (some bo),vo,.map (some bn),.map (some br)] W) from fun W W' d hb=>⟨d.1.on hb,d.2.on hb⟩).and (StableW.row _ _)) (fun _ W d=>d.1.2) (fun W hS K' hK'=>?_) (fun g=>?_)
               ·have hst2:StableW (fun W=>OgV l wB bn br o k2 i s V' W∧zfv b7 b10 bp #[.string o.id,.int .i64 o.kind,.int .i64 o.x,.int .i64 o.y,.slice (some ⟨b8,off8,none⟩) o.refs.length capq,.slice at1 o.tags.length capt] #[.string y.id,.int .i64 y.kind,.int .i64 y.x,.int .i64 y.y,.slice ay y.refs.length capy,.slice ty y.tags.length capz] #[.map (some bo),vo,.map (some bn),.map (some br)] W):=fun W W' d hb=>⟨d.1.on hb,d.2.on hb⟩;have h2:=hst2 _ _ hS ((Below.refl W.heap.size W).alloc zR (.cells #[.string o.id] 9));clear hS;go_simp;exact hK' W.heap.size _ ⟨h2,zan _ _⟩
               simp only [Act.put,List.getElem_toArray,List.getElem_cons_succ,List.getElem_cons_zero,List.setIfInBounds_toArray,List.set_cons_succ,List.set_cons_zero]
              rotate_left
              focus
               refine zdn.mk' (ι:=Nat) (fun g=>.slice (some ⟨g,0,none⟩) 1 1) (fun g=>fun W=>(OgI l wB bn br o k2 i W∧zfv b7 b10 bp #[.string o.id,.int .i64 o.kind,.int .i64 o.x,.int .i64 o.y,.slice (some ⟨b8,off8,none⟩) o.refs.length capq,.slice at1 o.tags.length capt] #[.string y.id,.int .i64 y.kind,.int .i64 y.x,.int .i64 y.y,.slice ay y.refs.length capy,.slice ty y.tags.length capz] #[.map (some bo),vo,.map (some bn),.map (some br)] W)∧W.heap[g]?=some (.cells #[.string o.id] 9)) (fun g=>(show StableW (fun W=>OgI l wB bn br o k2 i W∧zfv b7 b10 bp #[.string o.id,.int .i64 o.kind,.int .i64 o.x,.int .i64 o.y,.slice (some ⟨b8,off8,none⟩) o.refs.length capq,.slice at1 o.tags.length capt] #[.string y.id,.int .i64 y.kind,.int .i64 y.x,.int .i64 y.y,.slice ay y.refs.length capy,.slice ty y.tags.length capz] #[.map (some bo),vo,.map (some bn),.map (some br)] W) from fun W W' d hb=>⟨d.1.on hb,d.2.on hb⟩).and (StableW.row _ _)) (fun _ W d=>d.1.2) (fun W hS K' hK'=>?_) (fun g=>?_)
               ·have hst2:StableW (fun W=>OgI l wB bn br o k2 i W∧zfv b7 b10 bp #[.string o.id,.int .i64 o.kind,.int .i64 o.x,.int .i64 o.y,.slice (some ⟨b8,off8,none⟩) o.refs.length capq,.slice at1 o.tags.length capt] #[.string y.id,.int .i64 y.kind,.int .i64 y.x,.int .i64 y.y,.slice ay y.refs.length capy,.slice ty y.tags.length capz] #[.map (some bo),vo,.map (some bn),.map (some br)] W):=fun W W' d hb=>⟨d.1.on hb,d.2.on hb⟩;have h2:=hst2 _ _ hS ((Below.refl W.heap.size W).alloc zR (.cells #[.string o.id] 9));clear hS;go_simp;exact hK' W.heap.size _ ⟨h2,zan _ _⟩
               simp only [Act.put,List.getElem_toArray,List.getElem_cons_succ,List.getElem_cons_zero,List.setIfInBounds_toArray,List.set_cons_succ,List.set_cons_zero];refine zlb 10 (by kernel_rfl) rfl rfl ?_;refine zdn.mk' (ι:=Value) (fun V'=>V') (fun V'=>fun W=>(OgV l wB bn br o k2 i s V' W∧zfv b7 b10 bp #[.string o.id,.int .i64 o.kind,.int .i64 o.x,.int .i64 o.y,.slice (some ⟨b8,off8,none⟩) o.refs.length capq,.slice at1 o.tags.length capt] #[.string y.id,.int .i64 y.kind,.int .i64 y.x,.int .i64 y.y,.slice ay y.refs.length capy,.slice ty y.tags.length capz] #[.map (some bo),vo,.map (some bn),.map (some br)] W)∧W.heap[g]?=some (.cells #[.string o.id] 9)) (fun V'=>(show StableW (fun W=>OgV l wB bn br o k2 i s V' W∧zfv b7 b10 bp #[.string o.id,.int .i64 o.kind,.int .i64 o.x,.int .i64 o.y,.slice (some ⟨b8,off8,none⟩) o.refs.length capq,.slice at1 o.tags.length capt] #[.string y.id,.int .i64 y.kind,.int .i64 y.x,.int .i64 y.y,.slice ay y.refs.length capy,.slice ty y.tags.length capz] #[.map (some bo),vo,.map (some bn),.map (some br)] W) from fun W W' d hb=>⟨d.1.on hb,d.2.on hb⟩).and (StableW.row _ _)) (fun _ W d=>d.1.2) (fun W hS K' hK'=>?_) (fun V'=>?_)
               ·obtain ⟨V',hl9,hv9⟩:=hS.1.1.looks s hz;have hK2:=hK' V' W ⟨⟨hv9,hS.1.2⟩,hS.2⟩;clear hS hK' hv9;go_simp;exact hK2
               simp only [Act.put,List.getElem_toArray,List.getElem_cons_succ,List.getElem_cons_zero,List.setIfInBounds_toArray,List.set_cons_succ,List.set_cons_zero]
              all_goals
               refine zlb 14 (by kernel_rfl) rfl rfl ?_;refine zdn.mk' (ι:=Value) (fun v'=>v') (fun v'=>fun W=>OgA l wB bn br o k2 i s v' W∧zfv b7 b10 bp #[.string o.id,.int .i64 o.kind,.int .i64 o.x,.int .i64 o.y,.slice (some ⟨b8,off8,none⟩) o.refs.length capq,.slice at1 o.tags.length capt] #[.string y.id,.int .i64 y.kind,.int .i64 y.x,.int .i64 y.y,.slice ay y.refs.length capy,.slice ty y.tags.length capz] #[.map (some bo),vo,.map (some bn),.map (some br)] W) (fun v'=>fun W W' d hb=>⟨d.1.on hb,d.2.on hb⟩) (fun _ W d=>d.2) (fun W hS K' hK'=>?_) (fun v'=>?_)
               ·obtain ⟨⟨hS1,hS2⟩,hS3⟩:=hS;have hown:=hS1.own;have hrl:=HRL.out;refine zoy _ _ 31 rfl wB.heap.size 9 i0 (.string ⟨#[]⟩) 1 16 Tryz.underlying31 hi0' hi0 hi1 hi2 rfl (by decide) _ _ _ rfl hown ⟨g,0,none⟩ 1 1 [.string o.id] rfl rfl (zdv hS3) (by simp [Value.oneCell']) (by unfold maxLen;omega) (by omega) hS1.kept.1.size ?_;intro v' w9 hown2 hgrow hloc;exact hK' v' w9 ⟨hS1.append hlts.2.1 hgrow (by rw [List.length_append,List.map_append];exact hown2) hloc,hS2.own hown hgrow⟩
               simp only [Act.put,List.getElem_toArray,List.getElem_cons_succ,List.getElem_cons_zero,List.setIfInBounds_toArray,List.set_cons_succ,List.set_cons_zero];refine zlb 15 (by kernel_rfl) rfl rfl ?_;refine zdn.mk' (ι:=Unit) (fun _=>undef) (fun _=>fun W=>OgM l wB bn br o k2 i W∧zfv b7 b10 bp #[.string o.id,.int .i64 o.kind,.int .i64 o.x,.int .i64 o.y,.slice (some ⟨b8,off8,none⟩) o.refs.length capq,.slice at1 o.tags.length capt] #[.string y.id,.int .i64 y.kind,.int .i64 y.x,.int .i64 y.y,.slice ay y.refs.length capy,.slice ty y.tags.length capz] #[.map (some bo),vo,.map (some bn),.map (some br)] W) (fun _=>fun W W' d hb=>⟨d.1.on hb,d.2.on hb⟩) (fun _ W d=>d.2) (fun W hS K' hK'=>?_) (fun _=>?_)
               ·have hnc:=hS.1.mid.noCells;obtain ⟨W',hrun,d',hg'⟩:=hS.1.store (by omega) (by omega) (by omega) hz HS.out HNOT.out;have h2:=hS.2.grown hg' hnc;have hK2:=hK' () _ ⟨d',h2⟩;clear d' hg' h2 hS hK';refine zhn _ _ _ _ rfl rfl rfl rfl hrun ?_;exact hK2
               simp only [Act.put,List.getElem_toArray,List.getElem_cons_succ,List.getElem_cons_zero];refine zakj (by kernel_rfl) (fun W hW=>?_);have HM:=zH hW.1;have HRW:=zH hW.2;clear hW;obtain ⟨wz,rfl⟩:∃z:World,z=W:=⟨_,rfl⟩;rcases zsq o.kind with ⟨hB,kb2⟩ | ⟨hB,kb2,kb3⟩ | ⟨hB,kb2,kb3⟩;all_goals first | exact absurd hB hnb2 | skip
               all_goals first
                |have hBn:¬(o.kind=2∨o.kind=3):=hB
                 clear hB;have HNI:=zH (HM.out.skip HS.out hBn);have H7:=zH HRW.out.1;obtain ⟨xz,x0,x1,x2,x3,x4,x5⟩:=rk6 H7.out;go_wp2;go_roundw;case rel=>exact ⟨i+1,by go_num,by omega,HNI.out,HFI2.out,H7.out⟩
                 case measure=>simp [intOf];omega
                |have hBp:o.kind=2∨o.kind=3:=hB
                 clear hB;have H7:=zH HRW.out.1;obtain ⟨xz,x0,x1,x2,x3,x4,x5⟩:=rk6 H7.out;go_upto_region 25 with fail;clear x0 x1 x2 x3 x4 x5 xz;refine wp_region_mix 7 (fun W=>zfv b7 b10 bp #[.string o.id,.int .i64 o.kind,.int .i64 o.x,.int .i64 o.y,.slice (some ⟨b8,off8,none⟩) o.refs.length capq,.slice at1 o.tags.length capt] #[.string y.id,.int .i64 y.kind,.int .i64 y.x,.int .i64 y.y,.slice ay y.refs.length capy,.slice ty y.tags.length capz] #[.map (some bo),vo,.map (some bn),.map (some br)] W) (fun W=>OgM l wB bn br o k2 i W∧zfv b7 b10 bp #[.string o.id,.int .i64 o.kind,.int .i64 o.x,.int .i64 o.y,.slice (some ⟨b8,off8,none⟩) o.refs.length capq,.slice at1 o.tags.length capt] #[.string y.id,.int .i64 y.kind,.int .i64 y.x,.int .i64 y.y,.slice ay y.refs.length capy,.slice ty y.tags.length capz] #[.map (some bo),vo,.map (some bn),.map (some br)] W) mixed (by kernel_rfl) (by kernel_rfl) (by kernel_rfl) (fun W W' d hb=>⟨d.1.on hb,d.2.on hb⟩) (fun W d=>d.2) ⟨HM.out.on (Below.refl _ _).drew,HRW.out.on (Below.refl _ _).drew⟩ ?_;apply Exists.intro;refine ⟨fun W hW=>?_,?_⟩
                 ·have HA:=zH hW.2.2;have HB2:=zH hW.2.1;clear hW;obtain ⟨pz,p0,p1,p2,p3⟩:=rk4 HA.out;have qp0:=zaa p0;have qp1:=zaa p1;have qp2:=zaa p2;have qp3:=zaa p3;clear p0 p1 p2 p3;obtain ⟨xz,x0,x1,x2,x3,x4,x5⟩:=rk6 HB2.out;have qx0:=zaa x0;have qx1:=zaa x1;have qx2:=zaa x2;have qx3:=zaa x3;have qx4:=zaa x4;have qx5:=zaa x5;clear x0 x1 x2 x3 x4 x5;simp only [List.take_succ_cons,List.take_zero];repeat (go_big_quiet_step (fail))
                  exact wpQuiet_nil rfl
                 ·simp only [List.drop_succ_cons,List.drop_zero];refine tailM_step (ι:=Unit) (fun _=>undef) (fun _ W=>OgI l wB bn br o k2 (i+1) W∧zfv b7 b10 bp #[.string o.id,.int .i64 o.kind,.int .i64 o.x,.int .i64 o.y,.slice (some ⟨b8,off8,none⟩) o.refs.length capq,.slice at1 o.tags.length capt] #[.string y.id,.int .i64 y.kind,.int .i64 y.x,.int .i64 y.y,.slice ay y.refs.length capy,.slice ty y.tags.length capz] #[.map (some bo),vo,.map (some bn),.map (some br)] W) rfl (fun _ W W' d hb=>⟨d.1.on hb,d.2.on hb⟩) (fun _ W d=>d.2) (fun W hS K hK=>?_) (fun _=>?_)
                  ·obtain ⟨W',hrun,d',hg'⟩:=hS.1.put (by omega) (by omega) (by omega) hz HS.out hBp (p:=(y.x,y.y)) (HPY.out HYK.out).symm;have h2:=hS.2.grown hg' hS.1.nods.noCells;have hK2:=hK () _ ⟨d',h2⟩;clear d' hg' h2 hS hK;refine zhn _ _ _ _ rfl rfl rfl rfl hrun ?_;exact hK2
                  simp only [Act.put];refine tailM_nil fun W hW=>?_;have HNI:=zH hW.1;have H77:=zH hW.2.1;clear hW;go_wp2;go_roundw;case rel=>exact ⟨i+1,by go_num,by omega,HNI.out,HFI2.out,H77.out⟩
                  case measure=>simp [intOf];omega
           ·rw [HW.out] at hy;have hyb:=zakd hy;have HF:=zH (show fitP l=false from zaiy (zM HLO.out) HS.out (fun z hz'=>by
             rw [HAT.out] at hz'
             injection hz' with hz'
             rw [←hz',HW.out]
             exact hy))
            clear hy;have H7:=zH HRW.out.1;have H10:=zH HRW.out.2.1;obtain ⟨xz,x0,x1,x2,x3,x4,x5⟩:=rk6 H7.out;obtain ⟨yz,y0,y1,y2,y3,y4,y5⟩:=rk6 H10.out;go_wp2;go_ret;exact ⟨BWA.out,Or.inl ⟨HF.out,rfl⟩⟩
        ·obtain rfl:i=o.refs.length:=(by omega);have HNX:=zH (show OgI l wB bn br oZ (k2+1) 0 wi from OgI.next HLO.out hMb HOI.out);have HFN:=zH (show ∀q∈l.take (k2+1),fitO l q=true from fun q hq=>by
          rw [zbn HLO.out] at hq
          rcases List.mem_append.1 hq with h | h
          ·exact HFIT.out q h
          ·rw [List.mem_singleton.1 h]
           exact zkc.2 fun j r hj=>HFI.out j r (List.getElem?_eq_some_iff.1 hj).1 hj)
         go_wp2;go_roundw;case rel=>exact ⟨k2+1,by go_num,by omega,HNX.out,HFN.out⟩
         case measure=>simp [intOf];omega
      ·obtain rfl:k2=k:=(by omega);have htk:l.take k2=l:=List.take_of_length_le (by omega);have HFP:=zH (show fitP l=true from zdb.2 ⟨HOK.out,HCK.out,fun q hq=>HFIT.out q (by rw [htk];exact hq)⟩);have hke:=HOG.out.kept;have HPLA:=zH (show zdl wq bp (l.map (·.id)) l bo bn br vo from ⟨(hke.2 bp hlts.2.2.2 (by omega) (by omega) (by omega)).trans HRB.out,HORD.out.k3 hke HNN.out HNN.out HNR.out,HOB.out.k3 hke HNN.out HNR.out (by omega) (by omega),
        by
         have h:=HOG.out.nods.at (by omega)
         exact h.congr (fun r=>by rw [←hll];exact zalu l oZ r),
        by
         have h:=HOG.out.grp.congr (g:=refF l) zR (fun r=>by rw [←hll];exact zalj l oZ r)
         refine h.refs (fun r=>⟨?_,fun s hs=>?_⟩)
         ·unfold refF
          rw [List.length_map]
          exact Nat.le_trans (List.length_filter_le _ _) (by omega)
         ·obtain ⟨q,hq,rfl⟩:=List.mem_map.1 hs
          have hq:=(List.mem_filter.1 hq).1
          rw [←HL.out] at hq
          obtain ⟨x,hx,rfl⟩:=List.mem_map.1 hq
          exact (HCAP.out x hx).1.2.2,
        by omega,by omega,by omega⟩)
       clear htk hke;go_wp2;go_ret;exact ⟨BW2,Or.inr ⟨HFP.out,bp,bo,bn,br,vo,rfl,HPLA.out,by omega,by omega,by omega⟩⟩
  ·have d1:decide ((0:Int)<((zdf l).length:Int))=true:=decide_eq_true (by omega);have d2:decide (0<(zdf l).length)=true:=decide_eq_true (by omega);have HF:=zH (show fitP l=false by
    cases hf:fitP l with
    |false=>rfl
    |true=>exact absurd (by rw [(zdb.1 hf).2.1];rfl) hck)
   clear hck;go_wp2;go_ret;exact ⟨B3,Or.inl ⟨HF.out,rfl⟩⟩
end Go.Proofs.YtibpaaajghbkoaaGreat
