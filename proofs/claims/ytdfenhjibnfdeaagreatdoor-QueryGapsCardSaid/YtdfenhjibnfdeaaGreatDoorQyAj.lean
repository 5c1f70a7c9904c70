/-      -/
import Derived.Test.YtdfenhjibnfdeaaGreatDoorQyAe
import Derived.Test.YtdfenhjibnfdeaaGreatDoorQyAa
import Derived.Test.YtdfenhjibnfdeaaGreatDoorQyAi
import Derived.SizedLaws
import Derived.Deep.SlicePairs
import Derived.Test.YtdfenhjibnfdeaaGreatDoorQyAg
namespace Go.Proofs.YtdfenhjibnfdeaaGreatDoor
open Go.RowKit
def ObjAt (w:World) (b off:Nat) (o:ObjD):Prop :=
 ∃(vr vt:Value),w.cell? ⟨b,off,none⟩=some (.string o.id)∧w.cell? ⟨b,off+1,none⟩=some (.int .i64 o.kind)∧w.cell? ⟨b,off+2,none⟩=some (.int .i64 o.x) ∧
  w.cell? ⟨b,off+3,none⟩=some (.int .i64 o.y)∧w.cell? ⟨b,off+4,none⟩=some vr∧w.cell? ⟨b,off+5,none⟩=some vt ∧
  StrRow w vr o.refs∧TagRow w vt o.tags∧o.id.size≤140737488355328
theorem ObjAt.later {w w':World} {b off:Nat} {o:ObjD} (h:ObjAt w b off o) (hb:Below w.heap.size w w'):ObjAt w' b off o:=by
 obtain ⟨vr,vt,h0,h1,h2,h3,h4,h5,hr,ht,hz⟩:=h
 exact ⟨vr,vt,cell_later hb h0,cell_later hb h1,cell_later hb h2,cell_later hb h3,cell_later hb h4,cell_later hb h5,hr.later hb,ht.later hb,hz⟩
def ObjsIs (w:World) (v:Value) (l:List ObjD):Prop :=
 ∃(a:Option Addr) (cap:Nat),v=.slice a l.length cap∧l.length≤140737488355328 ∧
  (0<l.length→∃b off,a=some ⟨b,off,none⟩∧∀(i:Nat) (o:ObjD),l[i]?=some o→ObjAt w b (off+i * 6) o)
theorem ObjsIs.later {w w':World} {v:Value} {l:List ObjD} (h:ObjsIs w v l) (hb:Below w.heap.size w w'):ObjsIs w' v l:=by
 obtain ⟨a,cap,h1,h2,h3⟩:=h
 refine ⟨a,cap,h1,h2,fun h0=>?_⟩
 obtain ⟨b,off,e,hc⟩:=h3 h0
 exact ⟨b,off,e,fun i o hi=>(hc i o hi).later hb⟩
end Go.Proofs.YtdfenhjibnfdeaaGreatDoor

namespace Go.Proofs.YtdfenhjibnfdeaaGreatDoor
open Go.ChangeShapes Go.WideShapes Go.ChangeAt Go.RowKit Go.Shelf Go.Joins
open Go.ChangeMaps (open_string shut_string)
theorem gES:Tryz.prog.globalNamed "strconv.ErrSyntax"=some 2:=by kernel_rfl
theorem gER:Tryz.prog.globalNamed "strconv.ErrRange"=some 3:=by kernel_rfl
theorem gPT:Tryz.prog.globalNamed "internal/strconv.uint64pow10"=some 0:=by kernel_rfl
theorem gESType:(Tryz.prog.globals[2]?).map (·.type)=some 94:=by kernel_rfl
theorem gERType:(Tryz.prog.globals[3]?).map (·.type)=some 94:=by kernel_rfl
theorem gPTType:(Tryz.prog.globals[0]?).map (·.type)=some 157:=by kernel_rfl
theorem cellsES:Tryz.prog.cellsOf 174=1:=by kernel_rfl
theorem cellsString:Tryz.prog.cellsOf 9=1:=by kernel_rfl
theorem cellsU64:Tryz.prog.cellsOf 140=1:=by kernel_rfl
theorem cellsTab:Tryz.prog.cellsOf 157=20:=by kernel_rfl
theorem star:"*"++"errors.errorString"="*errors.errorString":=by decide
theorem rowES (u:TypeId) (h:Tryz.prog.typeName? 3 u=some "*errors.errorString"):u=172 :=
 typeName_ptr_named (nm:="errors.errorString") (by rw [star];kernel_rfl) (by kernel_rfl) (by decide) u (by rw [star];exact h)
theorem only (n:String) (l:List (String × DataW Unit)) (d:DataW Unit) {P:Program} {w:World} (h:laidMet P l w) (he:(l.filter fun x=>x.1==n)=[(n,d)]):laidMet P [(n,d)] w:=by
 rw [←he]
 exact h.filter _
theorem env_of {W:World} (hL:laidMetH Tryz.prog laidL W):Env W:=by
 rw [MakeChecks.laidMetH_plain _ _ _ (by kernel_rfl)] at hL
 refine ⟨?_,?_,?_⟩
 ·exact Lib.tabIs_of_head gPT gPTType Tryz.underlying157 Tryz.underlying140 cellsU64 cellsTab (rest:=[]) (only "internal/strconv.uint64pow10" laidL (Lib.tabData .u64 Lib.pow10Tab) hL (by kernel_rfl))
 ·obtain ⟨a0,s0,hv0,-,-,-⟩:=laid_sentinel (only "strconv.ErrSyntax" laidL Rows.laid_strconv_ErrSyntax hL (by kernel_rfl)) gES gESType Tryz.underlying94 rowES Tryz.underlying172 Tryz.underlying174 rfl rfl Tryz.underlying9 cellsES cellsString
  exact ⟨_,_,hv0⟩
 ·obtain ⟨a0,s0,hv0,-,-,-⟩:=laid_sentinel (only "strconv.ErrRange" laidL Rows.laid_strconv_ErrRange hL (by kernel_rfl)) gER gERType Tryz.underlying94 rowES Tryz.underlying172 Tryz.underlying174 rfl rfl Tryz.underlying9 cellsES cellsString
  exact ⟨_,_,hv0⟩
theorem cellsPoint:Tryz.prog.cellsOf 26=2:=by kernel_rfl
theorem cellsInt:Tryz.prog.cellsOf 3=1:=by kernel_rfl
theorem cellsStr:Tryz.prog.cellsOf 9=1:=by kernel_rfl
theorem addr_plain {W:World} {a:Addr} {v:Value} (h:W.cell? a=some v):a=⟨a.block,a.off,none⟩:=by
 obtain ⟨b,o,sp⟩:=a
 cases sp with
 |none=>rfl
 |some x =>
  unfold World.cell? at h
  simp at h
  split at h<;>simp at h
instance:Inhabited TagD:=⟨⟨⟨#[]⟩,⟨#[]⟩⟩⟩
instance:Inhabited ObjD:=⟨⟨⟨#[]⟩,0,0,0,[],[]⟩⟩
def Light {H:Type} (t:TypeId) (d:DataW H):Prop:=∀n∈d.weights Tryz.prog t,n≤reachBytes
theorem light_of {H:Type} {ts:List TypeId} {ds:List (DataW H)} (h:(DataW.weightsEach Tryz.prog ts ds).all (·≤reachBytes)=true) {j:Nat} {t:TypeId} {d:DataW H} (ht:ts[j]?=some t) (hd:ds[j]?=some d):Light t d:=by
 intro n hn
 simpa using List.all_eq_true.1 h n (DataW.weights_mem_each ht hd n hn)
theorem mem_weightsAll {H:Type} {P:Program} {e:TypeId}:∀{l:List (DataW H)} {d:DataW H},d∈l→∀n∈d.weights P e,n∈DataW.weightsAll P e l
 |x :: l,d,hd,n,hn=>by
  simp only [DataW.weightsAll,List.mem_append]
  rcases List.mem_cons.1 hd with rfl | hd
  ·exact Or.inl hn
  ·exact Or.inr (mem_weightsAll hd n hn)
theorem light_elem {H:Type} {t e:TypeId} {el sp:List (DataW H)} (hu:Tryz.prog.underlying t=some (.slice e)) (h:Light t (.slice el sp)) {d:DataW H} (hd:d∈el):Light e d:=by
 intro n hn
 refine h n ?_
 simp only [DataW.weights,hu,List.mem_cons,List.mem_append]
 exact Or.inr (Or.inl (mem_weightsAll hd n hn))
theorem light_len {H:Type} {t e:TypeId} {el sp:List (DataW H)} (hu:Tryz.prog.underlying t=some (.slice e)) (hb:1≤Tryz.prog.bytesOf e) (h:Light t (.slice el sp)):el.length≤140737488355328:=by
 have:=h ((el.length+sp.length) * Tryz.prog.bytesOf e) (by simp [DataW.weights,hu])
 have h2:el.length * 1≤(el.length+sp.length) * Tryz.prog.bytesOf e:=Nat.mul_le_mul (by omega) hb
 have h3:reachBytes<2 ^ 47:=reachBytes_lt
 omega
theorem light_part {H:Type} {t:TypeId} {fs:Array Field} {ps:List (DataW H)} (hu:Tryz.prog.underlying t=some (.struct fs)) (h:Light t (.agg ps)) {j:Nat} {e:TypeId} {d:DataW H} (he:(fs.toList.map (·.type))[j]?=some e) (hd:ps[j]?=some d):Light e d:=by
 intro n hn
 refine h n ?_
 simp only [DataW.weights,hu]
 exact DataW.weights_mem_each he hd n hn
theorem light_str {H:Type} {t:TypeId} {bs:List UInt8} (h:Light (H:=H) t (.lit (.string bs))):bs.length≤140737488355328:=by
 have:=h bs.length (by simp [DataW.weights])
 have h3:reachBytes<2 ^ 47:=reachBytes_lt
 omega
section
variable {H:Type} {enc:TypeId × Value→H} {W:World}
abbrev TrodW (enc:TypeId × Value→H) (W:World) (n:Nat) (t:TypeId) (cs:List Value) (y:DataW H × List MemPlace):Prop:=DataW.trod enc Tryz.prog W 0 (fun _=>true) true n t cs=some y
theorem open_str {n:Nat} {c:Value} {y:DataW H × List MemPlace} (h:TrodW enc W n 9 [c] y) (hl:Light 9 y.1):∃s:ByteArray,c=.string s∧s.size≤140737488355328:=by
 obtain ⟨s,e,hx,-⟩:=DataW.trod_string Tryz.underlying9 h
 simp at e
 rw [hx] at hl
 exact ⟨s,e,light_str hl⟩
set_option maxRecDepth 100000 in
theorem open_strs {n:Nat} {c:Value} {y:DataW H × List MemPlace} (h:TrodW enc W n 47 [c] y) (hl:Light 47 y.1):∃l:List ByteArray,StrRow W c l:=by
 rcases Go.Deep.open_slice1 Tryz.underlying47 cellsStr h with ⟨hcs,-⟩ | ⟨a,len,cap,m,k,V,D,Pl,hcs,-,hle,hm,hmm,hx,hel⟩
 ·simp at hcs
  subst hcs
  exact ⟨[],none,0,rfl,by simp,by simp,fun h=>by simp at h⟩
 ·simp at hcs
  subst hcs
  have hlm:len≤m:=by rw [hmm];split<;>omega
  have hx1:y.1=.slice ((List.range len).map D) ((List.range (m - len)).map fun j=>D (len+j)):=by rw [hx]
  rw [hx1] at hl
  have each:∀i,i<len→∃s:ByteArray,W.cell? (a.add i)=some (.string s)∧s.size≤140737488355328:=by
   intro i hi
   obtain ⟨h1,h2⟩:=hel i (by omega)
   obtain ⟨s,hs,hz⟩:=open_str h2 (light_elem Tryz.underlying47 hl (List.mem_map.2 ⟨i,List.mem_range.2 hi,rfl⟩))
   exact ⟨s,by rw [h1,hs],hz⟩
  obtain ⟨f,hf⟩:=Go.Deep.choose_lt each
  have hlen:=light_len Tryz.underlying47 (of_decide_eq_true (by kernel_rfl)) hl
  refine ⟨(List.range len).map f,some a,cap,by simp,by simpa using hlen,fun s hs=>?_,fun h0=>?_⟩
  ·obtain ⟨i,hi,rfl⟩:=List.mem_map.1 hs
   exact (hf i (List.mem_range.1 hi)).2
  ·have hp0:=(hf 0 (by simpa using h0)).1
   rw [show a.add 0=a by unfold Addr.add;simp] at hp0
   refine ⟨a.block,a.off,by rw [←addr_plain hp0],fun i s hi=>?_⟩
   have hil:i<len:=by have:=(List.getElem?_eq_some_iff.1 hi).1;simpa using this
   have hfs:f i=s:=by simpa [hil] using hi
   have:=(hf i hil).1
   rw [addr_plain hp0,Go.WideShapes.add_plain,hfs] at this
   exact this
set_option maxRecDepth 100000 in
theorem open_tags {n:Nat} {c:Value} {y:DataW H × List MemPlace} (h:TrodW enc W n 48 [c] y) (hl:Light 48 y.1):∃l:List TagD,TagRow W c l:=by
 rcases Go.Deep.open_slice_pairs Tryz.underlying48 Tryz.underlying58 (by kernel_rfl) rfl rfl cellsStr cellsStr h with ⟨hcs,-⟩ | ⟨a,len,cap,m,k,V0,V1,D0,D1,P0,P1,hcs,-,hle,hm,hmm,hx,hel⟩
 ·simp at hcs
  subst hcs
  exact ⟨[],none,0,rfl,by simp,by simp,fun h=>by simp at h⟩
 ·simp at hcs
  subst hcs
  have hlm:len≤m:=by rw [hmm];split<;>omega
  have hx1:y.1=.slice ((List.range len).map fun i=>.agg [D0 i,D1 i]) ((List.range (m - len)).map fun j=>.agg [D0 (len+j),D1 (len+j)]):=by rw [hx]
  rw [hx1] at hl
  have each:∀i,i<len→∃t:TagD,W.cell? (a.add (i * 2))=some (.string t.key)∧W.cell? (a.add (i * 2+1))=some (.string t.val)∧t.key.size≤140737488355328∧t.val.size≤140737488355328:=by
   intro i hi
   obtain ⟨h1,h2,h3,h4⟩:=hel i (by omega)
   have he:=light_elem Tryz.underlying48 hl (List.mem_map.2 ⟨i,List.mem_range.2 hi,rfl⟩)
   obtain ⟨s,hs,hz⟩:=open_str h3 (light_part Tryz.underlying58 he (j:=0) rfl rfl)
   obtain ⟨s',hs',hz'⟩:=open_str h4 (light_part Tryz.underlying58 he (j:=1) rfl rfl)
   exact ⟨⟨s,s'⟩,by rw [h1,hs],by rw [h2,hs'],hz,hz'⟩
  obtain ⟨f,hf⟩:=Go.Deep.choose_lt (α:=TagD) each
  have hlen:=light_len Tryz.underlying48 (of_decide_eq_true (by kernel_rfl)) hl
  refine ⟨(List.range len).map f,some a,cap,by simp,by simpa using hlen,fun s hs=>?_,fun h0=>?_⟩
  ·obtain ⟨i,hi,rfl⟩:=List.mem_map.1 hs
   exact (hf i (List.mem_range.1 hi)).2.2
  ·have hp0:=(hf 0 (by simpa using h0)).1
   rw [show a.add (0 * 2)=a by unfold Addr.add;simp] at hp0
   refine ⟨a.block,a.off,by rw [←addr_plain hp0],fun i s hi=>?_⟩
   have hil:i<len:=by have:=(List.getElem?_eq_some_iff.1 hi).1;simpa using this
   have hfs:f i=s:=by simpa [hil] using hi
   have h2:=hf i hil
   rw [addr_plain hp0,Go.WideShapes.add_plain,Go.WideShapes.add_plain,hfs] at h2
   exact ⟨h2.1,h2.2.1⟩
theorem cellsObj:Tryz.prog.cellsOf 50=6:=by kernel_rfl
theorem cellsStrs:Tryz.prog.cellsOf 47=1:=by kernel_rfl
theorem cellsTags:Tryz.prog.cellsOf 48=1:=by kernel_rfl
set_option maxRecDepth 100000 in
theorem open_obj {n:Nat} {cs:List Value} {y:DataW H × List MemPlace} (h:TrodW enc W n 50 cs y) (hl:Light 50 y.1) :
  ∃(o:ObjD) (vr vt:Value),cs=[.string o.id,.int .i64 o.kind,.int .i64 o.x,.int .i64 o.y,vr,vt]∧StrRow W vr o.refs∧TagRow W vt o.tags∧o.id.size≤140737488355328:=by
 obtain ⟨xs,m,_,hy,hlc,hlen,hf⟩:=DataW.trod_struct Tryz.underlying50 h
 rw [cellsObj] at hlc
 match cs,hlc with
 |[c0,c1,c2,c3,c4,c5],_ =>
  match xs,hlen with
  |[y0,y1,y2,y3,y4],_ =>
   have g0:=hf 0 _ rfl
   have g1:=hf 1 _ rfl
   have g2:=hf 2 _ rfl
   have g3:=hf 3 _ rfl
   have g4:=hf 4 _ rfl
   simp [cellsPoint,cellsInt,cellsStr,cellsStrs,cellsTags] at g0 g1 g2 g3 g4
   obtain ⟨a0,a1,m',-,-,k0,k1⟩:=trod_struct2 Tryz.underlying26 g2
   simp [cellsInt] at k0 k1
   have hl':Light 50 (.agg [y0.1,y1.1,y2.1,y3.1,y4.1]):=by rw [hy] at hl;simpa using hl
   obtain ⟨s0,e0,z0⟩:=open_str g0 (light_part Tryz.underlying50 hl' (j:=0) rfl rfl)
   obtain ⟨n1,e1,-,-⟩:=DataW.trod_int Tryz.underlying3 g1
   obtain ⟨n2,e2,-,-⟩:=DataW.trod_int Tryz.underlying3 k0
   obtain ⟨n3,e3,-,-⟩:=DataW.trod_int Tryz.underlying3 k1
   obtain ⟨rs,hr⟩:=open_strs g3 (light_part Tryz.underlying50 hl' (j:=3) rfl rfl)
   obtain ⟨ts,ht⟩:=open_tags g4 (light_part Tryz.underlying50 hl' (j:=4) rfl rfl)
   simp at e1 e2 e3
   subst e0 e1 e2 e3
   exact ⟨⟨s0,n1,n2,n3,rs,ts⟩,c4,c5,rfl,hr,ht,z0⟩
instance:Inhabited CondD:=⟨.mk 0 ⟨#[]⟩ ⟨#[]⟩ 0 []⟩
theorem cellsCond:Tryz.prog.cellsOf 24=5:=by kernel_rfl
theorem cellsConds:Tryz.prog.cellsOf 22=1:=by kernel_rfl
theorem size_agg {H:Type} {ps:List (DataW H)} {d:DataW H} {j:Nat} (h:ps[j]?=some d):SizeOf.sizeOf d<SizeOf.sizeOf (DataW.agg ps:DataW H):=by
 have:=List.sizeOf_lt_of_mem (List.mem_of_getElem? h)
 simp only [DataW.agg.sizeOf_spec];omega
theorem size_slice {H:Type} {el sp:List (DataW H)} {d:DataW H} (h:d∈el):SizeOf.sizeOf d<SizeOf.sizeOf (DataW.slice el sp:DataW H):=by
 have:=List.sizeOf_lt_of_mem h
 simp only [DataW.slice.sizeOf_spec];omega
set_option maxRecDepth 100000 in
theorem open_cond:∀(z:Nat) {n:Nat} {cs:List Value} {y:DataW H × List MemPlace},SizeOf.sizeOf y.1<z→TrodW enc W n 24 cs y→Light 24 y.1→∃(c:CondD) (a:Option Addr) (cap:Nat),cs=condL c a cap∧CondIs W c a
 |0,_,_,_,hz,_,_=>by omega
 |z+1,n,cs,y,hz,h,hl=>by
  obtain ⟨xs,m,_,hy,hlc,hlen,hf⟩:=DataW.trod_struct Tryz.underlying24 h
  rw [cellsCond] at hlc
  match cs,hlc with
  |[c0,c1,c2,c3,c4],_ =>
   match xs,hlen with
   |[y0,y1,y2,y3,y4],_ =>
    have g0:=hf 0 _ rfl
    have g1:=hf 1 _ rfl
    have g2:=hf 2 _ rfl
    have g3:=hf 3 _ rfl
    have g4:=hf 4 _ rfl
    simp [cellsInt,cellsStr,cellsConds] at g0 g1 g2 g3 g4
    have hy1:y.1=.agg [y0.1,y1.1,y2.1,y3.1,y4.1]:=by rw [hy];simp
    have hl':Light 24 (.agg [y0.1,y1.1,y2.1,y3.1,y4.1]):=by rw [←hy1];exact hl
    have hs4:SizeOf.sizeOf y4.1<z:=by
     have:=size_agg (ps:=[y0.1,y1.1,y2.1,y3.1,y4.1]) (j:=4) (d:=y4.1) rfl
     rw [←hy1] at this;omega
    obtain ⟨n0,e0,-,-⟩:=DataW.trod_int Tryz.underlying3 g0
    obtain ⟨s1,e1,z1⟩:=open_str g1 (light_part Tryz.underlying24 hl' (j:=1) rfl rfl)
    obtain ⟨s2,e2,z2⟩:=open_str g2 (light_part Tryz.underlying24 hl' (j:=2) rfl rfl)
    obtain ⟨n3,e3,-,-⟩:=DataW.trod_int Tryz.underlying3 g3
    have hlk:=light_part Tryz.underlying24 hl' (j:=4) rfl rfl
    simp at e0 e3
    subst e0 e1 e2 e3
    rcases Go.Deep.open_slice Tryz.underlying22 g4 with ⟨hcs,-⟩ | ⟨a,len,cap,m,k,D,Pl,hcs,-,hle,hm,hmm,hx,hel⟩
    ·simp at hcs
     subst hcs
     exact ⟨.mk n0 s1 s2 n3 [],none,0,rfl,z1,z2,by simp,fun h=>by simp at h⟩
    ·simp at hcs
     subst hcs
     have hlm:len≤m:=by rw [hmm];split<;>omega
     have hx1:y4.1=.slice ((List.range len).map D) ((List.range (m - len)).map fun j=>D (len+j)):=by rw [hx]
     rw [hx1] at hlk hs4
     have each:∀i,i<len→∃(c:CondD × Option Addr × Nat),(∀j u,(condL c.1 c.2.1 c.2.2)[j]?=some u→W.cell? (a.add (i * 5+j))=some u)∧CondIs W c.1 c.2.1:=by
      intro i hi
      obtain ⟨cs',h1,h2⟩:=hel i (by omega)
      have hmem:D i∈(List.range len).map D:=List.mem_map.2 ⟨i,List.mem_range.2 hi,rfl⟩
      obtain ⟨c,a',cap',rfl,hci⟩:=open_cond z (by have:=size_slice (sp:=(List.range (m - len)).map fun j=>D (len+j)) hmem;show SizeOf.sizeOf (D i)<z;omega) h2 (light_elem Tryz.underlying22 hlk hmem)
      rw [cellsCond] at h1
      obtain ⟨-,-,hc⟩:=World.cells?_some h1
      refine ⟨⟨c,a',cap'⟩,fun j u hu=>?_,hci⟩
      have hj:j<5:=(List.getElem?_eq_some_iff.1 hu).1
      have:=hc j hj
      rw [Go.Deep.add_add] at this
      rw [this,hu]
     obtain ⟨f,hf⟩:=Go.Deep.choose_lt (α:=CondD × Option Addr × Nat) each
     have hlen:=light_len Tryz.underlying22 (of_decide_eq_true (by kernel_rfl)) hlk
     refine ⟨.mk n0 s1 s2 n3 ((List.range len).map fun i=>(f i).1),some a,cap,by simp [condL,CondD.op,CondD.key,CondD.val,CondD.n,CondD.kids],z1,z2,by simpa using hlen,fun h0=>?_⟩
     obtain ⟨hp,-⟩:=hf 0 (by simpa using h0)
     have hp0:=hp 0 _ rfl
     rw [show a.add (0 * 5+0)=a by unfold Addr.add;simp] at hp0
     refine ⟨a.block,a.off,by rw [←addr_plain hp0],KidsIs.of _ _ fun i c hi=>?_⟩
     have hil:i<len:=by have:=(List.getElem?_eq_some_iff.1 hi).1;simpa using this
     have hfs:(f i).1=c:=by simpa [hil] using hi
     obtain ⟨hc,hci⟩:=hf i hil
     rw [hfs] at hc hci
     have hcc:∀j u,(condL c (f i).2.1 (f i).2.2)[j]?=some u→W.cell? ⟨a.block,a.off+(i * 5+j),none⟩=some u:=fun j u hu=>by
      have:=hc j u hu
      rwa [addr_plain hp0,Go.WideShapes.add_plain] at this
     refine ⟨(f i).2.1,(f i).2.2,⟨hcc 0 _ rfl,?_,?_,?_,?_⟩,hci⟩
     ·simpa only [Nat.add_assoc] using hcc 1 _ rfl
     ·simpa only [Nat.add_assoc] using hcc 2 _ rfl
     ·simpa only [Nat.add_assoc] using hcc 3 _ rfl
     ·simpa only [Nat.add_assoc] using hcc 4 _ rfl
end
set_option maxRecDepth 100000 in
theorem open_condA {H:Type} {enc:TypeId × Value→H} {r:Reach} {b0:Nat} {W:World} {v:Value} {d:DataW H} {p:List MemPlace}
  (hv:Value.okWide Tryz.prog W r b0 24 v) (h:DataW.Trod enc Tryz.prog W 0 (fun _=>true) true 24 v d p) (hl:Light 24 d) :
  ∃(c:CondD) (a:Option Addr) (cap:Nat),v=condV c a cap∧CondIs W c a:=by
 obtain ⟨cs,rfl,hsz⟩:=okWide_struct Tryz.underlying24 hv
 obtain ⟨fuel,hf⟩:=h
 obtain ⟨c,a,cap,hcs,hc⟩:=open_cond (SizeOf.sizeOf d+1) (y:=(d,p)) (Nat.lt_succ_self _) hf hl
 refine ⟨c,a,cap,?_,hc⟩
 obtain ⟨l⟩:=cs
 simp [Value.cells] at hcs
 rw [hcs]<;>rfl
set_option maxRecDepth 100000 in
theorem open_objA {H:Type} {enc:TypeId × Value→H} {r:Reach} {b0:Nat} {W:World} {v:Value} {d:DataW H} {p:List MemPlace}
  (hv:Value.okWide Tryz.prog W r b0 50 v) (h:DataW.Trod enc Tryz.prog W 0 (fun _=>true) true 50 v d p) (hl:Light 50 d) :
  ∃(o:ObjD) (vr vt:Value),v=obV o vr vt∧StrRow W vr o.refs∧TagRow W vt o.tags:=by
 obtain ⟨cs,rfl,hsz⟩:=okWide_struct Tryz.underlying50 hv
 obtain ⟨fuel,hf⟩:=h
 obtain ⟨o,vr,vt,hcs,hr,ht,-⟩:=open_obj (y:=(d,p)) hf hl
 refine ⟨o,vr,vt,?_,hr,ht⟩
 obtain ⟨l⟩:=cs
 simp [Value.cells] at hcs
 rw [hcs]<;>rfl
end Go.Proofs.YtdfenhjibnfdeaaGreatDoor

namespace Go.Proofs.YtdfenhjibnfdeaaGreatDoor
open Go.RowKit
set_option maxHeartbeats 400000 in
theorem rletter_any (c:UInt8) (w:World) :
  Calls Tryz.prog 81 #[.int .u8 c.toNat] w fun e w'=>e=.returned (.bool (letterC c))∧w=w':=by
 have hu:=UInt8.toNat_lt c
 go_enter Tryz.func81,Tryz.ntmps81
 by_cases h1:97≤c.toNat
 ·by_cases h2:c.toNat≤122
  ·go_wp2
   go_ret
   exact ⟨ret_bool (by rw [letterC,Bool.eq_iff_iff];first | (simp;done) | (simp;omega)),rfl⟩
  ·go_wp2
   go_ret
   exact ⟨ret_bool (by rw [letterC,Bool.eq_iff_iff];first | (simp;done) | (simp;omega)),rfl⟩
 ·by_cases h2:65≤c.toNat
  ·by_cases h3:c.toNat≤90
   ·go_wp2
    go_ret
    exact ⟨ret_bool (by rw [letterC,Bool.eq_iff_iff];first | (simp;done) | (simp;omega)),rfl⟩
   ·go_wp2
    go_ret
    exact ⟨ret_bool (by rw [letterC,Bool.eq_iff_iff];first | (simp;done) | (simp;omega)),rfl⟩
  ·go_wp2
   go_ret
   exact ⟨ret_bool (by rw [letterC,Bool.eq_iff_iff];first | (simp;done) | (simp;omega)),rfl⟩
theorem rdigit_any (c:UInt8) (w:World) :
  Calls Tryz.prog 109 #[.int .u8 c.toNat] w fun e w'=>e=.returned (.bool (digitC c))∧w=w':=by
 have hu:=UInt8.toNat_lt c
 go_enter Tryz.func109,Tryz.ntmps109
 by_cases h1:48≤c.toNat
 ·by_cases h2:c.toNat≤57
  ·go_wp2
   go_ret
   exact ⟨ret_bool (by rw [digitC,Bool.eq_iff_iff];first | (simp;done) | (simp;omega)),rfl⟩
  ·go_wp2
   go_ret
   exact ⟨ret_bool (by rw [digitC,Bool.eq_iff_iff];first | (simp;done) | (simp;omega)),rfl⟩
 ·go_wp2
  go_ret
  exact ⟨ret_bool (by rw [digitC,Bool.eq_iff_iff];first | (simp;done) | (simp;omega)),rfl⟩
set_option maxHeartbeats 400000 in
theorem rword_any (c:UInt8) (w:World) :
  Calls Tryz.prog 80 #[.int .u8 c.toNat] w fun e w'=>e=.returned (.bool (wordC c))∧w=w':=by
 have hu:=UInt8.toNat_lt c
 go_enter Tryz.func80,Tryz.ntmps80
 go_wp2_with fail
 refine (rletter_any _ _).mono ?_;rintro e w' ⟨rfl,rfl⟩
 cases h1:letterC c
 ·go_wp2_with fail
  refine (rdigit_any _ _).mono ?_;rintro e w' ⟨rfl,rfl⟩
  cases h2:digitC c
  ·by_cases h3:c.toNat=95
   ·have h3':((c.toNat:Int)==95)=true:=by rw [beq_iff_eq];omega
    clear h1 h2
    go_wp2
    go_ret
    exact ⟨ret_bool (by rw [wordC,h3];simp),rfl⟩
   ·have h3':((c.toNat:Int)==95)=false:=by rw [beq_eq_false_iff_ne];omega
    have H1:=Lib.hid h1
    have H2:=Lib.hid h2
    clear h1 h2
    go_wp2
    go_ret
    exact ⟨ret_bool (by rw [wordC,H1.out,H2.out];simp [h3]),rfl⟩
  ·have H2:=Lib.hid h2
   clear h1 h2
   go_wp2
   go_ret
   exact ⟨ret_bool (by rw [wordC,H2.out];simp),rfl⟩
 ·have H1:=Lib.hid h1
  clear h1
  go_wp2
  go_ret
  exact ⟨ret_bool (by rw [wordC,H1.out];simp),rfl⟩
theorem letter_word {c:UInt8} (h:letterC c=true):wordC c=true:=by rw [wordC,h];rfl
theorem nameL_eq (l:List UInt8):nameL l=(decide (0<l.length) && decide (l.length≤24) && l.all wordC && (match l with | []=>false | c :: _=>letterC c)):=by
 cases l with
 |nil=>simp [nameL]
 |cons c r =>
  simp only [nameL,preOK,List.all_cons]
  cases h:letterC c
  ·simp
  ·rw [letter_word h];simp
set_option maxHeartbeats 1000000 in
theorem rname_any (s:ByteArray) (hs:s.size≤140737488355328) (w:World) :
  Calls Tryz.prog 50 #[.string s] w fun e w'=>e=.returned (.bool (nameB s))∧w=w':=by
 go_enter Tryz.func50,Tryz.ntmps50
 go_wp2
 go_loop [3] (fun i=>∃k:Nat,k≤s.size∧i=.int .i64 k∧(s.data.toList.take k).all wordC=true) (fun i=>s.size - (intOf i).toNat)
 case atStart=>exact ⟨0,by omega,rfl,rfl⟩
 case round =>
  obtain ⟨k,hk,rfl,hpre⟩:=hrel
  have HP:=Lib.hid hpre
  clear hpre
  by_cases hlt:k<s.size
  ·have HT:=Lib.hid (take_snoc s k hlt)
   go_wp2_with fail
   refine (rword_any _ _).mono ?_;rintro e w' ⟨rfl,rfl⟩
   cases hw:wordC s[k]
   ·have HB2:=Lib.hid (show nameB s=false by
     have h1:(s.data.toList.take (k+1)).all wordC=false:=by rw [HT.out,List.all_append];simp [hw]
     have h2:s.data.toList.all wordC=false:=by
      rw [←List.take_append_drop (k+1) s.data.toList,List.all_append,h1];rfl
     rw [nameB,nameL_eq,h2];simp)
    clear hw
    go_wp2
    go_ret
    exact ⟨ret_bool HB2.out.symm,rfl⟩
   ·have HG:=Lib.hid (show (s.data.toList.take (k+1)).all wordC=true by rw [HT.out,List.all_append,HP.out];simp [hw])
    clear hw
    go_wp2
    go_round
    case rel=>exact ⟨k+1,by omega,by go_num,HG.out⟩
    case measure=>simp [intOf];omega
  ·obtain rfl:k=s.size:=by omega
   have hall:s.data.toList.take s.size=s.data.toList:=List.take_of_length_le (by simp)
   have HA:=HP.out
   rw [hall] at HA
   by_cases z:0<s.size
   ·have HH:=Lib.hid (show nameB s=(decide (s.size≤24) && letterC s[0]) by
     rw [nameB,nameL_eq,HA]
     have hl:s.data.toList.length=s.size:=by simp
     cases hd:s.data.toList with
     |nil=>rw [hd] at hl;simp at hl;omega
     |cons c r =>
      have hc:s[0]=c:=by
       have:s.data.toList[0]?=some c:=by rw [hd];rfl
       have h2:s.data.toList[0]?=some s[0]:=by
        rw [List.getElem?_eq_getElem (by omega)];rfl
       rw [h2] at this
       exact Option.some.inj this
      rw [hd] at hl
      simp only [hl,hc]
      simp [z])
    clear HP hall HA
    have z':(0:Int)<s.size:=by omega
    by_cases z2:s.size≤24
    ·go_wp2_with fail
     refine (rletter_any _ _).mono ?_;rintro e w' ⟨rfl,rfl⟩
     go_wp2
     go_ret
     exact ⟨ret_bool (by rw [HH.out];simp [z2]),rfl⟩
    ·go_wp2
     go_ret
     exact ⟨ret_bool (by rw [HH.out];simp [z2]),rfl⟩
   ·have HH:=Lib.hid (show nameB s=false by rw [nameB,nameL];simp [z])
    clear HP hall HA
    go_wp2
    go_ret
    exact ⟨ret_bool HH.out.symm,rfl⟩
end Go.Proofs.YtdfenhjibnfdeaaGreatDoor

namespace Go.Proofs.YtdfenhjibnfdeaaGreatDoor
open Go.RowKit Go.Shelf
theorem ne_str {a b:ByteArray} (h:a≠b):(a.toList==b.toList)=false:=by
 rw [ByteArray.toList_eq,ByteArray.toList_eq]
 exact beq_false_of_ne (fun c=>h (ByteArray.ext (Array.toList_inj.mp c)))
theorem str_list (s:ByteArray) (l:List UInt8):s=⟨l.toArray⟩↔s.toList=l:=by
 rw [ByteArray.toList_eq]
 constructor
 ·rintro rfl;rfl
 ·intro h;exact ByteArray.ext (by rw [←h])
theorem resB_list (s:ByteArray):resB s=(s.toList==[97,108,119,97,121,115] || s.toList==[97,110,100] || s.toList==[110,111,116] || s.toList==[111,114] || s.toList==[119,104,101,114,101]):=by
 unfold resB wAlways wAnd wNot wOr wWhere
 rw [Bool.eq_iff_iff]
 simp only [str_list,decide_eq_true_eq,Bool.or_eq_true,beq_iff_eq,or_assoc]
set_option maxHeartbeats 1000000 in
theorem rres_any (s:ByteArray) (w:World) :
  Calls Tryz.prog 126 #[.string s] w fun e w'=>e=.returned (.bool (resB s))∧w'=w:=by
 rw [resB_list]
 go_enter Tryz.func126,Tryz.ntmps126
 go_wp2
 all_goals
  go_ret
  refine ⟨ret_bool ?_,rfl⟩
  simp_all
set_option maxHeartbeats 1000000 in
theorem rkey_any (s:ByteArray) (hs:s.size≤140737488355328) (w:World) :
  Calls Tryz.prog 104 #[.string s] w fun e w'=>e=.returned (.bool (keyB s))∧Below w.heap.size w w':=by
 have RN:=Lib.hid (fun W=>rname_any s hs W)
 have RR:=Lib.hid (fun W=>rres_any s W)
 unfold keyB
 cases hn:nameB s with
 |false =>
  rw [hn] at RN
  clear hn
  go_enter Tryz.func104,Tryz.ntmps104
  go_wp2_with fail
  refine (RN.out _).mono ?_
  rintro e w2 ⟨rfl,rfl⟩
  go_wp2
  go_ret
  exact ⟨rfl,Below.refl _ _⟩
 |true =>
  rw [hn] at RN
  clear hn
  cases hr:resB s<;>rw [hr] at RR<;>clear hr
  all_goals
   go_enter Tryz.func104,Tryz.ntmps104
   go_wp2_with fail
   refine (RN.out _).mono ?_
   rintro e w2 ⟨rfl,rfl⟩
   go_wp2_with fail
   refine (RR.out _).mono ?_
   rintro e w3 ⟨rfl,rfl⟩
   go_wp2
   go_ret
   exact ⟨rfl,Below.refl _ _⟩
def NodesP (w:World) (c:CondD) (most:Nat) (e:Ending) (w':World):Prop :=
 ∃n:Nat,e=.returned (.int .i64 n)∧1≤n∧(n=1∨n≤most+1)∧(n≤most→n=cnodes c)∧Below w.heap.size w w'
def NodesK (k:Nat):Prop:=∀(c:CondD) (a:Option Addr) (cap:Nat) (w:World) (most:Nat),cnodes c≤k→CondIs w c a→most≤100 →
 Calls Tryz.prog 45 #[condV c a cap,.int .i64 most] w (NodesP w c most)
set_option maxRecDepth 100000 in
set_option maxHeartbeats 4000000 in
theorem nodes_step (k:Nat) (IH:NodesK k):NodesK (k+1):=by
 intro c a cap w most hk hc hm
 obtain ⟨op,key,val,n,ks⟩:=c
 have hk2:cnodesL ks≤k:=by rw [cnodes] at hk;omega
 obtain ⟨h1,h2,h3,h4⟩:=hc.open
 show Calls Tryz.prog 45 #[.agg #[.int .i64 op,.string key,.string val,.int .i64 n,.slice a ks.length cap],.int .i64 most] w _
 have h3:ks.length≤140737488355328:=h3
 have HRES:=Lib.hid (show cnodes (.mk op key val n ks)=cnodesL ks+1 from by rw [cnodes])
 have B1:=(Below.refl w.heap.size w).alloc (Nat.le_refl _) (.cells #[.int .i64 op,.string key,.string val,.int .i64 n,.slice a ks.length cap] 24)
 have HC0:=Lib.hid (row_new w (.cells #[.int .i64 op,.string key,.string val,.int .i64 n,.slice a ks.length cap] 24))
 obtain ⟨N,hN⟩:∃N,ks.length=N:=⟨_,rfl⟩
 rw [hN] at h3 HC0 B1 ⊢
 have HN:=Lib.hid hN
 have H4:=Lib.hid (show 0<ks.length→∃b off,a=some ⟨b,off,none⟩∧KidsIs w b ks off from h4)
 clear hc h4 hk hN h1 h2
 go_enter Tryz.func45,Tryz.ntmps45
 go_wp2
 go_loopw [5,6] (fun v i wr=>∃(j m:Nat),j≤N∧i=.int .i64 j∧v=.int .i64 m∧1≤m∧(m=1∨m≤most+1)∧(m≤most∨j=0→m=cnodesL (ks.take j)+1)∧Below w.heap.size w wr∧wr.heap[w.heap.size]?=some (.cells #[.int .i64 op,.string key,.string val,.int .i64 n,.slice a N cap] 24 (0,0))) (fun _ i _=>N - (intOf i).toNat)
 case atStart=>exact ⟨0,1,by omega,rfl,rfl,by omega,.inl rfl,fun _=>by simp [cnodesL],B1,HC0.out⟩
 case round =>
  obtain ⟨j,m,hj,rfl,rfl,hm1,hm2,hm3,hbr,hbx⟩:=hrel
  have HM3:=Lib.hid hm3
  have HBX:=Lib.hid hbx
  clear hbx hm3
  by_cases hlt:j<N
  ·by_cases hle:m≤most
   ·obtain ⟨c,hcj⟩:∃c,ks[j]?=some c:=⟨ks[j]'(by rw [HN.out];exact hlt),List.getElem?_eq_getElem _⟩
    obtain ⟨b,off,ha,hrow⟩:=H4.out (by rw [HN.out];omega)
    subst ha
    obtain ⟨a',cap',⟨q0,q1,q2,q3,q4⟩,hci⟩:=KidsIs.at _ _ j c hrow hcj
    have c0:=cell_later hbr q0
    have c1:=cell_later hbr q1
    have c2:=cell_later hbr q2
    have c3:=cell_later hbr q3
    have c4:=cell_later hbr q4
    have hm:=List.mem_of_getElem? hcj
    have CL:=Lib.hid (IH c a' cap' wr (most - m) (Nat.le_trans (cnodes_kid _ _ _ hcj) hk2) (hci.later hbr) (by omega))
    have HTK:=Lib.hid (cnodesL_take ks j c hcj)
    have d1:decide ((m:Int)≤most)=true:=decide_eq_true (by omega)
    have d0:decide ((j:Int)<N)=true:=decide_eq_true (by omega)
    clear q0 q1 q2 q3 q4 hci hrow hcj hm
    rw [cond_cells,show (((most - m:Nat)):Int)=(most:Int) - m by omega] at CL
    obtain ⟨zz,z0,z1,z2,z3,z4⟩:=rk5 HBX.out
    go_wp2_with fail
    refine CL.out.mono ?_
    rintro e w2 ⟨r,rfl,hr1,hr2,hr3,hb2⟩
    have HB2:=Lib.hid (row_later hb2 HBX.out)
    have B2:=below_step hbr (Nat.le_refl _) hb2
    have HM4:=Lib.hid (show m+r≤most∨j+1=0→m+r=cnodesL (ks.take (j+1))+1 from fun h=>by
     rw [HTK.out]
     have h5:=HM3.out (.inl hle)
     have h6:=hr3 (by omega)
     omega)
    clear hb2 hr3 CL HM3
    go_wp2
    go_roundw
    case rel=>exact ⟨j+1,m+r,by omega,by go_num,by go_num,by omega,by omega,HM4.out,B2,HB2.out⟩
    case measure=>simp [intOf];omega
   ·have d1:decide ((m:Int)≤most)=false:=decide_eq_false (by omega)
    have d0:decide ((j:Int)<N)=true:=decide_eq_true (by omega)
    obtain ⟨zz,z0,z1,z2,z3,z4⟩:=rk5 HBX.out
    go_wp2
    go_ret
    exact ⟨m,rfl,hm1,hm2,fun h=>absurd h hle,hbr⟩
  ·obtain rfl:j=N:=by omega
   have hm4:=HM3.out
   rw [List.take_of_length_le (by rw [HN.out];exact Nat.le_refl _)] at hm4
   have HM4:=Lib.hid hm4
   clear hm4 HM3
   obtain ⟨zz,z0,z1,z2,z3,z4⟩:=rk5 HBX.out
   go_wp2
   go_ret
   exact ⟨m,rfl,hm1,hm2,fun h=>(HM4.out (.inl h)).trans HRES.out.symm,hbr⟩
theorem nodes_all:∀k,NodesK k
 |0=>fun c _ _ _ _ hk=>by have:=cnodes_pos c;omega
 |k+1=>nodes_step k (nodes_all k)
theorem nodes_any (c:CondD) (a:Option Addr) (cap:Nat) (w:World) (most:Nat) (hc:CondIs w c a) (hm:most≤100) :
  Calls Tryz.prog 45 #[condV c a cap,.int .i64 most] w (NodesP w c most):=nodes_all (cnodes c) c a cap w most (Nat.le_refl _) hc hm
end Go.Proofs.YtdfenhjibnfdeaaGreatDoor

namespace Go.Proofs.YtdfenhjibnfdeaaGreatDoor
open Go.RowKit Go.Shelf
def FewOPost (o:ObjD) (w:World) (e:Ending) (w':World):Prop:=(∃r,e=.returned (.bool r)∧(r=true→o.refs.length≤40∧o.tags.length≤65))∧Below w.heap.size w w'
set_option maxRecDepth 100000 in
set_option maxHeartbeats 4000000 in
theorem fewO_any (o:ObjD) (vr vt:Value) (w:World) (hr:StrRow w vr o.refs) (ht:TagRow w vt o.tags) :
  Calls Tryz.prog 19 #[obV o vr vt,.int .i64 40] w (FewOPost o w):=by
 obtain ⟨a1,c1,rfl,hn1,hs1,hc1⟩:=hr
 obtain ⟨a2,c2,rfl,hn2,hs2,hc2⟩:=ht
 have B1:Below w.heap.size w (w.alloc (.cells #[.string o.id,.int .i64 o.kind,.int .i64 o.x,.int .i64 o.y,.slice a1 o.refs.length c1,.slice a2 o.tags.length c2] 50)):=(Below.refl _ _).alloc (Nat.le_refl _) _
 have H2:=row_new w (.cells #[.string o.id,.int .i64 o.kind,.int .i64 o.x,.int .i64 o.y,.slice a1 o.refs.length c1,.slice a2 o.tags.length c2] 50)
 by_cases z1:(300:Int)<o.id.size
 ·have zb:decide ((300:Int)<o.id.size)=true:=decide_eq_true z1
  go_enter Tryz.func19,Tryz.ntmps19
  go_wp2
  go_ret
  exact ⟨⟨false,rfl,fun h=>by cases h⟩,B1⟩
 have zb:decide ((300:Int)<o.id.size)=false:=decide_eq_false z1
 by_cases z2:(40:Int)<o.refs.length
 ·have zb2:decide ((40:Int)<o.refs.length)=true:=decide_eq_true z2
  clear z1
  go_enter Tryz.func19,Tryz.ntmps19
  go_wp2
  go_ret
  exact ⟨⟨false,rfl,fun h=>by cases h⟩,B1⟩
 have zb2:decide ((40:Int)<o.refs.length)=false:=decide_eq_false z2
 by_cases z3:(65:Int)<o.tags.length
 ·have zb3:decide ((65:Int)<o.tags.length)=true:=decide_eq_true z3
  clear z1 z2
  go_enter Tryz.func19,Tryz.ntmps19
  go_wp2
  go_ret
  exact ⟨⟨false,rfl,fun h=>by cases h⟩,B1⟩
 have zb3:decide ((65:Int)<o.tags.length)=false:=decide_eq_false z3
 have HR:=Lib.hid (show o.refs.length≤40∧o.tags.length≤65 by omega)
 obtain ⟨nr,hnr⟩:∃n,o.refs.length=n:=⟨_,rfl⟩
 obtain ⟨nt,hnt⟩:∃n,o.tags.length=n:=⟨_,rfl⟩
 rw [hnr] at hn1 hc1 zb2 z2 B1 H2 ⊢
 rw [hnt] at hn2 hc2 zb3 z3 B1 H2 ⊢
 have HNR:=Lib.hid hnr
 have HNT:=Lib.hid hnt
 have HC1:=Lib.hid hc1
 have HC2:=Lib.hid hc2
 have HS1:=Lib.hid hs1
 have HS2:=Lib.hid hs2
 have hnr40:nr≤40:=by rw [←hnr];exact HR.out.1
 have hnt65:nt≤65:=by omega
 clear hnr hnt hc1 hc2 hs1 hs2 z1 z2 z3
 go_enter Tryz.func19,Tryz.ntmps19
 go_wp2_with fail
 generalize hw1:w.alloc (.cells #[.string o.id,.int .i64 o.kind,.int .i64 o.x,.int .i64 o.y,.slice a1 nr c1,.slice a2 nt c2] 50)=w1
 rw [hw1] at B1 H2
 clear hw1 zb zb2 zb3
 go_loopw [5] (fun i wr=>∃k:Nat,i=.int .i64 k∧k≤nr∧Below w.heap.size w wr∧wr.heap[w.heap.size]?=some (.cells #[.string o.id,.int .i64 o.kind,.int .i64 o.x,.int .i64 o.y,.slice a1 nr c1,.slice a2 nt c2] 50)) (fun i _=>nr - (intOf i).toNat)
 case atStart=>exact ⟨0,rfl,Nat.zero_le _,B1,H2⟩
 case round =>
  obtain ⟨k,rfl,hk,hbr,h2⟩:=hrel
  have G2:=Lib.hid h2
  clear h2
  by_cases hlt:k<nr
  ·obtain ⟨s,hs⟩:∃s,o.refs[k]?=some s:=⟨o.refs[k]'(by rw [HNR.out];exact hlt),List.getElem?_eq_getElem _⟩
   obtain ⟨b1,f1,e1,q1⟩:=HC1.out (by omega)
   subst e1
   have d0:=cell_later hbr (q1 k s hs)
   have hz:=HS1.out s (List.mem_of_getElem? hs)
   clear q1 hs
   obtain ⟨xz,x0,x1,x2,x3,x4,x5⟩:=rk6 G2.out
   by_cases hb:(300:Int)<s.size
   ·have hbb:decide ((300:Int)<s.size)=true:=decide_eq_true hb
    clear hb
    go_wp2
    go_ret
    exact ⟨⟨false,rfl,fun h=>by cases h⟩,hbr⟩
   ·have hbb:decide ((300:Int)<s.size)=false:=decide_eq_false hb
    clear hb
    go_wp2
    go_roundw
    case rel=>exact ⟨k+1,by go_num,by omega,hbr,G2.out⟩
    case measure=>simp [intOf];omega
  ·obtain rfl:k=nr:=by omega
   obtain ⟨wv,rfl⟩:∃z:World,z=wr:=⟨_,rfl⟩
   obtain ⟨xz,x0,x1,x2,x3,x4,x5⟩:=rk6 G2.out
   go_wp2_with fail
   clear x0 x1 x2 x3 x4 x5 xz
   go_loopw [6] (fun i wr=>∃j:Nat,i=.int .i64 j∧j≤nt∧Below w.heap.size w wr∧wr.heap[w.heap.size]?=some (.cells #[.string o.id,.int .i64 o.kind,.int .i64 o.x,.int .i64 o.y,.slice a1 k c1,.slice a2 nt c2] 50)) (fun i _=>nt - (intOf i).toNat)
   case atStart=>exact ⟨0,rfl,Nat.zero_le _,hbr,G2.out⟩
   case round =>
    obtain ⟨j,rfl,hj,hbr2,h2⟩:=hrel
    have G2:=Lib.hid h2
    clear h2
    by_cases hlt2:j<nt
    ·obtain ⟨t,ht⟩:∃t,o.tags[j]?=some t:=⟨o.tags[j]'(by rw [HNT.out];exact hlt2),List.getElem?_eq_getElem _⟩
     obtain ⟨b2,f2,e2,q2⟩:=HC2.out (by omega)
     subst e2
     have d0:=cell_later hbr2 (q2 j t ht).1
     have d1:=cell_later hbr2 (q2 j t ht).2
     obtain ⟨hz1,hz2⟩:=HS2.out t (List.mem_of_getElem? ht)
     have wz:IntKind.i64.wrap ((t.key.size:Int)+t.val.size)=(t.key.size:Int)+t.val.size:=IntWalk.i64_in _ (by omega)
     clear q2 ht
     obtain ⟨xz,x0,x1,x2,x3,x4,x5⟩:=rk6 G2.out
     obtain ⟨bd,hbd⟩:∃z,decide ((600:Int)<(t.key.size:Int)+t.val.size)=z:=⟨_,rfl⟩
     cases bd with
     |true =>
      go_wp2_with fail
      go_quiet (fail)
      go_wp2
      go_ret
      exact ⟨⟨false,rfl,fun h=>by cases h⟩,hbr2.drewN'⟩
     |false =>
      go_wp2_with fail
      go_quiet (fail)
      clear x0 x1 x2 x3 x4 x5 xz
      have BQ:Below wr.heap.size wr (wr.drewN nq):=(Below.refl _ _).drewN'
      go_wp2
      go_roundw
      case rel=>exact ⟨j+1,by go_num,by omega,hbr2.drewN',row_later BQ G2.out⟩
      case measure=>simp [intOf];omega
    ·obtain rfl:j=nt:=by omega
     obtain ⟨xz,x0,x1,x2,x3,x4,x5⟩:=rk6 G2.out
     go_wp2
     go_ret
     exact ⟨⟨true,rfl,fun _=>HR.out⟩,hbr2⟩
end Go.Proofs.YtdfenhjibnfdeaaGreatDoor
