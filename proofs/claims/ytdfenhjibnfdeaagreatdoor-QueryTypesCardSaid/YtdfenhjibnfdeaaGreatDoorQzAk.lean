/-     -/
import Derived.Test.YtdfenhjibnfdeaaGreatDoorQzAe
import Derived.Test.YtdfenhjibnfdeaaGreatDoorQzAa
import Derived.Test.YtdfenhjibnfdeaaGreatDoorQzAj
import Derived.SizedLaws
import Derived.Deep.SlicePairs
import Derived.Test.YtdfenhjibnfdeaaGreatDoorQzAi
import Derived.Test.YtdfenhjibnfdeaaGreatDoorQzAf
import Derived.StillTail
namespace Go.Proofs.YtdfenhjibnfdeaaGreatDoor
open Go.RowKit
def ObjAt (w:World) (b off:Nat) (o:ObjD):Prop :=
 ∃(vr vt:Value),w.cell? ⟨b,off,none⟩=some (.string o.id)∧w.cell? ⟨b,off+1,none⟩=some (.int .i64 o.kind)∧w.cell? ⟨b,off+2,none⟩=some (.int .i64 o.x) ∧
  w.cell? ⟨b,off+3,none⟩=some (.int .i64 o.y)∧w.cell? ⟨b,off+4,none⟩=some vr∧w.cell? ⟨b,off+5,none⟩=some vt ∧
  StrRow w vr o.refs∧TagRow w vt o.tags∧o.id.size≤140737488355328
theorem ObjAt.later {w w':World} {b off:Nat} {o:ObjD} (h:ObjAt w b off o) (hb:Below w.heap.size w w'):ObjAt w' b off o:=by
 obtain ⟨vr,vt,h0,h1,h2,h3,h4,h5,hr,ht,hz⟩:=h
 exact ⟨vr,vt,cell_later hb h0,cell_later hb h1,cell_later hb h2,cell_later hb h3,cell_later hb h4,cell_later hb h5,hr.later hb,ht.later hb,hz⟩
def ObjsIs (w:World) (v:Value) (l:List ObjD):Prop :=
 ∃(a:Option Addr) (cap:Nat),v=.slice a l.length cap∧l.length≤140737488355328 ∧
  (0<l.length→∃b off,a=some ⟨b,off,none⟩∧∀(i:Nat) (o:ObjD),l[i]?=some o→ObjAt w b (off+i * 6) o)
theorem ObjsIs.later {w w':World} {v:Value} {l:List ObjD} (h:ObjsIs w v l) (hb:Below w.heap.size w w'):ObjsIs w' v l:=by
 obtain ⟨a,cap,h1,h2,h3⟩:=h
 refine ⟨a,cap,h1,h2,fun h0=>?_⟩
 obtain ⟨b,off,e,hc⟩:=h3 h0
 exact ⟨b,off,e,fun i o hi=>(hc i o hi).later hb⟩
end Go.Proofs.YtdfenhjibnfdeaaGreatDoor

namespace Go.Proofs.YtdfenhjibnfdeaaGreatDoor
open Go.ChangeShapes Go.WideShapes Go.ChangeAt Go.RowKit Go.Shelf Go.Joins
open Go.ChangeMaps (open_string shut_string)
theorem gES:Tryz.prog.globalNamed "strconv.ErrSyntax"=some 2:=by kernel_rfl
theorem gER:Tryz.prog.globalNamed "strconv.ErrRange"=some 3:=by kernel_rfl
theorem gPT:Tryz.prog.globalNamed "internal/strconv.uint64pow10"=some 0:=by kernel_rfl
theorem gESType:(Tryz.prog.globals[2]?).map (·.type)=some 94:=by kernel_rfl
theorem gERType:(Tryz.prog.globals[3]?).map (·.type)=some 94:=by kernel_rfl
theorem gPTType:(Tryz.prog.globals[0]?).map (·.type)=some 157:=by kernel_rfl
theorem cellsES:Tryz.prog.cellsOf 174=1:=by kernel_rfl
theorem cellsString:Tryz.prog.cellsOf 9=1:=by kernel_rfl
theorem cellsU64:Tryz.prog.cellsOf 140=1:=by kernel_rfl
theorem cellsTab:Tryz.prog.cellsOf 157=20:=by kernel_rfl
theorem star:"*"++"errors.errorString"="*errors.errorString":=by decide
theorem rowES (u:TypeId) (h:Tryz.prog.typeName? 3 u=some "*errors.errorString"):u=172 :=
 typeName_ptr_named (nm:="errors.errorString") (by rw [star];kernel_rfl) (by kernel_rfl) (by decide) u (by rw [star];exact h)
theorem only (n:String) (l:List (String × DataW Unit)) (d:DataW Unit) {P:Program} {w:World} (h:laidMet P l w) (he:(l.filter fun x=>x.1==n)=[(n,d)]):laidMet P [(n,d)] w:=by
 rw [←he]
 exact h.filter _
theorem env_of {W:World} (hL:laidMetH Tryz.prog laidL W):Env W:=by
 rw [MakeChecks.laidMetH_plain _ _ _ (by kernel_rfl)] at hL
 refine ⟨?_,?_,?_⟩
 ·exact Lib.tabIs_of_head gPT gPTType Tryz.underlying157 Tryz.underlying140 cellsU64 cellsTab (rest:=[]) (only "internal/strconv.uint64pow10" laidL (Lib.tabData .u64 Lib.pow10Tab) hL (by kernel_rfl))
 ·obtain ⟨a0,s0,hv0,-,-,-⟩:=laid_sentinel (only "strconv.ErrSyntax" laidL Rows.laid_strconv_ErrSyntax hL (by kernel_rfl)) gES gESType Tryz.underlying94 rowES Tryz.underlying172 Tryz.underlying174 rfl rfl Tryz.underlying9 cellsES cellsString
  exact ⟨_,_,hv0⟩
 ·obtain ⟨a0,s0,hv0,-,-,-⟩:=laid_sentinel (only "strconv.ErrRange" laidL Rows.laid_strconv_ErrRange hL (by kernel_rfl)) gER gERType Tryz.underlying94 rowES Tryz.underlying172 Tryz.underlying174 rfl rfl Tryz.underlying9 cellsES cellsString
  exact ⟨_,_,hv0⟩
theorem cellsPoint:Tryz.prog.cellsOf 26=2:=by kernel_rfl
theorem cellsInt:Tryz.prog.cellsOf 3=1:=by kernel_rfl
theorem cellsStr:Tryz.prog.cellsOf 9=1:=by kernel_rfl
theorem addr_plain {W:World} {a:Addr} {v:Value} (h:W.cell? a=some v):a=⟨a.block,a.off,none⟩:=by
 obtain ⟨b,o,sp⟩:=a
 cases sp with
 |none=>rfl
 |some x =>
  unfold World.cell? at h
  simp at h
  split at h<;>simp at h
instance:Inhabited TagD:=⟨⟨⟨#[]⟩,⟨#[]⟩⟩⟩
instance:Inhabited ObjD:=⟨⟨⟨#[]⟩,0,0,0,[],[]⟩⟩
def Light {H:Type} (t:TypeId) (d:DataW H):Prop:=∀n∈d.weights Tryz.prog t,n≤reachBytes
theorem light_of {H:Type} {ts:List TypeId} {ds:List (DataW H)} (h:(DataW.weightsEach Tryz.prog ts ds).all (·≤reachBytes)=true) {j:Nat} {t:TypeId} {d:DataW H} (ht:ts[j]?=some t) (hd:ds[j]?=some d):Light t d:=by
 intro n hn
 simpa using List.all_eq_true.1 h n (DataW.weights_mem_each ht hd n hn)
theorem mem_weightsAll {H:Type} {P:Program} {e:TypeId}:∀{l:List (DataW H)} {d:DataW H},d∈l→∀n∈d.weights P e,n∈DataW.weightsAll P e l
 |x :: l,d,hd,n,hn=>by
  simp only [DataW.weightsAll,List.mem_append]
  rcases List.mem_cons.1 hd with rfl | hd
  ·exact Or.inl hn
  ·exact Or.inr (mem_weightsAll hd n hn)
theorem light_elem {H:Type} {t e:TypeId} {el sp:List (DataW H)} (hu:Tryz.prog.underlying t=some (.slice e)) (h:Light t (.slice el sp)) {d:DataW H} (hd:d∈el):Light e d:=by
 intro n hn
 refine h n ?_
 simp only [DataW.weights,hu,List.mem_cons,List.mem_append]
 exact Or.inr (Or.inl (mem_weightsAll hd n hn))
theorem light_len {H:Type} {t e:TypeId} {el sp:List (DataW H)} (hu:Tryz.prog.underlying t=some (.slice e)) (hb:1≤Tryz.prog.bytesOf e) (h:Light t (.slice el sp)):el.length≤140737488355328:=by
 have:=h ((el.length+sp.length) * Tryz.prog.bytesOf e) (by simp [DataW.weights,hu])
 have h2:el.length * 1≤(el.length+sp.length) * Tryz.prog.bytesOf e:=Nat.mul_le_mul (by omega) hb
 have h3:reachBytes<2 ^ 47:=reachBytes_lt
 omega
theorem light_part {H:Type} {t:TypeId} {fs:Array Field} {ps:List (DataW H)} (hu:Tryz.prog.underlying t=some (.struct fs)) (h:Light t (.agg ps)) {j:Nat} {e:TypeId} {d:DataW H} (he:(fs.toList.map (·.type))[j]?=some e) (hd:ps[j]?=some d):Light e d:=by
 intro n hn
 refine h n ?_
 simp only [DataW.weights,hu]
 exact DataW.weights_mem_each he hd n hn
theorem light_str {H:Type} {t:TypeId} {bs:List UInt8} (h:Light (H:=H) t (.lit (.string bs))):bs.length≤140737488355328:=by
 have:=h bs.length (by simp [DataW.weights])
 have h3:reachBytes<2 ^ 47:=reachBytes_lt
 omega
section
variable {H:Type} {enc:TypeId × Value→H} {W:World}
abbrev TrodW (enc:TypeId × Value→H) (W:World) (n:Nat) (t:TypeId) (cs:List Value) (y:DataW H × List MemPlace):Prop:=DataW.trod enc Tryz.prog W 0 (fun _=>true) true n t cs=some y
theorem open_str {n:Nat} {c:Value} {y:DataW H × List MemPlace} (h:TrodW enc W n 9 [c] y) (hl:Light 9 y.1):∃s:ByteArray,c=.string s∧s.size≤140737488355328:=by
 obtain ⟨s,e,hx,-⟩:=DataW.trod_string Tryz.underlying9 h
 simp at e
 rw [hx] at hl
 exact ⟨s,e,light_str hl⟩
set_option maxRecDepth 100000 in
theorem open_strs {n:Nat} {c:Value} {y:DataW H × List MemPlace} (h:TrodW enc W n 47 [c] y) (hl:Light 47 y.1):∃l:List ByteArray,StrRow W c l:=by
 rcases Go.Deep.open_slice1 Tryz.underlying47 cellsStr h with ⟨hcs,-⟩ | ⟨a,len,cap,m,k,V,D,Pl,hcs,-,hle,hm,hmm,hx,hel⟩
 ·simp at hcs
  subst hcs
  exact ⟨[],none,0,rfl,by simp,by simp,fun h=>by simp at h⟩
 ·simp at hcs
  subst hcs
  have hlm:len≤m:=by rw [hmm];split<;>omega
  have hx1:y.1=.slice ((List.range len).map D) ((List.range (m - len)).map fun j=>D (len+j)):=by rw [hx]
  rw [hx1] at hl
  have each:∀i,i<len→∃s:ByteArray,W.cell? (a.add i)=some (.string s)∧s.size≤140737488355328:=by
   intro i hi
   obtain ⟨h1,h2⟩:=hel i (by omega)
   obtain ⟨s,hs,hz⟩:=open_str h2 (light_elem Tryz.underlying47 hl (List.mem_map.2 ⟨i,List.mem_range.2 hi,rfl⟩))
   exact ⟨s,by rw [h1,hs],hz⟩
  obtain ⟨f,hf⟩:=Go.Deep.choose_lt each
  have hlen:=light_len Tryz.underlying47 (of_decide_eq_true (by kernel_rfl)) hl
  refine ⟨(List.range len).map f,some a,cap,by simp,by simpa using hlen,fun s hs=>?_,fun h0=>?_⟩
  ·obtain ⟨i,hi,rfl⟩:=List.mem_map.1 hs
   exact (hf i (List.mem_range.1 hi)).2
  ·have hp0:=(hf 0 (by simpa using h0)).1
   rw [show a.add 0=a by unfold Addr.add;simp] at hp0
   refine ⟨a.block,a.off,by rw [←addr_plain hp0],fun i s hi=>?_⟩
   have hil:i<len:=by have:=(List.getElem?_eq_some_iff.1 hi).1;simpa using this
   have hfs:f i=s:=by simpa [hil] using hi
   have:=(hf i hil).1
   rw [addr_plain hp0,Go.WideShapes.add_plain,hfs] at this
   exact this
set_option maxRecDepth 100000 in
theorem open_tags {n:Nat} {c:Value} {y:DataW H × List MemPlace} (h:TrodW enc W n 48 [c] y) (hl:Light 48 y.1):∃l:List TagD,TagRow W c l:=by
 rcases Go.Deep.open_slice_pairs Tryz.underlying48 Tryz.underlying58 (by kernel_rfl) rfl rfl cellsStr cellsStr h with ⟨hcs,-⟩ | ⟨a,len,cap,m,k,V0,V1,D0,D1,P0,P1,hcs,-,hle,hm,hmm,hx,hel⟩
 ·simp at hcs
  subst hcs
  exact ⟨[],none,0,rfl,by simp,by simp,fun h=>by simp at h⟩
 ·simp at hcs
  subst hcs
  have hlm:len≤m:=by rw [hmm];split<;>omega
  have hx1:y.1=.slice ((List.range len).map fun i=>.agg [D0 i,D1 i]) ((List.range (m - len)).map fun j=>.agg [D0 (len+j),D1 (len+j)]):=by rw [hx]
  rw [hx1] at hl
  have each:∀i,i<len→∃t:TagD,W.cell? (a.add (i * 2))=some (.string t.key)∧W.cell? (a.add (i * 2+1))=some (.string t.val)∧t.key.size≤140737488355328∧t.val.size≤140737488355328:=by
   intro i hi
   obtain ⟨h1,h2,h3,h4⟩:=hel i (by omega)
   have he:=light_elem Tryz.underlying48 hl (List.mem_map.2 ⟨i,List.mem_range.2 hi,rfl⟩)
   obtain ⟨s,hs,hz⟩:=open_str h3 (light_part Tryz.underlying58 he (j:=0) rfl rfl)
   obtain ⟨s',hs',hz'⟩:=open_str h4 (light_part Tryz.underlying58 he (j:=1) rfl rfl)
   exact ⟨⟨s,s'⟩,by rw [h1,hs],by rw [h2,hs'],hz,hz'⟩
  obtain ⟨f,hf⟩:=Go.Deep.choose_lt (α:=TagD) each
  have hlen:=light_len Tryz.underlying48 (of_decide_eq_true (by kernel_rfl)) hl
  refine ⟨(List.range len).map f,some a,cap,by simp,by simpa using hlen,fun s hs=>?_,fun h0=>?_⟩
  ·obtain ⟨i,hi,rfl⟩:=List.mem_map.1 hs
   exact (hf i (List.mem_range.1 hi)).2.2
  ·have hp0:=(hf 0 (by simpa using h0)).1
   rw [show a.add (0 * 2)=a by unfold Addr.add;simp] at hp0
   refine ⟨a.block,a.off,by rw [←addr_plain hp0],fun i s hi=>?_⟩
   have hil:i<len:=by have:=(List.getElem?_eq_some_iff.1 hi).1;simpa using this
   have hfs:f i=s:=by simpa [hil] using hi
   have h2:=hf i hil
   rw [addr_plain hp0,Go.WideShapes.add_plain,Go.WideShapes.add_plain,hfs] at h2
   exact ⟨h2.1,h2.2.1⟩
theorem cellsObj:Tryz.prog.cellsOf 50=6:=by kernel_rfl
theorem cellsStrs:Tryz.prog.cellsOf 47=1:=by kernel_rfl
theorem cellsTags:Tryz.prog.cellsOf 48=1:=by kernel_rfl
set_option maxRecDepth 100000 in
theorem open_obj {n:Nat} {cs:List Value} {y:DataW H × List MemPlace} (h:TrodW enc W n 50 cs y) (hl:Light 50 y.1) :
  ∃(o:ObjD) (vr vt:Value),cs=[.string o.id,.int .i64 o.kind,.int .i64 o.x,.int .i64 o.y,vr,vt]∧StrRow W vr o.refs∧TagRow W vt o.tags∧o.id.size≤140737488355328:=by
 obtain ⟨xs,m,_,hy,hlc,hlen,hf⟩:=DataW.trod_struct Tryz.underlying50 h
 rw [cellsObj] at hlc
 match cs,hlc with
 |[c0,c1,c2,c3,c4,c5],_ =>
  match xs,hlen with
  |[y0,y1,y2,y3,y4],_ =>
   have g0:=hf 0 _ rfl
   have g1:=hf 1 _ rfl
   have g2:=hf 2 _ rfl
   have g3:=hf 3 _ rfl
   have g4:=hf 4 _ rfl
   simp [cellsPoint,cellsInt,cellsStr,cellsStrs,cellsTags] at g0 g1 g2 g3 g4
   obtain ⟨a0,a1,m',-,-,k0,k1⟩:=trod_struct2 Tryz.underlying26 g2
   simp [cellsInt] at k0 k1
   have hl':Light 50 (.agg [y0.1,y1.1,y2.1,y3.1,y4.1]):=by rw [hy] at hl;simpa using hl
   obtain ⟨s0,e0,z0⟩:=open_str g0 (light_part Tryz.underlying50 hl' (j:=0) rfl rfl)
   obtain ⟨n1,e1,-,-⟩:=DataW.trod_int Tryz.underlying3 g1
   obtain ⟨n2,e2,-,-⟩:=DataW.trod_int Tryz.underlying3 k0
   obtain ⟨n3,e3,-,-⟩:=DataW.trod_int Tryz.underlying3 k1
   obtain ⟨rs,hr⟩:=open_strs g3 (light_part Tryz.underlying50 hl' (j:=3) rfl rfl)
   obtain ⟨ts,ht⟩:=open_tags g4 (light_part Tryz.underlying50 hl' (j:=4) rfl rfl)
   simp at e1 e2 e3
   subst e0 e1 e2 e3
   exact ⟨⟨s0,n1,n2,n3,rs,ts⟩,c4,c5,rfl,hr,ht,z0⟩
instance:Inhabited CondD:=⟨.mk 0 ⟨#[]⟩ ⟨#[]⟩ 0 []⟩
theorem cellsCond:Tryz.prog.cellsOf 24=5:=by kernel_rfl
theorem cellsConds:Tryz.prog.cellsOf 22=1:=by kernel_rfl
theorem size_agg {H:Type} {ps:List (DataW H)} {d:DataW H} {j:Nat} (h:ps[j]?=some d):SizeOf.sizeOf d<SizeOf.sizeOf (DataW.agg ps:DataW H):=by
 have:=List.sizeOf_lt_of_mem (List.mem_of_getElem? h)
 simp only [DataW.agg.sizeOf_spec];omega
theorem size_slice {H:Type} {el sp:List (DataW H)} {d:DataW H} (h:d∈el):SizeOf.sizeOf d<SizeOf.sizeOf (DataW.slice el sp:DataW H):=by
 have:=List.sizeOf_lt_of_mem h
 simp only [DataW.slice.sizeOf_spec];omega
set_option maxRecDepth 100000 in
theorem open_cond:∀(z:Nat) {n:Nat} {cs:List Value} {y:DataW H × List MemPlace},SizeOf.sizeOf y.1<z→TrodW enc W n 24 cs y→Light 24 y.1→∃(c:CondD) (a:Option Addr) (cap:Nat),cs=condL c a cap∧CondIs W c a
 |0,_,_,_,hz,_,_=>by omega
 |z+1,n,cs,y,hz,h,hl=>by
  obtain ⟨xs,m,_,hy,hlc,hlen,hf⟩:=DataW.trod_struct Tryz.underlying24 h
  rw [cellsCond] at hlc
  match cs,hlc with
  |[c0,c1,c2,c3,c4],_ =>
   match xs,hlen with
   |[y0,y1,y2,y3,y4],_ =>
    have g0:=hf 0 _ rfl
    have g1:=hf 1 _ rfl
    have g2:=hf 2 _ rfl
    have g3:=hf 3 _ rfl
    have g4:=hf 4 _ rfl
    simp [cellsInt,cellsStr,cellsConds] at g0 g1 g2 g3 g4
    have hy1:y.1=.agg [y0.1,y1.1,y2.1,y3.1,y4.1]:=by rw [hy];simp
    have hl':Light 24 (.agg [y0.1,y1.1,y2.1,y3.1,y4.1]):=by rw [←hy1];exact hl
    have hs4:SizeOf.sizeOf y4.1<z:=by
     have:=size_agg (ps:=[y0.1,y1.1,y2.1,y3.1,y4.1]) (j:=4) (d:=y4.1) rfl
     rw [←hy1] at this;omega
    obtain ⟨n0,e0,-,-⟩:=DataW.trod_int Tryz.underlying3 g0
    obtain ⟨s1,e1,z1⟩:=open_str g1 (light_part Tryz.underlying24 hl' (j:=1) rfl rfl)
    obtain ⟨s2,e2,z2⟩:=open_str g2 (light_part Tryz.underlying24 hl' (j:=2) rfl rfl)
    obtain ⟨n3,e3,-,-⟩:=DataW.trod_int Tryz.underlying3 g3
    have hlk:=light_part Tryz.underlying24 hl' (j:=4) rfl rfl
    simp at e0 e3
    subst e0 e1 e2 e3
    rcases Go.Deep.open_slice Tryz.underlying22 g4 with ⟨hcs,-⟩ | ⟨a,len,cap,m,k,D,Pl,hcs,-,hle,hm,hmm,hx,hel⟩
    ·simp at hcs
     subst hcs
     exact ⟨.mk n0 s1 s2 n3 [],none,0,rfl,z1,z2,by simp,fun h=>by simp at h⟩
    ·simp at hcs
     subst hcs
     have hlm:len≤m:=by rw [hmm];split<;>omega
     have hx1:y4.1=.slice ((List.range len).map D) ((List.range (m - len)).map fun j=>D (len+j)):=by rw [hx]
     rw [hx1] at hlk hs4
     have each:∀i,i<len→∃(c:CondD × Option Addr × Nat),(∀j u,(condL c.1 c.2.1 c.2.2)[j]?=some u→W.cell? (a.add (i * 5+j))=some u)∧CondIs W c.1 c.2.1:=by
      intro i hi
      obtain ⟨cs',h1,h2⟩:=hel i (by omega)
      have hmem:D i∈(List.range len).map D:=List.mem_map.2 ⟨i,List.mem_range.2 hi,rfl⟩
      obtain ⟨c,a',cap',rfl,hci⟩:=open_cond z (by have:=size_slice (sp:=(List.range (m - len)).map fun j=>D (len+j)) hmem;show SizeOf.sizeOf (D i)<z;omega) h2 (light_elem Tryz.underlying22 hlk hmem)
      rw [cellsCond] at h1
      obtain ⟨-,-,hc⟩:=World.cells?_some h1
      refine ⟨⟨c,a',cap'⟩,fun j u hu=>?_,hci⟩
      have hj:j<5:=(List.getElem?_eq_some_iff.1 hu).1
      have:=hc j hj
      rw [Go.Deep.add_add] at this
      rw [this,hu]
     obtain ⟨f,hf⟩:=Go.Deep.choose_lt (α:=CondD × Option Addr × Nat) each
     have hlen:=light_len Tryz.underlying22 (of_decide_eq_true (by kernel_rfl)) hlk
     refine ⟨.mk n0 s1 s2 n3 ((List.range len).map fun i=>(f i).1),some a,cap,by simp [condL,CondD.op,CondD.key,CondD.val,CondD.n,CondD.kids],z1,z2,by simpa using hlen,fun h0=>?_⟩
     obtain ⟨hp,-⟩:=hf 0 (by simpa using h0)
     have hp0:=hp 0 _ rfl
     rw [show a.add (0 * 5+0)=a by unfold Addr.add;simp] at hp0
     refine ⟨a.block,a.off,by rw [←addr_plain hp0],KidsIs.of _ _ fun i c hi=>?_⟩
     have hil:i<len:=by have:=(List.getElem?_eq_some_iff.1 hi).1;simpa using this
     have hfs:(f i).1=c:=by simpa [hil] using hi
     obtain ⟨hc,hci⟩:=hf i hil
     rw [hfs] at hc hci
     have hcc:∀j u,(condL c (f i).2.1 (f i).2.2)[j]?=some u→W.cell? ⟨a.block,a.off+(i * 5+j),none⟩=some u:=fun j u hu=>by
      have:=hc j u hu
      rwa [addr_plain hp0,Go.WideShapes.add_plain] at this
     refine ⟨(f i).2.1,(f i).2.2,⟨hcc 0 _ rfl,?_,?_,?_,?_⟩,hci⟩
     ·simpa only [Nat.add_assoc] using hcc 1 _ rfl
     ·simpa only [Nat.add_assoc] using hcc 2 _ rfl
     ·simpa only [Nat.add_assoc] using hcc 3 _ rfl
     ·simpa only [Nat.add_assoc] using hcc 4 _ rfl
end
end Go.Proofs.YtdfenhjibnfdeaaGreatDoor

namespace Go.Proofs.YtdfenhjibnfdeaaGreatDoor
open Go.RowKit
def StableW (S:World→Prop):Prop:=∀w w',S w→Below w.heap.size w w'→S w'
abbrev ByW (w:World):World→Prop:=fun w'=>∃p:BelowBy w,w'=p.at'
section
variable (P:Program) (md:Region.Mode) (ops:Array Oper) (S0:World→Prop) (Q:Act→World→Prop)
def QuietB (o:Oper) (a:Act) (v:Value):Prop:=∀w,S0 w→o.quietAt P a (ByW w) w v
def LoudB (o:Oper) (a:Act) (K:Act→(World→Prop)→Prop) (S:World→Prop):Prop :=
 ∃(ι:Type) (val:ι→Value) (T:ι→World→Prop),(∀x,StableW (T x))∧(∀x w,T x w→S0 w) ∧
  (∀w,S w→o.wp P a w (fun a' w'=>∃x,a'=a.put o.dst (val x)∧T x w') (fun _ _ _=>False))∧∀x,K (a.put o.dst (val x)) (T x)
def opM (i:Nat) (K:Act→(World→Prop)→Prop) (a:Act) (S:World→Prop):Prop :=
 match ops[i]? with
 |none=>K a S
 |some o=>if Region.wanted o (yielded ops a.tmps) then (∃v,QuietB P S0 o a v∧K (a.put o.dst v) S)∨LoudB P S0 o a K S else K (a.put o.dst undef) S
def anyM:Nat→Array Bool→Act→(World→Prop)→Prop
 |0,listed,a,S=>Region.ready md ops listed=[]∧∀w,S w→Q a w
 |fuel+1,listed,a,S=>(Region.ready md ops listed=[]→∀w,S w→Q a w) ∧
  ∀i∈Region.ready md ops listed,opM P ops S0 i (anyM fuel (listed.setIfInBounds i true)) a S
def hdMix:List Oper→Act→Act→Prop
 |[],a,b=>a=b
 |o :: rest,a,b=>if Region.wanted o (yielded ops a.tmps) then ∃v,QuietB P S0 o a v∧hdMix rest (a.put o.dst v) b else hdMix rest (a.put o.dst undef) b
def tailM:List Oper→Act→(World→Prop)→Prop
 |[],a,S=>∀w,S w→Q a w
 |o :: rest,a,S=>if Region.wanted o (yielded ops a.tmps) then LoudB P S0 o a (tailM rest) S else tailM rest (a.put o.dst undef) S
end
section
variable {P:Program} {md:Region.Mode} {ops:Array Oper} {S0:World→Prop} {Q:Act→World→Prop}
theorem put_size (a:Act) (x:Option Tmp) (v:Value):(a.put x v).tmps.size=a.tmps.size:=by cases x<;>simp [Act.put]
theorem put_defs (a:Act) (x:Option Tmp) (v:Value):(a.put x v).defers=a.defers:=by cases x<;>rfl
theorem put_cancel {a:Act} {x y:Option Tmp} {v u u':Value} (h:∀d,x=some d→y≠some d) (e:(a.put x v).put y u=(a.put x v).put y u'):a.put y u=a.put y u':=by
 cases y with
 |none=>rfl
 |some d =>
  cases x with
  |none=>exact e
  |some c =>
   have hne:c≠d:=fun he=>h c rfl (by rw [he])
   have e1:=congrArg (fun b:Act=>b.tmps[d]?) e
   simp only [Act.put] at e1
   rcases Nat.lt_or_ge d a.tmps.size with hd | hd
   ·simp [hd] at e1
    rw [e1]
   ·simp only [Act.put]
    rw [Array.setIfInBounds_eq_of_size_le (by omega),Array.setIfInBounds_eq_of_size_le (by omega)]
theorem upon_mono {o:Oper} {a b:Act} {K K':Act→World→Prop} {Q':Exit→Act→World→Prop} {r:Result Next}
  (hK:∀u w,K (a.put o.dst u) w→K' (b.put o.dst u) w) (hdef:∀d w,¬K ({ a with defers:=d :: a.defers }.put o.dst undef) w)
  (h:o.upon P a K (fun _ _ _=>False) r):o.upon P b K' Q' r:=by
 cases r with
 |ok n w' =>
  cases n<;>simp only [Oper.upon] at h ⊢
  case value v=>exact hK _ _ h
  case skip=>exact hK _ _ h
  case defer d=>exact absurd h (hdef d w')
  case enter f args =>
   refine Calls.mono h ?_
   intro e w'' h2
   cases e with
   |returned v=>exact hK _ _ h2
   |panicked c=>exact h2.elim
   |outgrown =>
    obtain ⟨_,_,h3⟩:=(h2:LetsOut _)
    exact h3.elim
  case row row args =>
   exact Rows.mono h fun v w'' h2=>hK _ _ h2
 |halt x w' =>
  cases x<;>simp only [Oper.upon] at h
theorem QuietB.of_put {oi oj:Oper} {a:Act} {v u:Value} (hsj:∀cs b,oj.op≠.select cs b) (h1:∀d,oi.dst=some d→d ∉ oj.looksAt ops) (h:QuietB P S0 oj (a.put oi.dst v) u):QuietB P S0 oj a u:=by
 intro w hw
 have:=h w hw
 unfold Oper.quietAt at this ⊢
 rwa [execOp_put oj hsj a oi.dst v h1] at this
theorem QuietB.put {oi oj:Oper} {a:Act} {v u:Value} (hsi:∀cs b,oi.op≠.select cs b) (h3:∀d,oj.dst=some d→d ∉ oi.looksAt ops) (h:QuietB P S0 oi a v):QuietB P S0 oi (a.put oj.dst u) v:=by
 intro w hw
 have:=h w hw
 unfold Oper.quietAt at this ⊢
 rwa [execOp_put oi hsi a oj.dst u h3]
theorem LoudB.of_put {oi oj:Oper} {a:Act} {v:Value} {K:Act→(World→Prop)→Prop} {S:World→Prop} (hsj:∀cs b,oj.op≠.select cs b) (h1:∀d,oi.dst=some d→d ∉ oj.looksAt ops) (h2:∀d,oi.dst=some d→oj.dst≠some d)
  (h:LoudB P S0 oj (a.put oi.dst v) K S):LoudB P S0 oj a (fun a' S'=>StableW S'∧(∀w,S' w→S0 w)∧K (a'.put oi.dst v) S') S:=by
 obtain ⟨ι,val,T,hst,hs0,hw,hk⟩:=h
 refine ⟨ι,val,T,hst,hs0,fun w hS=>?_,fun x=>⟨hst x,hs0 x,by rw [←Act.put_comm a v (val x) h2];exact hk x⟩⟩
 have:=hw w hS
 unfold Oper.wp at this ⊢
 rw [execOp_put oj hsj a oi.dst v h1] at this
 refine upon_mono ?_ ?_ this
 ·rintro u w' ⟨x,hx,hT⟩
  exact ⟨x,put_cancel h2 hx,hT⟩
 ·rintro d w' ⟨x,hx,-⟩
  have:=congrArg Act.defers hx
  simp only [put_defs] at this
  have:=congrArg List.length this
  simp at this
theorem LoudB.mono {o:Oper} {a:Act} {K K':Act→(World→Prop)→Prop} {S:World→Prop} (hK:∀a' S',StableW S'→(∀w,S' w→S0 w)→K a' S'→K' a' S') (h:LoudB P S0 o a K S):LoudB P S0 o a K' S:=by
 obtain ⟨ι,val,T,hst,hs0,hw,hk⟩:=h
 exact ⟨ι,val,T,hst,hs0,hw,fun x=>hK _ _ (hst x) (hs0 x) (hk x)⟩
theorem anyM_sound {Q':Exit→Act→World→Prop} (hQ:∀a w,Q a w→Q' .normal a w):∀(fuel:Nat) (listed:Array Bool) (a:Act) (S:World→Prop),StableW S→(∀w,S w→S0 w) →
  anyM P md ops S0 Q fuel listed a S→∀w,S w→wpAny P md ops Q' fuel listed a w
 |0,_,_,_,_,_,h,w,hw=>⟨h.1,hQ _ _ (h.2 w hw)⟩
 |fuel+1,listed,a,S,hst,hs0,h,w,hw=>by
  refine ⟨fun h0=>hQ _ _ (h.1 h0 w hw),fun i hi=>?_⟩
  have hi':=h.2 i hi
  unfold opM at hi'
  unfold wpOp
  cases ho:ops[i]? with
  |none=>simp only [ho] at hi' ⊢;exact anyM_sound hQ fuel _ _ S hst hs0 hi' w hw
  |some o =>
   simp only [ho] at hi' ⊢
   by_cases hwd:Region.wanted o (yielded ops a.tmps)=true
   ·simp only [hwd,if_true] at hi' ⊢
    refine Or.inl ?_
    rcases hi' with ⟨v,hq,hk⟩ | hl
    ·have h1:=hq w (hs0 w hw)
     unfold Oper.quietAt at h1
     unfold Oper.wp
     generalize (execOp a.eval o).run P w=r at h1 ⊢
     cases r with
     |ok n w' =>
      cases n<;>simp only [Oper.quietUpon] at h1<;>simp only [Oper.upon]
      case value u =>
       obtain ⟨e1,e2⟩:=h1
       rw [e1,e2]
       exact anyM_sound hQ fuel _ _ S hst hs0 hk w hw
      case skip =>
       obtain ⟨e1,e2⟩:=h1
       rw [e1,←e2]
       exact anyM_sound hQ fuel _ _ S hst hs0 hk w hw
      case enter f args =>
       obtain ⟨e1,hc⟩:=h1
       rw [e1]
       refine hc.mono ?_
       rintro e w'' ⟨rfl,p,rfl⟩
       exact anyM_sound hQ fuel _ _ S hst hs0 hk _ (hst _ _ hw p.below)
     |halt x w'=>simp only [Oper.quietUpon] at h1
    ·obtain ⟨ι,val,T,hst',hs0',hw',hk⟩:=hl
     have h1:=hw' w hw
     unfold Oper.wp at h1 ⊢
     refine upon_mono ?_ ?_ h1
     ·rintro u w'' ⟨x,hx,hT⟩
      rw [hx]
      exact anyM_sound hQ fuel _ _ (T x) (hst' x) (hs0' x) (hk x) w'' hT
     ·rintro d w'' ⟨x,hx,-⟩
      have:=congrArg Act.defers hx
      simp only [put_defs] at this
      have:=congrArg List.length this
      simp at this
   ·simp only [hwd] at hi' ⊢
    exact anyM_sound hQ fuel _ _ S hst hs0 hi' w hw
def YieldsM (P:Program) (ops:Array Oper) (S0:World→Prop) (o:Oper) (v:Value) (a:Act):Prop :=
 (Region.wanted o (yielded ops a.tmps)=true∧QuietB P S0 o a v)∨(Region.wanted o (yielded ops a.tmps)=false∧v=undef)
theorem YieldsM.opM {i:Nat} {o:Oper} {v:Value} {a:Act} {S:World→Prop} (hi:ops[i]?=some o) (hy:YieldsM P ops S0 o v a) {K:Act→(World→Prop)→Prop} (h:K (a.put o.dst v) S):opM P ops S0 i K a S:=by
 unfold Proofs.YtdfenhjibnfdeaaGreatDoor.opM
 simp only [hi]
 rcases hy with ⟨hw,hv⟩ | ⟨hw,rfl⟩
 ·simp only [hw,if_true];exact Or.inl ⟨v,hv,h⟩
 ·simp only [hw,Bool.false_eq_true,if_false];exact h
theorem anyM_first {i:Nat} {oi:Oper} {v:Value} (hi:ops[i]?=some oi) (hsel:∀(j:Nat) (o:Oper) cs b,ops[j]?=some o→o.op≠.select cs b) :
  ∀(fuel:Nat) (listed:Array Bool) (a:Act) (S:World→Prop),StableW S→(∀w,S w→S0 w) →
   (∀j oj,ops[j]?=some oj→j≠i→listed.getD j true=false→(∀e∈oj.after,Region.binds md e=true→e.on≠i)→oi.apart ops oj=true) →
   i∈Region.ready md ops listed→YieldsM P ops S0 oi v a →
   anyM P md ops S0 Q fuel (listed.setIfInBounds i true) (a.put oi.dst v) S→anyM P md ops S0 Q (fuel+1) listed a S:=by
 intro fuel
 induction fuel with
 |zero =>
  intro listed a S _ _ _ hr hy H
  refine ⟨fun h=>(by rw [h] at hr;cases hr),fun j hj=>?_⟩
  by_cases hji:j=i
  ·subst hji;exact hy.opM hi H
  ·have:=ready_mono hj hji
   rw [H.1] at this
   cases this
 |succ fuel ih =>
  intro listed a S hst hs0 hfree hr hy H
  refine ⟨fun h=>(by rw [h] at hr;cases hr),fun j hj=>?_⟩
  by_cases hji:j=i
  ·subst hji;exact hy.opM hi H
  ·have h1:=H.2 j (ready_mono hj hji)
   obtain ⟨hjun,oj,hoj,hall⟩:=mem_ready.1 hj
   have hnot:∀e∈oj.after,Region.binds md e=true→e.on≠i:=fun e he hb heq=>by
    have h1:=hall e he hb
    have h0:=(mem_ready.1 hr).1
    rw [heq] at h1
    rcases Nat.lt_or_ge i listed.size with h' | h'
    ·simp [h'] at h0 h1;rw [h0] at h1;cases h1
    ·simp [Array.getElem?_eq_none h'] at h1
   obtain ⟨a1,a2,a3⟩:=Oper.apart_spec (hfree j oj hoj hji hjun hnot)
   have hsi:=fun cs b=>hsel i oi cs b hi
   have hsj:=fun cs b=>hsel j oj cs b hoj
   have keep:∀u,YieldsM P ops S0 oi v (a.put oj.dst u):=fun u=>by
    rcases hy with ⟨hw,hv⟩ | ⟨hw,e⟩
    ·exact Or.inl ⟨by rw [wanted_put oi a oj.dst u a3];exact hw,hv.put hsi a3⟩
    ·exact Or.inr ⟨by rw [wanted_put oi a oj.dst u a3];exact hw,e⟩
   have hfree':∀k ok,ops[k]?=some ok→k≠i→(listed.setIfInBounds j true).getD k true=false →
     (∀e∈ok.after,Region.binds md e=true→e.on≠i)→oi.apart ops ok=true:=fun k ok hk hki hun hno=>by
    refine hfree k ok hk hki ?_ hno
    by_cases hjk:j=k
    ·subst hjk;exact hjun
    ·rw [getD_set_ne true hjk] at hun;exact hun
   have next:∀(b:Act) (S':World→Prop),StableW S'→(∀w,S' w→S0 w)→YieldsM P ops S0 oi v b →
     anyM P md ops S0 Q fuel ((listed.setIfInBounds i true).setIfInBounds j true) (b.put oi.dst v) S'→anyM P md ops S0 Q (fuel+1) (listed.setIfInBounds j true) b S':=fun b S' h1 h2 h3 h4=>by
    refine ih (listed.setIfInBounds j true) b S' h1 h2 hfree' (ready_mono hr (Ne.symm hji)) h3 ?_
    rw [Array.setIfInBounds_comm _ _ hji]
    exact h4
   unfold opM at h1 ⊢
   simp only [hoj] at h1 ⊢
   rw [wanted_put oj a oi.dst v a1] at h1
   by_cases hw:Region.wanted oj (yielded ops a.tmps)=true
   ·simp only [hw,if_true] at h1 ⊢
    rcases h1 with ⟨u,hu,hk⟩ | hl
    ·refine Or.inl ⟨u,hu.of_put hsj a1,next _ S hst hs0 (keep u) ?_⟩
     rw [←Act.put_comm a v u a2];exact hk
    ·refine Or.inr ?_
     obtain ⟨ι,val,T,hst',hs0',hw',hk⟩:=hl.of_put hsj a1 a2
     exact ⟨ι,val,T,hst',hs0',hw',fun x=>next _ _ (hst' x) (hs0' x) (keep (val x)) (hk x).2.2⟩
   ·simp only [hw] at h1 ⊢
    refine next _ S hst hs0 (keep undef) ?_
    rw [←Act.put_comm a v undef a2];exact h1
def DoneTo (ops:Array Oper) (k:Nat) (listed:Array Bool):Prop:=listed.size=ops.size∧∀j,j<ops.size→∀d,listed.getD j d=decide (j<k)
theorem DoneTo.start:DoneTo ops 0 (Array.replicate ops.size false):=⟨by simp,fun j hj d=>by simp [hj]⟩
theorem DoneTo.step {k:Nat} {listed:Array Bool} (h:DoneTo ops k listed):DoneTo ops (k+1) (listed.setIfInBounds k true):=by
 refine ⟨by simp [h.1],fun j hj d=>?_⟩
 by_cases e:k=j
 ·subst e
  have:k<listed.size:=by rw [h.1];exact hj
  simp [this]
 ·rw [getD_set_ne d e,h.2 j hj d,decide_eq_decide];omega
theorem head_lex (hs:Region.noSelect ops=true) {b:Act} {S:World→Prop} (hst:StableW S) (hs0:∀w,S w→S0 w) (f:Nat) :
  ∀(l:List Oper) (k:Nat) (listed:Array Bool) (a:Act),DoneTo ops k listed→(∀j o,l[j]?=some o→ops[k+j]?=some o)→Region.lexFrom md ops (l.length+f) k listed=true →
   hdMix P ops S0 l a b→(∀listed',DoneTo ops (k+l.length) listed'→Region.lexFrom md ops f (k+l.length) listed'=true→anyM P md ops S0 Q f listed' b S)→anyM P md ops S0 Q (l.length+f) listed a S
 |[],k,listed,a,hd,_,hB,h,hK=>by
  have e:a=b:=h
  subst e
  simp only [List.length_nil,Nat.zero_add] at hB ⊢
  exact hK listed hd hB
 |o :: l,k,listed,a,hd,hl,hB,h,hK=>by
  have h0:ops[k]?=some o:=by simpa using hl 0 o rfl
  have e1:(o :: l).length+f=(l.length+f)+1:=by simp;omega
  rw [e1] at hB ⊢
  simp only [Region.lexFrom,Bool.and_eq_true] at hB
  obtain ⟨⟨hr,hf⟩,hB'⟩:=hB
  have step:∀v,hdMix P ops S0 l (a.put o.dst v) b→anyM P md ops S0 Q (l.length+f) (listed.setIfInBounds k true) (a.put o.dst v) S:=fun v hv =>
   head_lex hs hst hs0 f l (k+1) _ _ hd.step (fun j o' hj=>by have:=hl (j+1) o' (by simpa using hj);rw [←this];congr 1;omega) hB' hv
    (fun listed' hd' hB2=>by
     have e:k+1+l.length=k+(o :: l).length:=by simp;omega
     rw [e] at hd' hB2
     exact hK listed' hd' hB2)
  unfold hdMix at h
  by_cases hw:Region.wanted o (yielded ops a.tmps)=true
  ·simp only [hw,if_true] at h
   obtain ⟨v,hv,hh⟩:=h
   exact anyM_first h0 (Region.noSelect_spec hs) _ listed a S hst hs0 (Region.free_spec h0 hf) (by simpa using hr) (Or.inl ⟨hw,hv⟩) (step v hh)
  ·simp only [hw] at h
   exact anyM_first h0 (Region.noSelect_spec hs) _ listed a S hst hs0 (Region.free_spec h0 hf) (by simpa using hr) (Or.inr ⟨by simpa using hw,rfl⟩) (step undef h)
theorem tail_lex {n:Nat} (hc:Region.chainB md ops n=true) :
  ∀(l:List Oper) (k:Nat) (listed:Array Bool) (a:Act) (S:World→Prop),n≤k→DoneTo ops k listed→(∀j,l[j]?=ops[k+j]?)→Region.lexFrom md ops l.length k listed=true →
   tailM P ops S0 Q l a S→anyM P md ops S0 Q l.length listed a S
 |[],k,listed,a,S,_,_,_,hB,h=>⟨by simpa [Region.lexFrom] using hB,h⟩
 |o :: l,k,listed,a,S,hn,hd,hl,hB,h=>by
  have h0:ops[k]?=some o:=by simpa using (hl 0).symm
  have hkz:k<ops.size:=(Array.getElem?_eq_some_iff.1 h0).1
  simp only [List.length_cons,Region.lexFrom,Bool.and_eq_true] at hB
  obtain ⟨⟨hr,hf⟩,hB'⟩:=hB
  have hr':k∈Region.ready md ops listed:=by simpa using hr
  refine ⟨fun e=>(by rw [e] at hr';cases hr'),fun i hi=>?_⟩
  have hik:i=k:=by
   obtain ⟨hun,oi,hoi,hall⟩:=mem_ready.1 hi
   have hiz:i<ops.size:=(Array.getElem?_eq_some_iff.1 hoi).1
   have h1:=hd.2 i hiz true
   rw [hun] at h1
   have h2:¬i<k:=of_decide_eq_false h1.symm
   rcases Nat.lt_or_eq_of_le (Nat.le_of_not_lt h2) with h3 | h3
   ·have h4:=List.all_eq_true.1 hc i (List.mem_range.2 hiz)
    simp only [Bool.or_eq_true,decide_eq_true_eq] at h4
    rcases h4 with h4 | h4
    ·omega
    ·obtain ⟨o',ho',e,he,hb,hon⟩:=Region.waitsFor_spec h4
     have:o'=oi:=Option.some.inj (ho'.symm.trans hoi)
     subst this
     have h5:=hall e he hb
     rw [hon,hd.2 (i - 1) (by omega) false] at h5
     have:=of_decide_eq_true h5
     omega
   ·exact h3.symm
  subst hik
  have step:∀b S',tailM P ops S0 Q l b S'→anyM P md ops S0 Q l.length (listed.setIfInBounds i true) b S':=fun b S' hb =>
   tail_lex hc l (i+1) _ b S' (by omega) hd.step (fun j=>by have:=hl (j+1);simpa [Nat.add_assoc,Nat.add_comm 1 j] using this) hB' hb
  unfold opM
  unfold tailM at h
  simp only [h0]
  by_cases hw:Region.wanted o (yielded ops a.tmps)=true
  ·simp only [hw,if_true] at h ⊢
   exact Or.inr (h.mono fun a' S' _ _ hk=>step a' S' hk)
  ·simp only [hw] at h ⊢
   exact step _ S h
def dstsB:List Oper→Nat→Bool
 |[],_=>true
 |o :: l,n=>(match o.dst with
  |some d=>decide (d<n) && l.all fun o'=>o'.dst != some d
  |none=>false) && dstsB l n
theorem quiet_keeps {C:World→Prop} {b:Act} {d:Tmp}:∀(l:List Oper) (a:Act),(l.all fun o'=>o'.dst != some d)=true→wpQuiet P ops C (fun a'=>a'=b) l a→b.tmps[d]?=a.tmps[d]?
 |[],a,_,h=>by have e:a=b:=h;rw [e]
 |o :: l,a,hl,h=>by
  simp only [List.all_cons,Bool.and_eq_true] at hl
  have hne:o.dst≠some d:=by simpa using hl.1
  have key:∀v,wpQuiet P ops C (fun a'=>a'=b) l (a.put o.dst v)→b.tmps[d]?=a.tmps[d]?:=fun v hv=>by
   rw [quiet_keeps l _ hl.2 hv]
   cases ho:o.dst with
   |none=>rfl
   |some c =>
    have:c≠d:=fun e=>hne (by rw [ho,e])
    simp [Act.put,Array.getElem?_setIfInBounds_ne this]
  unfold wpQuiet at h
  by_cases hw:Region.wanted o (yielded ops a.tmps)=true
  ·simp only [hw,if_true] at h
   obtain ⟨v,_,hv⟩:=h
   exact key v hv
  ·simp only [hw] at h
   exact key undef h
theorem head_of_quiet {b:Act}:∀(l:List Oper) (a:Act),dstsB l a.tmps.size=true→(∃w,S0 w)→(∀w,S0 w→wpQuiet P ops (ByW w) (fun a'=>a'=b) l a)→hdMix P ops S0 l a b
 |[],a,_,⟨w,hw⟩,h=>h w hw
 |o :: l,a,hd,⟨w0,hw0⟩,h=>by
  unfold dstsB at hd
  rw [Bool.and_eq_true] at hd
  cases ho:o.dst with
  |none=>rw [ho] at hd;simp at hd
  |some d =>
   rw [ho] at hd
   simp only [Bool.and_eq_true,decide_eq_true_eq] at hd
   obtain ⟨⟨hdz,hdl⟩,hd2⟩:=hd
   unfold hdMix
   by_cases hw:Region.wanted o (yielded ops a.tmps)=true
   ·simp only [hw,if_true]
    have hall:∀w,S0 w→∃v,(∀w',ByW w w'→o.quietAt P a (ByW w) w' v)∧wpQuiet P ops (ByW w) (fun a'=>a'=b) l (a.put o.dst v):=fun w hS=>by
     have:=h w hS
     unfold wpQuiet at this
     simp only [hw,if_true] at this
     exact this
    obtain ⟨v0,h1,h2⟩:=hall w0 hw0
    have uni:∀w v,wpQuiet P ops (ByW w) (fun a'=>a'=b) l (a.put o.dst v)→b.tmps[d]?=some v:=fun w v hv=>by
     rw [quiet_keeps l _ hdl hv,ho]
     simp [Act.put,hdz]
    refine ⟨v0,fun w hS=>?_,?_⟩
    ·obtain ⟨v,h3,h4⟩:=hall w hS
     have e:v=v0:=Option.some.inj ((uni w v h4).symm.trans (uni w0 v0 h2))
     rw [←e]
     exact h3 w ⟨⟨w,Below.refl _ _⟩,rfl⟩
    ·refine head_of_quiet l _ (by rw [put_size];exact hd2) ⟨w0,hw0⟩ fun w hS=>?_
     obtain ⟨v,h3,h4⟩:=hall w hS
     have e:v=v0:=Option.some.inj ((uni w v h4).symm.trans (uni w0 v0 h2))
     rw [←e]
     exact h4
   ·simp only [hw]
    refine head_of_quiet l _ (by rw [put_size];exact hd2) ⟨w0,hw0⟩ fun w hS=>?_
    have:=h w hS
    unfold wpQuiet at this
    simp only [hw] at this
    exact this
theorem wp_region_mix {id:Nat} {Q':Exit→Act→World→Prop} {a:Act} {w:World} {l:List Oper} (n:Nat) (S0 S1:World→Prop) (hm:P.follows .mixedOrders=true)
  (hB:Region.lexB .any l.toArray=true) (hc:Region.chainB .any l.toArray n=true) (hd:dstsB (l.take n) a.tmps.size=true) (hst:StableW S1) (h10:∀W,S1 W→S0 W) (h1:S1 w.drew)
  (hh:∃b,(∀W,S0 W→wpQuiet P l.toArray (ByW W) (fun a'=>a'=b) (l.take n) a)∧tailM P l.toArray S0 (fun a' w'=>Q' .normal a' w') (l.drop n) b S1) :
  (Code.region id l.toArray true).wp P Q' a w:=by
 obtain ⟨b,hq,ht⟩:=hh
 simp only [Region.lexB,Bool.and_eq_true] at hB
 refine wp_region_any hm (anyM_sound (Q:=fun a' w'=>Q' .normal a' w') (S0:=S0) (fun _ _ h=>h) _ _ _ S1 hst h10 ?_ _ h1)
 have hlen:l.toArray.size=(l.take n).length+(l.drop n).length:=by
  rw [List.size_toArray,←List.length_append,List.take_append_drop]
 rw [hlen]
 refine head_lex hB.1 hst h10 (l.drop n).length (l.take n) 0 _ a (by rw [←hlen];exact DoneTo.start) (fun j o hj=>?_) (by rw [←hlen];exact hB.2) (head_of_quiet _ _ hd ⟨_,h10 _ h1⟩ hq) (fun listed' hd' hB'=>?_)
 ·rw [List.getElem?_take] at hj
  rw [Nat.zero_add,List.getElem?_toArray]
  split at hj
  ·exact hj
  ·cases hj
 ·rcases Nat.lt_or_ge n l.length with hn | hn
  ·have e:(l.take n).length=n:=by rw [List.length_take];omega
   rw [e,Nat.zero_add] at hd' hB'
   exact tail_lex hc (l.drop n) n listed' b S1 (Nat.le_refl _) hd' (fun j=>by rw [List.getElem?_drop,List.getElem?_toArray]) hB' ht
  ·have e:l.drop n=[]:=List.drop_of_length_le hn
   rw [e] at ht hB' ⊢
   exact ⟨by simpa [Region.lexFrom] using hB',ht⟩
theorem tailM_step {o:Oper} {rest:List Oper} {a:Act} {S:World→Prop} {ι:Type} (val:ι→Value) (T:ι→World→Prop) (hw:Region.wanted o (yielded ops a.tmps)=true) (hst:∀x,StableW (T x)) (hs0:∀x w,T x w→S0 w)
  (hrun:∀w,S w→∀K:Act→World→Prop,(∀x w',T x w'→K (a.put o.dst (val x)) w')→o.wp P a w K (fun _ _ _=>False)) (hk:∀x,tailM P ops S0 Q rest (a.put o.dst (val x)) (T x)):tailM P ops S0 Q (o :: rest) a S:=by
 unfold tailM
 rw [if_pos hw]
 exact ⟨ι,val,T,hst,hs0,fun w hS=>hrun w hS _ fun x w' hT=>⟨x,rfl,hT⟩,hk⟩
theorem tailM_pure {o:Oper} {rest:List Oper} {a:Act} {S:World→Prop} (v:Value) (hw:Region.wanted o (yielded ops a.tmps)=true) (hst:StableW S) (hs0:∀w,S w→S0 w)
  (hrun:∀w,S w→∀K:Act→World→Prop,K (a.put o.dst v) w→o.wp P a w K (fun _ _ _=>False)) (hk:tailM P ops S0 Q rest (a.put o.dst v) S):tailM P ops S0 Q (o :: rest) a S :=
 tailM_step (ι:=Unit) (fun _=>v) (fun _=>S) hw (fun _=>hst) (fun _=>hs0) (fun w hS K hK=>hrun w hS K (hK () w hS)) fun _=>hk
theorem tailM_nil {a:Act} {S:World→Prop} (h:∀w,S w→Q a w):tailM P ops S0 Q [] a S:=h
end
theorem StableW.below (B:Nat) (w:World) (hB:B≤w.heap.size):StableW fun W=>Below B w W:=fun _ _ h h'=>h.trans (h'.mono (Nat.le_trans hB h.size))
theorem StableW.and {S T:World→Prop} (h:StableW S) (k:StableW T):StableW fun W=>S W∧T W:=fun _ _ h1 h2=>⟨h _ _ h1.1 h2,k _ _ h1.2 h2⟩
theorem StableW.row (b:Nat) (o:Obj):StableW fun W=>W.heap[b]?=some o:=fun _ _ h h2=>row_later h2 h
theorem StableW.const (p:Prop):StableW fun _=>p:=fun _ _ h _=>h
theorem StableW.owns (B:Nat) (e:TypeId) (size:Nat) (v:Value) (n:Nat) (xs:List Value):StableW fun W=>W.ownsRow B e size v n xs:=fun _ _ h h2=>own_laterL h h2
end Go.Proofs.YtdfenhjibnfdeaaGreatDoor

namespace Go.Proofs.YtdfenhjibnfdeaaGreatDoor
open Go.RowKit
section
variable {P:Program} {md:Region.Mode} {ops:Array Oper} {S0:World→Prop} {Q:Act→World→Prop}
theorem LoudB.mk' {o:Oper} {a:Act} {S:World→Prop} {K':Act→(World→Prop)→Prop} {ι:Type} (val:ι→Value) (T:ι→World→Prop) (hst:∀x,StableW (T x)) (hs0:∀x w,T x w→S0 w)
  (hrun:∀w,S w→∀K:Act→World→Prop,(∀x w',T x w'→K (a.put o.dst (val x)) w')→o.wp P a w K (fun _ _ _=>False)) (hk:∀x,K' (a.put o.dst (val x)) (T x)):LoudB P S0 o a K' S :=
 ⟨ι,val,T,hst,hs0,fun w hS=>hrun w hS _ fun x _ hT=>⟨x,rfl,hT⟩,hk⟩
end
end Go.Proofs.YtdfenhjibnfdeaaGreatDoor
