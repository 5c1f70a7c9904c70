/- How a query among the arguments is opened. -/
import Derived.Test.YtdfenhjibnfdeaaGreatDoorQtC
import Derived.Test.YtdfenhjibnfdeaaGreatDoorQtJ
namespace Go.Proofs.YtdfenhjibnfdeaaGreatDoor
open Go.RowKit
open Go.ChangeShapes Go.WideShapes Go.ChangeAt Go.RowKit Go.Shelf Go.Joins
open Go.ChangeMaps (open_string shut_string)
open Go.RowKit Go.Shelf
section
variable {H : Type} {enc : TypeId × Value → H} {W : World}
theorem cellsPoint:Tryz.prog.cellsOf 26=2:=by kernel_rfl
theorem cellsInt:Tryz.prog.cellsOf 3=1:=by kernel_rfl
theorem cellsStr:Tryz.prog.cellsOf 9=1:=by kernel_rfl
theorem addr_plain {W:World} {a:Addr} {v:Value} (h:W.cell? a=some v):a=⟨a.block,a.off,none⟩:=by
 obtain ⟨b,o,sp⟩:=a
 cases sp with
 |none=>rfl
 |some x =>
  unfold World.cell? at h
  simp at h
  split at h<;>simp at h
theorem mem_weightsAll {H:Type} {P:Program} {e:TypeId}:∀{l:List (DataW H)} {d:DataW H},d∈l→∀n∈d.weights P e,n∈DataW.weightsAll P e l
 |x :: l,d,hd,n,hn=>by
  simp only [DataW.weightsAll,List.mem_append]
  rcases List.mem_cons.1 hd with rfl | hd
  ·exact Or.inl hn
  ·exact Or.inr (mem_weightsAll hd n hn)
theorem light_elem {H:Type} {t e:TypeId} {el sp:List (DataW H)} (hu:Tryz.prog.underlying t=some (.slice e)) (h:Light t (.slice el sp)) {d:DataW H} (hd:d∈el):Light e d:=by
 intro n hn
 refine h n ?_
 simp only [DataW.weights,hu,List.mem_cons,List.mem_append]
 exact Or.inr (Or.inl (mem_weightsAll hd n hn))
theorem light_len {H:Type} {t e:TypeId} {el sp:List (DataW H)} (hu:Tryz.prog.underlying t=some (.slice e)) (hb:1≤Tryz.prog.bytesOf e) (h:Light t (.slice el sp)):el.length≤140737488355328:=by
 have:=h ((el.length+sp.length) * Tryz.prog.bytesOf e) (by simp [DataW.weights,hu])
 have h2:el.length * 1≤(el.length+sp.length) * Tryz.prog.bytesOf e:=Nat.mul_le_mul (by omega) hb
 have h3:reachBytes<2 ^ 47:=reachBytes_lt
 omega
theorem light_part {H:Type} {t:TypeId} {fs:Array Field} {ps:List (DataW H)} (hu:Tryz.prog.underlying t=some (.struct fs)) (h:Light t (.agg ps)) {j:Nat} {e:TypeId} {d:DataW H} (he:(fs.toList.map (·.type))[j]?=some e) (hd:ps[j]?=some d):Light e d:=by
 intro n hn
 refine h n ?_
 simp only [DataW.weights,hu]
 exact DataW.weights_mem_each he hd n hn
theorem light_str {H:Type} {t:TypeId} {bs:List UInt8} (h:Light (H:=H) t (.lit (.string bs))):bs.length≤140737488355328:=by
 have:=h bs.length (by simp [DataW.weights])
 have h3:reachBytes<2 ^ 47:=reachBytes_lt
 omega
abbrev TrodW (enc:TypeId × Value→H) (W:World) (n:Nat) (t:TypeId) (cs:List Value) (y:DataW H × List MemPlace):Prop:=DataW.trod enc Tryz.prog W 0 (fun _=>true) true n t cs=some y
theorem open_str {n:Nat} {c:Value} {y:DataW H × List MemPlace} (h:TrodW enc W n 9 [c] y) (hl:Light 9 y.1):∃s:ByteArray,c=.string s∧s.size≤140737488355328:=by
 obtain ⟨s,e,hx,-⟩:=DataW.trod_string Tryz.underlying9 h
 simp at e
 rw [hx] at hl
 exact ⟨s,e,light_str hl⟩
theorem cellsCond:Tryz.prog.cellsOf 24=5:=by kernel_rfl
theorem cellsConds:Tryz.prog.cellsOf 22=1:=by kernel_rfl
theorem size_agg {H:Type} {ps:List (DataW H)} {d:DataW H} {j:Nat} (h:ps[j]?=some d):SizeOf.sizeOf d<SizeOf.sizeOf (DataW.agg ps:DataW H):=by
 have:=List.sizeOf_lt_of_mem (List.mem_of_getElem? h)
 simp only [DataW.agg.sizeOf_spec];omega
theorem size_slice {H:Type} {el sp:List (DataW H)} {d:DataW H} (h:d∈el):SizeOf.sizeOf d<SizeOf.sizeOf (DataW.slice el sp:DataW H):=by
 have:=List.sizeOf_lt_of_mem h
 simp only [DataW.slice.sizeOf_spec];omega
set_option maxRecDepth 100000 in
theorem open_cond:∀(z:Nat) {n:Nat} {cs:List Value} {y:DataW H × List MemPlace},SizeOf.sizeOf y.1<z→TrodW enc W n 24 cs y→Light 24 y.1→∃(c:CondD) (a:Option Addr) (cap:Nat),cs=condL c a cap∧CondIs W c a
 |0,_,_,_,hz,_,_=>by omega
 |z+1,n,cs,y,hz,h,hl=>by
  obtain ⟨xs,m,_,hy,hlc,hlen,hf⟩:=DataW.trod_struct Tryz.underlying24 h
  rw [cellsCond] at hlc
  match cs,hlc with
  |[c0,c1,c2,c3,c4],_ =>
   match xs,hlen with
   |[y0,y1,y2,y3,y4],_ =>
    have g0:=hf 0 _ rfl
    have g1:=hf 1 _ rfl
    have g2:=hf 2 _ rfl
    have g3:=hf 3 _ rfl
    have g4:=hf 4 _ rfl
    simp [cellsInt,cellsStr,cellsConds] at g0 g1 g2 g3 g4
    have hy1:y.1=.agg [y0.1,y1.1,y2.1,y3.1,y4.1]:=by rw [hy];simp
    have hl':Light 24 (.agg [y0.1,y1.1,y2.1,y3.1,y4.1]):=by rw [←hy1];exact hl
    have hs4:SizeOf.sizeOf y4.1<z:=by
     have:=size_agg (ps:=[y0.1,y1.1,y2.1,y3.1,y4.1]) (j:=4) (d:=y4.1) rfl
     rw [←hy1] at this;omega
    obtain ⟨n0,e0,-,-⟩:=DataW.trod_int Tryz.underlying3 g0
    obtain ⟨s1,e1,z1⟩:=open_str g1 (light_part Tryz.underlying24 hl' (j:=1) rfl rfl)
    obtain ⟨s2,e2,z2⟩:=open_str g2 (light_part Tryz.underlying24 hl' (j:=2) rfl rfl)
    obtain ⟨n3,e3,-,-⟩:=DataW.trod_int Tryz.underlying3 g3
    have hlk:=light_part Tryz.underlying24 hl' (j:=4) rfl rfl
    simp at e0 e3
    subst e0 e1 e2 e3
    rcases Go.Deep.open_slice Tryz.underlying22 g4 with ⟨hcs,-⟩ | ⟨a,len,cap,m,k,D,Pl,hcs,-,hle,hm,hmm,hx,hel⟩
    ·simp at hcs
     subst hcs
     exact ⟨.mk n0 s1 s2 n3 [],none,0,rfl,z1,z2,by simp,fun h=>by simp at h⟩
    ·simp at hcs
     subst hcs
     have hlm:len≤m:=by rw [hmm];split<;>omega
     have hx1:y4.1=.slice ((List.range len).map D) ((List.range (m - len)).map fun j=>D (len+j)):=by rw [hx]
     rw [hx1] at hlk hs4
     have each:∀i,i<len→∃(c:CondD × Option Addr × Nat),(∀j u,(condL c.1 c.2.1 c.2.2)[j]?=some u→W.cell? (a.add (i * 5+j))=some u)∧CondIs W c.1 c.2.1:=by
      intro i hi
      obtain ⟨cs',h1,h2⟩:=hel i (by omega)
      have hmem:D i∈(List.range len).map D:=List.mem_map.2 ⟨i,List.mem_range.2 hi,rfl⟩
      obtain ⟨c,a',cap',rfl,hci⟩:=open_cond z (by have:=size_slice (sp:=(List.range (m - len)).map fun j=>D (len+j)) hmem;show SizeOf.sizeOf (D i)<z;omega) h2 (light_elem Tryz.underlying22 hlk hmem)
      rw [cellsCond] at h1
      obtain ⟨-,-,hc⟩:=World.cells?_some h1
      refine ⟨⟨c,a',cap'⟩,fun j u hu=>?_,hci⟩
      have hj:j<5:=(List.getElem?_eq_some_iff.1 hu).1
      have:=hc j hj
      rw [Go.Deep.add_add] at this
      rw [this,hu]
     obtain ⟨f,hf⟩:=Go.Deep.choose_lt (α:=CondD × Option Addr × Nat) each
     have hlen:=light_len Tryz.underlying22 (of_decide_eq_true (by kernel_rfl)) hlk
     refine ⟨.mk n0 s1 s2 n3 ((List.range len).map fun i=>(f i).1),some a,cap,by simp [condL,CondD.op,CondD.key,CondD.val,CondD.n,CondD.kids],z1,z2,by simpa using hlen,fun h0=>?_⟩
     obtain ⟨hp,-⟩:=hf 0 (by simpa using h0)
     have hp0:=hp 0 _ rfl
     rw [show a.add (0 * 5+0)=a by unfold Addr.add;simp] at hp0
     refine ⟨a.block,a.off,by rw [←addr_plain hp0],KidsIs.of _ _ fun i c hi=>?_⟩
     have hil:i<len:=by have:=(List.getElem?_eq_some_iff.1 hi).1;simpa using this
     have hfs:(f i).1=c:=by simpa [hil] using hi
     obtain ⟨hc,hci⟩:=hf i hil
     rw [hfs] at hc hci
     have hcc:∀j u,(condL c (f i).2.1 (f i).2.2)[j]?=some u→W.cell? ⟨a.block,a.off+(i * 5+j),none⟩=some u:=fun j u hu=>by
      have:=hc j u hu
      rwa [addr_plain hp0,Go.WideShapes.add_plain] at this
     refine ⟨(f i).2.1,(f i).2.2,⟨hcc 0 _ rfl,?_,?_,?_,?_⟩,hci⟩
     ·simpa only [Nat.add_assoc] using hcc 1 _ rfl
     ·simpa only [Nat.add_assoc] using hcc 2 _ rfl
     ·simpa only [Nat.add_assoc] using hcc 3 _ rfl
     ·simpa only [Nat.add_assoc] using hcc 4 _ rfl
end
end Go.Proofs.YtdfenhjibnfdeaaGreatDoor
namespace Go.Proofs.YtdfenhjibnfdeaaGreatDoor
open Go.ChangeShapes Go.WideShapes Go.ChangeAt Go.RowKit Go.Shelf Go.Joins
open Go.ChangeMaps (open_string shut_string)
theorem cellsQuery : Tryz.prog.cellsOf 28 = 14 := by kernel_rfl
set_option maxRecDepth 100000 in
theorem open_query {H : Type} {enc : TypeId × Value → H} {W : World} {n : Nat} {cs : List Value} {y : DataW H × List MemPlace} (h : TrodW enc W n 28 cs y) (hl : Light 28 y.1) :
    ∃ (q : QryD) (a : Option Addr) (cap : Nat), cs = (qryC q a cap).toList ∧ CondIs W q.wher a ∧ q.id.size ≤ 140737488355328 ∧ q.key.size ≤ 140737488355328 ∧ q.prof.size ≤ 140737488355328 := by
  obtain ⟨xs, m, _, hy, hlc, hlen, hf⟩ := DataW.trod_struct Tryz.underlying28 h
  rw [cellsQuery] at hlc
  match cs, hlc with
  | [c0, c1, c2, c3, c4, c5, c6, c7, c8, c9, c10, c11, c12, c13], _ =>
    match xs, hlen with
    | [y0, y1, y2, y3, y4, y5, y6, y7, y8], _ =>
      have g0 := hf 0 _ rfl
      have g1 := hf 1 _ rfl
      have g2 := hf 2 _ rfl
      have g3 := hf 3 _ rfl
      have g4 := hf 4 _ rfl
      have g5 := hf 5 _ rfl
      have g6 := hf 6 _ rfl
      have g7 := hf 7 _ rfl
      have g8 := hf 8 _ rfl
      simp [cellsInt, cellsStr, cellsCond, cellsPoint] at g0 g1 g2 g3 g4 g5 g6 g7 g8
      have hl' : Light 28 (.agg [y0.1, y1.1, y2.1, y3.1, y4.1, y5.1, y6.1, y7.1, y8.1]) := by rw [hy] at hl; simpa using hl
      obtain ⟨a0, a1, m', -, -, k0, k1⟩ := trod_struct2 Tryz.underlying26 g5
      simp [cellsInt] at k0 k1
      obtain ⟨n0, e0, -, -⟩ := DataW.trod_int Tryz.underlying3 g0
      obtain ⟨n1, e1, -, -⟩ := DataW.trod_int Tryz.underlying3 g1
      obtain ⟨c, a, cap, ec, hc⟩ := open_cond (SizeOf.sizeOf y2.1 + 1) (Nat.lt_succ_self _) g2 (light_part Tryz.underlying28 hl' (j := 2) rfl rfl)
      obtain ⟨s3, e3, z3⟩ := open_str g3 (light_part Tryz.underlying28 hl' (j := 3) rfl rfl)
      obtain ⟨n4, e4, -, -⟩ := DataW.trod_int Tryz.underlying3 g4
      obtain ⟨n5, e5, -, -⟩ := DataW.trod_int Tryz.underlying3 k0
      obtain ⟨n6, e6, -, -⟩ := DataW.trod_int Tryz.underlying3 k1
      obtain ⟨s7, e7, z7⟩ := open_str g6 (light_part Tryz.underlying28 hl' (j := 6) rfl rfl)
      obtain ⟨s8, e8, z8⟩ := open_str g7 (light_part Tryz.underlying28 hl' (j := 7) rfl rfl)
      obtain ⟨n9, e9, -, -⟩ := DataW.trod_int Tryz.underlying3 g8
      simp at e0 e1 e4 e5 e6 e9
      simp [condL] at ec
      obtain ⟨x2, x3, x4, x5, x6⟩ := ec
      subst e0 e1 e3 e4 e5 e6 e7 e8 e9 x2 x3 x4 x5 x6
      exact ⟨⟨n0, n1, c, s3, n4, n5, n6, s7, s8, n9⟩, a, cap, rfl, hc, z3, z7, z8⟩
set_option maxRecDepth 100000 in
/-- An argument of type api.Query. -/
theorem open_queryA {H : Type} {enc : TypeId × Value → H} {r : Reach} {b0 : Nat} {W : World} {v : Value} {d : DataW H} {p : List MemPlace}
    (hv : Value.okWide Tryz.prog W r b0 28 v) (h : DataW.Trod enc Tryz.prog W 0 (fun _ => true) true 28 v d p) (hl : Light 28 d) :
    ∃ (q : QryD) (a : Option Addr) (cap : Nat), v = .agg (qryC q a cap) ∧ CondIs W q.wher a ∧ q.id.size ≤ 140737488355328 ∧ q.key.size ≤ 140737488355328 ∧ q.prof.size ≤ 140737488355328 := by
  obtain ⟨cs, rfl, hsz⟩ := okWide_struct Tryz.underlying28 hv
  obtain ⟨fuel, hf⟩ := h
  obtain ⟨q, a, cap, hcs, hr⟩ := open_query (y := (d, p)) hf hl
  refine ⟨q, a, cap, ?_, hr⟩
  obtain ⟨l⟩ := cs
  simp [Value.cells] at hcs
  rw [hcs] <;> rfl
end Go.Proofs.YtdfenhjibnfdeaaGreatDoor
