/-      -/
import Derived.Test.YtibpaaajghbkoaaGreatWAc
import Derived.Test.YtibpaaajghbkoaaGreatWBe
import Derived.Test.YtibpaaajghbkoaaGreatWAs
import Derived.Test.YtibpaaajghbkoaaGreatWAt
import Derived.Test.YtibpaaajghbkoaaGreatWAk
import Derived.Test.YtibpaaajghbkoaaGreatWAo
import Derived.Test.YtibpaaajghbkoaaGreatWAf
import Derived.Deep.LoopGhost
import Derived.Test.YtibpaaajghbkoaaGreatWAq
import Derived.Test.YtibpaaajghbkoaaGreatWAr
import Derived.Test.YtibpaaajghbkoaaGreatWAm
import Derived.Test.YtibpaaajghbkoaaGreatWAn
namespace Go.Proofs.YtibpaaajghbkoaaGreat
open Go.ChangeShapes Go.WideShapes Go.ChangeAt Go.RowKit Go.Joins
section
variable {H:Type} {enc:TypeId × Value→H} {W:World}
instance:Inhabited ObM:=⟨(⟨⟨#[]⟩,0,0,0,[],[]⟩,.slice none 0 0,.slice none 0 0)⟩
set_option maxRecDepth 100000 in
theorem zana {n:Nat} {c:Value} {y:DataW H × List MemPlace} (h:zafg enc W n 31 [c] y):CapV c:=by
 rcases Go.Deep.open_slice1 Tryz.underlying31 znl h with ⟨hcs,-⟩ | ⟨a,len,cap,m,k,V,D,Pl,hcs,-,hle,hm,hmm,hx,hel⟩
 ·simp at hcs;subst hcs;intro a n c e;injection e;omega
 ·simp at hcs;subst hcs;intro a n c e;injection e;omega
set_option maxRecDepth 100000 in
theorem zagx {n:Nat} {cs:List Value} {y:DataW H × List MemPlace} (h:zafg enc W n 36 cs y) (hl:zmk 36 y.1) :
  ∃x:ObM,cs=zgw x∧zgh W x:=by
 obtain ⟨xs,m,_,hy,hlc,hlen,hf⟩:=DataW.trod_struct Tryz.underlying36 h;rw [zacd] at hlc
 match cs,hlc with
 |[c0,c1,c2,c3,c4,c5],_ =>
  match xs,hlen with
  |[y0,y1,y2,y3,y4],_ =>have g0:=hf 0 _ rfl;have g1:=hf 1 _ rfl;have g2:=hf 2 _ rfl;have g3:=hf 3 _ rfl;have g4:=hf 4 _ rfl;simp [zaey,zace,znl,zajr,zajq] at g0 g1 g2 g3 g4;obtain ⟨a0,a1,m',-,-,k0,k1⟩:=trod_struct2 Tryz.underlying33 g2;simp [zace] at k0 k1;have hl':zmk 36 (.agg [y0.1,y1.1,y2.1,y3.1,y4.1]):=(by rw [hy] at hl;simpa using hl);obtain ⟨s0,e0,z0⟩:=zpi g0 (zhj Tryz.underlying36 hl' (j:=0) rfl rfl);obtain ⟨n1,e1,-,-⟩:=DataW.trod_int Tryz.underlying3 g1;obtain ⟨n2,e2,-,-⟩:=DataW.trod_int Tryz.underlying3 k0;obtain ⟨n3,e3,-,-⟩:=DataW.trod_int Tryz.underlying3 k1;obtain ⟨rs,hr⟩:=zagw g3 (zhj Tryz.underlying36 hl' (j:=3) rfl rfl);obtain ⟨ts,ht⟩:=zagv g4 (zhj Tryz.underlying36 hl' (j:=4) rfl rfl);have hcap:=zana g3;simp at e1 e2 e3;subst e0 e1 e2 e3;exact ⟨(⟨s0,n1,n2,n3,rs,ts⟩,c4,c5),rfl,⟨hr,ht,z0⟩,hcap⟩
set_option maxRecDepth 100000 in
theorem zadv {n:Nat} {c:Value} {y:DataW H × List MemPlace} (h:zafg enc W n 22 [c] y) (hl:zmk 22 y.1):∃l:List ObjD,ObjC W c l∧l.length≤140737488355328:=by
 rcases Go.Deep.open_slice Tryz.underlying22 h with ⟨hcs,-⟩ | ⟨a,len,cap,m,k,D,Pl,hcs,-,hle,hm,hmm,hx,hel⟩
 ·simp at hcs;subst hcs;exact ⟨[],⟨[],⟨none,0,rfl,fun h=>by simp at h⟩,rfl,fun x hx=>by cases hx⟩,by simp⟩
 ·simp at hcs;subst hcs;have hlm:len≤m:=by rw [hmm];split<;>omega
  have hx1:y.1=.slice ((List.range len).map D) ((List.range (m - len)).map fun j=>D (len+j)):=by rw [hx]
  rw [hx1] at hl;have each:∀i,i<len→∃x:ObM,(∀j u,(zgw x)[j]?=some u→W.cell? (a.add (i * 6+j))=some u)∧zgh W x:=by intro i hi;obtain ⟨cs',h1,h2⟩:=hel i (by omega);obtain ⟨x,rfl,hx⟩:=zagx h2 (zoj Tryz.underlying22 hl (List.mem_map.2 ⟨i,List.mem_range.2 hi,rfl⟩));rw [zacd] at h1;obtain ⟨-,-,hc⟩:=World.cells?_some h1;refine ⟨x,fun j u hu=>?_,hx⟩;have hj:j<6:=(List.getElem?_eq_some_iff.1 hu).1;have:=hc j hj;rw [Go.Deep.add_add] at this;rw [this,hu]
  obtain ⟨f,hf⟩:=Go.Deep.choose_lt (α:=ObM) each;have hlen:=zqs Tryz.underlying22 (of_decide_eq_true (by kernel_rfl)) hl;refine ⟨((List.range len).map f).map (·.1),⟨(List.range len).map f,⟨some a,cap,by simp,fun h0=>?_⟩,rfl,fun x hx=>?_⟩,by simpa using hlen⟩
  ·obtain ⟨hp,-⟩:=hf 0 (by simpa using h0);have hp0:=hp 0 _ rfl;rw [show a.add (0 * 6+0)=a by unfold Addr.add;simp] at hp0;refine ⟨a.block,a.off,by rw [←zhm hp0],fun j x hx i u hu=>?_⟩;have hil:j<len:=(by have:=(List.getElem?_eq_some_iff.1 hx).1;simpa using this);have hfs:f j=x:=(by simpa [hil] using hx);have:=(hf j hil).1 i u (by rw [hfs];exact hu);rw [zhm hp0,Go.WideShapes.add_plain] at this;rw [←Nat.add_assoc] at this;exact this
  ·obtain ⟨i,hi,rfl⟩:=List.mem_map.1 hx;exact (hf i (List.mem_range.1 hi)).2
end
set_option maxRecDepth 100000 in
theorem open_mapC {H:Type} {enc:TypeId × Value→H} {r:Reach} {b0:Nat} {W:World} {v:Value} {d:DataW H} {p:List MemPlace}
  (hv:Value.okWide Tryz.prog W r b0 24 v) (h:DataW.Trod enc Tryz.prog W 0 (fun _=>true) true 24 v d p) (hl:zmk 24 d) :
  ∃(c:Value) (l:List ObjD),v=.agg #[c]∧ObjC W c l∧l.length≤140737488355328:=by
 obtain ⟨cs,rfl,hsz⟩:=okWide_struct Tryz.underlying24 hv;obtain ⟨c,rfl⟩:=zarc (hsz.trans zamz);obtain ⟨fuel,hf⟩:=h;obtain ⟨xs,m,_,hy,hlc,hlen,hf'⟩:=DataW.trod_struct Tryz.underlying24 hf
 match xs,hlen with
 |[y0],_ =>
  have g0:=hf' 0 _ rfl;simp [zajs,Value.cells] at g0;simp only [Prod.mk.injEq] at hy;have hl':zmk 24 (.agg [y0.1]):=by rw [hy.1] at hl;simpa using hl
  obtain ⟨l,hl2⟩:=zadv g0 (zhj Tryz.underlying24 hl' (j:=0) rfl rfl);exact ⟨c,l,rfl,hl2⟩
end Go.Proofs.YtibpaaajghbkoaaGreat

namespace Go.Proofs.YtibpaaajghbkoaaGreat
open Go.RowKit Go.Sort
theorem zaos {w:World} {base size n:Nat} {e:TypeId} {v:Value} {xs:List Value} (h:w.ownsRow base e size v n xs):∃a c,v=.slice a n c:=by
 rcases h.2 with ⟨rfl,h0⟩ | ⟨g,cap,cur,rfl,_⟩
 ·exact ⟨none,0,by rw [h0]⟩
 ·exact ⟨_,_,rfl⟩
theorem zyq (l:List ObjD) (r:ByteArray) {k:Nat} {o:ObjD} (ho:l[k]?=some o):zax (l.take (k+1)) r=zax (l.take k) r++(if r∈o.refs then [o] else []):=by
 unfold zax;rw [zbn ho,List.filter_append];by_cases h:r∈o.refs
 ·rw [if_pos h,List.filter_cons,if_pos (decide_eq_true h)];rfl
 ·rw [if_neg h,List.filter_cons,if_neg (by simpa using h)];rfl
end Go.Proofs.YtibpaaajghbkoaaGreat

namespace Go.Proofs.YtibpaaajghbkoaaGreat
open Go.RowKit Go.Sort
set_option maxRecDepth 100000 in
set_option maxHeartbeats 2000000 in
theorem zaem (v:Value) (l:List Pt) (w:World) (hl:l.length≤1000) (hv:RowE zfu 2 w v l) :
  Calls Tryz.prog 91 #[v] w fun e w'=>e=.returned (.int .i64 (zia l))∧Grew w w':=by
 obtain ⟨a,cap,rfl,hc⟩:=hv;obtain ⟨N,hN⟩:∃N,l.length=N:=⟨_,rfl⟩;rw [hN] at hl hc ⊢;have HN:=zH hN;have HC:=zH hc;obtain ⟨res,hres⟩:∃z,zia l=z:=⟨_,rfl⟩;rw [hres];have HR:=zH hres;have CP:=zH (fun x y w=>Tryz.cmp_Compare_int x y w);clear hN hc hres;go_enter Tryz.func91,Tryz.ntmps91;go_wp2;go_loopw [8] (fun i wr=>∃k:Nat,k≤N∧i=.int .i64 k∧Hid (zia (l.drop k)=res)∧Grew w wr) (fun i _=>N - (intOf i).toNat);case atStart=>exact ⟨0,by omega,rfl,HR,Grew.refl _⟩
 case round =>
  obtain ⟨k,hk,rfl,hT,hgr⟩:=hrel;have hbr:=hgr.below;have hsz:=hbr.size;by_cases hlt:k<N
  ·obtain ⟨p,hp⟩:∃p,l[k]?=some p:=⟨l[k]'(by rw [HN.out];exact hlt),List.getElem?_eq_getElem _⟩;obtain ⟨b,off,ha,hcell⟩:=HC.out (by omega);subst ha;have c0:=cell_later hbr (hcell k p hp 0 _ rfl);have c1:=cell_later hbr (hcell k p hp 1 _ rfl);have c0':wr.cell? ⟨b,off+k * 2,none⟩=some (.int .i64 p.1):=c0;have HD:=zH (zqy l k p hp);obtain ⟨x,y⟩:=p;simp only [] at c0' c1 HD;clear c0 hcell hp;go_wp2_with fail;refine (CP.out x y _).mono ?_;rintro e w2 ⟨rfl,rfl⟩;obtain ⟨c,hcv⟩:∃z,z=Lib.compareInt x y:=⟨_,rfl⟩;rw [←hcv] at HD ⊢;clear hcv;by_cases h0:c=0
   ·subst h0;have HG:Hid (zia (l.drop (k+1))=res):=zH (by rw [←hT.out,HD.out,if_pos rfl]);go_wp2;go_roundw;case rel=>exact ⟨k+1,by omega,by go_num,HG,hgr.alloc _⟩
    case measure=>simp [intOf];omega
   ·have h0d:(c != 0)=true:=(by rw [bne_iff_ne];exact h0);have HE:=zH (show res=c by rw [←hT.out,HD.out,if_neg h0]);go_wp2;go_ret;exact ⟨by rw [HE.out]<;>rfl,hgr.alloc _⟩
  ·obtain rfl:k=N:=(by omega);have HE:=zH (show res=0 by rw [←hT.out,List.drop_of_length_le (by rw [HN.out];exact Nat.le_refl _)];rfl);go_wp2;go_ret;exact ⟨by rw [HE.out]<;>rfl,hgr⟩
set_option maxHeartbeats 1000000 in
theorem zaek (p q:Pt) (w:World) :
  Calls Tryz.prog 51 #[ptV p,ptV q] w fun e w'=>e=.returned (.int .i64 (lexC p q))∧Grew w w':=by
 have FR:=zH (fun (v:Value) w' hv=>by
  have:=zaem v [(p.1,q.1),(p.2,q.2)] w' (by simp) hv
  rw [zso] at this
  exact this)
 generalize lexC p q=n at FR ⊢;obtain ⟨px,py⟩:=p;obtain ⟨qx,qy⟩:=q;simp only [] at FR ⊢;go_enter Tryz.func51,Tryz.ntmps51;go_wp2_with fail;refine (FR.out _ _ (RowE.of_block (l:=[(px,qx),(py,qy)]) zeb rfl (zth w (.cells #[.int .i64 px,.int .i64 py] 33) (.cells #[.int .i64 qx,.int .i64 qy] 33) (.cells #[.int .i64 px,.int .i64 qx,.int .i64 py,.int .i64 qy] 130)) 2 rfl)).mono ?_;rintro e w2 ⟨rfl,hg⟩;have B2:=((((Grew.refl w).alloc _).alloc _).alloc _).trans hg;go_wp2;go_ret;exact ⟨rfl,B2⟩
abbrev triV (a b c:Pt):Value:=.agg #[.int .i64 a.1,.int .i64 a.2,.int .i64 b.1,.int .i64 b.2,.int .i64 c.1,.int .i64 c.2]
set_option maxRecDepth 100000 in
set_option maxHeartbeats 2000000 in
theorem zuu (a b c:Pt) (ha:zat a=true) (hb:zat b=true) (hc:zat c=true) (w:World) :
  Calls Tryz.prog 110 #[triV a b c] w fun e w'=>e=.returned (.int .i64 (crs a b c))∧Below w.heap.size w w':=by
 have s1:=zfe ha hb;have s2:=zfe ha hc;have h1:=zil (show -4194304≤b.1 - a.1∧b.1 - a.1≤4194304 from ⟨s1.1,s1.2.1⟩) (show -4194304≤c.2 - a.2∧c.2 - a.2≤4194304 from ⟨s2.2.2.1,s2.2.2.2⟩);have h2:=zil (show -4194304≤b.2 - a.2∧b.2 - a.2≤4194304 from ⟨s1.2.2.1,s1.2.2.2⟩) (show -4194304≤c.1 - a.1∧c.1 - a.1≤4194304 from ⟨s2.1,s2.2.1⟩);have HC:=zH (show (b.1 - a.1) * (c.2 - a.2) - (b.2 - a.2) * (c.1 - a.1)=crs a b c from rfl);generalize crs a b c=n at HC ⊢;have hq1:=zem ha;have hq2:=zem hb;have hq3:=zem hc;obtain ⟨ax,ay⟩:=a;obtain ⟨bx,by1⟩:=b;obtain ⟨cx,cy⟩:=c;simp only [] at h1 h2 HC hq1 hq2 hq3 ⊢;have d1:IntKind.i64.wrap (bx - ax)=bx - ax:=IntWalk.i64_in _ (by omega);have d2:IntKind.i64.wrap (cy - ay)=cy - ay:=IntWalk.i64_in _ (by omega);have d3:IntKind.i64.wrap (by1 - ay)=by1 - ay:=IntWalk.i64_in _ (by omega);have d4:IntKind.i64.wrap (cx - ax)=cx - ax:=IntWalk.i64_in _ (by omega);have w1:IntKind.i64.wrap ((bx - ax) * (cy - ay))=(bx - ax) * (cy - ay):=IntWalk.i64_in _ (by omega);have w2:IntKind.i64.wrap ((by1 - ay) * (cx - ax))=(by1 - ay) * (cx - ax):=IntWalk.i64_in _ (by omega);have w3:IntKind.i64.wrap ((bx - ax) * (cy - ay) - (by1 - ay) * (cx - ax))=(bx - ax) * (cy - ay) - (by1 - ay) * (cx - ax):=IntWalk.i64_in _ (by omega);clear ha hb hc h1 h2 s1 s2 hq1 hq2 hq3;go_enter Tryz.func110,Tryz.ntmps110;go_wp2;go_ret;exact ⟨by rw [←HC.out]<;>rfl,(by repeat' (first | exact Below.refl _ _ | refine Below.drew ?_ | refine Below.drewN' ?_ | refine Below.setCell ?_ (by first | omega | (simp;done) | exact Below.size (by assumption) | (simp;omega)) _ | refine Below.alloc ?_ (by first | omega | (simp;done) | exact Below.size (by assumption) | (simp;omega)) _ | refine Below.trans ?_ (Below.mono (by assumption) ?_) | (first | omega | (simp;done) | exact Below.size (by assumption) | (simp;omega))))⟩
end Go.Proofs.YtibpaaajghbkoaaGreat

namespace Go.Proofs.YtibpaaajghbkoaaGreat
open Go.RowKit
set_option maxHeartbeats 1000000 in
theorem zoc (p:Pt) (w:World) :
  Calls Tryz.prog 236 #[ptV p] w fun e w'=>e=.returned (.bool (zat p))∧Below w.heap.size w w':=by
 have HQ:=zH (show zat p=decide (-2097152≤p.1∧p.1≤2097152∧-2097152≤p.2∧p.2≤2097152) from rfl);generalize zat p=r at HQ ⊢;obtain ⟨x,y⟩:=p;simp only [] at HQ ⊢;by_cases h1:-2097152≤x;case neg =>
  have e1:decide (-2097152≤x)=false:=decide_eq_false h1;have HE:=zH (show r=false by rw [HQ.out];exact decide_eq_false (fun h=>h1 h.1));clear h1;go_enter Tryz.func236,Tryz.ntmps236;go_wp2;go_ret;exact ⟨by rw [HE.out]<;>rfl,(by repeat' (first | exact Below.refl _ _ | refine Below.drew ?_ | refine Below.drewN' ?_ | refine Below.setCell ?_ (by first | omega | (simp;done) | exact Below.size (by assumption) | (simp;omega)) _ | refine Below.alloc ?_ (by first | omega | (simp;done) | exact Below.size (by assumption) | (simp;omega)) _ | refine Below.trans ?_ (Below.mono (by assumption) ?_) | (first | omega | (simp;done) | exact Below.size (by assumption) | (simp;omega))))⟩
 have e1:decide (-2097152≤x)=true:=decide_eq_true h1;by_cases h2:x≤2097152;case neg =>
  have e2:decide (x≤2097152)=false:=decide_eq_false h2;have HE:=zH (show r=false by rw [HQ.out];exact decide_eq_false (fun h=>h2 h.2.1));clear h2;go_enter Tryz.func236,Tryz.ntmps236;go_wp2;go_ret;exact ⟨by rw [HE.out]<;>rfl,(by repeat' (first | exact Below.refl _ _ | refine Below.drew ?_ | refine Below.drewN' ?_ | refine Below.setCell ?_ (by first | omega | (simp;done) | exact Below.size (by assumption) | (simp;omega)) _ | refine Below.alloc ?_ (by first | omega | (simp;done) | exact Below.size (by assumption) | (simp;omega)) _ | refine Below.trans ?_ (Below.mono (by assumption) ?_) | (first | omega | (simp;done) | exact Below.size (by assumption) | (simp;omega))))⟩
 have e2:decide (x≤2097152)=true:=decide_eq_true h2;by_cases h3:-2097152≤y;case neg =>
  have e3:decide (-2097152≤y)=false:=decide_eq_false h3;have HE:=zH (show r=false by rw [HQ.out];exact decide_eq_false (fun h=>h3 h.2.2.1));clear h3;go_enter Tryz.func236,Tryz.ntmps236;go_wp2;go_ret;exact ⟨by rw [HE.out]<;>rfl,(by repeat' (first | exact Below.refl _ _ | refine Below.drew ?_ | refine Below.drewN' ?_ | refine Below.setCell ?_ (by first | omega | (simp;done) | exact Below.size (by assumption) | (simp;omega)) _ | refine Below.alloc ?_ (by first | omega | (simp;done) | exact Below.size (by assumption) | (simp;omega)) _ | refine Below.trans ?_ (Below.mono (by assumption) ?_) | (first | omega | (simp;done) | exact Below.size (by assumption) | (simp;omega))))⟩
 have e3:decide (-2097152≤y)=true:=decide_eq_true h3;by_cases h4:y≤2097152;case neg =>
  have e4:decide (y≤2097152)=false:=decide_eq_false h4;have HE:=zH (show r=false by rw [HQ.out];exact decide_eq_false (fun h=>h4 h.2.2.2));clear h4;go_enter Tryz.func236,Tryz.ntmps236;go_wp2;go_ret;exact ⟨by rw [HE.out]<;>rfl,(by repeat' (first | exact Below.refl _ _ | refine Below.drew ?_ | refine Below.drewN' ?_ | refine Below.setCell ?_ (by first | omega | (simp;done) | exact Below.size (by assumption) | (simp;omega)) _ | refine Below.alloc ?_ (by first | omega | (simp;done) | exact Below.size (by assumption) | (simp;omega)) _ | refine Below.trans ?_ (Below.mono (by assumption) ?_) | (first | omega | (simp;done) | exact Below.size (by assumption) | (simp;omega))))⟩
 have e4:decide (y≤2097152)=true:=decide_eq_true h4;have HE:=zH (show r=true by rw [HQ.out];exact decide_eq_true ⟨h1,h2,h3,h4⟩);go_enter Tryz.func236,Tryz.ntmps236;go_wp2;go_ret;exact ⟨by rw [HE.out]<;>rfl,(by repeat' (first | exact Below.refl _ _ | refine Below.drew ?_ | refine Below.drewN' ?_ | refine Below.setCell ?_ (by first | omega | (simp;done) | exact Below.size (by assumption) | (simp;omega)) _ | refine Below.alloc ?_ (by first | omega | (simp;done) | exact Below.size (by assumption) | (simp;omega)) _ | refine Below.trans ?_ (Below.mono (by assumption) ?_) | (first | omega | (simp;done) | exact Below.size (by assumption) | (simp;omega))))⟩
set_option maxHeartbeats 1000000 in
theorem zju (s:Sg) (w:World) :
  Calls Tryz.prog 233 #[sgV s] w fun e w'=>e=.returned (.bool (zbd s))∧Below w.heap.size w w':=by
 have I1:=zH (fun w=>zoc s.1 w);have I2:=zH (fun w=>zoc s.2 w);have HQ:=zH (show zbd s=(zat s.1 && zat s.2) from rfl);generalize zbd s=r at HQ ⊢;generalize zat s.1=q1 at HQ I1;generalize zat s.2=q2 at HQ I2;obtain ⟨⟨ax,ay⟩,⟨bx,by1⟩⟩:=s;simp only [] at I1 I2 ⊢;go_enter Tryz.func233,Tryz.ntmps233;go_wp2_with fail;generalize hw1:w.alloc _=w1;have B1:=gB1 hw1;have H1:=gA11 hw1;have H1:=zH H1;clear hw1;refine (I1.out _).mono ?_;rintro e w2 ⟨rfl,hb⟩;have B2:=zac B1 zR hb;replace H1:=zH (zab hb H1.out);clear hb B1;obtain ⟨az,a0,a1,a2,a3⟩:=rk4 H1.out;cases q1 with
 |false =>go_wp2;go_ret;exact ⟨by rw [HQ.out]<;>rfl,B2⟩
 |true =>go_wp2_with fail;refine (I2.out _).mono ?_;rintro e w3 ⟨rfl,hb⟩;have B3:=zac B2 zR hb;clear hb B2;clear a0 a1 a2 a3 az;go_wp2;go_ret;exact ⟨by rw [HQ.out]<;>simp,B3⟩
theorem zahp {a b:Pt} (ha:zat a=true) (hb:zat b=true):(-4194304≤b.1 - a.1∧b.1 - a.1≤4194304)∧(-4194304≤b.2 - a.2∧b.2 - a.2≤4194304):=by have h1:=zem ha;have h2:=zem hb;omega
set_option maxHeartbeats 2000000 in
theorem zsf (a b c:Pt) (ha:zat a=true) (hb:zat b=true) (hc:zat c=true) (w:World) :
  Calls Tryz.prog 237 #[ptV a,ptV b,ptV c] w fun e w'=>e=.returned (.int .i64 (crs a b c))∧Below w.heap.size w w':=by
 have h1:=zahp ha hb;have h2:=zahp ha hc;have m1:=zil h1.1 h2.2;have m2:=zil h1.2 h2.1;have HC:=zH (show crs a b c=(b.1 - a.1) * (c.2 - a.2) - (b.2 - a.2) * (c.1 - a.1) from rfl);generalize crs a b c=r at HC ⊢;have b1:=zem ha;have b2:=zem hb;have b3:=zem hc;obtain ⟨ax,ay⟩:=a;obtain ⟨bx,by1⟩:=b;obtain ⟨cx,cy⟩:=c;simp only [] at HC h1 h2 m1 m2 b1 b2 b3 ⊢;have w1:IntKind.i64.wrap ((bx - ax) * (cy - ay))=(bx - ax) * (cy - ay):=IntWalk.i64_in _ (by omega);have w2:IntKind.i64.wrap ((by1 - ay) * (cx - ax))=(by1 - ay) * (cx - ax):=IntWalk.i64_in _ (by omega);have w3:IntKind.i64.wrap ((bx - ax) * (cy - ay) - (by1 - ay) * (cx - ax))=r:=(IntWalk.i64_in _ (by omega)).trans HC.out.symm;have v1:IntKind.i64.wrap (bx - ax)=bx - ax:=IntWalk.i64_in _ (by omega);have v2:IntKind.i64.wrap (cy - ay)=cy - ay:=IntWalk.i64_in _ (by omega);have v3:IntKind.i64.wrap (by1 - ay)=by1 - ay:=IntWalk.i64_in _ (by omega);have v4:IntKind.i64.wrap (cx - ax)=cx - ax:=IntWalk.i64_in _ (by omega);clear ha hb hc h1 h2 m1 m2 b1 b2 b3;go_enter Tryz.func237,Tryz.ntmps237;go_wp2;go_ret;exact ⟨rfl,(by repeat' (first | exact Below.refl _ _ | refine Below.drew ?_ | refine Below.drewN' ?_ | refine Below.setCell ?_ (by first | omega | (simp;done) | exact Below.size (by assumption) | (simp;omega)) _ | refine Below.alloc ?_ (by first | omega | (simp;done) | exact Below.size (by assumption) | (simp;omega)) _ | refine Below.trans ?_ (Below.mono (by assumption) ?_) | (first | omega | (simp;done) | exact Below.size (by assumption) | (simp;omega))))⟩
theorem zagc (n:Int) (w:World) :
  Calls Tryz.prog 258 #[.int .i64 n] w fun e w'=>e=.returned (.int .i64 (sgn n))∧w'=w:=by
 have HQ:=zH (show sgn n=if n<0 then -1 else if 0<n then 1 else 0 from rfl);generalize sgn n=r at HQ ⊢;by_cases h1:n<0
 ·have e1:decide (n<0)=true:=decide_eq_true h1;have HE:=zH (show r=-1 by rw [HQ.out,if_pos h1]);clear h1;go_enter Tryz.func258,Tryz.ntmps258;go_wp2;go_ret;exact ⟨by rw [HE.out]<;>rfl,rfl⟩
 have e1:decide (n<0)=false:=decide_eq_false h1;by_cases h2:0<n
 ·have e2:decide (0<n)=true:=decide_eq_true h2;have HE:=zH (show r=1 by rw [HQ.out,if_neg h1,if_pos h2]);clear h1 h2;go_enter Tryz.func258,Tryz.ntmps258;go_wp2;go_ret;exact ⟨by rw [HE.out]<;>rfl,rfl⟩
 ·have e2:decide (0<n)=false:=decide_eq_false h2;have HE:=zH (show r=0 by rw [HQ.out,if_neg h1,if_neg h2]);clear h1 h2;go_enter Tryz.func258,Tryz.ntmps258;go_wp2;go_ret;exact ⟨by rw [HE.out]<;>rfl,rfl⟩
set_option maxHeartbeats 2000000 in
theorem zjv (a b c:Pt) (ha:zat a=true) (hb:zat b=true) (hc:zat c=true) (w:World) :
  Calls Tryz.prog 235 #[ptV a,ptV b,ptV c] w fun e w'=>e=.returned (.int .i64 (sgn (crs a b c)))∧Below w.heap.size w w':=by
 have I1:=zH (fun w=>zoc a w);have I2:=zH (fun w=>zoc b w);have I3:=zH (fun w=>zoc c w);have CR:=zH (fun w=>zsf a b c ha hb hc w);have SG:=zH (fun w=>zagc (crs a b c) w);rw [ha] at I1;rw [hb] at I2;rw [hc] at I3;clear ha hb hc;generalize sgn (crs a b c)=r at SG ⊢;generalize crs a b c=n at SG CR;obtain ⟨ax,ay⟩:=a;obtain ⟨bx,by1⟩:=b;obtain ⟨cx,cy⟩:=c;go_enter Tryz.func235,Tryz.ntmps235;go_wp2_with fail;generalize hw1:((w.alloc _).alloc _).alloc _=w1;have B1:=gB3 hw1;have H1:=gA31 hw1;have H2:=gA32 hw1;have H3:=gA33 hw1;have H1:=zH H1;have H2:=zH H2;have H3:=zH H3;clear hw1;refine (I1.out _).mono ?_;rintro e w2 ⟨rfl,hb⟩;have B2:=zac B1 zR hb;replace H1:=zH (zab hb H1.out);replace H2:=zH (zab hb H2.out);replace H3:=zH (zab hb H3.out);clear hb B1;obtain ⟨bz,b0,b1⟩:=rk2 H2.out;go_wp2_with fail;refine (I2.out _).mono ?_;rintro e w3 ⟨rfl,hb⟩;have B3:=zac B2 zR hb;clear b0 b1 bz;replace H1:=zH (zab hb H1.out);replace H2:=zH (zab hb H2.out);replace H3:=zH (zab hb H3.out);clear hb B2;obtain ⟨cz,c0,c1⟩:=rk2 H3.out;go_wp2_with fail;refine (I3.out _).mono ?_;rintro e w4 ⟨rfl,hb⟩;have B4:=zac B3 zR hb;clear c0 c1 cz;replace H1:=zH (zab hb H1.out);replace H2:=zH (zab hb H2.out);replace H3:=zH (zab hb H3.out);clear hb B3;obtain ⟨az,a0,a1⟩:=rk2 H1.out;obtain ⟨bz,b0,b1⟩:=rk2 H2.out;obtain ⟨cz,c0,c1⟩:=rk2 H3.out;go_wp2_with fail;refine (CR.out _).mono ?_;rintro e w5 ⟨rfl,hb⟩;have B5:=zac B4 zR hb;clear hb B4;go_wp2_with fail;refine (SG.out _).mono ?_;rintro e w6 ⟨rfl,rfl⟩;go_wp2;go_ret;exact ⟨rfl,B5⟩
theorem zaba (s:Sg) (p:Pt) (w:World) :
  Calls Tryz.prog 234 #[sgV s,ptV p] w fun e w'=>e=.returned (.bool (endR s p))∧Below w.heap.size w w':=by
 have eq1:=zdc p s.1;have eq2:=zdc p s.2;have eqg:=eg37;have HQ:=zH (show endR s p=(decide (p=s.1) || decide (p=s.2)) by unfold endR;simp);generalize endR s p=r at HQ ⊢;generalize decide (p=s.1)=d1 at HQ eq1;generalize decide (p=s.2)=d2 at HQ eq2;obtain ⟨⟨ax,ay⟩,⟨bx,by1⟩⟩:=s;obtain ⟨px,py⟩:=p;simp only [] at eq1 eq2 ⊢;cases d1 with
 |true =>have HE:=zH (show r=true from HQ.out);go_enter Tryz.func234,Tryz.ntmps234;go_wp2;go_ret;exact ⟨by rw [HE.out]<;>rfl,(by repeat' (first | exact Below.refl _ _ | refine Below.drew ?_ | refine Below.drewN' ?_ | refine Below.setCell ?_ (by first | omega | (simp;done) | exact Below.size (by assumption) | (simp;omega)) _ | refine Below.alloc ?_ (by first | omega | (simp;done) | exact Below.size (by assumption) | (simp;omega)) _ | refine Below.trans ?_ (Below.mono (by assumption) ?_) | (first | omega | (simp;done) | exact Below.size (by assumption) | (simp;omega))))⟩
 |false =>have HE:=zH (show r=d2 from HQ.out);go_enter Tryz.func234,Tryz.ntmps234;go_wp2;go_ret;exact ⟨by rw [HE.out]<;>rfl,(by repeat' (first | exact Below.refl _ _ | refine Below.drew ?_ | refine Below.drewN' ?_ | refine Below.setCell ?_ (by first | omega | (simp;done) | exact Below.size (by assumption) | (simp;omega)) _ | refine Below.alloc ?_ (by first | omega | (simp;done) | exact Below.size (by assumption) | (simp;omega)) _ | refine Below.trans ?_ (Below.mono (by assumption) ?_) | (first | omega | (simp;done) | exact Below.size (by assumption) | (simp;omega))))⟩
theorem zanf (a b c d:Prop) [Decidable a] [Decidable b] [Decidable c] [Decidable d]:(decide a=false∧True∧True∧True∧¬(a∧b∧c∧d))∨(decide a=true∧decide b=false∧True∧True∧¬(a∧b∧c∧d))∨(decide a=true∧decide b=true∧decide c=false∧True∧¬(a∧b∧c∧d))∨(decide a=true∧decide b=true∧decide c=true∧decide d=false∧¬(a∧b∧c∧d))∨(decide a=true∧decide b=true∧decide c=true∧decide d=true∧(a∧b∧c∧d)):=by by_cases ha:a<;>by_cases hb:b<;>by_cases hc:c<;>by_cases hd:d<;>simp [ha,hb,hc,hd]
set_option maxRecDepth 100000 in
set_option maxHeartbeats 4000000 in
theorem zmr (s:Sg) (p:Pt) (hs:zbd s=true) (hp:zat p=true) (w:World) :
  Calls Tryz.prog 178 #[sgV s,ptV p] w fun e w'=>e=.returned (.bool (onR s p))∧Below w.heap.size w w':=by
 have hs1:zat s.1=true:=by unfold zbd at hs;rw [Bool.and_eq_true] at hs;exact hs.1
 have hs2:zat s.2=true:=by unfold zbd at hs;rw [Bool.and_eq_true] at hs;exact hs.2
 have IS:=zH (fun w=>zju s w);have IP:=zH (fun w=>zoc p w);have CR:=zH (fun w=>zsf s.1 s.2 p hs1 hs2 hp w);rw [hs] at IS;rw [hp] at IP;have HQ:=zH (show onR s p=(decide (min s.1.1 s.2.1≤p.1∧p.1≤max s.1.1 s.2.1∧min s.1.2 s.2.2≤p.2∧p.2≤max s.1.2 s.2.2) && decide (crs s.1 s.2 p=0)) from rfl);generalize onR s p=r at HQ ⊢;generalize crs s.1 s.2 p=n at HQ CR;clear hs hp hs1 hs2;obtain ⟨⟨ax,ay⟩,⟨bx,by1⟩⟩:=s;obtain ⟨px,py⟩:=p;simp only [] at IS IP CR HQ ⊢;rcases zanf (min ax bx≤px) (px≤max ax bx) (min ay by1≤py) (py≤max ay by1) with ⟨e1,e2,e3,e4,hh⟩ | ⟨e1,e2,e3,e4,hh⟩ | ⟨e1,e2,e3,e4,hh⟩ | ⟨e1,e2,e3,e4,hh⟩ | ⟨e1,e2,e3,e4,hh⟩;all_goals
  have HH:=zH hh;clear hh;go_enter Tryz.func178,Tryz.ntmps178;go_wp2_with fail;generalize hw1:(w.alloc _).alloc _=w1;have B1:=gB2 hw1;have H1:=gA21 hw1;have H2:=gA22 hw1;have H1:=zH H1;have H2:=zH H2;clear hw1;refine (IS.out _).mono ?_;rintro e w2 ⟨rfl,hb⟩;have B2:=zac B1 zR hb;replace H1:=zH (zab hb H1.out);replace H2:=zH (zab hb H2.out);clear hb B1;obtain ⟨bz,b0,b1⟩:=rk2 H2.out;go_wp2_with fail;refine (IP.out _).mono ?_;rintro e w3 ⟨rfl,hb⟩;have B3:=zac B2 zR hb;clear b0 b1 bz;replace H1:=zH (zab hb H1.out);replace H2:=zH (zab hb H2.out);clear hb B2;obtain ⟨az,a0,a1,a2,a3⟩:=rk4 H1.out;obtain ⟨bz,b0,b1⟩:=rk2 H2.out;go_wp2_with fail;first
   |have hn:¬(min ax bx≤px∧px≤max ax bx∧min ay by1≤py∧py≤max ay by1):=HH.out
    have HE:=zH (show r=false by rw [HQ.out,decide_eq_false hn];rfl);clear hn;go_wp2;go_ret;exact ⟨by rw [HE.out]<;>rfl,B3⟩
   |have hg:(min ax bx≤px∧px≤max ax bx∧min ay by1≤py∧py≤max ay by1):=HH.out
    have HE:=zH (show r=(n==0) by rw [HQ.out,decide_eq_true hg,Bool.true_and,Bool.eq_iff_iff,decide_eq_true_eq,beq_iff_eq]);clear hg;refine (CR.out _).mono ?_;rintro e w4 ⟨rfl,hb⟩;have B4:=zac B3 zR hb;clear hb B3;go_wp2;go_ret;exact ⟨by rw [HE.out]<;>rfl,B4⟩
end Go.Proofs.YtibpaaajghbkoaaGreat

namespace Go.Proofs.YtibpaaajghbkoaaGreat
open Go.RowKit Go.Sort
def zni (id:ByteArray) (l:List ObjD):Int:=match posO id l with | some i=>(i:Int) | none=>-1
end Go.Proofs.YtibpaaajghbkoaaGreat
