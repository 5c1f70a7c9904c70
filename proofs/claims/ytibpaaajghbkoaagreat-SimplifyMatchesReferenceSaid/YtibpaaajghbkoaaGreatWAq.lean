/-    -/
import Derived.Test.YtibpaaajghbkoaaGreatWAn
import Derived.Test.YtibpaaajghbkoaaGreatWAo
import Derived.Test.YtibpaaajghbkoaaGreatWAp
import Derived.Test.YtibpaaajghbkoaaGreatWAf
import Derived.Laws.IdiomCopy
import Derived.Laws.CopyRow
import Derived.Test.YtibpaaajghbkoaaGreatWAi
import Derived.Test.YtibpaaajghbkoaaGreatProg
import Derived.DeepKeys4
import Derived.WideKeyPair
namespace Go.Proofs.YtibpaaajghbkoaaGreat
open Go.RowKit Go.Maps Go.ChangeMaps Go.Sort
def cmpK (p q:KeyD):Int:=if cmpS p.1 q.1=0 then cmpS p.2 q.2 else cmpS p.1 q.1
theorem zuj {a b:ByteArray}:cmpS a b<0↔ltB a b=true:=by
 unfold cmpS;cases ltB a b with
 |true=>simp
 |false=>cases ltB b a<;>simp
theorem zky {a b:ByteArray}:cmpS a b=0↔a=b:=by
 unfold cmpS;cases h:ltB a b with
 |true=>simp;intro e;subst e;rw [zbp] at h;cases h
 |false =>
  cases h2:ltB b a with
  |true=>simp;intro e;subst e;rw [zbp] at h2;cases h2
  |false=>simp;exact zep h h2
theorem zapw (p q:KeyD):decide (cmpK p q<0)=ltK p q:=by
 rw [Bool.eq_iff_iff,decide_eq_true_eq];unfold cmpK ltK;rw [Bool.or_eq_true,Bool.and_eq_true,decide_eq_true_eq];by_cases h:cmpS p.1 q.1=0
 ·rw [if_pos h,zuj];have e:=zky.1 h;rw [e,zbp];simp
 ·rw [if_neg h,zuj];have:p.1≠q.1:=fun e=>h (zky.2 e);simp [this]
set_option maxRecDepth 100000 in
set_option maxHeartbeats 2000000 in
theorem zzu (p q:KeyD) (B c:Nat) (w:World) (h0:w.cell? ⟨B,0,none⟩=some (.string p.1)) (h1:w.cell? ⟨B,1,none⟩=some (.string q.1)) (h2:w.cell? ⟨B,2,none⟩=some (.string p.2)) (h3:w.cell? ⟨B,3,none⟩=some (.string q.2)) :
  Calls Tryz.prog 87 #[.slice (some ⟨B,0,none⟩) 4 c] w fun e w'=>e=.returned (.int .i64 (cmpK p q))∧Grew w w':=by
 have C1:=zH (fun w=>zpo p.1 q.1 w);have C2:=zH (fun w=>zpo p.2 q.2 w);have HQ:=zH (show cmpK p q=if cmpS p.1 q.1=0 then cmpS p.2 q.2 else cmpS p.1 q.1 from rfl);generalize cmpK p q=r at HQ ⊢;generalize cmpS p.1 q.1=c1 at C1 HQ;generalize cmpS p.2 q.2=c2 at C2 HQ;obtain ⟨p1,p2⟩:=p;obtain ⟨q1,q2⟩:=q;simp only [] at h0 h1 h2 h3 C1 C2;have hB:=zag h0;have n1:IntKind.i64.wrap (0+1)=1:=rfl;have n2:IntKind.i64.wrap (2+1)=3:=rfl;by_cases z1:c1=0;case neg =>
  have z1d:(c1 != 0)=true:=by rw [bne_iff_ne];exact z1
  have HE:=zH (show r=c1 by rw [HQ.out,if_neg z1]);clear z1;go_enter Tryz.func87,Tryz.ntmps87;go_wp2;refine wp_loop_rounds 2 ?_;rw [rounds_succ];go_wp2;go_quiet ((go_at_call 104;exact Calls.quiet_of_same (C1.out _)));go_wp2;go_ret;exact ⟨by rw [HE.out]<;>rfl,(Grew.refl w).drewN _⟩
 have z1d:(c1 != 0)=false:=by rw [z1];rfl
 have HE1:=zH (show r=c2 by rw [HQ.out,if_pos z1]);clear z1;go_enter Tryz.func87,Tryz.ntmps87;go_wp2;refine wp_loop_rounds 3 ?_;rw [rounds_succ];go_wp2;go_quiet ((go_at_call 104;exact Calls.quiet_of_same (C1.out _)));have G1:=(Grew.refl w).drewN nq;have k2:=cell_later G1.below h2;have k3:=cell_later G1.below h3;have hs1:=G1.below.size;generalize hw1:w.drewN nq=w1;rw [hw1] at G1 k2 k3 hs1;clear hw1 h0 h1 h2 h3;go_wp2;rw [rounds_succ];go_wp2;by_cases z2:c2=0
 ·have z2d:(c2 != 0)=false:=by rw [z2];rfl
  have HE:=zH (show r=0 by rw [HE1.out,z2]);clear z2;go_quiet ((go_at_call 104;exact Calls.quiet_of_same (C2.out _)));go_wp2;rw [rounds_succ];go_wp2;go_ret;exact ⟨by rw [HE.out]<;>rfl,G1.drewN _⟩
 ·have z2d:(c2 != 0)=true:=by rw [bne_iff_ne];exact z2
  clear z2;go_quiet ((go_at_call 104;exact Calls.quiet_of_same (C2.out _)));go_wp2;go_ret;exact ⟨by rw [HE1.out]<;>rfl,G1.drewN _⟩
abbrev zeh:=KeyD × (Option Addr × Nat × Nat)
def zrc (x:zeh):List Value:=[.string x.1.1,.string x.1.2,.slice x.2.1 x.2.2.1 x.2.2.2]
theorem zwr (x:zeh):(zrc x).length=3:=rfl
theorem zwq (x:zeh):∀v∈zrc x,v.oneCell'=true:=by intro v hv;simp only [zrc,List.mem_cons,List.not_mem_nil,or_false] at hv;rcases hv with rfl | rfl | rfl<;>rfl
def cfLn (x y:zeh):Int:=cmpK x.1 y.1
theorem zrh (x y:zeh):ltOf cfLn x y=ltK x.1 y.1:=zapw x.1 y.1
theorem zapg:SWO ltK where
 irrefl:=zcl
 trans:=fun x y z h h2=>zhv h h2
 ntrans:=fun x y z h h2=>by
  cases h3:ltK x z with
  |false=>rfl
  |true =>
   cases h4:ltK z y with
   |true=>have:=zhv h3 h4;rw [h] at this;cases this
   |false=>rw [zhw h2 h4] at h;rw [h] at h3;cases h3
theorem zaku:SWO (ltOf cfLn) where
 irrefl:=fun x=>by rw [zrh];exact zcl _
 trans:=fun x y z h h2=>by rw [zrh] at *;exact zhv h h2
 ntrans:=fun x y z h h2=>by rw [zrh] at *;exact zapg.ntrans _ _ _ h h2
set_option maxHeartbeats 1000000 in
theorem zaph (x y:zeh) (w:World) :
  Calls Tryz.prog 86 #[.agg (zrc x).toArray,.agg (zrc y).toArray] w fun e w'=>e=.returned (.int .i64 (cfLn x y))∧Grew w w':=by
 have C1:=zH (fun B c w h0 h1 h2 h3=>zzu x.1 y.1 B c w h0 h1 h2 h3);have HQ:=zH (show cfLn x y=cmpK x.1 y.1 from rfl);generalize cfLn x y=r at HQ ⊢;rw [←HQ.out] at C1;obtain ⟨⟨x1,x2⟩,xa,xn,xc⟩:=x;obtain ⟨⟨y1,y2⟩,ya,yn,yc⟩:=y;simp only [zrc] at C1 ⊢;clear HQ;go_enter Tryz.func86,Tryz.ntmps86;go_wp2_with fail;have G1:Grew w (((w.alloc (.cells #[.string x1,.string x2,.slice xa xn xc] 85)).alloc (.cells #[.string y1,.string y2,.slice ya yn yc] 85)).alloc (.cells #[.string x1,.string y1,.string x2,.string y2] 9)):=(((Grew.refl w).alloc _).alloc _).alloc _;generalize hw1:((w.alloc _).alloc _).alloc _=w1;have H3:=gA33 hw1;rw [hw1] at G1;clear hw1;have H3:=zH H3;obtain ⟨kz,k0,k1,k2,k3⟩:=rk4 H3.out;refine (C1.out _ _ _ k0 k1 k2 k3).mono ?_;rintro e w2 ⟨rfl,G2⟩;have G3:=G1.trans G2;clear G1 G2 C1;go_wp2;go_ret;exact ⟨rfl,G3⟩
theorem zdk (v:Value) (ids:List ByteArray) (x:ByteArray) (w:World) (h:zaj w v ids) :
  Calls Tryz.prog 44 #[v,.string x] w fun e w'=>e=.returned (.bool (decide (x∈ids)))∧w'=w:=by
 obtain ⟨a,cap,rfl,hn,hz,hc⟩:=h;rcases Nat.eq_zero_or_pos ids.length with h0 | h0
 ·have:=Tryz.slices_Contains_string_empty a cap x w;rw [h0];refine this.mono ?_;rintro e w' ⟨rfl,rfl⟩;have:ids=[]:=List.length_eq_zero_iff.1 h0;subst this;exact ⟨by simp,rfl⟩
 ·obtain ⟨b,off,rfl,hcell⟩:=hc h0;have:=Tryz.slices_Contains_string b off ids.length cap ids x w zR (by omega) (fun j hj=>by
   have:=hcell j (ids[j]) (List.getElem?_eq_getElem hj)
   rw [this]
   simp [List.getD,List.getElem?_eq_getElem hj])
  refine this.mono ?_;rintro e w' ⟨rfl,rfl⟩;refine ⟨?_,rfl⟩;rw [List.take_of_length_le zR];congr 2;rw [Bool.eq_iff_iff,decide_eq_true_eq];exact Lib.containsS_iff _ _
end Go.Proofs.YtibpaaajghbkoaaGreat

namespace Go.Proofs.YtibpaaajghbkoaaGreat
open Go.RowKit
def zfy (cur:Array Value) (o:Nat):List Value→Array Value
 |[]=>cur
 |v :: r=>zfy (cur.setIfInBounds o v) (o+1) r
theorem zjs:∀(vs:List Value) (cur:Array Value) (o:Nat),(zfy cur o vs).size=cur.size
 |[],_,_=>rfl
 |v :: r,cur,o=>by rw [zfy,zjs r,Array.size_setIfInBounds]
theorem ziv:∀(vs:List Value) (cur:Array Value) (o:Nat),o+vs.length≤cur.size→∀i,(zfy cur o vs)[i]?=if o≤i∧i<o+vs.length then vs[i - o]? else cur[i]?
 |[],cur,o,_,i=>by rw [zfy,if_neg (fun c=>by simp at c;omega)]
 |v :: r,cur,o,h,i=>by
  have h':o+1+r.length≤(cur.setIfInBounds o v).size:=by simp at h ⊢;omega
  rw [zfy,ziv r _ _ h'];simp only [List.length_cons] at h ⊢;by_cases h1:i=o
  ·subst h1;rw [if_neg (by omega),if_pos ⟨Nat.le_refl _,by omega⟩,Nat.sub_self,Array.getElem?_setIfInBounds,if_pos rfl,if_pos (by omega)];rfl
  ·by_cases h2:o+1≤i∧i<o+1+r.length
   ·rw [if_pos h2,if_pos ⟨by omega,by omega⟩,show i - o=(i - (o+1))+1 by omega,List.getElem?_cons_succ]
   ·rw [if_neg h2,if_neg (by omega),Array.getElem?_setIfInBounds,if_neg (Ne.symm h1)]
theorem zbf {g:Nat} {t:TypeId}:∀(vs:List Value) (o:Nat) (w:World) (cur:Array Value),w.heap[g]?=some (.cells cur t (0,0))→(w.setCells g o vs).heap[g]?=some (.cells (zfy cur o vs) t (0,0))
 |[],_,_,_,h=>h
 |v :: r,o,w,cur,h=>by rw [World.setCells,zfy];exact zbf r (o+1) _ _ (heap_setCell_same w g o cur t v h)
theorem zal {g:Nat}:∀(vs:List Value) (o:Nat) (w:World),w.grownBy (w.setCells g o vs) (some g)
 |[],_,w=>World.grownBy.refl _ _
 |v :: r,o,w=>by rw [World.setCells];have h1:w.grownBy (w.setCell ⟨g,o,none⟩ v) (some g):=⟨rfl,rfl,rfl,by simp [World.setCell],fun k _ hk=>Below.heap_setCell w ⟨g,o,none⟩ v k (fun e=>hk (by rw [e]))⟩;exact h1.trans (zal r (o+1) _)
theorem zgq (z:Array Value) (n:Nat):(Builtin.zeroCells z n).toList.length=n * z.size:=by simp [Builtin.zeroCells]
theorem zvk {P:Program} {w:World} {T E ty:TypeId} {g o n c:Nat} {z:Value} {cur:Array Value} {t:TypeId} (hT:P.underlying T=some (.slice E)) (hz:(zeroValue E).run P w=.ok z w) (hg:w.heap[g]?=some (.cells cur t (0,0)))
  (hr:o+n * z.cells.size≤cur.size) (hn:0<n) (h1:∀v∈(Builtin.zeroCells z.cells n).toList,v.oneCell'=true) :
  (Builtin.clear_ #[T] ty #[.slice (some ⟨g,o,none⟩) n c]).run P w=.ok (.tuple #[]) (w.setRow g (cur.toList.take o++(Builtin.zeroCells z.cells n).toList++cur.toList.drop (o+n * z.cells.size)).toArray):=by
 have hs:=run_storeCells_at (P:=P) g o t (Builtin.zeroCells z.cells n).toList 0 cur w hg (by rw [zgq];omega) h1;rw [zgq,Nat.add_zero] at hs;obtain ⟨m,rfl⟩:∃m,n=m+1:=⟨n - 1,by omega⟩;simp [Builtin.clear_,run_underlying hT,hz,Result.andThen,hs]
end Go.Proofs.YtibpaaajghbkoaaGreat

namespace Go.Proofs.YtibpaaajghbkoaaGreat
open Go.RowKit Go.Maps Go.ChangeMaps
theorem zapj:laidOutB Tryz.prog=true:=by kernel_rfl
theorem zaqk:∃m,Tryz.prog.types.size=m+1:=⟨Tryz.prog.types.size - 1,by kernel_rfl⟩
theorem ztb:∃m,Tryz.prog.types.size=m+2:=⟨Tryz.prog.types.size - 2,by kernel_rfl⟩
theorem ztc:decide (160<Tryz.prog.types.size)=true:=by kernel_rfl
theorem zail:Tryz.prog.keyTypeAt 3 83=true:=by kernel_rfl
theorem zaqs:Tryz.prog.keyTypeAt 3 130=true:=by kernel_rfl
theorem zaqt:Tryz.prog.keyTypeAt 3 33=true:=by kernel_rfl
theorem keyK:Keyed Tryz.prog 83:=Keyed.of_law (deep_law_laid zapj (m:=3) (by omega) (Nat.lt_trans (by decide) (of_decide_eq_true ztc)) zail (by kernel_rfl))
theorem zarl:Keyed Tryz.prog 130:=Keyed.of_law (deep_law_laid zapj (m:=3) (by omega) (Nat.lt_trans (by decide) (of_decide_eq_true ztc)) zaqs (by kernel_rfl))
theorem zame:Keyed Tryz.prog 33:=Keyed.of_law (deep_law_laid zapj (m:=3) (by omega) (Nat.lt_trans (by decide) (of_decide_eq_true ztc)) zaqt (by kernel_rfl))
abbrev keyV (k:KeyD):Value:=.agg #[.string k.1,.string k.2]
abbrev intK (k:Int × Int):Value:=.agg #[.int .i64 k.1,.int .i64 k.2]
theorem zka:∀x y:KeyD,keyV x=keyV y→x=y:=fun x y h=>by simp only [keyV,Value.agg.injEq,Array.mk.injEq,List.cons.injEq,Value.string.injEq,and_true] at h;exact Prod.ext h.1 h.2
theorem zne:∀x y:Int × Int,intK x=intK y→x=y:=fun x y h=>by simp only [intK,Value.agg.injEq,Array.mk.injEq,List.cons.injEq,Value.int.injEq,and_true,true_and] at h;exact Prod.ext h.1 h.2
theorem zaij:Tryz.prog.keyType 83=true:=by kernel_rfl
theorem zaik:Tryz.prog.keyType 33=true:=by kernel_rfl
theorem zum:Tryz.prog.cellsOf 83=2:=by kernel_rfl
theorem zapx:Tryz.prog.cellsOf 130=2:=by kernel_rfl
theorem zaju:Tryz.prog.cellsOf 33=2:=by kernel_rfl
theorem zanx:Tryz.prog.cellsOf 9=1:=by kernel_rfl
theorem zajv:Tryz.prog.cellsOf 3=1:=by kernel_rfl
theorem zud {k:KeyD} (h1:k.1.size≤140737488355328) (h2:k.2.size≤140737488355328):∃kl,keyOf Tryz.prog 83 (keyV k)=some kl:=by
 obtain ⟨m,hm⟩:=ztb;have a1:k.1.size≤maxLen:=by unfold maxLen;omega
 have a2:k.2.size≤maxLen:=by unfold maxLen;omega
 refine ⟨.string (keyBytes [.string k.1.data.toList,.string k.2.data.toList]),?_⟩;unfold keyOf;simp only [Tryz.underlying83];rw [if_pos (by simp [zaij,Value.formed,Tryz.underlying83,zum]),hm];unfold Program.keyLits;simp only [Tryz.underlying83,Value.cells];rw [if_pos (by rw [zum];rfl),show List.range 2=[0,1] from rfl,List.mapM_cons,List.mapM_cons,List.mapM_nil];simp [zanx,Program.keyLits,Tryz.underlying9,a1,a2]
theorem zapm {k:Int × Int} (h1:(Lit.int .i64 k.1).wf=true) (h2:(Lit.int .i64 k.2).wf=true):∃kl,keyOf Tryz.prog 130 (intK k)=some kl :=
 ⟨_,WideMaps.keyOf_pair ⟨Tryz.underlying130,by kernel_rfl,zajv,zapx⟩ Tryz.underlying3 zaqk h1 h2⟩
theorem zanp {k:Int × Int} (h1:(Lit.int .i64 k.1).wf=true) (h2:(Lit.int .i64 k.2).wf=true):∃kl,keyOf Tryz.prog 33 (intK k)=some kl:=by obtain ⟨m,hm⟩:=ztb;refine ⟨.string (keyBytes [.int .i64 k.1,.int .i64 k.2]),?_⟩;unfold keyOf;simp only [Tryz.underlying33];rw [if_pos (by simp [zaik,Value.formed,Tryz.underlying33,zaju]),hm];unfold Program.keyLits;simp only [Tryz.underlying33,Value.cells];rw [if_pos ⟨by rw [zaju];rfl,by kernel_rfl⟩];simp [zajv,Program.keyLits,Tryz.underlying3,h1,h2]
end Go.Proofs.YtibpaaajghbkoaaGreat
