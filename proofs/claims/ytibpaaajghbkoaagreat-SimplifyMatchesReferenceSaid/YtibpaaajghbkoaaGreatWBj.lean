/-    -/
import Derived.Test.YtibpaaajghbkoaaGreatWBf
import Derived.Test.YtibpaaajghbkoaaGreatWAt
import Derived.Test.YtibpaaajghbkoaaGreatWAp
import Derived.Maps.AppendAt
import Derived.Test.YtibpaaajghbkoaaGreatWAj
import Derived.Test.YtibpaaajghbkoaaGreatWBd
import Derived.Test.YtibpaaajghbkoaaGreatWBa
import Derived.Test.YtibpaaajghbkoaaGreatWAs
namespace Go.Proofs.YtibpaaajghbkoaaGreat
open Go.RowKit Go.Shelf Go.Sort
attribute [local go_sem] Oper.semAt_some
theorem zapn:(Tryz.prog.info? 33).map (fun i=>(i.zero,i.size,i.bytes))=some (some (.agg #[.int .i64 0,.int .i64 0]),2,16):=by kernel_rfl
set_option maxRecDepth 100000 in
set_option maxHeartbeats 2000000 in
theorem zafe (Bn:Nat) (L:List Pt) (vt:Value) (w:World) (hL:L.length≤1000) (hv:RowE zfu 2 w vt L) (hBn:w.heap[Bn]?=some (.cells #[vt] 50 (0,0))) :
  Calls Tryz.prog 255 #[.slice none 0 0,.func (.func 230) #[] #[.pointer (some ⟨Bn,0,none⟩)]] w fun e w' =>
   ∃v,e=.returned v∧w'.ownsRow w.heap.size 33 2 v L.length (L.flatMap zfu)∧Below w.heap.size w w':=by
 obtain ⟨i0,hi,hz0,hz1,hz2⟩:=info_parts zapn;refine (callsIn_wide (n:=5)).1 ?_;refine callsIn_of_wp_marks Tryz.func255 rfl trivial ?_ rfl;simp only [Tryz.ntmps255,List.size_toArray,List.length_cons,List.length_nil,Nat.reduceAdd,Nat.reduceSub,Array.replicate_succ,Array.replicate_zero,List.push_toArray,List.append_toArray,List.nil_append,List.cons_append];have hB0:Below w.heap.size w (w.alloc (.cells #[.slice none 0 0] 50)):=(Below.refl _ w).alloc zR _;have bO:=Boxed.new w 50 (.slice none 0 0);have ST:=zH (zacv 4 (by omega) Bn vt L w (w.alloc (.cells #[.slice none 0 0] 50)) hv (by omega) (fun k hk=>hB0.block k hk) hB0.size (zao hBn));have hzW:(w.alloc (.cells #[.slice none 0 0] 50)).heap.size=w.heap.size+1:=by simp
 gi_wp2;generalize hW0:w.alloc (.cells #[.slice none 0 0] 50)=W0 at *;clear hW0 hv hBn;refine wpIn_rangeFunc_ownH rfl (by omega) (gf:=230) (lb:=#[.pointer (some ⟨Bn,0,none⟩)]) rfl trivial (enters_of Tryz.func230 (by kernel_rfl) rfl)
  ST.out KpN.trans
  (fun W l o o' hl _ _ _=>⟨fun k hk=>World.putObj_heap_other (by omega),(grownBy_putObj' W l o').size⟩) (Below.refl _ _) (fun _=>rfl)
  (fun pre W=>((∃v,Boxed W w.heap.size 50 v∧W.ownsRow w.heap.size 33 2 v pre.length (pre.flatMap zfu)∧True)∧Below w.heap.size w W)∧W0.heap.size≤W.heap.size)
  (fun _ _ _=>False)
  (OwnFrom.and (OwnFrom.and (Own.from (holdsRow_own w.heap.size w.heap.size 50 33 2 (fun pre:List Pt=>pre.length) (fun pre=>pre.flatMap zfu) (fun _ _=>True)) _) (ownFrom_below zR (by omega))) (fun _ _ _ _ hs hg _=>Nat.le_trans hs hg.size))
  (fun _ _ _ _ _ hs _ _=>hs)
  ⟨⟨⟨_,bO,World.ownsRow_nil _ _ _ _,trivial⟩,hB0⟩,Nat.le_refl _⟩
  (fun x a' W=>∃Bx,W.heap[Bx]?=some (.cells #[.int .i64 x.1,.int .i64 x.2] 33 (0,0))∧W0.heap.size≤Bx∧a'={ tmps:=#[.slice none 0 0,.func (.func 230) #[] #[.pointer (some ⟨Bn,0,none⟩)],.pointer (some ⟨w.heap.size,0,none⟩),undef,.slice none 0 0,.pointer (some ⟨Bx,0,none⟩),.func (.func 230) #[] #[.pointer (some ⟨Bn,0,none⟩)],.agg #[.int .i64 x.1,.int .i64 x.2],undef,undef,undef,undef,undef],defers:=[] })
  (fun x a' _ X Y row hs hg hr=>by obtain ⟨Bx,h2,h3⟩:=hs;exact ⟨Bx,zcm rfl hg (fun r e=>(hr r e).2) h2,h3⟩)
  ?assign ?body ?done ?stop
 case assign =>rintro l pre x W K ⟨⟨⟨v,hv,hrow,_⟩,hB⟩,hsz⟩ hK;simp only [zfu] at *;gi_wp2;exact hK _ _ ((KeepsOthers.alloc _ _).from _) ⟨fun k hk=>Below.heap_alloc _ _ _ (by omega),by simp⟩ ⟨⟨⟨v,hv.alloc _,hrow.alloc _,trivial⟩,hB.alloc (by omega) _⟩,by simp;omega⟩ ⟨W.heap.size,zan _ _,hsz,rfl⟩
 case body =>rintro l pre x a' W hl2 ⟨r,hr⟩ ⟨⟨⟨v,hv,hrow,_⟩,hB⟩,hsz⟩ ⟨Bx,hX,hBx,rfl⟩ hlt;have hc:=hv.cell;obtain ⟨xcz,xc0,xc1⟩:=rk2 hX;have hX':=zH hX;clear hX;have hXa:=zao (o':=.cells #[.int .i64 x.1,.int .i64 x.2] 33) hX'.out;clear hX';gi_wp2_with (gi_at_builtin;refine wpListIn_append_own _ rfl _ _ 50 rfl w.heap.size 33 i0 (.agg #[.int .i64 0,.int .i64 0]) 2 16 Tryz.underlying50 hi hz0 hz1 hz2 rfl (by decide) _ _ _ rfl (hrow.alloc _) ⟨W.heap.size,0,none⟩ 1 1 (zfu x) rfl rfl (zec W (zfu x) 33) (zrb x) (by unfold maxLen;omega) (by omega) (by have:=hB.size;simp;omega) ?_;intro v' w1 hown' hgrow _;obtain ⟨g',cap',rfl⟩:=ownsRow_succ hown';obtain ⟨hv1,hv2,hr2,hk2,hb2⟩:=hv.appended (by decide) hrow hB.size zR hown' hgrow;have hc1:=hv1.cell;have hf1:=hv1.frozen);have hk3:KpN w.heap.size W (w1.setCell ⟨w.heap.size,0,none⟩ (.slice (some ⟨g',0,none⟩) (pre.length+1) cap')):=⟨fun k hk=>hb2.block k hk,hb2.size⟩;exact ⟨hk2.from _,hk3,⟨⟨_,hv2,by rw [List.flatMap_append];simpa using hr2,trivial⟩,hB.trans hb2⟩,Nat.le_trans hsz hb2.size⟩
 case done =>rintro D ys W hD rfl ⟨⟨⟨v,hv,hrow,_⟩,hB⟩,hsz⟩ hK;have hc:=hv.cell;gi_wp2;refine ⟨by simp,.inl ⟨_,_,rfl,run_takeDeferred hK,?_⟩⟩;exact ⟨_,results_tmp rfl _ _ _,v,rfl,ownsRow_putObj hrow _ hK rfl,hB.trans (belowK_b (w:=w) zR W D _ _ (by omega) hK rfl rfl)⟩
 case stop =>rintro D c pre W _ _ h _;exact h.elim
theorem zzw (Bn:Nat) (L:List Pt) (vt:Value) (w:World) (hL:L.length≤1000) (hv:RowE zfu 2 w vt L) (hBn:w.heap[Bn]?=some (.cells #[vt] 50 (0,0))) :
  Calls Tryz.prog 228 #[.func (.func 230) #[] #[.pointer (some ⟨Bn,0,none⟩)]] w fun e w' =>
   ∃v,e=.returned v∧w'.ownsRow w.heap.size 33 2 v L.length (L.flatMap zfu)∧Below w.heap.size w w':=by
 have AS:=zH (zafe Bn L vt w hL hv hBn);go_enter Tryz.func228,Tryz.ntmps228;go_wp2_with fail;refine AS.out.mono ?_;rintro e w2 ⟨v,rfl,hown,hb⟩;have HO:=zH hown;go_wp2;go_ret;exact ⟨v,rfl,HO.out,hb⟩
theorem zaql:SWO (ltOf lexC) where
 irrefl:=fun x=>by show decide (lexC x x<0)=false;unfold lexC;simp
 trans:=fun x y z h h2=>by
  have h:lexC x y<0:=of_decide_eq_true h;have h2:lexC y z<0:=of_decide_eq_true h2;refine decide_eq_true ?_;unfold lexC at *;repeat' split at h
  all_goals (try omega)
  all_goals (repeat' split at h2)
  all_goals (try omega)
  all_goals (repeat' split)
  all_goals omega
 ntrans:=fun x y z h h2=>by
  have h:¬lexC x y<0:=of_decide_eq_false h;have h2:¬lexC y z<0:=of_decide_eq_false h2;refine decide_eq_false ?_;unfold lexC at *;repeat' split at h
  all_goals (try omega)
  all_goals (repeat' split at h2)
  all_goals (try omega)
  all_goals (repeat' split)
  all_goals omega
theorem zyc (Bn:Nat) (L:List Pt) (vt:Value) (w:World) (hL:L.length≤1000) (hv:RowE zfu 2 w vt L) (hBn:w.heap[Bn]?=some (.cells #[vt] 50 (0,0))) :
  Calls Tryz.prog 164 #[.func (.func 230) #[] #[.pointer (some ⟨Bn,0,none⟩)],.func (.func 51) #[] #[]] w fun e w' =>
   ∃(v:Value) (L':List Pt),e=.returned v∧L'.Perm L∧L'.Pairwise (fun x y=>ltOf lexC y x=false)∧w'.ownsRow w.heap.size 33 2 v L'.length (L'.flatMap zfu)∧Below w.heap.size w w':=by
 have CO:=zH (zzw Bn L vt w hL hv hBn);have SO:=zH (fun (v:Value) (W:World) (h:W.ownsRow w.heap.size 33 2 v L.length (L.flatMap zfu)) =>
  zli Tryz.sort_pt 2 Tryz.isAgg33 Tryz.sizeOf33 zfu zeb zrb lexC zaql 51 #[] (enters_of Tryz.func51 (by kernel_rfl) rfl) rfl (by omega) (fun W _ x y=>zaek x y W) h)
 go_enter Tryz.func164,Tryz.ntmps164;go_wp2_with fail;refine CO.out.mono ?_;rintro e w2 ⟨v,rfl,hown,hb⟩;have HO:=zH hown;have HS:=zH (SO.out v w2 hown);clear hown;go_wp2_with fail;refine HS.out.mono ?_;rintro e w3 ⟨rfl,L',hp,hso,hown,hg⟩;have HE:=zH (And.intro hp (And.intro hso (And.intro (show w3.ownsRow w.heap.size 33 2 v L'.length (L'.flatMap zfu) by rw [hp.length_eq];exact hown) (hb.grown hg hb.size (fun j hj=>(zap HO.out j hj).1)))));clear hp hso hown hg hb;go_wp2;go_ret;exact ⟨v,L',rfl,HE.out⟩
end Go.Proofs.YtibpaaajghbkoaaGreat

namespace Go.Proofs.YtibpaaajghbkoaaGreat
open Go.RowKit Go.Sort
theorem zabr {a b:Pt} (h:lexC a b≤0) (h2:lexC b a≤0):a=b:=by
 obtain ⟨a1,a2⟩:=a;obtain ⟨b1,b2⟩:=b;unfold lexC at *;simp only at *;have:a1=b1∧a2=b2:=by
  repeat' split at h
  all_goals (try omega)
  all_goals (repeat' split at h2)
  all_goals omega
 rw [this.1,this.2]
theorem zok {a b:Pt}:¬lexC a b<0↔lexC b a≤0:=by
 unfold lexC;constructor
 ·intro h;repeat' split at h
  all_goals (try omega)
  all_goals (repeat' split)
  all_goals omega
 ·intro h;repeat' split at h
  all_goals (try omega)
  all_goals (repeat' split)
  all_goals omega
theorem zlq (a:Pt):lexC a a≤0:=by unfold lexC;simp
theorem zin {a b c:Pt} (h:lexC a b≤0) (h2:lexC b c≤0):lexC a c≤0:=by rw [←zok] at *;intro c1;have:=zaql.ntrans c b a (decide_eq_false h2) (decide_eq_false h);exact (of_decide_eq_false this) c1
theorem zahr (a b:Pt):lexC (minC a b) a≤0∧lexC (minC a b) b≤0∧(minC a b=a∨minC a b=b):=by
 unfold minC;by_cases h:lexC b a<0
 ·rw [if_pos h];exact ⟨by omega,zlq b,Or.inr rfl⟩
 ·rw [if_neg h];exact ⟨zlq a,zok.1 h,Or.inl rfl⟩
theorem zahv (a b:Pt):lexC a (maxC a b)≤0∧lexC b (maxC a b)≤0∧(maxC a b=a∨maxC a b=b):=by
 unfold maxC;by_cases h:lexC a b<0
 ·rw [if_pos h];exact ⟨by omega,zlq b,Or.inr rfl⟩
 ·rw [if_neg h];exact ⟨zlq a,zok.1 h,Or.inl rfl⟩
theorem zuv {a b c:Pt} {L:List Pt} (hp:L.Perm [a,b,c]) (hs:L.Pairwise (fun x y=>ltOf lexC y x=false)):∃m,L=[minC a (minC b c),m,maxC a (maxC b c)]:=by
 have hl:=hp.length_eq
 match L,hl with
 |[x,y,z],_ =>
  simp only [List.pairwise_cons,List.mem_cons,List.not_mem_nil,or_false,forall_eq_or_imp,forall_eq] at hs;obtain ⟨⟨h1,h2⟩,h3,-⟩:=hs;have h1:lexC x y≤0:=zok.1 (of_decide_eq_false h1);have h2:lexC x z≤0:=zok.1 (of_decide_eq_false h2);have h3:lexC y z≤0:=zok.1 (of_decide_eq_false h3);have hx:∀q∈[a,b,c],lexC x q≤0∧lexC q z≤0:=fun q hq=>by
   have:=hp.mem_iff.2 hq;simp only [List.mem_cons,List.not_mem_nil,or_false] at this;rcases this with rfl | rfl | rfl
   ·exact ⟨zlq _,h2⟩
   ·exact ⟨h1,h3⟩
   ·exact ⟨h2,zlq _⟩
  obtain ⟨m1,m2,m3⟩:=zahr b c;obtain ⟨n1,n2,n3⟩:=zahr a (minC b c);obtain ⟨o1,o2,o3⟩:=zahv b c;obtain ⟨q1,q2,q3⟩:=zahv a (maxC b c);have hmin:∀q∈[a,b,c],lexC (minC a (minC b c)) q≤0:=fun q hq=>by
   simp only [List.mem_cons,List.not_mem_nil,or_false] at hq;rcases hq with rfl | rfl | rfl
   ·exact n1
   ·exact zin n2 m1
   ·exact zin n2 m2
  have hmax:∀q∈[a,b,c],lexC q (maxC a (maxC b c))≤0:=fun q hq=>by
   simp only [List.mem_cons,List.not_mem_nil,or_false] at hq;rcases hq with rfl | rfl | rfl
   ·exact q1
   ·exact zin o1 q2
   ·exact zin o2 q2
  have hmm:minC a (minC b c)∈[a,b,c]:=by
   rcases n3 with h | h
   ·rw [h];simp
   ·rw [h];rcases m3 with h | h<;>rw [h]<;>simp
  have hMM:maxC a (maxC b c)∈[a,b,c]:=by
   rcases q3 with h | h
   ·rw [h];simp
   ·rw [h];rcases o3 with h | h<;>rw [h]<;>simp
  refine ⟨y,?_⟩;rw [zabr (hx _ hmm).1 (hmin x (hp.mem_iff.1 (by simp))),zabr (hx _ hMM).2 (hmax z (hp.mem_iff.1 (by simp)))]
theorem zpu (n:Int):sgn n=-1∨sgn n=0∨sgn n=1:=by
 unfold sgn;repeat' split
 all_goals simp
theorem zark:Tryz.prog.keyTypeAt 3 161=true:=by kernel_rfl
theorem zajt:Tryz.prog.cellsOf 161=3:=by kernel_rfl
theorem zrw (a b c:Int) (h1:(Lit.int .i64 a).wf=true) (h2:(Lit.int .i64 b).wf=true) (h3:(Lit.int .i64 c).wf=true):∃(D:Nat),Tryz.prog.keyLits D 161 (Value.agg #[.int .i64 a,.int .i64 b,.int .i64 c]).cells.toList=some [.int .i64 a,.int .i64 b,.int .i64 c]∧(Value.agg #[.int .i64 a,.int .i64 b,.int .i64 c]).formed Tryz.prog 161=true:=by obtain ⟨m,hm⟩:=ztb;refine ⟨m+2,?_,by simp [Value.formed,Tryz.underlying161,zajt]⟩;unfold Program.keyLits;simp only [Tryz.underlying161,Value.cells];rw [if_pos (by rw [zajt];rfl),show List.range 3=[0,1,2] from rfl,List.mapM_cons,List.mapM_cons,List.mapM_cons,List.mapM_nil];simp [zajv,Program.keyLits,Tryz.underlying3,h1,h2,h3]
set_option maxRecDepth 100000 in
theorem zaje (a b c x y z:Int) (w:World) (h1:(Lit.int .i64 a).wf=true) (h2:(Lit.int .i64 b).wf=true) (h3:(Lit.int .i64 c).wf=true) (g1:(Lit.int .i64 x).wf=true) (g2:(Lit.int .i64 y).wf=true) (g3:(Lit.int .i64 z).wf=true) :
  (binOp .eql 161 (.agg #[.int .i64 a,.int .i64 b,.int .i64 c]) (.agg #[.int .i64 x,.int .i64 y,.int .i64 z])).run Tryz.prog w=.ok (.bool (decide (a=x∧b=y∧c=z))) w:=by
 obtain ⟨D,hD,fD⟩:=zrw a b c h1 h2 h3;obtain ⟨D',hD',fD'⟩:=zrw x y z g1 g2 g3;obtain ⟨r,hr,hiff⟩:=run_equalIn_deep 9997 3 161 zark w D D' (.agg #[.int .i64 a,.int .i64 b,.int .i64 c]) (.agg #[.int .i64 x,.int .i64 y,.int .i64 z]) _ _ fD fD' hD hD';simp only [Nat.reduceAdd] at hr;simp only [run_eql_struct];rw [hr];simp only [Result.andThen];congr 2;rw [Bool.eq_iff_iff,hiff,decide_eq_true_eq];simp only [List.cons.injEq,Lit.int.injEq,and_true,true_and]
set_option maxRecDepth 100000 in
set_option maxHeartbeats 4000000 in
theorem zamk (a b c p:Pt) (ha:zat a=true) (hb:zat b=true) (hc:zat c=true) (hp:zat p=true) (w:World) :
  Calls Tryz.prog 114 #[triV a b c,ptV p] w fun e w'=>e=.returned (.bool (hasT a b c p))∧Below w.heap.size w w':=by
 have mixed:Tryz.prog.follows .mixedOrders=true:=by kernel_rfl
 have O1:=zH (fun W=>zfp a b p ha hb hp W);have O2:=zH (fun W=>zfp b c p hb hc hp W);have O3:=zH (fun W=>zfp c a p hc ha hp W);have TW:=zH (fun W=>zuu a b c ha hb hc W);have HT:=zH (show hasT a b c p=if crs a b c≠0 then decide (0≤sgn (crs a b p)∧0≤sgn (crs b c p)∧0≤sgn (crs c a p)) || decide (sgn (crs a b p)≤0∧sgn (crs b c p)≤0∧sgn (crs c a p)≤0)
  else decide (sgn (crs a b p)=0∧sgn (crs b c p)=0∧sgn (crs c a p)=0) && decide (lexC (minC a (minC b c)) p≤0) && decide (lexC p (maxC a (maxC b c))≤0) from rfl)
 generalize hasT a b c p=res at HT ⊢;have hs1:=zpu (crs a b p);have hs2:=zpu (crs b c p);have hs3:=zpu (crs c a p);generalize sgn (crs a b p)=s1 at O1 HT hs1;generalize sgn (crs b c p)=s2 at O2 HT hs2;generalize sgn (crs c a p)=s3 at O3 HT hs3;generalize crs a b c=t at TW HT;have CM:=zH (fun q r W=>zkx q r W);have SRT:=zH (fun (L:List Pt) (h:L.Perm [a,b,c]) h2=>zuv h h2);generalize hmn:minC a (minC b c)=mn at HT SRT;generalize hmx:maxC a (maxC b c)=mx at HT SRT;clear hmn hmx ha hb hc hp;obtain ⟨ax,ay⟩:=a;obtain ⟨bx,by1⟩:=b;obtain ⟨cx,cy⟩:=c;obtain ⟨px,py⟩:=p;go_enter Tryz.func114,Tryz.ntmps114;go_wp2_with fail;generalize hw1:(w.alloc _).alloc _=w1;have B1:=gB2 hw1;have H2:=gA21 hw1;have H3:=gA22 hw1;have hz1:w1.heap.size=w.heap.size+2:=by rw [←hw1];simp
 have H2:=zH H2;have H3:=zH H3;clear hw1;refine wp_region_mix 19 (fun W=>Below w1.heap.size w1 W) (fun W=>Below w1.heap.size w1 W) mixed (by kernel_rfl) (by kernel_rfl) (by kernel_rfl) (StableW.below _ _ zR) (fun W hW=>hW) (Below.refl _ _).drew ?_;apply Exists.intro;refine ⟨fun W hW=>?_,?_⟩
 ·have HA:=zH (zab hW H2.out);have HB:=zH (zab hW H3.out);obtain ⟨xz,x0,x1,x2,x3,x4,x5⟩:=rk6 HA.out;have qx0:=zaa x0;have qx1:=zaa x1;have qx2:=zaa x2;have qx3:=zaa x3;have qx4:=zaa x4;have qx5:=zaa x5;clear x0 x1 x2 x3 x4 x5;obtain ⟨yz,y0,y1⟩:=rk2 HB.out;have qy0:=zaa y0;have qy1:=zaa y1;clear y0 y1;simp only [List.take_succ_cons,List.take_zero];iterate 6 (go_big_quiet_step ((go_at_call 50;exact zad (O1.out _))))
  iterate 6 (go_big_quiet_step ((go_at_call 50;exact zad (O2.out _))))
  repeat (go_big_quiet_step ((go_at_call 50;exact zad (O3.out _))))
  exact wpQuiet_nil rfl
 ·simp only [List.drop_succ_cons,List.drop_zero];refine tailM_step (ι:=Nat) (fun g=>.pointer (some ⟨g,0,none⟩)) (fun g W=>Below w1.heap.size w1 W∧W.heap[g]?=some (.cells #[.int .i64 0,.int .i64 0,.int .i64 0] 161)∧w1.heap.size≤g) rfl (fun g=>(StableW.below _ _ zR).and ((StableW.row _ _).and (StableW.const _))) (fun _ _ h=>h.1) (fun W hS K hK=>?_) (fun g=>?_)
  ·go_simp;exact hK W.heap.size _ ⟨hS.alloc hS.size _,zan _ _,hS.size⟩
  simp only [Act.put,List.setIfInBounds_toArray,List.set_cons_succ,List.set_cons_zero];refine tailM_step (ι:=Unit) (fun _=>undef) (fun _ W=>Below w1.heap.size w1 W∧W.heap[g]?=some (.cells #[.int .i64 s1,.int .i64 s2,.int .i64 s3] 161)∧w1.heap.size≤g) rfl (fun _=>(StableW.below _ _ zR).and ((StableW.row _ _).and (StableW.const _))) (fun _ _ h=>h.1) (fun W hS K hK=>?_) (fun _=>?_)
  ·obtain ⟨hS1,hS2,hS3⟩:=hS;have HS2:=zH hS2;clear hS2;obtain ⟨ccz,cc0,cc1,cc2⟩:=rk3 HS2.out;have ccf0:=frozen_of_row W _ 0 _ _ HS2.out;have ccf1:=frozen_of_row W _ 1 _ _ HS2.out;have ccf2:=frozen_of_row W _ 2 _ _ HS2.out;have K1:=zH (zbf [.int .i64 s1,.int .i64 s2,.int .i64 s3] 0 W _ HS2.out);have K3:=zH (hS1.grown (zal (g:=g) [.int .i64 s1,.int .i64 s2,.int .i64 s3] 0 W) hS1.size (fun j hj=>by injection hj with hj;omega));simp only [World.setCells] at K1 K3;go_simp;exact hK () _ ⟨K3.out,K1.out,hS3⟩
  simp only [Act.put];refine tailM_nil fun W hW=>?_;obtain ⟨hW1,hW2,hW3⟩:=hW;have HS:=zH hW2;clear hW2;obtain ⟨w3,rfl⟩:∃z:World,z=W:=⟨_,rfl⟩;have H2:=zH (zab hW1 H2.out);have H3:=zH (zab hW1 H3.out);have B3:=zac B1 (by omega) hW1;have hz3:=hW1.size;clear hW1 O1 O2 O3 B1;obtain ⟨xz,x0,x1,x2,x3,x4,x5⟩:=rk6 H2.out;go_wp2_with fail;refine (TW.out _).mono ?_;rintro e w4 ⟨rfl,hb4⟩;have B4:=zac B3 (by omega) hb4;clear x0 x1 x2 x3 x4 x5 xz;have H2:=zH (zab hb4 H2.out);have H3:=zH (zab hb4 H3.out);have HS:=zH (zab hb4 HS.out);have hz4:=hb4.size;clear hb4 B3;by_cases ht:t=0
  ·subst ht;have HR:=zH (show res=(decide (s1=0∧s2=0∧s3=0) && decide (lexC mn (px,py)≤0) && decide (lexC (px,py) mx≤0)) by rw [HT.out,if_neg (by simp)]);have hr3:RowE zfu 2 w4 (.slice (some ⟨w.heap.size,0,none⟩) 3 3) [(ax,ay),(bx,by1),(cx,cy)]:=RowE.of_block (l:=[(ax,ay),(bx,by1),(cx,cy)]) zeb rfl H2.out 3 rfl;have VA:=zH (fun W=>zakq (some ⟨w.heap.size,0,none⟩) 3 3 W);have BV:Below w4.heap.size w4 (w4.alloc (.cells #[.slice (some ⟨w.heap.size,0,none⟩) 3 3] 50)):=(Below.refl _ _).alloc zR _;have SO:=zH (zyc w4.heap.size [(ax,ay),(bx,by1),(cx,cy)] (.slice (some ⟨w.heap.size,0,none⟩) 3 3) (w4.alloc (.cells #[.slice (some ⟨w.heap.size,0,none⟩) 3 3] 50)) (by simp) (hr3.later BV) (zan _ _));clear HT hr3 TW;go_wp2_with (first | (go_at_call 165;refine (VA.out _).mono ?_;rintro e' w' ⟨rfl,rfl⟩) | fail);refine SO.out.mono ?_;rintro e w5 ⟨v,L',rfl,hperm,hso,hown,hb5⟩;obtain ⟨m,hL'⟩:=SRT.out L' hperm hso;subst hL';have B45:=zac BV (by omega) hb5;have B5:=zac B4 (by omega) B45;have H3:=zH (zab B45 H3.out);have HS:=zH (zab B45 HS.out);have hre:=RowE.of_own zeb rfl hown;obtain ⟨av,capv,hv,hcv⟩:=hre;subst hv;obtain ⟨bv,ov,hav,hcell⟩:=hcv (Nat.succ_pos _);subst hav;have m0:=hcell 0 mn rfl 0 _ rfl;have m1:=hcell 0 mn rfl 1 _ rfl;have m2:=hcell 2 mx rfl 0 _ rfl;have m3:=hcell 2 mx rfl 1 _ rfl;simp only [Nat.zero_mul,Nat.add_zero,Nat.reduceMul] at m0 m1 m2 m3;have wf1:(Lit.int .i64 s1).wf=true:=by rcases hs1 with h | h | h<;>rw [h]<;>decide
   have wf2:(Lit.int .i64 s2).wf=true:=by rcases hs2 with h | h | h<;>rw [h]<;>decide
   have wf3:(Lit.int .i64 s3).wf=true:=by rcases hs3 with h | h | h<;>rw [h]<;>decide
   have EQ:=zH (fun W=>zaje s1 s2 s3 0 0 0 W wf1 wf2 wf3 (by decide) (by decide) (by decide));have C1:=zH (fun W=>CM.out mn (px,py) W);have C2:=zH (fun W=>CM.out (px,py) mx W);obtain ⟨n1,n2⟩:=mn;obtain ⟨x1,x2⟩:=mx;simp only [] at m0 m1 m2 m3 C1 C2;generalize lexC (n1,n2) (px,py)=l1 at C1 HR;generalize lexC (px,py) (x1,x2)=l2 at C2 HR;have qm0:=zaa m0;have qm1:=zaa m1;have qm2:=zaa m2;have qm3:=zaa m3;obtain ⟨sz,s0,s1,s2⟩:=rk3 HS.out;have qs0:=zaa s0;have qs1:=zaa s1;have qs2:=zaa s2;clear s0 s1 s2;obtain ⟨yz,y0,y1⟩:=rk2 H3.out;have qy0:=zaa y0;have qy1:=zaa y1;clear y0 y1;have bz5:=zag m0;clear m0 m1 m2 m3 hcell hcv hown hperm hso SRT hb5 BV B45 SO VA CM hs1 hs2 hs3 wf1 wf2 wf3 B4;by_cases hz:s1=0∧s2=0∧s3=0
   ·have heq:=EQ.out;rw [decide_eq_true hz] at heq;by_cases h1:l1≤0
    ·have d1:decide (l1≤0)=true:=decide_eq_true h1;have HE:=zH (show res=decide (l2≤0) by rw [HR.out,decide_eq_true hz,d1];rfl);obtain ⟨bd,hbd⟩:∃z,decide (l2≤0)=z:=⟨_,rfl⟩;rw [hbd] at HE;clear hz HR EQ h1;go_wp2_with fail;refine zae mixed (by kernel_rfl) ?_;iterate 12 (go_big_quiet_step ((go_at_call 51;exact zad (C1.out _))))
     repeat (go_big_quiet_step ((go_at_call 51;exact zad (C2.out _))))
     refine wpQuiet_nil ?_;intro w8 hw';obtain ⟨⟨wq,hbq⟩,hw''⟩:=hw';subst hw'';have B8:=zac B5 (Nat.le_trans (by omega) zR) hbq;go_wp2;go_ret;exact ⟨by rw [HE.out]<;>rfl,B8⟩
    ·have d1:decide (l1≤0)=false:=decide_eq_false h1;have HE:=zH (show res=false by rw [HR.out,d1];simp);clear hz HR EQ h1;go_wp2_with fail;refine zae mixed (by kernel_rfl) ?_;iterate 12 (go_big_quiet_step ((go_at_call 51;exact zad (C1.out _))))
     repeat (go_big_quiet_step ((go_at_call 51;exact zad (C2.out _))))
     refine wpQuiet_nil ?_;intro w8 hw';obtain ⟨⟨wq,hbq⟩,hw''⟩:=hw';subst hw'';have B8:=zac B5 (Nat.le_trans (by omega) zR) hbq;go_wp2;go_ret;exact ⟨by rw [HE.out]<;>rfl,B8⟩
   ·have heq:=EQ.out;rw [decide_eq_false hz] at heq;have HE:=zH (show res=false by rw [HR.out,decide_eq_false hz];rfl);clear hz HR EQ;go_wp2_with fail;refine zae mixed (by kernel_rfl) ?_;iterate 12 (go_big_quiet_step ((go_at_call 51;exact zad (C1.out _))))
    repeat (go_big_quiet_step ((go_at_call 51;exact zad (C2.out _))))
    refine wpQuiet_nil ?_;intro w8 hw';obtain ⟨⟨wq,hbq⟩,hw''⟩:=hw';subst hw'';have B8:=zac B5 (Nat.le_trans (by omega) zR) hbq;go_wp2;go_ret;exact ⟨by rw [HE.out]<;>rfl,B8⟩
  ·have htb:(t != 0)=true:=(by rw [bne_iff_ne];exact ht);have HR:=zH (show res=(decide (0≤s1∧0≤s2∧0≤s3) || decide (s1≤0∧s2≤0∧s3≤0)) by rw [HT.out,if_pos ht]);have hcells:∀j,j<[s1,s2,s3].length→w4.cell? ⟨g,0+j,none⟩=some (.int .i64 ([s1,s2,s3].getD j 0)):=fun j hj=>by
    rw [cell_of_row w4 g (0+j) _ _ _ HS.out]
    match j,hj with
    |0,_=>rfl
    |1,_=>rfl
    |2,_=>rfl
   have MN:=zH (fun c=>Tryz.slices_Min_int g 0 3 c [s1,s2,s3] w4 (by decide) (Nat.le_refl 3) (by decide) hcells);have MX:=zH (fun c=>Tryz.slices_Max_int g 0 3 c [s1,s2,s3] w4 (by decide) (Nat.le_refl 3) (by decide) hcells);have e1:0≤Lib.minOf ([s1,s2,s3].take 3)↔(0≤s1∧0≤s2∧0≤s3):=by show 0≤min (min (min s1 s1) s2) s3↔_;omega
   have e2:Lib.maxOf ([s1,s2,s3].take 3)≤0↔(s1≤0∧s2≤0∧s3≤0):=by show max (max (max s1 s1) s2) s3≤0↔_;omega
   generalize Lib.minOf ([s1,s2,s3].take 3)=mi at MN e1;generalize Lib.maxOf ([s1,s2,s3].take 3)=ma at MX e2;have gz:=zaf HS.out;clear hcells HT SRT hs1 hs2 hs3;by_cases g1:0≤mi
   ·have d1:decide (0≤mi)=true:=decide_eq_true g1;have HE:=zH (show res=true by rw [HR.out,decide_eq_true (e1.1 g1)];rfl);clear g1 e1 e2 HR;go_wp2_with (go_at_call 162;refine (MN.out _).mono ?_;rintro e' w' ⟨rfl,rfl⟩);go_ret;exact ⟨by rw [HE.out]<;>rfl,B4⟩
   ·have d1:decide (0≤mi)=false:=decide_eq_false g1;have HE:=zH (show res=decide (ma≤0) by rw [HR.out,decide_eq_false (fun c=>g1 (e1.2 c))];simp only [Bool.false_or];rw [Bool.eq_iff_iff,decide_eq_true_eq,decide_eq_true_eq];exact e2.symm);clear g1 e1 e2 HR;obtain ⟨bd,hbd⟩:∃z,decide (ma≤0)=z:=⟨_,rfl⟩;rw [hbd] at HE;go_wp2_with (first | (go_at_call 162;refine (MN.out _).mono ?_;rintro e' w' ⟨rfl,rfl⟩) | (go_at_call 163;refine (MX.out _).mono ?_;rintro e' w' ⟨rfl,rfl⟩));go_ret;exact ⟨by rw [HE.out]<;>rfl,B4⟩
end Go.Proofs.YtibpaaajghbkoaaGreat

namespace Go.Proofs.YtibpaaajghbkoaaGreat
open Go.RowKit Go.Maps Go.Sort Go.ChangeMaps
def CaOK (l:List ObjD) (x:CaM):Prop:=x.2.1=ptO l x.1.1∧x.2.2.1=ptO l x.1.2.2.1∧x.2.2.2=ptO l x.1.2.2.2
set_option maxRecDepth 100000 in
set_option maxHeartbeats 4000000 in
theorem zamn (bp:Nat) (ord:List ByteArray) (l:List ObjD) (bo bn br:Nat) (vo:Value) (x:CaM) (w:World) (hp:zdl w bp ord l bo bn br vo) (hok:zas l=true) (hx:CaOK l x) :
  Calls Tryz.prog 63 #[.pointer (some ⟨bp,0,none⟩),.agg (zib x).toArray] w fun e w'=>e=.returned (.bool (zeq l x.1))∧Below w.heap.size w w':=by
 have HPR:=zH hp.row;obtain ⟨Nn,hmap,hN,hlen⟩:=hp.nods;have HFA:=zH (zamo (N:=Nn) (fun r=>hN r) hmap.nodup x.1);have HS:=zH (fun (p:ByteArray × Pt) (hm:p∈Nn)=>(zacm.mem (N:=Nn) (fun r=>hN r) hmap.nodup hm));have HT:=zH (fun (q:Pt) (hq:zat q=true) W=>zamk x.2.1 x.2.2.1 x.2.2.2 q (by rw [hx.1];exact zfz hok _) (by rw [hx.2.1];exact zfz hok _) (by rw [hx.2.2];exact zfz hok _) hq W);have HO:=zH (fun (r:ByteArray) (q:Pt)=>(show oneF l x.1 r q=(decide (r=x.1.1∨r=x.1.2.2.1∨r=x.1.2.2.2) || !hasT x.2.1 x.2.2.1 x.2.2.2 q) by rw [hx.1,hx.2.1,hx.2.2];rfl));have HOK:=zH hok;have HMAP:=zH hmap;clear hp hok hx hN hlen hmap;generalize zeq l x.1=res at HFA ⊢;obtain ⟨⟨xi,xs,x1,x2⟩,⟨x3,x4⟩,⟨x5,x6⟩,⟨x7,x8⟩⟩:=x;simp only [] at HT HO HFA;simp only [zib];obtain ⟨w0r,hrange,hra,hgr,hsr⟩:=(HMAP.out.on ((Below.refl _ _).alloc zR (.cells #[.string xi,.int .i64 xs,.string x1,.string x2,.int .i64 x3,.int .i64 x4,.int .i64 x5,.int .i64 x6,.int .i64 x7,.int .i64 x8] 115))).range Tryz.underlying62;go_enter Tryz.func63,Tryz.ntmps63;obtain ⟨pz,p0,p1,p2,p3⟩:=rk4 HPR.out;go_wp2_with fail;clear p0 p1 p2 p3 pz;obtain ⟨wv,hwv⟩:∃z,z=w.alloc (.cells #[.string xi,.int .i64 xs,.string x1,.string x2,.int .i64 x3,.int .i64 x4,.int .i64 x5,.int .i64 x6,.int .i64 x7,.int .i64 x8] 115):=⟨_,rfl⟩;have hzv:wv.heap.size=w.heap.size+1:=by rw [hwv];simp
 have BV:Below w.heap.size w wv:=by rw [hwv];exact (Below.refl _ _).alloc zR _
 have HC:=zH (show wv.heap[w.heap.size]?=some (.cells #[.string xi,.int .i64 xs,.string x1,.string x2,.int .i64 x3,.int .i64 x4,.int .i64 x5,.int .i64 x6,.int .i64 x7,.int .i64 x8] 115) by rw [hwv];exact zan _ _);have B0:Below (w.heap.size+1) wv w0r:=(Below.refl _ _).grown (hwv ▸ hgr) (by omega) (fun j hj=>by cases hj);rw [World.size_alloc] at hra hsr;have HRA:=zH hra;clear hra hgr hwv hrange hsr;go_loopw [5] (fun _ wx=>∃(done todo:List (ByteArray × Pt)),zcd Value.string intK wx bn (w.heap.size+1) Nn done todo∧(∀p∈done,oneF l (xi,xs,x1,x2) p.1 p.2=true)∧Below (w.heap.size+1) wv wx) (fun _ wx=>wx.rangeLeft bn (w.heap.size+1));case atStart=>exact ⟨[],Nn,HRA.out,(fun p hp=>by cases hp),B0⟩
 case round =>
  obtain ⟨done,todo,hra,hdn,hbx⟩:=hrel;have hzx:=hbx.size;have HDN:=zH hdn;have HB:=zH hbx;have HLF:=zH hra.left;have HPM:=zH hra.perm;rcases hra.next (P:=Tryz.prog) with ⟨ht,hp,hnx⟩ | ⟨⟨r,⟨q1,q2⟩⟩,todo',w5,hp,hnx,hra5,hg5,hs5,hen⟩
  ·have HE:=zH (show res=true by
    rw [HFA.out,List.all_eq_true]
    exact fun p hm=>hdn p (hp.mem_iff.1 hm))
   have BF:=zH (BV.trans (hbx.mono (by omega)));clear hra hdn hbx ht hp;go_wp2;go_ret;exact ⟨by rw [HE.out]<;>rfl,BF.out⟩
  ·have hpm:(r,(q1,q2))∈Nn:=HPM.out.mem_iff.2 (List.mem_append_right _ (hp.mem_iff.2 (List.mem_cons_self ..)));obtain ⟨hbr,hpt⟩:=HS.out _ hpm;simp only [] at hpt;have HPM2:=zH hpm;have HR5:=zH hra5;have hlt5:todo'.length<todo.length:=(by have:=hp.length_eq;simp at this;omega);have B5:=zH (hbx.grown hg5 (by omega) (fun j hj=>by injection hj with hj;omega));have HZ5:=zH (show w.heap.size+1≤w5.heap.size by rw [hs5];omega);have HC5:=zH (zab (Below.mono B5.out (by omega)) HC.out);have HAS:=zH (fun W=>HT.out (q1,q2) (by rw [hpt];exact zfz HOK.out r) W);have HO2:=zH (HO.out r (q1,q2));simp only [intK] at hnx hen;clear hra hdn hbx hg5 hra5 hp hpm hpt hbr hs5;obtain ⟨hb,hhb⟩:∃z,hasT (x3,x4) (x5,x6) (x7,x8) (q1,q2)=z:=⟨_,rfl⟩;rw [hhb] at HAS HO2;clear hhb;have B56:=zH (show Below w5.heap.size w5 (w5.alloc (.cells #[.int .i64 q1,.int .i64 q2] 33)) from (Below.refl _ _).alloc zR _);have cz:=zaf HC5.out;have c0:=cell_of_row w5 _ 0 _ _ _ HC5.out;have c1:=cell_of_row w5 _ 1 _ _ _ HC5.out;have c2:=cell_of_row w5 _ 2 _ _ _ HC5.out;have c3:=cell_of_row w5 _ 3 _ _ _ HC5.out;have c4:=cell_of_row w5 _ 4 _ _ _ HC5.out;have c5:=cell_of_row w5 _ 5 _ _ _ HC5.out;have c6:=cell_of_row w5 _ 6 _ _ _ HC5.out;have c7:=cell_of_row w5 _ 7 _ _ _ HC5.out;have c8:=cell_of_row w5 _ 8 _ _ _ HC5.out;have c9:=cell_of_row w5 _ 9 _ _ _ HC5.out;simp only [List.getElem?_toArray,List.getElem?_cons_zero,List.getElem?_cons_succ] at c0 c1 c2 c3 c4 c5 c6 c7 c8 c9;by_cases e0:r=xi
   ·have HONE:=zH (show oneF l (xi,xs,x1,x2) r (q1,q2)=true by rw [HO2.out,decide_eq_true (Or.inl e0)];rfl);obtain rfl:xi=r:=e0.symm;have HG:=zH (show ∀p∈done++[(xi,(q1,q2))],oneF l (xi,xs,x1,x2) p.1 p.2=true from fun p hp=>by
     rcases List.mem_append.1 hp with h | h
     ·exact HDN.out p h
     ·rw [List.mem_singleton.1 h];exact HONE.out)
    have HR6:=zH (HR5.out.on B56.out);have B6:=zH (B5.out.trans (B56.out.mono HZ5.out));go_wp2;go_roundw;case rel=>exact ⟨_,todo',HR6.out,HG.out,B6.out⟩
    case measure =>rw [HR6.out.left,HLF.out];exact hlt5
   ·have d0:=zfh e0;by_cases e1:r=x1
    ·have HONE:=zH (show oneF l (xi,xs,x1,x2) r (q1,q2)=true by rw [HO2.out,decide_eq_true (Or.inr (Or.inl e1))];rfl);obtain rfl:x1=r:=e1.symm;have HG:=zH (show ∀p∈done++[(x1,(q1,q2))],oneF l (xi,xs,x1,x2) p.1 p.2=true from fun p hp=>by
      rcases List.mem_append.1 hp with h | h
      ·exact HDN.out p h
      ·rw [List.mem_singleton.1 h];exact HONE.out)
     have HR6:=zH (HR5.out.on B56.out);have B6:=zH (B5.out.trans (B56.out.mono HZ5.out));go_wp2;go_roundw;case rel=>exact ⟨_,todo',HR6.out,HG.out,B6.out⟩
     case measure =>rw [HR6.out.left,HLF.out];exact hlt5
    ·have d1:=zfh e1;by_cases e2:r=x2
     ·have HONE:=zH (show oneF l (xi,xs,x1,x2) r (q1,q2)=true by rw [HO2.out,decide_eq_true (Or.inr (Or.inr e2))];rfl);obtain rfl:x2=r:=e2.symm;have HG:=zH (show ∀p∈done++[(x2,(q1,q2))],oneF l (xi,xs,x1,x2) p.1 p.2=true from fun p hp=>by
       rcases List.mem_append.1 hp with h | h
       ·exact HDN.out p h
       ·rw [List.mem_singleton.1 h];exact HONE.out)
      have HR6:=zH (HR5.out.on B56.out);have B6:=zH (B5.out.trans (B56.out.mono HZ5.out));go_wp2;go_roundw;case rel=>exact ⟨_,todo',HR6.out,HG.out,B6.out⟩
      case measure =>rw [HR6.out.left,HLF.out];exact hlt5
     ·have d2:=zfh e2;have HOE:=zH (show oneF l (xi,xs,x1,x2) r (q1,q2) = !hb by rw [HO2.out,decide_eq_false (by rintro (c | c | c);exact e0 c;exact e1 c;exact e2 c)];rfl);clear e0 e1 e2;go_wp2_with fail;refine (HAS.out _).mono ?_;rintro e w6 ⟨rfl,hb6⟩;have B56:=zH (zac B56.out zR hb6);clear hb6;cases hb with
      |false =>
       have HONE:=zH (show oneF l (xi,xs,x1,x2) r (q1,q2)=true from HOE.out);have HG:=zH (show ∀p∈done++[(r,(q1,q2))],oneF l (xi,xs,x1,x2) p.1 p.2=true from fun p hp=>by
        rcases List.mem_append.1 hp with h | h
        ·exact HDN.out p h
        ·rw [List.mem_singleton.1 h];exact HONE.out)
       have HR6:=zH (HR5.out.on B56.out);have B6:=zH (B5.out.trans (B56.out.mono HZ5.out));go_wp2;go_roundw;case rel=>exact ⟨_,todo',HR6.out,HG.out,B6.out⟩
       case measure =>rw [HR6.out.left,HLF.out];exact hlt5
      |true =>
       have HE:=zH (show res=false by
        rw [HFA.out,List.all_eq_false]
        exact ⟨_,HPM2.out,by rw [HOE.out];simp⟩)
       have BF:=zH (BV.trans ((B5.out.trans (B56.out.mono HZ5.out)).mono (by omega)));go_wp2;go_ret;exact ⟨by rw [HE.out]<;>rfl,BF.out⟩
end Go.Proofs.YtibpaaajghbkoaaGreat
