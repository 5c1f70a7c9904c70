/-  -/
import Derived.Test.YtdfenhjibnfdeaaGreatDoorQyAq
import Derived.Maps.AppendAt
namespace Go.Proofs.YtdfenhjibnfdeaaGreatDoor
open Go.RowKit Go.Shelf
attribute [local go_sem] Oper.semAt_some
abbrev encTk (x:TokD):List Value:=[.int .i64 x.kind,.string x.text,.int .i64 x.off]
theorem encTk_one (x:TokD):∀v∈encTk x,v.oneCell'=true:=by
 intro v hv
 simp only [encTk,List.mem_cons,List.not_mem_nil,or_false] at hv
 rcases hv with rfl | rfl | rfl<;>rfl
theorem infoTk:(Tryz.prog.info? 43).map (fun i=>(i.zero,i.size,i.bytes))=some (some (.agg #[.int .i64 0,.string ⟨#[]⟩,.int .i64 0]),3,32):=by kernel_rfl
theorem cells_newL (w:World) (cs:List Value) (t:TypeId):∀(j:Nat) (u:Value),cs[j]?=some u→(w.alloc (.cells cs.toArray t)).cell? ((⟨w.heap.size,0,none⟩:Addr).add j)=some u:=by
 intro j u hj
 have hadd:(⟨w.heap.size,0,none⟩:Addr).add j=⟨w.heap.size,j,none⟩:=by unfold Addr.add;split<;>simp_all
 rw [hadd,cell_of_row _ _ j _ _ _ (row_new w _)]
 simpa using hj
theorem KpL.refl (W:World):KpL W W:=⟨Nat.le_refl _,fun _ _ _ h _=>h⟩
theorem KpL.alloc (W:World) (o:Obj):KpL W (W.alloc o):=⟨by simp,fun _ _ _ h _=>row_past h⟩
theorem KpL.set {W:World} {B i:Nat} {cs:Array Value} {t:TypeId} {v:Value} (h:W.heap[B]?=some (.cells cs t (0,0))) (ht:t≠9∧t≠106∧t≠111∧t≠88):KpL W (W.setCell ⟨B,i,none⟩ v) :=
 ⟨by simp,fun k cs' t' hk ht'=>row_set_other hk (by
  rintro rfl
  rw [h] at hk
  injection hk with hk;injection hk with _ hk
  subst hk
  obtain ⟨a,b,c,d⟩:=ht
  rcases ht' with h | h | h | h
  ·exact a h
  ·exact b h
  ·exact c h
  ·exact d h)⟩
theorem KpL.grown {W W':World} {base n:Nat} {v:Value} {xs:List Value} (h:W.ownsRow base 43 3 v n xs) (hg:W.grownBy W' v.ownBlock):KpL W W' :=
 ⟨hg.size,fun k cs t hk ht=>(hg.block k (lt_of_block hk) (fun e=>by
  rcases h.2 with ⟨rfl,_⟩ | ⟨g,cap,cur,rfl,_,hgb,_⟩
  ·simp [Value.ownBlock] at e
  ·obtain rfl:g=k:=by simpa [Value.ownBlock] using e.symm
   rw [hgb] at hk
   injection hk with hk;injection hk with _ hk
   subst hk
   rcases ht with h | h | h | h<;>exact absurd h (by decide))).trans hk⟩
theorem keep_cell {W W':World} {base n:Nat} {v:Value} {xs:List Value} (h:W.ownsRow base 43 3 v n xs) (hg:W.grownBy W' v.ownBlock) {k:Nat} {cs:Array Value} {t:TypeId} (hk:W.heap[k]?=some (.cells cs t (0,0))) (ht:t≠43):W'.heap[k]?=some (.cells cs t (0,0)) :=
 (hg.block k (lt_of_block hk) (fun e=>by
  rcases h.2 with ⟨rfl,_⟩ | ⟨g,cap,cur,rfl,_,hgb,_⟩
  ·simp [Value.ownBlock] at e
  ·obtain rfl:g=k:=by simpa [Value.ownBlock] using e.symm
   rw [hgb] at hk
   injection hk with hk;injection hk with _ hk
   exact ht hk.symm)).trans hk
theorem lexF_ok:∀(p q:List FndD) (acc:List TokD),(∀y∈p,y.err=0)→acc.length+p.length≤5000→lexF acc (p++q)=lexF (acc++p.map (·.tok)) q
 |[],q,acc,_,_=>by simp
 |y :: p,q,acc,h,hl=>by
  rw [List.cons_append,lexF,if_neg (by simpa using h y (by simp)),if_neg (by simp only [List.length_cons] at hl;omega),
   lexF_ok p q _ (fun z hz=>h z (List.mem_cons_of_mem _ hz)) (by simp only [List.length_append,List.length_cons,List.length_nil] at *;omega)]
  simp
structure LxG (w:World) (pre:List FndD) (W:World):Prop where
 row:∃v,Boxed W (w.heap.size+1+1+1) 39 v∧W.ownsRow w.heap.size 43 3 v pre.length ((pre.map (·.tok)).flatMap encTk)∧True
 h2:W.heap[w.heap.size]?=some (.cells #[.slice none 0 0] 39 (0,0))
 h3:W.heap[w.heap.size+1]?=some (.cells #[.int .i64 0] 31 (0,0))
 h4:W.heap[w.heap.size+1+1]?=some (.cells #[.int .i64 0] 3 (0,0))
 low:Below w.heap.size w W
 sz:w.heap.size+4≤W.heap.size
 errs:∀y∈pre,y.err=0
 few:pre.length≤5000
structure LxE (w:World) (pre:List FndD) (W:World):Prop where
 ex:∃(e a:Int),W.heap[w.heap.size]?=some (.cells #[.slice none 0 0] 39 (0,0))∧W.heap[w.heap.size+1]?=some (.cells #[.int .i64 e] 31 (0,0))∧W.heap[w.heap.size+1+1]?=some (.cells #[.int .i64 a] 3 (0,0))∧∀q,lexF [] (pre++q)=([],e,a)
 low:Below w.heap.size w W
 sz:w.heap.size+4≤W.heap.size
theorem LxG.own (w:World):OwnFrom (w.heap.size+4) (LxG w):=fun s A B row hs hg hr=>by
 obtain ⟨v,hv,ho,_⟩:=hs.row
 have key:OwnFrom (w.heap.size+4) (fun (pre:List FndD) W=>∃v,Boxed W (w.heap.size+1+1+1) 39 v∧W.ownsRow w.heap.size 43 3 v pre.length ((pre.map (·.tok)).flatMap encTk)∧True) :=
  Own.from (holdsRow_own w.heap.size (w.heap.size+1+1+1) 39 43 3 (fun pre:List FndD=>pre.length) (fun pre=>(pre.map (·.tok)).flatMap encTk) (fun _ _=>True)) _
 exact ⟨key s A B row hs.row hg hr,cells_kept rfl hg (fun r e=>(hr r e).2) hs.h2,cells_kept rfl hg (fun r e=>(hr r e).2) hs.h3,cells_kept rfl hg (fun r e=>(hr r e).2) hs.h4,
  hs.low.grown hg hs.low.size (fun k e=>by have:=(hr k e).1;omega),Nat.le_trans hs.sz hg.size,hs.errs,hs.few⟩
theorem LxE.own (w:World):OwnFrom (w.heap.size+4) (LxE w):=fun s A B row hs hg hr=>by
 obtain ⟨e,a,h2,h3,h4,h5⟩:=hs.ex
 exact ⟨⟨e,a,cells_kept rfl hg (fun r e=>(hr r e).2) h2,cells_kept rfl hg (fun r e=>(hr r e).2) h3,cells_kept rfl hg (fun r e=>(hr r e).2) h4,h5⟩,
  hs.low.grown hg hs.low.size (fun k e=>by have:=(hr k e).1;omega),Nat.le_trans hs.sz hg.size⟩
theorem LxG.alloc {w W:World} {pre:List FndD} (h:LxG w pre W) (o:Obj):LxG w pre (W.alloc o):=by
 obtain ⟨v,hv,hr,_⟩:=h.row
 exact ⟨⟨v,hv.alloc _,hr.alloc _,trivial⟩,row_past h.h2,row_past h.h3,row_past h.h4,h.low.alloc h.low.size _,by have:=h.sz;simp;omega,h.errs,h.few⟩
def stE (b:Nat) (W:World) (e a:Int):World:=(((W.setCell ⟨b,0,none⟩ (.slice none 0 0)).setCell ⟨b+1,0,none⟩ (.int .i64 e)).setCell ⟨b+1+1,0,none⟩ (.int .i64 a)).drew
theorem stE_ok {B:Nat} {w W:World} {pre:List FndD} {x:FndD} {e a:Int} (h:LxG w pre W) (hl:∀q,lexF [] ((pre++[x])++q)=([],e,a)) :
  KeepsFrom B W (stE w.heap.size W e a)∧LxE w (pre++[x]) (stE w.heap.size W e a):=by
 have h2:=row_set (i:=0) (v:=.slice none 0 0) h.h2
 have h3:=row_set (i:=0) (v:=.int .i64 e) h.h3
 have h4:=row_set (i:=0) (v:=.int .i64 a) h.h4
 refine ⟨((((KeepsOthers.setCell _ _ _).trans (KeepsOthers.setCell _ _ _)).trans (KeepsOthers.setCell _ _ _)).trans (KeepsOthers.drew _)).from _,⟨e,a,?_,?_,?_,hl⟩,?_,?_⟩
 ·exact row_drew (row_set_other (row_set_other (by simpa using h2) (by simp only;omega)) (by simp only;omega))
 ·refine row_drew (row_set_other ?_ (by simp only;omega))
  have:=row_set (i:=0) (v:=.int .i64 e) (row_set_other (a:=⟨w.heap.size,0,none⟩) (v:=.slice none 0 0) h.h3 (by simp only;omega))
  simpa using this
 ·refine row_drew ?_
  have:=row_set (i:=0) (v:=.int .i64 a) (row_set_other (a:=⟨w.heap.size+1,0,none⟩) (v:=.int .i64 e) (row_set_other (a:=⟨w.heap.size,0,none⟩) (v:=.slice none 0 0) h.h4 (by simp only;omega)) (by simp only;omega))
  simpa using this
 ·exact (((h.low.setCell (by simp only;omega) _).setCell (by simp only;omega) _).setCell (by simp only;omega) _).drew
 ·have:=h.sz
  show _≤(((W.setCell _ _).setCell _ _).setCell _ _).heap.size
  simpa using this
theorem put_row {W:World} {D k:Nat} {cs:Array Value} {t:TypeId} (hK:W.heap[D]?=some (.deferred (some []))) (hk:W.heap[k]?=some (.cells cs t (0,0))):(W.putObj D (.deferred none)).heap[k]?=some (.cells cs t (0,0)) :=
 (World.putObj_heap_other (by rintro rfl;rw [hk] at hK;cases hK)).trans hk
theorem put_cell {W:World} {D k:Nat} {v:Value} {t:TypeId} (hK:W.heap[D]?=some (.deferred (some []))) (hk:W.heap[k]?=some (.cells #[v] t (0,0))):(W.putObj D (.deferred none)).cell? ⟨k,0,none⟩=some v:=by
 rw [cell_of_row _ _ 0 _ _ _ (put_row hK hk)];rfl
def st3 (b:Nat) (W:World) (v e a:Value):World:=((W.setCell ⟨b,0,none⟩ v).setCell ⟨b+1,0,none⟩ e).setCell ⟨b+1+1,0,none⟩ a
theorem st3_rows {b:Nat} {W:World} {v e a c2 c3 c4:Value} {t2 t3 t4:TypeId} (h2:W.heap[b]?=some (.cells #[c2] t2 (0,0))) (h3:W.heap[b+1]?=some (.cells #[c3] t3 (0,0))) (h4:W.heap[b+1+1]?=some (.cells #[c4] t4 (0,0))) :
  (st3 b W v e a).heap[b]?=some (.cells #[v] t2 (0,0))∧(st3 b W v e a).heap[b+1]?=some (.cells #[e] t3 (0,0))∧(st3 b W v e a).heap[b+1+1]?=some (.cells #[a] t4 (0,0)):=by
 refine ⟨?_,?_,?_⟩
 ·have:=row_set (i:=0) (v:=v) h2
  exact row_set_other (row_set_other (by simpa using this) (by simp only;omega)) (by simp only;omega)
 ·have:=row_set (i:=0) (v:=e) (row_set_other (a:=⟨b,0,none⟩) (v:=v) h3 (by simp only;omega))
  exact row_set_other (by simpa using this) (by simp only;omega)
 ·have:=row_set (i:=0) (v:=a) (row_set_other (a:=⟨b+1,0,none⟩) (v:=e) (row_set_other (a:=⟨b,0,none⟩) (v:=v) h4 (by simp only;omega)) (by simp only;omega))
  simpa [st3] using this
def LexPost (s:ByteArray) (w:World) (e:Ending) (w':World):Prop :=
 ∃v,e=.returned (.tuple #[v,.int .i64 (lexP s).2.1,.int .i64 (lexP s).2.2])∧w'.ownsRow w.heap.size 43 3 v (lexP s).1.length ((lexP s).1.flatMap encTk)∧Below w.heap.size w w'
set_option maxRecDepth 100000 in
set_option maxHeartbeats 4000000 in
theorem lex_any (s:ByteArray) (hs:s.size≤1000000) (w:World):Calls Tryz.prog 15 #[.string s] w (LexPost s w):=by
 by_cases hbig:20000<s.size
 ·have HE:=Lib.hid (show lexP s=([],2,-1) by rw [lexP,if_pos hbig])
  go_enter Tryz.func15,Tryz.ntmps15
  go_wp2
  refine bodyPost_ret (v:=.tuple #[.slice none 0 0,.int .i64 2,.int .i64 (-1)]) (by simp [results,Tryz.results15,go_sem]) rfl ?_
  unfold LexPost
  rw [HE.out]
  exact ⟨_,rfl,World.ownsRow_nil _ _ _ _,(by repeat' (first | exact Below.refl _ _ | refine Below.drew ?_ | refine Below.drewN' ?_ | refine Below.setCell ?_ (by first | omega | (simp;done) | exact Below.size (by assumption) | (simp;omega)) _ | refine Below.alloc ?_ (by first | omega | (simp;done) | exact Below.size (by assumption) | (simp;omega)) _ | refine Below.trans ?_ (Below.mono (by assumption) ?_) | (first | omega | (simp;done) | exact Below.size (by assumption) | (simp;omega))))⟩
 ·obtain ⟨i0,hi,hz0,hz1,hz2⟩:=info_parts infoTk
  have TK:=Lib.hid (fun W=>tokens_any s W)
  have DB:decide ((20000:Int)<(s.size:Int))=false:=by rw [decide_eq_false_iff_not];omega
  refine (callsIn_wide (n:=5)).1 ?_
  refine callsIn_of_wp_marks Tryz.func15 rfl trivial ?_ rfl
  simp only [Tryz.ntmps15,List.size_toArray,List.length_cons,List.length_nil,Nat.reduceAdd,Nat.reduceSub,Array.replicate_succ,Array.replicate_zero,List.push_toArray,List.append_toArray,List.nil_append,List.cons_append]
  gi_wp2
  refine ⟨trivial,(callsIn_wide.2 (TK.out _)).mono ?_⟩
  rintro e W0 ⟨Bt,Bc,Bf,rfl,hBt,hBc,hBf,h1,h2,h3,hb0⟩
  have hs0:=hb0.size
  simp only [World.size_alloc] at hs0 hBt hBc hBf
  have hI:LxI Bt Bc Bf s W0:=⟨h1,h2,h3⟩
  obtain ⟨B2,hB2⟩:∃z,z=w.heap.size:=⟨_,rfl⟩
  have R2:=row_later hb0 (row_past (o':=.cells #[.slice none 0 0] 39) (row_past (o':=.cells #[.int .i64 0] 3) (row_past (o':=.cells #[.int .i64 0] 31) (row_new w (.cells #[.slice none 0 0] 39)))))
  have R3:=row_later hb0 (row_past (o':=.cells #[.slice none 0 0] 39) (row_past (o':=.cells #[.int .i64 0] 3) (row_new1 w (.cells #[.slice none 0 0] 39) (.cells #[.int .i64 0] 31))))
  have R4:=row_later hb0 (row_past (o':=.cells #[.slice none 0 0] 39) (row_new2 w (.cells #[.slice none 0 0] 39) (.cells #[.int .i64 0] 31) (.cells #[.int .i64 0] 3)))
  have R5:=row_later hb0 (row_new (((w.alloc (.cells #[.slice none 0 0] 39)).alloc (.cells #[.int .i64 0] 31)).alloc (.cells #[.int .i64 0] 3)) (.cells #[.slice none 0 0] 39))
  rw [World.size_alloc,World.size_alloc,World.size_alloc] at R5
  have L0:Below w.heap.size w W0:=below_step (((((Below.refl _ w).alloc (Nat.le_refl _) (.cells #[.slice none 0 0] 39)).alloc (by simp) (.cells #[.int .i64 0] 31)).alloc (by simp;omega) (.cells #[.int .i64 0] 3)).alloc (by simp;omega) (.cells #[.slice none 0 0] 39)) (Nat.le_refl _) hb0
  have G0:LxG w [] W0:=⟨⟨_,R5,World.ownsRow_nil _ _ _ _,trivial⟩,R2,R3,R4,L0,by omega,(fun y hy=>by cases hy),by simp⟩
  have ST:=Lib.hid (toks_stops (fun x:FndD=>x) 4 (by omega) Bt Bc Bf s (by omega) (tkF s 0) (by simp) W0 hI)
  have HE0:=Lib.hid (show lexP s=lexF [] (tkF s 0) by rw [lexP,if_neg hbig,toksB,tkF];simp [lstB])
  clear R2 R3 R4 R5 hb0 hI h1 h2 h3 TK
  gi_wp2
  refine wpIn_rangeFunc_ownH rfl (by omega) (gf:=69) (lb:=#[.pointer (some ⟨Bt,0,none⟩),.pointer (some ⟨Bf,0,none⟩)]) rfl trivial (enters_of Tryz.func69 (by kernel_rfl) rfl)
   ST.out KpL.trans
   (fun W l o o' _ hl hc _=>⟨(grownBy_putObj' W l o').size,fun k cs t hk _=>(World.putObj_heap_other (by rintro rfl;rw [hl] at hk;cases hk;cases hc)).trans hk⟩) (Below.refl _ _) (fun _=>rfl)
   (LxG w)
   (fun c pre W=>c=.ret∧LxE w pre W)
   (fun s A B row hs hg hr=>LxG.own w s A B row hs hg (fun r e=>by have:=hr r e;exact ⟨by omega,this.2⟩))
   (fun c s A B row hs hg hr=>⟨hs.1,LxE.own w s A B row hs.2 hg (fun r e=>by have:=hr r e;exact ⟨by omega,this.2⟩)⟩)
   G0
   (fun x a' W=>∃Bx,W.heap[Bx]?=some (.cells #[.int .i64 x.tok.kind,.string x.tok.text,.int .i64 x.tok.off,.int .i64 x.err] 88 (0,0))∧w.heap.size+4≤Bx∧a'={ tmps:=#[.string s,undef,.pointer (some ⟨w.heap.size,0,none⟩),.pointer (some ⟨w.heap.size+1,0,none⟩),.pointer (some ⟨w.heap.size+1+1,0,none⟩),.pointer (some ⟨w.heap.size+1+1+1,0,none⟩),.pointer (some ⟨Bx,0,none⟩),.string s,.int .i64 s.size,.bool false,.string s,.func (.func 69) #[] #[.pointer (some ⟨Bt,0,none⟩),.pointer (some ⟨Bf,0,none⟩)],.agg #[.int .i64 x.tok.kind,.string x.tok.text,.int .i64 x.tok.off,.int .i64 x.err],undef,undef,undef,undef,undef,undef,undef,undef,undef,undef,undef,undef,undef,undef,undef,undef,undef,undef,undef,undef,undef,undef],defers:=[] })
   (fun x a' _ X Y row hs hg hr=>by obtain ⟨Bx,h2,h3⟩:=hs;exact ⟨Bx,cells_kept rfl hg (fun r e=>(hr r e).2) h2,h3⟩)
   ?assign ?body ?done ?stop
  case assign =>
   rintro l pre x W K hG hK
   gi_wp2
   exact hK _ _ ((KeepsOthers.alloc _ _).from _) (KpL.alloc _ _) (hG.alloc _) ⟨W.heap.size,row_new _ _,by have:=hG.sz;omega,rfl⟩
  case body =>
   rintro l pre x a' W hl2 ⟨r,hr⟩ hG ⟨Bx,hX,hBx,rfl⟩ hlt
   have HX:=Lib.hid hX
   have HG:=Lib.hid hG
   obtain ⟨v,hv,hrow,-⟩:=hG.row
   have hgs:=hG.sz
   have hfw:=hG.few
   have H2:=Lib.hid hG.h2
   have H3:=Lib.hid hG.h3
   have H4:=Lib.hid hG.h4
   clear hX hG
   obtain ⟨xz,x0,x1,x2,x3⟩:=rk4 HX.out
   by_cases he:x.err=0
   ·have e1:(x.err != 0)=false:=by rw [bne_eq_false_iff_eq];exact he
    obtain ⟨ao,cp,rfl⟩:∃ao cp,v=.slice ao pre.length cp:=by
     rcases hrow.2 with ⟨hv',h0⟩ | ⟨g,cap,cur,hv',_⟩
     ·exact ⟨none,0,by rw [hv',h0]⟩
     ·exact ⟨_,_,hv'⟩
    have hc:=hv.cell
    have hcf:=hv.frozen
    by_cases h5:pre.length=5000
    ·have HL:=Lib.hid (fun q=>show lexF [] ((pre++[x])++q)=([],2,(x.tok.off:Int)) by
      rw [List.append_assoc,lexF_ok pre _ [] HG.out.errs (by simpa using hfw),List.singleton_append,lexF,if_neg (by simpa using he),if_pos (by simpa using h5)])
     have D:((pre.length:Int)==5000)=true:=by rw [beq_iff_eq];omega
     obtain ⟨yz,y0⟩:=rk1 H2.out
     have yf0:=frozen_of_row W _ 0 _ _ H2.out
     obtain ⟨zz,z0⟩:=rk1 H3.out
     have zf0:=frozen_of_row W _ 0 _ _ H3.out
     obtain ⟨uz,u0⟩:=rk1 H4.out
     have uf0:=frozen_of_row W _ 0 _ _ H4.out
     have HF:=Lib.hid (stE_ok (B:=W0.heap.size) HG.out HL.out)
     clear h5 he
     gi_wp2
     gi_region
     all_goals
      gi_wp2
      exact ⟨HF.out.1,rfl,HF.out.2⟩
    ·have D:((pre.length:Int)==5000)=false:=by rw [beq_eq_false_iff_ne];omega
     have D2:¬(pre.length:Int)=5000:=by omega
     have HXa:=row_past (o':=.cells (encTk x.tok).toArray 43) HX.out
     have hlw:=HG.out.low.size
     have HE1:=Lib.hid he
     clear he
     gi_wp2_with (gi_at_builtin;refine wpListIn_append_own _ rfl _ _ 39 rfl w.heap.size 43 i0 (.agg #[.int .i64 0,.string ⟨#[]⟩,.int .i64 0]) 3 32 Tryz.underlying39 hi hz0 hz1 hz2 rfl (by decide) _ _ _ rfl (hrow.alloc _) ⟨W.heap.size,0,none⟩ 1 1 (encTk x.tok) rfl rfl (cells_newL W (encTk x.tok) 43) (encTk_one x.tok) (by unfold maxLen;omega) (by omega) (by have:=HG.out.low.size;simp;omega) ?_;intro v' w1 hown' hgrow _;obtain ⟨g',cap',rfl⟩:=ownsRow_succ hown';obtain ⟨hv1,hv2,hr2,hk2,hb2⟩:=hv.appended (by decide) hrow HG.out.low.size (by omega) hown' hgrow;have hc1:=hv1.cell;have hf1:=hv1.frozen)
     have hke:=fun {k:Nat} {cs:Array Value} {t:TypeId} (hk:W.heap[k]?=some (.cells cs t (0,0))) (ht:t≠43) (hne:k≠w.heap.size+1+1+1)=>row_set_other (a:=⟨w.heap.size+1+1+1,0,none⟩) (v:=.slice (some ⟨g',0,none⟩) (pre.length+1) cap') (keep_cell (hrow.alloc _) hgrow (row_past (o':=.cells (encTk x.tok).toArray 43) hk) ht) hne
     exact ⟨hk2.from _,(KpL.alloc W _).trans ((KpL.grown (hrow.alloc _) hgrow).trans (KpL.set hv1 (by decide))),
      ⟨_,hv2,by rw [List.map_append,List.flatMap_append,List.length_append];simpa using hr2,trivial⟩,hke H2.out (by decide) (by omega),hke H3.out (by decide) (by omega),hke H4.out (by decide) (by omega),
      HG.out.low.trans hb2,Nat.le_trans HG.out.sz hb2.size,(fun y hy=>by
       rcases List.mem_append.1 hy with h | h
       ·exact HG.out.errs y h
       ·rw [List.mem_singleton.1 h];exact HE1.out),by rw [List.length_append];simp only [List.length_cons,List.length_nil];omega⟩
   ·have e1:(x.err != 0)=true:=by rw [bne_iff_ne];exact he
    have HL:=Lib.hid (fun q=>show lexF [] ((pre++[x])++q)=([],x.err,(x.tok.off:Int)) by
     rw [List.append_assoc,lexF_ok pre _ [] HG.out.errs (by simpa using hfw),List.singleton_append,lexF,if_pos he])
    obtain ⟨yz,y0⟩:=rk1 H2.out
    have yf0:=frozen_of_row W _ 0 _ _ H2.out
    obtain ⟨zz,z0⟩:=rk1 H3.out
    have zf0:=frozen_of_row W _ 0 _ _ H3.out
    obtain ⟨uz,u0⟩:=rk1 H4.out
    have uf0:=frozen_of_row W _ 0 _ _ H4.out
    have HF:=Lib.hid (stE_ok (B:=W0.heap.size) HG.out HL.out)
    gi_wp2
    gi_region
    all_goals
     gi_wp2
     exact ⟨HF.out.1,rfl,HF.out.2⟩
  case done =>
   rintro D ys W hD rfl hG hK
   have HG:=Lib.hid hG
   obtain ⟨v,hv,hrow,-⟩:=hG.row
   have HV:=Lib.hid hv
   have HRW:=Lib.hid hrow
   have hgs:=hG.sz
   have H2:=Lib.hid hG.h2
   have H3:=Lib.hid hG.h3
   have H4:=Lib.hid hG.h4
   obtain ⟨ao,cp,rfl⟩:∃ao cp,v=.slice ao (tkF s 0).length cp:=by
    rcases hrow.2 with ⟨hv',h0⟩ | ⟨g,cap,cur,hv',_⟩
    ·exact ⟨none,0,by rw [hv',h0]⟩
    ·exact ⟨_,_,hv'⟩
   have hc:=hv.cell
   have HLW:=Lib.hid hG.low
   have HEL:=Lib.hid (show lexP s=((tkF s 0).map (·.tok),0,0) by
    rw [HE0.out]
    have:=lexF_ok (tkF s 0) [] [] hG.errs (by simpa using hG.few)
    rw [List.append_nil] at this
    rw [this];simp [lexF])
   clear hG hv hrow
   obtain ⟨yz,y0⟩:=rk1 H2.out
   have yf0:=frozen_of_row W _ 0 _ _ H2.out
   obtain ⟨zz,z0⟩:=rk1 H3.out
   have zf0:=frozen_of_row W _ 0 _ _ H3.out
   obtain ⟨uz,u0⟩:=rk1 H4.out
   have uf0:=frozen_of_row W _ 0 _ _ H4.out
   gi_wp2
   generalize hW5:((W.setCell ⟨w.heap.size,0,none⟩ (.slice ao (tkF s 0).length cp)).setCell ⟨w.heap.size+1,0,none⟩ (.int .i64 0)).setCell ⟨w.heap.size+1+1,0,none⟩ (.int .i64 0)=W5
   have R5:W5.heap[w.heap.size]?=some (.cells #[.slice ao (tkF s 0).length cp] 39 (0,0))∧W5.heap[w.heap.size+1]?=some (.cells #[.int .i64 0] 31 (0,0))∧W5.heap[w.heap.size+1+1]?=some (.cells #[.int .i64 0] 3 (0,0)):=by
    rw [←hW5];exact st3_rows H2.out H3.out H4.out
   have hK5:W5.heap[D]?=some (.deferred (some [])):=by
    rw [←hW5]
    exact (Below.heap_setCell _ _ _ _ (by simp only;omega)).trans ((Below.heap_setCell _ _ _ _ (by simp only;omega)).trans ((Below.heap_setCell _ _ _ _ (by simp only;omega)).trans hK))
   have hO5:W5.ownsRow w.heap.size 43 3 (.slice ao (tkF s 0).length cp) (tkF s 0).length (((tkF s 0).map (·.tok)).flatMap encTk):=by
    rw [←hW5]
    have hn:∀{B:Nat} {X:Array Value} {t:TypeId},W.heap[B]?=some (.cells X t (0,0))→t≠43→some B≠(Value.slice ao (tkF s 0).length cp).ownBlock:=fun {B X t} hb ht e=>by
     rcases HRW.out.2 with ⟨h,_⟩ | ⟨g,cap,cur,h,_,hgb,_⟩
     ·rw [h] at e;simp [Value.ownBlock] at e
     ·rw [h] at e
      obtain rfl:B=g:=by simpa [Value.ownBlock] using e
      rw [hgb] at hb;injection hb with hb;injection hb with _ hb;exact ht hb.symm
    exact ((HRW.out.kept (grownBy_setCell' _ _ _) (.inr (hn H2.out (by decide)).symm)).kept (grownBy_setCell' _ _ _) (.inr (hn H3.out (by decide)).symm)).kept (grownBy_setCell' _ _ _) (.inr (hn H4.out (by decide)).symm)
   have hL5:Below w.heap.size w W5:=by
    rw [←hW5];exact ((HLW.out.setCell (by simp only;omega) _).setCell (by simp only;omega) _).setCell (by simp only;omega) _
   clear hW5
   refine ⟨by simp,.inl ⟨_,_,rfl,run_takeDeferred hK5,?_⟩⟩
   refine ⟨.tuple #[.slice ao (tkF s 0).length cp,.int .i64 0,.int .i64 0],by simp [results,Tryz.results15,go_sem,put_cell hK5 R5.1,put_cell hK5 R5.2.1,put_cell hK5 R5.2.2],?_⟩
   unfold LexPost
   rw [HEL.out]
   exact ⟨_,rfl,by rw [List.length_map];exact ownsRow_putObj hO5 _ hK5 rfl,hL5.trans (belowK_b (w:=w) (Nat.le_refl _) W5 D _ _ (by omega) hK5 rfl rfl)⟩
  case stop =>
   rintro D c pre W hD hpre ⟨rfl,hX⟩ hK
   obtain ⟨e,a,h2,h3,h4,hl⟩:=hX.ex
   have HEL:=Lib.hid (show lexP s=([],e,a) by
    obtain ⟨q,hq⟩:=hpre
    rw [HE0.out,←hq];exact hl q)
   have hgs:=hX.sz
   have hlw:=hX.low
   have HH:=Lib.hid (And.intro h2 (And.intro h3 h4))
   clear hX h2 h3 h4 hl
   gi_wp2
   refine ⟨by simp,.inl ⟨_,_,rfl,run_takeDeferred hK,?_⟩⟩
   refine ⟨.tuple #[.slice none 0 0,.int .i64 e,.int .i64 a],by simp [results,Tryz.results15,go_sem,put_cell hK HH.out.1,put_cell hK HH.out.2.1,put_cell hK HH.out.2.2],?_⟩
   unfold LexPost
   rw [HEL.out]
   exact ⟨_,rfl,World.ownsRow_nil _ _ _ _,hlw.trans (belowK_b (w:=w) (Nat.le_refl _) W D _ _ (by omega) hK rfl rfl)⟩
end Go.Proofs.YtdfenhjibnfdeaaGreatDoor
