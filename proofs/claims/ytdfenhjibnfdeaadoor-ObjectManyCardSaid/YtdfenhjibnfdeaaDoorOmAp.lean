/-      -/
import Derived.Test.YtdfenhjibnfdeaaDoorOmAo
import Derived.BigQuiet
import Derived.Test.YtdfenhjibnfdeaaDoorOmAn
namespace Go.Proofs.YtdfenhjibnfdeaaDoor
open Go.RowKit Go.Shelf
abbrev obV (o:ObjD) (vr vt:Value):Value:=.agg (obA o.id o.kind o.x o.y vr vt)
structure ObIn (w:World) (vr vt:Value) (o:ObjD):Prop where
 refs:StrRow w vr o.refs
 cap:∀a n c,vr=.slice a n c→n≤c
 tags:TagRow w vt o.tags
theorem ObIn.later {w w':World} {vr vt:Value} {o:ObjD} (h:ObIn w vr vt o) (hb:Below w.heap.size w w'):ObIn w' vr vt o:=⟨h.refs.later hb,h.cap,h.tags.later hb⟩
theorem StrRow.set {W:World} {v u:Value} {l:List ByteArray} {B b i:Nat} (h:StrRow W v l) (hf:Fr B v) (hb:b<B):StrRow (W.setCell ⟨b,i,none⟩ u) v l:=by
 obtain ⟨a,cap,h1,h2,h3,h4⟩:=h
 refine ⟨a,cap,h1,h2,h3,fun h0=>?_⟩
 obtain ⟨g,off,e,hc⟩:=h4 h0
 have hg:B≤g:=hf ⟨g,off,none⟩ _ _ (by rw [h1,e])
 refine ⟨g,off,e,fun j s hi=>?_⟩
 have hh:(W.setCell ⟨b,i,none⟩ u).heap[g]?=W.heap[g]?:=Below.heap_setCell _ _ _ _ (by simp only;omega)
 rw [←hc j s hi];simp only [World.cell?,hh]
theorem TagRow.set {W:World} {v u:Value} {l:List TagD} {B b i:Nat} (h:TagRow W v l) (hf:Fr B v) (hb:b<B):TagRow (W.setCell ⟨b,i,none⟩ u) v l:=by
 obtain ⟨a,cap,h1,h2,h3,h4⟩:=h
 refine ⟨a,cap,h1,h2,h3,fun h0=>?_⟩
 obtain ⟨g,off,e,hc⟩:=h4 h0
 have hg:B≤g:=hf ⟨g,off,none⟩ _ _ (by rw [h1,e])
 refine ⟨g,off,e,fun j s hi=>?_⟩
 have hh:(W.setCell ⟨b,i,none⟩ u).heap[g]?=W.heap[g]?:=Below.heap_setCell _ _ _ _ (by simp only;omega)
 obtain ⟨p,q⟩:=hc j s hi
 constructor
 ·rw [←p];simp only [World.cell?,hh]
 ·rw [←q];simp only [World.cell?,hh]
theorem ObIn.set {W:World} {vr vt u:Value} {o:ObjD} {B b i:Nat} (h:ObIn W vr vt o) (h1:Fr B vr) (h2:Fr B vt) (hb:b<B):ObIn (W.setCell ⟨b,i,none⟩ u) vr vt o:=⟨h.refs.set h1 hb,h.cap,h.tags.set h2 hb⟩
theorem ObIn.nil (W:World):ObIn W (.slice none 0 0) (.slice none 0 0) ⟨⟨#[]⟩,0,0,0,[],[]⟩ :=
 ⟨⟨none,0,rfl,by simp,(fun s hs=>by cases hs),(fun h=>by cases h)⟩,(fun a n c h=>by injection h with _ h1 h2;omega),⟨none,0,rfl,by simp,(fun s hs=>by cases hs),(fun h=>by cases h)⟩⟩
structure ParIn (s:ByteArray) (T:List TokD) (x y:Int):Prop where
 lex:lexP s=(T,0,0)
 four:4≤T.length
 small:∀t∈T,t.text.size≤1000000
 many:T.length≤5000
 ends:(kdF ((T[0]?.map (·.text)).getD ⟨#[]⟩) 5=1∧(T.length=4∨T.length=7))∨(kdF ((T[0]?.map (·.text)).getD ⟨#[]⟩) 5≠1∧T.findIdx? closeP=some (T.length - 1))
 nums:kdF ((T[0]?.map (·.text)).getD ⟨#[]⟩) 5=1→∀t2 t3,T[2]?=some t2→T[3]?=some t3→t2.text.size≤18∧t3.text.size≤18∧Lib.atoi t2.text.data.toList=some x∧Lib.atoi t3.text.data.toList=some y
 tagn:(readP T x y).tags.length≤1
 idz:(readP T x y).id.size≤140737488355328
 xy:(readP T x y).kind=1→0≤(readP T x y).x∧(readP T x y).x<100∧0≤(readP T x y).y∧(readP T x y).y<100
set_option maxRecDepth 100000 in
set_option maxHeartbeats 1000000 in
theorem parse_any (s:ByteArray) (T:List TokD) (x y:Int) (tx:ByteArray) (er:Int) (w:World) (hs:s.size≤20000) (h:ParIn s T x y) (ht:textV (readP T x y)=.tuple #[.string tx,.int .i64 er]) :
  Calls Tryd.prog 8 #[.string s] w fun e w'=>∃vr vt o ee,e=.returned (.tuple #[obV o vr vt,.int .i64 ee])∧ObIn w' vr vt o∧Below w.heap.size w w'∧((er=0∧tx=s∧o=readP T x y∧ee=0)∨(¬(er=0∧tx=s)∧ee=5)):=by
 have LX:=Lib.hid (fun W=>lex_any s (by omega) W)
 have HP:=Lib.hid h
 have HT:=Lib.hid ht
 have RD:=Lib.hid (fun v W (hv:TkR W v T)=>read_any v T x y W hv h.four h.small h.many h.ends h.nums)
 obtain ⟨o,ho⟩:∃z,z=readP T x y:=⟨_,rfl⟩
 have TX:=Lib.hid (fun vr vt W (hv:ObIn W vr vt (readP T x y))=>text_any (readP T x y).id (readP T x y).kind (readP T x y).x (readP T x y).y vr vt (readP T x y).refs (readP T x y).tags W h.idz hv.refs hv.tags hv.cap h.tagn h.xy)
 have HO:=Lib.hid ho
 clear h ht
 rw [←ho] at RD TX HT
 have D1:decide ((20000:Int)<(s.size:Int))=false:=by rw [decide_eq_false_iff_not];omega
 clear ho
 have hb0:Below w.heap.size w (w.alloc (.cells (obA ⟨#[]⟩ 0 0 0 (.slice none 0 0) (.slice none 0 0)) 29)):=(Below.refl _ w).alloc (Nat.le_refl _) _
 have HR0:=Lib.hid (row_new w (.cells (obA ⟨#[]⟩ 0 0 0 (.slice none 0 0) (.slice none 0 0)) 29))
 go_enter Tryd.func8,Tryd.ntmps8
 go_wp2_with fail
 refine (LX.out _).mono ?_
 rintro e w1 ⟨v,rfl,hown,hb1⟩
 rw [HP.out.lex] at hown ⊢
 have hTk:=TkR.of_own hown
 have B1:=below_step hb0 (by simp) hb1
 have HR1:=Lib.hid (row_later hb1 HR0.out)
 clear hown hb1 hb0
 simp only [] at hTk ⊢
 go_wp2_with fail
 refine (RD.out v w1 hTk).mono ?_
 rintro e w2 ⟨vr,vt,rfl,h1,h2,h3,hf1,hf2,hb2⟩
 have HI2:ObIn w2 vr vt o:=⟨h1,h2,h3⟩
 have B2:=below_step B1 (Nat.le_refl _) hb2
 have HR2:=Lib.hid (row_later hb2 HR1.out)
 clear h1 h2 h3 hb2 B1 hTk
 obtain ⟨ar,nr,cr,rfl⟩:∃a n c,vr=.slice a n c:=by obtain ⟨a,c,h,_⟩:=HI2.refs;exact ⟨a,_,c,h⟩
 obtain ⟨at1,nt,ct,rfl⟩:∃a n c,vt=.slice a n c:=by obtain ⟨a,c,h,_⟩:=HI2.tags;exact ⟨a,_,c,h⟩
 have B3:Below w2.heap.size w2 (w2.alloc (.cells (obA o.id o.kind o.x o.y (.slice ar nr cr) (.slice at1 nt ct)) 29)):=(Below.refl _ w2).alloc (Nat.le_refl _) _
 have HI3:=Lib.hid (HI2.later B3)
 have HO3:=Lib.hid (row_new w2 (.cells (obA o.id o.kind o.x o.y (.slice ar nr cr) (.slice at1 nt ct)) 29))
 have HR3:=Lib.hid (row_later B3 HR2.out)
 have TY:=Lib.hid (TX.out _ _ _ HI3.out)
 rw [HT.out] at TY
 have BW3:=below_step B2 (Nat.le_refl _) B3
 clear HI2
 go_wp2_with fail
 refine TY.out.mono ?_
 rintro e w4 ⟨rfl,hb4⟩
 have HI4:=Lib.hid (HI3.out.later hb4)
 have HO4:=Lib.hid (row_later hb4 HO3.out)
 have HR4:=Lib.hid (row_later hb4 HR3.out)
 have B4:=below_step BW3 (Nat.le_refl _) hb4
 have hbs:w.heap.size<w2.heap.size:=by have:=B2.size;have:=lt_of_block HR2.out;omega
 have hbl:w.heap.size<w1.heap.size:=lt_of_block HR1.out
 have hol:=lt_of_block HO4.out
 have hfr:=Lib.hid (And.intro hf1 hf2)
 clear hb4 hf1 hf2
 obtain ⟨oz,o0,o1,o2,o3,o4,o5⟩:=rk6 HO4.out
 obtain ⟨rz,r0,r1,r2,r3,r4,r5⟩:=rk6 HR4.out
 have rf0:=frozen_of_row w4 _ 0 _ _ HR4.out
 have rf1:=frozen_of_row w4 _ 1 _ _ HR4.out
 have rf2:=frozen_of_row w4 _ 2 _ _ HR4.out
 have rf3:=frozen_of_row w4 _ 3 _ _ HR4.out
 have rf4:=frozen_of_row w4 _ 4 _ _ HR4.out
 have rf5:=frozen_of_row w4 _ 5 _ _ HR4.out
 by_cases h0:er=0
 ·subst h0
  by_cases h1:tx=s
  ·have e1:=str_eq_true h1
   go_wp2
   have HZ:=Lib.hid (ob_all HR4.out o.id o.kind o.x o.y (.slice ar nr cr) (.slice at1 nt ct))
   have BZ:=Lib.hid (((((((B4.setCell (p:=⟨w.heap.size,0,none⟩) (Nat.le_refl _) (.string o.id)).setCell (p:=⟨w.heap.size,1,none⟩) (Nat.le_refl _) (.int .i64 o.kind)).setCell (p:=⟨w.heap.size,2,none⟩) (Nat.le_refl _) (.int .i64 o.x)).setCell (p:=⟨w.heap.size,3,none⟩) (Nat.le_refl _) (.int .i64 o.y)).setCell (p:=⟨w.heap.size,4,none⟩) (Nat.le_refl _) (.slice ar nr cr))).setCell (p:=⟨w.heap.size,5,none⟩) (Nat.le_refl _) (.slice at1 nt ct))
   generalize hwF:(((((w4.setCell ⟨w.heap.size,0,none⟩ (.string o.id)).setCell ⟨w.heap.size,1,none⟩ (.int .i64 o.kind)).setCell ⟨w.heap.size,2,none⟩ (.int .i64 o.x)).setCell ⟨w.heap.size,3,none⟩ (.int .i64 o.y)).setCell ⟨w.heap.size,4,none⟩ (.slice ar nr cr)).setCell ⟨w.heap.size,5,none⟩ (.slice at1 nt ct)=wF
   rw [hwF] at HZ BZ
   obtain ⟨sz,s0,s1,s2,s3,s4,s5⟩:=rk6 HZ.out
   refine bodyPost_ret (v:=.tuple #[.agg (obA o.id o.kind o.x o.y (.slice ar nr cr) (.slice at1 nt ct)),.int .i64 0]) (by simp [results,Tryd.results8,go_sem,s0,s1,s2,s3,s4,s5]) rfl ?_
   have HIF:=HI4.out
   exact ⟨_,_,o,0,rfl,by rw [←hwF];exact (((((HIF.set hfr.out.1 hfr.out.2 hbl).set hfr.out.1 hfr.out.2 hbl).set hfr.out.1 hfr.out.2 hbl).set hfr.out.1 hfr.out.2 hbl).set hfr.out.1 hfr.out.2 hbl).set hfr.out.1 hfr.out.2 hbl,BZ.out,HO.out,rfl⟩
  ·have e1:=str_eq_false h1
   go_wp2
   have HZ:=Lib.hid (ob_all HR4.out ⟨#[]⟩ 0 0 0 (.slice none 0 0) (.slice none 0 0))
   have BZ:=Lib.hid (((((((B4.setCell (p:=⟨w.heap.size,0,none⟩) (Nat.le_refl _) (.string ⟨#[]⟩)).setCell (p:=⟨w.heap.size,1,none⟩) (Nat.le_refl _) (.int .i64 0)).setCell (p:=⟨w.heap.size,2,none⟩) (Nat.le_refl _) (.int .i64 0)).setCell (p:=⟨w.heap.size,3,none⟩) (Nat.le_refl _) (.int .i64 0)).setCell (p:=⟨w.heap.size,4,none⟩) (Nat.le_refl _) (.slice none 0 0))).setCell (p:=⟨w.heap.size,5,none⟩) (Nat.le_refl _) (.slice none 0 0))
   generalize hwF:(((((w4.setCell ⟨w.heap.size,0,none⟩ (.string ⟨#[]⟩)).setCell ⟨w.heap.size,1,none⟩ (.int .i64 0)).setCell ⟨w.heap.size,2,none⟩ (.int .i64 0)).setCell ⟨w.heap.size,3,none⟩ (.int .i64 0)).setCell ⟨w.heap.size,4,none⟩ (.slice none 0 0)).setCell ⟨w.heap.size,5,none⟩ (.slice none 0 0)=wF
   rw [hwF] at HZ BZ
   obtain ⟨sz,s0,s1,s2,s3,s4,s5⟩:=rk6 HZ.out
   refine bodyPost_ret (v:=.tuple #[.agg (obA ⟨#[]⟩ 0 0 0 (.slice none 0 0) (.slice none 0 0)),.int .i64 5]) (by simp [results,Tryd.results8,go_sem,s0,s1,s2,s3,s4,s5]) rfl ?_
   exact ⟨_,_,⟨⟨#[]⟩,0,0,0,[],[]⟩,5,rfl,ObIn.nil _,BZ.out,rfl⟩
 ·have e0:(er==0)=false:=by rw [beq_eq_false_iff_ne];exact h0
  go_wp2
  have HZ:=Lib.hid (ob_all HR4.out ⟨#[]⟩ 0 0 0 (.slice none 0 0) (.slice none 0 0))
  have BZ:=Lib.hid (((((((B4.setCell (p:=⟨w.heap.size,0,none⟩) (Nat.le_refl _) (.string ⟨#[]⟩)).setCell (p:=⟨w.heap.size,1,none⟩) (Nat.le_refl _) (.int .i64 0)).setCell (p:=⟨w.heap.size,2,none⟩) (Nat.le_refl _) (.int .i64 0)).setCell (p:=⟨w.heap.size,3,none⟩) (Nat.le_refl _) (.int .i64 0)).setCell (p:=⟨w.heap.size,4,none⟩) (Nat.le_refl _) (.slice none 0 0))).setCell (p:=⟨w.heap.size,5,none⟩) (Nat.le_refl _) (.slice none 0 0))
  generalize hwF:(((((w4.setCell ⟨w.heap.size,0,none⟩ (.string ⟨#[]⟩)).setCell ⟨w.heap.size,1,none⟩ (.int .i64 0)).setCell ⟨w.heap.size,2,none⟩ (.int .i64 0)).setCell ⟨w.heap.size,3,none⟩ (.int .i64 0)).setCell ⟨w.heap.size,4,none⟩ (.slice none 0 0)).setCell ⟨w.heap.size,5,none⟩ (.slice none 0 0)=wF
  rw [hwF] at HZ BZ
  obtain ⟨sz,s0,s1,s2,s3,s4,s5⟩:=rk6 HZ.out
  refine bodyPost_ret (v:=.tuple #[.agg (obA ⟨#[]⟩ 0 0 0 (.slice none 0 0) (.slice none 0 0)),.int .i64 5]) (by simp [results,Tryd.results8,go_sem,s0,s1,s2,s3,s4,s5]) rfl ?_
  exact ⟨_,_,⟨⟨#[]⟩,0,0,0,[],[]⟩,5,rfl,ObIn.nil _,BZ.out,.inr ⟨fun h=>h0 h.1,rfl⟩⟩
end Go.Proofs.YtdfenhjibnfdeaaDoor

namespace Go.Proofs.YtdfenhjibnfdeaaDoor
open Go.RowKit Go.Sort Go.Shelf
theorem sfTg:Tryd.prog.stoodInHeld 38=false:=by kernel_rfl
theorem foTg:Tryd.prog.underlying 38=some (.struct (Tryd.prog.fieldsOf 38)):=by kernel_rfl
theorem eqIn_tag (a b:ByteArray) (w:World):(Op.equalIn 10000 38 (.agg #[.string a,.string b]) (.agg #[.string a,.string b])).run Tryd.prog w=.ok true w:=by
 rw [show (10000:Nat)=9999+1 from rfl,run_equalIn_struct _ _ _ _ _ foTg sfTg]
 simp [Program.fieldsOf,Tryd.underlying38,Op.eqFields,go_sem]
theorem sfPt:Tryd.prog.stoodInHeld 25=false:=by kernel_rfl
theorem foPt:Tryd.prog.underlying 25=some (.struct (Tryd.prog.fieldsOf 25)):=by kernel_rfl
theorem eqIn_pt (x y:Int) (w:World):(Op.equalIn 10000 25 (.agg #[.int .i64 x,.int .i64 y]) (.agg #[.int .i64 x,.int .i64 y])).run Tryd.prog w=.ok true w:=by
 rw [show (10000:Nat)=9999+1 from rfl,run_equalIn_struct _ _ _ _ _ foPt sfPt]
 simp [Program.fieldsOf,Tryd.underlying25,Op.eqFields,go_sem]
set_option maxHeartbeats 1000000 in
theorem equalS_any (v u:Value) (l:List ByteArray) (w:World) (hv:StrRow w v l) (hu:StrRow w u l) :
  Calls Tryd.prog 28 #[v,u] w fun e w'=>e=.returned (.bool true)∧Below w.heap.size w w':=by
 obtain ⟨a1,c1,rfl,hn1,_,hc1⟩:=hv
 obtain ⟨a2,c2,rfl,_,_,hc2⟩:=hu
 obtain ⟨N,hN⟩:∃N,l.length=N:=⟨_,rfl⟩
 rw [hN] at hn1 hc1 hc2 ⊢
 have HN:=Lib.hid hN
 have HC1:=Lib.hid hc1
 have HC2:=Lib.hid hc2
 clear hN hc1 hc2
 go_enter Tryd.func28,Tryd.ntmps28
 go_wp2_with fail
 go_loopw [13] (fun i wr=>∃k:Nat,i=.int .i64 k∧k≤N∧Below w.heap.size w wr) (fun i _=>N - (intOf i).toNat)
 case atStart=>exact ⟨0,rfl,Nat.zero_le _,Below.refl _ _⟩
 case round =>
  obtain ⟨k,rfl,hk,hbr⟩:=hrel
  by_cases hlt:k<N
  ·obtain ⟨s,hs⟩:∃s,l[k]?=some s:=⟨l[k]'(by rw [HN.out];exact hlt),List.getElem?_eq_getElem _⟩
   obtain ⟨b1,f1,e1,q1⟩:=HC1.out (by omega)
   obtain ⟨b2,f2,e2,q2⟩:=HC2.out (by omega)
   subst e1 e2
   have d0:=cell_later hbr (q1 k s hs)
   have d1:=cell_later hbr (q2 k s hs)
   clear q1 q2 hs
   go_wp2_with fail
   go_quiet (fail)
   go_wp2
   go_roundw
   case rel=>exact ⟨k+1,by go_num,by omega,hbr.drewN'⟩
   case measure=>simp [intOf];omega
  ·obtain rfl:k=N:=by omega
   go_wp2
   go_ret
   exact ⟨rfl,hbr⟩
set_option maxHeartbeats 1000000 in
theorem equalT_any (v u:Value) (l:List TagD) (w:World) (hv:TagRow w v l) (hu:TagRow w u l) :
  Calls Tryd.prog 29 #[v,u] w fun e w'=>e=.returned (.bool true)∧Below w.heap.size w w':=by
 obtain ⟨a1,c1,rfl,hn1,_,hc1⟩:=hv
 obtain ⟨a2,c2,rfl,_,_,hc2⟩:=hu
 obtain ⟨N,hN⟩:∃N,l.length=N:=⟨_,rfl⟩
 rw [hN] at hn1 hc1 hc2 ⊢
 have HN:=Lib.hid hN
 have HC1:=Lib.hid hc1
 have HC2:=Lib.hid hc2
 clear hN hc1 hc2
 go_enter Tryd.func29,Tryd.ntmps29
 go_wp2_with fail
 go_loopw [13] (fun i wr=>∃k:Nat,i=.int .i64 k∧k≤N∧Below w.heap.size w wr) (fun i _=>N - (intOf i).toNat)
 case atStart=>exact ⟨0,rfl,Nat.zero_le _,Below.refl _ _⟩
 case round =>
  obtain ⟨k,rfl,hk,hbr⟩:=hrel
  by_cases hlt:k<N
  ·obtain ⟨t,ht⟩:∃t,l[k]?=some t:=⟨l[k]'(by rw [HN.out];exact hlt),List.getElem?_eq_getElem _⟩
   obtain ⟨b1,f1,e1,q1⟩:=HC1.out (by omega)
   obtain ⟨b2,f2,e2,q2⟩:=HC2.out (by omega)
   subst e1 e2
   have d0:=cell_later hbr (q1 k t ht).1
   have d1:=cell_later hbr (q1 k t ht).2
   have d2:=cell_later hbr (q2 k t ht).1
   have d3:=cell_later hbr (q2 k t ht).2
   have hte:=fun W=>eqIn_tag t.key t.val W
   clear q1 q2 ht
   go_wp2_with fail
   go_quiet (fail)
   go_wp2
   go_roundw
   case rel=>exact ⟨k+1,by go_num,by omega,hbr.drewN'⟩
   case measure=>simp [intOf];omega
  ·obtain rfl:k=N:=by omega
   go_wp2
   go_ret
   exact ⟨rfl,hbr⟩
set_option maxRecDepth 100000 in
set_option maxHeartbeats 2000000 in
theorem sameO_any (o:ObjD) (vr vt ur ut:Value) (w:World) (hr:StrRow w vr o.refs) (ht:TagRow w vt o.tags) (gr:StrRow w ur o.refs) (gt:TagRow w ut o.tags) :
  Calls Tryd.prog 9 #[obV o vr vt,obV o ur ut] w fun e w'=>e=.returned (.bool true)∧Below w.heap.size w w':=by
 have hpe:=fun W=>eqIn_pt o.x o.y W
 have ES:=Lib.hid (fun W (hb:Below w.heap.size w W)=>equalS_any vr ur o.refs W (hr.later hb) (gr.later hb))
 have ET:=Lib.hid (fun W (hb:Below w.heap.size w W)=>equalT_any vt ut o.tags W (ht.later hb) (gt.later hb))
 obtain ⟨a1,c1,rfl,_⟩:=hr
 obtain ⟨a2,c2,rfl,_⟩:=ht
 obtain ⟨a3,c3,rfl,_⟩:=gr
 obtain ⟨a4,c4,rfl,_⟩:=gt
 have B1:Below w.heap.size w ((w.alloc (.cells #[.string o.id,.int .i64 o.kind,.int .i64 o.x,.int .i64 o.y,.slice a1 o.refs.length c1,.slice a2 o.tags.length c2] 29)).alloc (.cells #[.string o.id,.int .i64 o.kind,.int .i64 o.x,.int .i64 o.y,.slice a3 o.refs.length c3,.slice a4 o.tags.length c4] 29)):=(by repeat' (first | exact Below.refl _ _ | refine Below.drew ?_ | refine Below.drewN' ?_ | refine Below.setCell ?_ (by first | omega | (simp;done) | exact Below.size (by assumption) | (simp;omega)) _ | refine Below.alloc ?_ (by first | omega | (simp;done) | exact Below.size (by assumption) | (simp;omega)) _ | refine Below.trans ?_ (Below.mono (by assumption) ?_) | (first | omega | (simp;done) | exact Below.size (by assumption) | (simp;omega))))
 have H2:=row_past (o':=.cells #[.string o.id,.int .i64 o.kind,.int .i64 o.x,.int .i64 o.y,.slice a3 o.refs.length c3,.slice a4 o.tags.length c4] 29) (row_new w (.cells #[.string o.id,.int .i64 o.kind,.int .i64 o.x,.int .i64 o.y,.slice a1 o.refs.length c1,.slice a2 o.tags.length c2] 29))
 have H3:=row_new1 w (.cells #[.string o.id,.int .i64 o.kind,.int .i64 o.x,.int .i64 o.y,.slice a1 o.refs.length c1,.slice a2 o.tags.length c2] 29) (.cells #[.string o.id,.int .i64 o.kind,.int .i64 o.x,.int .i64 o.y,.slice a3 o.refs.length c3,.slice a4 o.tags.length c4] 29)
 go_enter Tryd.func9,Tryd.ntmps9
 go_wp2_with fail
 generalize hw1:(w.alloc (.cells #[.string o.id,.int .i64 o.kind,.int .i64 o.x,.int .i64 o.y,.slice a1 o.refs.length c1,.slice a2 o.tags.length c2] 29)).alloc (.cells #[.string o.id,.int .i64 o.kind,.int .i64 o.x,.int .i64 o.y,.slice a3 o.refs.length c3,.slice a4 o.tags.length c4] 29)=w1
 rw [hw1] at B1 H2 H3
 clear hw1
 refine (ES.out _ B1).mono ?_
 rintro e w2 ⟨rfl,hb⟩
 have B2:=below_step B1 (Nat.le_refl _) hb
 have H2:=Lib.hid (row_later hb H2)
 have H3:=Lib.hid (row_later hb H3)
 clear hb B1 ES
 obtain ⟨xz,x0,x1,x2,x3,x4,x5⟩:=rk6 H2.out
 obtain ⟨yz,y0,y1,y2,y3,y4,y5⟩:=rk6 H3.out
 go_wp2_with fail
 refine (ET.out _ B2).mono ?_
 rintro e w3 ⟨rfl,hb⟩
 have B3:=below_step B2 (Nat.le_refl _) hb
 clear x0 x1 x2 x3 x4 x5 xz
 clear y0 y1 y2 y3 y4 y5 yz
 go_wp2
 go_ret
 exact ⟨rfl,B3⟩
set_option maxRecDepth 100000 in
set_option maxHeartbeats 1000000 in
theorem sameN_any (o q:ObjD) (a1 a2 a3 a4:Option Addr) (n1 n2 n3 n4 c1 c2 c3 c4:Nat) (w:World) (h:o.id≠q.id) :
  Calls Tryd.prog 9 #[obV o (.slice a1 n1 c1) (.slice a2 n2 c2),obV q (.slice a3 n3 c3) (.slice a4 n4 c4)] w fun e w'=>e=.returned (.bool false)∧Below w.heap.size w w':=by
 have e1:=str_eq_false h
 have B1:Below w.heap.size w ((w.alloc (.cells (obA o.id o.kind o.x o.y (.slice a1 n1 c1) (.slice a2 n2 c2)) 29)).alloc (.cells (obA q.id q.kind q.x q.y (.slice a3 n3 c3) (.slice a4 n4 c4)) 29)):=(by repeat' (first | exact Below.refl _ _ | refine Below.drew ?_ | refine Below.drewN' ?_ | refine Below.setCell ?_ (by first | omega | (simp;done) | exact Below.size (by assumption) | (simp;omega)) _ | refine Below.alloc ?_ (by first | omega | (simp;done) | exact Below.size (by assumption) | (simp;omega)) _ | refine Below.trans ?_ (Below.mono (by assumption) ?_) | (first | omega | (simp;done) | exact Below.size (by assumption) | (simp;omega))))
 go_enter Tryd.func9,Tryd.ntmps9
 go_wp2
 go_ret
 exact ⟨rfl,B1⟩
end Go.Proofs.YtdfenhjibnfdeaaDoor

namespace Go.Proofs.YtdfenhjibnfdeaaDoor
open Go.RowKit Go.Shelf
def sA:ByteArray:=⟨#[110,111,100,101,32,110,49,32,51,32,52,32,110,97,109,101,61,34,69,108,109,34]⟩
def sB:ByteArray:=⟨#[97,114,101,97,32,97,49,32,40,110,49,32,110,50,32,110,51,41]⟩
def sC:ByteArray:=⟨#[119,97,121,32,119,49,32,40,110,49,32,110,49,41]⟩
def sD:ByteArray:=⟨#[110,111,100,101,32,110,49,32,48,51,32,52]⟩
theorem parIn_of (s:ByteArray) (T:List TokD) (x y:Int) (t2 t3:TokD) (hT:lexP s=(T,0,0)) (h4:4≤T.length∧T.length≤5000) (hs:∀t∈T,t.text.size≤1000000)
  (he:(kdF ((T[0]?.map (·.text)).getD ⟨#[]⟩) 5=1∧(T.length=4∨T.length=7))∨(kdF ((T[0]?.map (·.text)).getD ⟨#[]⟩) 5≠1∧T.findIdx? closeP=some (T.length - 1)))
  (h2:T[2]?=some t2) (h3:T[3]?=some t3) (hn:kdF ((T[0]?.map (·.text)).getD ⟨#[]⟩) 5=1→t2.text.size≤18∧t3.text.size≤18∧Lib.atoi t2.text.data.toList=some x∧Lib.atoi t3.text.data.toList=some y)
  (ht:(readP T x y).tags.length≤1∧(readP T x y).id.size≤140737488355328) (hx:(readP T x y).kind=1→0≤(readP T x y).x∧(readP T x y).x<100∧0≤(readP T x y).y∧(readP T x y).y<100):ParIn s T x y :=
 ⟨hT,h4.1,hs,h4.2,he,(fun h a b ha hb=>by rw [h2] at ha;rw [h3] at hb;injection ha with ha;injection hb with hb;subst ha;subst hb;exact hn h),ht.1,ht.2,hx⟩
def tk (k:Int) (l:List UInt8) (o:Nat):TokD:=⟨k,⟨l.toArray⟩,o⟩
def tA:List TokD:=(lexP sA).1
def tB:List TokD:=(lexP sB).1
def tC:List TokD:=(lexP sC).1
def tD:List TokD:=(lexP sD).1
set_option maxRecDepth 100000 in
theorem pA:ParIn sA tA 3 4:=parIn_of sA tA 3 4 (tk 2 [51] 8) (tk 2 [52] 10) (by decide +kernel) (by decide +kernel) (by decide +kernel) (by decide +kernel) (by decide +kernel) (by decide +kernel) (by decide +kernel) (by decide +kernel) (by decide +kernel)
set_option maxRecDepth 100000 in
theorem pB:ParIn sB tB 0 0:=parIn_of sB tB 0 0 (tk 4 [40] 8) (tk 1 [110,49] 9) (by decide +kernel) (by decide +kernel) (by decide +kernel) (by decide +kernel) (by decide +kernel) (by decide +kernel) (by decide +kernel) (by decide +kernel) (by decide +kernel)
set_option maxRecDepth 100000 in
theorem pC:ParIn sC tC 0 0:=parIn_of sC tC 0 0 (tk 4 [40] 7) (tk 1 [110,49] 8) (by decide +kernel) (by decide +kernel) (by decide +kernel) (by decide +kernel) (by decide +kernel) (by decide +kernel) (by decide +kernel) (by decide +kernel) (by decide +kernel)
set_option maxRecDepth 100000 in
theorem pD:ParIn sD tD 3 4:=parIn_of sD tD 3 4 (tk 2 [48,51] 8) (tk 2 [52] 11) (by decide +kernel) (by decide +kernel) (by decide +kernel) (by decide +kernel) (by decide +kernel) (by decide +kernel) (by decide +kernel) (by decide +kernel) (by decide +kernel)
theorem textV_ok {o:ObjD} {s:ByteArray} (h1:objOK o=true) (h2:(textL o).length≤20000) (h3:bytesOf (textL o)=s):textV o=.tuple #[.string s,.int .i64 0]:=by
 unfold textV;rw [if_pos h1,if_neg (by omega),h3]
theorem textV_bad {o:ObjD} (h1:objOK o=false):textV o=.tuple #[.string ⟨#[]⟩,.int .i64 1]:=by
 unfold textV;rw [if_neg (by rw [h1];decide)]
set_option maxRecDepth 100000 in
theorem xA:textV (readP tA 3 4)=.tuple #[.string sA,.int .i64 0]:=textV_ok (by decide +kernel) (by decide +kernel) (by decide +kernel)
set_option maxRecDepth 100000 in
theorem xB:textV (readP tB 0 0)=.tuple #[.string sB,.int .i64 0]:=textV_ok (by decide +kernel) (by decide +kernel) (by decide +kernel)
set_option maxRecDepth 100000 in
theorem xC:textV (readP tC 0 0)=.tuple #[.string ⟨#[]⟩,.int .i64 1]:=textV_bad (by decide +kernel)
def sD':ByteArray:=⟨#[110,111,100,101,32,110,49,32,51,32,52]⟩
set_option maxRecDepth 100000 in
theorem xD:textV (readP tD 3 4)=.tuple #[.string sD',.int .i64 0]:=textV_ok (by decide +kernel) (by decide +kernel) (by decide +kernel)
def oElm:ObjD:=⟨⟨#[110,49]⟩,1,3,4,[],[⟨⟨#[110,97,109,101]⟩,⟨#[69,108,109]⟩⟩]⟩
def oArea:ObjD:=⟨⟨#[97,49]⟩,3,0,0,[⟨#[110,49]⟩,⟨#[110,50]⟩,⟨#[110,51]⟩],[]⟩
set_option maxRecDepth 100000 in
theorem rA:readP tA 3 4=oElm:=by kernel_rfl
set_option maxRecDepth 100000 in
theorem rB:readP tB 0 0=oArea:=by kernel_rfl
end Go.Proofs.YtdfenhjibnfdeaaDoor

namespace Go.Proofs.YtdfenhjibnfdeaaDoor
open Go.RowKit Go.Shelf
abbrev ob0:Obj:=.cells #[.string ⟨#[110,97,109,101]⟩,.string ⟨#[69,108,109]⟩] 38
abbrev ob1 (w:World):Obj:=.cells (obA ⟨#[110,49]⟩ 1 3 4 (.slice none 0 0) (.slice (some ⟨w.heap.size,0,none⟩) 1 1)) 29
abbrev ob2:Obj:=.cells #[.string ⟨#[110,49]⟩,.string ⟨#[110,50]⟩,.string ⟨#[110,51]⟩] 9
abbrev ob3 (w:World):Obj:=.cells (obA ⟨#[97,49]⟩ 3 0 0 (.slice (some ⟨w.heap.size+1+1,0,none⟩) 3 3) (.slice none 0 0)) 29
abbrev headM (w:World):World:=(((w.alloc ob0).alloc (ob1 w)).alloc ob2).alloc (ob3 w)
theorem headW (w:World):(headM w).heap[w.heap.size+1]?=some (ob1 w)∧(headM w).heap[w.heap.size+1+1+1]?=some (ob3 w) ∧
  ObIn (headM w) (.slice none 0 0) (.slice (some ⟨w.heap.size,0,none⟩) 1 1) oElm∧ObIn (headM w) (.slice (some ⟨w.heap.size+1+1,0,none⟩) 3 3) (.slice none 0 0) oArea∧Below w.heap.size w (headM w):=by
 have h0:=row_past (o':=ob3 w) (row_past (o':=ob2) (row_past (o':=ob1 w) (row_new w ob0)))
 have h1:=row_past (o':=ob3 w) (row_past (o':=ob2) (row_new (w.alloc ob0) (ob1 w)))
 have h2:=row_past (o':=ob3 w) (row_new ((w.alloc ob0).alloc (ob1 w)) ob2)
 have h3:=row_new (((w.alloc ob0).alloc (ob1 w)).alloc ob2) (ob3 w)
 simp only [World.size_alloc] at h1 h2 h3
 have c0:=cell_of_row _ _ 0 _ _ _ h0
 have c1:=cell_of_row _ _ 1 _ _ _ h0
 have d0:=cell_of_row _ _ 0 _ _ _ h2
 have d1:=cell_of_row _ _ 1 _ _ _ h2
 have d2:=cell_of_row _ _ 2 _ _ _ h2
 refine ⟨h1,h3,⟨⟨none,0,rfl,by simp [oElm],(fun s hs=>by cases hs),(fun h=>by cases h)⟩,(fun a n c h=>by injection h with _ h1 h2;omega),⟨some ⟨w.heap.size,0,none⟩,1,rfl,by simp [oElm],(fun s hs=>by rw [List.mem_singleton.1 hs];decide),fun _=>⟨w.heap.size,0,rfl,fun i tt hi=>by
   cases i with
   |zero=>injection hi with hi;subst hi;exact ⟨c0,c1⟩
   |succ i=>cases hi⟩⟩⟩,⟨⟨some ⟨w.heap.size+1+1,0,none⟩,3,rfl,by simp [oArea],(fun s hs=>by simp only [oArea,List.mem_cons,List.mem_nil_iff,or_false] at hs;rcases hs with rfl | rfl | rfl<;>decide),fun _=>⟨w.heap.size+1+1,0,rfl,fun i tt hi=>by
   match i,hi with
   |0,hi=>injection hi with hi;subst hi;exact d0
   |1,hi=>injection hi with hi;subst hi;exact d1
   |2,hi=>injection hi with hi;subst hi;exact d2⟩⟩,(fun a n c h=>by injection h with _ h1 h2;omega),⟨none,0,rfl,by simp [oArea],(fun s hs=>by cases hs),(fun h=>by cases h)⟩⟩,(by repeat' (first | exact Below.refl _ _ | refine Below.drew ?_ | refine Below.drewN' ?_ | refine Below.setCell ?_ (by first | omega | (simp;done) | exact Below.size (by assumption) | (simp;omega)) _ | refine Below.alloc ?_ (by first | omega | (simp;done) | exact Below.size (by assumption) | (simp;omega)) _ | refine Below.trans ?_ (Below.mono (by assumption) ?_) | (first | omega | (simp;done) | exact Below.size (by assumption) | (simp;omega))))⟩
end Go.Proofs.YtdfenhjibnfdeaaDoor

namespace Go.Proofs.YtdfenhjibnfdeaaDoor
open Go.RowKit Go.Shelf
theorem str_row {v:Value} {w:World} {l:List ByteArray} (h:StrRow w v l):∃a n c,v=.slice a n c:=by obtain ⟨a,c,h,_⟩:=h;exact ⟨a,_,c,h⟩
theorem tag_row {v:Value} {w:World} {l:List TagD} (h:TagRow w v l):∃a n c,v=.slice a n c:=by obtain ⟨a,c,h,_⟩:=h;exact ⟨a,_,c,h⟩
theorem str_new (w:World) (l:List ByteArray) (h:l.length≤1000) (hs:∀s∈l,s.size≤1000):StrRow (w.alloc (.cells (l.map Value.string).toArray 9)) (.slice (some ⟨w.heap.size,0,none⟩) l.length l.length) l :=
 ⟨some ⟨w.heap.size,0,none⟩,l.length,rfl,by omega,(fun s h'=>by have:=hs s h';omega),fun _=>⟨w.heap.size,0,rfl,fun i s hi=>by
  have:=cells_newL w (l.map Value.string) 9 i (.string s) (by rw [List.getElem?_map,hi];rfl)
  have e:(⟨w.heap.size,0,none⟩:Addr).add i=⟨w.heap.size,0+i,none⟩:=(by unfold Addr.add;split<;>simp_all)
  rw [e] at this;exact this⟩⟩
def lArea:List ByteArray:=[⟨#[97,114,101,97]⟩,⟨#[97,49]⟩,⟨#[48]⟩,⟨#[48]⟩,⟨#[51]⟩,⟨#[110,49]⟩,⟨#[110,50]⟩,⟨#[110,51]⟩]
theorem dArea:digWords ⟨#[97,49]⟩ 3 oArea.refs=lArea:=by decide +kernel
set_option maxRecDepth 100000 in
set_option maxHeartbeats 1000000 in
theorem head_any (w:World) :
  Calls Tryd.prog 4 #[] w fun e w'=>e=.returned (.bool true)∧Below w.heap.size w w':=by
 have PA:=Lib.hid (fun W=>parse_any sA tA 3 4 _ _ W (by decide) pA xA)
 have PB:=Lib.hid (fun W=>parse_any sB tB 0 0 _ _ W (by decide) pB xB)
 have PC:=Lib.hid (fun W=>parse_any sC tC 0 0 _ _ W (by decide) pC xC)
 have PD:=Lib.hid (fun W=>parse_any sD tD 3 4 _ _ W (by decide) pD xD)
 obtain ⟨hE,hA,iE,iA,B0⟩:=headW w
 have HE0:=Lib.hid hE
 have HA0:=Lib.hid hA
 have IE0:=Lib.hid iE
 have IA0:=Lib.hid iA
 clear hE hA iE iA
 go_enter Tryd.func4,Tryd.ntmps4
 go_wp2_with fail
 refine (PA.out _).mono ?_
 rintro e w1 ⟨vr,vt,o1,ee,rfl,hi,hb,hc⟩
 obtain ⟨ra1,rn1,rc1,rfl⟩:=str_row hi.refs
 obtain ⟨ta1,tn1,tc1,rfl⟩:=tag_row hi.tags
 have Bp:=below_step B0 (Nat.le_refl _) hb
 have HEp:=Lib.hid (row_later hb HE0.out)
 have HAp:=Lib.hid (row_later hb HA0.out)
 have IEp:=Lib.hid (IE0.out.later hb)
 have IAp:=Lib.hid (IA0.out.later hb)
 have bq:Below w1.heap.size w1 (w1.alloc (.cells (obA o1.id o1.kind o1.x o1.y (.slice ra1 rn1 rc1) (.slice ta1 tn1 tc1)) 29)):=(Below.refl _ _).alloc (Nat.le_refl _) _
 have B1:=below_step Bp (Nat.le_refl _) bq
 have HE1:=Lib.hid (row_later bq HEp.out)
 have HA1:=Lib.hid (row_later bq HAp.out)
 have IE1:=Lib.hid (IEp.out.later bq)
 have IA1:=Lib.hid (IAp.out.later bq)
 have IO1:=Lib.hid (hi.later bq)
 have HO1:=Lib.hid (row_new w1 (.cells (obA o1.id o1.kind o1.x o1.y (.slice ra1 rn1 rc1) (.slice ta1 tn1 tc1)) 29))
 rcases hc with ⟨_,_,hc,rfl⟩ | ⟨hc,_⟩
 case inr=>simp at hc
 rw [rA] at hc
 have QA:=Lib.hid hc
 clear hc hb hi bq HE0 HA0 IE0 IA0 HEp HAp IEp IAp Bp
 go_wp2_with fail
 refine (PB.out _).mono ?_
 rintro e w2 ⟨vr,vt,o2,ee,rfl,hi,hb,hc⟩
 obtain ⟨ra2,rn2,rc2,rfl⟩:=str_row hi.refs
 obtain ⟨ta2,tn2,tc2,rfl⟩:=tag_row hi.tags
 have Bp:=below_step B1 (Nat.le_refl _) hb
 have HEp:=Lib.hid (row_later hb HE1.out)
 have HAp:=Lib.hid (row_later hb HA1.out)
 have IEp:=Lib.hid (IE1.out.later hb)
 have IAp:=Lib.hid (IA1.out.later hb)
 have bq:Below w2.heap.size w2 (w2.alloc (.cells (obA o2.id o2.kind o2.x o2.y (.slice ra2 rn2 rc2) (.slice ta2 tn2 tc2)) 29)):=(Below.refl _ _).alloc (Nat.le_refl _) _
 have B2:=below_step Bp (Nat.le_refl _) bq
 have HE2:=Lib.hid (row_later bq HEp.out)
 have HA2:=Lib.hid (row_later bq HAp.out)
 have IE2:=Lib.hid (IEp.out.later bq)
 have IA2:=Lib.hid (IAp.out.later bq)
 have IO2:=Lib.hid (hi.later bq)
 have HO2:=Lib.hid (row_new w2 (.cells (obA o2.id o2.kind o2.x o2.y (.slice ra2 rn2 rc2) (.slice ta2 tn2 tc2)) 29))
 have HQ2:=Lib.hid (row_later bq (row_later hb HO1.out))
 have IQ2:=Lib.hid ((IO1.out.later hb).later bq)
 rcases hc with ⟨_,_,hc,rfl⟩ | ⟨hc,_⟩
 case inr=>simp at hc
 rw [rB] at hc
 have QB:=Lib.hid hc
 clear hc hb hi bq HE1 HA1 IE1 IA1 HEp HAp IEp IAp Bp HO1 IO1
 go_wp2_with fail
 refine (PC.out _).mono ?_
 rintro e w3 ⟨vr,vt,o3,ee,rfl,hi,hb,hc⟩
 obtain ⟨ra3,rn3,rc3,rfl⟩:=str_row hi.refs
 obtain ⟨ta3,tn3,tc3,rfl⟩:=tag_row hi.tags
 have Bp:=below_step B2 (Nat.le_refl _) hb
 have HEp:=Lib.hid (row_later hb HE2.out)
 have HAp:=Lib.hid (row_later hb HA2.out)
 have IEp:=Lib.hid (IE2.out.later hb)
 have IAp:=Lib.hid (IA2.out.later hb)
 have bq:Below w3.heap.size w3 (w3.alloc (.cells (obA o3.id o3.kind o3.x o3.y (.slice ra3 rn3 rc3) (.slice ta3 tn3 tc3)) 29)):=(Below.refl _ _).alloc (Nat.le_refl _) _
 have B3:=below_step Bp (Nat.le_refl _) bq
 have HE3:=Lib.hid (row_later bq HEp.out)
 have HA3:=Lib.hid (row_later bq HAp.out)
 have IE3:=Lib.hid (IEp.out.later bq)
 have IA3:=Lib.hid (IAp.out.later bq)
 have IO3:=Lib.hid (hi.later bq)
 have HO3:=Lib.hid (row_new w3 (.cells (obA o3.id o3.kind o3.x o3.y (.slice ra3 rn3 rc3) (.slice ta3 tn3 tc3)) 29))
 have HQ3:=Lib.hid (row_later bq (row_later hb HQ2.out))
 have IQ3:=Lib.hid ((IQ2.out.later hb).later bq)
 have HR3:=Lib.hid (row_later bq (row_later hb HO2.out))
 have IR3:=Lib.hid ((IO2.out.later hb).later bq)
 rcases hc with ⟨hc,_⟩ | ⟨_,rfl⟩
 case inl=>exact absurd hc (by decide)
 clear hb hi bq HE2 HA2 IE2 IA2 HEp HAp IEp IAp Bp HO2 IO2 HQ2 IQ2
 go_wp2_with fail
 refine (PD.out _).mono ?_
 rintro e w4 ⟨vr,vt,o4,ee,rfl,hi,hb,hc⟩
 obtain ⟨ra4,rn4,rc4,rfl⟩:=str_row hi.refs
 obtain ⟨ta4,tn4,tc4,rfl⟩:=tag_row hi.tags
 have Bp:=below_step B3 (Nat.le_refl _) hb
 have HEp:=Lib.hid (row_later hb HE3.out)
 have HAp:=Lib.hid (row_later hb HA3.out)
 have IEp:=Lib.hid (IE3.out.later hb)
 have IAp:=Lib.hid (IA3.out.later hb)
 have bq:Below w4.heap.size w4 (w4.alloc (.cells (obA o4.id o4.kind o4.x o4.y (.slice ra4 rn4 rc4) (.slice ta4 tn4 tc4)) 29)):=(Below.refl _ _).alloc (Nat.le_refl _) _
 have B4:=below_step Bp (Nat.le_refl _) bq
 have HE4:=Lib.hid (row_later bq HEp.out)
 have HA4:=Lib.hid (row_later bq HAp.out)
 have IE4:=Lib.hid (IEp.out.later bq)
 have IA4:=Lib.hid (IAp.out.later bq)
 have IO4:=Lib.hid (hi.later bq)
 have HO4:=Lib.hid (row_new w4 (.cells (obA o4.id o4.kind o4.x o4.y (.slice ra4 rn4 rc4) (.slice ta4 tn4 tc4)) 29))
 have HQ4:=Lib.hid (row_later bq (row_later hb HQ3.out))
 have IQ4:=Lib.hid ((IQ3.out.later hb).later bq)
 have HR4:=Lib.hid (row_later bq (row_later hb HR3.out))
 have IR4:=Lib.hid ((IR3.out.later hb).later bq)
 rcases hc with ⟨_,hc,_⟩ | ⟨_,rfl⟩
 case inl=>exact absurd hc (by decide)
 clear hb hi bq HE3 HA3 IE3 IA3 HAp IEp IAp Bp HO3 IO3 HQ3 IQ3 HR3 IR3
 obtain ⟨ez,e0,e1,e2,e3,e4,e5⟩:=rk6 HEp.out
 have TX:=Lib.hid (fun W (h:ObIn W (.slice none 0 0) (.slice (some ⟨w.heap.size,0,none⟩) 1 1) oElm)=>text_any ⟨#[110,49]⟩ 1 3 4 (.slice none 0 0) (.slice (some ⟨w.heap.size,0,none⟩) 1 1) [] [⟨⟨#[110,97,109,101]⟩,⟨#[69,108,109]⟩⟩] W (by decide) h.refs h.tags h.cap (by decide) (by decide))
 go_wp2_with fail
 generalize hw5:w4.alloc (.cells (obA o4.id o4.kind o4.x o4.y (.slice ra4 rn4 rc4) (.slice ta4 tn4 tc4)) 29)=w5
 rw [hw5] at HE4 HA4 IE4 IA4 IO4 HO4 HQ4 IQ4 HR4 IR4 B4
 clear hw5 e0 e1 e2 e3 e4 e5 ez HEp
 refine (TX.out _ IE4.out).mono ?_
 rintro e w6 ⟨rfl,hb⟩
 rw [show textV ⟨⟨#[110,49]⟩,1,3,4,[],[⟨⟨#[110,97,109,101]⟩,⟨#[69,108,109]⟩⟩]⟩=.tuple #[.string ⟨#[110,111,100,101,32,110,49,32,51,32,52,32,110,97,109,101,61,34,69,108,109,34]⟩,.int .i64 0] from (show textV oElm=.tuple #[.string sA,.int .i64 0] by rw [←rA];exact xA)]
 have HE6:=Lib.hid (row_later hb HE4.out)
 have HA6:=Lib.hid (row_later hb HA4.out)
 have HQ6:=Lib.hid (row_later hb HQ4.out)
 have HR6:=Lib.hid (row_later hb HR4.out)
 have IE6:=Lib.hid (IE4.out.later hb)
 have IA6:=Lib.hid (IA4.out.later hb)
 have IQ6:=Lib.hid (IQ4.out.later hb)
 have IR6:=Lib.hid (IR4.out.later hb)
 have B6:=below_step B4 (Nat.le_refl _) hb
 clear hb HE4 HA4 HQ4 HR4 IE4 IA4 IQ4 IR4 B4 HO4 IO4 TX
 have SE:=Lib.hid (show ∀W,ObIn W (.slice ra1 rn1 rc1) (.slice ta1 tn1 tc1) o1→ObIn W (.slice none 0 0) (.slice (some ⟨w.heap.size,0,none⟩) 1 1) oElm→Calls Tryd.prog 9 #[obV o1 (.slice ra1 rn1 rc1) (.slice ta1 tn1 tc1),.agg (obA ⟨#[110,49]⟩ 1 3 4 (.slice none 0 0) (.slice (some ⟨w.heap.size,0,none⟩) 1 1))] W fun e w'=>e=.returned (.bool true)∧Below W.heap.size W w' from by
  rw [QA.out];exact fun W h1 h2=>sameO_any oElm _ _ _ _ W h1.refs h1.tags h2.refs h2.tags)
 have SA:=Lib.hid (show ∀W,ObIn W (.slice ra2 rn2 rc2) (.slice ta2 tn2 tc2) o2→ObIn W (.slice (some ⟨w.heap.size+1+1,0,none⟩) 3 3) (.slice none 0 0) oArea→Calls Tryd.prog 9 #[obV o2 (.slice ra2 rn2 rc2) (.slice ta2 tn2 tc2),.agg (obA ⟨#[97,49]⟩ 3 0 0 (.slice (some ⟨w.heap.size+1+1,0,none⟩) 3 3) (.slice none 0 0))] W fun e w'=>e=.returned (.bool true)∧Below W.heap.size W w' from by
  rw [QB.out];exact fun W h1 h2=>sameO_any oArea _ _ _ _ W h1.refs h1.tags h2.refs h2.tags)
 have SN:=Lib.hid (fun W=>sameN_any o1 o2 ra1 ta1 ra2 ta2 rn1 tn1 rn2 tn2 rc1 tc1 rc2 tc2 W (by rw [QA.out,QB.out];decide))
 obtain ⟨ez,e0,e1,e2,e3,e4,e5⟩:=rk6 HE6.out
 obtain ⟨az,a0,a1,a2,a3,a4,a5⟩:=rk6 HA6.out
 obtain ⟨qz,q0,q1,q2,q3,q4,q5⟩:=rk6 HQ6.out
 obtain ⟨rz,r0,r1,r2,r3,r4,r5⟩:=rk6 HR6.out
 obtain ⟨dg,hdg⟩:∃z,z=listB lArea:=⟨_,rfl⟩
 have LS:=Lib.hid (fun W=>list_any _ lArea _ (str_new W lArea (by decide) (by decide)) (by decide) (by decide))
 have DG:=Lib.hid (fun W (h:ObIn W (.slice (some ⟨w.heap.size+1+1,0,none⟩) 3 3) (.slice none 0 0) oArea)=>digestO_any ⟨#[97,49]⟩ 3 (.slice (some ⟨w.heap.size+1+1,0,none⟩) 3 3) (.slice none 0 0) oArea.refs W (by decide) h.refs h.tags (by decide +kernel) (by decide) (by decide))
 rw [dArea,←hdg] at DG
 rw [←hdg] at LS
 go_wp2_with fail
 refine (SE.out _ IQ6.out IE6.out).mono ?_
 rintro e w7 ⟨rfl,hb⟩
 have HE7:=Lib.hid (row_later hb HE6.out)
 have HA7:=Lib.hid (row_later hb HA6.out)
 have HQ7:=Lib.hid (row_later hb HQ6.out)
 have HR7:=Lib.hid (row_later hb HR6.out)
 have IE7:=Lib.hid (IE6.out.later hb)
 have IA7:=Lib.hid (IA6.out.later hb)
 have IQ7:=Lib.hid (IQ6.out.later hb)
 have IR7:=Lib.hid (IR6.out.later hb)
 have B7:=below_step B6 (Nat.le_refl _) hb
 clear hb HE6 HA6 HQ6 HR6 IE6 IA6 IQ6 IR6 B6
 clear e0 e1 e2 e3 e4 e5 ez
 clear a0 a1 a2 a3 a4 a5 az
 clear q0 q1 q2 q3 q4 q5 qz
 clear r0 r1 r2 r3 r4 r5 rz
 obtain ⟨ez,e0,e1,e2,e3,e4,e5⟩:=rk6 HE7.out
 obtain ⟨az,a0,a1,a2,a3,a4,a5⟩:=rk6 HA7.out
 obtain ⟨qz,q0,q1,q2,q3,q4,q5⟩:=rk6 HQ7.out
 obtain ⟨rz,r0,r1,r2,r3,r4,r5⟩:=rk6 HR7.out
 go_wp2_with fail
 refine (SA.out _ IR7.out IA7.out).mono ?_
 rintro e w8 ⟨rfl,hb⟩
 have HE8:=Lib.hid (row_later hb HE7.out)
 have HA8:=Lib.hid (row_later hb HA7.out)
 have HQ8:=Lib.hid (row_later hb HQ7.out)
 have HR8:=Lib.hid (row_later hb HR7.out)
 have IE8:=Lib.hid (IE7.out.later hb)
 have IA8:=Lib.hid (IA7.out.later hb)
 have IQ8:=Lib.hid (IQ7.out.later hb)
 have IR8:=Lib.hid (IR7.out.later hb)
 have B8:=below_step B7 (Nat.le_refl _) hb
 clear hb HE7 HA7 HQ7 HR7 IE7 IA7 IQ7 IR7 B7
 clear e0 e1 e2 e3 e4 e5 ez
 clear a0 a1 a2 a3 a4 a5 az
 clear q0 q1 q2 q3 q4 q5 qz
 clear r0 r1 r2 r3 r4 r5 rz
 obtain ⟨ez,e0,e1,e2,e3,e4,e5⟩:=rk6 HE8.out
 obtain ⟨az,a0,a1,a2,a3,a4,a5⟩:=rk6 HA8.out
 obtain ⟨qz,q0,q1,q2,q3,q4,q5⟩:=rk6 HQ8.out
 obtain ⟨rz,r0,r1,r2,r3,r4,r5⟩:=rk6 HR8.out
 go_wp2_with fail
 refine (DG.out _ IA8.out).mono ?_
 rintro e w9 ⟨rfl,hb⟩
 have HE9:=Lib.hid (row_later hb HE8.out)
 have HA9:=Lib.hid (row_later hb HA8.out)
 have HQ9:=Lib.hid (row_later hb HQ8.out)
 have HR9:=Lib.hid (row_later hb HR8.out)
 have IE9:=Lib.hid (IE8.out.later hb)
 have IA9:=Lib.hid (IA8.out.later hb)
 have IQ9:=Lib.hid (IQ8.out.later hb)
 have IR9:=Lib.hid (IR8.out.later hb)
 have B9:=below_step B8 (Nat.le_refl _) hb
 clear hb HE8 HA8 HQ8 HR8 IE8 IA8 IQ8 IR8 B8
 clear e0 e1 e2 e3 e4 e5 ez
 clear a0 a1 a2 a3 a4 a5 az
 clear q0 q1 q2 q3 q4 q5 qz
 clear r0 r1 r2 r3 r4 r5 rz
 obtain ⟨ez,e0,e1,e2,e3,e4,e5⟩:=rk6 HE9.out
 obtain ⟨az,a0,a1,a2,a3,a4,a5⟩:=rk6 HA9.out
 obtain ⟨qz,q0,q1,q2,q3,q4,q5⟩:=rk6 HQ9.out
 obtain ⟨rz,r0,r1,r2,r3,r4,r5⟩:=rk6 HR9.out
 go_wp2_with fail
 refine (LS.out w9).mono ?_
 rintro e w10 ⟨rfl,hb⟩
 have bq:Below w9.heap.size w9 (w9.alloc (.cells (lArea.map Value.string).toArray 9)):=(Below.refl _ _).alloc (Nat.le_refl _) _
 have hb:=below_step bq (by simp) hb
 clear bq
 have HE10:=Lib.hid (row_later hb HE9.out)
 have HA10:=Lib.hid (row_later hb HA9.out)
 have HQ10:=Lib.hid (row_later hb HQ9.out)
 have HR10:=Lib.hid (row_later hb HR9.out)
 have IE10:=Lib.hid (IE9.out.later hb)
 have IA10:=Lib.hid (IA9.out.later hb)
 have IQ10:=Lib.hid (IQ9.out.later hb)
 have IR10:=Lib.hid (IR9.out.later hb)
 have B10:=below_step B9 (Nat.le_refl _) hb
 clear hb HE9 HA9 HQ9 HR9 IE9 IA9 IQ9 IR9 B9
 clear e0 e1 e2 e3 e4 e5 ez
 clear a0 a1 a2 a3 a4 a5 az
 clear q0 q1 q2 q3 q4 q5 qz
 clear r0 r1 r2 r3 r4 r5 rz
 obtain ⟨ez,e0,e1,e2,e3,e4,e5⟩:=rk6 HE10.out
 obtain ⟨az,a0,a1,a2,a3,a4,a5⟩:=rk6 HA10.out
 obtain ⟨qz,q0,q1,q2,q3,q4,q5⟩:=rk6 HQ10.out
 obtain ⟨rz,r0,r1,r2,r3,r4,r5⟩:=rk6 HR10.out
 go_wp2_with fail
 refine (SN.out w10).mono ?_
 rintro e w11 ⟨rfl,hb⟩
 have B11:=below_step B10 (Nat.le_refl _) hb
 clear hb
 clear e0 e1 e2 e3 e4 e5 ez
 clear a0 a1 a2 a3 a4 a5 az
 clear q0 q1 q2 q3 q4 q5 qz
 clear r0 r1 r2 r3 r4 r5 rz
 go_wp2
 go_ret
 exact ⟨rfl,B11⟩
end Go.Proofs.YtdfenhjibnfdeaaDoor
