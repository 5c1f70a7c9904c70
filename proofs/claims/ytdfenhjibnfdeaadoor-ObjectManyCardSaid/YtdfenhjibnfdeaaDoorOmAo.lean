/-  -/
import Derived.Test.YtdfenhjibnfdeaaDoorOmAl
import Derived.Test.YtdfenhjibnfdeaaDoorOmAn
namespace Go.Proofs.YtdfenhjibnfdeaaDoor
open Go.RowKit Go.Shelf
def kdF (s:ByteArray):Nat→Int
 |0=>0
 |k+1=>if wordK ((k:Int)+1)=s then (k:Int)+1 else kdF s k
def tagT (R:List TokD):List TagD:=match R with
 |a :: _ :: c :: _=>[⟨a.text,c.text⟩]
 |_=>[]
def readP (T:List TokD) (x y:Int):ObjD :=
 let t:=fun i=>(T[i]?.map (·.text)).getD ⟨#[]⟩
 let k:=kdF (t 0) 5
 if k=1 then ⟨t 1,1,x,y,[],tagT (T.drop 4)⟩ else
  match T.findIdx? closeP with
  |some e=>if e<3 then ⟨⟨#[]⟩,0,0,0,[],[]⟩ else ⟨t 1,k,0,0,((T.take e).drop 3).map (·.text),tagT (T.drop (e+1))⟩
  |none=>⟨⟨#[]⟩,0,0,0,[],[]⟩
abbrev obA (id:ByteArray) (k x y:Int) (vr vt:Value):Array Value:=#[.string id,.int .i64 k,.int .i64 x,.int .i64 y,vr,vt]
theorem ob_set2 {W:World} {b:Nat} {id:ByteArray} {k x y:Int} {vr vt:Value} (h:W.heap[b]?=some (.cells (obA id k x y vr vt) 29 (0,0))) (x':Int):(W.setCell ⟨b,2,none⟩ (.int .i64 x')).heap[b]?=some (.cells (obA id k x' y vr vt) 29 (0,0)):=row_set (i:=2) (v:=.int .i64 x') h
theorem ob_set3 {W:World} {b:Nat} {id:ByteArray} {k x y:Int} {vr vt:Value} (h:W.heap[b]?=some (.cells (obA id k x y vr vt) 29 (0,0))) (y':Int):(W.setCell ⟨b,3,none⟩ (.int .i64 y')).heap[b]?=some (.cells (obA id k x y' vr vt) 29 (0,0)):=row_set (i:=3) (v:=.int .i64 y') h
theorem ob_all {W:World} {b:Nat} {id0:ByteArray} {k0 x0 y0:Int} {vr0 vt0:Value} (h:W.heap[b]?=some (.cells (obA id0 k0 x0 y0 vr0 vt0) 29 (0,0))) (id:ByteArray) (k x y:Int) (vr vt:Value) :
  ((((((W.setCell ⟨b,0,none⟩ (.string id)).setCell ⟨b,1,none⟩ (.int .i64 k)).setCell ⟨b,2,none⟩ (.int .i64 x)).setCell ⟨b,3,none⟩ (.int .i64 y)).setCell ⟨b,4,none⟩ vr).setCell ⟨b,5,none⟩ vt).heap[b]?=some (.cells (obA id k x y vr vt) 29 (0,0)) :=
 row_set (i:=5) (v:=vt) (row_set (i:=4) (v:=vr) (row_set (i:=3) (v:=.int .i64 y) (row_set (i:=2) (v:=.int .i64 x) (row_set (i:=1) (v:=.int .i64 k) (row_set (i:=0) (v:=.string id) h)))))
theorem kd_one {T:List TokD} {x y:Int} {t0 t1:TokD} (h0:T[0]?=some t0) (h1:T[1]?=some t1) (hk:kdF t0.text 5=1):readP T x y=⟨t1.text,1,x,y,[],tagT (T.drop 4)⟩:=by
 unfold readP
 simp only [h0,h1,Option.map_some,Option.getD_some]
 rw [if_pos hk]
theorem drop_nil {T:List TokD} {n:Nat} (h:T.length=n):tagT (T.drop n)=[]:=by rw [List.drop_of_length_le (by omega)];rfl
theorem six_cell {W:World} {b g i:Nat} {v a0 a1 a2 a3 a4 a5:Value} (hg:b+1<g) (h:W.cell? ⟨g,i,none⟩=some v) :
  ((((((W.setCell ⟨b,0,none⟩ a0).setCell ⟨b,1,none⟩ a1).setCell ⟨b,2,none⟩ a2).setCell ⟨b,3,none⟩ a3).setCell ⟨b,4,none⟩ a4).setCell ⟨b,5,none⟩ a5).cell? ⟨g,i,none⟩=some v:=by
 have hs:∀(W:World) (j:Nat) (a:Value),W.cell? ⟨g,i,none⟩=some v→(W.setCell ⟨b,j,none⟩ a).cell? ⟨g,i,none⟩=some v:=fun W j a h=>by
  have hb:(W.setCell ⟨b,j,none⟩ a).heap[g]?=W.heap[g]?:=Below.heap_setCell _ _ _ _ (by simp only;omega)
  rw [←h]
  simp only [World.cell?,hb]
 exact hs _ _ _ (hs _ _ _ (hs _ _ _ (hs _ _ _ (hs _ _ _ (hs _ _ _ h)))))
def Fr (B:Nat) (v:Value):Prop:=∀a n c,v=.slice (some a) n c→B≤a.block
theorem fr_nil (B:Nat):Fr B (.slice none 0 0):=fun a n c h=>by cases h
theorem fr_own {w:World} {B e size n:Nat} {v:Value} {xs:List Value} (h:w.ownsRow B e size v n xs):Fr B v:=fun a n c e=>(h.lt a.block (by rw [e];rfl)).1
theorem own_set {w:World} {B e size n b i:Nat} {v u:Value} {xs:List Value} (h:w.ownsRow B e size v n xs) (hne:some b≠v.ownBlock):(w.setCell ⟨b,i,none⟩ u).ownsRow B e size v n xs:=by
 obtain ⟨h0,h⟩:=h
 refine ⟨h0,?_⟩
 rcases h with h | ⟨g,cap,cur,rfl,h2,h3,h4⟩
 ·exact .inl h
 ·refine .inr ⟨g,cap,cur,rfl,h2,?_,h4⟩
  exact row_set_other h3 (fun e=>hne (by show some b=some g;rw [show g=b from e]))
set_option maxRecDepth 100000 in
set_option maxHeartbeats 4000000 in
theorem read_any (v:Value) (T:List TokD) (x y:Int) (w:World) (h:TkR w v T) (h4:4≤T.length) (hsz:∀t∈T,t.text.size≤1000000) (hl:T.length≤5000)
  (hN:(kdF ((T[0]?.map (·.text)).getD ⟨#[]⟩) 5=1∧(T.length=4∨T.length=7))∨(kdF ((T[0]?.map (·.text)).getD ⟨#[]⟩) 5≠1∧T.findIdx? closeP=some (T.length - 1)))
  (hx:kdF ((T[0]?.map (·.text)).getD ⟨#[]⟩) 5=1→∀t2 t3,T[2]?=some t2→T[3]?=some t3→t2.text.size≤18∧t3.text.size≤18∧Lib.atoi t2.text.data.toList=some x∧Lib.atoi t3.text.data.toList=some y) :
  Calls Tryd.prog 27 #[v] w fun e w'=>∃vr vt,e=.returned (.agg (obA (readP T x y).id (readP T x y).kind (readP T x y).x (readP T x y).y vr vt))∧StrRow w' vr (readP T x y).refs∧(∀a n c,vr=.slice a n c→n≤c)∧TagRow w' vt (readP T x y).tags∧Fr w.heap.size vr∧Fr w.heap.size vt∧Below w.heap.size w w':=by
 obtain ⟨a,cap,rfl,hcp,hcm,hc⟩:=h
 obtain ⟨b,off,rfl,hcell⟩:=hc (by omega)
 obtain ⟨N,hNl⟩:∃N,T.length=N:=⟨_,rfl⟩
 rw [hNl] at hcp h4 hl hN ⊢
 have HN:=Lib.hid hNl
 have HC:=Lib.hid hcell
 have HSZ:=Lib.hid hsz
 have HXX:=Lib.hid hx
 have HNN:=Lib.hid hN
 have HTK:=Lib.hid (show TkR w (.slice (some ⟨b,off,none⟩) N cap) T from ⟨some ⟨b,off,none⟩,cap,by rw [hNl],by omega,hcm,fun _=>⟨b,off,rfl,hcell⟩⟩)
 obtain ⟨t0,ht0⟩:∃t,T[0]?=some t:=⟨T[0]'(by omega),List.getElem?_eq_getElem _⟩
 obtain ⟨t1,ht1⟩:∃t,T[1]?=some t:=⟨T[1]'(by omega),List.getElem?_eq_getElem _⟩
 have HT0:=Lib.hid ht0
 have HT1:=Lib.hid ht1
 have D4:decide ((N:Int)<4)=false:=by rw [decide_eq_false_iff_not];omega
 have WD:=Lib.hid (fun k W=>word_any k W)
 clear hc hcell hsz hx ht0 ht1 hN hNl
 have B0:Below w.heap.size w (w.alloc (.cells (obA ⟨#[]⟩ 0 0 0 (.slice none 0 0) (.slice none 0 0)) 29)):=(Below.refl _ w).alloc (Nat.le_refl _) _
 go_enter Tryd.func27,Tryd.ntmps27
 go_wp2
 go_loop [0] (fun s=>s=.slice (some ⟨b,off,none⟩) N cap) (fun _=>0)
 case atStart=>rfl
 case round =>
  subst hrel
  have c1:=(HC.out 1 t1 HT1.out).2.1
  have c1':=cell_later B0 c1
  have hmx:Tryd.prog.follows .mixedOrders=true:=by kernel_rfl
  have HB0:=Lib.hid (row_new1 w (.cells (obA ⟨#[]⟩ 0 0 0 (.slice none 0 0) (.slice none 0 0)) 29) (.cells (obA t1.text 0 0 0 (.slice none 0 0) (.slice none 0 0)) 29))
  have HR0:=Lib.hid (row_past (o':=.cells (obA t1.text 0 0 0 (.slice none 0 0) (.slice none 0 0)) 29) (row_new w (.cells (obA ⟨#[]⟩ 0 0 0 (.slice none 0 0) (.slice none 0 0)) 29)))
  have B1:Below w.heap.size w ((w.alloc (.cells (obA ⟨#[]⟩ 0 0 0 (.slice none 0 0) (.slice none 0 0)) 29)).alloc (.cells (obA t1.text 0 0 0 (.slice none 0 0) (.slice none 0 0)) 29)):=B0.alloc B0.size _
  go_wp2
  go_loopw [4] (fun i wr=>∃k:Nat,k≤5∧i=.int .i64 ((k:Int)+1)∧wr.heap[w.heap.size+1]?=some (.cells (obA t1.text (kdF t0.text k) 0 0 (.slice none 0 0) (.slice none 0 0)) 29 (0,0))∧wr.heap[w.heap.size]?=some (.cells (obA ⟨#[]⟩ 0 0 0 (.slice none 0 0) (.slice none 0 0)) 29 (0,0))∧Below w.heap.size w wr) (fun i _=>6 - (intOf i).toNat)
  case atStart=>exact ⟨0,by omega,rfl,HB0.out,HR0.out,B1⟩
  case round =>
   clear HB0 HR0 B1 B0 c1 c1'
   obtain ⟨k,hk,rfl,hO,hR,hbr⟩:=hrel
   have HO:=Lib.hid hO
   have HR:=Lib.hid hR
   have hbs:=hbr.size
   clear hO hR
   by_cases hlt:k<5
   ·have c0:=cell_later hbr (show w.cell? ⟨b,off+1,none⟩=some (.string t0.text) by have:=(HC.out 0 t0 HT0.out).2.1;simpa using this)
    have d0:=cell_belowBy c0
    have W1:=Lib.hid (fun W=>WD.out ((k:Int)+1) W)
    have D1:decide ((k:Int)+1≤5)=true:=by rw [decide_eq_true_eq];omega
    have jw:IntKind.i64.wrap ((k:Int)+1+1)=(k:Int)+1+1:=IntWalk.i64_in _ (by omega)
    by_cases he:wordK ((k:Int)+1)=t0.text
    ·have e1:=str_eq_true he
     have HK:=Lib.hid (show kdF t0.text (k+1)=(k:Int)+1 by rw [kdF,if_pos he])
     clear he c0
     go_wp2
     refine wp_region_quiet_below (by assumption) (by kernel_rfl) ?_
     repeat (go_big_quiet_step (first | (go_at_call 14;exact calls_belowBy (W1.out _))))
     refine wpQuiet_nil ?_
     intro w6 hw'
     obtain ⟨⟨w7,hb7⟩,hw''⟩:=hw'
     subst hw''
     have HO7:=Lib.hid (row_later hb7 HO.out)
     have HR7:=Lib.hid (row_later hb7 HR.out)
     have B7:=below_step hbr (Nat.le_refl _) hb7
     clear hb7 d0
     obtain ⟨oz,o0,o1,o2,o3,o4,o5⟩:=rk6 HO7.out
     have of0:=frozen_of_row w6 _ 0 _ _ HO7.out
     have of1:=frozen_of_row w6 _ 1 _ _ HO7.out
     have of2:=frozen_of_row w6 _ 2 _ _ HO7.out
     have of3:=frozen_of_row w6 _ 3 _ _ HO7.out
     have of4:=frozen_of_row w6 _ 4 _ _ HO7.out
     have of5:=frozen_of_row w6 _ 5 _ _ HO7.out
     go_wp2
     go_roundw
     case rel=>exact ⟨k+1,by omega,by go_num,by rw [HK.out];exact row_set (i:=1) (v:=.int .i64 ((k:Int)+1)) HO7.out,row_set_other HR7.out (by simp only;omega),B7.setCell (by simp only;omega) _⟩
     case measure=>simp [intOf];omega
    ·have e1:=str_eq_false he
     have HK:=Lib.hid (show kdF t0.text (k+1)=kdF t0.text k by rw [kdF,if_neg he])
     clear he c0
     go_wp2
     refine wp_region_quiet_below (by assumption) (by kernel_rfl) ?_
     repeat (go_big_quiet_step (first | (go_at_call 14;exact calls_belowBy (W1.out _))))
     refine wpQuiet_nil ?_
     intro w6 hw'
     obtain ⟨⟨w7,hb7⟩,hw''⟩:=hw'
     subst hw''
     have HO7:=Lib.hid (row_later hb7 HO.out)
     have HR7:=Lib.hid (row_later hb7 HR.out)
     have B7:=below_step hbr (Nat.le_refl _) hb7
     clear hb7 d0
     go_wp2
     go_roundw
     case rel=>exact ⟨k+1,by omega,by go_num,by rw [HK.out];exact HO7.out,HR7.out,B7⟩
     case measure=>simp [intOf];omega
   ·obtain rfl:k=5:=by omega
    obtain ⟨kd,hkd⟩:∃z,z=kdF t0.text 5:=⟨_,rfl⟩
    have HKD:=Lib.hid hkd
    rw [←hkd] at HO
    clear hkd
    obtain ⟨oz,o0,o1,o2,o3,o4,o5⟩:=rk6 HO.out
    by_cases hk1:kd=1
    ·obtain ⟨t2,ht2⟩:∃t,T[2]?=some t:=⟨T[2]'(by rw [HN.out];omega),List.getElem?_eq_getElem _⟩
     obtain ⟨t3,ht3⟩:∃t,T[3]?=some t:=⟨T[3]'(by rw [HN.out];omega),List.getElem?_eq_getElem _⟩
     have hkk:kdF ((T[0]?.map (·.text)).getD ⟨#[]⟩) 5=1:=by rw [HT0.out];show kdF t0.text 5=1;rw [←HKD.out];exact hk1
     obtain ⟨z2,z3,a2,a3⟩:=HXX.out hkk t2 t3 ht2 ht3
     have AX:=Lib.hid (fun W=>Tryd.strconv_Atoi t2.text x z2 a2 W)
     have AY:=Lib.hid (fun W=>Tryd.strconv_Atoi t3.text y z3 a3 W)
     have c2:=cell_later hbr (show w.cell? ⟨b,off+6+1,none⟩=some (.string t2.text) from (HC.out 2 t2 ht2).2.1)
     have q3:=(show w.cell? ⟨b,off+9+1,none⟩=some (.string t3.text) from (HC.out 3 t3 ht3).2.1)
     have hN2:N=4∨N=7:=by
      rcases HNN.out with ⟨_,h⟩ | ⟨h,_⟩
      ·exact h
      ·exact absurd hkk h
     clear ht2 ht3 a2 a3 z2 z3 hkk
     subst hk1
     rcases hN2 with rfl | rfl
     ·by_cases hc4:cap=4
      ·subst hc4
       go_wp2_with fail
       refine (AX.out wr).mono ?_
       rintro e w6 ⟨rfl,tt,hw6⟩
       have hb6:Below wr.heap.size wr w6:=by rw [hw6];exact Lib.bytesWorld_below _ _ _
       clear hw6 o0 o1 o2 o3 o4 o5 oz
       have HO6:=Lib.hid (row_later hb6 HO.out)
       have HR6:=Lib.hid (row_later hb6 HR.out)
       have B6:=below_step hbr (Nat.le_refl _) hb6
       have p3:=cell_later B6 q3
       have hbl:=lt_of_cell' q3
       clear hb6
       obtain ⟨oz,o0,o1,o2,o3,o4,o5⟩:=rk6 HO6.out
       have of0:=frozen_of_row w6 _ 0 _ _ HO6.out
       have of1:=frozen_of_row w6 _ 1 _ _ HO6.out
       have of2:=frozen_of_row w6 _ 2 _ _ HO6.out
       have of3:=frozen_of_row w6 _ 3 _ _ HO6.out
       have of4:=frozen_of_row w6 _ 4 _ _ HO6.out
       have of5:=frozen_of_row w6 _ 5 _ _ HO6.out
       go_wp2_with fail
       have HO7:=Lib.hid (ob_set2 HO6.out x)
       have HR7:=Lib.hid (row_set_other (a:=⟨w.heap.size+1,2,none⟩) (v:=.int .i64 x) HR6.out (by simp only;omega))
       have B7:Below w.heap.size w (w6.setCell ⟨w.heap.size+1,2,none⟩ (.int .i64 x)):=B6.setCell (by simp only;omega) _
       generalize hw7:w6.setCell ⟨w.heap.size+1,2,none⟩ (.int .i64 x)=w7
       rw [hw7] at HO7 HR7 B7
       clear hw7 o0 o1 o2 o3 o4 o5 oz of0 of1 of2 of3 of4 of5 p3
       refine (AY.out w7).mono ?_
       rintro e w8 ⟨rfl,tt,hw8⟩
       have hb8:Below w7.heap.size w7 w8:=by rw [hw8];exact Lib.bytesWorld_below _ _ _
       clear hw8
       have HO8:=Lib.hid (row_later hb8 HO7.out)
       have HR8:=Lib.hid (row_later hb8 HR7.out)
       have B8:=below_step B7 (Nat.le_refl _) hb8
       clear hb8
       obtain ⟨oz,o0,o1,o2,o3,o4,o5⟩:=rk6 HO8.out
       have of0:=frozen_of_row w8 _ 0 _ _ HO8.out
       have of1:=frozen_of_row w8 _ 1 _ _ HO8.out
       have of2:=frozen_of_row w8 _ 2 _ _ HO8.out
       have of3:=frozen_of_row w8 _ 3 _ _ HO8.out
       have of4:=frozen_of_row w8 _ 4 _ _ HO8.out
       have of5:=frozen_of_row w8 _ 5 _ _ HO8.out
       have HO9:=Lib.hid (ob_set3 HO8.out y)
       have HR9:=Lib.hid (row_set_other (a:=⟨w.heap.size+1,3,none⟩) (v:=.int .i64 y) HR8.out (by simp only;omega))
       have B9:Below w.heap.size w (w8.setCell ⟨w.heap.size+1,3,none⟩ (.int .i64 y)):=B8.setCell (by simp only;omega) _
       go_wp2_with fail
       generalize hw9:w8.setCell ⟨w.heap.size+1,3,none⟩ (.int .i64 y)=w9
       rw [hw9] at HO9 HR9 B9
       clear hw9 o0 o1 o2 o3 o4 o5 oz of0 of1 of2 of3 of4 of5
       go_loopw [5] (fun s wz=>s=(.slice (some ⟨b,off,none⟩) 0 0)∧wz=w9) (fun _ _=>0)
       case atStart=>exact ⟨rfl,rfl⟩
       case round =>
        obtain ⟨rfl,hwz⟩:=hrel
        rw [hwz]
        clear hwz
        have hB9:=B9
        have hbz:w.heap.size≤w9.heap.size:=B9.size
        obtain ⟨oz,o0,o1,o2,o3,o4,o5⟩:=rk6 HO9.out
        obtain ⟨rz,r0,r1,r2,r3,r4,r5⟩:=rk6 HR9.out
        have rf0:=frozen_of_row w9 _ 0 _ _ HR9.out
        have rf1:=frozen_of_row w9 _ 1 _ _ HR9.out
        have rf2:=frozen_of_row w9 _ 2 _ _ HR9.out
        have rf3:=frozen_of_row w9 _ 3 _ _ HR9.out
        have rf4:=frozen_of_row w9 _ 4 _ _ HR9.out
        have rf5:=frozen_of_row w9 _ 5 _ _ HR9.out
        go_wp2
        have HZ:=Lib.hid (ob_all HR9.out t1.text 1 x y (.slice none 0 0) (.slice none 0 0))
        have BZ:=Lib.hid (((((((hB9.setCell (p:=⟨w.heap.size,0,none⟩) (Nat.le_refl _) (.string t1.text)).setCell (p:=⟨w.heap.size,1,none⟩) (Nat.le_refl _) (.int .i64 1)).setCell (p:=⟨w.heap.size,2,none⟩) (Nat.le_refl _) (.int .i64 x)).setCell (p:=⟨w.heap.size,3,none⟩) (Nat.le_refl _) (.int .i64 y)).setCell (p:=⟨w.heap.size,4,none⟩) (Nat.le_refl _) (.slice none 0 0))).setCell (p:=⟨w.heap.size,5,none⟩) (Nat.le_refl _) (.slice none 0 0))
        generalize hwF:(((((w9.setCell ⟨w.heap.size,0,none⟩ (.string t1.text)).setCell ⟨w.heap.size,1,none⟩ (.int .i64 1)).setCell ⟨w.heap.size,2,none⟩ (.int .i64 x)).setCell ⟨w.heap.size,3,none⟩ (.int .i64 y)).setCell ⟨w.heap.size,4,none⟩ (.slice none 0 0)).setCell ⟨w.heap.size,5,none⟩ (.slice none 0 0)=wF
        rw [hwF] at HZ BZ
        have HGF:=Lib.hid (fun (g i:Nat) (v:Value) (hg:w.heap.size+1<g) (h:w9.cell? ⟨g,i,none⟩=some v)=>show wF.cell? ⟨g,i,none⟩=some v by rw [←hwF];exact six_cell hg h)
        have SRF:=Lib.hid (show StrRow wF (.slice none 0 0) [] by rw [←hwF];exact ⟨none,0,rfl,by simp,(fun s hs=>by cases hs),(fun h=>by cases h)⟩)
        clear hwF o0 o1 o2 o3 o4 o5 oz r0 r1 r2 r3 r4 r5 rf0 rf1 rf2 rf3 rf4 rf5 rz
        obtain ⟨sz,s0,s1,s2,s3,s4,s5⟩:=rk6 HZ.out
        refine bodyPost_ret (v:=.agg (obA t1.text 1 x y (.slice none 0 0) (.slice none 0 0))) (by simp [results,Tryd.results27,go_sem,s0,s1,s2,s3,s4,s5]) rfl ?_
        have HRP:=kd_one (x:=x) (y:=y) HT0.out HT1.out HKD.out.symm
        rw [drop_nil HN.out] at HRP
        rw [HRP]
        exact ⟨_,_,rfl,SRF.out,(fun a n c h=>by injection h with _ h1 h2;omega),⟨none,0,rfl,by simp,(fun s hs=>by cases hs),(fun h=>by cases h)⟩,fr_nil _,fr_nil _,BZ.out⟩
      ·go_wp2_with fail
       refine (AX.out wr).mono ?_
       rintro e w6 ⟨rfl,tt,hw6⟩
       have hb6:Below wr.heap.size wr w6:=by rw [hw6];exact Lib.bytesWorld_below _ _ _
       clear hw6 o0 o1 o2 o3 o4 o5 oz
       have HO6:=Lib.hid (row_later hb6 HO.out)
       have HR6:=Lib.hid (row_later hb6 HR.out)
       have B6:=below_step hbr (Nat.le_refl _) hb6
       have p3:=cell_later B6 q3
       have hbl:=lt_of_cell' q3
       clear hb6
       obtain ⟨oz,o0,o1,o2,o3,o4,o5⟩:=rk6 HO6.out
       have of0:=frozen_of_row w6 _ 0 _ _ HO6.out
       have of1:=frozen_of_row w6 _ 1 _ _ HO6.out
       have of2:=frozen_of_row w6 _ 2 _ _ HO6.out
       have of3:=frozen_of_row w6 _ 3 _ _ HO6.out
       have of4:=frozen_of_row w6 _ 4 _ _ HO6.out
       have of5:=frozen_of_row w6 _ 5 _ _ HO6.out
       go_wp2_with fail
       have HO7:=Lib.hid (ob_set2 HO6.out x)
       have HR7:=Lib.hid (row_set_other (a:=⟨w.heap.size+1,2,none⟩) (v:=.int .i64 x) HR6.out (by simp only;omega))
       have B7:Below w.heap.size w (w6.setCell ⟨w.heap.size+1,2,none⟩ (.int .i64 x)):=B6.setCell (by simp only;omega) _
       generalize hw7:w6.setCell ⟨w.heap.size+1,2,none⟩ (.int .i64 x)=w7
       rw [hw7] at HO7 HR7 B7
       clear hw7 o0 o1 o2 o3 o4 o5 oz of0 of1 of2 of3 of4 of5 p3
       refine (AY.out w7).mono ?_
       rintro e w8 ⟨rfl,tt,hw8⟩
       have hb8:Below w7.heap.size w7 w8:=by rw [hw8];exact Lib.bytesWorld_below _ _ _
       clear hw8
       have HO8:=Lib.hid (row_later hb8 HO7.out)
       have HR8:=Lib.hid (row_later hb8 HR7.out)
       have B8:=below_step B7 (Nat.le_refl _) hb8
       clear hb8
       obtain ⟨oz,o0,o1,o2,o3,o4,o5⟩:=rk6 HO8.out
       have of0:=frozen_of_row w8 _ 0 _ _ HO8.out
       have of1:=frozen_of_row w8 _ 1 _ _ HO8.out
       have of2:=frozen_of_row w8 _ 2 _ _ HO8.out
       have of3:=frozen_of_row w8 _ 3 _ _ HO8.out
       have of4:=frozen_of_row w8 _ 4 _ _ HO8.out
       have of5:=frozen_of_row w8 _ 5 _ _ HO8.out
       have HO9:=Lib.hid (ob_set3 HO8.out y)
       have HR9:=Lib.hid (row_set_other (a:=⟨w.heap.size+1,3,none⟩) (v:=.int .i64 y) HR8.out (by simp only;omega))
       have B9:Below w.heap.size w (w8.setCell ⟨w.heap.size+1,3,none⟩ (.int .i64 y)):=B8.setCell (by simp only;omega) _
       go_wp2_with fail
       generalize hw9:w8.setCell ⟨w.heap.size+1,3,none⟩ (.int .i64 y)=w9
       rw [hw9] at HO9 HR9 B9
       clear hw9 o0 o1 o2 o3 o4 o5 oz of0 of1 of2 of3 of4 of5
       go_loopw [5] (fun s wz=>s=(.slice (some ⟨b,off+12,none⟩) 0 (cap - 4))∧wz=w9) (fun _ _=>0)
       case atStart=>exact ⟨rfl,rfl⟩
       case round =>
        obtain ⟨rfl,hwz⟩:=hrel
        rw [hwz]
        clear hwz
        have hB9:=B9
        have hbz:w.heap.size≤w9.heap.size:=B9.size
        obtain ⟨oz,o0,o1,o2,o3,o4,o5⟩:=rk6 HO9.out
        obtain ⟨rz,r0,r1,r2,r3,r4,r5⟩:=rk6 HR9.out
        have rf0:=frozen_of_row w9 _ 0 _ _ HR9.out
        have rf1:=frozen_of_row w9 _ 1 _ _ HR9.out
        have rf2:=frozen_of_row w9 _ 2 _ _ HR9.out
        have rf3:=frozen_of_row w9 _ 3 _ _ HR9.out
        have rf4:=frozen_of_row w9 _ 4 _ _ HR9.out
        have rf5:=frozen_of_row w9 _ 5 _ _ HR9.out
        go_wp2
        have HZ:=Lib.hid (ob_all HR9.out t1.text 1 x y (.slice none 0 0) (.slice none 0 0))
        have BZ:=Lib.hid (((((((hB9.setCell (p:=⟨w.heap.size,0,none⟩) (Nat.le_refl _) (.string t1.text)).setCell (p:=⟨w.heap.size,1,none⟩) (Nat.le_refl _) (.int .i64 1)).setCell (p:=⟨w.heap.size,2,none⟩) (Nat.le_refl _) (.int .i64 x)).setCell (p:=⟨w.heap.size,3,none⟩) (Nat.le_refl _) (.int .i64 y)).setCell (p:=⟨w.heap.size,4,none⟩) (Nat.le_refl _) (.slice none 0 0))).setCell (p:=⟨w.heap.size,5,none⟩) (Nat.le_refl _) (.slice none 0 0))
        generalize hwF:(((((w9.setCell ⟨w.heap.size,0,none⟩ (.string t1.text)).setCell ⟨w.heap.size,1,none⟩ (.int .i64 1)).setCell ⟨w.heap.size,2,none⟩ (.int .i64 x)).setCell ⟨w.heap.size,3,none⟩ (.int .i64 y)).setCell ⟨w.heap.size,4,none⟩ (.slice none 0 0)).setCell ⟨w.heap.size,5,none⟩ (.slice none 0 0)=wF
        rw [hwF] at HZ BZ
        have HGF:=Lib.hid (fun (g i:Nat) (v:Value) (hg:w.heap.size+1<g) (h:w9.cell? ⟨g,i,none⟩=some v)=>show wF.cell? ⟨g,i,none⟩=some v by rw [←hwF];exact six_cell hg h)
        have SRF:=Lib.hid (show StrRow wF (.slice none 0 0) [] by rw [←hwF];exact ⟨none,0,rfl,by simp,(fun s hs=>by cases hs),(fun h=>by cases h)⟩)
        clear hwF o0 o1 o2 o3 o4 o5 oz r0 r1 r2 r3 r4 r5 rf0 rf1 rf2 rf3 rf4 rf5 rz
        obtain ⟨sz,s0,s1,s2,s3,s4,s5⟩:=rk6 HZ.out
        refine bodyPost_ret (v:=.agg (obA t1.text 1 x y (.slice none 0 0) (.slice none 0 0))) (by simp [results,Tryd.results27,go_sem,s0,s1,s2,s3,s4,s5]) rfl ?_
        have HRP:=kd_one (x:=x) (y:=y) HT0.out HT1.out HKD.out.symm
        rw [drop_nil HN.out] at HRP
        rw [HRP]
        exact ⟨_,_,rfl,SRF.out,(fun a n c h=>by injection h with _ h1 h2;omega),⟨none,0,rfl,by simp,(fun s hs=>by cases hs),(fun h=>by cases h)⟩,fr_nil _,fr_nil _,BZ.out⟩
     ·have hc4:¬cap=4:=by omega
      go_wp2_with fail
      refine (AX.out wr).mono ?_
      rintro e w6 ⟨rfl,tt,hw6⟩
      have hb6:Below wr.heap.size wr w6:=by rw [hw6];exact Lib.bytesWorld_below _ _ _
      clear hw6 o0 o1 o2 o3 o4 o5 oz
      have HO6:=Lib.hid (row_later hb6 HO.out)
      have HR6:=Lib.hid (row_later hb6 HR.out)
      have B6:=below_step hbr (Nat.le_refl _) hb6
      have p3:=cell_later B6 q3
      have hbl:=lt_of_cell' q3
      clear hb6
      obtain ⟨oz,o0,o1,o2,o3,o4,o5⟩:=rk6 HO6.out
      have of0:=frozen_of_row w6 _ 0 _ _ HO6.out
      have of1:=frozen_of_row w6 _ 1 _ _ HO6.out
      have of2:=frozen_of_row w6 _ 2 _ _ HO6.out
      have of3:=frozen_of_row w6 _ 3 _ _ HO6.out
      have of4:=frozen_of_row w6 _ 4 _ _ HO6.out
      have of5:=frozen_of_row w6 _ 5 _ _ HO6.out
      go_wp2_with fail
      have HO7:=Lib.hid (ob_set2 HO6.out x)
      have HR7:=Lib.hid (row_set_other (a:=⟨w.heap.size+1,2,none⟩) (v:=.int .i64 x) HR6.out (by simp only;omega))
      have B7:Below w.heap.size w (w6.setCell ⟨w.heap.size+1,2,none⟩ (.int .i64 x)):=B6.setCell (by simp only;omega) _
      generalize hw7:w6.setCell ⟨w.heap.size+1,2,none⟩ (.int .i64 x)=w7
      rw [hw7] at HO7 HR7 B7
      clear hw7 o0 o1 o2 o3 o4 o5 oz of0 of1 of2 of3 of4 of5 p3
      refine (AY.out w7).mono ?_
      rintro e w8 ⟨rfl,tt,hw8⟩
      have hb8:Below w7.heap.size w7 w8:=by rw [hw8];exact Lib.bytesWorld_below _ _ _
      clear hw8
      have HO8:=Lib.hid (row_later hb8 HO7.out)
      have HR8:=Lib.hid (row_later hb8 HR7.out)
      have B8:=below_step B7 (Nat.le_refl _) hb8
      clear hb8
      obtain ⟨oz,o0,o1,o2,o3,o4,o5⟩:=rk6 HO8.out
      have of0:=frozen_of_row w8 _ 0 _ _ HO8.out
      have of1:=frozen_of_row w8 _ 1 _ _ HO8.out
      have of2:=frozen_of_row w8 _ 2 _ _ HO8.out
      have of3:=frozen_of_row w8 _ 3 _ _ HO8.out
      have of4:=frozen_of_row w8 _ 4 _ _ HO8.out
      have of5:=frozen_of_row w8 _ 5 _ _ HO8.out
      have HO9:=Lib.hid (ob_set3 HO8.out y)
      have HR9:=Lib.hid (row_set_other (a:=⟨w.heap.size+1,3,none⟩) (v:=.int .i64 y) HR8.out (by simp only;omega))
      have B9:Below w.heap.size w (w8.setCell ⟨w.heap.size+1,3,none⟩ (.int .i64 y)):=B8.setCell (by simp only;omega) _
      go_wp2_with fail
      generalize hw9:w8.setCell ⟨w.heap.size+1,3,none⟩ (.int .i64 y)=w9
      rw [hw9] at HO9 HR9 B9
      clear hw9 o0 o1 o2 o3 o4 o5 oz of0 of1 of2 of3 of4 of5
      obtain ⟨t4,ht4⟩:∃t,T[4]?=some t:=⟨T[4]'(by rw [HN.out];omega),List.getElem?_eq_getElem _⟩
      obtain ⟨t5,ht5⟩:∃t,T[5]?=some t:=⟨T[5]'(by rw [HN.out];omega),List.getElem?_eq_getElem _⟩
      obtain ⟨t6,ht6⟩:∃t,T[6]?=some t:=⟨T[6]'(by rw [HN.out];omega),List.getElem?_eq_getElem _⟩
      have HTG:=Lib.hid (show tagT (T.drop 4)=[⟨t4.text,t6.text⟩] by
       obtain ⟨l4,e4⟩:=List.getElem?_eq_some_iff.1 ht4
       obtain ⟨l5,e5⟩:=List.getElem?_eq_some_iff.1 ht5
       obtain ⟨l6,e6⟩:=List.getElem?_eq_some_iff.1 ht6
       rw [List.drop_eq_getElem_cons l4,List.drop_eq_getElem_cons l5,List.drop_eq_getElem_cons l6,e4,e5,e6];rfl)
      have hzt:t4.text.size≤1000000∧t6.text.size≤1000000:=⟨HSZ.out _ (List.mem_of_getElem? ht4),HSZ.out _ (List.mem_of_getElem? ht6)⟩
      have p4:=cell_later B9 (show w.cell? ⟨b,off+12+1,none⟩=some (.string t4.text) from (HC.out 4 t4 ht4).2.1)
      have p6:=cell_later B9 (show w.cell? ⟨b,off+12+6+1,none⟩=some (.string t6.text) by have:=(HC.out 6 t6 ht6).2.1;rwa [show off+6 * 3+1=off+12+6+1 by omega] at this)
      clear ht4 ht5 ht6
      have hbs9:=B9.size
      have hol:=lt_of_block HO9.out
      go_loopw [5] (fun s wz=>(s=.slice (some ⟨b,off+12,none⟩) 3 (cap - 4)∧wz=w9)∨(∃a c g d,s=.slice a 0 c∧1≤d∧wz.heap[w.heap.size+1]?=some (.cells (obA t1.text 1 x y (.slice none 0 0) (.slice (some ⟨g,0,none⟩) 1 d)) 29 (0,0))∧wz.heap[w.heap.size]?=some (.cells (obA ⟨#[]⟩ 0 0 0 (.slice none 0 0) (.slice none 0 0)) 29 (0,0))∧wz.cell? ⟨g,0,none⟩=some (.string t4.text)∧wz.cell? ⟨g,1,none⟩=some (.string t6.text)∧g<wz.heap.size∧w.heap.size+1<g∧Below w.heap.size w wz)) (fun s _=>match s with | .slice _ n _=>n | _=>0)
      case atStart=>exact .inl ⟨rfl,rfl⟩
      case round =>
       rcases hrel with ⟨rfl,hwz⟩ | ⟨a',c',g,d,rfl,hd,hO9,hR9,hg0,hg1,hgl,hgb,hB9'⟩
       ·rw [hwz]
        clear hwz
        obtain ⟨oz,o0,o1,o2,o3,o4,o5⟩:=rk6 HO9.out
        have of0:=frozen_of_row w9 _ 0 _ _ HO9.out
        have of1:=frozen_of_row w9 _ 1 _ _ HO9.out
        have of2:=frozen_of_row w9 _ 2 _ _ HO9.out
        have of3:=frozen_of_row w9 _ 3 _ _ HO9.out
        have of4:=frozen_of_row w9 _ 4 _ _ HO9.out
        have of5:=frozen_of_row w9 _ 5 _ _ HO9.out
        have hn1:¬w.heap.size=w9.heap.size:=by omega
        have hn2:¬w.heap.size+1=w9.heap.size:=by omega
        have hn3:w.heap.size<w9.heap.size:=by omega
        have hbz:¬281474976710656<Builtin.nextslicecap 1 0 * Tryd.t38.bytes:=by decide +kernel
        go_wp2
        go_region
        have G1:=Lib.hid (row_drew (row_drew (row_past (o':=.cells (#[.string t4.text,.string t6.text]++Builtin.zeroCells #[.string ⟨#[]⟩,.string ⟨#[]⟩] (grownCap w9.drew 1 0 38 - 1)) 38) (row_past (o':=.cells #[.string t4.text,.string t6.text] 38) (row_set (i:=5) (v:=.slice (some ⟨w9.heap.size+1,0,none⟩) 1 (grownCap w9.drew 1 0 38)) HO9.out)))))
        have G2:=Lib.hid (row_drew (row_drew (row_past (o':=.cells (#[.string t4.text,.string t6.text]++Builtin.zeroCells #[.string ⟨#[]⟩,.string ⟨#[]⟩] (grownCap w9.drew 1 0 38 - 1)) 38) (row_past (o':=.cells #[.string t4.text,.string t6.text] 38) (row_set_other (a:=⟨w.heap.size+1,5,none⟩) (v:=.slice (some ⟨w9.heap.size+1,0,none⟩) 1 (grownCap w9.drew 1 0 38)) HR9.out (by simp only;omega))))))
        have G3:=row_new1 (w9.setCell ⟨w.heap.size+1,5,none⟩ (.slice (some ⟨w9.heap.size+1,0,none⟩) 1 (grownCap w9.drew 1 0 38))) (.cells #[.string t4.text,.string t6.text] 38) (.cells (#[.string t4.text,.string t6.text]++Builtin.zeroCells #[.string ⟨#[]⟩,.string ⟨#[]⟩] (grownCap w9.drew 1 0 38 - 1)) 38)
        rw [World.size_setCell] at G3
        have G4:=cell_of_row _ _ 0 _ _ _ (row_drew (row_drew G3))
        have G5:=cell_of_row _ _ 1 _ _ _ (row_drew (row_drew G3))
        rw [Array.getElem?_append_left (by simp)] at G4 G5
        have G6:=Lib.hid (And.intro G4 (And.intro G5 (lt_of_block (row_drew (row_drew G3)))))
        have G7:=Lib.hid ((((B9.setCell (p:=⟨w.heap.size+1,5,none⟩) (by simp only;omega) (.slice (some ⟨w9.heap.size+1,0,none⟩) 1 (grownCap w9.drew 1 0 38))).alloc (by simp;omega) (.cells #[.string t4.text,.string t6.text] 38)).alloc (by simp;omega) (.cells (#[.string t4.text,.string t6.text]++Builtin.zeroCells #[.string ⟨#[]⟩,.string ⟨#[]⟩] (grownCap w9.drew 1 0 38 - 1)) 38)).drew.drew)
        clear G3 G4 G5 o0 o1 o2 o3 o4 o5 of0 of1 of2 of3 of4 of5
        by_cases hc7:cap - 4=3
        ·go_wp2
         go_roundw
         case rel=>exact .inr ⟨_,_,w9.heap.size+1,grownCap w9.drew 1 0 38,rfl,grownCap_ge _ _ _ _,G1.out,G2.out,G6.out.1,G6.out.2.1,G6.out.2.2,by omega,G7.out⟩
         case measure=>simp
        ·go_wp2
         go_roundw
         case rel=>exact .inr ⟨_,_,w9.heap.size+1,grownCap w9.drew 1 0 38,rfl,grownCap_ge _ _ _ _,G1.out,G2.out,G6.out.1,G6.out.2.1,G6.out.2.2,by omega,G7.out⟩
         case measure=>simp
       ·have HO9:=Lib.hid hO9
        have HR9:=Lib.hid hR9
        have B9:=hB9'
        have HGG:=Lib.hid (And.intro hg0 hg1)
        clear hO9 hR9 hB9' hg0 hg1 p4 p6
        have hB9:=B9
        have hbz:w.heap.size≤wr.heap.size:=B9.size
        obtain ⟨oz,o0,o1,o2,o3,o4,o5⟩:=rk6 HO9.out
        obtain ⟨rz,r0,r1,r2,r3,r4,r5⟩:=rk6 HR9.out
        have rf0:=frozen_of_row wr _ 0 _ _ HR9.out
        have rf1:=frozen_of_row wr _ 1 _ _ HR9.out
        have rf2:=frozen_of_row wr _ 2 _ _ HR9.out
        have rf3:=frozen_of_row wr _ 3 _ _ HR9.out
        have rf4:=frozen_of_row wr _ 4 _ _ HR9.out
        have rf5:=frozen_of_row wr _ 5 _ _ HR9.out
        go_wp2
        have HZ:=Lib.hid (ob_all HR9.out t1.text 1 x y (.slice none 0 0) (.slice (some ⟨g,0,none⟩) 1 d))
        have BZ:=Lib.hid (((((((hB9.setCell (p:=⟨w.heap.size,0,none⟩) (Nat.le_refl _) (.string t1.text)).setCell (p:=⟨w.heap.size,1,none⟩) (Nat.le_refl _) (.int .i64 1)).setCell (p:=⟨w.heap.size,2,none⟩) (Nat.le_refl _) (.int .i64 x)).setCell (p:=⟨w.heap.size,3,none⟩) (Nat.le_refl _) (.int .i64 y)).setCell (p:=⟨w.heap.size,4,none⟩) (Nat.le_refl _) (.slice none 0 0))).setCell (p:=⟨w.heap.size,5,none⟩) (Nat.le_refl _) (.slice (some ⟨g,0,none⟩) 1 d))
        generalize hwF:(((((wr.setCell ⟨w.heap.size,0,none⟩ (.string t1.text)).setCell ⟨w.heap.size,1,none⟩ (.int .i64 1)).setCell ⟨w.heap.size,2,none⟩ (.int .i64 x)).setCell ⟨w.heap.size,3,none⟩ (.int .i64 y)).setCell ⟨w.heap.size,4,none⟩ (.slice none 0 0)).setCell ⟨w.heap.size,5,none⟩ (.slice (some ⟨g,0,none⟩) 1 d)=wF
        rw [hwF] at HZ BZ
        have HGF:=Lib.hid (fun (g i:Nat) (v:Value) (hg:w.heap.size+1<g) (h:wr.cell? ⟨g,i,none⟩=some v)=>show wF.cell? ⟨g,i,none⟩=some v by rw [←hwF];exact six_cell hg h)
        have SRF:=Lib.hid (show StrRow wF (.slice none 0 0) [] by rw [←hwF];exact ⟨none,0,rfl,by simp,(fun s hs=>by cases hs),(fun h=>by cases h)⟩)
        clear hwF o0 o1 o2 o3 o4 o5 oz r0 r1 r2 r3 r4 r5 rf0 rf1 rf2 rf3 rf4 rf5 rz
        obtain ⟨sz,s0,s1,s2,s3,s4,s5⟩:=rk6 HZ.out
        refine bodyPost_ret (v:=.agg (obA t1.text 1 x y (.slice none 0 0) (.slice (some ⟨g,0,none⟩) 1 d))) (by simp [results,Tryd.results27,go_sem,s0,s1,s2,s3,s4,s5]) rfl ?_
        have HRP:=kd_one (x:=x) (y:=y) HT0.out HT1.out HKD.out.symm
        rw [HTG.out] at HRP
        rw [HRP]
        exact ⟨_,_,rfl,SRF.out,(fun a n c h=>by injection h with _ h1 h2;omega),⟨some ⟨g,0,none⟩,d,rfl,by simp,(fun s hs=>by rw [List.mem_singleton.1 hs];simp only;omega),fun _=>⟨g,0,rfl,fun i tt hi=>by
         cases i with
         |zero=>injection hi with hi;subst hi;exact ⟨HGF.out _ _ _ hgb HGG.out.1,HGF.out _ _ _ hgb HGG.out.2⟩
         |succ i=>cases hi⟩⟩,fr_nil _,(fun a n c h=>by injection h with h;injection h with h;rw [←h];simp only;omega),BZ.out⟩
    ·have k1b:(kd==1)=false:=by rw [beq_eq_false_iff_ne];exact hk1
     have hfi:T.findIdx? closeP=some (N - 1):=by
      rcases HNN.out with ⟨h,_⟩ | ⟨_,h⟩
      ·exfalso;apply hk1;rw [HKD.out];rw [HT0.out] at h;exact h
      ·exact h
     obtain ⟨M,rfl⟩:∃M,N=M+3+1:=⟨N - 4,by omega⟩
     rw [Nat.add_sub_cancel] at hfi
     have IX:=Lib.hid (indexTk_any _ T wr (HTK.out.later hbr))
     rw [show idxF T=(M:Int)+3 by rw [idxF,hfi];rfl] at IX
     have HRP:=Lib.hid (show readP T x y=⟨t1.text,kd,0,0,((T.take (M+3)).drop 3).map (·.text),[]⟩ by
      unfold readP
      simp only [HT0.out,HT1.out,Option.map_some,Option.getD_some]
      rw [←HKD.out,if_neg hk1,hfi]
      show (if M+3<3 then _ else _)=_
      rw [if_neg (by omega),drop_nil HN.out])
     have D3:decide ((M:Int)+3<3)=false:=by rw [decide_eq_false_iff_not];omega
     have hc3:¬cap=3:=by omega
     have jE:IntKind.i64.wrap ((M:Int)+3+1)=(M:Int)+3+1:=IntWalk.i64_in _ (by omega)
     clear hfi hk1
     by_cases hc4:cap=4
     ·subst hc4
      go_wp2_with fail
      refine IX.out.mono ?_
      rintro e w6 ⟨rfl,hb6⟩
      have HO6:=Lib.hid (row_later hb6 HO.out)
      have HR6:=Lib.hid (row_later hb6 HR.out)
      have B6:=below_step hbr (Nat.le_refl _) hb6
      clear hb6 o0 o1 o2 o3 o4 o5 oz
      obtain ⟨i0,hi,hi0,hi1,hi2⟩:=info_parts infoStrL
      go_wp2
      go_loopw [68] (fun i wr=>∃(k:Nat) (v:Value),k≤M∧i=.int .i64 k∧wr.heap[w.heap.size+1]?=some (.cells (obA t1.text kd 0 0 v (.slice none 0 0)) 29 (0,0))∧wr.ownsRow w.heap.size 9 1 v k ((((T.drop 3).take k).map (·.text)).map Value.string)∧wr.heap[w.heap.size]?=some (.cells (obA ⟨#[]⟩ 0 0 0 (.slice none 0 0) (.slice none 0 0)) 29 (0,0))∧Below w.heap.size w wr) (fun i _=>M - (intOf i).toNat)
      case atStart=>exact ⟨0,_,by omega,rfl,HO6.out,World.ownsRow_nil _ _ _ _,HR6.out,B6⟩
      case round =>
       obtain ⟨k,v,hk,rfl,hO,hrow,hR,hbk⟩:=hrel
       have HO7:=Lib.hid hO
       have HRW:=Lib.hid hrow
       have HR7:=Lib.hid hR
       have hbs7:=hbk.size
       have hol:=lt_of_block hO
       have hrl:=lt_of_block hR
       clear hO hrow hR
       by_cases hlt:k<M
       ·exfalso;omega
       ·obtain rfl:k=M:=by omega
        obtain ⟨w9,hw9⟩:∃z:World,z=wr:=⟨_,rfl⟩
        rw [←hw9] at HO7 HR7 HRW hbk ⊢
        clear hw9
        have HO9:=HO7
        have HR9:=HR7
        have B9:=hbk
        obtain ⟨av,cv,rfl,hcv⟩:∃a c,v=.slice a k c∧k≤c:=by
         rcases HRW.out.2 with ⟨rfl,h0⟩ | ⟨g,cap2,cur,rfl,_,_,h1,_⟩
         ·exact ⟨none,0,by rw [h0],by omega⟩
         ·exact ⟨_,_,rfl,h1⟩
        have hml:((T.drop 3).take k).length=k:=by rw [List.length_take,List.length_drop,HN.out];omega
        have HST:=Lib.hid (fun (W:World) (h:W.ownsRow w.heap.size 9 1 (.slice av k cv) k ((((T.drop 3).take k).map (·.text)).map Value.string))=>strRow_own h (by rw [List.length_map,hml]) (by rw [List.length_map,hml];omega) (fun s hs=>by
         obtain ⟨tk,htk,rfl⟩:=List.mem_map.1 hs
         exact HSZ.out tk (List.mem_of_mem_drop (List.mem_of_mem_take htk))))
        have HNQ:=Lib.hid (show some w.heap.size≠(Value.slice av k cv).ownBlock from fun e=>by
         rcases HRW.out.2 with ⟨h,_⟩ | ⟨g,cap2,cur,h,_,hgb,_⟩
         ·rw [h] at e;simp [Value.ownBlock] at e
         ·rw [h] at e
          obtain rfl:w.heap.size=g:=by simpa [Value.ownBlock] using e
          rw [HR7.out] at hgb;injection hgb with hgb;injection hgb with _ hgb;exact absurd hgb (by decide))
        have HRQ:=Lib.hid (show ((T.take (k+3)).drop 3).map (·.text)=((T.drop 3).take k).map (·.text) by rw [List.drop_take,Nat.add_sub_cancel])
        obtain rfl:k=0:=by omega
        go_wp2
        go_loopw [5] (fun s wz=>(∃a c,s=.slice a 0 c)∧wz=w9) (fun _ _=>0)
        case atStart=>exact ⟨⟨_,_,rfl⟩,rfl⟩
        case round =>
         obtain ⟨⟨a',c',rfl⟩,hwz⟩:=hrel
         rw [hwz]
         clear hwz
         have hB9:=B9
         have hbz:w.heap.size≤w9.heap.size:=B9.size
         obtain ⟨oz,o0,o1,o2,o3,o4,o5⟩:=rk6 HO9.out
         obtain ⟨rz,r0,r1,r2,r3,r4,r5⟩:=rk6 HR9.out
         have rf0:=frozen_of_row w9 _ 0 _ _ HR9.out
         have rf1:=frozen_of_row w9 _ 1 _ _ HR9.out
         have rf2:=frozen_of_row w9 _ 2 _ _ HR9.out
         have rf3:=frozen_of_row w9 _ 3 _ _ HR9.out
         have rf4:=frozen_of_row w9 _ 4 _ _ HR9.out
         have rf5:=frozen_of_row w9 _ 5 _ _ HR9.out
         go_wp2
         have HZ:=Lib.hid (ob_all HR9.out t1.text kd 0 0 (.slice av 0 cv) (.slice none 0 0))
         have BZ:=Lib.hid (((((((hB9.setCell (p:=⟨w.heap.size,0,none⟩) (Nat.le_refl _) (.string t1.text)).setCell (p:=⟨w.heap.size,1,none⟩) (Nat.le_refl _) (.int .i64 kd)).setCell (p:=⟨w.heap.size,2,none⟩) (Nat.le_refl _) (.int .i64 0)).setCell (p:=⟨w.heap.size,3,none⟩) (Nat.le_refl _) (.int .i64 0)).setCell (p:=⟨w.heap.size,4,none⟩) (Nat.le_refl _) (.slice av 0 cv))).setCell (p:=⟨w.heap.size,5,none⟩) (Nat.le_refl _) (.slice none 0 0))
         generalize hwF:(((((w9.setCell ⟨w.heap.size,0,none⟩ (.string t1.text)).setCell ⟨w.heap.size,1,none⟩ (.int .i64 kd)).setCell ⟨w.heap.size,2,none⟩ (.int .i64 0)).setCell ⟨w.heap.size,3,none⟩ (.int .i64 0)).setCell ⟨w.heap.size,4,none⟩ (.slice av 0 cv)).setCell ⟨w.heap.size,5,none⟩ (.slice none 0 0)=wF
         rw [hwF] at HZ BZ
         have HGF:=Lib.hid (fun (g i:Nat) (v:Value) (hg:w.heap.size+1<g) (h:w9.cell? ⟨g,i,none⟩=some v)=>show wF.cell? ⟨g,i,none⟩=some v by rw [←hwF];exact six_cell hg h)
         have SRF:=Lib.hid (show StrRow wF (.slice av 0 cv) (((T.drop 3).take 0).map (·.text)) by rw [←hwF];exact HST.out _ (own_set (own_set (own_set (own_set (own_set (own_set HRW.out HNQ.out) HNQ.out) HNQ.out) HNQ.out) HNQ.out) HNQ.out))
         clear hwF o0 o1 o2 o3 o4 o5 oz r0 r1 r2 r3 r4 r5 rf0 rf1 rf2 rf3 rf4 rf5 rz
         obtain ⟨sz,s0,s1,s2,s3,s4,s5⟩:=rk6 HZ.out
         refine bodyPost_ret (v:=.agg (obA t1.text kd 0 0 (.slice av 0 cv) (.slice none 0 0))) (by simp [results,Tryd.results27,go_sem,s0,s1,s2,s3,s4,s5]) rfl ?_
         rw [HRP.out,HRQ.out]
         exact ⟨_,_,rfl,SRF.out,(fun a n c h=>by injection h with _ h1 h2;omega),⟨none,0,rfl,by simp,(fun s hs=>by cases hs),(fun h=>by cases h)⟩,fr_own HRW.out,fr_nil _,BZ.out⟩
     ·go_wp2_with fail
      refine IX.out.mono ?_
      rintro e w6 ⟨rfl,hb6⟩
      have HO6:=Lib.hid (row_later hb6 HO.out)
      have HR6:=Lib.hid (row_later hb6 HR.out)
      have B6:=below_step hbr (Nat.le_refl _) hb6
      clear hb6 o0 o1 o2 o3 o4 o5 oz
      obtain ⟨i0,hi,hi0,hi1,hi2⟩:=info_parts infoStrL
      go_wp2
      go_loopw [68] (fun i wr=>∃(k:Nat) (v:Value),k≤M∧i=.int .i64 k∧wr.heap[w.heap.size+1]?=some (.cells (obA t1.text kd 0 0 v (.slice none 0 0)) 29 (0,0))∧wr.ownsRow w.heap.size 9 1 v k ((((T.drop 3).take k).map (·.text)).map Value.string)∧wr.heap[w.heap.size]?=some (.cells (obA ⟨#[]⟩ 0 0 0 (.slice none 0 0) (.slice none 0 0)) 29 (0,0))∧Below w.heap.size w wr) (fun i _=>M - (intOf i).toNat)
      case atStart=>exact ⟨0,_,by omega,rfl,HO6.out,World.ownsRow_nil _ _ _ _,HR6.out,B6⟩
      case round =>
       obtain ⟨k,v,hk,rfl,hO,hrow,hR,hbk⟩:=hrel
       have HO7:=Lib.hid hO
       have HRW:=Lib.hid hrow
       have HR7:=Lib.hid hR
       have hbs7:=hbk.size
       have hol:=lt_of_block hO
       have hrl:=lt_of_block hR
       clear hO hrow hR
       by_cases hlt:k<M
       ·obtain ⟨t,ht⟩:∃t,T[3+k]?=some t:=⟨T[3+k]'(by rw [HN.out];omega),List.getElem?_eq_getElem _⟩
        obtain ⟨p0,p1,p2⟩:=HC.out (3+k) t ht
        have e0:off+(3+k) * 3=off+9+k * 3:=by omega
        rw [e0] at p0 p1 p2
        have c0:=cell_later hbk p0
        have c1:=cell_later hbk p1
        have c2:=cell_later hbk p2
        have HTK2:=Lib.hid (show (T.drop 3).take (k+1)=(T.drop 3).take k++[t] from take_snoc' (by rw [List.getElem?_drop];exact ht))
        have HNE:=Lib.hid (show some (w.heap.size+1)≠v.ownBlock from fun e=>by
         rcases HRW.out.2 with ⟨rfl,_⟩ | ⟨g,cap2,cur,rfl,_,hgb,_⟩
         ·simp [Value.ownBlock] at e
         ·obtain rfl:w.heap.size+1=g:=by simpa [Value.ownBlock] using e
          rw [HO7.out] at hgb;injection hgb with hgb;injection hgb with _ hgb;exact absurd hgb (by decide))
        have HNR:=Lib.hid (show some w.heap.size≠v.ownBlock from fun e=>by
         rcases HRW.out.2 with ⟨rfl,_⟩ | ⟨g,cap2,cur,rfl,_,hgb,_⟩
         ·simp [Value.ownBlock] at e
         ·obtain rfl:w.heap.size=g:=by simpa [Value.ownBlock] using e
          rw [HR7.out] at hgb;injection hgb with hgb;injection hgb with _ hgb;exact absurd hgb (by decide))
        have HCN:=Lib.hid (show ∀(j:Nat) (u:Value),[Value.string t.text][j]?=some u→((wr.alloc (.cells #[.int .i64 t.kind,.string t.text,.int .i64 t.off] 88)).alloc (.cells #[.string t.text] 9)).cell? ((⟨wr.heap.size+1,0,none⟩:Addr).add j)=some u by
         have:=cells_newL (wr.alloc (.cells #[.int .i64 t.kind,.string t.text,.int .i64 t.off] 88)) [Value.string t.text] 9
         rwa [World.size_alloc] at this)
        have HO8:=Lib.hid (row_past (o':=.cells #[.string t.text] 9) (row_past (o':=.cells #[.int .i64 t.kind,.string t.text,.int .i64 t.off] 88) HO7.out))
        have HR8:=Lib.hid (row_past (o':=.cells #[.string t.text] 9) (row_past (o':=.cells #[.int .i64 t.kind,.string t.text,.int .i64 t.off] 88) HR7.out))
        have hn1:¬w.heap.size=wr.heap.size:=by omega
        have hn2:¬w.heap.size+1=wr.heap.size:=by omega
        clear ht p0 p1 p2 e0
        obtain ⟨oz,o0,o1,o2,o3,o4,o5⟩:=rk6 HO7.out
        go_wp2_with (at_builtin;refine wpList_append_own _ rfl _ _ 26 rfl w.heap.size 9 i0 (.string ⟨#[]⟩) 1 16 Tryd.underlying26 hi hi0 hi1 hi2 rfl (by decide) _ _ _ rfl ((HRW.out.alloc _).alloc _) ⟨wr.heap.size+1,0,none⟩ 1 1 [.string t.text] (by first | rfl | simp) (by first | rfl | simp) HCN.out (by intro u hu;rw [List.mem_singleton.1 hu];rfl) (by unfold maxLen;omega) (by omega) (by simp;omega) ?_;intro v' w5 hown5 hgr5 _;have HO5:=row_grownL (row:=v.ownBlock) hgr5 HO8.out HNE.out;have q4:=cell_of_row w5 _ 4 _ _ _ HO5;have qf:=frozen_of_row w5 _ 4 _ _ HO5;simp only [List.getElem?_toArray,List.getElem?_cons_zero,List.getElem?_cons_succ] at q4;obtain ⟨g',cap',rfl⟩:=ownsRow_succ hown5)
        have HO9:=Lib.hid HO5
        have HR9:=Lib.hid (row_grownL (row:=v.ownBlock) hgr5 HR8.out HNR.out)
        have B5:Below w.heap.size w w5:=((hbk.alloc hbs7 _).alloc (by simp;omega) _).grown (row:=v.ownBlock) hgr5 (by simp;omega) (fun j ej=>(HRW.out.lt j ej).1)
        have HOW5:=Lib.hid (show (w5.setCell ⟨w.heap.size+1,4,none⟩ (.slice (some ⟨g',0,none⟩) (k+1) cap')).ownsRow w.heap.size 9 1 (.slice (some ⟨g',0,none⟩) (k+1) cap') (k+1) ((((T.drop 3).take (k+1)).map (·.text)).map Value.string) by
         have e:(((T.drop 3).take (k+1)).map (·.text)).map Value.string=(((T.drop 3).take k).map (·.text)).map Value.string++[.string t.text]:=by rw [HTK2.out];simp
         rw [e]
         refine own_set hown5 (fun e=>?_)
         rcases hown5.2 with ⟨h,_⟩ | ⟨g2,cap2,cur,h,_,hgb,_⟩
         ·cases h
         ·injection h with h _ _;injection h with h;injection h with h
          subst h
          have e2:w.heap.size+1=g':=by simpa [Value.ownBlock] using e
          rw [←e2,HO5] at hgb;injection hgb with hgb;injection hgb with _ hgb;exact absurd hgb (by decide))
        clear hown5 hgr5 HO5
        go_roundw
        case rel=>first | exact ⟨k+1,_,by omega,by go_num,row_set (i:=4) HO9.out,HOW5.out,row_set_other HR9.out (by simp only;omega),B5.setCell (by simp only;omega) _⟩ | ((repeat apply Exists.intro);exact ⟨⟨k+1,_,by omega,by go_num,row_set (i:=4) HO9.out,HOW5.out,row_set_other HR9.out (by simp only;omega),B5.setCell (by simp only;omega) _⟩,rfl⟩)
        case measure=>simp [intOf];omega
       ·obtain rfl:k=M:=by omega
        obtain ⟨w9,hw9⟩:∃z:World,z=wr:=⟨_,rfl⟩
        rw [←hw9] at HO7 HR7 HRW hbk ⊢
        clear hw9
        have HO9:=HO7
        have HR9:=HR7
        have B9:=hbk
        obtain ⟨av,cv,rfl,hcv⟩:∃a c,v=.slice a k c∧k≤c:=by
         rcases HRW.out.2 with ⟨rfl,h0⟩ | ⟨g,cap2,cur,rfl,_,_,h1,_⟩
         ·exact ⟨none,0,by rw [h0],by omega⟩
         ·exact ⟨_,_,rfl,h1⟩
        have hml:((T.drop 3).take k).length=k:=by rw [List.length_take,List.length_drop,HN.out];omega
        have HST:=Lib.hid (fun (W:World) (h:W.ownsRow w.heap.size 9 1 (.slice av k cv) k ((((T.drop 3).take k).map (·.text)).map Value.string))=>strRow_own h (by rw [List.length_map,hml]) (by rw [List.length_map,hml];omega) (fun s hs=>by
         obtain ⟨tk,htk,rfl⟩:=List.mem_map.1 hs
         exact HSZ.out tk (List.mem_of_mem_drop (List.mem_of_mem_take htk))))
        have HNQ:=Lib.hid (show some w.heap.size≠(Value.slice av k cv).ownBlock from fun e=>by
         rcases HRW.out.2 with ⟨h,_⟩ | ⟨g,cap2,cur,h,_,hgb,_⟩
         ·rw [h] at e;simp [Value.ownBlock] at e
         ·rw [h] at e
          obtain rfl:w.heap.size=g:=by simpa [Value.ownBlock] using e
          rw [HR7.out] at hgb;injection hgb with hgb;injection hgb with _ hgb;exact absurd hgb (by decide))
        have HRQ:=Lib.hid (show ((T.take (k+3)).drop 3).map (·.text)=((T.drop 3).take k).map (·.text) by rw [List.drop_take,Nat.add_sub_cancel])
        by_cases hcN:cap=k+3+1
        ·go_wp2
         go_loopw [5] (fun s wz=>(∃a c,s=.slice a 0 c)∧wz=w9) (fun _ _=>0)
         case atStart=>exact ⟨⟨_,_,rfl⟩,rfl⟩
         case round =>
          obtain ⟨⟨a',c',rfl⟩,hwz⟩:=hrel
          rw [hwz]
          clear hwz
          have hB9:=B9
          have hbz:w.heap.size≤w9.heap.size:=B9.size
          obtain ⟨oz,o0,o1,o2,o3,o4,o5⟩:=rk6 HO9.out
          obtain ⟨rz,r0,r1,r2,r3,r4,r5⟩:=rk6 HR9.out
          have rf0:=frozen_of_row w9 _ 0 _ _ HR9.out
          have rf1:=frozen_of_row w9 _ 1 _ _ HR9.out
          have rf2:=frozen_of_row w9 _ 2 _ _ HR9.out
          have rf3:=frozen_of_row w9 _ 3 _ _ HR9.out
          have rf4:=frozen_of_row w9 _ 4 _ _ HR9.out
          have rf5:=frozen_of_row w9 _ 5 _ _ HR9.out
          go_wp2
          have HZ:=Lib.hid (ob_all HR9.out t1.text kd 0 0 (.slice av k cv) (.slice none 0 0))
          have BZ:=Lib.hid (((((((hB9.setCell (p:=⟨w.heap.size,0,none⟩) (Nat.le_refl _) (.string t1.text)).setCell (p:=⟨w.heap.size,1,none⟩) (Nat.le_refl _) (.int .i64 kd)).setCell (p:=⟨w.heap.size,2,none⟩) (Nat.le_refl _) (.int .i64 0)).setCell (p:=⟨w.heap.size,3,none⟩) (Nat.le_refl _) (.int .i64 0)).setCell (p:=⟨w.heap.size,4,none⟩) (Nat.le_refl _) (.slice av k cv))).setCell (p:=⟨w.heap.size,5,none⟩) (Nat.le_refl _) (.slice none 0 0))
          generalize hwF:(((((w9.setCell ⟨w.heap.size,0,none⟩ (.string t1.text)).setCell ⟨w.heap.size,1,none⟩ (.int .i64 kd)).setCell ⟨w.heap.size,2,none⟩ (.int .i64 0)).setCell ⟨w.heap.size,3,none⟩ (.int .i64 0)).setCell ⟨w.heap.size,4,none⟩ (.slice av k cv)).setCell ⟨w.heap.size,5,none⟩ (.slice none 0 0)=wF
          rw [hwF] at HZ BZ
          have HGF:=Lib.hid (fun (g i:Nat) (v:Value) (hg:w.heap.size+1<g) (h:w9.cell? ⟨g,i,none⟩=some v)=>show wF.cell? ⟨g,i,none⟩=some v by rw [←hwF];exact six_cell hg h)
          have SRF:=Lib.hid (show StrRow wF (.slice av k cv) (((T.drop 3).take k).map (·.text)) by rw [←hwF];exact HST.out _ (own_set (own_set (own_set (own_set (own_set (own_set HRW.out HNQ.out) HNQ.out) HNQ.out) HNQ.out) HNQ.out) HNQ.out))
          clear hwF o0 o1 o2 o3 o4 o5 oz r0 r1 r2 r3 r4 r5 rf0 rf1 rf2 rf3 rf4 rf5 rz
          obtain ⟨sz,s0,s1,s2,s3,s4,s5⟩:=rk6 HZ.out
          refine bodyPost_ret (v:=.agg (obA t1.text kd 0 0 (.slice av k cv) (.slice none 0 0))) (by simp [results,Tryd.results27,go_sem,s0,s1,s2,s3,s4,s5]) rfl ?_
          rw [HRP.out,HRQ.out]
          exact ⟨_,_,rfl,SRF.out,(fun a n c h=>by injection h with _ h1 h2;omega),⟨none,0,rfl,by simp,(fun s hs=>by cases hs),(fun h=>by cases h)⟩,fr_own HRW.out,fr_nil _,BZ.out⟩
        ·go_wp2
         go_loopw [5] (fun s wz=>(∃a c,s=.slice a 0 c)∧wz=w9) (fun _ _=>0)
         case atStart=>exact ⟨⟨_,_,rfl⟩,rfl⟩
         case round =>
          obtain ⟨⟨a',c',rfl⟩,hwz⟩:=hrel
          rw [hwz]
          clear hwz
          have hB9:=B9
          have hbz:w.heap.size≤w9.heap.size:=B9.size
          obtain ⟨oz,o0,o1,o2,o3,o4,o5⟩:=rk6 HO9.out
          obtain ⟨rz,r0,r1,r2,r3,r4,r5⟩:=rk6 HR9.out
          have rf0:=frozen_of_row w9 _ 0 _ _ HR9.out
          have rf1:=frozen_of_row w9 _ 1 _ _ HR9.out
          have rf2:=frozen_of_row w9 _ 2 _ _ HR9.out
          have rf3:=frozen_of_row w9 _ 3 _ _ HR9.out
          have rf4:=frozen_of_row w9 _ 4 _ _ HR9.out
          have rf5:=frozen_of_row w9 _ 5 _ _ HR9.out
          go_wp2
          have HZ:=Lib.hid (ob_all HR9.out t1.text kd 0 0 (.slice av k cv) (.slice none 0 0))
          have BZ:=Lib.hid (((((((hB9.setCell (p:=⟨w.heap.size,0,none⟩) (Nat.le_refl _) (.string t1.text)).setCell (p:=⟨w.heap.size,1,none⟩) (Nat.le_refl _) (.int .i64 kd)).setCell (p:=⟨w.heap.size,2,none⟩) (Nat.le_refl _) (.int .i64 0)).setCell (p:=⟨w.heap.size,3,none⟩) (Nat.le_refl _) (.int .i64 0)).setCell (p:=⟨w.heap.size,4,none⟩) (Nat.le_refl _) (.slice av k cv))).setCell (p:=⟨w.heap.size,5,none⟩) (Nat.le_refl _) (.slice none 0 0))
          generalize hwF:(((((w9.setCell ⟨w.heap.size,0,none⟩ (.string t1.text)).setCell ⟨w.heap.size,1,none⟩ (.int .i64 kd)).setCell ⟨w.heap.size,2,none⟩ (.int .i64 0)).setCell ⟨w.heap.size,3,none⟩ (.int .i64 0)).setCell ⟨w.heap.size,4,none⟩ (.slice av k cv)).setCell ⟨w.heap.size,5,none⟩ (.slice none 0 0)=wF
          rw [hwF] at HZ BZ
          have HGF:=Lib.hid (fun (g i:Nat) (v:Value) (hg:w.heap.size+1<g) (h:w9.cell? ⟨g,i,none⟩=some v)=>show wF.cell? ⟨g,i,none⟩=some v by rw [←hwF];exact six_cell hg h)
          have SRF:=Lib.hid (show StrRow wF (.slice av k cv) (((T.drop 3).take k).map (·.text)) by rw [←hwF];exact HST.out _ (own_set (own_set (own_set (own_set (own_set (own_set HRW.out HNQ.out) HNQ.out) HNQ.out) HNQ.out) HNQ.out) HNQ.out))
          clear hwF o0 o1 o2 o3 o4 o5 oz r0 r1 r2 r3 r4 r5 rf0 rf1 rf2 rf3 rf4 rf5 rz
          obtain ⟨sz,s0,s1,s2,s3,s4,s5⟩:=rk6 HZ.out
          refine bodyPost_ret (v:=.agg (obA t1.text kd 0 0 (.slice av k cv) (.slice none 0 0))) (by simp [results,Tryd.results27,go_sem,s0,s1,s2,s3,s4,s5]) rfl ?_
          rw [HRP.out,HRQ.out]
          exact ⟨_,_,rfl,SRF.out,(fun a n c h=>by injection h with _ h1 h2;omega),⟨none,0,rfl,by simp,(fun s hs=>by cases hs),(fun h=>by cases h)⟩,fr_own HRW.out,fr_nil _,BZ.out⟩
end Go.Proofs.YtdfenhjibnfdeaaDoor
