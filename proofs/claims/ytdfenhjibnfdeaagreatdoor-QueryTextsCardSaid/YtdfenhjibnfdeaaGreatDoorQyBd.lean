/-  -/
import Derived.Test.YtdfenhjibnfdeaaGreatDoorQyBc
import Derived.Test.YtdfenhjibnfdeaaGreatDoorQyBb
namespace Go.Proofs.YtdfenhjibnfdeaaGreatDoor
open Go.RowKit Go.Shelf
abbrev hqQ (c:CondD) (id:ByteArray):QryD:=⟨2,1,c,id,0,0,0,emptyB,emptyB,0⟩
def textH (c:CondD) (id:ByteArray):ByteArray:=joinB [wInside,id,wNode,wWhere,textC c] ⟨#[32]⟩
theorem StrRow.stable (v:Value) (l:List ByteArray):StableW fun W=>StrRow W v l:=fun _ _ h hb=>h.later hb
theorem StableW.one (b off:Nat) (v:Value):StableW fun W=>W.cell? ⟨b,off,none⟩=some v:=fun _ _ h hb=>cell_later hb h
theorem QuietB.at' {P:Program} {S0:World→Prop} {o:Oper} {a:Act} {v:Value} (h:∀w,S0 w→(execOp a.eval o).run P w=.ok (.value v) w):QuietB P S0 o a v:=fun w hS=>by
 show Oper.quietUpon P (ByW w) w v _
 rw [h w hS]
 exact ⟨rfl,rfl⟩
theorem cells_rowQ {w:World} {g:Nat} {cs:List Value} {t:TypeId} (h:w.heap[g]?=some (.cells cs.toArray t (0,0))):∀(j:Nat) (u:Value),cs[j]?=some u→w.cell? ((⟨g,0,none⟩:Addr).add j)=some u:=by
 intro j u hu
 have hadd:(⟨g,0,none⟩:Addr).add j=⟨g,j,none⟩:=by unfold Addr.add;split<;>simp_all
 rw [hadd,cell_of_row _ _ j _ _ _ h]
 simpa using hu
theorem two_str (s t:ByteArray):∀v∈[Value.string s,Value.string t],v.oneCell'=true:=by intro v hv;simp only [List.mem_cons,List.not_mem_nil,or_false] at hv;rcases hv with rfl | rfl<;>rfl
set_option maxRecDepth 100000 in
set_option maxHeartbeats 8000000 in
theorem textH_any (c:CondD) (id:ByteArray) (a:Option Addr) (cap:Nat) (w:World) (hc:CondIs w c a) (he:Env w) (hid:id.size≤24) (hv:validQ (hqQ c id)=true) (hcv:validC c=true) (hop:c.op≠1) (hts:(textC c).size≤10000) (hth:(textH c id).size≤20000) :
  Calls Tryz.prog 11 #[.agg #[.int .i64 2,.int .i64 1,.int .i64 c.op,.string c.key,.string c.val,.int .i64 c.n,.slice a c.kids.length cap,.string id,.int .i64 0,.int .i64 0,.int .i64 0,.string ⟨#[]⟩,.string ⟨#[]⟩,.int .i64 0]] w fun e w'=>e=.returned (.tuple #[.string (textH c id),.int .i64 0])∧Below w.heap.size w w':=by
 have b1:=(Below.refl w.heap.size w).alloc (Nat.le_refl _) (.cells #[.int .i64 2,.int .i64 1,.int .i64 c.op,.string c.key,.string c.val,.int .i64 c.n,.slice a c.kids.length cap,.string id,.int .i64 0,.int .i64 0,.int .i64 0,.string ⟨#[]⟩,.string ⟨#[]⟩,.int .i64 0] 28)
 have VQ:=Lib.hid (fun W hc=>validQ2_any (hqQ c id) a cap W hc (by show (0:Int)≤1∧(1:Int)<6;omega) rfl (show id.size≤_ by omega) hcv)
 rw [hv] at VQ
 have IT:=Lib.hid (fun W he=>itoa_below 0 (by omega) (by omega) W he)
 have HC1:=Lib.hid (hc.later b1)
 have HE1:=Lib.hid (he.later b1)
 have HB1:=Lib.hid (row_new w (.cells #[.int .i64 2,.int .i64 1,.int .i64 c.op,.string c.key,.string c.val,.int .i64 c.n,.slice a c.kids.length cap,.string id,.int .i64 0,.int .i64 0,.int .i64 0,.string ⟨#[]⟩,.string ⟨#[]⟩,.int .i64 0] 28))
 have TX:=Lib.hid (fun W hc he=>textc_any c a cap W hc he hcv (by omega))
 have B1:=Lib.hid b1
 have xo:(c.op != 1)=true:=by rw [bne_iff_ne];exact hop
 have hmx:Tryz.prog.follows .mixedOrders=true:=by kernel_rfl
 obtain ⟨i0,hi,hi0,hi1,hi2⟩:=info_parts infoStrQ
 clear hc he b1 hv hop
 go_enter Tryz.func11,Tryz.ntmps11
 go_wp2_with fail
 refine (VQ.out _ HC1.out).mono ?_
 rintro e w2 ⟨rfl,hb2⟩
 have HB2:=Lib.hid (row_later hb2 HB1.out)
 have HC2:=Lib.hid (HC1.out.later hb2)
 have HE2:=Lib.hid (HE1.out.later hb2)
 have B2:=Lib.hid (below_step B1.out (Nat.le_refl _) hb2)
 clear hb2
 have xz:=lt_of_block HB2.out
 have x0:=cell_of_row w2 _ 0 _ _ _ HB2.out
 have x1:=cell_of_row w2 _ 1 _ _ _ HB2.out
 have x2:=cell_of_row w2 _ 2 _ _ _ HB2.out
 have x3:=cell_of_row w2 _ 3 _ _ _ HB2.out
 have x4:=cell_of_row w2 _ 4 _ _ _ HB2.out
 have x5:=cell_of_row w2 _ 5 _ _ _ HB2.out
 have x6:=cell_of_row w2 _ 6 _ _ _ HB2.out
 have x7:=cell_of_row w2 _ 7 _ _ _ HB2.out
 have x8:=cell_of_row w2 _ 8 _ _ _ HB2.out
 have x9:=cell_of_row w2 _ 9 _ _ _ HB2.out
 have x10:=cell_of_row w2 _ 10 _ _ _ HB2.out
 have x11:=cell_of_row w2 _ 11 _ _ _ HB2.out
 have x12:=cell_of_row w2 _ 12 _ _ _ HB2.out
 have x13:=cell_of_row w2 _ 13 _ _ _ HB2.out
 simp only [List.getElem?_toArray,List.getElem?_cons_zero,List.getElem?_cons_succ] at x0 x1 x2 x3 x4 x5 x6 x7 x8 x9 x10 x11 x12 x13
 go_wp2_with fail
 refine (IT.out _ HE2.out).mono ?_
 rintro e w3 ⟨rfl,hb3⟩
 have HB3:=Lib.hid (row_later hb3 HB2.out)
 have HC3:=Lib.hid (HC2.out.later hb3)
 have HE3:=Lib.hid (HE2.out.later hb3)
 have B3:=Lib.hid (below_step B2.out (Nat.le_refl _) hb3)
 clear hb3
 clear x0 x1 x2 x3 x4 x5 x6 x7 x8 x9 x10 x11 x12 x13 xz
 have xz:=lt_of_block HB3.out
 have x0:=cell_of_row w3 _ 0 _ _ _ HB3.out
 have x1:=cell_of_row w3 _ 1 _ _ _ HB3.out
 have x2:=cell_of_row w3 _ 2 _ _ _ HB3.out
 have x3:=cell_of_row w3 _ 3 _ _ _ HB3.out
 have x4:=cell_of_row w3 _ 4 _ _ _ HB3.out
 have x5:=cell_of_row w3 _ 5 _ _ _ HB3.out
 have x6:=cell_of_row w3 _ 6 _ _ _ HB3.out
 have x7:=cell_of_row w3 _ 7 _ _ _ HB3.out
 have x8:=cell_of_row w3 _ 8 _ _ _ HB3.out
 have x9:=cell_of_row w3 _ 9 _ _ _ HB3.out
 have x10:=cell_of_row w3 _ 10 _ _ _ HB3.out
 have x11:=cell_of_row w3 _ 11 _ _ _ HB3.out
 have x12:=cell_of_row w3 _ 12 _ _ _ HB3.out
 have x13:=cell_of_row w3 _ 13 _ _ _ HB3.out
 simp only [List.getElem?_toArray,List.getElem?_cons_zero,List.getElem?_cons_succ] at x0 x1 x2 x3 x4 x5 x6 x7 x8 x9 x10 x11 x12 x13
 go_wp2
 generalize hw4:(w3.alloc (.cells #[.string ⟨#[97,108,108]⟩] 9)).alloc (.cells #[.string ⟨#[105,110,115,105,100,101]⟩,.string id] 9)=w4
 have b34:Below w3.heap.size w3 w4:=by rw [←hw4];exact ((Below.refl _ _).alloc (Nat.le_refl _) _).alloc (by simp) _
 have hr4:w4.heap[w3.heap.size+1]?=some (.cells #[.string ⟨#[105,110,115,105,100,101]⟩,.string id] 9 (0,0)):=by
  have:=row_new (w3.alloc (.cells #[.string ⟨#[97,108,108]⟩] 9)) (.cells #[.string ⟨#[105,110,115,105,100,101]⟩,.string id] 9)
  rw [World.size_alloc,hw4] at this;exact this
 have o4:w4.ownsRow w3.heap.size 9 1 (.slice (some ⟨w3.heap.size+1,0,none⟩) 2 2) 2 [.string ⟨#[105,110,115,105,100,101]⟩,.string id] :=
  ⟨rfl,.inr ⟨w3.heap.size+1,2,_,rfl,by omega,hr4,by omega,by unfold maxLen;omega,rfl,rfl⟩⟩
 clear hw4
 clear x0 x1 x2 x3 x4 x5 x6 x7 x8 x9 x10 x11 x12 x13 xz
 refine wp_region_nodes 1 8 (fun W=>Below w3.heap.size w3 W) (fun W=>Below w3.heap.size w3 W∧W.ownsRow w3.heap.size 9 1 (.slice (some ⟨w3.heap.size+1,0,none⟩) 2 2) 2 [.string ⟨#[105,110,115,105,100,101]⟩,.string id]) hmx (by kernel_rfl) (by kernel_rfl) (by kernel_rfl) ((StableW.below _ _ (Nat.le_refl _)).and (StableW.owns _ _ _ _ _ _)) (fun _ h=>h.1) ⟨b34.drew,o4.drew⟩ (by kernel_rfl) ?_
 apply Exists.intro
 refine ⟨fun W hW=>?_,?_⟩
 ·clear hW
  simp only [List.take_succ_cons,List.take_zero]
  repeat (go_big_quiet_step (fail))
  exact wpQuiet_nil rfl
 refine any_quiet 2 (.pointer (some ⟨w.heap.size,1,none⟩)) ((StableW.below _ _ (Nat.le_refl _)).and (StableW.owns _ _ _ _ _ _)) (fun _ h=>h.1) rfl (by kernel_rfl) (by kernel_rfl) (by kernel_rfl) rfl (QuietB.at' fun W _=>(by go_simp)) ?_
 simp only [Act.put,List.setIfInBounds_toArray]
 refine any_quiet 3 (.int .i64 1) ((StableW.below _ _ (Nat.le_refl _)).and (StableW.owns _ _ _ _ _ _)) (fun _ h=>h.1) rfl (by kernel_rfl) (by kernel_rfl) (by kernel_rfl) rfl (QuietB.at' fun W hS=>(by
  have HW:=Lib.hid (row_later hS HB3.out)
  have yz:=lt_of_block HW.out
  have y0:=cell_of_row W _ 0 _ _ _ HW.out
  have y1:=cell_of_row W _ 1 _ _ _ HW.out
  have y2:=cell_of_row W _ 2 _ _ _ HW.out
  have y3:=cell_of_row W _ 3 _ _ _ HW.out
  have y4:=cell_of_row W _ 4 _ _ _ HW.out
  have y5:=cell_of_row W _ 5 _ _ _ HW.out
  have y6:=cell_of_row W _ 6 _ _ _ HW.out
  have y7:=cell_of_row W _ 7 _ _ _ HW.out
  have y8:=cell_of_row W _ 8 _ _ _ HW.out
  have y9:=cell_of_row W _ 9 _ _ _ HW.out
  have y10:=cell_of_row W _ 10 _ _ _ HW.out
  have y11:=cell_of_row W _ 11 _ _ _ HW.out
  have y12:=cell_of_row W _ 12 _ _ _ HW.out
  have y13:=cell_of_row W _ 13 _ _ _ HW.out
  simp only [List.getElem?_toArray,List.getElem?_cons_zero,List.getElem?_cons_succ] at y0 y1 y2 y3 y4 y5 y6 y7 y8 y9 y10 y11 y12 y13
  go_simp)) ?_
 simp only [Act.put]
 refine any_one 1 (by kernel_rfl) rfl rfl ?_
 refine LoudB.mk' (ι:=Nat) (fun g=>.slice (some ⟨g,0,none⟩) 6 6) (fun g=>fun W=>(Below w3.heap.size w3 W∧W.ownsRow w3.heap.size 9 1 (.slice (some ⟨w3.heap.size+1,0,none⟩) 2 2) 2 [.string ⟨#[105,110,115,105,100,101]⟩,.string id])∧StrRow W (.slice (some ⟨g,0,none⟩) 6 6) kindsW) (fun g=>((StableW.below _ _ (Nat.le_refl _)).and (StableW.owns _ _ _ _ _ _)).and (StrRow.stable _ _)) (fun _ W d=>d.1.1) (fun W hS K' hK'=>?_) (fun g=>?_)
 ·go_simp
  refine (words_any W).mono ?_
  rintro e w5 ⟨rfl,hs5,hb5⟩
  exact hK' W.heap.size _ ⟨⟨below_step hS.1 (Nat.le_refl _) hb5,own_laterL hS.2 hb5⟩,hs5⟩
 simp only [Act.put]
 refine any_one 4 (by kernel_rfl) rfl rfl ?_
 refine LoudB.mk' (ι:=Unit) (fun _=>.pointer (some ⟨g,1,none⟩)) (fun _=>fun W=>(Below w3.heap.size w3 W∧W.ownsRow w3.heap.size 9 1 (.slice (some ⟨w3.heap.size+1,0,none⟩) 2 2) 2 [.string ⟨#[105,110,115,105,100,101]⟩,.string id])∧StrRow W (.slice (some ⟨g,0,none⟩) 6 6) kindsW) (fun _=>((StableW.below _ _ (Nat.le_refl _)).and (StableW.owns _ _ _ _ _ _)).and (StrRow.stable _ _)) (fun _ W d=>d.1.1) (fun W hS K' hK'=>?_) (fun _=>?_)
 ·go_simp
  exact hK' () _ hS
 simp only [Act.put]
 refine any_one 5 (by kernel_rfl) rfl rfl ?_
 refine LoudB.mk' (ι:=Unit) (fun _=>.string wNode) (fun _=>fun W=>(Below w3.heap.size w3 W∧W.ownsRow w3.heap.size 9 1 (.slice (some ⟨w3.heap.size+1,0,none⟩) 2 2) 2 [.string ⟨#[105,110,115,105,100,101]⟩,.string id])) (fun _=>((StableW.below _ _ (Nat.le_refl _)).and (StableW.owns _ _ _ _ _ _))) (fun _ W d=>d.1) (fun W hS K' hK'=>?_) (fun _=>?_)
 ·obtain ⟨hS1,hS2⟩:=hS
  have c1:W.cell? ⟨g,1,none⟩=some (.string wNode):=by
   obtain ⟨a9,c9,e9,-,-,h9⟩:=hS2
   obtain ⟨b9,o9,ea,h9⟩:=h9 (by decide)
   injection e9 with e9
   have e9:=e9.trans ea
   injection e9 with e9
   injection e9 with e9 e10
   have:=h9 1 wNode rfl
   rwa [←e9,←e10] at this
  clear hS2
  go_simp
  exact hK' () _ hS1
 simp only [Act.put]
 refine any_one 6 (by kernel_rfl) rfl rfl ?_
 refine LoudB.mk' (ι:=Nat) (fun g2=>.slice (some ⟨g2,0,none⟩) 1 1) (fun g2=>fun W=>(Below w3.heap.size w3 W∧W.ownsRow w3.heap.size 9 1 (.slice (some ⟨w3.heap.size+1,0,none⟩) 2 2) 2 [.string ⟨#[105,110,115,105,100,101]⟩,.string id])∧W.heap[g2]?=some (.cells #[.string wNode] 9)) (fun g2=>((StableW.below _ _ (Nat.le_refl _)).and (StableW.owns _ _ _ _ _ _)).and (StableW.row _ _)) (fun _ W d=>d.1.1) (fun W hS K' hK'=>?_) (fun g2=>?_)
 ·have h2:=((StableW.below _ _ (Nat.le_refl _)).and (StableW.owns _ _ _ _ _ _)) _ _ hS ((Below.refl W.heap.size W).alloc (Nat.le_refl _) (.cells #[.string wNode] 9))
  clear hS
  go_simp
  exact hK' W.heap.size _ ⟨h2,row_new _ _⟩
 simp only [Act.put]
 refine any_one 7 (by kernel_rfl) rfl rfl ?_
 refine LoudB.mk' (ι:=Value) (fun v'=>v') (fun v'=>fun W=>Below w3.heap.size w3 W∧W.ownsRow w3.heap.size 9 1 v' 3 [.string ⟨#[105,110,115,105,100,101]⟩,.string id,.string wNode]) (fun v'=>((StableW.below _ _ (Nat.le_refl _)).and (StableW.owns _ _ _ _ _ _))) (fun _ W d=>d.1) (fun W hS K' hK'=>?_) (fun v'=>?_)
 ·obtain ⟨⟨hS1,hS2⟩,hS3⟩:=hS
  refine wp_append_own _ _ _ 47 rfl w3.heap.size 9 i0 (.string ⟨#[]⟩) 1 16 Tryz.underlying47 hi hi0 hi1 hi2 rfl (by decide) _ _ _ rfl hS2 ⟨g2,0,none⟩ 1 1 [.string wNode] rfl rfl (cells_rowQ hS3) (one_str _) (by unfold maxLen;omega) (by omega) hS1.size ?_
  intro v' w9 hown2 hgrow _
  exact hK' v' w9 ⟨hS1.grown hgrow hS1.size (fun j ej=>(hS2.lt j ej).1),hown2⟩
 simp only [Act.put]
 refine any_one 8 (by kernel_rfl) rfl rfl ?_
 refine LoudB.mk' (ι:=Unit) (fun _=>v') (fun _=>fun W=>Below w3.heap.size w3 W∧W.ownsRow w3.heap.size 9 1 v' 3 [.string ⟨#[105,110,115,105,100,101]⟩,.string id,.string wNode]) (fun _=>((StableW.below _ _ (Nat.le_refl _)).and (StableW.owns _ _ _ _ _ _))) (fun _ W d=>d.1) (fun W hS K' hK'=>?_) (fun _=>?_)
 ·go_simp
  exact hK' () _ hS
 simp only [Act.put]
 refine any_end (by kernel_rfl) fun w5 hw5=>?_
 obtain ⟨hb5,ho5⟩:=hw5
 have HO5:=Lib.hid ho5
 have B5:=Lib.hid (below_step B3.out (Nat.le_refl _) hb5)
 have HB5:=Lib.hid (row_later hb5 HB3.out)
 have HC5:=Lib.hid (HC3.out.later hb5)
 have HE5:=Lib.hid (HE3.out.later hb5)
 have hz5':=hb5.size
 clear hb5 ho5
 have yz:=lt_of_block HB5.out
 have y0:=cell_of_row w5 _ 0 _ _ _ HB5.out
 have y1:=cell_of_row w5 _ 1 _ _ _ HB5.out
 have y2:=cell_of_row w5 _ 2 _ _ _ HB5.out
 have y3:=cell_of_row w5 _ 3 _ _ _ HB5.out
 have y4:=cell_of_row w5 _ 4 _ _ _ HB5.out
 have y5:=cell_of_row w5 _ 5 _ _ _ HB5.out
 have y6:=cell_of_row w5 _ 6 _ _ _ HB5.out
 have y7:=cell_of_row w5 _ 7 _ _ _ HB5.out
 have y8:=cell_of_row w5 _ 8 _ _ _ HB5.out
 have y9:=cell_of_row w5 _ 9 _ _ _ HB5.out
 have y10:=cell_of_row w5 _ 10 _ _ _ HB5.out
 have y11:=cell_of_row w5 _ 11 _ _ _ HB5.out
 have y12:=cell_of_row w5 _ 12 _ _ _ HB5.out
 have y13:=cell_of_row w5 _ 13 _ _ _ HB5.out
 simp only [List.getElem?_toArray,List.getElem?_cons_zero,List.getElem?_cons_succ] at y0 y1 y2 y3 y4 y5 y6 y7 y8 y9 y10 y11 y12 y13
 go_wp2_with fail
 refine (TX.out _ HC5.out HE5.out).mono ?_
 rintro e w6 ⟨rfl,hb6⟩
 have O6:=Lib.hid (own_laterL HO5.out hb6)
 have B6:=Lib.hid (below_step B5.out (Nat.le_refl _) hb6)
 have hz6:=hb6.size
 have hz5:w3.heap.size≤w6.heap.size:=Nat.le_trans hz5' hz6
 have hz3:=B3.out.size
 clear hb6
 go_wp2_with (at_builtin;refine wpList_append_own _ rfl _ _ 47 rfl w3.heap.size 9 i0 (.string ⟨#[]⟩) 1 16 Tryz.underlying47 hi hi0 hi1 hi2 rfl (by decide) _ _ _ rfl (O6.out.alloc _) ⟨w6.heap.size,0,none⟩ 2 2 [.string wWhere,.string (textC c)] rfl rfl (cells_newQ w6 _ _) (two_str _ _) (by unfold maxLen;omega) (by omega) (by simp;omega) ?_;intro v7 w9 hown9 hgrow9 _;have HO9:=Lib.hid hown9;have B9:=Lib.hid ((B6.out.alloc B6.out.size _).grown hgrow9 (by simp;omega) (fun j ej=>by have:=(O6.out.lt j ej).1;omega));clear hown9 hgrow9)
 obtain ⟨g,cap2,rfl,hg1,hg2⟩:=own_slice HO9.out (by omega)
 have hc9:=World.ownsRow.cells HO9.out (g:=g) rfl
 have J:=Lib.hid (Tryz.strings_Join g 0 cap2 [wInside,id,wNode,wWhere,textC c] ⟨#[32]⟩ w9 (fun j x hx=>by
  have:=hc9 j (.string x) (by
   have e:([wInside,id,wNode,wWhere,textC c].map Value.string)[j]?=some (.string x):=by rw [List.getElem?_map,hx];rfl
   exact e)
  rwa [Addr.add_lit] at this) hg2 (by simp) (own_cap HO9.out) (by rw [textH,joinB_size] at hth;simp only [List.map_cons,List.map_nil] at hth ⊢;omega))
 have HRS:=Lib.hid (show (⟨(Lib.join ([wInside,id,wNode,wWhere,textC c].map (·.data.toList)) (⟨#[32]⟩:ByteArray).data.toList).toArray⟩:ByteArray)=textH c id from rfl)
 obtain ⟨RES,hRES⟩:∃z,textH c id=z:=⟨_,rfl⟩
 have HTH:=Lib.hid hRES
 rw [hRES] at HRS hth
 clear hRES
 clear hc9 HO9 O6
 go_wp2_with fail
 refine J.out.mono ?_
 rintro e w10 ⟨he10,hb10⟩
 have he11:=he10.trans (congrArg (fun s=>Ending.returned (.string s)) HRS.out)
 subst he11
 have B10:=below_step B9.out (Nat.le_refl _) hb10
 have hlt:decide ((20000:Int)<(RES.size:Int))=false:=decide_eq_false (by omega)
 clear he10 hb10 J
 go_wp2
 refine bodyPost_ret (v:=.tuple #[.string RES,.int .i64 0]) ?_ rfl ⟨by rw [HTH.out],B10⟩
 simp [results,Tryz.results11,go_sem]
end Go.Proofs.YtdfenhjibnfdeaaGreatDoor
