/- Texts of QueryTexts. -/
import Derived.Test.YtdfenhjibnfdeaaGreatDoorQtB
import Derived.Test.YtdfenhjibnfdeaaGreatDoorQtH
import Derived.Test.YtdfenhjibnfdeaaGreatDoorQyBf
namespace Go.Proofs.YtdfenhjibnfdeaaGreatDoor
open Go.RowKit Go.Shelf
theorem valid_str {q:QryD} (h:QryV q):q.id.size≤140737488355328∧q.key.size≤140737488355328∧q.prof.size≤140737488355328:=by
 have z:emptyB.size=0:=rfl
 rcases h.ask with ⟨-,e⟩ | ⟨-,h1,e⟩ | ⟨-,h1,-,e⟩ | ⟨-,-,-,-,e⟩ | ⟨-,h1,h2,-,-,e⟩ | ⟨-,h1,e⟩
 all_goals
  have e1:=congrArg (fun q=>q.id.size) e
  have e2:=congrArg (fun q=>q.key.size) e
  have e3:=congrArg (fun q=>q.prof.size) e
  simp only at e1 e2 e3
 ·omega
 ·have:=name_size h1;omega
 ·have:=name_size h1;omega
 ·omega
 ·have:=name_size h1;have:=name_size h2;omega
 ·have:=name_size h1;omega
theorem no_str:((⟨#[]⟩:ByteArray).toList != [])=false:=by decide +kernel
set_option maxRecDepth 100000 in
set_option maxHeartbeats 32000000 in
theorem qtexts_any (q:QryD) (a:Option Addr) (cap:Nat) (p:QryD) (a2:Option Addr) (cap2:Nat) (s:ByteArray) (w:World) (hc:CondIs w q.wher a) (hi:q.id.size≤140737488355328) (hkey:q.key.size≤140737488355328) (hp:q.prof.size≤140737488355328)
  (hc2:CondIs w p.wher a2) (hi2:p.id.size≤140737488355328) (hkey2:p.key.size≤140737488355328) (hp2:p.prof.size≤140737488355328) (he:Env w) :
  Calls Tryz.prog 3 #[.agg (qryC q a cap),.agg (qryC p a2 cap2),.string s] w fun e w'=>e=.returned (.bool true)∧Below w.heap.size w w':=by
 have b2:=((Below.refl w.heap.size w).alloc (Nat.le_refl _) (.cells #[.int .i64 q.ask,.int .i64 q.kind,.int .i64 q.wher.op,.string q.wher.key,.string q.wher.val,.int .i64 q.wher.n,.slice a q.wher.kids.length cap,.string q.id,.int .i64 q.n,.int .i64 q.x,.int .i64 q.y,.string q.key,.string q.prof,.int .i64 q.minute] 28)).alloc (by simp) (.cells #[.int .i64 p.ask,.int .i64 p.kind,.int .i64 p.wher.op,.string p.wher.key,.string p.wher.val,.int .i64 p.wher.n,.slice a2 p.wher.kids.length cap2,.string p.id,.int .i64 p.n,.int .i64 p.x,.int .i64 p.y,.string p.key,.string p.prof,.int .i64 p.minute] 28)
 have ra:=row_past (o':=.cells #[.int .i64 p.ask,.int .i64 p.kind,.int .i64 p.wher.op,.string p.wher.key,.string p.wher.val,.int .i64 p.wher.n,.slice a2 p.wher.kids.length cap2,.string p.id,.int .i64 p.n,.int .i64 p.x,.int .i64 p.y,.string p.key,.string p.prof,.int .i64 p.minute] 28) (row_new w (.cells #[.int .i64 q.ask,.int .i64 q.kind,.int .i64 q.wher.op,.string q.wher.key,.string q.wher.val,.int .i64 q.wher.n,.slice a q.wher.kids.length cap,.string q.id,.int .i64 q.n,.int .i64 q.x,.int .i64 q.y,.string q.key,.string q.prof,.int .i64 q.minute] 28))
 have rb:=row_new (w.alloc (.cells #[.int .i64 q.ask,.int .i64 q.kind,.int .i64 q.wher.op,.string q.wher.key,.string q.wher.val,.int .i64 q.wher.n,.slice a q.wher.kids.length cap,.string q.id,.int .i64 q.n,.int .i64 q.x,.int .i64 q.y,.string q.key,.string q.prof,.int .i64 q.minute] 28)) (.cells #[.int .i64 p.ask,.int .i64 p.kind,.int .i64 p.wher.op,.string p.wher.key,.string p.wher.val,.int .i64 p.wher.n,.slice a2 p.wher.kids.length cap2,.string p.id,.int .i64 p.n,.int .i64 p.x,.int .i64 p.y,.string p.key,.string p.prof,.int .i64 p.minute] 28)
 simp only [World.size_alloc] at rb
 show Calls Tryz.prog 3 #[.agg #[.int .i64 q.ask,.int .i64 q.kind,.int .i64 q.wher.op,.string q.wher.key,.string q.wher.val,.int .i64 q.wher.n,.slice a q.wher.kids.length cap,.string q.id,.int .i64 q.n,.int .i64 q.x,.int .i64 q.y,.string q.key,.string q.prof,.int .i64 q.minute],.agg #[.int .i64 p.ask,.int .i64 p.kind,.int .i64 p.wher.op,.string p.wher.key,.string p.wher.val,.int .i64 p.wher.n,.slice a2 p.wher.kids.length cap2,.string p.id,.int .i64 p.n,.int .i64 p.x,.int .i64 p.y,.string p.key,.string p.prof,.int .i64 p.minute],.string s] w _
 have RA:=Lib.hid ra
 have RB:=Lib.hid rb
 have B0:=Lib.hid b2
 have HC0:=Lib.hid (hc.later b2)
 have HD0:=Lib.hid (hc2.later b2)
 have HE0:=Lib.hid (he.later b2)
 have HD:=Lib.hid (head_any _ HE0.out)
 have TA:=Lib.hid (fun W hc he=>text_any q a cap W hc he hi hkey hp)
 have TB:=Lib.hid (fun W hc he=>text_any p a2 cap2 W hc he hi2 hkey2 hp2)
 have VA:=Lib.hid (fun W hc=>validQA_any q a cap W hc hi hkey hp)
 have HW:=Lib.hid (text_ways q)
 have HWB:=Lib.hid (text_ways p)
 have HINJ:=Lib.hid (fun h1 h2 h3 h4=>text_inj (p:=q) (q:=p) h1 h2 h3 h4)
 have HPT:=Lib.hid (fun h1 h2=>parse_text (q:=q) h1 h2)
 clear ra rb b2 hc hc2 he hi hkey hp hi2 hkey2 hp2
 go_enter Tryz.func3,Tryz.ntmps3
 go_wp2_with fail
 refine HD.out.mono ?_
 rintro e w1 ⟨rfl,hb⟩
 have B1:=Lib.hid (below_step B0.out (Nat.le_refl _) hb)
 have RA1:=Lib.hid (row_later hb RA.out)
 have RB1:=Lib.hid (row_later hb RB.out)
 have HC1:=Lib.hid (HC0.out.later hb)
 have HD1:=Lib.hid (HD0.out.later hb)
 have HE1:=Lib.hid (HE0.out.later hb)
 clear hb HD RA RB HC0 HD0 HE0 B0
 have b12:=(Below.refl w1.heap.size w1).alloc (Nat.le_refl _) (.cells #[.int .i64 q.ask,.int .i64 q.kind,.int .i64 q.wher.op,.string q.wher.key,.string q.wher.val,.int .i64 q.wher.n,.slice a q.wher.kids.length cap,.string q.id,.int .i64 q.n,.int .i64 q.x,.int .i64 q.y,.string q.key,.string q.prof,.int .i64 q.minute,.int .i64 p.ask,.int .i64 p.kind,.int .i64 p.wher.op,.string p.wher.key,.string p.wher.val,.int .i64 p.wher.n,.slice a2 p.wher.kids.length cap2,.string p.id,.int .i64 p.n,.int .i64 p.x,.int .i64 p.y,.string p.key,.string p.prof,.int .i64 p.minute] 28)
 have r12:=row_new w1 (.cells #[.int .i64 q.ask,.int .i64 q.kind,.int .i64 q.wher.op,.string q.wher.key,.string q.wher.val,.int .i64 q.wher.n,.slice a q.wher.kids.length cap,.string q.id,.int .i64 q.n,.int .i64 q.x,.int .i64 q.y,.string q.key,.string q.prof,.int .i64 q.minute,.int .i64 p.ask,.int .i64 p.kind,.int .i64 p.wher.op,.string p.wher.key,.string p.wher.val,.int .i64 p.wher.n,.slice a2 p.wher.kids.length cap2,.string p.id,.int .i64 p.n,.int .i64 p.x,.int .i64 p.y,.string p.key,.string p.prof,.int .i64 p.minute] 28)
 have FW:=Lib.hid (fewT_any q p a cap a2 cap2 w1.heap.size _ (HC1.out.later b12) (HD1.out.later b12) r12)
 have BF:=Lib.hid (below_step B1.out (Nat.le_refl _) b12)
 have B12:=Lib.hid b12
 clear b12 r12
 have xz:=lt_of_block RA1.out
 have x0:=cell_of_row w1 _ 0 _ _ _ RA1.out
 have x1:=cell_of_row w1 _ 1 _ _ _ RA1.out
 have x2:=cell_of_row w1 _ 2 _ _ _ RA1.out
 have x3:=cell_of_row w1 _ 3 _ _ _ RA1.out
 have x4:=cell_of_row w1 _ 4 _ _ _ RA1.out
 have x5:=cell_of_row w1 _ 5 _ _ _ RA1.out
 have x6:=cell_of_row w1 _ 6 _ _ _ RA1.out
 have x7:=cell_of_row w1 _ 7 _ _ _ RA1.out
 have x8:=cell_of_row w1 _ 8 _ _ _ RA1.out
 have x9:=cell_of_row w1 _ 9 _ _ _ RA1.out
 have x10:=cell_of_row w1 _ 10 _ _ _ RA1.out
 have x11:=cell_of_row w1 _ 11 _ _ _ RA1.out
 have x12:=cell_of_row w1 _ 12 _ _ _ RA1.out
 have x13:=cell_of_row w1 _ 13 _ _ _ RA1.out
 simp only [List.getElem?_toArray,List.getElem?_cons_zero,List.getElem?_cons_succ] at x0 x1 x2 x3 x4 x5 x6 x7 x8 x9 x10 x11 x12 x13
 have yz:=lt_of_block RB1.out
 have y0:=cell_of_row w1 _ 0 _ _ _ RB1.out
 have y1:=cell_of_row w1 _ 1 _ _ _ RB1.out
 have y2:=cell_of_row w1 _ 2 _ _ _ RB1.out
 have y3:=cell_of_row w1 _ 3 _ _ _ RB1.out
 have y4:=cell_of_row w1 _ 4 _ _ _ RB1.out
 have y5:=cell_of_row w1 _ 5 _ _ _ RB1.out
 have y6:=cell_of_row w1 _ 6 _ _ _ RB1.out
 have y7:=cell_of_row w1 _ 7 _ _ _ RB1.out
 have y8:=cell_of_row w1 _ 8 _ _ _ RB1.out
 have y9:=cell_of_row w1 _ 9 _ _ _ RB1.out
 have y10:=cell_of_row w1 _ 10 _ _ _ RB1.out
 have y11:=cell_of_row w1 _ 11 _ _ _ RB1.out
 have y12:=cell_of_row w1 _ 12 _ _ _ RB1.out
 have y13:=cell_of_row w1 _ 13 _ _ _ RB1.out
 simp only [List.getElem?_toArray,List.getElem?_cons_zero,List.getElem?_cons_succ] at y0 y1 y2 y3 y4 y5 y6 y7 y8 y9 y10 y11 y12 y13
 go_wp2_with fail
 refine FW.out.mono ?_
 rintro e w2 ⟨bf,rfl,hb⟩
 have B2:=Lib.hid (below_step BF.out (Nat.le_refl _) hb)
 have b13:=below_step B12.out (Nat.le_refl _) hb
 have RA2:=Lib.hid (row_later b13 RA1.out)
 have RB2:=Lib.hid (row_later b13 RB1.out)
 have HC2:=Lib.hid (HC1.out.later b13)
 have HD2:=Lib.hid (HD1.out.later b13)
 have HE2:=Lib.hid (HE1.out.later b13)
 clear hb b13 FW RA1 RB1 HC1 HD1 HE1 BF B12 B1 x0 x1 x2 x3 x4 x5 x6 x7 x8 x9 x10 x11 x12 x13 y0 y1 y2 y3 y4 y5 y6 y7 y8 y9 y10 y11 y12 y13
 cases bf
 case false =>
  go_wp2
  go_ret
  exact ⟨rfl,B2.out⟩
 by_cases hs:3000<s.size
 ·have d1:decide ((3000:Int)<(s.size:Int))=true:=decide_eq_true (by omega)
  go_wp2
  go_ret
  exact ⟨rfl,B2.out⟩
 have d1:decide ((3000:Int)<(s.size:Int))=false:=decide_eq_false (by omega)
 have xz:=lt_of_block RA2.out
 have x0:=cell_of_row w2 _ 0 _ _ _ RA2.out
 have x1:=cell_of_row w2 _ 1 _ _ _ RA2.out
 have x2:=cell_of_row w2 _ 2 _ _ _ RA2.out
 have x3:=cell_of_row w2 _ 3 _ _ _ RA2.out
 have x4:=cell_of_row w2 _ 4 _ _ _ RA2.out
 have x5:=cell_of_row w2 _ 5 _ _ _ RA2.out
 have x6:=cell_of_row w2 _ 6 _ _ _ RA2.out
 have x7:=cell_of_row w2 _ 7 _ _ _ RA2.out
 have x8:=cell_of_row w2 _ 8 _ _ _ RA2.out
 have x9:=cell_of_row w2 _ 9 _ _ _ RA2.out
 have x10:=cell_of_row w2 _ 10 _ _ _ RA2.out
 have x11:=cell_of_row w2 _ 11 _ _ _ RA2.out
 have x12:=cell_of_row w2 _ 12 _ _ _ RA2.out
 have x13:=cell_of_row w2 _ 13 _ _ _ RA2.out
 simp only [List.getElem?_toArray,List.getElem?_cons_zero,List.getElem?_cons_succ] at x0 x1 x2 x3 x4 x5 x6 x7 x8 x9 x10 x11 x12 x13
 go_wp2_with fail
 refine (TA.out _ HC2.out HE2.out).mono ?_
 rintro e w3 ⟨rfl,hb⟩
 have B3:=Lib.hid (below_step B2.out (Nat.le_refl _) hb)
 have RA3:=Lib.hid (row_later hb RA2.out)
 have RB3:=Lib.hid (row_later hb RB2.out)
 have HC3:=Lib.hid (HC2.out.later hb)
 have HD3:=Lib.hid (HD2.out.later hb)
 have HE3:=Lib.hid (HE2.out.later hb)
 clear hb RA2 RB2 HC2 HD2 HE2 B2 TA
 clear x0 x1 x2 x3 x4 x5 x6 x7 x8 x9 x10 x11 x12 x13 xz
 have xz:=lt_of_block RB3.out
 have x0:=cell_of_row w3 _ 0 _ _ _ RB3.out
 have x1:=cell_of_row w3 _ 1 _ _ _ RB3.out
 have x2:=cell_of_row w3 _ 2 _ _ _ RB3.out
 have x3:=cell_of_row w3 _ 3 _ _ _ RB3.out
 have x4:=cell_of_row w3 _ 4 _ _ _ RB3.out
 have x5:=cell_of_row w3 _ 5 _ _ _ RB3.out
 have x6:=cell_of_row w3 _ 6 _ _ _ RB3.out
 have x7:=cell_of_row w3 _ 7 _ _ _ RB3.out
 have x8:=cell_of_row w3 _ 8 _ _ _ RB3.out
 have x9:=cell_of_row w3 _ 9 _ _ _ RB3.out
 have x10:=cell_of_row w3 _ 10 _ _ _ RB3.out
 have x11:=cell_of_row w3 _ 11 _ _ _ RB3.out
 have x12:=cell_of_row w3 _ 12 _ _ _ RB3.out
 have x13:=cell_of_row w3 _ 13 _ _ _ RB3.out
 simp only [List.getElem?_toArray,List.getElem?_cons_zero,List.getElem?_cons_succ] at x0 x1 x2 x3 x4 x5 x6 x7 x8 x9 x10 x11 x12 x13
 go_wp2_with fail
 refine (TB.out _ HD3.out HE3.out).mono ?_
 rintro e w4 ⟨rfl,hb⟩
 have B4:=Lib.hid (below_step B3.out (Nat.le_refl _) hb)
 have RA4:=Lib.hid (row_later hb RA3.out)
 have RB4:=Lib.hid (row_later hb RB3.out)
 have HC4:=Lib.hid (HC3.out.later hb)
 have HD4:=Lib.hid (HD3.out.later hb)
 have HE4:=Lib.hid (HE3.out.later hb)
 clear hb RA3 RB3 HC3 HD3 HE3 B3 TB
 clear x0 x1 x2 x3 x4 x5 x6 x7 x8 x9 x10 x11 x12 x13 xz
 have VAC:=Lib.hid (VA.out w4 HC4.out)
 obtain ⟨sb,hsb⟩:∃z,textS p=z:=⟨_,rfl⟩
 obtain ⟨eb,heb⟩:∃z,textF p=z:=⟨_,rfl⟩
 rw [hsb,heb] at HWB
 rw [hsb,heb]
 obtain ⟨w5,hw5⟩:∃z,w4=z:=⟨_,rfl⟩
 clear hsb heb hw5 w5
 have xz:=lt_of_block RA4.out
 have x0:=cell_of_row w4 _ 0 _ _ _ RA4.out
 have x1:=cell_of_row w4 _ 1 _ _ _ RA4.out
 have x2:=cell_of_row w4 _ 2 _ _ _ RA4.out
 have x3:=cell_of_row w4 _ 3 _ _ _ RA4.out
 have x4:=cell_of_row w4 _ 4 _ _ _ RA4.out
 have x5:=cell_of_row w4 _ 5 _ _ _ RA4.out
 have x6:=cell_of_row w4 _ 6 _ _ _ RA4.out
 have x7:=cell_of_row w4 _ 7 _ _ _ RA4.out
 have x8:=cell_of_row w4 _ 8 _ _ _ RA4.out
 have x9:=cell_of_row w4 _ 9 _ _ _ RA4.out
 have x10:=cell_of_row w4 _ 10 _ _ _ RA4.out
 have x11:=cell_of_row w4 _ 11 _ _ _ RA4.out
 have x12:=cell_of_row w4 _ 12 _ _ _ RA4.out
 have x13:=cell_of_row w4 _ 13 _ _ _ RA4.out
 simp only [List.getElem?_toArray,List.getElem?_cons_zero,List.getElem?_cons_succ] at x0 x1 x2 x3 x4 x5 x6 x7 x8 x9 x10 x11 x12 x13
 rcases HW.out with ⟨v1,t1,t2⟩ | ⟨v1,t1,t2⟩ | ⟨v1,t1,t2,t3⟩
 ·rw [v1] at VAC
  rw [t1,t2]
  have ns:=no_str
  go_wp2_with fail
  refine VAC.out.mono ?_
  rintro e w5 ⟨rfl,hb⟩
  have B5:=Lib.hid (below_step B4.out (Nat.le_refl _) hb)
  have HE5:=Lib.hid (HE4.out.later hb)
  clear hb VAC v1 t1 t2
  go_upto_if 59 with fail
  go_cut [12] from 13 (fun v12 wx=>Below w5.heap.size w5 wx)
  case first =>
   go_wp2
   go_meet
   case rel=>exact Below.refl _ _
  case rest =>
   have BWC:=Lib.hid (below_step B5.out (Nat.le_refl _) hcut)
   have HEC:=Lib.hid (HE5.out.later hcut)
   clear hcut
   as_aux_lemma =>
    have PT:=Lib.hid (fun W=>parse_any s (by omega) W)
    unfold ParseR at PT
    obtain ⟨Y,hY⟩:∃x,(parseQ s).1=x:=⟨_,rfl⟩
    obtain ⟨h,hh⟩:∃x,(parseQ s).2.1=x:=⟨_,rfl⟩
    obtain ⟨y0,hy0⟩:∃x,(parseQ s).2.2=x:=⟨_,rfl⟩
    have HNO:=Lib.hid (show h≠0→Y=zeroQ∧y0≤(s.size:Int) from fun e=>⟨by rw [←hY];exact parse_no (by rw [hh];exact e),by
     have:=parse_range s
     rw [hh,hy0] at this
     exact (this.resolve_left e).2⟩)
    have HYES:=Lib.hid (show h=0→y0=0∧validQ Y=true∧(textQ Y).size≤20000 from fun e=>by
     have e':(parseQ s).2.1=0:=hh.trans e
     refine ⟨hy0.symm.trans (parse_yes e'),?_,?_⟩
     ·rw [←hY];exact (parsed_valid e').1
     ·rw [←hY];exact parsed_size (by omega) e')
    rw [hY,hh,hy0] at PT
    clear hY hh hy0
    go_wp2_with fail
    refine (PT.out _).mono ?_
    rintro e w7 ⟨ya,yc,rfl,hcp,hb⟩
    have BW7:=Lib.hid (below_step BWC.out (Nat.le_refl _) hb)
    have HY7:=Lib.hid (CondP.is _ _ hcp)
    have HE7:=Lib.hid (HEC.out.later hb)
    clear hb PT hcp
    have b78:=(Below.refl w7.heap.size w7).alloc (Nat.le_refl _) (.cells #[.int .i64 Y.ask,.int .i64 Y.kind,.int .i64 Y.wher.op,.string Y.wher.key,.string Y.wher.val,.int .i64 Y.wher.n,.slice ya Y.wher.kids.length yc,.string Y.id,.int .i64 Y.n,.int .i64 Y.x,.int .i64 Y.y,.string Y.key,.string Y.prof,.int .i64 Y.minute] 28)
    have HR8:=Lib.hid (row_new w7 (.cells #[.int .i64 Y.ask,.int .i64 Y.kind,.int .i64 Y.wher.op,.string Y.wher.key,.string Y.wher.val,.int .i64 Y.wher.n,.slice ya Y.wher.kids.length yc,.string Y.id,.int .i64 Y.n,.int .i64 Y.x,.int .i64 Y.y,.string Y.key,.string Y.prof,.int .i64 Y.minute] 28))
    have B8:=Lib.hid (below_step BW7.out (Nat.le_refl _) b78)
    have HY8:=Lib.hid (HY7.out.later b78)
    have HE8:=Lib.hid (HE7.out.later b78)
    clear b78
    by_cases h0:h=0
    case neg =>
     obtain ⟨e1,e2⟩:=HNO.out h0
     subst e1
     have x0:(h != 0)=true:=by rw [bne_iff_ne];exact h0
     have x1:decide (y0≤(s.size:Int))=true:=decide_eq_true e2
     clear h0 e2 HYES HNO HY7 HY8 HR8
     go_wp2
     go_ret
     exact ⟨rfl,B8.out⟩
    subst h0
    obtain ⟨rfl,vY,sY⟩:=HYES.out rfl
    have hYV:=valid_parts vY
    obtain ⟨-,T1,T2,-⟩:=((text_ways Y).resolve_left (fun e=>by rw [vY] at e;cases e.1)).resolve_left (fun e=>by
     have e2:=e.2.2
     unfold textF textE bigT at e2
     rw [if_pos vY,decide_eq_false (by omega:¬20000<(textQ Y).size)] at e2
     cases e2)
    obtain ⟨z1,z2,z3⟩:=valid_str hYV
    have TY:=Lib.hid (text_any Y ya yc _ HY8.out HE8.out z1 z2 z3)
    have VY:=Lib.hid (fun W hc=>validQA_any Y ya yc W hc z1 z2 z3)
    rw [T1,T2] at TY
    rw [vY] at VY
    obtain ⟨OWN,hOWN⟩:∃z,textQ Y=z:=⟨_,rfl⟩
    have PO:=Lib.hid (fun W=>parse_any OWN (by rw [←hOWN];omega) W)
    unfold ParseR at PO
    rw [←hOWN,parse_text vY sY,hOWN] at PO
    rw [hOWN] at TY
    clear hOWN T1 T2 z1 z2 z3 hYV sY vY HYES HNO HY7
    go_wp2_with fail
    refine TY.out.mono ?_
    rintro e w9 ⟨rfl,hb⟩
    have B9:=Lib.hid (below_step B8.out (Nat.le_refl _) hb)
    have HR9:=Lib.hid (row_later hb HR8.out)
    have HY9:=Lib.hid (HY8.out.later hb)
    clear hb TY HR8 HY8
    go_wp2_with fail
    refine (PO.out _).mono ?_
    rintro e w10 ⟨oa,oc,rfl,hcp,hb⟩
    have B10:=Lib.hid (below_step B9.out (Nat.le_refl _) hb)
    have HR10:=Lib.hid (row_later hb HR9.out)
    have HO10:=Lib.hid (CondP.is _ _ hcp)
    have HY10:=Lib.hid (HY9.out.later hb)
    clear hb PO hcp HR9 HY9
    have b11:=(Below.refl w10.heap.size w10).alloc (Nat.le_refl _) (.cells #[.int .i64 Y.ask,.int .i64 Y.kind,.int .i64 Y.wher.op,.string Y.wher.key,.string Y.wher.val,.int .i64 Y.wher.n,.slice oa Y.wher.kids.length oc,.string Y.id,.int .i64 Y.n,.int .i64 Y.x,.int .i64 Y.y,.string Y.key,.string Y.prof,.int .i64 Y.minute] 28)
    have HR11:=Lib.hid (row_new w10 (.cells #[.int .i64 Y.ask,.int .i64 Y.kind,.int .i64 Y.wher.op,.string Y.wher.key,.string Y.wher.val,.int .i64 Y.wher.n,.slice oa Y.wher.kids.length oc,.string Y.id,.int .i64 Y.n,.int .i64 Y.x,.int .i64 Y.y,.string Y.key,.string Y.prof,.int .i64 Y.minute] 28))
    have B11:=Lib.hid (below_step B10.out (Nat.le_refl _) b11)
    have HO11:=Lib.hid (HO10.out.later b11)
    have HY11:=Lib.hid (HY10.out.later b11)
    have HRY:=Lib.hid (row_later b11 HR10.out)
    have yz:=lt_of_block HR10.out
    have y0:=cell_of_row w10 _ 0 _ _ _ HR10.out
    have y1:=cell_of_row w10 _ 1 _ _ _ HR10.out
    have y2:=cell_of_row w10 _ 2 _ _ _ HR10.out
    have y3:=cell_of_row w10 _ 3 _ _ _ HR10.out
    have y4:=cell_of_row w10 _ 4 _ _ _ HR10.out
    have y5:=cell_of_row w10 _ 5 _ _ _ HR10.out
    have y6:=cell_of_row w10 _ 6 _ _ _ HR10.out
    have y7:=cell_of_row w10 _ 7 _ _ _ HR10.out
    have y8:=cell_of_row w10 _ 8 _ _ _ HR10.out
    have y9:=cell_of_row w10 _ 9 _ _ _ HR10.out
    have y10:=cell_of_row w10 _ 10 _ _ _ HR10.out
    have y11:=cell_of_row w10 _ 11 _ _ _ HR10.out
    have y12:=cell_of_row w10 _ 12 _ _ _ HR10.out
    have y13:=cell_of_row w10 _ 13 _ _ _ HR10.out
    simp only [List.getElem?_toArray,List.getElem?_cons_zero,List.getElem?_cons_succ] at y0 y1 y2 y3 y4 y5 y6 y7 y8 y9 y10 y11 y12 y13
    have k0:=cell_later b11 y0
    have k1:=cell_later b11 y1
    have k2:=cell_later b11 y2
    have k3:=cell_later b11 y3
    have k4:=cell_later b11 y4
    have k5:=cell_later b11 y5
    have k6:=cell_later b11 y6
    have k7:=cell_later b11 y7
    have k8:=cell_later b11 y8
    have k9:=cell_later b11 y9
    have k10:=cell_later b11 y10
    have k11:=cell_later b11 y11
    have k12:=cell_later b11 y12
    have k13:=cell_later b11 y13
    clear y0 y1 y2 y3 y4 y5 y6 y7 y8 y9 y10 y11 y12 y13
    clear b11
    go_wp2_with fail
    refine (VY.out _ HY11.out).mono ?_
    rintro e w12 ⟨rfl,hb⟩
    have B12:=Lib.hid (below_step B11.out (Nat.le_refl _) hb)
    have HR12:=Lib.hid (row_later hb HRY.out)
    have HS12:=Lib.hid (row_later hb HR11.out)
    have SM:=Lib.hid (same_any Y Y ya yc oa oc w12 (HY11.out.later hb) (HO11.out.later hb))
    rw [sameQ_refl] at SM
    clear hb VY k0 k1 k2 k3 k4 k5 k6 k7 k8 k9 k10 k11 k12 k13
    have xz:=lt_of_block HR12.out
    have x0:=cell_of_row w12 _ 0 _ _ _ HR12.out
    have x1:=cell_of_row w12 _ 1 _ _ _ HR12.out
    have x2:=cell_of_row w12 _ 2 _ _ _ HR12.out
    have x3:=cell_of_row w12 _ 3 _ _ _ HR12.out
    have x4:=cell_of_row w12 _ 4 _ _ _ HR12.out
    have x5:=cell_of_row w12 _ 5 _ _ _ HR12.out
    have x6:=cell_of_row w12 _ 6 _ _ _ HR12.out
    have x7:=cell_of_row w12 _ 7 _ _ _ HR12.out
    have x8:=cell_of_row w12 _ 8 _ _ _ HR12.out
    have x9:=cell_of_row w12 _ 9 _ _ _ HR12.out
    have x10:=cell_of_row w12 _ 10 _ _ _ HR12.out
    have x11:=cell_of_row w12 _ 11 _ _ _ HR12.out
    have x12:=cell_of_row w12 _ 12 _ _ _ HR12.out
    have x13:=cell_of_row w12 _ 13 _ _ _ HR12.out
    simp only [List.getElem?_toArray,List.getElem?_cons_zero,List.getElem?_cons_succ] at x0 x1 x2 x3 x4 x5 x6 x7 x8 x9 x10 x11 x12 x13
    have yz:=lt_of_block HS12.out
    have y0:=cell_of_row w12 _ 0 _ _ _ HS12.out
    have y1:=cell_of_row w12 _ 1 _ _ _ HS12.out
    have y2:=cell_of_row w12 _ 2 _ _ _ HS12.out
    have y3:=cell_of_row w12 _ 3 _ _ _ HS12.out
    have y4:=cell_of_row w12 _ 4 _ _ _ HS12.out
    have y5:=cell_of_row w12 _ 5 _ _ _ HS12.out
    have y6:=cell_of_row w12 _ 6 _ _ _ HS12.out
    have y7:=cell_of_row w12 _ 7 _ _ _ HS12.out
    have y8:=cell_of_row w12 _ 8 _ _ _ HS12.out
    have y9:=cell_of_row w12 _ 9 _ _ _ HS12.out
    have y10:=cell_of_row w12 _ 10 _ _ _ HS12.out
    have y11:=cell_of_row w12 _ 11 _ _ _ HS12.out
    have y12:=cell_of_row w12 _ 12 _ _ _ HS12.out
    have y13:=cell_of_row w12 _ 13 _ _ _ HS12.out
    simp only [List.getElem?_toArray,List.getElem?_cons_zero,List.getElem?_cons_succ] at y0 y1 y2 y3 y4 y5 y6 y7 y8 y9 y10 y11 y12 y13
    go_wp2_with fail
    refine SM.out.mono ?_
    rintro e w13 ⟨rfl,hb⟩
    have B13:=below_step B12.out (Nat.le_refl _) hb
    go_wp2
    go_ret
    exact ⟨rfl,B13⟩
 ·rw [v1] at VAC
  rw [t1,t2]
  have ns:=no_str
  go_wp2_with fail
  refine VAC.out.mono ?_
  rintro e w5 ⟨rfl,hb⟩
  have B5:=Lib.hid (below_step B4.out (Nat.le_refl _) hb)
  have HE5:=Lib.hid (HE4.out.later hb)
  clear hb VAC v1 t1 t2
  go_upto_if 59 with fail
  go_cut [12] from 13 (fun v12 wx=>Below w5.heap.size w5 wx)
  case first =>
   go_wp2
   go_meet
   case rel=>exact Below.refl _ _
  case rest =>
   have BWC:=Lib.hid (below_step B5.out (Nat.le_refl _) hcut)
   have HEC:=Lib.hid (HE5.out.later hcut)
   clear hcut
   as_aux_lemma =>
    have PT:=Lib.hid (fun W=>parse_any s (by omega) W)
    unfold ParseR at PT
    obtain ⟨Y,hY⟩:∃x,(parseQ s).1=x:=⟨_,rfl⟩
    obtain ⟨h,hh⟩:∃x,(parseQ s).2.1=x:=⟨_,rfl⟩
    obtain ⟨y0,hy0⟩:∃x,(parseQ s).2.2=x:=⟨_,rfl⟩
    have HNO:=Lib.hid (show h≠0→Y=zeroQ∧y0≤(s.size:Int) from fun e=>⟨by rw [←hY];exact parse_no (by rw [hh];exact e),by
     have:=parse_range s
     rw [hh,hy0] at this
     exact (this.resolve_left e).2⟩)
    have HYES:=Lib.hid (show h=0→y0=0∧validQ Y=true∧(textQ Y).size≤20000 from fun e=>by
     have e':(parseQ s).2.1=0:=hh.trans e
     refine ⟨hy0.symm.trans (parse_yes e'),?_,?_⟩
     ·rw [←hY];exact (parsed_valid e').1
     ·rw [←hY];exact parsed_size (by omega) e')
    rw [hY,hh,hy0] at PT
    clear hY hh hy0
    go_wp2_with fail
    refine (PT.out _).mono ?_
    rintro e w7 ⟨ya,yc,rfl,hcp,hb⟩
    have BW7:=Lib.hid (below_step BWC.out (Nat.le_refl _) hb)
    have HY7:=Lib.hid (CondP.is _ _ hcp)
    have HE7:=Lib.hid (HEC.out.later hb)
    clear hb PT hcp
    have b78:=(Below.refl w7.heap.size w7).alloc (Nat.le_refl _) (.cells #[.int .i64 Y.ask,.int .i64 Y.kind,.int .i64 Y.wher.op,.string Y.wher.key,.string Y.wher.val,.int .i64 Y.wher.n,.slice ya Y.wher.kids.length yc,.string Y.id,.int .i64 Y.n,.int .i64 Y.x,.int .i64 Y.y,.string Y.key,.string Y.prof,.int .i64 Y.minute] 28)
    have HR8:=Lib.hid (row_new w7 (.cells #[.int .i64 Y.ask,.int .i64 Y.kind,.int .i64 Y.wher.op,.string Y.wher.key,.string Y.wher.val,.int .i64 Y.wher.n,.slice ya Y.wher.kids.length yc,.string Y.id,.int .i64 Y.n,.int .i64 Y.x,.int .i64 Y.y,.string Y.key,.string Y.prof,.int .i64 Y.minute] 28))
    have B8:=Lib.hid (below_step BW7.out (Nat.le_refl _) b78)
    have HY8:=Lib.hid (HY7.out.later b78)
    have HE8:=Lib.hid (HE7.out.later b78)
    clear b78
    by_cases h0:h=0
    case neg =>
     obtain ⟨e1,e2⟩:=HNO.out h0
     subst e1
     have x0:(h != 0)=true:=by rw [bne_iff_ne];exact h0
     have x1:decide (y0≤(s.size:Int))=true:=decide_eq_true e2
     clear h0 e2 HYES HNO HY7 HY8 HR8
     go_wp2
     go_ret
     exact ⟨rfl,B8.out⟩
    subst h0
    obtain ⟨rfl,vY,sY⟩:=HYES.out rfl
    have hYV:=valid_parts vY
    obtain ⟨-,T1,T2,-⟩:=((text_ways Y).resolve_left (fun e=>by rw [vY] at e;cases e.1)).resolve_left (fun e=>by
     have e2:=e.2.2
     unfold textF textE bigT at e2
     rw [if_pos vY,decide_eq_false (by omega:¬20000<(textQ Y).size)] at e2
     cases e2)
    obtain ⟨z1,z2,z3⟩:=valid_str hYV
    have TY:=Lib.hid (text_any Y ya yc _ HY8.out HE8.out z1 z2 z3)
    have VY:=Lib.hid (fun W hc=>validQA_any Y ya yc W hc z1 z2 z3)
    rw [T1,T2] at TY
    rw [vY] at VY
    obtain ⟨OWN,hOWN⟩:∃z,textQ Y=z:=⟨_,rfl⟩
    have PO:=Lib.hid (fun W=>parse_any OWN (by rw [←hOWN];omega) W)
    unfold ParseR at PO
    rw [←hOWN,parse_text vY sY,hOWN] at PO
    rw [hOWN] at TY
    clear hOWN T1 T2 z1 z2 z3 hYV sY vY HYES HNO HY7
    go_wp2_with fail
    refine TY.out.mono ?_
    rintro e w9 ⟨rfl,hb⟩
    have B9:=Lib.hid (below_step B8.out (Nat.le_refl _) hb)
    have HR9:=Lib.hid (row_later hb HR8.out)
    have HY9:=Lib.hid (HY8.out.later hb)
    clear hb TY HR8 HY8
    go_wp2_with fail
    refine (PO.out _).mono ?_
    rintro e w10 ⟨oa,oc,rfl,hcp,hb⟩
    have B10:=Lib.hid (below_step B9.out (Nat.le_refl _) hb)
    have HR10:=Lib.hid (row_later hb HR9.out)
    have HO10:=Lib.hid (CondP.is _ _ hcp)
    have HY10:=Lib.hid (HY9.out.later hb)
    clear hb PO hcp HR9 HY9
    have b11:=(Below.refl w10.heap.size w10).alloc (Nat.le_refl _) (.cells #[.int .i64 Y.ask,.int .i64 Y.kind,.int .i64 Y.wher.op,.string Y.wher.key,.string Y.wher.val,.int .i64 Y.wher.n,.slice oa Y.wher.kids.length oc,.string Y.id,.int .i64 Y.n,.int .i64 Y.x,.int .i64 Y.y,.string Y.key,.string Y.prof,.int .i64 Y.minute] 28)
    have HR11:=Lib.hid (row_new w10 (.cells #[.int .i64 Y.ask,.int .i64 Y.kind,.int .i64 Y.wher.op,.string Y.wher.key,.string Y.wher.val,.int .i64 Y.wher.n,.slice oa Y.wher.kids.length oc,.string Y.id,.int .i64 Y.n,.int .i64 Y.x,.int .i64 Y.y,.string Y.key,.string Y.prof,.int .i64 Y.minute] 28))
    have B11:=Lib.hid (below_step B10.out (Nat.le_refl _) b11)
    have HO11:=Lib.hid (HO10.out.later b11)
    have HY11:=Lib.hid (HY10.out.later b11)
    have HRY:=Lib.hid (row_later b11 HR10.out)
    have yz:=lt_of_block HR10.out
    have y0:=cell_of_row w10 _ 0 _ _ _ HR10.out
    have y1:=cell_of_row w10 _ 1 _ _ _ HR10.out
    have y2:=cell_of_row w10 _ 2 _ _ _ HR10.out
    have y3:=cell_of_row w10 _ 3 _ _ _ HR10.out
    have y4:=cell_of_row w10 _ 4 _ _ _ HR10.out
    have y5:=cell_of_row w10 _ 5 _ _ _ HR10.out
    have y6:=cell_of_row w10 _ 6 _ _ _ HR10.out
    have y7:=cell_of_row w10 _ 7 _ _ _ HR10.out
    have y8:=cell_of_row w10 _ 8 _ _ _ HR10.out
    have y9:=cell_of_row w10 _ 9 _ _ _ HR10.out
    have y10:=cell_of_row w10 _ 10 _ _ _ HR10.out
    have y11:=cell_of_row w10 _ 11 _ _ _ HR10.out
    have y12:=cell_of_row w10 _ 12 _ _ _ HR10.out
    have y13:=cell_of_row w10 _ 13 _ _ _ HR10.out
    simp only [List.getElem?_toArray,List.getElem?_cons_zero,List.getElem?_cons_succ] at y0 y1 y2 y3 y4 y5 y6 y7 y8 y9 y10 y11 y12 y13
    have k0:=cell_later b11 y0
    have k1:=cell_later b11 y1
    have k2:=cell_later b11 y2
    have k3:=cell_later b11 y3
    have k4:=cell_later b11 y4
    have k5:=cell_later b11 y5
    have k6:=cell_later b11 y6
    have k7:=cell_later b11 y7
    have k8:=cell_later b11 y8
    have k9:=cell_later b11 y9
    have k10:=cell_later b11 y10
    have k11:=cell_later b11 y11
    have k12:=cell_later b11 y12
    have k13:=cell_later b11 y13
    clear y0 y1 y2 y3 y4 y5 y6 y7 y8 y9 y10 y11 y12 y13
    clear b11
    go_wp2_with fail
    refine (VY.out _ HY11.out).mono ?_
    rintro e w12 ⟨rfl,hb⟩
    have B12:=Lib.hid (below_step B11.out (Nat.le_refl _) hb)
    have HR12:=Lib.hid (row_later hb HRY.out)
    have HS12:=Lib.hid (row_later hb HR11.out)
    have SM:=Lib.hid (same_any Y Y ya yc oa oc w12 (HY11.out.later hb) (HO11.out.later hb))
    rw [sameQ_refl] at SM
    clear hb VY k0 k1 k2 k3 k4 k5 k6 k7 k8 k9 k10 k11 k12 k13
    have xz:=lt_of_block HR12.out
    have x0:=cell_of_row w12 _ 0 _ _ _ HR12.out
    have x1:=cell_of_row w12 _ 1 _ _ _ HR12.out
    have x2:=cell_of_row w12 _ 2 _ _ _ HR12.out
    have x3:=cell_of_row w12 _ 3 _ _ _ HR12.out
    have x4:=cell_of_row w12 _ 4 _ _ _ HR12.out
    have x5:=cell_of_row w12 _ 5 _ _ _ HR12.out
    have x6:=cell_of_row w12 _ 6 _ _ _ HR12.out
    have x7:=cell_of_row w12 _ 7 _ _ _ HR12.out
    have x8:=cell_of_row w12 _ 8 _ _ _ HR12.out
    have x9:=cell_of_row w12 _ 9 _ _ _ HR12.out
    have x10:=cell_of_row w12 _ 10 _ _ _ HR12.out
    have x11:=cell_of_row w12 _ 11 _ _ _ HR12.out
    have x12:=cell_of_row w12 _ 12 _ _ _ HR12.out
    have x13:=cell_of_row w12 _ 13 _ _ _ HR12.out
    simp only [List.getElem?_toArray,List.getElem?_cons_zero,List.getElem?_cons_succ] at x0 x1 x2 x3 x4 x5 x6 x7 x8 x9 x10 x11 x12 x13
    have yz:=lt_of_block HS12.out
    have y0:=cell_of_row w12 _ 0 _ _ _ HS12.out
    have y1:=cell_of_row w12 _ 1 _ _ _ HS12.out
    have y2:=cell_of_row w12 _ 2 _ _ _ HS12.out
    have y3:=cell_of_row w12 _ 3 _ _ _ HS12.out
    have y4:=cell_of_row w12 _ 4 _ _ _ HS12.out
    have y5:=cell_of_row w12 _ 5 _ _ _ HS12.out
    have y6:=cell_of_row w12 _ 6 _ _ _ HS12.out
    have y7:=cell_of_row w12 _ 7 _ _ _ HS12.out
    have y8:=cell_of_row w12 _ 8 _ _ _ HS12.out
    have y9:=cell_of_row w12 _ 9 _ _ _ HS12.out
    have y10:=cell_of_row w12 _ 10 _ _ _ HS12.out
    have y11:=cell_of_row w12 _ 11 _ _ _ HS12.out
    have y12:=cell_of_row w12 _ 12 _ _ _ HS12.out
    have y13:=cell_of_row w12 _ 13 _ _ _ HS12.out
    simp only [List.getElem?_toArray,List.getElem?_cons_zero,List.getElem?_cons_succ] at y0 y1 y2 y3 y4 y5 y6 y7 y8 y9 y10 y11 y12 y13
    go_wp2_with fail
    refine SM.out.mono ?_
    rintro e w13 ⟨rfl,hb⟩
    have B13:=below_step B12.out (Nat.le_refl _) hb
    go_wp2
    go_ret
    exact ⟨rfl,B13⟩
 ·rw [v1] at VAC
  rw [t1,t2]
  have ns:=no_str
  go_wp2_with fail
  refine VAC.out.mono ?_
  rintro e w5 ⟨rfl,hb⟩
  have B5:=Lib.hid (below_step B4.out (Nat.le_refl _) hb)
  have HE5:=Lib.hid (HE4.out.later hb)
  have RA5:=Lib.hid (row_later hb RA4.out)
  have RB5:=Lib.hid (row_later hb RB4.out)
  have HC5:=Lib.hid (HC4.out.later hb)
  have HD5:=Lib.hid (HD4.out.later hb)
  have hpt:=HPT.out v1 t3
  have hsz:(textQ q).size≤20000:=t3
  have HV1:=Lib.hid v1
  have HINJ2:=Lib.hid (fun hq he=>HINJ.out v1 hq t3 he)
  obtain ⟨sa,hsa⟩:∃z,textQ q=z:=⟨_,rfl⟩
  have PQ:=Lib.hid (fun W=>parse_any sa (by rw [←hsa];omega) W)
  unfold ParseR at PQ
  rw [←hsa,hpt,hsa] at PQ
  rw [hsa] at HINJ2 ⊢
  have HSA:=Lib.hid hsa
  clear hb VAC v1 t1 t2 t3 hpt hsz hsa x0 x1 x2 x3 x4 x5 x6 x7 x8 x9 x10 x11 x12 x13
  go_upto_if 59 with fail
  go_cut [12] from 13 (fun v12 wx=>Below w5.heap.size w5 wx)
  case first =>
   as_aux_lemma =>
   go_wp2_with fail
   refine (PQ.out _).mono ?_
   rintro e w6 ⟨pa,pc,rfl,hcp,hb⟩
   have B6:=Lib.hid hb
   have HP6:=Lib.hid (CondP.is _ _ hcp)
   clear hb PQ hcp
   have b67:=(Below.refl w6.heap.size w6).alloc (Nat.le_refl _) (.cells #[.int .i64 q.ask,.int .i64 q.kind,.int .i64 q.wher.op,.string q.wher.key,.string q.wher.val,.int .i64 q.wher.n,.slice pa q.wher.kids.length pc,.string q.id,.int .i64 q.n,.int .i64 q.x,.int .i64 q.y,.string q.key,.string q.prof,.int .i64 q.minute] 28)
   have B7:=Lib.hid (below_step B6.out (Nat.le_refl _) b67)
   have RA7:=Lib.hid (row_later B7.out RA5.out)
   have RB7:=Lib.hid (row_later B7.out RB5.out)
   have SM:=Lib.hid (same_any q q pa pc a cap _ (HP6.out.later b67) (HC5.out.later B7.out))
   rw [sameQ_refl] at SM
   have HC7:=Lib.hid (HC5.out.later B7.out)
   have HD7:=Lib.hid (HD5.out.later B7.out)
   have RA6:=Lib.hid (row_later B6.out RA5.out)
   have yz:=lt_of_block RA6.out
   have y0:=cell_of_row w6 _ 0 _ _ _ RA6.out
   have y1:=cell_of_row w6 _ 1 _ _ _ RA6.out
   have y2:=cell_of_row w6 _ 2 _ _ _ RA6.out
   have y3:=cell_of_row w6 _ 3 _ _ _ RA6.out
   have y4:=cell_of_row w6 _ 4 _ _ _ RA6.out
   have y5:=cell_of_row w6 _ 5 _ _ _ RA6.out
   have y6:=cell_of_row w6 _ 6 _ _ _ RA6.out
   have y7:=cell_of_row w6 _ 7 _ _ _ RA6.out
   have y8:=cell_of_row w6 _ 8 _ _ _ RA6.out
   have y9:=cell_of_row w6 _ 9 _ _ _ RA6.out
   have y10:=cell_of_row w6 _ 10 _ _ _ RA6.out
   have y11:=cell_of_row w6 _ 11 _ _ _ RA6.out
   have y12:=cell_of_row w6 _ 12 _ _ _ RA6.out
   have y13:=cell_of_row w6 _ 13 _ _ _ RA6.out
   simp only [List.getElem?_toArray,List.getElem?_cons_zero,List.getElem?_cons_succ] at y0 y1 y2 y3 y4 y5 y6 y7 y8 y9 y10 y11 y12 y13
   have x0:=cell_later b67 y0
   have x1:=cell_later b67 y1
   have x2:=cell_later b67 y2
   have x3:=cell_later b67 y3
   have x4:=cell_later b67 y4
   have x5:=cell_later b67 y5
   have x6:=cell_later b67 y6
   have x7:=cell_later b67 y7
   have x8:=cell_later b67 y8
   have x9:=cell_later b67 y9
   have x10:=cell_later b67 y10
   have x11:=cell_later b67 y11
   have x12:=cell_later b67 y12
   have x13:=cell_later b67 y13
   clear y0 y1 y2 y3 y4 y5 y6 y7 y8 y9 y10 y11 y12 y13
   clear b67
   go_wp2_with fail
   refine SM.out.mono ?_
   rintro e w8 ⟨rfl,hb⟩
   have B8:=Lib.hid (below_step B7.out (Nat.le_refl _) hb)
   have RA8:=Lib.hid (row_later hb RA7.out)
   have RB8:=Lib.hid (row_later hb RB7.out)
   have HC8:=Lib.hid (HC7.out.later hb)
   have HD8:=Lib.hid (HD7.out.later hb)
   clear hb SM x0 x1 x2 x3 x4 x5 x6 x7 x8 x9 x10 x11 x12 x13
   by_cases hb0:eb=0
   case neg =>
    have xb:(eb==0)=false:=by rw [beq_eq_false_iff_ne];exact hb0
    clear hb0
    go_wp2
    go_meet
    case rel=>exact B8.out
   have hWB:validQ p=true∧sb=textQ p:=by
    rcases HWB.out with ⟨-,-,e⟩ | ⟨-,-,e⟩ | ⟨e1,e2,-⟩
    ·omega
    ·omega
    ·exact ⟨e1,e2⟩
   subst hb0
   have SQ:=Lib.hid (same_any q p a cap a2 cap2 w8 HC8.out HD8.out)
   have xz:=lt_of_block RA8.out
   have x0:=cell_of_row w8 _ 0 _ _ _ RA8.out
   have x1:=cell_of_row w8 _ 1 _ _ _ RA8.out
   have x2:=cell_of_row w8 _ 2 _ _ _ RA8.out
   have x3:=cell_of_row w8 _ 3 _ _ _ RA8.out
   have x4:=cell_of_row w8 _ 4 _ _ _ RA8.out
   have x5:=cell_of_row w8 _ 5 _ _ _ RA8.out
   have x6:=cell_of_row w8 _ 6 _ _ _ RA8.out
   have x7:=cell_of_row w8 _ 7 _ _ _ RA8.out
   have x8:=cell_of_row w8 _ 8 _ _ _ RA8.out
   have x9:=cell_of_row w8 _ 9 _ _ _ RA8.out
   have x10:=cell_of_row w8 _ 10 _ _ _ RA8.out
   have x11:=cell_of_row w8 _ 11 _ _ _ RA8.out
   have x12:=cell_of_row w8 _ 12 _ _ _ RA8.out
   have x13:=cell_of_row w8 _ 13 _ _ _ RA8.out
   simp only [List.getElem?_toArray,List.getElem?_cons_zero,List.getElem?_cons_succ] at x0 x1 x2 x3 x4 x5 x6 x7 x8 x9 x10 x11 x12 x13
   have yz:=lt_of_block RB8.out
   have y0:=cell_of_row w8 _ 0 _ _ _ RB8.out
   have y1:=cell_of_row w8 _ 1 _ _ _ RB8.out
   have y2:=cell_of_row w8 _ 2 _ _ _ RB8.out
   have y3:=cell_of_row w8 _ 3 _ _ _ RB8.out
   have y4:=cell_of_row w8 _ 4 _ _ _ RB8.out
   have y5:=cell_of_row w8 _ 5 _ _ _ RB8.out
   have y6:=cell_of_row w8 _ 6 _ _ _ RB8.out
   have y7:=cell_of_row w8 _ 7 _ _ _ RB8.out
   have y8:=cell_of_row w8 _ 8 _ _ _ RB8.out
   have y9:=cell_of_row w8 _ 9 _ _ _ RB8.out
   have y10:=cell_of_row w8 _ 10 _ _ _ RB8.out
   have y11:=cell_of_row w8 _ 11 _ _ _ RB8.out
   have y12:=cell_of_row w8 _ 12 _ _ _ RB8.out
   have y13:=cell_of_row w8 _ 13 _ _ _ RB8.out
   simp only [List.getElem?_toArray,List.getElem?_cons_zero,List.getElem?_cons_succ] at y0 y1 y2 y3 y4 y5 y6 y7 y8 y9 y10 y11 y12 y13
   by_cases hqp:q=p
   ·subst hqp
    have hss:sa=sb:=HSA.out.symm.trans hWB.2.symm
    subst hss
    rw [sameQ_refl] at SQ
    clear hWB
    go_wp2_with fail
    refine SQ.out.mono ?_
    rintro e w9 ⟨rfl,hb⟩
    have B9:=below_step B8.out (Nat.le_refl _) hb
    go_wp2
    go_meet
    case rel=>exact B9
   ·have hss:sa≠sb:=fun e=>hqp (HINJ2.out hWB.1 (e.trans hWB.2))
    have xs:=ne_str hss
    have hsq:sameQ q p=false:=by
     cases h:sameQ q p
     ·rfl
     ·exact absurd (sameQ_eq h) hqp
    rw [hsq] at SQ
    clear hWB hss hqp hsq
    go_wp2_with fail
    refine SQ.out.mono ?_
    rintro e w9 ⟨rfl,hb⟩
    have B9:=below_step B8.out (Nat.le_refl _) hb
    go_wp2
    go_meet
    case rel=>exact B9
  case rest =>
   have BWC:=Lib.hid (below_step B5.out (Nat.le_refl _) hcut)
   have HEC:=Lib.hid (HE5.out.later hcut)
   clear hcut
   as_aux_lemma =>
    have PT:=Lib.hid (fun W=>parse_any s (by omega) W)
    unfold ParseR at PT
    obtain ⟨Y,hY⟩:∃x,(parseQ s).1=x:=⟨_,rfl⟩
    obtain ⟨h,hh⟩:∃x,(parseQ s).2.1=x:=⟨_,rfl⟩
    obtain ⟨y0,hy0⟩:∃x,(parseQ s).2.2=x:=⟨_,rfl⟩
    have HNO:=Lib.hid (show h≠0→Y=zeroQ∧y0≤(s.size:Int) from fun e=>⟨by rw [←hY];exact parse_no (by rw [hh];exact e),by
     have:=parse_range s
     rw [hh,hy0] at this
     exact (this.resolve_left e).2⟩)
    have HYES:=Lib.hid (show h=0→y0=0∧validQ Y=true∧(textQ Y).size≤20000 from fun e=>by
     have e':(parseQ s).2.1=0:=hh.trans e
     refine ⟨hy0.symm.trans (parse_yes e'),?_,?_⟩
     ·rw [←hY];exact (parsed_valid e').1
     ·rw [←hY];exact parsed_size (by omega) e')
    rw [hY,hh,hy0] at PT
    clear hY hh hy0
    go_wp2_with fail
    refine (PT.out _).mono ?_
    rintro e w7 ⟨ya,yc,rfl,hcp,hb⟩
    have BW7:=Lib.hid (below_step BWC.out (Nat.le_refl _) hb)
    have HY7:=Lib.hid (CondP.is _ _ hcp)
    have HE7:=Lib.hid (HEC.out.later hb)
    clear hb PT hcp
    have b78:=(Below.refl w7.heap.size w7).alloc (Nat.le_refl _) (.cells #[.int .i64 Y.ask,.int .i64 Y.kind,.int .i64 Y.wher.op,.string Y.wher.key,.string Y.wher.val,.int .i64 Y.wher.n,.slice ya Y.wher.kids.length yc,.string Y.id,.int .i64 Y.n,.int .i64 Y.x,.int .i64 Y.y,.string Y.key,.string Y.prof,.int .i64 Y.minute] 28)
    have HR8:=Lib.hid (row_new w7 (.cells #[.int .i64 Y.ask,.int .i64 Y.kind,.int .i64 Y.wher.op,.string Y.wher.key,.string Y.wher.val,.int .i64 Y.wher.n,.slice ya Y.wher.kids.length yc,.string Y.id,.int .i64 Y.n,.int .i64 Y.x,.int .i64 Y.y,.string Y.key,.string Y.prof,.int .i64 Y.minute] 28))
    have B8:=Lib.hid (below_step BW7.out (Nat.le_refl _) b78)
    have HY8:=Lib.hid (HY7.out.later b78)
    have HE8:=Lib.hid (HE7.out.later b78)
    clear b78
    by_cases h0:h=0
    case neg =>
     obtain ⟨e1,e2⟩:=HNO.out h0
     subst e1
     have x0:(h != 0)=true:=by rw [bne_iff_ne];exact h0
     have x1:decide (y0≤(s.size:Int))=true:=decide_eq_true e2
     clear h0 e2 HYES HNO HY7 HY8 HR8
     go_wp2
     go_ret
     exact ⟨rfl,B8.out⟩
    subst h0
    obtain ⟨rfl,vY,sY⟩:=HYES.out rfl
    have hYV:=valid_parts vY
    obtain ⟨-,T1,T2,-⟩:=((text_ways Y).resolve_left (fun e=>by rw [vY] at e;cases e.1)).resolve_left (fun e=>by
     have e2:=e.2.2
     unfold textF textE bigT at e2
     rw [if_pos vY,decide_eq_false (by omega:¬20000<(textQ Y).size)] at e2
     cases e2)
    obtain ⟨z1,z2,z3⟩:=valid_str hYV
    have TY:=Lib.hid (text_any Y ya yc _ HY8.out HE8.out z1 z2 z3)
    have VY:=Lib.hid (fun W hc=>validQA_any Y ya yc W hc z1 z2 z3)
    rw [T1,T2] at TY
    rw [vY] at VY
    obtain ⟨OWN,hOWN⟩:∃z,textQ Y=z:=⟨_,rfl⟩
    have PO:=Lib.hid (fun W=>parse_any OWN (by rw [←hOWN];omega) W)
    unfold ParseR at PO
    rw [←hOWN,parse_text vY sY,hOWN] at PO
    rw [hOWN] at TY
    clear hOWN T1 T2 z1 z2 z3 hYV sY vY HYES HNO HY7
    go_wp2_with fail
    refine TY.out.mono ?_
    rintro e w9 ⟨rfl,hb⟩
    have B9:=Lib.hid (below_step B8.out (Nat.le_refl _) hb)
    have HR9:=Lib.hid (row_later hb HR8.out)
    have HY9:=Lib.hid (HY8.out.later hb)
    clear hb TY HR8 HY8
    go_wp2_with fail
    refine (PO.out _).mono ?_
    rintro e w10 ⟨oa,oc,rfl,hcp,hb⟩
    have B10:=Lib.hid (below_step B9.out (Nat.le_refl _) hb)
    have HR10:=Lib.hid (row_later hb HR9.out)
    have HO10:=Lib.hid (CondP.is _ _ hcp)
    have HY10:=Lib.hid (HY9.out.later hb)
    clear hb PO hcp HR9 HY9
    have b11:=(Below.refl w10.heap.size w10).alloc (Nat.le_refl _) (.cells #[.int .i64 Y.ask,.int .i64 Y.kind,.int .i64 Y.wher.op,.string Y.wher.key,.string Y.wher.val,.int .i64 Y.wher.n,.slice oa Y.wher.kids.length oc,.string Y.id,.int .i64 Y.n,.int .i64 Y.x,.int .i64 Y.y,.string Y.key,.string Y.prof,.int .i64 Y.minute] 28)
    have HR11:=Lib.hid (row_new w10 (.cells #[.int .i64 Y.ask,.int .i64 Y.kind,.int .i64 Y.wher.op,.string Y.wher.key,.string Y.wher.val,.int .i64 Y.wher.n,.slice oa Y.wher.kids.length oc,.string Y.id,.int .i64 Y.n,.int .i64 Y.x,.int .i64 Y.y,.string Y.key,.string Y.prof,.int .i64 Y.minute] 28))
    have B11:=Lib.hid (below_step B10.out (Nat.le_refl _) b11)
    have HO11:=Lib.hid (HO10.out.later b11)
    have HY11:=Lib.hid (HY10.out.later b11)
    have HRY:=Lib.hid (row_later b11 HR10.out)
    have yz:=lt_of_block HR10.out
    have y0:=cell_of_row w10 _ 0 _ _ _ HR10.out
    have y1:=cell_of_row w10 _ 1 _ _ _ HR10.out
    have y2:=cell_of_row w10 _ 2 _ _ _ HR10.out
    have y3:=cell_of_row w10 _ 3 _ _ _ HR10.out
    have y4:=cell_of_row w10 _ 4 _ _ _ HR10.out
    have y5:=cell_of_row w10 _ 5 _ _ _ HR10.out
    have y6:=cell_of_row w10 _ 6 _ _ _ HR10.out
    have y7:=cell_of_row w10 _ 7 _ _ _ HR10.out
    have y8:=cell_of_row w10 _ 8 _ _ _ HR10.out
    have y9:=cell_of_row w10 _ 9 _ _ _ HR10.out
    have y10:=cell_of_row w10 _ 10 _ _ _ HR10.out
    have y11:=cell_of_row w10 _ 11 _ _ _ HR10.out
    have y12:=cell_of_row w10 _ 12 _ _ _ HR10.out
    have y13:=cell_of_row w10 _ 13 _ _ _ HR10.out
    simp only [List.getElem?_toArray,List.getElem?_cons_zero,List.getElem?_cons_succ] at y0 y1 y2 y3 y4 y5 y6 y7 y8 y9 y10 y11 y12 y13
    have k0:=cell_later b11 y0
    have k1:=cell_later b11 y1
    have k2:=cell_later b11 y2
    have k3:=cell_later b11 y3
    have k4:=cell_later b11 y4
    have k5:=cell_later b11 y5
    have k6:=cell_later b11 y6
    have k7:=cell_later b11 y7
    have k8:=cell_later b11 y8
    have k9:=cell_later b11 y9
    have k10:=cell_later b11 y10
    have k11:=cell_later b11 y11
    have k12:=cell_later b11 y12
    have k13:=cell_later b11 y13
    clear y0 y1 y2 y3 y4 y5 y6 y7 y8 y9 y10 y11 y12 y13
    clear b11
    go_wp2_with fail
    refine (VY.out _ HY11.out).mono ?_
    rintro e w12 ⟨rfl,hb⟩
    have B12:=Lib.hid (below_step B11.out (Nat.le_refl _) hb)
    have HR12:=Lib.hid (row_later hb HRY.out)
    have HS12:=Lib.hid (row_later hb HR11.out)
    have SM:=Lib.hid (same_any Y Y ya yc oa oc w12 (HY11.out.later hb) (HO11.out.later hb))
    rw [sameQ_refl] at SM
    clear hb VY k0 k1 k2 k3 k4 k5 k6 k7 k8 k9 k10 k11 k12 k13
    have xz:=lt_of_block HR12.out
    have x0:=cell_of_row w12 _ 0 _ _ _ HR12.out
    have x1:=cell_of_row w12 _ 1 _ _ _ HR12.out
    have x2:=cell_of_row w12 _ 2 _ _ _ HR12.out
    have x3:=cell_of_row w12 _ 3 _ _ _ HR12.out
    have x4:=cell_of_row w12 _ 4 _ _ _ HR12.out
    have x5:=cell_of_row w12 _ 5 _ _ _ HR12.out
    have x6:=cell_of_row w12 _ 6 _ _ _ HR12.out
    have x7:=cell_of_row w12 _ 7 _ _ _ HR12.out
    have x8:=cell_of_row w12 _ 8 _ _ _ HR12.out
    have x9:=cell_of_row w12 _ 9 _ _ _ HR12.out
    have x10:=cell_of_row w12 _ 10 _ _ _ HR12.out
    have x11:=cell_of_row w12 _ 11 _ _ _ HR12.out
    have x12:=cell_of_row w12 _ 12 _ _ _ HR12.out
    have x13:=cell_of_row w12 _ 13 _ _ _ HR12.out
    simp only [List.getElem?_toArray,List.getElem?_cons_zero,List.getElem?_cons_succ] at x0 x1 x2 x3 x4 x5 x6 x7 x8 x9 x10 x11 x12 x13
    have yz:=lt_of_block HS12.out
    have y0:=cell_of_row w12 _ 0 _ _ _ HS12.out
    have y1:=cell_of_row w12 _ 1 _ _ _ HS12.out
    have y2:=cell_of_row w12 _ 2 _ _ _ HS12.out
    have y3:=cell_of_row w12 _ 3 _ _ _ HS12.out
    have y4:=cell_of_row w12 _ 4 _ _ _ HS12.out
    have y5:=cell_of_row w12 _ 5 _ _ _ HS12.out
    have y6:=cell_of_row w12 _ 6 _ _ _ HS12.out
    have y7:=cell_of_row w12 _ 7 _ _ _ HS12.out
    have y8:=cell_of_row w12 _ 8 _ _ _ HS12.out
    have y9:=cell_of_row w12 _ 9 _ _ _ HS12.out
    have y10:=cell_of_row w12 _ 10 _ _ _ HS12.out
    have y11:=cell_of_row w12 _ 11 _ _ _ HS12.out
    have y12:=cell_of_row w12 _ 12 _ _ _ HS12.out
    have y13:=cell_of_row w12 _ 13 _ _ _ HS12.out
    simp only [List.getElem?_toArray,List.getElem?_cons_zero,List.getElem?_cons_succ] at y0 y1 y2 y3 y4 y5 y6 y7 y8 y9 y10 y11 y12 y13
    go_wp2_with fail
    refine SM.out.mono ?_
    rintro e w13 ⟨rfl,hb⟩
    have B13:=below_step B12.out (Nat.le_refl _) hb
    go_wp2
    go_ret
    exact ⟨rfl,B13⟩
end Go.Proofs.YtdfenhjibnfdeaaGreatDoor
