/-  -/
import Derived.Test.YtdfenhjibnfdeaaGreatDoorQzAi
namespace Go.Proofs.YtdfenhjibnfdeaaGreatDoor
open Go.RowKit
theorem wordK_out (k:Int) (h:¬(1≤k∧k≤5)):wordK k=⟨#[]⟩:=by
 simp only [wordK];rw [if_neg (by omega),if_neg (by omega),if_neg (by omega),if_neg (by omega),if_neg (by omega)]
theorem word_in (k:Int) (h0:1≤k) (h5:k≤5):∃W:ByteArray,wordK k=W∧0<W.size∧∀w,Calls Tryz.prog 51 #[.int .i64 k] w fun e w'=>e=.returned (.string W)∧Below w.heap.size w w':=by
 refine ⟨wordK k,rfl,?_,rword2_any k⟩
 obtain rfl | rfl | rfl | rfl | rfl:k=1∨k=2∨k=3∨k=4∨k=5:=by omega
 all_goals decide
set_option maxRecDepth 100000 in
set_option maxHeartbeats 1000000 in
theorem rvalidO_any (id:ByteArray) (kind x y:Int) (vr vt:Value) (refs:List ByteArray) (tags:List TagD) (w:World) (hid:id.size≤140737488355328) (hr:StrRow w vr refs) (ht:TagRow w vt tags) :
  Calls Tryz.prog 26 #[.agg #[.string id,.int .i64 kind,.int .i64 x,.int .i64 y,vr,vt]] w fun e w'=>e=.returned (.bool (objOK ⟨id,kind,x,y,refs,tags⟩))∧Below w.heap.size w w':=by
 have HOK:=Lib.hid (objOK_ref ⟨id,kind,x,y,refs,tags⟩)
 have HR:=Lib.hid hr
 have HT:=Lib.hid ht
 clear hr ht
 go_enter Tryz.func26,Tryz.ntmps26
 go_wp2_with fail
 have GO:=Lib.hid (row_new w (.cells #[.string id,.int .i64 kind,.int .i64 x,.int .i64 y,vr,vt] 50))
 have B1:Below w.heap.size w (w.alloc (.cells #[.string id,.int .i64 kind,.int .i64 x,.int .i64 y,vr,vt] 50)):=(Below.refl _ _).alloc (Nat.le_refl _) _
 refine (ron_any _ _ _).mono ?_;rintro e w1 ⟨rfl,hb1⟩
 have GO:=Lib.hid (row_later hb1 GO.out)
 have B2:=below_step B1 (Nat.le_refl _) hb1
 clear hb1 B1
 have HO:=GO.out
 obtain ⟨oz,o0,o1,o2,o3,o4,o5⟩:=rk6 HO
 have HO':=Lib.hid HO
 clear HO
 clear HO'
 have FIN:∀(AT:Bool),(if kind=1 then onB x y else decide (x=0∧y=0))=AT→Hid (objOK ⟨id,kind,x,y,refs,tags⟩=(nameB id && decide (1≤kind∧kind≤5) && AT && tagsOK tags && (decide (refs.length≤2000) && refsFrom kind [] refs && refsEnd kind refs.length))):=fun AT h=>Lib.hid (by rw [HOK.out,←h])
 by_cases k1:kind=1
 ·have HE:=FIN (onB x y) (if_pos k1)
  have f1:(kind != 1)=false:=by rw [k1];rfl
  clear FIN HOK k1
  generalize onB x y=AT at *
  go_wp2_with fail
  refine (rname_any id hid _).mono ?_;rintro e w' ⟨rfl,rfl⟩
  cases hnm:nameB id
  case false =>
   have HE2:=Lib.hid (show objOK ⟨id,kind,x,y,refs,tags⟩=false by rw [HE.out,hnm];rfl)
   clear hnm
   go_wp2
   go_ret
   exact ⟨ret_bool HE2.out.symm,B2⟩
  have HNM:=Lib.hid hnm
  clear hnm
  by_cases hk:1≤kind∧kind≤5
  case neg =>
   have HE2:=Lib.hid (show objOK ⟨id,kind,x,y,refs,tags⟩=false by rw [HE.out,decide_eq_false hk];simp)
   have WD:=Lib.hid (fun w=>by have:=rword2_any kind w;rw [wordK_out kind hk] at this;exact this)
   clear hk
   go_wp2_with fail
   refine (WD.out _).mono ?_;rintro e w3 ⟨rfl,hb3⟩
   have B3:=below_step B2 (Nat.le_refl _) hb3
   clear hb3 o0 o1 o2 o3 o4 o5
   go_wp2
   go_ret
   exact ⟨ret_bool HE2.out.symm,B3⟩
  obtain ⟨W,hW,w0,WD⟩:=word_in kind hk.1 hk.2
  have WDH:=Lib.hid WD
  have e1:W.toList.isEmpty=false:=str_not_empty w0
  have e0:¬W.toList=[]:=by intro e;rw [e] at e1;simp at e1
  have HKK:=Lib.hid hk
  clear hW WD hk
  go_wp2_with fail
  refine (WDH.out _).mono ?_;rintro e w3 ⟨rfl,hb3⟩
  have B3:=below_step B2 (Nat.le_refl _) hb3
  have GO:=Lib.hid (row_later hb3 GO.out)
  clear hb3 o0 o1 o2 o3 o4 o5 oz
  have HO:=GO.out
  obtain ⟨oz,o0,o1,o2,o3,o4,o5⟩:=rk6 HO
  have HO':=Lib.hid HO
  clear HO
  clear HO'
  cases AT
  case false =>
   have HE2:=Lib.hid (show objOK ⟨id,kind,x,y,refs,tags⟩=false by rw [HE.out];simp)
   go_wp2
   go_ret
   exact ⟨ret_bool HE2.out.symm,B3⟩
  go_wp2_with fail
  refine (rtags_any vt tags _ (HT.out.later B3)).mono ?_;rintro e w4 ⟨rfl,hb4⟩
  have B4:=below_step B3 (Nat.le_refl _) hb4
  have GO:=Lib.hid (row_later hb4 GO.out)
  clear hb4 o0 o1 o2 o3 o4 o5 oz
  have HO:=GO.out
  obtain ⟨oz,o0,o1,o2,o3,o4,o5⟩:=rk6 HO
  have HO':=Lib.hid HO
  clear HO
  clear HO'
  cases htg:tagsOK tags
  case false =>
   have HE2:=Lib.hid (show objOK ⟨id,kind,x,y,refs,tags⟩=false by rw [HE.out,htg];simp)
   clear htg
   go_wp2
   go_ret
   exact ⟨ret_bool HE2.out.symm,B4⟩
  have HE2:=Lib.hid (show objOK ⟨id,kind,x,y,refs,tags⟩=(decide (refs.length≤2000) && refsFrom kind [] refs && refsEnd kind refs.length) by rw [HE.out,htg,HNM.out,decide_eq_true HKK.out];simp)
  clear htg
  go_wp2_with fail
  refine (rrefs_any id kind x y vr vt refs _ (HR.out.later B4)).mono ?_;rintro e w5 ⟨rfl,hb5⟩
  have B5:=below_step B4 (Nat.le_refl _) hb5
  clear hb5 o0 o1 o2 o3 o4 o5 oz
  rw [←HE2.out]
  go_wp2
  go_ret
  exact ⟨rfl,B5⟩
 have f1:(kind != 1)=true:=by rw [bne_iff_ne];exact k1
 by_cases kz:x=0∧y=0
 ·have HE:=FIN true (by rw [if_neg k1];simp [kz])
  obtain ⟨rfl,rfl⟩:=kz
  clear FIN HOK k1
  go_wp2_with fail
  refine (rname_any id hid _).mono ?_;rintro e w' ⟨rfl,rfl⟩
  cases hnm:nameB id
  case false =>
   have HE2:=Lib.hid (show objOK ⟨id,kind,0,0,refs,tags⟩=false by rw [HE.out,hnm];rfl)
   clear hnm
   go_wp2
   go_ret
   exact ⟨ret_bool HE2.out.symm,B2⟩
  have HNM:=Lib.hid hnm
  clear hnm
  by_cases hk:1≤kind∧kind≤5
  case neg =>
   have HE2:=Lib.hid (show objOK ⟨id,kind,0,0,refs,tags⟩=false by rw [HE.out,decide_eq_false hk];simp)
   have WD:=Lib.hid (fun w=>by have:=rword2_any kind w;rw [wordK_out kind hk] at this;exact this)
   clear hk
   go_wp2_with fail
   refine (WD.out _).mono ?_;rintro e w3 ⟨rfl,hb3⟩
   have B3:=below_step B2 (Nat.le_refl _) hb3
   clear hb3 o0 o1 o2 o3 o4 o5
   go_wp2
   go_ret
   exact ⟨ret_bool HE2.out.symm,B3⟩
  obtain ⟨W,hW,w0,WD⟩:=word_in kind hk.1 hk.2
  have WDH:=Lib.hid WD
  have e1:W.toList.isEmpty=false:=str_not_empty w0
  have e0:¬W.toList=[]:=by intro e;rw [e] at e1;simp at e1
  have HKK:=Lib.hid hk
  clear hW WD hk
  go_wp2_with fail
  refine (WDH.out _).mono ?_;rintro e w3 ⟨rfl,hb3⟩
  have B3:=below_step B2 (Nat.le_refl _) hb3
  have GO:=Lib.hid (row_later hb3 GO.out)
  clear hb3 o0 o1 o2 o3 o4 o5 oz
  have HO:=GO.out
  obtain ⟨oz,o0,o1,o2,o3,o4,o5⟩:=rk6 HO
  have HO':=Lib.hid HO
  clear HO
  clear HO'
  go_wp2_with fail
  refine (rtags_any vt tags _ (HT.out.later B3)).mono ?_;rintro e w4 ⟨rfl,hb4⟩
  have B4:=below_step B3 (Nat.le_refl _) hb4
  have GO:=Lib.hid (row_later hb4 GO.out)
  clear hb4 o0 o1 o2 o3 o4 o5 oz
  have HO:=GO.out
  obtain ⟨oz,o0,o1,o2,o3,o4,o5⟩:=rk6 HO
  have HO':=Lib.hid HO
  clear HO
  clear HO'
  cases htg:tagsOK tags
  case false =>
   have HE2:=Lib.hid (show objOK ⟨id,kind,0,0,refs,tags⟩=false by rw [HE.out,htg];simp)
   clear htg
   go_wp2
   go_ret
   exact ⟨ret_bool HE2.out.symm,B4⟩
  have HE2:=Lib.hid (show objOK ⟨id,kind,0,0,refs,tags⟩=(decide (refs.length≤2000) && refsFrom kind [] refs && refsEnd kind refs.length) by rw [HE.out,htg,HNM.out,decide_eq_true HKK.out];simp)
  clear htg
  go_wp2_with fail
  refine (rrefs_any id kind 0 0 vr vt refs _ (HR.out.later B4)).mono ?_;rintro e w5 ⟨rfl,hb5⟩
  have B5:=below_step B4 (Nat.le_refl _) hb5
  clear hb5 o0 o1 o2 o3 o4 o5 oz
  rw [←HE2.out]
  go_wp2
  go_ret
  exact ⟨rfl,B5⟩
 ·have HE:=FIN false (by rw [if_neg k1];simp only [decide_eq_false_iff_not];exact kz)
  have hz:x≠0∨y≠0:=by omega
  clear FIN HOK k1 kz
  rcases hz with hz | hz
  ·have z0:(x==0)=false:=by rw [beq_eq_false_iff_ne];exact hz
   go_wp2_with fail
   refine (rname_any id hid _).mono ?_;rintro e w' ⟨rfl,rfl⟩
   cases hnm:nameB id
   case false =>
    have HE2:=Lib.hid (show objOK ⟨id,kind,x,y,refs,tags⟩=false by rw [HE.out,hnm];rfl)
    clear hnm
    go_wp2
    go_ret
    exact ⟨ret_bool HE2.out.symm,B2⟩
   have HNM:=Lib.hid hnm
   clear hnm
   by_cases hk:1≤kind∧kind≤5
   case neg =>
    have HE2:=Lib.hid (show objOK ⟨id,kind,x,y,refs,tags⟩=false by rw [HE.out,decide_eq_false hk];simp)
    have WD:=Lib.hid (fun w=>by have:=rword2_any kind w;rw [wordK_out kind hk] at this;exact this)
    clear hk
    go_wp2_with fail
    refine (WD.out _).mono ?_;rintro e w3 ⟨rfl,hb3⟩
    have B3:=below_step B2 (Nat.le_refl _) hb3
    clear hb3 o0 o1 o2 o3 o4 o5
    go_wp2
    go_ret
    exact ⟨ret_bool HE2.out.symm,B3⟩
   obtain ⟨W,hW,w0,WD⟩:=word_in kind hk.1 hk.2
   have WDH:=Lib.hid WD
   have e1:W.toList.isEmpty=false:=str_not_empty w0
   have e0:¬W.toList=[]:=by intro e;rw [e] at e1;simp at e1
   have HKK:=Lib.hid hk
   clear hW WD hk
   go_wp2_with fail
   refine (WDH.out _).mono ?_;rintro e w3 ⟨rfl,hb3⟩
   have B3:=below_step B2 (Nat.le_refl _) hb3
   have GO:=Lib.hid (row_later hb3 GO.out)
   clear hb3 o0 o1 o2 o3 o4 o5 oz
   have HO:=GO.out
   obtain ⟨oz,o0,o1,o2,o3,o4,o5⟩:=rk6 HO
   have HO':=Lib.hid HO
   clear HO
   clear HO'
   have HE2:=Lib.hid (show objOK ⟨id,kind,x,y,refs,tags⟩=false by rw [HE.out];simp)
   go_wp2
   go_ret
   exact ⟨ret_bool HE2.out.symm,B3⟩
  ·have z0:(y==0)=false:=by rw [beq_eq_false_iff_ne];exact hz
   by_cases hx:x=0
   ·subst hx
    go_wp2_with fail
    refine (rname_any id hid _).mono ?_;rintro e w' ⟨rfl,rfl⟩
    cases hnm:nameB id
    case false =>
     have HE2:=Lib.hid (show objOK ⟨id,kind,0,y,refs,tags⟩=false by rw [HE.out,hnm];rfl)
     clear hnm
     go_wp2
     go_ret
     exact ⟨ret_bool HE2.out.symm,B2⟩
    have HNM:=Lib.hid hnm
    clear hnm
    by_cases hk:1≤kind∧kind≤5
    case neg =>
     have HE2:=Lib.hid (show objOK ⟨id,kind,0,y,refs,tags⟩=false by rw [HE.out,decide_eq_false hk];simp)
     have WD:=Lib.hid (fun w=>by have:=rword2_any kind w;rw [wordK_out kind hk] at this;exact this)
     clear hk
     go_wp2_with fail
     refine (WD.out _).mono ?_;rintro e w3 ⟨rfl,hb3⟩
     have B3:=below_step B2 (Nat.le_refl _) hb3
     clear hb3 o0 o1 o2 o3 o4 o5
     go_wp2
     go_ret
     exact ⟨ret_bool HE2.out.symm,B3⟩
    obtain ⟨W,hW,w0,WD⟩:=word_in kind hk.1 hk.2
    have WDH:=Lib.hid WD
    have e1:W.toList.isEmpty=false:=str_not_empty w0
    have e0:¬W.toList=[]:=by intro e;rw [e] at e1;simp at e1
    have HKK:=Lib.hid hk
    clear hW WD hk
    go_wp2_with fail
    refine (WDH.out _).mono ?_;rintro e w3 ⟨rfl,hb3⟩
    have B3:=below_step B2 (Nat.le_refl _) hb3
    have GO:=Lib.hid (row_later hb3 GO.out)
    clear hb3 o0 o1 o2 o3 o4 o5 oz
    have HO:=GO.out
    obtain ⟨oz,o0,o1,o2,o3,o4,o5⟩:=rk6 HO
    have HO':=Lib.hid HO
    clear HO
    clear HO'
    have HE2:=Lib.hid (show objOK ⟨id,kind,0,y,refs,tags⟩=false by rw [HE.out];simp)
    go_wp2
    go_ret
    exact ⟨ret_bool HE2.out.symm,B3⟩
   ·have z1:(x==0)=false:=by rw [beq_eq_false_iff_ne];exact hx
    go_wp2_with fail
    refine (rname_any id hid _).mono ?_;rintro e w' ⟨rfl,rfl⟩
    cases hnm:nameB id
    case false =>
     have HE2:=Lib.hid (show objOK ⟨id,kind,x,y,refs,tags⟩=false by rw [HE.out,hnm];rfl)
     clear hnm
     go_wp2
     go_ret
     exact ⟨ret_bool HE2.out.symm,B2⟩
    have HNM:=Lib.hid hnm
    clear hnm
    by_cases hk:1≤kind∧kind≤5
    case neg =>
     have HE2:=Lib.hid (show objOK ⟨id,kind,x,y,refs,tags⟩=false by rw [HE.out,decide_eq_false hk];simp)
     have WD:=Lib.hid (fun w=>by have:=rword2_any kind w;rw [wordK_out kind hk] at this;exact this)
     clear hk
     go_wp2_with fail
     refine (WD.out _).mono ?_;rintro e w3 ⟨rfl,hb3⟩
     have B3:=below_step B2 (Nat.le_refl _) hb3
     clear hb3 o0 o1 o2 o3 o4 o5
     go_wp2
     go_ret
     exact ⟨ret_bool HE2.out.symm,B3⟩
    obtain ⟨W,hW,w0,WD⟩:=word_in kind hk.1 hk.2
    have WDH:=Lib.hid WD
    have e1:W.toList.isEmpty=false:=str_not_empty w0
    have e0:¬W.toList=[]:=by intro e;rw [e] at e1;simp at e1
    have HKK:=Lib.hid hk
    clear hW WD hk
    go_wp2_with fail
    refine (WDH.out _).mono ?_;rintro e w3 ⟨rfl,hb3⟩
    have B3:=below_step B2 (Nat.le_refl _) hb3
    have GO:=Lib.hid (row_later hb3 GO.out)
    clear hb3 o0 o1 o2 o3 o4 o5 oz
    have HO:=GO.out
    obtain ⟨oz,o0,o1,o2,o3,o4,o5⟩:=rk6 HO
    have HO':=Lib.hid HO
    clear HO
    clear HO'
    have HE2:=Lib.hid (show objOK ⟨id,kind,x,y,refs,tags⟩=false by rw [HE.out];simp)
    go_wp2
    go_ret
    exact ⟨ret_bool HE2.out.symm,B3⟩
end Go.Proofs.YtdfenhjibnfdeaaGreatDoor
