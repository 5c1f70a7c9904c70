/-  -/
import Derived.Test.YtdfenhjibnfdeaaGreatDoorQzBd
import Derived.Test.YtdfenhjibnfdeaaGreatDoorQzAn
namespace Go.Proofs.YtdfenhjibnfdeaaGreatDoor
open Go.RowKit Go.Shelf
set_option maxRecDepth 100000 in
set_option maxHeartbeats 8000000 in
theorem check_any (q:QryD) (a:Option Addr) (cap:Nat) (v:Value) (l:List ObjD) (w:World) (hc:CondIs w q.wher a) (hi:q.id.size≤140737488355328) (hkey:q.key.size≤140737488355328) (hp:q.prof.size≤140737488355328) (hv:ObjsIs w v l) :
  Calls Tryz.prog 28 #[.agg (qryC q a cap),.agg #[v]] w fun e w'=>e=.returned (.int .i64 (checkP 13 q l))∧Below w.heap.size w w':=by
 have b0:=(Below.refl w.heap.size w).alloc (Nat.le_refl _) (.cells (qryC q a cap) 28)
 have b1:=b0.alloc b0.size (.cells #[v] 62)
 have r0:=row_past (o':=.cells #[v] 62) (row_new w (.cells (qryC q a cap) 28))
 have r1:=row_new1 w (.cells (qryC q a cap) 28) (.cells #[v] 62)
 obtain ⟨w1,hw1⟩:∃w1,(w.alloc (.cells (qryC q a cap) 28)).alloc (.cells #[v] 62)=w1:=⟨_,rfl⟩
 rw [hw1] at b1 r0 r1
 have HW:=Lib.hid hw1
 have HB1:=Lib.hid r0
 have HD1:=Lib.hid r1
 have B1:=Lib.hid b1
 have VQ:=Lib.hid (fun W hb=>validQA_any q a cap W (hc.later hb) hi hkey hp)
 have VM:=Lib.hid (fun W (hb:Below w.heap.size w W)=>validM_any v l W (hv.later hb))
 have FN:=Lib.hid (fun W (hb:Below w.heap.size w W)=>findA_any v l q.id W (hv.later hb))
 obtain ⟨R,hR⟩:∃R,checkP 13 q l=R:=⟨_,rfl⟩
 rw [hR]
 have HR:=Lib.hid hR.symm
 obtain ⟨ta,tc,rfl,hn,hcell⟩:=hv
 obtain ⟨N,hN⟩:∃N,l.length=N:=⟨_,rfl⟩
 rw [hN] at hn hcell HD1 HW VM FN ⊢
 have HN:=Lib.hid hN
 have HC:=Lib.hid hcell
 clear hc hi hkey hp b0 b1 r0 r1 hw1 hR hN hcell
 go_enter Tryz.func28,Tryz.ntmps28
 go_wp2_with fail
 rw [HW.out]
 refine (VQ.out _ B1.out).mono ?_
 rintro e w2 ⟨rfl,hb⟩
 have HB2:=Lib.hid (row_later hb HB1.out)
 have HD2:=Lib.hid (row_later hb HD1.out)
 have B2:=Lib.hid (below_step B1.out (Nat.le_refl _) hb)
 clear hb HB1 HD1 B1
 clear HW VQ
 cases hvq:validQ q
 ·have HE:=Lib.hid (show R=1 by rw [HR.out];unfold checkP;rw [hvq,Bool.false_and,if_pos rfl])
  clear hvq
  go_wp2
  go_ret
  exact ⟨by rw [HE.out]<;>rfl,B2.out⟩
 obtain ⟨dz,d0⟩:=rk1 HD2.out
 go_wp2_with fail
 refine (VM.out _ B2.out).mono ?_
 rintro e w3 ⟨rfl,hb⟩
 have HB3:=Lib.hid (row_later hb HB2.out)
 have HD3:=Lib.hid (row_later hb HD2.out)
 have B3:=Lib.hid (below_step B2.out (Nat.le_refl _) hb)
 clear hb HB2 HD2 B2
 clear d0 dz
 clear VM
 cases hmv:mapOK l
 ·have HE:=Lib.hid (show R=1 by rw [HR.out];unfold checkP;rw [hmv,Bool.and_false,if_pos rfl])
  clear hvq hmv
  go_wp2
  go_ret
  exact ⟨by rw [HE.out]<;>rfl,B3.out⟩
 have hvm:(validQ q && mapOK l)=true:=by rw [hvq,hmv];rfl
 clear hvq hmv
 by_cases h2:q.ask=2
 ·have b2:(q.ask==2)=true:=by rw [beq_iff_eq];exact h2
  have htc:typeC q=false:=by simp [typeC,h2]
  have hnd:needC q=3:=by simp [needC,h2]
  clear h2
  have xz:=lt_of_block HB3.out
  have x0:=cell_of_row w3 _ 0 _ _ _ HB3.out
  have x1:=cell_of_row w3 _ 1 _ _ _ HB3.out
  have x2:=cell_of_row w3 _ 2 _ _ _ HB3.out
  have x3:=cell_of_row w3 _ 3 _ _ _ HB3.out
  have x4:=cell_of_row w3 _ 4 _ _ _ HB3.out
  have x5:=cell_of_row w3 _ 5 _ _ _ HB3.out
  have x6:=cell_of_row w3 _ 6 _ _ _ HB3.out
  have x7:=cell_of_row w3 _ 7 _ _ _ HB3.out
  have x8:=cell_of_row w3 _ 8 _ _ _ HB3.out
  have x9:=cell_of_row w3 _ 9 _ _ _ HB3.out
  have x10:=cell_of_row w3 _ 10 _ _ _ HB3.out
  have x11:=cell_of_row w3 _ 11 _ _ _ HB3.out
  have x12:=cell_of_row w3 _ 12 _ _ _ HB3.out
  have x13:=cell_of_row w3 _ 13 _ _ _ HB3.out
  simp only [List.getElem?_toArray,List.getElem?_cons_zero,List.getElem?_cons_succ] at x0 x1 x2 x3 x4 x5 x6 x7 x8 x9 x10 x11 x12 x13
  obtain ⟨dz,d0⟩:=rk1 HD3.out
  go_wp2_with fail
  refine (FN.out _ B3.out).mono ?_
  rintro e w4 ⟨rfl,hb⟩
  have HB4:=Lib.hid (row_later hb HB3.out)
  have HD4:=Lib.hid (row_later hb HD3.out)
  have B4:=Lib.hid (below_step B3.out (Nat.le_refl _) hb)
  clear hb HB3 HD3 B3
  clear x0 x1 x2 x3 x4 x5 x6 x7 x8 x9 x10 x11 x12 x13 xz
  clear d0 dz
  cases hp:posO q.id l with
  |none =>
   have HE:=Lib.hid (show R=11 by rw [HR.out];unfold checkP;rw [hvm,if_neg (by decide),htc,if_neg (by decide),if_neg (by rw [hnd];decide),hp])
   have hi:idxO q.id l=-1:=by unfold idxO;rw [hp]
   rw [hi]
   clear hp
   go_wp2
   go_ret
   exact ⟨by rw [HE.out]<;>rfl,B4.out⟩
  |some i =>
   obtain ⟨o,ho,-⟩:=posO_some q.id l i hp
   have hi:idxO q.id l=(i:Int):=by unfold idxO;rw [hp]
   rw [hi]
   have hil:i<N:=by rw [←HN.out];exact (List.getElem?_eq_some_iff.1 ho).1
   have di:decide ((i:Int)<0)=false:=decide_eq_false (by omega)
   obtain ⟨b,off,ha2,hcell⟩:=HC.out (by omega)
   subst ha2
   obtain ⟨vr,vt,c0,c1,-⟩:=(hcell i o ho).later B4.out
   have cz:=lt_of_cell c1
   have dN:decide ((i:Int)<N)=true:=decide_eq_true (by omega)
   by_cases hk:o.kind=3
   ·have HE:=Lib.hid (show R=0 by rw [HR.out];unfold checkP;rw [hvm,if_neg (by decide),htc,if_neg (by decide),if_neg (by rw [hnd];decide),hp];simp only [ho];rw [if_pos (hk.trans hnd.symm)])
    have ek:(o.kind==3)=true:=by rw [beq_iff_eq];exact hk
    have ek2:(o.kind != 3)=false:=by rw [bne_eq_false_iff_eq];exact hk
    clear hk hp ho hcell c0 hi
    obtain ⟨dz,d0⟩:=rk1 HD4.out
    go_wp2
    go_ret
    exact ⟨by rw [HE.out]<;>rfl,B4.out⟩
   ·have HE:=Lib.hid (show R=13 by rw [HR.out];unfold checkP;rw [hvm,if_neg (by decide),htc,if_neg (by decide),if_neg (by rw [hnd];decide),hp];simp only [ho];rw [if_neg (fun e=>hk (e.trans hnd))])
    have ek:(o.kind==3)=false:=by rw [beq_eq_false_iff_ne];exact hk
    have ek2:(o.kind != 3)=true:=by rw [bne_iff_ne];exact hk
    clear hk hp ho hcell c0 hi
    obtain ⟨dz,d0⟩:=rk1 HD4.out
    go_wp2
    go_ret
    exact ⟨by rw [HE.out]<;>rfl,B4.out⟩
 have b2:(q.ask==2)=false:=by rw [beq_eq_false_iff_ne];exact h2
 by_cases h3:q.ask=3
 ·have b3:(q.ask==3)=true:=by rw [beq_iff_eq];exact h3
  have hnd:needC q=2:=by simp [needC,h3]
  by_cases k45:q.kind=4∨q.kind=5
  ·have HE:=Lib.hid (show R=8 by rw [HR.out];unfold checkP;rw [hvm,if_neg (by decide),show typeC q=true by simp [typeC,h3,k45],if_pos rfl])
   rcases k45 with k4 | k5
   ·have e4:(q.kind==4)=true:=by rw [beq_iff_eq];exact k4
    clear h2 h3 k4
    have xz:=lt_of_block HB3.out
    have x0:=cell_of_row w3 _ 0 _ _ _ HB3.out
    have x1:=cell_of_row w3 _ 1 _ _ _ HB3.out
    have x2:=cell_of_row w3 _ 2 _ _ _ HB3.out
    have x3:=cell_of_row w3 _ 3 _ _ _ HB3.out
    have x4:=cell_of_row w3 _ 4 _ _ _ HB3.out
    have x5:=cell_of_row w3 _ 5 _ _ _ HB3.out
    have x6:=cell_of_row w3 _ 6 _ _ _ HB3.out
    have x7:=cell_of_row w3 _ 7 _ _ _ HB3.out
    have x8:=cell_of_row w3 _ 8 _ _ _ HB3.out
    have x9:=cell_of_row w3 _ 9 _ _ _ HB3.out
    have x10:=cell_of_row w3 _ 10 _ _ _ HB3.out
    have x11:=cell_of_row w3 _ 11 _ _ _ HB3.out
    have x12:=cell_of_row w3 _ 12 _ _ _ HB3.out
    have x13:=cell_of_row w3 _ 13 _ _ _ HB3.out
    simp only [List.getElem?_toArray,List.getElem?_cons_zero,List.getElem?_cons_succ] at x0 x1 x2 x3 x4 x5 x6 x7 x8 x9 x10 x11 x12 x13
    go_wp2
    go_ret
    exact ⟨by rw [HE.out]<;>rfl,B3.out⟩
   ·have e4:(q.kind==4)=false:=by rw [beq_eq_false_iff_ne];omega
    have e5:(q.kind==5)=true:=by rw [beq_iff_eq];exact k5
    clear h2 h3 k5
    have xz:=lt_of_block HB3.out
    have x0:=cell_of_row w3 _ 0 _ _ _ HB3.out
    have x1:=cell_of_row w3 _ 1 _ _ _ HB3.out
    have x2:=cell_of_row w3 _ 2 _ _ _ HB3.out
    have x3:=cell_of_row w3 _ 3 _ _ _ HB3.out
    have x4:=cell_of_row w3 _ 4 _ _ _ HB3.out
    have x5:=cell_of_row w3 _ 5 _ _ _ HB3.out
    have x6:=cell_of_row w3 _ 6 _ _ _ HB3.out
    have x7:=cell_of_row w3 _ 7 _ _ _ HB3.out
    have x8:=cell_of_row w3 _ 8 _ _ _ HB3.out
    have x9:=cell_of_row w3 _ 9 _ _ _ HB3.out
    have x10:=cell_of_row w3 _ 10 _ _ _ HB3.out
    have x11:=cell_of_row w3 _ 11 _ _ _ HB3.out
    have x12:=cell_of_row w3 _ 12 _ _ _ HB3.out
    have x13:=cell_of_row w3 _ 13 _ _ _ HB3.out
    simp only [List.getElem?_toArray,List.getElem?_cons_zero,List.getElem?_cons_succ] at x0 x1 x2 x3 x4 x5 x6 x7 x8 x9 x10 x11 x12 x13
    go_wp2
    go_ret
    exact ⟨by rw [HE.out]<;>rfl,B3.out⟩
  ·have htc:typeC q=false:=by simp [typeC,h3];omega
   have e4:(q.kind==4)=false:=by rw [beq_eq_false_iff_ne];omega
   have e5:(q.kind==5)=false:=by rw [beq_eq_false_iff_ne];omega
   clear h2 h3 k45
   have xz:=lt_of_block HB3.out
   have x0:=cell_of_row w3 _ 0 _ _ _ HB3.out
   have x1:=cell_of_row w3 _ 1 _ _ _ HB3.out
   have x2:=cell_of_row w3 _ 2 _ _ _ HB3.out
   have x3:=cell_of_row w3 _ 3 _ _ _ HB3.out
   have x4:=cell_of_row w3 _ 4 _ _ _ HB3.out
   have x5:=cell_of_row w3 _ 5 _ _ _ HB3.out
   have x6:=cell_of_row w3 _ 6 _ _ _ HB3.out
   have x7:=cell_of_row w3 _ 7 _ _ _ HB3.out
   have x8:=cell_of_row w3 _ 8 _ _ _ HB3.out
   have x9:=cell_of_row w3 _ 9 _ _ _ HB3.out
   have x10:=cell_of_row w3 _ 10 _ _ _ HB3.out
   have x11:=cell_of_row w3 _ 11 _ _ _ HB3.out
   have x12:=cell_of_row w3 _ 12 _ _ _ HB3.out
   have x13:=cell_of_row w3 _ 13 _ _ _ HB3.out
   simp only [List.getElem?_toArray,List.getElem?_cons_zero,List.getElem?_cons_succ] at x0 x1 x2 x3 x4 x5 x6 x7 x8 x9 x10 x11 x12 x13
   obtain ⟨dz,d0⟩:=rk1 HD3.out
   go_wp2_with fail
   refine (FN.out _ B3.out).mono ?_
   rintro e w4 ⟨rfl,hb⟩
   have HB4:=Lib.hid (row_later hb HB3.out)
   have HD4:=Lib.hid (row_later hb HD3.out)
   have B4:=Lib.hid (below_step B3.out (Nat.le_refl _) hb)
   clear hb HB3 HD3 B3
   clear x0 x1 x2 x3 x4 x5 x6 x7 x8 x9 x10 x11 x12 x13 xz
   clear d0 dz
   cases hp:posO q.id l with
   |none =>
    have HE:=Lib.hid (show R=11 by rw [HR.out];unfold checkP;rw [hvm,if_neg (by decide),htc,if_neg (by decide),if_neg (by rw [hnd];decide),hp])
    have hi:idxO q.id l=-1:=by unfold idxO;rw [hp]
    rw [hi]
    clear hp
    go_wp2
    go_ret
    exact ⟨by rw [HE.out]<;>rfl,B4.out⟩
   |some i =>
    obtain ⟨o,ho,-⟩:=posO_some q.id l i hp
    have hi:idxO q.id l=(i:Int):=by unfold idxO;rw [hp]
    rw [hi]
    have hil:i<N:=by rw [←HN.out];exact (List.getElem?_eq_some_iff.1 ho).1
    have di:decide ((i:Int)<0)=false:=decide_eq_false (by omega)
    obtain ⟨b,off,ha2,hcell⟩:=HC.out (by omega)
    subst ha2
    obtain ⟨vr,vt,c0,c1,-⟩:=(hcell i o ho).later B4.out
    have cz:=lt_of_cell c1
    have dN:decide ((i:Int)<N)=true:=decide_eq_true (by omega)
    by_cases hk:o.kind=2
    ·have HE:=Lib.hid (show R=0 by rw [HR.out];unfold checkP;rw [hvm,if_neg (by decide),htc,if_neg (by decide),if_neg (by rw [hnd];decide),hp];simp only [ho];rw [if_pos (hk.trans hnd.symm)])
     have ek:(o.kind==2)=true:=by rw [beq_iff_eq];exact hk
     have ek2:(o.kind != 2)=false:=by rw [bne_eq_false_iff_eq];exact hk
     clear hk hp ho hcell c0 hi
     obtain ⟨dz,d0⟩:=rk1 HD4.out
     go_wp2
     go_ret
     exact ⟨by rw [HE.out]<;>rfl,B4.out⟩
    ·have HE:=Lib.hid (show R=13 by rw [HR.out];unfold checkP;rw [hvm,if_neg (by decide),htc,if_neg (by decide),if_neg (by rw [hnd];decide),hp];simp only [ho];rw [if_neg (fun e=>hk (e.trans hnd))])
     have ek:(o.kind==2)=false:=by rw [beq_eq_false_iff_ne];exact hk
     have ek2:(o.kind != 2)=true:=by rw [bne_iff_ne];exact hk
     clear hk hp ho hcell c0 hi
     obtain ⟨dz,d0⟩:=rk1 HD4.out
     go_wp2
     go_ret
     exact ⟨by rw [HE.out]<;>rfl,B4.out⟩
 have b3:(q.ask==3)=false:=by rw [beq_eq_false_iff_ne];exact h3
 by_cases h4:q.ask=4
 ·have b4:(q.ask==4)=true:=by rw [beq_iff_eq];exact h4
  have hnd:needC q=0:=by simp [needC,h4]
  by_cases k45:q.kind=4∨q.kind=5
  ·have HE:=Lib.hid (show R=8 by rw [HR.out];unfold checkP;rw [hvm,if_neg (by decide),show typeC q=true by simp [typeC,h4,k45],if_pos rfl])
   rcases k45 with k4 | k5
   ·have e4:(q.kind==4)=true:=by rw [beq_iff_eq];exact k4
    clear h2 h3 h4 k4
    have xz:=lt_of_block HB3.out
    have x0:=cell_of_row w3 _ 0 _ _ _ HB3.out
    have x1:=cell_of_row w3 _ 1 _ _ _ HB3.out
    have x2:=cell_of_row w3 _ 2 _ _ _ HB3.out
    have x3:=cell_of_row w3 _ 3 _ _ _ HB3.out
    have x4:=cell_of_row w3 _ 4 _ _ _ HB3.out
    have x5:=cell_of_row w3 _ 5 _ _ _ HB3.out
    have x6:=cell_of_row w3 _ 6 _ _ _ HB3.out
    have x7:=cell_of_row w3 _ 7 _ _ _ HB3.out
    have x8:=cell_of_row w3 _ 8 _ _ _ HB3.out
    have x9:=cell_of_row w3 _ 9 _ _ _ HB3.out
    have x10:=cell_of_row w3 _ 10 _ _ _ HB3.out
    have x11:=cell_of_row w3 _ 11 _ _ _ HB3.out
    have x12:=cell_of_row w3 _ 12 _ _ _ HB3.out
    have x13:=cell_of_row w3 _ 13 _ _ _ HB3.out
    simp only [List.getElem?_toArray,List.getElem?_cons_zero,List.getElem?_cons_succ] at x0 x1 x2 x3 x4 x5 x6 x7 x8 x9 x10 x11 x12 x13
    go_wp2
    go_ret
    exact ⟨by rw [HE.out]<;>rfl,B3.out⟩
   ·have e4:(q.kind==4)=false:=by rw [beq_eq_false_iff_ne];omega
    have e5:(q.kind==5)=true:=by rw [beq_iff_eq];exact k5
    clear h2 h3 h4 k5
    have xz:=lt_of_block HB3.out
    have x0:=cell_of_row w3 _ 0 _ _ _ HB3.out
    have x1:=cell_of_row w3 _ 1 _ _ _ HB3.out
    have x2:=cell_of_row w3 _ 2 _ _ _ HB3.out
    have x3:=cell_of_row w3 _ 3 _ _ _ HB3.out
    have x4:=cell_of_row w3 _ 4 _ _ _ HB3.out
    have x5:=cell_of_row w3 _ 5 _ _ _ HB3.out
    have x6:=cell_of_row w3 _ 6 _ _ _ HB3.out
    have x7:=cell_of_row w3 _ 7 _ _ _ HB3.out
    have x8:=cell_of_row w3 _ 8 _ _ _ HB3.out
    have x9:=cell_of_row w3 _ 9 _ _ _ HB3.out
    have x10:=cell_of_row w3 _ 10 _ _ _ HB3.out
    have x11:=cell_of_row w3 _ 11 _ _ _ HB3.out
    have x12:=cell_of_row w3 _ 12 _ _ _ HB3.out
    have x13:=cell_of_row w3 _ 13 _ _ _ HB3.out
    simp only [List.getElem?_toArray,List.getElem?_cons_zero,List.getElem?_cons_succ] at x0 x1 x2 x3 x4 x5 x6 x7 x8 x9 x10 x11 x12 x13
    go_wp2
    go_ret
    exact ⟨by rw [HE.out]<;>rfl,B3.out⟩
  ·have htc:typeC q=false:=by simp [typeC,h4];omega
   have e4:(q.kind==4)=false:=by rw [beq_eq_false_iff_ne];omega
   have e5:(q.kind==5)=false:=by rw [beq_eq_false_iff_ne];omega
   have HE:=Lib.hid (show R=0 by rw [HR.out];unfold checkP;rw [hvm,if_neg (by decide),htc,if_neg (by decide),if_pos hnd])
   clear h2 h3 h4 k45
   have xz:=lt_of_block HB3.out
   have x0:=cell_of_row w3 _ 0 _ _ _ HB3.out
   have x1:=cell_of_row w3 _ 1 _ _ _ HB3.out
   have x2:=cell_of_row w3 _ 2 _ _ _ HB3.out
   have x3:=cell_of_row w3 _ 3 _ _ _ HB3.out
   have x4:=cell_of_row w3 _ 4 _ _ _ HB3.out
   have x5:=cell_of_row w3 _ 5 _ _ _ HB3.out
   have x6:=cell_of_row w3 _ 6 _ _ _ HB3.out
   have x7:=cell_of_row w3 _ 7 _ _ _ HB3.out
   have x8:=cell_of_row w3 _ 8 _ _ _ HB3.out
   have x9:=cell_of_row w3 _ 9 _ _ _ HB3.out
   have x10:=cell_of_row w3 _ 10 _ _ _ HB3.out
   have x11:=cell_of_row w3 _ 11 _ _ _ HB3.out
   have x12:=cell_of_row w3 _ 12 _ _ _ HB3.out
   have x13:=cell_of_row w3 _ 13 _ _ _ HB3.out
   simp only [List.getElem?_toArray,List.getElem?_cons_zero,List.getElem?_cons_succ] at x0 x1 x2 x3 x4 x5 x6 x7 x8 x9 x10 x11 x12 x13
   obtain ⟨dz,d0⟩:=rk1 HD3.out
   go_wp2_with fail
   refine (FN.out _ B3.out).mono ?_
   rintro e w4 ⟨rfl,hb⟩
   have HB4:=Lib.hid (row_later hb HB3.out)
   have HD4:=Lib.hid (row_later hb HD3.out)
   have B4:=Lib.hid (below_step B3.out (Nat.le_refl _) hb)
   clear hb HB3 HD3 B3
   clear x0 x1 x2 x3 x4 x5 x6 x7 x8 x9 x10 x11 x12 x13 xz
   clear d0 dz
   go_wp2
   go_ret
   exact ⟨by rw [HE.out]<;>rfl,B4.out⟩
 have b4:(q.ask==4)=false:=by rw [beq_eq_false_iff_ne];exact h4
 by_cases h5:q.ask=5
 ·have b5:(q.ask==5)=true:=by rw [beq_iff_eq];exact h5
  have hnd:needC q=1:=by simp [needC,h5]
  by_cases k0:q.kind=0
  ·have htc:typeC q=false:=by simp [typeC,h5,k0]
   have e0:(q.kind != 0)=false:=by rw [bne_eq_false_iff_eq];exact k0
   have e0':(q.kind==0)=true:=by rw [beq_iff_eq];exact k0
   clear h2 h3 h4 h5 k0
   have xz:=lt_of_block HB3.out
   have x0:=cell_of_row w3 _ 0 _ _ _ HB3.out
   have x1:=cell_of_row w3 _ 1 _ _ _ HB3.out
   have x2:=cell_of_row w3 _ 2 _ _ _ HB3.out
   have x3:=cell_of_row w3 _ 3 _ _ _ HB3.out
   have x4:=cell_of_row w3 _ 4 _ _ _ HB3.out
   have x5:=cell_of_row w3 _ 5 _ _ _ HB3.out
   have x6:=cell_of_row w3 _ 6 _ _ _ HB3.out
   have x7:=cell_of_row w3 _ 7 _ _ _ HB3.out
   have x8:=cell_of_row w3 _ 8 _ _ _ HB3.out
   have x9:=cell_of_row w3 _ 9 _ _ _ HB3.out
   have x10:=cell_of_row w3 _ 10 _ _ _ HB3.out
   have x11:=cell_of_row w3 _ 11 _ _ _ HB3.out
   have x12:=cell_of_row w3 _ 12 _ _ _ HB3.out
   have x13:=cell_of_row w3 _ 13 _ _ _ HB3.out
   simp only [List.getElem?_toArray,List.getElem?_cons_zero,List.getElem?_cons_succ] at x0 x1 x2 x3 x4 x5 x6 x7 x8 x9 x10 x11 x12 x13
   obtain ⟨dz,d0⟩:=rk1 HD3.out
   go_wp2_with fail
   refine (FN.out _ B3.out).mono ?_
   rintro e w4 ⟨rfl,hb⟩
   have HB4:=Lib.hid (row_later hb HB3.out)
   have HD4:=Lib.hid (row_later hb HD3.out)
   have B4:=Lib.hid (below_step B3.out (Nat.le_refl _) hb)
   clear hb HB3 HD3 B3
   clear x0 x1 x2 x3 x4 x5 x6 x7 x8 x9 x10 x11 x12 x13 xz
   clear d0 dz
   cases hp:posO q.id l with
   |none =>
    have HE:=Lib.hid (show R=11 by rw [HR.out];unfold checkP;rw [hvm,if_neg (by decide),htc,if_neg (by decide),if_neg (by rw [hnd];decide),hp])
    have hi:idxO q.id l=-1:=by unfold idxO;rw [hp]
    rw [hi]
    clear hp
    go_wp2
    go_ret
    exact ⟨by rw [HE.out]<;>rfl,B4.out⟩
   |some i =>
    obtain ⟨o,ho,-⟩:=posO_some q.id l i hp
    have hi:idxO q.id l=(i:Int):=by unfold idxO;rw [hp]
    rw [hi]
    have hil:i<N:=by rw [←HN.out];exact (List.getElem?_eq_some_iff.1 ho).1
    have di:decide ((i:Int)<0)=false:=decide_eq_false (by omega)
    obtain ⟨b,off,ha2,hcell⟩:=HC.out (by omega)
    subst ha2
    obtain ⟨vr,vt,c0,c1,-⟩:=(hcell i o ho).later B4.out
    have cz:=lt_of_cell c1
    have dN:decide ((i:Int)<N)=true:=decide_eq_true (by omega)
    by_cases hk:o.kind=1
    ·have HE:=Lib.hid (show R=0 by rw [HR.out];unfold checkP;rw [hvm,if_neg (by decide),htc,if_neg (by decide),if_neg (by rw [hnd];decide),hp];simp only [ho];rw [if_pos (hk.trans hnd.symm)])
     have ek:(o.kind==1)=true:=by rw [beq_iff_eq];exact hk
     have ek2:(o.kind != 1)=false:=by rw [bne_eq_false_iff_eq];exact hk
     clear hk hp ho hcell c0 hi
     obtain ⟨dz,d0⟩:=rk1 HD4.out
     go_wp2
     go_ret
     exact ⟨by rw [HE.out]<;>rfl,B4.out⟩
    ·have HE:=Lib.hid (show R=13 by rw [HR.out];unfold checkP;rw [hvm,if_neg (by decide),htc,if_neg (by decide),if_neg (by rw [hnd];decide),hp];simp only [ho];rw [if_neg (fun e=>hk (e.trans hnd))])
     have ek:(o.kind==1)=false:=by rw [beq_eq_false_iff_ne];exact hk
     have ek2:(o.kind != 1)=true:=by rw [bne_iff_ne];exact hk
     clear hk hp ho hcell c0 hi
     obtain ⟨dz,d0⟩:=rk1 HD4.out
     go_wp2
     go_ret
     exact ⟨by rw [HE.out]<;>rfl,B4.out⟩
  ·have e0:(q.kind != 0)=true:=by rw [bne_iff_ne];exact k0
   have e0':(q.kind==0)=false:=by rw [beq_eq_false_iff_ne];exact k0
   by_cases k1:q.kind=1
   ·have htc:typeC q=false:=by simp [typeC,h5,k1]
    have e1:(q.kind != 1)=false:=by rw [bne_eq_false_iff_eq];exact k1
    have e1':(q.kind==1)=true:=by rw [beq_iff_eq];exact k1
    clear h2 h3 h4 h5 k0 k1
    have xz:=lt_of_block HB3.out
    have x0:=cell_of_row w3 _ 0 _ _ _ HB3.out
    have x1:=cell_of_row w3 _ 1 _ _ _ HB3.out
    have x2:=cell_of_row w3 _ 2 _ _ _ HB3.out
    have x3:=cell_of_row w3 _ 3 _ _ _ HB3.out
    have x4:=cell_of_row w3 _ 4 _ _ _ HB3.out
    have x5:=cell_of_row w3 _ 5 _ _ _ HB3.out
    have x6:=cell_of_row w3 _ 6 _ _ _ HB3.out
    have x7:=cell_of_row w3 _ 7 _ _ _ HB3.out
    have x8:=cell_of_row w3 _ 8 _ _ _ HB3.out
    have x9:=cell_of_row w3 _ 9 _ _ _ HB3.out
    have x10:=cell_of_row w3 _ 10 _ _ _ HB3.out
    have x11:=cell_of_row w3 _ 11 _ _ _ HB3.out
    have x12:=cell_of_row w3 _ 12 _ _ _ HB3.out
    have x13:=cell_of_row w3 _ 13 _ _ _ HB3.out
    simp only [List.getElem?_toArray,List.getElem?_cons_zero,List.getElem?_cons_succ] at x0 x1 x2 x3 x4 x5 x6 x7 x8 x9 x10 x11 x12 x13
    obtain ⟨dz,d0⟩:=rk1 HD3.out
    go_wp2_with fail
    refine (FN.out _ B3.out).mono ?_
    rintro e w4 ⟨rfl,hb⟩
    have HB4:=Lib.hid (row_later hb HB3.out)
    have HD4:=Lib.hid (row_later hb HD3.out)
    have B4:=Lib.hid (below_step B3.out (Nat.le_refl _) hb)
    clear hb HB3 HD3 B3
    clear x0 x1 x2 x3 x4 x5 x6 x7 x8 x9 x10 x11 x12 x13 xz
    clear d0 dz
    cases hp:posO q.id l with
    |none =>
     have HE:=Lib.hid (show R=11 by rw [HR.out];unfold checkP;rw [hvm,if_neg (by decide),htc,if_neg (by decide),if_neg (by rw [hnd];decide),hp])
     have hi:idxO q.id l=-1:=by unfold idxO;rw [hp]
     rw [hi]
     clear hp
     go_wp2
     go_ret
     exact ⟨by rw [HE.out]<;>rfl,B4.out⟩
    |some i =>
     obtain ⟨o,ho,-⟩:=posO_some q.id l i hp
     have hi:idxO q.id l=(i:Int):=by unfold idxO;rw [hp]
     rw [hi]
     have hil:i<N:=by rw [←HN.out];exact (List.getElem?_eq_some_iff.1 ho).1
     have di:decide ((i:Int)<0)=false:=decide_eq_false (by omega)
     obtain ⟨b,off,ha2,hcell⟩:=HC.out (by omega)
     subst ha2
     obtain ⟨vr,vt,c0,c1,-⟩:=(hcell i o ho).later B4.out
     have cz:=lt_of_cell c1
     have dN:decide ((i:Int)<N)=true:=decide_eq_true (by omega)
     by_cases hk:o.kind=1
     ·have HE:=Lib.hid (show R=0 by rw [HR.out];unfold checkP;rw [hvm,if_neg (by decide),htc,if_neg (by decide),if_neg (by rw [hnd];decide),hp];simp only [ho];rw [if_pos (hk.trans hnd.symm)])
      have ek:(o.kind==1)=true:=by rw [beq_iff_eq];exact hk
      have ek2:(o.kind != 1)=false:=by rw [bne_eq_false_iff_eq];exact hk
      clear hk hp ho hcell c0 hi
      obtain ⟨dz,d0⟩:=rk1 HD4.out
      go_wp2
      go_ret
      exact ⟨by rw [HE.out]<;>rfl,B4.out⟩
     ·have HE:=Lib.hid (show R=13 by rw [HR.out];unfold checkP;rw [hvm,if_neg (by decide),htc,if_neg (by decide),if_neg (by rw [hnd];decide),hp];simp only [ho];rw [if_neg (fun e=>hk (e.trans hnd))])
      have ek:(o.kind==1)=false:=by rw [beq_eq_false_iff_ne];exact hk
      have ek2:(o.kind != 1)=true:=by rw [bne_iff_ne];exact hk
      clear hk hp ho hcell c0 hi
      obtain ⟨dz,d0⟩:=rk1 HD4.out
      go_wp2
      go_ret
      exact ⟨by rw [HE.out]<;>rfl,B4.out⟩
   ·have HE:=Lib.hid (show R=8 by rw [HR.out];unfold checkP;rw [hvm,if_neg (by decide),show typeC q=true by simp [typeC,h5,k0,k1],if_pos rfl])
    have e1:(q.kind != 1)=true:=by rw [bne_iff_ne];exact k1
    have e1':(q.kind==1)=false:=by rw [beq_eq_false_iff_ne];exact k1
    clear h2 h3 h4 h5 k0 k1
    have xz:=lt_of_block HB3.out
    have x0:=cell_of_row w3 _ 0 _ _ _ HB3.out
    have x1:=cell_of_row w3 _ 1 _ _ _ HB3.out
    have x2:=cell_of_row w3 _ 2 _ _ _ HB3.out
    have x3:=cell_of_row w3 _ 3 _ _ _ HB3.out
    have x4:=cell_of_row w3 _ 4 _ _ _ HB3.out
    have x5:=cell_of_row w3 _ 5 _ _ _ HB3.out
    have x6:=cell_of_row w3 _ 6 _ _ _ HB3.out
    have x7:=cell_of_row w3 _ 7 _ _ _ HB3.out
    have x8:=cell_of_row w3 _ 8 _ _ _ HB3.out
    have x9:=cell_of_row w3 _ 9 _ _ _ HB3.out
    have x10:=cell_of_row w3 _ 10 _ _ _ HB3.out
    have x11:=cell_of_row w3 _ 11 _ _ _ HB3.out
    have x12:=cell_of_row w3 _ 12 _ _ _ HB3.out
    have x13:=cell_of_row w3 _ 13 _ _ _ HB3.out
    simp only [List.getElem?_toArray,List.getElem?_cons_zero,List.getElem?_cons_succ] at x0 x1 x2 x3 x4 x5 x6 x7 x8 x9 x10 x11 x12 x13
    go_wp2
    go_ret
    exact ⟨by rw [HE.out]<;>rfl,B3.out⟩
 have b5:(q.ask==5)=false:=by rw [beq_eq_false_iff_ne];exact h5
 have HE:=Lib.hid (show R=0 by rw [HR.out];unfold checkP;rw [hvm,if_neg (by decide),show typeC q=false by simp [typeC,h3,h4,h5],if_neg (by decide),if_pos (show needC q=0 by simp [needC,h2,h3,h5])])
 clear h2 h3 h4 h5
 have xz:=lt_of_block HB3.out
 have x0:=cell_of_row w3 _ 0 _ _ _ HB3.out
 have x1:=cell_of_row w3 _ 1 _ _ _ HB3.out
 have x2:=cell_of_row w3 _ 2 _ _ _ HB3.out
 have x3:=cell_of_row w3 _ 3 _ _ _ HB3.out
 have x4:=cell_of_row w3 _ 4 _ _ _ HB3.out
 have x5:=cell_of_row w3 _ 5 _ _ _ HB3.out
 have x6:=cell_of_row w3 _ 6 _ _ _ HB3.out
 have x7:=cell_of_row w3 _ 7 _ _ _ HB3.out
 have x8:=cell_of_row w3 _ 8 _ _ _ HB3.out
 have x9:=cell_of_row w3 _ 9 _ _ _ HB3.out
 have x10:=cell_of_row w3 _ 10 _ _ _ HB3.out
 have x11:=cell_of_row w3 _ 11 _ _ _ HB3.out
 have x12:=cell_of_row w3 _ 12 _ _ _ HB3.out
 have x13:=cell_of_row w3 _ 13 _ _ _ HB3.out
 simp only [List.getElem?_toArray,List.getElem?_cons_zero,List.getElem?_cons_succ] at x0 x1 x2 x3 x4 x5 x6 x7 x8 x9 x10 x11 x12 x13
 obtain ⟨dz,d0⟩:=rk1 HD3.out
 go_wp2_with fail
 refine (FN.out _ B3.out).mono ?_
 rintro e w4 ⟨rfl,hb⟩
 have HB4:=Lib.hid (row_later hb HB3.out)
 have HD4:=Lib.hid (row_later hb HD3.out)
 have B4:=Lib.hid (below_step B3.out (Nat.le_refl _) hb)
 clear hb HB3 HD3 B3
 clear x0 x1 x2 x3 x4 x5 x6 x7 x8 x9 x10 x11 x12 x13 xz
 clear d0 dz
 go_wp2
 go_ret
 exact ⟨by rw [HE.out]<;>rfl,B4.out⟩
end Go.Proofs.YtdfenhjibnfdeaaGreatDoor
