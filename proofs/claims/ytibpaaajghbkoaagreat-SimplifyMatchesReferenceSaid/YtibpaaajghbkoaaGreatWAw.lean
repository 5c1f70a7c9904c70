/-  -/
import Derived.Test.YtibpaaajghbkoaaGreatWAv
import Derived.Deep.CutBlock
import Derived.Deep.CutRange
namespace Go.Proofs.YtibpaaajghbkoaaGreat
open Go.RowKit
def zaec (x y:Sg):Int :=
 if x.1=x.2 then (if !onQ y x.1 then 0 else if x.1=y.1∨x.1=y.2 then 1 else 2)
 else
  let low:=if 0<lexC y.1 x.1 then y.1 else x.1
  let high:=if lexC y.2 x.2<0 then y.2 else x.2
  if lexC low high=-1 then 5 else if lexC low high=0 then 1 else 0
theorem zapi (s t:Sg):zrr s t=if t.1=t.2 then zaec t s else zaec s t:=by unfold zrr zaec;by_cases h:t.1=t.2<;>simp [h]
set_option maxRecDepth 100000 in
set_option maxHeartbeats 4000000 in
theorem zadw (s t:Sg) (hs:zbd s=true) (ht:zbd t=true) (w:World) :
  Calls Tryz.prog 156 #[sgV s,sgV t] w fun e w'=>e=.returned (.int .i64 (zrr s t))∧Below w.heap.size w w':=by
 have mixed:Tryz.prog.follows .mixedOrders=true:=by kernel_rfl
 have hs1:zat s.1=true:=by unfold zbd at hs;rw [Bool.and_eq_true] at hs;exact hs.1
 have ht1:zat t.1=true:=by unfold zbd at ht;rw [Bool.and_eq_true] at ht;exact ht.1
 have O1:=zH (fun w=>zagz s t.1 hs ht1 w);have O2:=zH (fun w=>zagz t s.1 ht hs1 w);have CC:=zH (fun p q w=>zkx p q w);have HLQ:=zH (zapi s t);clear hs ht hs1 ht1;obtain ⟨⟨ax,ay⟩,⟨bx,by1⟩⟩:=s;obtain ⟨⟨cx,cy⟩,⟨dx,dy⟩⟩:=t;have eqg:=eg37;have eq0:=zdc (cx,cy) (dx,dy);obtain ⟨d0,hd0⟩:∃z,z=decide (((cx,cy):Pt)=(dx,dy)):=⟨_,rfl⟩;rw [←hd0] at eq0;have HD0:=zH hd0;clear hd0;simp only [] at O1 O2 eq0 HLQ ⊢;generalize zrr ((ax,ay),(bx,by1)) ((cx,cy),(dx,dy))=lq at HLQ ⊢;go_enter Tryz.func156,Tryz.ntmps156;have H1:=zH (zao (o':=.cells #[.int .i64 cx,.int .i64 cy,.int .i64 dx,.int .i64 dy] 48) (zan w (.cells #[.int .i64 ax,.int .i64 ay,.int .i64 bx,.int .i64 by1] 48)));have H2:=zH (zfj w (.cells #[.int .i64 ax,.int .i64 ay,.int .i64 bx,.int .i64 by1] 48) (.cells #[.int .i64 cx,.int .i64 cy,.int .i64 dx,.int .i64 dy] 48));have B2:Below w.heap.size w ((w.alloc (.cells #[.int .i64 ax,.int .i64 ay,.int .i64 bx,.int .i64 by1] 48)).alloc (.cells #[.int .i64 cx,.int .i64 cy,.int .i64 dx,.int .i64 dy] 48)):=(by repeat' (first | exact Below.refl _ _ | refine Below.drew ?_ | refine Below.drewN' ?_ | refine Below.setCell ?_ (by first | omega | (simp;done) | exact Below.size (by assumption) | (simp;omega)) _ | refine Below.alloc ?_ (by first | omega | (simp;done) | exact Below.size (by assumption) | (simp;omega)) _ | refine Below.trans ?_ (Below.mono (by assumption) ?_) | (first | omega | (simp;done) | exact Below.size (by assumption) | (simp;omega))));cases d0
 case' true =>
  have hx:=of_decide_eq_true HD0.out.symm;have HLB:=zH (show lq=zaec ((cx,cy),(dx,dy)) ((ax,ay),(bx,by1)) by rw [HLQ.out,if_pos hx]);clear hx HLQ;go_upto_region 3 with fail;clear H1 H2 B2;generalize hw3:(w.alloc _).alloc _=w3;have H1:=zH (gA21 hw3);have H2:=zH (gA22 hw3);have B3:=gB2 hw3;have hzz:w.heap.size+2≤w3.heap.size:=by rw [←hw3];simp
  clear hw3 eq0;have OX:=O1;clear O1 O2;obtain ⟨p1,rfl⟩:∃z,z=cx:=⟨_,rfl⟩;obtain ⟨p2,rfl⟩:∃z,z=cy:=⟨_,rfl⟩;obtain ⟨p3,rfl⟩:∃z,z=dx:=⟨_,rfl⟩;obtain ⟨p4,rfl⟩:∃z,z=dy:=⟨_,rfl⟩;obtain ⟨q1,rfl⟩:∃z,z=ax:=⟨_,rfl⟩;obtain ⟨q2,rfl⟩:∃z,z=ay:=⟨_,rfl⟩;obtain ⟨q3,rfl⟩:∃z,z=bx:=⟨_,rfl⟩;obtain ⟨q4,rfl⟩:∃z,z=by1:=⟨_,rfl⟩
 case' false =>
  have hx:=of_decide_eq_false HD0.out.symm;have HLB:=zH (show lq=zaec ((ax,ay),(bx,by1)) ((cx,cy),(dx,dy)) by rw [HLQ.out,if_neg hx]);clear hx HLQ;go_upto_region 3 with fail;generalize hw3:(w.alloc _).alloc _=w3;rw [hw3] at H1 H2 B2;have hzz:w.heap.size+2≤w3.heap.size:=by rw [←hw3];simp
  clear hw3;have B3:=B2;clear B2;have OX:=O2;clear O1 O2;obtain ⟨p1,rfl⟩:∃z,z=ax:=⟨_,rfl⟩;obtain ⟨p2,rfl⟩:∃z,z=ay:=⟨_,rfl⟩;obtain ⟨p3,rfl⟩:∃z,z=bx:=⟨_,rfl⟩;obtain ⟨p4,rfl⟩:∃z,z=by1:=⟨_,rfl⟩;obtain ⟨q1,rfl⟩:∃z,z=cx:=⟨_,rfl⟩;obtain ⟨q2,rfl⟩:∃z,z=cy:=⟨_,rfl⟩;obtain ⟨q3,rfl⟩:∃z,z=dx:=⟨_,rfl⟩;obtain ⟨q4,rfl⟩:∃z,z=dy:=⟨_,rfl⟩
 all_goals
  have HR:=HLB.out;clear HLB;unfold zaec at HR;simp only [] at HR;obtain ⟨d1,hd1⟩:∃z,z=decide (((p1,p2):Pt)=(p3,p4)):=⟨_,rfl⟩;have eq1:=zdc (p1,p2) (p3,p4);rw [←hd1] at eq1;simp only [] at eq1;have HD1:=zH hd1;have HR:=zH HR;clear hd1;obtain ⟨az,a0,a1,a2,a3⟩:=rk4 H1.out;obtain ⟨bz,b0,b1,b2,b3⟩:=rk4 H2.out;cases d1 with
  |true =>
   have HR2:=zH (HR.out.trans (if_pos (of_decide_eq_true HD1.out.symm)));go_wp2_with fail;refine (OX.out _).mono ?_;rintro e w4 ⟨rfl,hb⟩;have B4:=zac B3 zR hb;replace H1:=zH (zab hb H1.out);replace H2:=zH (zab hb H2.out);clear a0 a1 a2 a3 az;clear b0 b1 b2 b3 bz;clear hb B3 HR;obtain ⟨ob,hob⟩:∃z,z=onQ ((q1,q2),(q3,q4)) (p1,p2):=⟨_,rfl⟩;have HR3:=HR2.out;rw [←hob] at HR3 ⊢;clear hob HR2;cases ob with
   |false =>have HE:=zH (show lq=0 from HR3);clear HR3;go_wp2;go_ret;exact ⟨by rw [HE.out]<;>rfl,B4⟩
   |true =>
    obtain ⟨d2,hd2⟩:∃z,z=decide (((p1,p2):Pt)=(q1,q2)):=⟨_,rfl⟩;obtain ⟨d3,hd3⟩:∃z,z=decide (((p1,p2):Pt)=(q3,q4)):=⟨_,rfl⟩;have eq2:=zdc (p1,p2) (q1,q2);have eq3:=zdc (p1,p2) (q3,q4);rw [←hd2] at eq2;rw [←hd3] at eq3;simp only [] at eq2 eq3;have HR4:=zH (show lq=if d2 || d3 then 1 else 2 by rw [HR3,hd2,hd3];simp);clear hd2 hd3 HR3;obtain ⟨az,a0,a1,a2,a3⟩:=rk4 H1.out;obtain ⟨bz,b0,b1,b2,b3⟩:=rk4 H2.out;cases d2 with
    |true =>have HE:=zH (show lq=1 from HR4.out);go_wp2;go_ret;exact ⟨by rw [HE.out]<;>rfl,B4⟩
    |false =>
     cases d3 with
     |true =>have HE:=zH (show lq=1 from HR4.out);go_wp2;go_ret;exact ⟨by rw [HE.out]<;>rfl,B4⟩
     |false =>have HE:=zH (show lq=2 from HR4.out);go_wp2;go_ret;exact ⟨by rw [HE.out]<;>rfl,B4⟩
  |false =>
   have HR2:=zH (HR.out.trans (if_neg (of_decide_eq_false HD1.out.symm)));clear HR;go_upto_region 9 with fail;go_cut [5,6] from 38 to 41 (fun v5 v6 wx=>∃g h:Nat,v5=.pointer (some ⟨g,0,none⟩)∧v6=.pointer (some ⟨h,0,none⟩)∧w3.heap.size≤g∧w3.heap.size≤h∧g≠h∧wx.heap[g]?=some (.cells #[.int .i64 p1,.int .i64 p2] 33)∧wx.heap[h]?=some (.cells #[.int .i64 p3,.int .i64 p4] 33)∧Below w3.heap.size w3 wx)
   case first =>
    go_region;all_goals (
     go_wp2
     go_meet
     case rel=>first
      |exact ⟨_,_,rfl,rfl,Nat.le_refl _,by omega,by omega,zao (zan w3 (.cells #[.int .i64 p1,.int .i64 p2] 33)),zfj w3 (.cells #[.int .i64 p1,.int .i64 p2] 33) (.cells #[.int .i64 p3,.int .i64 p4] 33),(by repeat' (first | exact Below.refl _ _ | refine Below.drew ?_ | refine Below.drewN' ?_ | refine Below.setCell ?_ (by first | omega | (simp;done) | exact Below.size (by assumption) | (simp;omega)) _ | refine Below.alloc ?_ (by first | omega | (simp;done) | exact Below.size (by assumption) | (simp;omega)) _ | refine Below.trans ?_ (Below.mono (by assumption) ?_) | (first | omega | (simp;done) | exact Below.size (by assumption) | (simp;omega))))⟩
      |exact ⟨_,_,rfl,rfl,by omega,Nat.le_refl _,by omega,zfj w3 (.cells #[.int .i64 p3,.int .i64 p4] 33) (.cells #[.int .i64 p1,.int .i64 p2] 33),zao (zan w3 (.cells #[.int .i64 p3,.int .i64 p4] 33)),(by repeat' (first | exact Below.refl _ _ | refine Below.drew ?_ | refine Below.drewN' ?_ | refine Below.setCell ?_ (by first | omega | (simp;done) | exact Below.size (by assumption) | (simp;omega)) _ | refine Below.alloc ?_ (by first | omega | (simp;done) | exact Below.size (by assumption) | (simp;omega)) _ | refine Below.trans ?_ (Below.mono (by assumption) ?_) | (first | omega | (simp;done) | exact Below.size (by assumption) | (simp;omega))))⟩)
   case rest =>
    obtain ⟨g,h,rfl,rfl,hg,hh,hne,HG,HH,hbc⟩:=hcut;have HG:=zH HG;have HH:=zH HH;have BC:=zac B3 zR hbc;have hz3:=B3.size;have hne':h≠g:=fun e=>hne e.symm;clear a0 a1 a2 a3 az;clear b0 b1 b2 b3 bz;replace H1:=zH (zab hbc H1.out);replace H2:=zH (zab hbc H2.out);clear hbc B3;obtain ⟨bz,b0,b1,b2,b3⟩:=rk4 H2.out;obtain ⟨gz,g0,g1⟩:=rk2 HG.out;have gf0:=frozen_of_row wc _ 0 _ _ HG.out;have gf1:=frozen_of_row wc _ 1 _ _ HG.out;go_wp2_with fail;refine (CC.out (q1,q2) (p1,p2) _).mono ?_;rintro e w5 ⟨rfl,hb⟩;have B5:=zac BC zR hb;replace H1:=zH (zab hb H1.out);replace H2:=zH (zab hb H2.out);replace HG:=zH (zab hb HG.out);replace HH:=zH (zab hb HH.out);clear b0 b1 b2 b3 bz;clear g0 g1 gz gf0 gf1;clear hb BC;obtain ⟨c1,hc1⟩:∃z,z=lexC (q1,q2) (p1,p2):=⟨_,rfl⟩;have HR3:=HR2.out;rw [←hc1] at HR3 ⊢;clear hc1 HR2;by_cases e1:0<c1
    case' pos =>
     have e1d:decide (0<c1)=true:=decide_eq_true e1;rw [if_pos e1] at HR3;have HR3:=zH HR3;clear e1;obtain ⟨bz,b0,b1,b2,b3⟩:=rk4 H2.out;obtain ⟨gz,g0,g1⟩:=rk2 HG.out;have gf0:=frozen_of_row w5 _ 0 _ _ HG.out;have gf1:=frozen_of_row w5 _ 1 _ _ HG.out;go_upto_region 12 with fail;have GA:=zbl (i:=1) (v:=.int .i64 q2) (zbl (i:=0) (v:=.int .i64 q1) HG.out);simp only [List.setIfInBounds_toArray,List.set_cons_zero,List.set_cons_succ] at GA;have GB:=zai (a:=⟨g,1,none⟩) (v:=.int .i64 q2) (zai (a:=⟨g,0,none⟩) (v:=.int .i64 q1) HH.out (by simp only;omega)) (by simp only;omega);have GC:=zai (a:=⟨g,1,none⟩) (v:=.int .i64 q2) (zai (a:=⟨g,0,none⟩) (v:=.int .i64 q1) H2.out (by simp only;omega)) (by simp only;omega);have BM:=(B5.setCell (p:=⟨g,0,none⟩) (by simp only;omega) (.int .i64 q1)).setCell (p:=⟨g,1,none⟩) (by simp only;omega) (.int .i64 q2);generalize hw6:(w5.setCell ⟨g,0,none⟩ (.int .i64 q1)).setCell ⟨g,1,none⟩ (.int .i64 q2)=w6;rw [hw6] at GA GB GC BM;clear b0 b1 b2 b3 bz;clear g0 g1 gz gf0 gf1;clear hw6 H1 H2 HG HH B5;have HG:=zH GA;have HH:=zH GB;have H2:=zH GC;clear GA GB GC;obtain ⟨l1,hl1⟩:∃z,z=q1:=⟨_,rfl⟩;obtain ⟨l2,hl2⟩:∃z,z=q2:=⟨_,rfl⟩;have HG:=HG.out;have HR3:=HR3.out;rw [←hl1,←hl2] at HG HR3;have HG:=zH HG;have HR3:=zH HR3;obtain ⟨wm,rfl⟩:∃z:World,z=w6:=⟨_,rfl⟩;clear hl1 hl2
    case' neg =>
     have e1d:decide (0<c1)=false:=decide_eq_false e1;rw [if_neg e1] at HR3;have HR3:=zH HR3;have BM:=B5;clear e1 B5;obtain ⟨l1,hl1⟩:∃z,z=p1:=⟨_,rfl⟩;obtain ⟨l2,hl2⟩:∃z,z=p2:=⟨_,rfl⟩;have HG:=HG.out;have HR3:=HR3.out;rw [←hl1,←hl2] at HG HR3;have HG:=zH HG;have HR3:=zH HR3;obtain ⟨wm,rfl⟩:∃z:World,z=w5:=⟨_,rfl⟩;clear hl1 hl2
    all_goals
     obtain ⟨bz,b0,b1,b2,b3⟩:=rk4 H2.out;obtain ⟨hz,h0,h1⟩:=rk2 HH.out;have hf0:=frozen_of_row wm _ 0 _ _ HH.out;have hf1:=frozen_of_row wm _ 1 _ _ HH.out;go_wp2_with fail;refine (CC.out (q3,q4) (p3,p4) _).mono ?_;rintro e w7 ⟨rfl,hb⟩;have B7:=zac BM zR hb;replace H2:=zH (zab hb H2.out);replace HG:=zH (zab hb HG.out);replace HH:=zH (zab hb HH.out);clear b0 b1 b2 b3 bz;clear h0 h1 hz hf0 hf1;clear hb BM;obtain ⟨c2,hc2⟩:∃z,z=lexC (q3,q4) (p3,p4):=⟨_,rfl⟩;have HR4:=HR3.out;rw [←hc2] at HR4 ⊢;clear hc2 HR3;by_cases e2:c2<0
     case' pos =>
      have e2d:decide (c2<0)=true:=decide_eq_true e2;have HR5:=zH (show lq=if lexC (l1,l2) (q3,q4)=-1 then 5 else if lexC (l1,l2) (q3,q4)=0 then 1 else 0 by rw [HR4,if_pos e2]);clear e2 HR4;obtain ⟨bz,b0,b1,b2,b3⟩:=rk4 H2.out;obtain ⟨hz,h0,h1⟩:=rk2 HH.out;have hf0:=frozen_of_row w7 _ 0 _ _ HH.out;have hf1:=frozen_of_row w7 _ 1 _ _ HH.out;go_upto_region 14 with fail;have GA:=zbl (i:=1) (v:=.int .i64 q4) (zbl (i:=0) (v:=.int .i64 q3) HH.out);simp only [List.setIfInBounds_toArray,List.set_cons_zero,List.set_cons_succ] at GA;have GB:=zai (a:=⟨h,1,none⟩) (v:=.int .i64 q4) (zai (a:=⟨h,0,none⟩) (v:=.int .i64 q3) HG.out (by simp only;omega)) (by simp only;omega);have B8:=(B7.setCell (p:=⟨h,0,none⟩) (by simp only;omega) (.int .i64 q3)).setCell (p:=⟨h,1,none⟩) (by simp only;omega) (.int .i64 q4);generalize hw8:(w7.setCell ⟨h,0,none⟩ (.int .i64 q3)).setCell ⟨h,1,none⟩ (.int .i64 q4)=w8;rw [hw8] at GA GB B8;clear hw8 HG HH;clear b0 b1 b2 b3 bz;clear h0 h1 hz hf0 hf1;have HG:=zH GB;have HH:=zH GA;clear GA GB;obtain ⟨u1,hh1⟩:∃z,z=q3:=⟨_,rfl⟩;obtain ⟨u2,hh2⟩:∃z,z=q4:=⟨_,rfl⟩;have HH:=HH.out;have HR5:=HR5.out;rw [←hh1,←hh2] at HH HR5;have HH:=zH HH;have HR5:=zH HR5;have BL:=B8;obtain ⟨wf,rfl⟩:∃z:World,z=w8:=⟨_,rfl⟩;clear hh1 hh2
     case' neg =>
      have e2d:decide (c2<0)=false:=decide_eq_false e2;have HR5:=zH (show lq=if lexC (l1,l2) (p3,p4)=-1 then 5 else if lexC (l1,l2) (p3,p4)=0 then 1 else 0 by rw [HR4,if_neg e2]);clear e2 HR4;obtain ⟨u1,hh1⟩:∃z,z=p3:=⟨_,rfl⟩;obtain ⟨u2,hh2⟩:∃z,z=p4:=⟨_,rfl⟩;have HH:=HH.out;have HR5:=HR5.out;rw [←hh1,←hh2] at HH HR5;have HH:=zH HH;have HR5:=zH HR5;have BL:=B7;obtain ⟨wf,rfl⟩:∃z:World,z=w7:=⟨_,rfl⟩;clear hh1 hh2
     all_goals
      obtain ⟨gz,g0,g1⟩:=rk2 HG.out;obtain ⟨hz,h0,h1⟩:=rk2 HH.out;go_wp2_with fail;refine (CC.out (l1,l2) (u1,u2) _).mono ?_;rintro e w9 ⟨rfl,hb⟩;have B9:=zac BL zR hb;obtain ⟨c3,hc3⟩:∃z,z=lexC (l1,l2) (u1,u2):=⟨_,rfl⟩;have HR6:=HR5.out;rw [←hc3] at HR6 ⊢;clear hc3 HR5 hb;by_cases e1:c3=-1
      ·have e1d:(c3==-1)=true:=(by rw [beq_iff_eq];exact e1);have HE:=zH (show lq=5 by rw [HR6,if_pos e1]);clear e1 HR6;go_wp2;go_ret;exact ⟨by rw [HE.out]<;>rfl,B9⟩
      ·have e1d:(c3==-1)=false:=(by rw [beq_eq_false_iff_ne];exact e1);by_cases e2:c3=0
       ·have e2d:(c3==0)=true:=(by rw [beq_iff_eq];exact e2);have HE:=zH (show lq=1 by rw [HR6,if_neg e1,if_pos e2]);clear e1 e2 HR6;go_wp2;go_ret;exact ⟨by rw [HE.out]<;>rfl,B9⟩
       ·have e2d:(c3==0)=false:=(by rw [beq_eq_false_iff_ne];exact e2);have HE:=zH (show lq=0 by rw [HR6,if_neg e1,if_neg e2]);clear e1 e2 HR6;go_wp2;go_ret;exact ⟨by rw [HE.out]<;>rfl,B9⟩
end Go.Proofs.YtibpaaajghbkoaaGreat
