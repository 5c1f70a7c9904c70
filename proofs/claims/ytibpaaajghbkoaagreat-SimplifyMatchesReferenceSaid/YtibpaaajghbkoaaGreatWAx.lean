/-   -/
import Derived.Test.YtibpaaajghbkoaaGreatWAw
import Derived.Test.YtibpaaajghbkoaaGreatWAv
import Derived.Test.YtibpaaajghbkoaaGreatWAo
import Derived.Test.YtibpaaajghbkoaaGreatWAt
import Derived.Test.YtibpaaajghbkoaaGreatWAq
namespace Go.Proofs.YtibpaaajghbkoaaGreat
open Go.RowKit
def zabq (s t:Sg):Int :=
 if s=t then 4
 else if s.1=s.2∨t.1=t.2∨(crs s.1 s.2 t.1=0∧crs s.1 s.2 t.2=0) then zrr s t
 else
  let a:=sgn (crs s.1 s.2 t.1)
  let b:=sgn (crs s.1 s.2 t.2)
  let c:=sgn (crs t.1 t.2 s.1)
  let d:=sgn (crs t.1 t.2 s.2)
  if 0<a * b∨0<c * d then 0 else if a * b<0∧c * d<0 then 3 else if a * b=0∧c * d=0 then 1 else 2
theorem zzd (d1 d2 d3:Bool) (s t:Sg) (h1:d1=decide (s=t)) (h2:d2=decide (s.1=s.2)) (h3:d3=decide (t.1=t.2)):zabq s t =
  if d1=true then 4 else if d2=true∨d3=true∨(sgn (crs s.1 s.2 t.1)=0∧sgn (crs s.1 s.2 t.2)=0) then zrr s t
  else if 0<sgn (crs s.1 s.2 t.1) * sgn (crs s.1 s.2 t.2)∨0<sgn (crs t.1 t.2 s.1) * sgn (crs t.1 t.2 s.2) then 0
  else if sgn (crs s.1 s.2 t.1) * sgn (crs s.1 s.2 t.2)<0∧sgn (crs t.1 t.2 s.1) * sgn (crs t.1 t.2 s.2)<0 then 3
  else if sgn (crs s.1 s.2 t.1) * sgn (crs s.1 s.2 t.2)=0∧sgn (crs t.1 t.2 s.1) * sgn (crs t.1 t.2 s.2)=0 then 1 else 2:=by
 subst h1 h2 h3;unfold zabq;simp only [decide_eq_true_eq,zij]
theorem zpv (n:Int):-1≤sgn n∧sgn n≤1:=by unfold sgn;split<;>(try split)<;>omega
def Seg2 (w2:World) (g h:Nat) (ax ay bx by1 cx cy dx dy:Int) (w':World):Prop :=
 w'.cell? ⟨g,0,none⟩=some (.int .i64 ax)∧w'.cell? ⟨g,1,none⟩=some (.int .i64 ay)∧w'.cell? ⟨g,2,none⟩=some (.int .i64 bx)∧w'.cell? ⟨g,3,none⟩=some (.int .i64 by1) ∧
 w'.cell? ⟨h,0,none⟩=some (.int .i64 cx)∧w'.cell? ⟨h,1,none⟩=some (.int .i64 cy)∧w'.cell? ⟨h,2,none⟩=some (.int .i64 dx)∧w'.cell? ⟨h,3,none⟩=some (.int .i64 dy) ∧
 w'.frozen? ⟨g,0,none⟩=false∧w'.frozen? ⟨g,1,none⟩=false∧w'.frozen? ⟨g,2,none⟩=false∧w'.frozen? ⟨g,3,none⟩=false ∧
 w'.frozen? ⟨h,0,none⟩=false∧w'.frozen? ⟨h,1,none⟩=false∧w'.frozen? ⟨h,2,none⟩=false∧w'.frozen? ⟨h,3,none⟩=false∧Below w2.heap.size w2 w'
theorem zadc {w:World} {g h:Nat} {ax ay bx by1 cx cy dx dy:Int} (a0:w.cell? ⟨g,0,none⟩=some (.int .i64 ax)) (a1:w.cell? ⟨g,1,none⟩=some (.int .i64 ay)) (a2:w.cell? ⟨g,2,none⟩=some (.int .i64 bx)) (a3:w.cell? ⟨g,3,none⟩=some (.int .i64 by1))
  (b0:w.cell? ⟨h,0,none⟩=some (.int .i64 cx)) (b1:w.cell? ⟨h,1,none⟩=some (.int .i64 cy)) (b2:w.cell? ⟨h,2,none⟩=some (.int .i64 dx)) (b3:w.cell? ⟨h,3,none⟩=some (.int .i64 dy))
  (f0:w.frozen? ⟨g,0,none⟩=false) (f1:w.frozen? ⟨g,1,none⟩=false) (f2:w.frozen? ⟨g,2,none⟩=false) (f3:w.frozen? ⟨g,3,none⟩=false)
  (e0:w.frozen? ⟨h,0,none⟩=false) (e1:w.frozen? ⟨h,1,none⟩=false) (e2:w.frozen? ⟨h,2,none⟩=false) (e3:w.frozen? ⟨h,3,none⟩=false):Seg2 w g h ax ay bx by1 cx cy dx dy w.drew :=
 ⟨a0,a1,a2,a3,b0,b1,b2,b3,f0,f1,f2,f3,e0,e1,e2,e3,(Below.refl _ _).drew⟩
theorem zdw {w w':World} (hb:Below w.heap.size w w') {b o:Nat} {v:Value} (h:w.cell? ⟨b,o,none⟩=some v) (hf:w.frozen? ⟨b,o,none⟩=false):w'.frozen? ⟨b,o,none⟩=false:=(hb.frozen (p:=⟨b,o,none⟩) (zag h)).trans hf
theorem zadd {w2 w:World} {g h:Nat} {ax ay bx by1 cx cy dx dy:Int} (hs:Seg2 w2 g h ax ay bx by1 cx cy dx dy w):Below w2.heap.size w2 w:=by obtain ⟨a0,a1,a2,a3,b0,b1,b2,b3,f0,f1,f2,f3,e0,e1,e2,e3,h1⟩:=hs;exact h1
theorem zsa {w2 w w':World} {g h:Nat} {ax ay bx by1 cx cy dx dy:Int} (hs:Seg2 w2 g h ax ay bx by1 cx cy dx dy w) (hb:Below w.heap.size w w'):Seg2 w2 g h ax ay bx by1 cx cy dx dy w':=by
 obtain ⟨a0,a1,a2,a3,b0,b1,b2,b3,f0,f1,f2,f3,e0,e1,e2,e3,h1⟩:=hs;exact ⟨cell_later hb a0,cell_later hb a1,cell_later hb a2,cell_later hb a3,cell_later hb b0,cell_later hb b1,cell_later hb b2,cell_later hb b3,zdw hb a0 f0,zdw hb a1 f1,zdw hb a2 f2,zdw hb a3 f3,
  zdw hb b0 e0,zdw hb b1 e1,zdw hb b2 e2,zdw hb b3 e3,zac h1 zR hb⟩
set_option maxRecDepth 100000 in
set_option maxHeartbeats 8000000 in
theorem zaej (s t:Sg) (w:World) :
  Calls Tryz.prog 107 #[sgV s,sgV t] w fun e w'=>e=.returned (.int .i64 (zdo s t))∧Below w.heap.size w w':=by
 have mixed:Tryz.prog.follows .mixedOrders=true:=by kernel_rfl
 have NR:=zH (fun (v:Value) w' hv=>by
  have:=ztu v [s.1,s.2,t.1,t.2] w' (by simp) hv
  rw [show [s.1,s.2,t.1,t.2].all zat=(zbd s && zbd t) by simp [zbd,Bool.and_assoc]] at this
  exact this)
 cases hn:(zbd s && zbd t) with
 |false =>
  have HE:=zH (show zdo s t=0 by unfold zdo;rw [hn];rfl);rw [hn] at NR;clear hn;generalize zdo s t=res at HE ⊢;obtain ⟨⟨ax,ay⟩,⟨bx,by1⟩⟩:=s;obtain ⟨⟨cx,cy⟩,⟨dx,dy⟩⟩:=t;simp only [] at NR ⊢;go_enter Tryz.func107,Tryz.ntmps107;go_wp2_with fail;generalize hw1:((w.alloc _).alloc _).alloc _=w1;have H1:=gA31 hw1;have H2:=gA32 hw1;have H3:=gA33 hw1;have B1:=gB3 hw1;have hzz:w.heap.size+3≤w1.heap.size:=by rw [←hw1];simp
  have H1:=zH H1;have H2:=zH H2;clear hw1;refine (NR.out _ w1 (RowE.of_block (l:=[(ax,ay),(bx,by1),(cx,cy),(dx,dy)]) zeb rfl H3 4 rfl)).mono ?_;rintro e w2 ⟨rfl,hb⟩;have B2:=zac B1 zR hb;have hzz2:=hb.size;replace H1:=zH (zab hb H1.out);replace H2:=zH (zab hb H2.out);clear hb H3 B1 NR;go_wp2;go_ret;exact ⟨by rw [HE.out]<;>rfl,B2⟩
 |true =>
  have hn2:=hn;rw [Bool.and_eq_true] at hn2;have hs:=(zkm s).trans hn2.1;have ht:=(zkm t).trans hn2.2;have hS1:zat (srtS s).1=true:=by unfold zbd at hs;rw [Bool.and_eq_true] at hs;exact hs.1
  have hS2:zat (srtS s).2=true:=by unfold zbd at hs;rw [Bool.and_eq_true] at hs;exact hs.2
  have hT1:zat (srtS t).1=true:=by unfold zbd at ht;rw [Bool.and_eq_true] at ht;exact ht.1
  have hT2:zat (srtS t).2=true:=by unfold zbd at ht;rw [Bool.and_eq_true] at ht;exact ht.2
  rw [hn] at NR;have HM:zdo s t=zabq (srtS s) (srtS t):=by unfold zdo zabq;rw [hn];rfl
  have SR1:=zH (fun w=>zny s w);have SR2:=zH (fun w=>zny t w);generalize zdo s t=res at HM ⊢;generalize srtS s=S at hs hS1 hS2 HM SR1;generalize srtS t=T at ht hT1 hT2 HM SR2;have O1:=zH (fun w=>zfp S.1 S.2 T.1 hS1 hS2 hT1 w);have O2:=zH (fun w=>zfp S.1 S.2 T.2 hS1 hS2 hT2 w);have O3:=zH (fun w=>zfp T.1 T.2 S.1 hT1 hT2 hS1 w);have O4:=zH (fun w=>zfp T.1 T.2 S.2 hT1 hT2 hS2 w);have OL:=zH (fun w=>zadw S T hs ht w);have eq1:=zzo S T;have eq2:=zdc S.1 S.2;have eq3:=zdc T.1 T.2;have eqg:=eg37;have eqs:=eg39;obtain ⟨d1,hd1⟩:∃z,z=decide (S=T):=⟨_,rfl⟩;obtain ⟨d2,hd2⟩:∃z,z=decide (S.1=S.2):=⟨_,rfl⟩;obtain ⟨d3,hd3⟩:∃z,z=decide (T.1=T.2):=⟨_,rfl⟩;have HM2:=zH (HM.trans (zzd d1 d2 d3 S T hd1 hd2 hd3));rw [←hd1] at eq1;rw [←hd2] at eq2;rw [←hd3] at eq3;have ba:=zpv (crs S.1 S.2 T.1);have bb:=zpv (crs S.1 S.2 T.2);have bc:=zpv (crs T.1 T.2 S.1);have bd:=zpv (crs T.1 T.2 S.2);generalize sgn (crs S.1 S.2 T.1)=a at O1 HM2 ba;generalize sgn (crs S.1 S.2 T.2)=b at O2 HM2 bb;generalize sgn (crs T.1 T.2 S.1)=c at O3 HM2 bc;generalize sgn (crs T.1 T.2 S.2)=d at O4 HM2 bd;generalize zrr S T=lq at OL HM2;clear HM hd1 hd2 hd3 hs ht hS1 hS2 hT1 hT2 hn hn2;have wab:=zil ba bb;have wcd:=zil bc bd;have w1:wrap64 (a * b)=a * b:=IntWalk.wrap64_in _ (by omega);have w2':wrap64 (c * d)=c * d:=IntWalk.wrap64_in _ (by omega);clear wab wcd ba bb bc bd;obtain ⟨⟨ax,ay⟩,⟨bx,by1⟩⟩:=s;obtain ⟨⟨cx,cy⟩,⟨dx,dy⟩⟩:=t;obtain ⟨⟨px,py⟩,⟨qx,qy⟩⟩:=S;obtain ⟨⟨rx,ry⟩,⟨ux,uy⟩⟩:=T;simp only [] at NR SR1 SR2 O1 O2 O3 O4 OL eq1 eq2 eq3 ⊢;have W1:=zH w1;have W2:=zH w2';clear w1 w2';go_enter Tryz.func107,Tryz.ntmps107;go_wp2_with fail;generalize hw1:((w.alloc _).alloc _).alloc _=w1;have H1:=gA31 hw1;have H2:=gA32 hw1;have H3:=gA33 hw1;have B1:=gB3 hw1;have hzz:w.heap.size+3≤w1.heap.size:=by rw [←hw1];simp
  have H1:=zH H1;have H2:=zH H2;clear hw1;refine (NR.out _ w1 (RowE.of_block (l:=[(ax,ay),(bx,by1),(cx,cy),(dx,dy)]) zeb rfl H3 4 rfl)).mono ?_;rintro e w2 ⟨rfl,hb⟩;have B2:=zac B1 zR hb;have hzz2:=hb.size;replace H1:=zH (zab hb H1.out);replace H2:=zH (zab hb H2.out);clear hb H3 B1 NR;obtain ⟨az,a0,a1,a2,a3⟩:=rk4 H1.out;have af0:=frozen_of_row w2 _ 0 _ _ H1.out;have af1:=frozen_of_row w2 _ 1 _ _ H1.out;have af2:=frozen_of_row w2 _ 2 _ _ H1.out;have af3:=frozen_of_row w2 _ 3 _ _ H1.out;obtain ⟨bz,b0,b1,b2,b3⟩:=rk4 H2.out;have bf0:=frozen_of_row w2 _ 0 _ _ H2.out;have bf1:=frozen_of_row w2 _ 1 _ _ H2.out;have bf2:=frozen_of_row w2 _ 2 _ _ H2.out;have bf3:=frozen_of_row w2 _ 3 _ _ H2.out;go_upto_region 3 with fail;have hne:w.heap.size≠w.heap.size+1:=by omega
  have K0:=zadc a0 a1 a2 a3 b0 b1 b2 b3 af0 af1 af2 af3 bf0 bf1 bf2 bf3;have K0h:=zH K0;obtain ⟨a0,a1,a2,a3,b0,b1,b2,b3,af0,af1,af2,af3,bf0,bf1,bf2,bf3,-⟩:=K0;go_cut [] from 20 to 23 (fun wx=>wx.heap[w.heap.size]?=some (.cells #[.int .i64 px,.int .i64 py,.int .i64 qx,.int .i64 qy] 48)∧wx.heap[w.heap.size+1]?=some (.cells #[.int .i64 rx,.int .i64 ry,.int .i64 ux,.int .i64 uy] 48)∧Below w.heap.size w wx)
  case first =>
   go_region_with (first
    |(go_at_call 49;(with_reducible refine (SR1.out _).mono ?_);rintro e wq ⟨rfl,hb⟩;have K1:=zsa K0h.out hb;have K1h:=zH K1;obtain ⟨g0,g1,g2,g3,h0,h1,h2,h3,gf0,gf1,gf2,gf3,hf0,hf1,hf2,hf3,-⟩:=K1)
    |(go_at_call 49;(with_reducible refine (SR2.out _).mono ?_);rintro e wr ⟨rfl,hb2⟩;have K2:=zsa K1h.out hb2;have K2h:=zH K2;obtain ⟨k0,k1,k2,k3,l0,l1,l2,l3,kf0,kf1,kf2,kf3,lf0,lf1,lf2,lf3,-⟩:=K2))
   all_goals (
    have KB:=zadd K2h.out
    have R1:=zab KB H1.out
    have R2:=zab KB H2.out
    have G3:=zoa (g:=w.heap.size+1) (x:=.int .i64 rx) (y:=.int .i64 ry) (z:=.int .i64 ux) (u:=.int .i64 uy) (ztg (x:=.int .i64 px) (y:=.int .i64 py) (z:=.int .i64 qx) (u:=.int .i64 qy) R1) hne
    have G4:=ztg (x:=.int .i64 rx) (y:=.int .i64 ry) (z:=.int .i64 ux) (u:=.int .i64 uy) (zoa (g:=w.heap.size) (x:=.int .i64 px) (y:=.int .i64 py) (z:=.int .i64 qx) (u:=.int .i64 qy) R2 hne.symm)
    have BB:=zob (g:=w.heap.size+1) (x:=.int .i64 rx) (y:=.int .i64 ry) (z:=.int .i64 ux) (u:=.int .i64 uy) (zob (g:=w.heap.size) (x:=.int .i64 px) (y:=.int .i64 py) (z:=.int .i64 qx) (u:=.int .i64 qy) (zac B2 zR KB) zR) (by omega)
    clear K0h K1h K2h R1 R2 KB a0 a1 a2 a3 b0 b1 b2 b3 af0 af1 af2 af3 bf0 bf1 bf2 bf3 g0 g1 g2 g3 h0 h1 h2 h3 gf0 gf1 gf2 gf3 hf0 hf1 hf2 hf3 k0 k1 k2 k3 l0 l1 l2 l3 kf0 kf1 kf2 kf3 lf0 lf1 lf2 lf3
    go_wp2
    go_meet
    case rel=>exact ⟨G3,G4,BB⟩)
  case rest =>
   obtain ⟨R1,R2,BC⟩:=hcut;clear K0h a0 a1 a2 a3 b0 b1 b2 b3 af0 af1 af2 af3 bf0 bf1 bf2 bf3 az bz H1 H2 B2 SR1 SR2;have H1:=zH R1;have H2:=zH R2;clear R1 R2;cases d1 with
   |true =>have HE:=zH (show res=4 from HM2.out);obtain ⟨az,a0,a1,a2,a3⟩:=rk4 H1.out;obtain ⟨bz,b0,b1,b2,b3⟩:=rk4 H2.out;go_wp2;go_ret;exact ⟨by rw [HE.out]<;>rfl,BC⟩
   |false =>
    have HM3:=zH (show res=if d2=true∨d3=true∨(a=0∧b=0) then lq else if 0<a * b∨0<c * d then 0 else if a * b<0∧c * d<0 then 3 else if a * b=0∧c * d=0 then 1 else 2 from HM2.out);clear HM2;cases d2 with
    |true =>clear eq3 O1 O2 O3 O4;obtain ⟨az,a0,a1,a2,a3⟩:=rk4 H1.out;obtain ⟨bz,b0,b1,b2,b3⟩:=rk4 H2.out;have HE:=zH (show res=lq from HM3.out.trans (if_pos (Or.inl rfl)));go_wp2_with fail;refine (OL.out _).mono ?_;rintro e w9 ⟨rfl,hb⟩;have B9:=zac BC zR hb;clear a0 a1 a2 a3 az;clear b0 b1 b2 b3 bz;clear hb BC;go_wp2;go_ret;exact ⟨by rw [HE.out]<;>rfl,B9⟩
    |false =>
     cases d3 with
     |true =>clear O1 O2 O3 O4;obtain ⟨az,a0,a1,a2,a3⟩:=rk4 H1.out;obtain ⟨bz,b0,b1,b2,b3⟩:=rk4 H2.out;have HE:=zH (show res=lq from HM3.out.trans (if_pos (Or.inr (Or.inl rfl))));go_wp2_with fail;refine (OL.out _).mono ?_;rintro e w9 ⟨rfl,hb⟩;have B9:=zac BC zR hb;clear a0 a1 a2 a3 az;clear b0 b1 b2 b3 bz;clear hb BC;go_wp2;go_ret;exact ⟨by rw [HE.out]<;>rfl,B9⟩
     |false =>
      obtain ⟨az,a0,a1,a2,a3⟩:=rk4 H1.out;obtain ⟨bz,b0,b1,b2,b3⟩:=rk4 H2.out;go_wp2_with fail;refine (O1.out _).mono ?_;rintro e w3 ⟨rfl,hb⟩;have B3:=zac BC zR hb;replace H1:=zH (zab hb H1.out);replace H2:=zH (zab hb H2.out);clear a0 a1 a2 a3 az;clear b0 b1 b2 b3 bz;clear hb;by_cases ha:a=0
      ·have had:(a==0)=true:=(by rw [beq_iff_eq];exact ha);have HA:=zH ha;clear ha;obtain ⟨az,a0,a1,a2,a3⟩:=rk4 H1.out;obtain ⟨bz,b0,b1,b2,b3⟩:=rk4 H2.out;go_wp2_with fail;refine (O2.out _).mono ?_;rintro e w4 ⟨rfl,hb⟩;have B4:=zac B3 zR hb;replace H1:=zH (zab hb H1.out);replace H2:=zH (zab hb H2.out);clear a0 a1 a2 a3 az;clear b0 b1 b2 b3 bz;clear hb;by_cases hb0:b=0
       ·have hbd:(b==0)=true:=(by rw [beq_iff_eq];exact hb0);have HB:=zH hb0;clear hb0;obtain ⟨az,a0,a1,a2,a3⟩:=rk4 H1.out;obtain ⟨bz,b0,b1,b2,b3⟩:=rk4 H2.out;have HE:=zH (show res=lq from HM3.out.trans (if_pos (Or.inr (Or.inr ⟨HA.out,HB.out⟩))));go_wp2_with fail;refine (OL.out _).mono ?_;rintro e w9 ⟨rfl,hb⟩;have B9:=zac B4 zR hb;clear a0 a1 a2 a3 az;clear b0 b1 b2 b3 bz;clear hb B4;go_wp2;go_ret;exact ⟨by rw [HE.out]<;>rfl,B9⟩
       ·have hbd:(b==0)=false:=(by rw [beq_eq_false_iff_ne];exact hb0);have HM4:=zH (show res=if 0<a * b∨0<c * d then 0 else if a * b<0∧c * d<0 then 3 else if a * b=0∧c * d=0 then 1 else 2 from HM3.out.trans (if_neg (by rintro (h | h | h);cases h;cases h;exact hb0 h.2)));clear hb0 HM3;obtain ⟨az,a0,a1,a2,a3⟩:=rk4 H1.out;obtain ⟨bz,b0,b1,b2,b3⟩:=rk4 H2.out;go_wp2_with fail;have qa0:=zaa a0;have qa1:=zaa a1;have qa2:=zaa a2;have qa3:=zaa a3;have qb0:=zaa b0;have qb1:=zaa b1;have qb2:=zaa b2;have qb3:=zaa b3;clear a0 a1 a2 a3 az;clear b0 b1 b2 b3 bz;refine zae mixed (by kernel_rfl) ?_;iterate 7 (go_big_quiet_step ((go_at_call 50;exact zad (O1.out _))))
        repeat (go_big_quiet_step ((go_at_call 50;exact zad (O2.out _))))
        refine wpQuiet_nil ?_;intro w7 hw';obtain ⟨⟨wq,hbq⟩,hw''⟩:=hw';subst hw'';have B7:=zac B4 zR hbq;replace H1:=zH (zab hbq H1.out);replace H2:=zH (zab hbq H2.out);clear hbq qa0 qa1 qa2 qa3 qb0 qb1 qb2 qb3;obtain ⟨az,a0,a1,a2,a3⟩:=rk4 H1.out;obtain ⟨bz,b0,b1,b2,b3⟩:=rk4 H2.out;go_wp2_with fail;have qa0:=zaa a0;have qa1:=zaa a1;have qa2:=zaa a2;have qa3:=zaa a3;have qb0:=zaa b0;have qb1:=zaa b1;have qb2:=zaa b2;have qb3:=zaa b3;clear a0 a1 a2 a3 az;clear b0 b1 b2 b3 bz;refine zae mixed (by kernel_rfl) ?_;iterate 7 (go_big_quiet_step ((go_at_call 50;exact zad (O3.out _))))
        repeat (go_big_quiet_step ((go_at_call 50;exact zad (O4.out _))))
        refine wpQuiet_nil ?_;intro w8 hw';obtain ⟨⟨wq,hbq⟩,hw''⟩:=hw';subst hw'';have B8:=zac B7 zR hbq;replace H1:=zH (zab hbq H1.out);replace H2:=zH (zab hbq H2.out);clear hbq qa0 qa1 qa2 qa3 qb0 qb1 qb2 qb3;clear O1 O2 O3 O4 OL H1 H2;obtain ⟨m1,hm1⟩:∃z,z=a * b:=⟨_,rfl⟩;obtain ⟨m2,hm2⟩:∃z,z=c * d:=⟨_,rfl⟩;have wm1:=W1.out.trans hm1.symm;have wm2:=W2.out.trans hm2.symm;have HM5:=HM4.out;rw [←hm1] at HM5;rw [←hm2] at HM5;clear hm1 hm2 HM4 W1 W2;by_cases p1:0<m1
        ·have e1:decide (0<m1)=true:=decide_eq_true p1;have HE:=zH (show res=0 by rw [HM5,if_pos (Or.inl p1)]);clear p1 HM5;go_wp2;go_ret;exact ⟨by rw [HE.out]<;>rfl,B8⟩
        have e1:decide (0<m1)=false:=decide_eq_false p1;by_cases p2:0<m2
        ·have e2:decide (0<m2)=true:=decide_eq_true p2;have HE:=zH (show res=0 by rw [HM5,if_pos (Or.inr p2)]);clear p1 p2 HM5;go_wp2;go_ret;exact ⟨by rw [HE.out]<;>rfl,B8⟩
        have e2:decide (0<m2)=false:=decide_eq_false p2;rw [if_neg (by rintro (h | h);exact p1 h;exact p2 h)] at HM5;by_cases p3:m1<0
        ·have e3:decide (m1<0)=true:=decide_eq_true p3;have e4:(m1==0)=false:=(by rw [beq_eq_false_iff_ne];omega);by_cases p4:m2<0
         ·have e5:decide (m2<0)=true:=decide_eq_true p4;have HE:=zH (show res=3 by rw [HM5,if_pos ⟨p3,p4⟩]);clear p1 p2 p3 p4 HM5;go_wp2;go_ret;exact ⟨by rw [HE.out]<;>rfl,B8⟩
         ·have e5:decide (m2<0)=false:=decide_eq_false p4;have HE:=zH (show res=2 by rw [HM5,if_neg (fun h=>p4 h.2),if_neg (fun h=>by have:=h.1;omega)]);clear p1 p2 p3 p4 HM5;go_wp2;go_ret;exact ⟨by rw [HE.out]<;>rfl,B8⟩
        have e3:decide (m1<0)=false:=decide_eq_false p3;have e4:(m1==0)=true:=(by rw [beq_iff_eq];omega);rw [if_neg (fun h=>p3 h.1)] at HM5;by_cases p4:m2=0
        ·have e5:(m2==0)=true:=(by rw [beq_iff_eq];exact p4);have HE:=zH (show res=1 by rw [HM5,if_pos ⟨by omega,p4⟩]);clear p1 p2 p3 p4 HM5;go_wp2;go_ret;exact ⟨by rw [HE.out]<;>rfl,B8⟩
        ·have e5:(m2==0)=false:=(by rw [beq_eq_false_iff_ne];exact p4);have HE:=zH (show res=2 by rw [HM5,if_neg (fun h=>p4 h.2)]);clear p1 p2 p3 p4 HM5;go_wp2;go_ret;exact ⟨by rw [HE.out]<;>rfl,B8⟩
      ·have had:(a==0)=false:=(by rw [beq_eq_false_iff_ne];exact ha);have HM4:=zH (show res=if 0<a * b∨0<c * d then 0 else if a * b<0∧c * d<0 then 3 else if a * b=0∧c * d=0 then 1 else 2 from HM3.out.trans (if_neg (by rintro (h | h | h);cases h;cases h;exact ha h.1)));clear ha HM3;obtain ⟨az,a0,a1,a2,a3⟩:=rk4 H1.out;obtain ⟨bz,b0,b1,b2,b3⟩:=rk4 H2.out;go_wp2_with fail;have qa0:=zaa a0;have qa1:=zaa a1;have qa2:=zaa a2;have qa3:=zaa a3;have qb0:=zaa b0;have qb1:=zaa b1;have qb2:=zaa b2;have qb3:=zaa b3;clear a0 a1 a2 a3 az;clear b0 b1 b2 b3 bz;refine zae mixed (by kernel_rfl) ?_;iterate 7 (go_big_quiet_step ((go_at_call 50;exact zad (O1.out _))))
       repeat (go_big_quiet_step ((go_at_call 50;exact zad (O2.out _))))
       refine wpQuiet_nil ?_;intro w7 hw';obtain ⟨⟨wq,hbq⟩,hw''⟩:=hw';subst hw'';have B7:=zac B3 zR hbq;replace H1:=zH (zab hbq H1.out);replace H2:=zH (zab hbq H2.out);clear hbq qa0 qa1 qa2 qa3 qb0 qb1 qb2 qb3;obtain ⟨az,a0,a1,a2,a3⟩:=rk4 H1.out;obtain ⟨bz,b0,b1,b2,b3⟩:=rk4 H2.out;go_wp2_with fail;have qa0:=zaa a0;have qa1:=zaa a1;have qa2:=zaa a2;have qa3:=zaa a3;have qb0:=zaa b0;have qb1:=zaa b1;have qb2:=zaa b2;have qb3:=zaa b3;clear a0 a1 a2 a3 az;clear b0 b1 b2 b3 bz;refine zae mixed (by kernel_rfl) ?_;iterate 7 (go_big_quiet_step ((go_at_call 50;exact zad (O3.out _))))
       repeat (go_big_quiet_step ((go_at_call 50;exact zad (O4.out _))))
       refine wpQuiet_nil ?_;intro w8 hw';obtain ⟨⟨wq,hbq⟩,hw''⟩:=hw';subst hw'';have B8:=zac B7 zR hbq;replace H1:=zH (zab hbq H1.out);replace H2:=zH (zab hbq H2.out);clear hbq qa0 qa1 qa2 qa3 qb0 qb1 qb2 qb3;clear O1 O2 O3 O4 OL H1 H2;obtain ⟨m1,hm1⟩:∃z,z=a * b:=⟨_,rfl⟩;obtain ⟨m2,hm2⟩:∃z,z=c * d:=⟨_,rfl⟩;have wm1:=W1.out.trans hm1.symm;have wm2:=W2.out.trans hm2.symm;have HM5:=HM4.out;rw [←hm1] at HM5;rw [←hm2] at HM5;clear hm1 hm2 HM4 W1 W2;by_cases p1:0<m1
       ·have e1:decide (0<m1)=true:=decide_eq_true p1;have HE:=zH (show res=0 by rw [HM5,if_pos (Or.inl p1)]);clear p1 HM5;go_wp2;go_ret;exact ⟨by rw [HE.out]<;>rfl,B8⟩
       have e1:decide (0<m1)=false:=decide_eq_false p1;by_cases p2:0<m2
       ·have e2:decide (0<m2)=true:=decide_eq_true p2;have HE:=zH (show res=0 by rw [HM5,if_pos (Or.inr p2)]);clear p1 p2 HM5;go_wp2;go_ret;exact ⟨by rw [HE.out]<;>rfl,B8⟩
       have e2:decide (0<m2)=false:=decide_eq_false p2;rw [if_neg (by rintro (h | h);exact p1 h;exact p2 h)] at HM5;by_cases p3:m1<0
       ·have e3:decide (m1<0)=true:=decide_eq_true p3;have e4:(m1==0)=false:=(by rw [beq_eq_false_iff_ne];omega);by_cases p4:m2<0
        ·have e5:decide (m2<0)=true:=decide_eq_true p4;have HE:=zH (show res=3 by rw [HM5,if_pos ⟨p3,p4⟩]);clear p1 p2 p3 p4 HM5;go_wp2;go_ret;exact ⟨by rw [HE.out]<;>rfl,B8⟩
        ·have e5:decide (m2<0)=false:=decide_eq_false p4;have HE:=zH (show res=2 by rw [HM5,if_neg (fun h=>p4 h.2),if_neg (fun h=>by have:=h.1;omega)]);clear p1 p2 p3 p4 HM5;go_wp2;go_ret;exact ⟨by rw [HE.out]<;>rfl,B8⟩
       have e3:decide (m1<0)=false:=decide_eq_false p3;have e4:(m1==0)=true:=(by rw [beq_iff_eq];omega);rw [if_neg (fun h=>p3 h.1)] at HM5;by_cases p4:m2=0
       ·have e5:(m2==0)=true:=(by rw [beq_iff_eq];exact p4);have HE:=zH (show res=1 by rw [HM5,if_pos ⟨by omega,p4⟩]);clear p1 p2 p3 p4 HM5;go_wp2;go_ret;exact ⟨by rw [HE.out]<;>rfl,B8⟩
       ·have e5:(m2==0)=false:=(by rw [beq_eq_false_iff_ne];exact p4);have HE:=zH (show res=2 by rw [HM5,if_neg (fun h=>p4 h.2)]);clear p1 p2 p3 p4 HM5;go_wp2;go_ret;exact ⟨by rw [HE.out]<;>rfl,B8⟩
end Go.Proofs.YtibpaaajghbkoaaGreat

namespace Go.Proofs.YtibpaaajghbkoaaGreat
open Go.RowKit Go.Sort
abbrev ItD:=Nat × Sg
def xlo (s:Sg):Int:=min s.1.1 s.2.1
def xhi (s:Sg):Int:=max s.1.1 s.2.1
def ylo (s:Sg):Int:=min s.1.2 s.2.2
def yhi (s:Sg):Int:=max s.1.2 s.2.2
def zbw (x:ItD):List Value:=[.int .i64 x.1,.int .i64 x.2.1.1,.int .i64 x.2.1.2,.int .i64 x.2.2.1,.int .i64 x.2.2.2,.int .i64 (xlo x.2),.int .i64 (xhi x.2),.int .i64 (ylo x.2),.int .i64 (yhi x.2)]
theorem zdd (x:ItD):(zbw x).length=9:=rfl
theorem zwt (x:ItD):∀v∈zbw x,v.oneCell'=true:=by intro v hv;simp only [zbw,List.mem_cons,List.not_mem_nil,or_false] at hv;rcases hv with rfl | rfl | rfl | rfl | rfl | rfl | rfl | rfl | rfl<;>rfl
theorem zakt (a b:Int) (w:World) :
  Calls Tryz.prog 180 #[.int .i64 a,.int .i64 b] w fun e w'=>e=.returned (.agg #[.int .i64 (min a b),.int .i64 (max a b)])∧Below w.heap.size w w':=by
 have hmn:∀(W:World) ts t,(Builtin.min_ ts t #[.int .i64 a,.int .i64 b]).run Tryz.prog W=.ok (.int .i64 (min a b)) W:=fun W ts t=>by
  have e:(if b<a then b else a)=min a b:=by split<;>omega
  simp [Builtin.min_,Builtin.min2,e]
 have hmx:∀(W:World) ts t,(Builtin.max_ ts t #[.int .i64 a,.int .i64 b]).run Tryz.prog W=.ok (.int .i64 (max a b)) W:=fun W ts t=>by
  have e:(if a<b then b else a)=max a b:=by split<;>omega
  simp [Builtin.max_,Builtin.max2,e]
 generalize min a b=m at hmn ⊢;generalize max a b=n at hmx ⊢;go_enter Tryz.func180,Tryz.ntmps180;go_wp2;refine bodyPost_ret (v:=.agg #[.int .i64 m,.int .i64 n]) ?_ rfl ⟨rfl,?_⟩
 ·simp [results,Tryz.results180,go_sem]
 ·repeat' (first | exact Below.refl _ _ | refine Below.drew ?_ | refine Below.drewN' ?_ | refine Below.setCell ?_ (by first | omega | (simp;done) | exact Below.size (by assumption) | (simp;omega)) _ | refine Below.alloc ?_ (by first | omega | (simp;done) | exact Below.size (by assumption) | (simp;omega)) _ | refine Below.trans ?_ (Below.mono (by assumption) ?_) | (first | omega | (simp;done) | exact Below.size (by assumption) | (simp;omega)))
theorem zxy (a b c d:Int) (w:World) :
  Calls Tryz.prog 185 #[.agg #[.int .i64 a,.int .i64 b],.agg #[.int .i64 c,.int .i64 d]] w fun e w'=>e=.returned (.bool (decide (a≤d) && decide (c≤b)))∧Below w.heap.size w w':=by
 by_cases h:a≤d
 ·have e1:decide (a≤d)=true:=decide_eq_true h;rw [e1];clear h;go_enter Tryz.func185,Tryz.ntmps185;go_wp2;go_ret;exact ⟨by simp,(by repeat' (first | exact Below.refl _ _ | refine Below.drew ?_ | refine Below.drewN' ?_ | refine Below.setCell ?_ (by first | omega | (simp;done) | exact Below.size (by assumption) | (simp;omega)) _ | refine Below.alloc ?_ (by first | omega | (simp;done) | exact Below.size (by assumption) | (simp;omega)) _ | refine Below.trans ?_ (Below.mono (by assumption) ?_) | (first | omega | (simp;done) | exact Below.size (by assumption) | (simp;omega))))⟩
 ·have e1:decide (a≤d)=false:=decide_eq_false h;rw [e1];clear h;go_enter Tryz.func185,Tryz.ntmps185;go_wp2;go_ret;exact ⟨by simp,(by repeat' (first | exact Below.refl _ _ | refine Below.drew ?_ | refine Below.drewN' ?_ | refine Below.setCell ?_ (by first | omega | (simp;done) | exact Below.size (by assumption) | (simp;omega)) _ | refine Below.alloc ?_ (by first | omega | (simp;done) | exact Below.size (by assumption) | (simp;omega)) _ | refine Below.trans ?_ (Below.mono (by assumption) ?_) | (first | omega | (simp;done) | exact Below.size (by assumption) | (simp;omega))))⟩
def cfIt (x y:ItD):Int:=if Lib.compareInt (xlo x.2) (xlo y.2)=0 then (x.1:Int) - (y.1:Int) else Lib.compareInt (xlo x.2) (xlo y.2)
theorem zpp (x y:ItD):cfIt x y<0↔xlo x.2<xlo y.2∨(xlo x.2=xlo y.2∧x.1<y.1):=by unfold cfIt Lib.compareInt;split<;>split at *<;>(try split at *)<;>omega
abbrev ItT:={x:ItD // x.1≤20000}
instance:Inhabited ItT:=⟨⟨(0,((0,0),(0,0))),by decide⟩⟩
theorem zarh:SWO (ltOf fun x y:ItT=>cfIt x.1 y.1) where
 irrefl:=fun x=>by unfold ltOf;rw [decide_eq_false_iff_not,zpp];omega
 trans:=fun x y z h h2=>by unfold ltOf at *;rw [decide_eq_true_eq,zpp] at *;omega
 ntrans:=fun x y z h h2=>by unfold ltOf at *;rw [decide_eq_false_iff_not,zpp] at *;omega
abbrev MtD:=Nat × Nat × Int
def zki (m:MtD):List Value:=[.int .i64 m.1,.int .i64 m.2.1,.int .i64 m.2.2]
theorem zwp (x:MtD):(zki x).length=3:=rfl
theorem zwo (x:MtD):∀v∈zki x,v.oneCell'=true:=by intro v hv;simp only [zki,List.mem_cons,List.not_mem_nil,or_false] at hv;rcases hv with rfl | rfl | rfl<;>rfl
def cfMt (x y:MtD):Int:=if (x.1:Int) - (y.1:Int)=0 then (x.2.1:Int) - (y.2.1:Int) else (x.1:Int) - (y.1:Int)
theorem zuk (x y:MtD):cfMt x y<0↔x.1<y.1∨(x.1=y.1∧x.2.1<y.2.1):=by unfold cfMt;split<;>omega
abbrev MtT:={x:MtD // x.1≤20000∧x.2.1≤20000}
instance:Inhabited MtT:=⟨⟨(0,0,0),by decide⟩⟩
theorem zarg:SWO (ltOf fun x y:MtT=>cfMt x.1 y.1) where
 irrefl:=fun x=>by unfold ltOf;rw [decide_eq_false_iff_not,zuk];omega
 trans:=fun x y z h h2=>by unfold ltOf at *;rw [decide_eq_true_eq,zuk] at *;omega
 ntrans:=fun x y z h h2=>by unfold ltOf at *;rw [decide_eq_false_iff_not,zuk] at *;omega
set_option maxHeartbeats 1000000 in
theorem zapd (x y:MtT) (w:World) :
  Calls Tryz.prog 187 #[.agg (zki x.1).toArray,.agg (zki y.1).toArray] w fun e w'=>e=.returned (.int .i64 (cfMt x.1 y.1))∧Grew w w':=by
 have OR:=zH (fun B c W h0 h1=>zyz ((x.1.1:Int) - (y.1.1:Int)) ((x.1.2.1:Int) - (y.1.2.1:Int)) B c W h0 h1);have HQ:=zH (show cfMt x.1 y.1=if (x.1.1:Int) - (y.1.1:Int)=0 then (x.1.2.1:Int) - (y.1.2.1:Int) else (x.1.1:Int) - (y.1.1:Int) from rfl);generalize cfMt x.1 y.1=r at HQ ⊢;rw [←HQ.out] at OR;obtain ⟨⟨xa,xb,xk⟩,hx1,hx2⟩:=x;obtain ⟨⟨ya,yb,yk⟩,hy1,hy2⟩:=y;simp only [zki] at OR hx1 hx2 hy1 hy2 ⊢;clear HQ;go_enter Tryz.func187,Tryz.ntmps187;go_wp2_with fail;have G1:Grew w (((w.alloc (.cells #[.int .i64 xa,.int .i64 xb,.int .i64 xk] 188)).alloc (.cells #[.int .i64 ya,.int .i64 yb,.int .i64 yk] 188)).alloc (.cells #[.int .i64 ((xa:Int) - ya),.int .i64 ((xb:Int) - yb)] 3)):=(((Grew.refl w).alloc _).alloc _).alloc _;generalize hw1:((w.alloc _).alloc _).alloc _=w1;have H3:=gA33 hw1;rw [hw1] at G1;clear hw1;have H3:=zH H3;obtain ⟨kz,k0,k1⟩:=rk2 H3.out;refine (OR.out _ _ _ k0 k1).mono ?_;rintro e w2 ⟨rfl,rfl⟩;go_wp2;go_ret;exact ⟨rfl,G1⟩
set_option maxRecDepth 100000 in
set_option maxHeartbeats 2000000 in
theorem zapl (x y:ItT) (w:World) :
  Calls Tryz.prog 182 #[.agg (zbw x.1).toArray,.agg (zbw y.1).toArray] w fun e w'=>e=.returned (.int .i64 (cfIt x.1 y.1))∧Grew w w':=by
 have mixed:Tryz.prog.follows .mixedOrders=true:=by kernel_rfl
 have OR:=zH (fun B c W h0 h1=>zyz (Lib.compareInt (xlo x.1.2) (xlo y.1.2)) ((x.1.1:Int) - (y.1.1:Int)) B c W h0 h1);have C1:=zH (fun w=>Tryz.cmp_Compare_int (xlo x.1.2) (xlo y.1.2) w);have HQ:=zH (show cfIt x.1 y.1=if Lib.compareInt (xlo x.1.2) (xlo y.1.2)=0 then (x.1.1:Int) - (y.1.1:Int) else Lib.compareInt (xlo x.1.2) (xlo y.1.2) from rfl);generalize cfIt x.1 y.1=r at HQ ⊢;rw [←HQ.out] at OR;generalize Lib.compareInt (xlo x.1.2) (xlo y.1.2)=cc at OR C1 HQ;obtain ⟨⟨xi,⟨⟨x1,x2⟩,⟨x3,x4⟩⟩⟩,hx⟩:=x;obtain ⟨⟨yi,⟨⟨y1,y2⟩,⟨y3,y4⟩⟩⟩,hy⟩:=y;simp only [zbw] at OR C1 hx hy ⊢;generalize xlo ((x1,x2),x3,x4)=xl at C1 ⊢;generalize xhi ((x1,x2),x3,x4)=xh;generalize ylo ((x1,x2),x3,x4)=xm;generalize yhi ((x1,x2),x3,x4)=xn;generalize xlo ((y1,y2),y3,y4)=yl at C1 ⊢;generalize xhi ((y1,y2),y3,y4)=yh;generalize ylo ((y1,y2),y3,y4)=ym;generalize yhi ((y1,y2),y3,y4)=yn;clear HQ;have wd:IntKind.i64.wrap ((xi:Int) - (yi:Int))=(xi:Int) - (yi:Int):=IntWalk.i64_in _ (by omega);go_enter Tryz.func182,Tryz.ntmps182;go_wp2_with fail;have G1:Grew w ((w.alloc (.cells #[.int .i64 xi,.int .i64 x1,.int .i64 x2,.int .i64 x3,.int .i64 x4,.int .i64 xl,.int .i64 xh,.int .i64 xm,.int .i64 xn] 230)).alloc (.cells #[.int .i64 yi,.int .i64 y1,.int .i64 y2,.int .i64 y3,.int .i64 y4,.int .i64 yl,.int .i64 yh,.int .i64 ym,.int .i64 yn] 230)):=((Grew.refl w).alloc _).alloc _;generalize hw1:(w.alloc _).alloc _=w1;have H1:=gA21 hw1;have H2:=gA22 hw1;rw [hw1] at G1;clear hw1;have H1:=zH H1;have H2:=zH H2;refine MG.wp_region_mix 12 (fun W=>Grew w1 W) (fun W=>Grew w1 W) mixed (by kernel_rfl) (by kernel_rfl) (by kernel_rfl) (MG.StableW.grew _) (fun W hW=>hW) (Grew.refl _).drew ?_;apply Exists.intro;refine ⟨fun W hW=>?_,?_⟩
 ·have HA:=zH (zab hW.below H1.out);have HB:=zH (zab hW.below H2.out);have az:=zaf HA.out;have a0:=cell_of_row W _ 0 _ _ _ HA.out;have a1:=cell_of_row W _ 1 _ _ _ HA.out;have a2:=cell_of_row W _ 2 _ _ _ HA.out;have a3:=cell_of_row W _ 3 _ _ _ HA.out;have a4:=cell_of_row W _ 4 _ _ _ HA.out;have a5:=cell_of_row W _ 5 _ _ _ HA.out;have a6:=cell_of_row W _ 6 _ _ _ HA.out;have a7:=cell_of_row W _ 7 _ _ _ HA.out;have a8:=cell_of_row W _ 8 _ _ _ HA.out;simp only [List.getElem?_toArray,List.getElem?_cons_zero,List.getElem?_cons_succ] at a0 a1 a2 a3 a4 a5 a6 a7 a8;have bz:=zaf HB.out;have b0:=cell_of_row W _ 0 _ _ _ HB.out;have b1:=cell_of_row W _ 1 _ _ _ HB.out;have b2:=cell_of_row W _ 2 _ _ _ HB.out;have b3:=cell_of_row W _ 3 _ _ _ HB.out;have b4:=cell_of_row W _ 4 _ _ _ HB.out;have b5:=cell_of_row W _ 5 _ _ _ HB.out;have b6:=cell_of_row W _ 6 _ _ _ HB.out;have b7:=cell_of_row W _ 7 _ _ _ HB.out;have b8:=cell_of_row W _ 8 _ _ _ HB.out;simp only [List.getElem?_toArray,List.getElem?_cons_zero,List.getElem?_cons_succ] at b0 b1 b2 b3 b4 b5 b6 b7 b8;have q0:=MG.cell_grewBy a0;have q5:=MG.cell_grewBy a5;have p0:=MG.cell_grewBy b0;have p5:=MG.cell_grewBy b5;clear a0 a1 a2 a3 a4 a5 a6 a7 a8 az;clear b0 b1 b2 b3 b4 b5 b6 b7 b8 bz;simp only [List.take_succ_cons,List.take_zero];repeat (go_big_quiet_step ((go_at_call 90;exact MG.calls_grewBy ((C1.out _).mono fun _ _ ⟨he,hw⟩=>⟨he,hw ▸ Grew.refl _⟩))))
  exact wpQuiet_nil rfl
 ·simp only [List.drop_succ_cons,List.drop_zero];refine MG.tailM_step (ι:=Nat) (fun g=>.slice (some ⟨g,0,none⟩) 2 2) (fun g W=>Grew w1 W∧W.heap[g]?=some (.cells #[.int .i64 cc,.int .i64 ((xi:Int) - yi)] 3)) rfl (fun g=>(MG.StableW.grew _).and (MG.StableW.row _ _)) (fun _ _ h=>h.1) (fun W hS K hK=>?_) (fun g=>?_)
  ·go_simp;exact hK W.heap.size _ ⟨hS.alloc _,zan _ _⟩
  simp only [Act.put,List.setIfInBounds_toArray,List.set_cons_succ,List.set_cons_zero];refine MG.tailM_pure (.int .i64 r) rfl ((MG.StableW.grew _).and (MG.StableW.row _ _)) (fun _ h=>h.1) (fun W hS K hK=>?_) ?_
  ·have HG:=zH hS.2;obtain ⟨gz,g0,g1⟩:=rk2 HG.out;go_simp;refine (OR.out _ _ _ g0 g1).mono ?_;rintro e w2 ⟨rfl,rfl⟩;go_simp;exact hK
  simp only [Act.put,List.setIfInBounds_toArray,List.set_cons_succ,List.set_cons_zero];refine MG.tailM_pure (.int .i64 r) rfl ((MG.StableW.grew _).and (MG.StableW.row _ _)) (fun _ h=>h.1) (fun W hS K hK=>?_) (MG.tailM_nil fun W hW=>?_)
  ·go_simp;exact hK
  obtain ⟨hW1,-⟩:=hW;simp only [Act.put,List.setIfInBounds_toArray,List.set_cons_succ,List.set_cons_zero];go_wp2;go_ret;exact ⟨rfl,G1.trans hW1⟩
theorem zaiq (x y:ItD) (Ba:Nat) (w:World) (ha:w.heap[Ba]?=some (.cells (zbw y).toArray 230)) :
  Calls Tryz.prog 184 #[.agg (zbw x).toArray,.pointer (some ⟨Ba,0,none⟩)] w fun e w'=>e=.returned (.bool (decide (xhi x.2<xlo y.2)))∧Below w.heap.size w w':=by
 have HA:=zH ha;clear ha;obtain ⟨xi,⟨⟨x1,x2⟩,⟨x3,x4⟩⟩⟩:=x;obtain ⟨yi,⟨⟨y1,y2⟩,⟨y3,y4⟩⟩⟩:=y;simp only [zbw] at HA ⊢;generalize xlo ((x1,x2),x3,x4)=xl;generalize xhi ((x1,x2),x3,x4)=xh;generalize ylo ((x1,x2),x3,x4)=xm;generalize yhi ((x1,x2),x3,x4)=xn;generalize xlo ((y1,y2),y3,y4)=yl at HA ⊢;generalize xhi ((y1,y2),y3,y4)=yh at HA;generalize ylo ((y1,y2),y3,y4)=ym at HA;generalize yhi ((y1,y2),y3,y4)=yn at HA;have az:=zaf HA.out;have a0:=cell_of_row w _ 0 _ _ _ HA.out;have a1:=cell_of_row w _ 1 _ _ _ HA.out;have a2:=cell_of_row w _ 2 _ _ _ HA.out;have a3:=cell_of_row w _ 3 _ _ _ HA.out;have a4:=cell_of_row w _ 4 _ _ _ HA.out;have a5:=cell_of_row w _ 5 _ _ _ HA.out;have a6:=cell_of_row w _ 6 _ _ _ HA.out;have a7:=cell_of_row w _ 7 _ _ _ HA.out;have a8:=cell_of_row w _ 8 _ _ _ HA.out;simp only [List.getElem?_toArray,List.getElem?_cons_zero,List.getElem?_cons_succ] at a0 a1 a2 a3 a4 a5 a6 a7 a8;go_enter Tryz.func184,Tryz.ntmps184;go_wp2;go_ret;exact ⟨rfl,(by repeat' (first | exact Below.refl _ _ | refine Below.drew ?_ | refine Below.drewN' ?_ | refine Below.setCell ?_ (by first | omega | (simp;done) | exact Below.size (by assumption) | (simp;omega)) _ | refine Below.alloc ?_ (by first | omega | (simp;done) | exact Below.size (by assumption) | (simp;omega)) _ | refine Below.trans ?_ (Below.mono (by assumption) ?_) | (first | omega | (simp;done) | exact Below.size (by assumption) | (simp;omega))))⟩
end Go.Proofs.YtibpaaajghbkoaaGreat
