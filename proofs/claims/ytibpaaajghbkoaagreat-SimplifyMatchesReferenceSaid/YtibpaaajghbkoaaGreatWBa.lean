/-     -/
import Derived.Test.YtibpaaajghbkoaaGreatWAz
import Derived.Great.Walk
namespace Go.Proofs.YtibpaaajghbkoaaGreat
open Go.RowKit Go.Sort Go.Maps
def zzq (i:Nat):List Value:=[.int .i64 i]
theorem zajh (x:Nat):(zzq x).length=1:=rfl
theorem zajg (x:Nat):∀v∈zzq x,v.oneCell'=true:=by intro v hv;simp only [zzq,List.mem_cons,List.not_mem_nil,or_false] at hv;subst hv;rfl
def mn3 (a b c:Int):Int:=min (min a b) c
def mx3 (a b c:Int):Int:=max (max a b) c
theorem zaar (P:Program) (w:World) (ts:Array TypeId) (t:TypeId) (a b c:Int):(Builtin.min_ ts t #[.int .i64 a,.int .i64 b,.int .i64 c]).run P w=.ok (.int .i64 (mn3 a b c)) w:=by
 have e:∀x y:Int,(if y<x then y else x)=min x y:=fun x y=>by split<;>omega
 simp [Builtin.min_,Builtin.min2,mn3,e]
theorem zaat (P:Program) (w:World) (ts:Array TypeId) (t:TypeId) (a b c:Int):(Builtin.max_ ts t #[.int .i64 a,.int .i64 b,.int .i64 c]).run P w=.ok (.int .i64 (mx3 a b c)) w:=by
 have e:∀x y:Int,(if x<y then y else x)=max x y:=fun x y=>by split<;>omega
 simp [Builtin.max_,Builtin.max2,mx3,e]
theorem zaas (P:Program) (W:World) (ts:Array TypeId) (t:TypeId) (a b:Int):(Builtin.min_ ts t #[.int .i64 a,.int .i64 b]).run P W=.ok (.int .i64 (min a b)) W:=by
 have e:(if b<a then b else a)=min a b:=by split<;>omega
 simp [Builtin.min_,Builtin.min2,e]
theorem zaau (P:Program) (W:World) (ts:Array TypeId) (t:TypeId) (a b:Int):(Builtin.max_ ts t #[.int .i64 a,.int .i64 b]).run P W=.ok (.int .i64 (max a b)) W:=by
 have e:(if a<b then b else a)=max a b:=by split<;>omega
 simp [Builtin.max_,Builtin.max2,e]
theorem zbj.apart {κ ν:Type} {P:Program} {t:TypeId} {ek:κ→Value} {ev:ν→Value} {w:World} {b:Nat} {l:List (κ × ν)} (h:zbj P t ek ev w b l) {g o:Nat} {v:Value} (hc:w.cell? ⟨g,o,none⟩=some v):g≠b:=by rintro rfl;obtain ⟨es,clock,h1,_⟩:=h;simp [World.cell?,h1] at hc
theorem zjk {w w':World} {row:Option Nat} (hg:w.grownBy w' row) {g o:Nat} {v:Value} (hc:w.cell? ⟨g,o,none⟩=some v) (hne:some g≠row):w'.cell? ⟨g,o,none⟩=some v:=by have hb:=hg.block g (zag hc) hne;unfold World.cell? at hc ⊢;rw [hb];exact hc
theorem StableW.mapAt {κ ν:Type} (P:Program) (t:TypeId) (ek:κ→Value) (ev:ν→Value) (b:Nat) (l:List (κ × ν)):StableW fun W=>zbj P t ek ev W b l:=fun _ _ h h2=>h.on h2
theorem zanl {n:Nat} (h:n≤20000):(Lit.int .i64 (n:Int)).wf=true:=by simp [Lit.wf,IntKind.min,IntKind.max,IntKind.bits,IntKind.signed];omega
abbrev FdD:=(Int × Int) × Int
def toFd (m:MtD):FdD:=(((m.1:Int),(m.2.1:Int)),m.2.2)
abbrev evI (k:Int):Value:=.int .i64 k
abbrev zus (w:World) (b:Nat) (F:List FdD):Prop:=zbj Tryz.prog 130 intK evI w b F
theorem zarb {M:List MtD} (hdet:∀m∈M,∀m'∈M,m.1=m'.1→m.2.1=m'.2.1→m.2.2=m'.2.2) {q:Nat} {m:MtD} (hm:M[q]?=some m) {F:List FdD} (hF:∀p,p∈F↔∃m∈M.take q,p=toFd m) (p:FdD) :
  p∈aput (toFd m).1 (toFd m).2 F↔∃m∈M.take (q+1),p=toFd m:=by
 obtain ⟨hk,e⟩:=List.getElem?_eq_some_iff.1 hm;have hmM:m∈M:=zM hm;rw [List.take_succ_eq_append_getElem hk,e];constructor
 ·intro h;rcases zim h with rfl | h
  ·exact ⟨m,by simp,rfl⟩
  ·obtain ⟨m',h1,h2⟩:=(hF p).1 h;exact ⟨m',List.mem_append_left _ h1,h2⟩
 ·rintro ⟨m',h1,rfl⟩;rcases List.mem_append.1 h1 with h1 | h1
  ·by_cases hk':(toFd m').1=(toFd m).1
   ·have e2:m'.2.2=m.2.2:=by simp only [toFd,Prod.mk.injEq] at hk';exact hdet m' (List.mem_of_mem_take h1) m hmM (by omega) (by omega)
    have:toFd m'=((toFd m).1,(toFd m).2):=Prod.ext hk' e2;rw [this];exact znb _ _ _
   ·exact zlx ((hF _).2 ⟨m',h1,rfl⟩) hk'
  ·simp only [List.mem_cons,List.not_mem_nil,or_false] at h1;subst h1;exact znb _ _ _
def zakn (S:List Sg) (Bf:Nat) (w:World) (e:Ending) (w':World):Prop :=
 ∃F:List FdD,e=.returned (.tuple #[])∧zus w' Bf F∧w.grownBy w' (some Bf)∧∀p:FdD,p∈F↔∃(i j:Nat) (s t:Sg),i<j∧S[i]?=some s∧S[j]?=some t∧p=(((i:Int),(j:Int)),zdo s t)∧zdo s t≠0
set_option maxRecDepth 100000 in
set_option maxHeartbeats 4000000 in
theorem zahu (v vI:Value) (Bf:Nat) (S:List Sg) (w:World) (hv:RowE zis 4 w v S) (hI:RowE zzq 1 w vI (List.range S.length)) (hf:zus w Bf []) (hl:S.length≤20000) :
  Calls Tryz.prog 76 #[v,vI,.map (some Bf)] w (zakn S Bf w):=by
 have mixed:Tryz.prog.follows .mixedOrders=true:=by kernel_rfl
 obtain ⟨a,cap,rfl,hc⟩:=hv;obtain ⟨aI,capI,rfl,hcI⟩:=hI;obtain ⟨N,hN⟩:∃N,S.length=N:=⟨_,rfl⟩;rw [hN] at hc hl hcI ⊢;rw [List.length_range] at hcI ⊢;have HN:=zH hN;have HC:=zH hc;have HCI:=zH hcI;have HF0:=zH hf;obtain ⟨i0,hi,hi0,hi1,hi2⟩:=info_parts zanu;have hbf:=hf.lt;clear hN hc hcI hf;go_enter Tryz.func76,Tryz.ntmps76;go_wp2_with fail;go_loopw [6,7,8,28] (fun v6 v7 v8 i wr=>∃(k:Nat) (lo hi:Int),i=.int .i64 k∧v7=.int .i64 lo∧v8=.int .i64 hi∧k≤N∧wr.ownsRow w.heap.size 48 4 v6 k ((S.take k).flatMap zis)∧Below w.heap.size w wr) (fun _ _ _ i _=>N - (intOf i).toNat);case atStart=>exact ⟨0,0,0,rfl,rfl,rfl,by omega,World.ownsRow_nil _ _ _ _,Below.refl _ _⟩
 case round =>
  obtain ⟨k,lo,hi',rfl,rfl,rfl,hk,hown,hbr⟩:=hrel;have HOWN:=zH hown;have HBR:=zH hbr;have hzr:=hbr.size;clear hown;by_cases hlt:k<N
  ·obtain ⟨s,hs⟩:∃s,S[k]?=some s:=⟨S[k]'(by rw [HN.out];exact hlt),List.getElem?_eq_getElem _⟩;obtain ⟨b,off,ha,hcell⟩:=HC.out (by omega);subst ha;obtain ⟨b2,off2,ha2,hcell2⟩:=HCI.out (by omega);subst ha2;have d0':=cell_later hbr (hcell k s hs 0 _ rfl);have d0:wr.cell? ⟨b,off+k * 4,none⟩=some (.int .i64 s.1.1):=d0';have d1:=cell_later hbr (hcell k s hs 1 _ rfl);have d2:=cell_later hbr (hcell k s hs 2 _ rfl);have d3:=cell_later hbr (hcell k s hs 3 _ rfl);have n0':=cell_later hbr (hcell2 k k (by rw [List.getElem?_range hlt]) 0 _ rfl);have n0:wr.cell? ⟨b2,off2+k,none⟩=some (.int .i64 k):=(by simpa using n0');have HTK:=zH (show (S.take (k+1)).flatMap zis=(S.take k).flatMap zis++zis s by
    obtain ⟨hk',e⟩:=List.getElem?_eq_some_iff.1 hs
    rw [List.take_succ_eq_append_getElem hk',e,List.flatMap_append];simp)
   have bz:=zag d0;have bz2:=zag n0;clear hcell hcell2 d0' n0' hs;obtain ⟨⟨x1,x2⟩,⟨x3,x4⟩⟩:=s;simp only [] at d0 d1 d2 d3 HTK;obtain ⟨z0,e0⟩:∃z,((k:Int)==0)=z:=⟨_,rfl⟩;cases z0 with
   |true =>
    have HX0:=zH (zan wr (.cells #[.int .i64 x1,.int .i64 x2,.int .i64 x3,.int .i64 x4] 48));go_wp2_with (at_builtin;refine wpList_append_own _ rfl _ _ 43 rfl w.heap.size 48 i0 (.agg #[.int .i64 0,.int .i64 0,.int .i64 0,.int .i64 0]) 4 32 Tryz.underlying43 hi hi0 hi1 hi2 rfl (by decide) _ _ _ rfl ((HOWN.out.alloc _).alloc _) ⟨wr.heap.size+1,0,none⟩ 1 1 (zis ((x1,x2),(x3,x4))) rfl rfl (zfs _ _ _ _) (zra _) (by unfold maxLen;omega) (by omega) (by simp;omega) ?_;intro v' w6 hown6 hgrow6 _);have B6:=zH (((HBR.out.alloc hzr _).alloc (by simp;omega) _).grown hgrow6 (by simp;omega) (fun j hj=>(zap HOWN.out j hj).1));have O6:=zH (show w6.ownsRow w.heap.size 48 4 v' (k+1) ((S.take (k+1)).flatMap zis) by rw [HTK.out];simpa using hown6)
    have HX6:=zH (zak hgrow6 (zao HX0.out) (fun e=>by have:=(zap HOWN.out _ e.symm).2;omega));have hz6:wr.heap.size+2≤w6.heap.size:=(by have:=hgrow6.size;simp at this;omega);clear hown6 hgrow6 d0 d1 d2 d3 n0 HX0 bz bz2;obtain ⟨Bx,hBx⟩:∃z,z=wr.heap.size:=⟨_,rfl⟩;rw [←hBx] at HX6 hz6 ⊢;clear hBx;obtain ⟨yz,y0,y1,y2,y3⟩:=rk4 HX6.out;have hmn:=fun W ts t=>zaas Tryz.prog W ts t x1 x3;have hmx:=fun W ts t=>zaau Tryz.prog W ts t x1 x3;have hmn3:=fun W ts t c=>zaar Tryz.prog W ts t c x1 x3;have hmx3:=fun W ts t c=>zaat Tryz.prog W ts t c x1 x3;clear HBR hbr HOWN HTK;go_quiet (fail);clear y0 y1 y2 y3 yz;have BQ:Below w6.heap.size w6 (w6.drewN nq):=(Below.refl _ _).drewN';generalize hw7:w6.drewN nq=w7;rw [hw7] at BQ;have HX7:=zH (zab BQ HX6.out);have B7:=zH (B6.out.trans (BQ.mono B6.out.size));have O7:=zH (zaq O6.out BQ);clear hw7 BQ;obtain ⟨yz,y0,y1,y2,y3⟩:=rk4 HX7.out;go_wp2_with fail;go_quiet (fail);clear y0 y1 y2 y3 yz;have BQ:Below w7.heap.size w7 (w7.drewN nq):=(Below.refl _ _).drewN';generalize hw8:w7.drewN nq=w8;rw [hw8] at BQ;have B8:=zH (B7.out.trans (BQ.mono B7.out.size));have O8:=zH (zaq O7.out BQ);clear hw8 BQ;go_wp2;go_roundw;case rel=>exact ⟨k+1,_,_,by go_num,rfl,rfl,by omega,O8.out,B8.out⟩
    case measure=>simp [intOf];omega
   |false =>
    have HX0:=zH (zan wr (.cells #[.int .i64 x1,.int .i64 x2,.int .i64 x3,.int .i64 x4] 48));go_wp2_with (at_builtin;refine wpList_append_own _ rfl _ _ 43 rfl w.heap.size 48 i0 (.agg #[.int .i64 0,.int .i64 0,.int .i64 0,.int .i64 0]) 4 32 Tryz.underlying43 hi hi0 hi1 hi2 rfl (by decide) _ _ _ rfl ((HOWN.out.alloc _).alloc _) ⟨wr.heap.size+1,0,none⟩ 1 1 (zis ((x1,x2),(x3,x4))) rfl rfl (zfs _ _ _ _) (zra _) (by unfold maxLen;omega) (by omega) (by simp;omega) ?_;intro v' w6 hown6 hgrow6 _);have B6:=zH (((HBR.out.alloc hzr _).alloc (by simp;omega) _).grown hgrow6 (by simp;omega) (fun j hj=>(zap HOWN.out j hj).1));have O6:=zH (show w6.ownsRow w.heap.size 48 4 v' (k+1) ((S.take (k+1)).flatMap zis) by rw [HTK.out];simpa using hown6)
    have HX6:=zH (zak hgrow6 (zao HX0.out) (fun e=>by have:=(zap HOWN.out _ e.symm).2;omega));have hz6:wr.heap.size+2≤w6.heap.size:=(by have:=hgrow6.size;simp at this;omega);clear hown6 hgrow6 d0 d1 d2 d3 n0 HX0 bz bz2;obtain ⟨Bx,hBx⟩:∃z,z=wr.heap.size:=⟨_,rfl⟩;rw [←hBx] at HX6 hz6 ⊢;clear hBx;obtain ⟨yz,y0,y1,y2,y3⟩:=rk4 HX6.out;have hmn:=fun W ts t=>zaas Tryz.prog W ts t x1 x3;have hmx:=fun W ts t=>zaau Tryz.prog W ts t x1 x3;have hmn3:=fun W ts t c=>zaar Tryz.prog W ts t c x1 x3;have hmx3:=fun W ts t c=>zaat Tryz.prog W ts t c x1 x3;clear HBR hbr HOWN HTK;go_quiet (fail);clear y0 y1 y2 y3 yz;have BQ:Below w6.heap.size w6 (w6.drewN nq):=(Below.refl _ _).drewN';generalize hw8:w6.drewN nq=w8;rw [hw8] at BQ;have B8:=zH (B6.out.trans (BQ.mono B6.out.size));have O8:=zH (zaq O6.out BQ);clear hw8 BQ;go_wp2;go_roundw;case rel=>exact ⟨k+1,_,_,by go_num,rfl,rfl,by omega,O8.out,B8.out⟩
    case measure=>simp [intOf];omega
  ·obtain rfl:k=N:=(by omega);have HR:=zH (show RowE zis 4 wr u6 S by
    have h:=HOWN.out
    rw [List.take_of_length_le (by rw [HN.out];exact Nat.le_refl _)] at h
    exact RowE.of_own zwn HN.out.symm h)
   have e0:decide ((k:Int)≤20000)=true:=decide_eq_true (by omega);obtain ⟨u,capu,hu,hcu⟩:=HR.out;rw [HN.out] at hu;subst hu;have HRR:=zH (zang (.slice u k capu) S wr (by have:=HR.out;exact this) (by rw [HN.out];exact hl));clear HR hcu HOWN;go_wp2_with fail;refine HRR.out.mono ?_;rintro e w5 ⟨vM,M,rfl,hM,hMl,hMm,hb5⟩;rw [HN.out] at hMl;have hMl2:M.length≤400000000:=Nat.le_trans hMl (Nat.le_trans (Nat.mul_le_mul hl hl) (by omega));have B5:=zH (hbr.trans (hb5.mono hzr));have HF5:=zH (HF0.out.on B5.out);have HMM:=zH hMm;have HDET:=zH (show ∀m∈M,∀m'∈M,m.1=m'.1→m.2.1=m'.2.1→m.2.2=m'.2.2 from fun m h1 m' h2 e1 e2=>by
    obtain ⟨s,t,_,hs,ht,hk,_⟩:=(hMm m).1 h1
    obtain ⟨s',t',_,hs',ht',hk',_⟩:=(hMm m').1 h2
    rw [←e1,hs] at hs'
    rw [←e2,ht] at ht'
    injection hs' with hs'
    injection ht' with ht'
    rw [hk,hk',hs',ht'])
   have HLT:=zH (show ∀m∈M,m.1<k∧m.2.1<k from fun m h1=>by
    obtain ⟨s,t,_,hs,ht,hk,_⟩:=(hMm m).1 h1
    have a1:=(List.getElem?_eq_some_iff.1 hs).1
    have a2:=(List.getElem?_eq_some_iff.1 ht).1
    rw [HN.out] at a1 a2
    exact ⟨a1,a2⟩)
   obtain ⟨aM,capM,rfl,hcM⟩:=hM;have HCM:=zH hcM;obtain ⟨Z,hZ⟩:∃Z,M.length=Z:=⟨_,rfl⟩;have HZ:=zH hZ;rw [hZ] at hMl2 hMl ⊢;clear hMm hb5 hcM hZ HRR;obtain ⟨wo,rfl⟩:∃wo:World,wo=wr:=⟨_,rfl⟩;go_wp2_with fail;go_loopw [84] (fun i wr=>∃(q:Nat) (F:List FdD),i=.int .i64 q∧q≤Z∧zus wr Bf F∧F.length≤q∧(∀p,p∈F↔∃m∈M.take q,p=toFd m)∧w5.grownBy wr (some Bf)) (fun i _=>Z - (intOf i).toNat);case atStart=>exact ⟨0,[],rfl,by omega,HF5.out,by simp,by simp,World.grownBy.refl _ _⟩
   case round =>
    obtain ⟨q,F,rfl,hq,hF,hFl,hFm,hgr⟩:=hrel;have HFQ:=zH hF;have HFM:=zH hFm;have HGR:=zH hgr;clear hF hFm hgr;by_cases hlt:q<Z
    ·obtain ⟨m,hm⟩:∃m,M[q]?=some m:=⟨M[q]'(by rw [HZ.out];exact hlt),List.getElem?_eq_getElem _⟩;obtain ⟨b,off,ha,hcell⟩:=HCM.out (by rw [HZ.out];omega);subst ha;have HNB:=zH (HF5.out.apart (hcell q m hm 0 _ rfl));have d0':=zjk HGR.out (hcell q m hm 0 _ rfl) (fun e=>HNB.out (by injection e));have d1:=zjk HGR.out (hcell q m hm 1 _ rfl) (fun e=>HNB.out (by injection e));have d2:=zjk HGR.out (hcell q m hm 2 _ rfl) (fun e=>HNB.out (by injection e));have d0:wr.cell? ⟨b,off+q * 3,none⟩=some (.int .i64 m.1):=d0';obtain ⟨m1,m2⟩:=HLT.out m (zM hm);have HM:=zH hm;obtain ⟨b2,off2,ha2,hcell2⟩:=HCI.out (by omega);subst ha2;have HLC:=zH (show ∀(x:Nat) W,x<k→wr.grownBy W (some Bf)→W.cell? ⟨b2,off2+x,none⟩=some (.int .i64 x) from fun x W hx hW=>by
      have h:=hcell2 x x (by rw [List.getElem?_range hx]) 0 _ rfl
      have h5:=cell_later B5.out h
      have h6:=zjk HGR.out h5 (fun e=>HF5.out.apart h5 (by injection e))
      have h7:=zjk hW h6 (fun e=>HFQ.out.apart h6 (by injection e))
      simpa using h7)
     have bz:=zag d0;clear hcell hcell2 d0' hm;obtain ⟨ma,mb,mk⟩:=m;simp only [] at d0 d1 d2 m1 m2;go_wp2_with fail;generalize hw7:wr.alloc _=w7;have BX:=gB1 hw7;have HX:=gA11 hw7;obtain ⟨Bx,hBx⟩:∃z,z=wr.heap.size:=⟨_,rfl⟩;rw [←hBx] at HX ⊢;have hxf:Bx≠Bf:=(by have:=HFQ.out.lt;omega);have HX7:=zH HX;have G7:=zH (zct BX (some Bf));have F7:=zH (HFQ.out.on BX);have HFL:=zH hFl;have i1:(0:Int)≤(ma:Int):=(by omega);have i2:(ma:Int)<(k:Int):=(by omega);have i3:((ma:Int)).toNat=ma:=(by omega);have i4:(0:Int)≤(mb:Int):=(by omega);have i5:(mb:Int)<(k:Int):=(by omega);have i6:((mb:Int)).toNat=mb:=(by omega);clear hw7 hBx d0 d1 d2 bz BX HX hFl;refine wp_region_mix 14 (fun W=>wr.grownBy W (some Bf)∧W.heap[Bx]?=some (.cells #[.int .i64 ma,.int .i64 mb,.int .i64 mk] 188)) (fun W=>Below w7.heap.size w7 W) mixed (by kernel_rfl) (by kernel_rfl) (by kernel_rfl) (StableW.below _ _ zR) (fun W hW=>⟨G7.out.trans (zct hW _),zab hW HX7.out⟩) (Below.refl _ _).drew ?_;apply Exists.intro;refine ⟨fun W hW=>?_,?_⟩
     ·obtain ⟨hW1,HX⟩:=hW;have HXh:=zH HX;obtain ⟨xz,x0,x1,x2⟩:=rk3 HXh.out;have qx0:=zaa x0;have qx1:=zaa x1;have qx2:=zaa x2;clear x0 x1 x2;have l1:=zaa (HLC.out ma W m1 hW1);have l2:=zaa (HLC.out mb W m2 hW1);have bz2:=zag (HLC.out ma W m1 hW1);clear HX;simp only [List.take_succ_cons,List.take_zero];repeat (go_big_quiet_step (fail))
      exact wpQuiet_nil rfl
     ·simp only [List.drop_succ_cons,List.drop_zero];refine tailM_step (ι:=Unit) (fun _=>undef) (fun _ W=>(wr.grownBy W (some Bf)∧W.heap[Bx]?=some (.cells #[.int .i64 ma,.int .i64 mb,.int .i64 mk] 188))∧zus W Bf (aput (toFd (ma,mb,mk)).1 (toFd (ma,mb,mk)).2 F)) rfl (fun _=>((StableW.grown _ _).and (StableW.row _ _)).and (StableW.mapAt _ _ _ _ _ _)) (fun _ _ h=>h.1) (fun W hS K hK=>?_) (fun _=>?_)
      ·obtain ⟨w9,hr9,hf9,hg9⟩:=(F7.out.on hS).put zarl zne Tryz.underlying128 (by unfold maxLen;have:=HFL.out;omega) ((ma:Int),(mb:Int)) (zapm (zanl (by omega)) (zanl (by omega))) mk;have HX9:=zak hg9 (zab hS HX7.out) (fun e=>hxf (by injection e));have G9:=(G7.out.trans (zct hS (some Bf))).trans hg9;have HK:=hK () w9 ⟨⟨G9,HX9⟩,hf9⟩;clear hK;go_simp;exact HK
      simp only [Act.put];refine tailM_nil fun W hW=>?_;obtain ⟨⟨hW1,-⟩,hW2⟩:=hW;have HW1:=zH (HGR.out.trans hW1);have HW2:=zH hW2;clear hW1 hW2;go_wp2;go_roundw;case rel=>exact ⟨q+1,_,by go_num,by omega,HW2.out,Nat.le_trans (zde _ _ _) (by have:=HFL.out;omega),zarb HDET.out HM.out HFM.out,HW1.out⟩
      case measure=>simp [intOf];omega
    ·obtain rfl:q=Z:=(by omega);go_wp2
     (try simp only [Exit.inBlock,Exit.then])
     refine bodyPost_ret (results_none rfl _ _ _) rfl ?_;refine ⟨F,rfl,HFQ.out,(zct B5.out (some Bf)).trans HGR.out,fun p=>?_⟩;rw [HFM.out p,List.take_of_length_le (by rw [HZ.out];exact Nat.le_refl _)];constructor
     ·rintro ⟨m,hm,rfl⟩;obtain ⟨s,t,h1,h2,h3,h4,h5⟩:=(HMM.out m).1 hm;exact ⟨m.1,m.2.1,s,t,h1,h2,h3,by rw [←h4];rfl,by rw [←h4];exact h5⟩
     ·rintro ⟨i,j,s,t,h1,h2,h3,rfl,h5⟩;exact ⟨(i,j,zdo s t),(HMM.out _).2 ⟨s,t,h1,h2,h3,rfl,h5⟩,rfl⟩
end Go.Proofs.YtibpaaajghbkoaaGreat

namespace Go.Proofs.YtibpaaajghbkoaaGreat
open Go.RowKit Go.Sort Go.Maps
def cmpL:List ByteArray→List ByteArray→Int
 |[],[]=>0
 |[],_ :: _=>-1
 |_ :: _,[]=>1
 |a :: p,b :: q=>if cmpS a b=0 then cmpL p q else cmpS a b
theorem zajo {s t:List ByteArray} {i:Nat} {a b:ByteArray} (ha:s[i]?=some a) (hb:t[i]?=some b):cmpL (s.drop i) (t.drop i)=if cmpS a b=0 then cmpL (s.drop (i+1)) (t.drop (i+1)) else cmpS a b:=by obtain ⟨h1,e1⟩:=List.getElem?_eq_some_iff.1 ha;obtain ⟨h2,e2⟩:=List.getElem?_eq_some_iff.1 hb;rw [List.drop_eq_getElem_cons h1,List.drop_eq_getElem_cons h2,e1,e2,cmpL]
theorem zamy {t:List ByteArray}:cmpL [] t=if t.length=0 then 0 else -1:=by cases t<;>simp [cmpL]
theorem zajn {s:List ByteArray} (h:0<s.length):cmpL s []=1:=by
 cases s with
 |nil=>simp at h
 |cons a s=>rfl
set_option maxRecDepth 100000 in
set_option maxHeartbeats 2000000 in
theorem zxc (v1 v2:Value) (s t:List ByteArray) (w:World) (h1:zaj w v1 s) (h2:zaj w v2 t) :
  Calls Tryz.prog 80 #[v1,v2] w fun e w'=>e=.returned (.int .i64 (cmpL s t))∧w'=w:=by
 obtain ⟨a1,c1,rfl,n1,z1,hc1⟩:=h1;obtain ⟨a2,c2,rfl,n2,z2,hc2⟩:=h2;have HC1:=zH hc1;have HC2:=zH hc2;obtain ⟨N1,hN1⟩:∃N,s.length=N:=⟨_,rfl⟩;obtain ⟨N2,hN2⟩:∃N,t.length=N:=⟨_,rfl⟩;rw [hN1] at n1 ⊢;rw [hN2] at n2 ⊢;have H1:=zH hN1;have H2:=zH hN2;obtain ⟨res,hres⟩:∃r,r=cmpL s t:=⟨_,rfl⟩;have HR:=zH hres;rw [←hres];clear hc1 hc2 z1 z2 hN1 hN2 hres;go_enter Tryz.func80,Tryz.ntmps80;go_wp2_with fail;go_loopw [11] (fun i wr=>∃k:Nat,i=.int .i64 k∧k≤N1∧k≤N2∧cmpL (s.drop k) (t.drop k)=res∧wr=w) (fun i _=>N1 - (intOf i).toNat);case atStart=>exact ⟨0,rfl,by omega,by omega,by rw [HR.out];rfl,rfl⟩
 case round =>
  obtain ⟨k,rfl,hk1,hk2,hres,rfl⟩:=hrel;have HE:=zH hres;clear hres;by_cases l1:k<N1
  ·obtain ⟨x,hx⟩:∃x,s[k]?=some x:=⟨s[k]'(by rw [H1.out];exact l1),List.getElem?_eq_getElem _⟩;obtain ⟨b1,o1,ha1,hcell1⟩:=HC1.out (by rw [H1.out];omega);subst ha1;have d1:=hcell1 k x hx;have bz1:=zag d1;have HX:=zH hx;clear hcell1 hx;by_cases l2:k<N2
   ·obtain ⟨y,hy⟩:∃y,t[k]?=some y:=⟨t[k]'(by rw [H2.out];exact l2),List.getElem?_eq_getElem _⟩;obtain ⟨b2,o2,ha2,hcell2⟩:=HC2.out (by rw [H2.out];omega);subst ha2;have d2:=hcell2 k y hy;have bz2:=zag d2;have HD:=zH (zajo HX.out hy);have CC:=zH (zpo x y);obtain ⟨c,hc⟩:∃c,c=cmpS x y:=⟨_,rfl⟩;rw [←hc] at HD CC;clear hcell2 hy hc;go_wp2_with fail;refine (CC.out _).mono ?_;rintro e w2 ⟨rfl,rfl⟩;obtain ⟨z,hz⟩:∃z,(c != 0)=z:=⟨_,rfl⟩;cases z with
    |true =>have hc0:c≠0:=(by rw [bne_iff_ne] at hz;exact hz);have HV:=zH (show c=res by rw [←HE.out,HD.out,if_neg hc0]);clear hc0;go_wp2;go_ret;exact ⟨by rw [HV.out]<;>rfl,by first | rfl | trivial⟩
    |false =>
     have hc0:c=0:=(by simpa using hz);have HV:=zH (show cmpL (s.drop (k+1)) (t.drop (k+1))=res by rw [←HE.out,HD.out,if_pos hc0]);clear hc0;go_wp2;go_roundw;case rel=>exact ⟨k+1,by go_num,by omega,by omega,HV.out,by first | rfl | trivial⟩
     case measure=>simp [intOf];omega
   ·obtain rfl:k=N2:=(by omega);have HV:=zH (show res=1 by
     rw [←HE.out,List.drop_of_length_le (l:=t) (by rw [H2.out];exact Nat.le_refl _)]
     exact zajn (by rw [List.length_drop,H1.out];omega))
    go_wp2;go_ret;exact ⟨by rw [HV.out]<;>rfl,by first | rfl | trivial⟩
  ·obtain rfl:k=N1:=(by omega);have HV:=zH (show res=if N2≤k then 0 else -1 by
    rw [←HE.out,List.drop_of_length_le (l:=s) (by rw [H1.out];exact Nat.le_refl _),zamy,List.length_drop,H2.out]
    by_cases h:N2≤k
    ·rw [if_pos h,if_pos (by omega)]
    ·rw [if_neg h,if_neg (by omega)])
   by_cases l2:k<N2
   ·have HV2:=zH (show res=-1 by rw [HV.out,if_neg (by omega)]);go_wp2;go_ret;exact ⟨by rw [HV2.out]<;>rfl,by first | rfl | trivial⟩
   ·have HV2:=zH (show res=0 by rw [HV.out,if_pos (by omega)]);go_wp2;go_ret;exact ⟨by rw [HV2.out]<;>rfl,by first | rfl | trivial⟩
abbrev evB (b:Bool):Value:=.bool b
def zet (w:World) (b:Nat) (N:List KeyD):Prop:=zbj Tryz.prog 83 keyV evB w b (N.map fun k=>(k,true))
def zqi (k:KeyD) (N:List KeyD):List KeyD:=if k∈N then N else N++[k]
theorem zxk (k:KeyD):∀N:List KeyD,aput k true (N.map fun k=>(k,true))=(zqi k N).map fun k=>(k,true)
 |[]=>rfl
 |x :: N=>by
  have ih:=zxk k N;rw [List.map_cons,aput];by_cases e:x=k
  ·subst e;simp [zqi]
  ·have e':¬k=x:=fun c=>e c.symm;simp only [e,if_false];rw [ih];unfold zqi;by_cases hm:k∈N
   ·simp [hm]
   ·simp [hm,e']
theorem ztr {k x:KeyD} {N:List KeyD}:x∈zqi k N↔x=k∨x∈N:=by
 unfold zqi;split
 ·rename_i h;constructor
  ·exact Or.inr
  ·rintro (rfl | h');exact h;exact h'
 ·simp [or_comm]
theorem zet.on {w w':World} {b:Nat} {N:List KeyD} (h:zet w b N) (hb:Below w.heap.size w w'):zet w' b N:=zbj.on h hb
set_option maxRecDepth 100000 in
set_option maxHeartbeats 1000000 in
theorem zts (a b:ByteArray) (Bc Bb:Nat) (N:List KeyD) (w:World) (ha:a.size≤140737488355328) (hb:b.size≤140737488355328) (hc:w.heap[Bc]?=some (.cells #[.map (some Bb)] 123)) (hn:zet w Bb N) (hl:N.length<maxLen) :
  Calls Tryz.prog 74 #[.string a,.string b,.pointer (some ⟨Bc,0,none⟩)] w fun e w'=>e=.returned (.tuple #[])∧zet w' Bb (zqi (key2 a b) N)∧w.grownBy w' (some Bb):=by
 have hmin:=zlj Tryz.prog;have hmax':=zlk Tryz.prog;have hc':=zH hc;clear hc;obtain ⟨pz,p0⟩:=rk1 hc'.out;obtain ⟨w9,hr9,hf9,hg9⟩:=zbj.put hn keyK zka Tryz.underlying123 (by rw [List.length_map];exact hl) (key2 a b) (zud (k:=key2 a b) (by unfold key2 minB;simp only;split;exact hb;exact ha) (by unfold key2 maxB;simp only;split;exact hb;exact ha)) true;have HF:=zH (show zet w9 Bb (zqi (key2 a b) N) by unfold zet;rw [←zxk];exact hf9);have HG:=zH hg9;simp only [keyV,key2,evB] at hr9;clear hn hl hf9 hg9 ha hb;go_enter Tryz.func74,Tryz.ntmps74;go_wp2;refine Go.Great.bodyPost_end0 rfl rfl ?_;exact ⟨rfl,HF.out,HG.out⟩
theorem zxd (x y:List UInt8):Lib.compact [x,y]=if x=y then [x] else [x,y]:=by
 unfold Lib.compact Lib.compactUpTo;by_cases h:x=y
 ·subst h;have e:(List.range 2).filter (Lib.keeps #[x,x])=[0]:=by simp [List.range,List.range.loop,Lib.keeps]
  simp only [List.length_cons,List.length_nil,Nat.zero_add,Nat.reduceAdd];rw [e];simp
 ·have e:(List.range 2).filter (Lib.keeps #[x,y])=[0,1]:=by simp [List.range,List.range.loop,Lib.keeps];exact fun c=>h c.symm
  simp only [List.length_cons,List.length_nil,Nat.zero_add,Nat.reduceAdd];rw [e,if_neg h];simp
theorem zzv (k:KeyD) (B:Nat) (w:World) (h1:k.1.size≤140737488355328) (h2:k.2.size≤140737488355328) (h:w.heap[B]?=some (.cells #[.string k.1,.string k.2] 83 (0,0))) :
  Calls Tryz.prog 77 #[.slice (some ⟨B,0,none⟩) 2 2] w fun e w'=>∃n:Nat,e=.returned (.slice (some ⟨B,0,none⟩) n 2)∧zaj w' (.slice (some ⟨B,0,none⟩) n 2) (idsK k)∧w.grownBy w' (some B):=by
 obtain ⟨x,y⟩:=k;simp only [] at h h1 h2;have hS:Lib.strsOf (fun i=>if i=0 then x else y) 2=[x.data.toList,y.data.toList]:=rfl;refine (Tryz.slices_Compact_string_cells B 0 2 2 (fun i=>if i=0 then x else y) w (by omega) (by omega) (fun i hi=>?_) (fun j _=>frozen_of_row w _ _ _ _ h)).mono ?_
 ·have hh:=cell_of_row w _ (0+i) _ _ _ h;rw [hh];rcases (show i=0∨i=1 by omega) with rfl | rfl<;>rfl
 ·rintro e w' ⟨rfl,q,rfl⟩;rw [hS,zxd];have hd:(w.drewN q).heap[B]?=some (.cells #[.string x,.string y] 83 (0,0)):=h;have hg:w.grownBy (w.drewN q) (some B):=zct ((Below.refl _ _).drewN') _;have hxy:x.data.toList=y.data.toList↔x=y:=⟨fun e=>by cases x;cases y;simp at e;rw [e],fun e=>by rw [e]⟩;by_cases e:x=y
  ·subst e;rw [if_pos rfl];refine ⟨1,rfl,?_,hg.trans (zal _ _ _)⟩;have hb:=zbf (([x.data.toList]++List.replicate (2 - [x.data.toList].length) []).map encStr) 0 _ _ hd;refine ⟨some ⟨B,0,none⟩,2,by simp [idsK],by simp [idsK],by simp [idsK];exact h1,fun _=>⟨B,0,rfl,fun i s hs=>?_⟩⟩;simp only [idsK,if_true] at hs;have hi:i=0:=(by have:=(List.getElem?_eq_some_iff.1 hs).1;simp at this;exact this);subst hi;simp at hs;subst hs;rw [cell_of_row _ _ (0+0) _ _ _ hb];rfl
  ·rw [if_neg (fun c=>e (hxy.1 c))];refine ⟨2,rfl,?_,hg.trans (zal _ _ _)⟩;have hb:=zbf (([x.data.toList,y.data.toList]++List.replicate (2 - [x.data.toList,y.data.toList].length) []).map encStr) 0 _ _ hd;refine ⟨some ⟨B,0,none⟩,2,by simp [idsK,e],by simp [idsK,e],by simp [idsK,e];exact ⟨h1,h2⟩,fun _=>⟨B,0,rfl,fun i s hs=>?_⟩⟩;simp only [idsK,e,if_false] at hs;have hi:i=0∨i=1:=(by have:=(List.getElem?_eq_some_iff.1 hs).1;simp at this;omega);rw [cell_of_row _ _ (0+i) _ _ _ hb];rcases hi with rfl | rfl
   ·simp at hs;subst hs;rfl
   ·simp at hs;subst hs;rfl
def zeg (x:zeh):List Value:=[.string ⟨#[]⟩,.int .i64 2,.slice x.2.1 x.2.2.1 x.2.2.2]
theorem zgv (x:zeh):(zeg x).length=3:=rfl
theorem znj (x:zeh):∀v∈zeg x,v.oneCell'=true:=by intro v hv;simp only [zeg,List.mem_cons,List.not_mem_nil,or_false] at hv;rcases hv with rfl | rfl | rfl<;>rfl
def OrdK (k:KeyD):Prop:=ltB k.2 k.1=false
theorem zacb {a b:ByteArray} (h:ltB a b=true):cmpS a b=-1∧cmpS b a=1:=by
 unfold cmpS;have:ltB b a=false:=by
  cases h2:ltB b a with
  |false=>rfl
  |true=>have:=zdz h h2;rw [zbp] at this;cases this
 rw [h,this];exact ⟨rfl,rfl⟩
theorem zapr {a b:KeyD} (ha:OrdK a) (hb:OrdK b):cmpL (idsK a) (idsK b)=cmpK a b:=by
 obtain ⟨p,s⟩:=a;obtain ⟨q,r⟩:=b;unfold OrdK at ha hb;simp only [] at ha hb;have z:∀x,cmpS x x=0:=fun x=>zky.2 rfl;unfold idsK cmpK;by_cases e1:p=s
 ·subst e1;by_cases e2:q=r
  ·subst e2;simp only [if_true];simp only [cmpL];by_cases h:cmpS p q=0<;>simp [h]
  ·simp only [if_true,e2,if_false];simp only [cmpL];by_cases h:cmpS p q=0
   ·have:=zky.1 h;subst this;have:ltB p r=true:=by
     cases h2:ltB p r with
     |true=>rfl
     |false=>exact absurd (zep h2 hb) e2
    simp [h,(zacb this).1]
   ·simp [h]
 ·by_cases e2:q=r
  ·subst e2;simp only [if_true,e1,if_false];simp only [cmpL];by_cases h:cmpS p q=0
   ·have:=zky.1 h;subst this;have:ltB p s=true:=by
     cases h2:ltB p s with
     |true=>rfl
     |false=>exact absurd (zep h2 ha) e1
    simp [h,(zacb this).2]
   ·simp [h]
  ·simp only [e1,e2,if_false];simp only [cmpL];by_cases h:cmpS p q=0
   ·by_cases h2:cmpS s r=0<;>simp [h,h2]
   ·simp [h]
set_option maxHeartbeats 1000000 in
theorem zaod (x y:zeh) (w:World) (hx:zaj w (.slice x.2.1 x.2.2.1 x.2.2.2) (idsK x.1)) (hy:zaj w (.slice y.2.1 y.2.2.1 y.2.2.2) (idsK y.1)) (ox:OrdK x.1) (oy:OrdK y.1) :
  Calls Tryz.prog 79 #[.agg (zeg x).toArray,.agg (zeg y).toArray] w fun e w'=>e=.returned (.int .i64 (cfLn x y))∧Grew w w':=by
 have C1:=zH (fun W hb=>zxc _ _ _ _ W (hx.later (w':=W) hb) (hy.later hb));rw [show cfLn x y=cmpL (idsK x.1) (idsK y.1) from (zapr ox oy).symm];generalize cmpL (idsK x.1) (idsK y.1)=r at C1 ⊢;clear ox oy hx hy;obtain ⟨⟨x1,x2⟩,xa,xn,xc⟩:=x;obtain ⟨⟨y1,y2⟩,ya,yn,yc⟩:=y;simp only [zeg] at C1 ⊢;go_enter Tryz.func79,Tryz.ntmps79;go_wp2_with fail;have G1:Grew w ((w.alloc (.cells #[.string ⟨#[]⟩,.int .i64 2,.slice xa xn xc] 102)).alloc (.cells #[.string ⟨#[]⟩,.int .i64 2,.slice ya yn yc] 102)):=((Grew.refl w).alloc _).alloc _;refine (C1.out _ G1.below).mono ?_;rintro e w2 ⟨rfl,rfl⟩;go_wp2;go_ret;exact ⟨rfl,G1⟩
end Go.Proofs.YtibpaaajghbkoaaGreat

namespace Go.Proofs.YtibpaaajghbkoaaGreat
def ndsK (ks:List KeyD):List ByteArray:=ks.flatMap fun k=>[k.1,k.2]
def zoq (l:List ObjD) (ds:List ByteArray) (f:Pt→List ByteArray):Prop:=∀q,(f q).length≤ds.length∧∀id,id∈f q↔id∈ds∧ptO l id=q
def zld (l:List ObjD) (ds:List ByteArray) (N:List KeyD):Prop:=∀key,key∈N↔∃a∈ds,∃b∈ds,a≠b∧ptO l a=ptO l b∧key=key2 a b
theorem zoq.nil (l:List ObjD):zoq l [] fun _=>[]:=fun q=>⟨Nat.le_refl _,fun id=>by simp⟩
theorem zld.nil (l:List ObjD):zld l [] []:=fun key=>by simp
theorem ztw {α:Type} {x y:α} {l:List α} (hx:x∈l):y∈l++[x]↔y∈l:=by rw [List.mem_append,List.mem_singleton];exact ⟨fun h=>h.elim id fun e=>e ▸ hx,Or.inl⟩
theorem zoq.old {l:List ObjD} {ds:List ByteArray} {f:Pt→List ByteArray} {id:ByteArray} (h:zoq l ds f) (hid:id∈f (ptO l id)):zoq l (ds++[id]) f:=fun q=>by have hm:=((h _).2 id).1 hid;refine ⟨Nat.le_trans (h q).1 (by simp),fun x=>?_⟩;rw [(h q).2 x,ztw hm.1]
theorem zld.old {l:List ObjD} {ds:List ByteArray} {N:List KeyD} {id:ByteArray} (h:zld l ds N) (hid:id∈ds):zld l (ds++[id]) N:=fun key=>by
 rw [h key];constructor
 ·rintro ⟨a,ha,b,hb,h⟩;exact ⟨a,List.mem_append_left _ ha,b,List.mem_append_left _ hb,h⟩
 ·rintro ⟨a,ha,b,hb,h⟩;exact ⟨a,(ztw hid).1 ha,b,(ztw hid).1 hb,h⟩
theorem zoq.new {l:List ObjD} {ds:List ByteArray} {f g:Pt→List ByteArray} {id:ByteArray} (h:zoq l ds f) (hg:∀q,g q=if q=ptO l id then f q++[id] else f q):zoq l (ds++[id]) g:=fun q=>by
 rw [hg q];by_cases e:q=ptO l id
 ·rw [if_pos e];refine ⟨by have:=(h q).1;simp;exact this,fun x=>?_⟩;rw [List.mem_append,List.mem_append,(h q).2 x,List.mem_singleton];constructor
  ·rintro (⟨a,b⟩ | rfl)
   ·exact ⟨Or.inl a,b⟩
   ·exact ⟨Or.inr rfl,e.symm⟩
  ·rintro ⟨a | rfl,b⟩
   ·exact Or.inl ⟨a,b⟩
   ·exact Or.inr rfl
 ·rw [if_neg e];refine ⟨Nat.le_trans (h q).1 (by simp),fun x=>?_⟩;rw [(h q).2 x,List.mem_append,List.mem_singleton];constructor
  ·rintro ⟨a,b⟩;exact ⟨Or.inl a,b⟩
  ·rintro ⟨a | rfl,b⟩
   ·exact ⟨a,b⟩
   ·exact absurd b.symm e
def zhb (N0 N:List KeyD) (G:List ByteArray) (id:ByteArray):Prop:=∀key,key∈N↔key∈N0∨∃o∈G,key=key2 o id
theorem zhb.nil (N0:List KeyD) (id:ByteArray):zhb N0 N0 [] id:=fun key=>by simp
theorem zhb.step {N0 N:List KeyD} {G:List ByteArray} {id o:ByteArray} {r:Nat} (h:zhb N0 N (G.take r) id) (ho:G[r]?=some o):zhb N0 (zqi (key2 o id) N) (G.take (r+1)) id:=fun key=>by
 obtain ⟨hk,e⟩:=List.getElem?_eq_some_iff.1 ho;rw [ztr,h key,List.take_succ_eq_append_getElem hk,e];constructor
 ·rintro (h | h | ⟨x,hx,h⟩)
  ·exact Or.inr ⟨o,by simp,h⟩
  ·exact Or.inl h
  ·exact Or.inr ⟨x,List.mem_append_left _ hx,h⟩
 ·rintro (h | ⟨x,hx,h⟩)
  ·exact Or.inr (Or.inl h)
  ·rcases List.mem_append.1 hx with hx | hx
   ·exact Or.inr (Or.inr ⟨x,hx,h⟩)
   ·rw [List.mem_singleton.1 hx] at h;exact Or.inl h
theorem zld.new {l:List ObjD} {ds:List ByteArray} {f:Pt→List ByteArray} {N N':List KeyD} {id:ByteArray} (h:zld l ds N) (hf:zoq l ds f) (hid:id ∉ f (ptO l id)) (hn:zhb N N' (f (ptO l id)) id):zld l (ds++[id]) N':=fun key=>by
 have hid':id ∉ ds:=fun c=>hid (((hf _).2 id).2 ⟨c,rfl⟩);rw [hn key,h key];constructor
 ·rintro (⟨a,ha,b,hb,h⟩ | ⟨o,ho,h⟩)
  ·exact ⟨a,List.mem_append_left _ ha,b,List.mem_append_left _ hb,h⟩
  ·obtain ⟨h1,h2⟩:=((hf _).2 o).1 ho;exact ⟨o,List.mem_append_left _ h1,id,by simp,fun c=>hid' (c ▸ h1),h2,h⟩
 ·rintro ⟨a,ha,b,hb,h1,h2,h3⟩;rcases List.mem_append.1 ha with ha | ha<;>rcases List.mem_append.1 hb with hb | hb
  ·exact Or.inl ⟨a,ha,b,hb,h1,h2,h3⟩
  ·rw [List.mem_singleton.1 hb] at h2 h3;exact Or.inr ⟨a,((hf _).2 a).2 ⟨ha,h2⟩,h3⟩
  ·rw [List.mem_singleton.1 ha] at h2 h3;exact Or.inr ⟨b,((hf _).2 b).2 ⟨hb,h2.symm⟩,by rw [h3,zgc]⟩
  ·rw [List.mem_singleton.1 ha,List.mem_singleton.1 hb] at h1;exact absurd rfl h1
def Crs (l:List ObjD) (p:FdD) (key:KeyD):Prop:=∃a b,(zau l)[p.1.1.toNat]?=some a∧(zau l)[p.1.2.toNat]?=some b∧a≠b∧¬(p.2=1∧comK a b=true)∧∃x∈ownF l l a,∃y∈ownF l l b,key=key2 x y
def ziq (l:List ObjD) (N0 N:List KeyD) (done:List FdD):Prop:=∀key,key∈N↔key∈N0∨∃p∈done,Crs l p key
theorem ziq.nil (l:List ObjD) (N0:List KeyD):ziq l N0 N0 []:=fun key=>by simp
theorem ziq.skip {l:List ObjD} {N0 N:List KeyD} {done:List FdD} {p:FdD} (h:ziq l N0 N done) (hp:∀key,¬Crs l p key):ziq l N0 N (done++[p]):=fun key=>by
 rw [h key];constructor
 ·rintro (h | ⟨x,hx,h⟩)
  ·exact Or.inl h
  ·exact Or.inr ⟨x,List.mem_append_left _ hx,h⟩
 ·rintro (h | ⟨x,hx,h⟩)
  ·exact Or.inl h
  ·rcases List.mem_append.1 hx with hx | hx
   ·exact Or.inr ⟨x,hx,h⟩
   ·rw [List.mem_singleton.1 hx] at h;exact absurd h (hp key)
def znt (N0 N:List KeyD) (X Y:List ByteArray):Prop:=∀key,key∈N↔key∈N0∨∃x∈X,∃y∈Y,key=key2 x y
def znu (N0 N:List KeyD) (x:ByteArray) (Y:List ByteArray):Prop:=∀key,key∈N↔key∈N0∨∃y∈Y,key=key2 x y
theorem znt.nil (N0:List KeyD) (Y:List ByteArray):znt N0 N0 [] Y:=fun key=>by simp
theorem znu.nil (N0:List KeyD) (x:ByteArray):znu N0 N0 x []:=fun key=>by simp
theorem znu.step {N0 N:List KeyD} {x y:ByteArray} {Y:List ByteArray} {s:Nat} (h:znu N0 N x (Y.take s)) (hy:Y[s]?=some y):znu N0 (zqi (key2 x y) N) x (Y.take (s+1)):=fun key=>by
 obtain ⟨hk,e⟩:=List.getElem?_eq_some_iff.1 hy;rw [ztr,h key,List.take_succ_eq_append_getElem hk,e];constructor
 ·rintro (h | h | ⟨z,hz,h⟩)
  ·exact Or.inr ⟨y,by simp,h⟩
  ·exact Or.inl h
  ·exact Or.inr ⟨z,List.mem_append_left _ hz,h⟩
 ·rintro (h | ⟨z,hz,h⟩)
  ·exact Or.inr (Or.inl h)
  ·rcases List.mem_append.1 hz with hz | hz
   ·exact Or.inr (Or.inr ⟨z,hz,h⟩)
   ·rw [List.mem_singleton.1 hz] at h;exact Or.inl h
theorem znt.step {N0 N N':List KeyD} {x:ByteArray} {X Y:List ByteArray} {r:Nat} (h:znt N0 N (X.take r) Y) (hx:X[r]?=some x) (h1:znu N N' x Y):znt N0 N' (X.take (r+1)) Y:=fun key=>by
 obtain ⟨hk,e⟩:=List.getElem?_eq_some_iff.1 hx;rw [h1 key,h key,List.take_succ_eq_append_getElem hk,e];constructor
 ·rintro ((h | ⟨z,hz,h⟩) | h)
  ·exact Or.inl h
  ·exact Or.inr ⟨z,List.mem_append_left _ hz,h⟩
  ·exact Or.inr ⟨x,by simp,h⟩
 ·rintro (h | ⟨z,hz,h⟩)
  ·exact Or.inl (Or.inl h)
  ·rcases List.mem_append.1 hz with hz | hz
   ·exact Or.inl (Or.inr ⟨z,hz,h⟩)
   ·rw [List.mem_singleton.1 hz] at h;exact Or.inr h
theorem ziq.step {l:List ObjD} {N0 N N':List KeyD} {done:List FdD} {p:FdD} {a b:KeyD} (h:ziq l N0 N done) (ha:(zau l)[p.1.1.toNat]?=some a) (hb:(zau l)[p.1.2.toNat]?=some b) (hne:a≠b) (hc:¬(p.2=1∧comK a b=true)) (ho:znt N N' (ownF l l a) (ownF l l b)):ziq l N0 N' (done++[p]):=fun key=>by
 rw [ho key,h key];constructor
 ·rintro ((h | ⟨x,hx,h⟩) | h)
  ·exact Or.inl h
  ·exact Or.inr ⟨x,List.mem_append_left _ hx,h⟩
  ·exact Or.inr ⟨p,by simp,a,b,ha,hb,hne,hc,h⟩
 ·rintro (h | ⟨x,hx,h⟩)
  ·exact Or.inl (Or.inl h)
  ·rcases List.mem_append.1 hx with hx | hx
   ·exact Or.inl (Or.inr ⟨x,hx,h⟩)
   ·rw [List.mem_singleton.1 hx] at h;obtain ⟨a',b',ha',hb',_,_,h⟩:=h;rw [ha] at ha';rw [hb] at hb';cases ha';cases hb';exact Or.inr h
def zmm (l:List ObjD) (N:List KeyD):Prop:=N.Nodup∧∀key∈N,OrdK key∧key.1∈l.map (·.id)∧key.2∈l.map (·.id)
theorem zmm.nil (l:List ObjD):zmm l []:=⟨List.nodup_nil,by simp⟩
theorem zmm.note {l:List ObjD} {N:List KeyD} (h:zmm l N) {a b:ByteArray} (ha:a∈l.map (·.id)) (hb:b∈l.map (·.id)):zmm l (zqi (key2 a b) N):=by
 refine ⟨?_,fun key hk=>?_⟩
 ·unfold zqi;split
  ·exact h.1
  ·rename_i hm;rw [List.nodup_append];exact ⟨h.1,by simp,fun x hx y hy e=>hm (by rw [←List.mem_singleton.1 hy,←e];exact hx)⟩
 ·rcases ztr.1 hk with rfl | hk
  ·refine ⟨zaip a b,?_⟩;rcases zhy a b with e | e<;>rw [e]
   ·exact ⟨ha,hb⟩
   ·exact ⟨hb,ha⟩
  ·exact h.2 key hk
theorem zwa {α:Type} [DecidableEq α]:∀{L M:List α},L.Nodup→(∀x∈L,x∈M)→L.length≤M.length
 |[],M,_,_=>Nat.zero_le _
 |x :: L,M,hn,hs=>by rw [List.nodup_cons] at hn;have hx:=hs x (List.mem_cons_self ..);have ih:=zwa (M:=M.erase x) hn.2 fun y hy=>(List.mem_erase_of_ne (a:=y) (b:=x) (fun e=>hn.1 (by rw [←e];exact hy))).2 (hs y (List.mem_cons_of_mem _ hy));rw [List.length_erase_of_mem hx] at ih;have:=List.length_pos_of_mem hx;simp;omega
theorem zmm.len {l:List ObjD} {N:List KeyD} (h:zmm l N):N.length≤l.length * l.length:=by
 have hp:∀(A B:List ByteArray),(A.flatMap fun a=>B.map fun b=>(a,b)).length=A.length * B.length:=by
  intro A B
  induction A with
  |nil=>simp
  |cons a A ih=>rw [List.flatMap_cons,List.length_append,ih,List.length_map,List.length_cons,Nat.succ_mul,Nat.add_comm]
 have:=zwa h.1 (M:=(l.map (·.id)).flatMap fun a=>(l.map (·.id)).map fun b=>(a,b)) fun key hk=>by obtain ⟨_,h1,h2⟩:=h.2 key hk;exact List.mem_flatMap.2 ⟨_,h1,List.mem_map.2 ⟨_,h2,rfl⟩⟩
 rw [hp,List.length_map] at this;exact this
theorem zahd {l:List ObjD} {N0 N:List KeyD} {F:List FdD} (h0:zld l (ndsK (zau l)) N0) (h:ziq l N0 N F)
  (hF:∀p:FdD,p∈F↔∃(i j:Nat) (s t:Sg),i<j∧((zau l).map (segB l))[i]?=some s∧((zau l).map (segB l))[j]?=some t∧p=(((i:Int),(j:Int)),zdo s t)∧zdo s t≠0) (key:KeyD):key∈N↔key∈badP l:=by
 rw [h key,h0 key,zit];have hn:ndsK (zau l)=zcz l:=by unfold ndsK zcz zcq;rw [List.flatMap_map]
 rw [hn];refine or_congr Iff.rfl ?_;constructor
 ·rintro ⟨p,hp,a,b,ha,hb,hne,hc,x,hx,y,hy,e⟩;obtain ⟨i,j,s,t,hij,hs,ht,rfl,hm⟩:=(hF p).1 hp;simp only [Int.toNat_natCast] at ha hb;rw [List.getElem?_map,ha] at hs;rw [List.getElem?_map,hb] at ht;injection hs with hs;injection ht with ht;subst hs ht;refine ⟨(a,ownF l l a),zaw.2 ⟨zM ha,rfl⟩,(b,ownF l l b),zaw.2 ⟨zM hb,rfl⟩,hne,?_,x,hx,y,hy,e⟩;rw [zhu] at hm hc;simp only [zdj];rw [decide_eq_true hm,Bool.true_and];cases hcm:comK a b with
  |false=>simp
  |true =>have:zav (segB l a) (segB l b)≠1:=fun c=>hc ⟨c,hcm⟩;simp [this]
 ·rintro ⟨p,hp,q,hq,hne,hc,x,hx,y,hy,e⟩;obtain ⟨hp1,hp2⟩:=zaw.1 hp;obtain ⟨hq1,hq2⟩:=zaw.1 hq;rw [hp2] at hx;rw [hq2] at hy;obtain ⟨i,hi⟩:=List.getElem?_of_mem hp1;obtain ⟨j,hj⟩:=List.getElem?_of_mem hq1;have key:∀(a b:KeyD) (i j:Nat),i<j→(zau l)[i]?=some a→(zau l)[j]?=some b→zdj l a b=true→(((i:Int),(j:Int)),zdo (segB l a) (segB l b))∈F∧¬(zdo (segB l a) (segB l b)=1∧comK a b=true):=by intro a b i j hij ha hb hc;unfold zdj at hc;rw [Bool.and_eq_true,decide_eq_true_eq,Bool.not_eq_true'] at hc;rw [zhu];refine ⟨(hF _).2 ⟨i,j,segB l a,segB l b,hij,by rw [List.getElem?_map,ha];rfl,by rw [List.getElem?_map,hb];rfl,by rw [zhu],by rw [zhu];exact hc.1⟩,fun ⟨c1,c2⟩=>?_⟩;have:=hc.2;rw [c2,c1] at this;simp at this
  rcases Nat.lt_trichotomy i j with hij | rfl | hij
  ·obtain ⟨h1,h2⟩:=key p.1 q.1 i j hij hi hj hc;exact ⟨_,h1,p.1,q.1,by simpa using hi,by simpa using hj,hne,h2,x,hx,y,hy,e⟩
  ·rw [hi] at hj;injection hj with hj;exact absurd hj hne
  ·obtain ⟨h1,h2⟩:=key q.1 p.1 j i hij hj hi (by rw [zmg];exact hc);exact ⟨_,h1,q.1,p.1,by simpa using hj,by simpa using hi,fun c=>hne c.symm,h2,y,hy,x,hx,by rw [e,zgc]⟩
end Go.Proofs.YtibpaaajghbkoaaGreat

namespace Go.Proofs.YtibpaaajghbkoaaGreat
open Go.RowKit Go.Maps
theorem zmv (k:KeyD) (h1:k.1.size≤140737488355328) (h2:k.2.size≤140737488355328):∃(D:Nat),Tryz.prog.keyLits D 83 (keyV k).cells.toList=some [.string k.1.data.toList,.string k.2.data.toList]∧(keyV k).formed Tryz.prog 83=true:=by
 obtain ⟨m,hm⟩:=ztb;have a1:k.1.size≤maxLen:=by unfold maxLen;omega
 have a2:k.2.size≤maxLen:=by unfold maxLen;omega
 refine ⟨m+2,?_,by simp [Value.formed,Tryz.underlying83,zum]⟩;unfold Program.keyLits;simp only [Tryz.underlying83,Value.cells];rw [if_pos (by rw [zum];rfl),show List.range 2=[0,1] from rfl,List.mapM_cons,List.mapM_cons,List.mapM_nil];simp [zanx,Program.keyLits,Tryz.underlying9,a1,a2]
set_option maxRecDepth 100000 in
theorem zapu (a b:KeyD) (w:World) (a1:a.1.size≤140737488355328) (a2:a.2.size≤140737488355328) (b1:b.1.size≤140737488355328) (b2:b.2.size≤140737488355328) :
  (binOp .eql 83 (.agg #[.string a.1,.string a.2]) (.agg #[.string b.1,.string b.2])).run Tryz.prog w=.ok (.bool (decide (a=b))) w:=by
 obtain ⟨D,hD,fD⟩:=zmv a a1 a2;obtain ⟨D',hD',fD'⟩:=zmv b b1 b2;obtain ⟨r,hr,hiff⟩:=run_equalIn_deep 9997 3 83 zail w D D' (keyV a) (keyV b) _ _ fD fD' hD hD';simp only [Nat.reduceAdd] at hr;simp only [run_eql_struct];rw [hr];simp only [Result.andThen];congr 2;rw [Bool.eq_iff_iff,hiff,decide_eq_true_eq];simp only [List.cons.injEq,Lit.string.injEq,and_true];have hb:∀x y:ByteArray,x.data.toList=y.data.toList↔x=y:=fun x y=>⟨fun e=>by cases x;cases y;simp at e;rw [e],fun e=>by rw [e]⟩;rw [hb,hb,Prod.ext_iff]
end Go.Proofs.YtibpaaajghbkoaaGreat
