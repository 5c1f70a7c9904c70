/-    -/
import Derived.Test.YtdfenhjibnfdeaaGreatDoorQyAf
import Derived.Test.YtdfenhjibnfdeaaGreatDoorQyAe
namespace Go.Proofs.YtdfenhjibnfdeaaGreatDoor
open Go.RowKit Go.Shelf
abbrev nodeF:Value:=.func (.func 60) #[] #[]
def WalkN (k:Nat):Prop:=∀(c:CondD) (a:Option Addr) (cap:Nat) (w:World),cnodes c≤k→CondIs w c a →
 Calls Tryz.prog 59 #[condV c a cap,nodeF] w fun e w'=>e=.returned (.bool (callC nodeOK c))∧Below w.heap.size w w'
theorem cond_cells (c:CondD) (a:Option Addr) (cap:Nat):condV c a cap=.agg #[.int .i64 c.op,.string c.key,.string c.val,.int .i64 c.n,.slice a c.kids.length cap]:=rfl
set_option maxHeartbeats 1000000 in
theorem closN_any (k:Nat) (IH:WalkN k) (c:CondD) (a:Option Addr) (cap bx:Nat) (w:World) (hk:cnodes c≤k) (hc:CondIs w c a) (hbx:w.heap[bx]?=some (.cells #[nodeF] 51 (0,0))) :
  Calls Tryz.prog 87 #[condV c a cap,.pointer (some ⟨bx,0,none⟩)] w fun e w'=>e=.returned (.bool (!callC nodeOK c))∧Below w.heap.size w w':=by
 have B1:=(Below.refl w.heap.size w).alloc (Nat.le_refl _) (.cells #[.int .i64 c.op,.string c.key,.string c.val,.int .i64 c.n,.slice a c.kids.length cap] 24)
 have HI:=Lib.hid (IH c a cap _ hk (hc.later B1))
 have HX0:=Lib.hid hbx
 clear hbx hc
 rw [cond_cells] at HI ⊢
 go_enter Tryz.func87,Tryz.ntmps87
 obtain ⟨xz,x0⟩:=rk1 HX0.out
 go_wp2_with fail
 refine HI.out.mono ?_
 rintro e w2 ⟨rfl,hb2⟩
 have B2:=below_step B1 (Nat.le_refl _) hb2
 go_wp2
 go_ret
 exact ⟨rfl,B2⟩
def NoneP (r:Bool) (w:World) (e:Ending) (w':World):Prop:=(∃n:Int,e=.returned (.int .i64 n)∧(0≤n↔r=false))∧Below w.heap.size w w'
set_option maxRecDepth 100000 in
set_option maxHeartbeats 1000000 in
theorem idxN_any (k:Nat) (IH:WalkN k) (ks:List CondD) (a:Option Addr) (cap bx:Nat) (w:World) (hk:cnodesL ks≤k) (hl:ks.length≤140737488355328)
  (hc:0<ks.length→∃b off,a=some ⟨b,off,none⟩∧KidsIs w b ks off) (hbx:w.heap[bx]?=some (.cells #[nodeF] 51 (0,0))) :
  Calls Tryz.prog 108 #[.slice a ks.length cap,.func (.func 87) #[] #[.pointer (some ⟨bx,0,none⟩)]] w (NoneP (callL nodeOK ks) w):=by
 obtain ⟨N,hN⟩:∃N,ks.length=N:=⟨_,rfl⟩
 rw [hN] at hl hc ⊢
 have HN:=Lib.hid hN
 have HC:=Lib.hid hc
 have HX:=Lib.hid hbx
 have HK:=Lib.hid hk
 obtain ⟨R,hR⟩:∃R,callL nodeOK ks=R:=⟨_,rfl⟩
 have HR:=Lib.hid hR
 rw [hR]
 clear hN hc hbx hk hR
 go_enter Tryz.func108,Tryz.ntmps108
 go_wp2
 go_loopw [8] (fun i wr=>∃j:Nat,j≤N∧i=.int .i64 j∧Hid (callL nodeOK (ks.take j)=true)∧Below w.heap.size w wr) (fun i _=>N - (intOf i).toNat)
 case atStart=>exact ⟨0,by omega,rfl,Lib.hid rfl,Below.refl _ _⟩
 case round =>
  obtain ⟨j,hj,rfl,HT,hbr⟩:=hrel
  by_cases hlt:j<N
  ·obtain ⟨c,hcj⟩:∃c,ks[j]?=some c:=⟨ks[j]'(by rw [HN.out];exact hlt),List.getElem?_eq_getElem _⟩
   obtain ⟨b,off,ha,hrow⟩:=HC.out (by omega)
   subst ha
   obtain ⟨a',cap',⟨q0,q1,q2,q3,q4⟩,hci⟩:=KidsIs.at _ _ j c hrow hcj
   have c0:=cell_later hbr q0
   have c1:=cell_later hbr q1
   have c2:=cell_later hbr q2
   have c3:=cell_later hbr q3
   have c4:=cell_later hbr q4
   have CL:=Lib.hid (closN_any k IH c a' cap' bx wr (Nat.le_trans (cnodes_kid _ _ _ hcj) HK.out) (hci.later hbr) (row_later hbr HX.out))
   have HJ:=Lib.hid hcj
   clear q0 q1 q2 q3 q4 hci hrow hcj
   cases hv:callC nodeOK c
   ·have HE:=Lib.hid (show R=false by rw [←HR.out];exact callL_bad _ _ _ _ HJ.out hv)
    rw [hv,cond_cells] at CL
    clear hv
    go_wp2_with fail
    refine CL.out.mono ?_
    rintro e w2 ⟨rfl,hb2⟩
    have B2:=below_step hbr (Nat.le_refl _) hb2
    go_wp2
    go_ret
    exact ⟨⟨_,rfl,by rw [HE.out];simp⟩,B2⟩
   ·have HT2:=Lib.hid (show callL nodeOK (ks.take (j+1))=true by rw [callL_take _ _ _ _ HJ.out,HT.out,hv];rfl)
    rw [hv,cond_cells] at CL
    clear hv
    go_wp2_with fail
    refine CL.out.mono ?_
    rintro e w2 ⟨rfl,hb2⟩
    have B2:=below_step hbr (Nat.le_refl _) hb2
    go_wp2
    go_roundw
    case rel=>exact ⟨j+1,by omega,by go_num,HT2,B2⟩
    case measure=>simp [intOf];omega
  ·obtain rfl:j=N:=by omega
   have HE:=Lib.hid (show R=true by rw [←HR.out,←HT.out,List.take_of_length_le (by rw [HN.out];exact Nat.le_refl _)])
   go_wp2
   go_ret
   exact ⟨⟨_,rfl,by rw [HE.out];simp⟩,hbr⟩
theorem hasN_any (k:Nat) (IH:WalkN k) (ks:List CondD) (a:Option Addr) (cap bx:Nat) (w:World) (hk:cnodesL ks≤k) (hl:ks.length≤140737488355328)
  (hc:0<ks.length→∃b off,a=some ⟨b,off,none⟩∧KidsIs w b ks off) (hbx:w.heap[bx]?=some (.cells #[nodeF] 51 (0,0))) :
  Calls Tryz.prog 79 #[.slice a ks.length cap,.func (.func 87) #[] #[.pointer (some ⟨bx,0,none⟩)]] w fun e w'=>e=.returned (.bool (!callL nodeOK ks))∧Below w.heap.size w w':=by
 have HI:=Lib.hid (idxN_any k IH ks a cap bx w hk hl hc hbx)
 clear hc hbx
 obtain ⟨R,hR⟩:∃R,callL nodeOK ks=R:=⟨_,rfl⟩
 rw [hR] at HI ⊢
 clear hR
 go_enter Tryz.func79,Tryz.ntmps79
 go_wp2_with fail
 refine HI.out.mono ?_
 rintro e w2 ⟨⟨n,rfl,hn⟩,hb2⟩
 have hd:decide ((0:Int)≤n) = !R:=by
  cases R
  ·exact decide_eq_true (hn.2 rfl)
  ·exact decide_eq_false fun h=>by have:=hn.1 h;cases this
 clear hn
 go_wp2
 go_ret
 exact ⟨rfl,hb2⟩
set_option maxRecDepth 100000 in
set_option maxHeartbeats 1000000 in
theorem walkN_step (k:Nat) (IH:WalkN k):WalkN (k+1):=by
 intro c a cap w hk hc
 have B1:=((Below.refl w.heap.size w).alloc (Nat.le_refl _) (.cells #[.int .i64 c.op,.string c.key,.string c.val,.int .i64 c.n,.slice a c.kids.length cap] 24)).alloc (by simp) (.cells #[nodeF] 51)
 have HC0:=Lib.hid (row_past (o':=.cells #[nodeF] 51) (row_new w (.cells #[.int .i64 c.op,.string c.key,.string c.val,.int .i64 c.n,.slice a c.kids.length cap] 24)))
 have hF0:=row_new (w.alloc (.cells #[.int .i64 c.op,.string c.key,.string c.val,.int .i64 c.n,.slice a c.kids.length cap] 24)) (.cells #[nodeF] 51)
 simp only [World.size_alloc] at hF0
 have HF0:=Lib.hid hF0
 clear hF0
 have HND:=Lib.hid (node_any c a cap _ (hc.later B1))
 have HCI:=Lib.hid (hc.later B1)
 have HE:=Lib.hid (callC_eq nodeOK c)
 have HKN:=Lib.hid (show cnodesL c.kids≤k by rw [cnodes_eq] at hk;omega)
 clear hc hk
 rw [cond_cells] at HND ⊢
 obtain ⟨R,hR⟩:∃R,callL nodeOK c.kids=R:=⟨_,rfl⟩
 rw [HE.out,hR]
 have HR:=Lib.hid hR
 clear HE hR
 go_enter Tryz.func59,Tryz.ntmps59
 cases hn:nodeOK c
 ·rw [hn] at HND
  clear hn
  go_wp2_with fail
  refine HND.out.mono ?_
  rintro e w2 ⟨rfl,hb2⟩
  have B2:=below_step B1 (Nat.le_refl _) hb2
  go_wp2
  go_ret
  exact ⟨rfl,B2⟩
 ·rw [hn] at HND
  clear hn
  go_wp2_with fail
  refine HND.out.mono ?_
  rintro e w2 ⟨rfl,hb2⟩
  have B2:=below_step B1 (Nat.le_refl _) hb2
  have HC1:=Lib.hid (row_later hb2 HC0.out)
  have HF1:=Lib.hid (row_later hb2 HF0.out)
  obtain ⟨-,-,h3,h4⟩:=(HCI.out.later hb2).open
  have HH:=Lib.hid (hasN_any k IH c.kids a cap _ w2 HKN.out h3 h4 HF1.out)
  rw [HR.out] at HH
  clear h3 h4 HR
  obtain ⟨xz,x0,x1,x2,x3,x4⟩:=rk5 HC1.out
  go_wp2_with fail
  refine HH.out.mono ?_
  rintro e w3 ⟨rfl,hb3⟩
  have B3:=below_step B2 (Nat.le_refl _) hb3
  cases R
  all_goals
   go_wp2
   go_ret
   exact ⟨rfl,B3⟩
theorem walkN_all:∀k,WalkN k
 |0=>fun c _ _ _ hk _=>by have:=cnodes_pos c;omega
 |k+1=>walkN_step k (walkN_all k)
theorem walkN_any (c:CondD) (a:Option Addr) (cap:Nat) (w:World) (hc:CondIs w c a) :
  Calls Tryz.prog 59 #[condV c a cap,nodeF] w fun e w'=>e=.returned (.bool (callC nodeOK c))∧Below w.heap.size w w':=walkN_all (cnodes c) c a cap w (Nat.le_refl _) hc
end Go.Proofs.YtdfenhjibnfdeaaGreatDoor

namespace Go.Proofs.YtdfenhjibnfdeaaGreatDoor
open Go.RowKit Go.Shelf
def KeepB (bx:Nat) (w w':World):Prop:=w.heap.size≤w'.heap.size∧∀i,i<w.heap.size→i≠bx→w'.heap[i]?=w.heap[i]?
theorem KeepB.refl (bx:Nat) (w:World):KeepB bx w w:=⟨Nat.le_refl _,fun _ _ _=>rfl⟩
theorem KeepB.trans {bx:Nat} {a b c:World} (h:KeepB bx a b) (k:KeepB bx b c):KeepB bx a c :=
 ⟨Nat.le_trans h.1 k.1,fun i hi hn=>(k.2 i (Nat.lt_of_lt_of_le hi h.1) hn).trans (h.2 i hi hn)⟩
theorem KeepB.low {bx:Nat} {w w':World} (h:Below w.heap.size w w'):KeepB bx w w':=⟨h.size,fun i hi _=>h.block i hi⟩
theorem KeepB.set (bx i:Nat) (w:World) (v:Value):KeepB bx w (w.setCell ⟨bx,i,none⟩ v):=⟨by simp,fun j _ hn=>Below.heap_setCell _ _ _ _ hn⟩
theorem KeepB.row {bx b:Nat} {w w':World} {o:Obj} (h:KeepB bx w w') (hb:w.heap[b]?=some o) (hn:b≠bx):w'.heap[b]?=some o:=by
 rw [h.2 b (lt_of_block hb) hn];exact hb
def cntS (n m:Nat):Nat:=if n+m≤60 then n+m else 61
structure SzP (w0:World) (bx n m:Nat) (w w':World):Prop where
 low:Below w0.heap.size w0 w'
 box:w'.heap[bx]?=some (.cells #[.int .i64 (cntS n m)] 3 (0,0))
 keep:KeepB bx w w'
abbrev sizeF (bx:Nat):Value:=.func (.func 67) #[] #[.pointer (some ⟨bx,0,none⟩)]
def WalkS (w0:World) (bx k:Nat):Prop:=∀(c:CondD) (a:Option Addr) (cap n:Nat) (w:World),cnodes c≤k→CondIs w0 c a→Below w0.heap.size w0 w→n≤60 →
 w.heap[bx]?=some (.cells #[.int .i64 n] 3 (0,0)) →
 Calls Tryz.prog 59 #[condV c a cap,sizeF bx] w fun e w'=>e=.returned (.bool (decide (n+cnodes c≤60)))∧SzP w0 bx n (cnodes c) w w'
set_option maxHeartbeats 1000000 in
theorem visit_any (w0:World) (bx:Nat) (hb0:w0.heap.size≤bx) (c:CondD) (a:Option Addr) (cap n:Nat) (w:World) (hb:Below w0.heap.size w0 w) (hn:n≤60) (hbx:w.heap[bx]?=some (.cells #[.int .i64 n] 3 (0,0))) :
  Calls Tryz.prog 67 #[condV c a cap,.pointer (some ⟨bx,0,none⟩)] w fun e w'=>e=.returned (.bool (decide (n+1≤60)))∧Below w0.heap.size w0 w'∧w'.heap[bx]?=some (.cells #[.int .i64 (n+1:Nat)] 3 (0,0))∧KeepB bx w w':=by
 have HB:=Lib.hid hb
 have hlt:bx<w.heap.size:=lt_of_block hbx
 have hne:¬w.heap.size=bx:=by omega
 have k1:IntKind.i64.wrap ((n:Int)+1)=(n:Int)+1:=IntWalk.i64_in _ (by omega)
 have HX0:=Lib.hid hbx
 clear hbx hb
 rw [cond_cells]
 cases hd:decide (n+1≤60)
 all_goals
  have d1:decide ((n:Int)+1≤60)=decide (n+1≤60):=by rw [decide_eq_decide];omega
  rw [hd] at d1
  clear hd
  go_enter Tryz.func67,Tryz.ntmps67
  obtain ⟨xz,x0⟩:=rk1 HX0.out
  have xf0:=frozen_of_row w _ 0 _ _ HX0.out
  go_wp2
  go_ret
  exact ⟨rfl,(HB.out.setCell (by simp only;omega) _).alloc (by have:=HB.out.size;simp;omega) _,row_past (row_set (i:=0) HX0.out),(KeepB.set _ _ _ _).trans (KeepB.low ((Below.refl _ _).alloc (Nat.le_refl _) _))⟩
theorem cnodesL_take:∀(ks:List CondD) (i:Nat) (c:CondD),ks[i]?=some c→cnodesL (ks.take (i+1))=cnodesL (ks.take i)+cnodes c
 |[],_,_,h=>by cases h
 |x :: r,i,c,h=>by
  cases i with
  |zero=>injection h with h;subst h;simp [cnodesL]
  |succ i =>
   have:=cnodesL_take r i c h
   rw [List.take_succ_cons,List.take_succ_cons,cnodesL,cnodesL,this,Nat.add_assoc]
theorem cnodesL_mono:∀(ks:List CondD) (i:Nat),cnodesL (ks.take i)≤cnodesL ks
 |[],i=>by simp [cnodesL]
 |x :: r,0=>by simp [cnodesL]
 |x :: r,i+1=>by
  have:=cnodesL_mono r i
  rw [List.take_succ_cons,cnodesL,cnodesL];omega
theorem cntS_go (n m k:Nat):cntS (n+m) k=cntS n (m+k):=by unfold cntS;rw [Nat.add_assoc]
def SizI (w0:World) (bx n m:Nat) (w:World) (e:Ending) (w':World):Prop:=(∃i:Int,e=.returned (.int .i64 i)∧(0≤i↔60<n+m))∧SzP w0 bx n m w w'
set_option maxHeartbeats 1000000 in
theorem closS_any (w0:World) (bx k:Nat) (IH:WalkS w0 bx k) (c:CondD) (a:Option Addr) (cap n vx:Nat) (w:World) (hk:cnodes c≤k) (hc:CondIs w0 c a) (hb:Below w0.heap.size w0 w) (hn:n≤60)
  (hbx:w.heap[bx]?=some (.cells #[.int .i64 n] 3 (0,0))) (hvx:w.heap[vx]?=some (.cells #[sizeF bx] 51 (0,0))) :
  Calls Tryz.prog 87 #[condV c a cap,.pointer (some ⟨vx,0,none⟩)] w fun e w'=>e=.returned (.bool (!decide (n+cnodes c≤60)))∧SzP w0 bx n (cnodes c) w w':=by
 have B1:=(Below.refl w.heap.size w).alloc (Nat.le_refl _) (.cells #[.int .i64 c.op,.string c.key,.string c.val,.int .i64 c.n,.slice a c.kids.length cap] 24)
 have HI:=Lib.hid (IH c a cap n _ hk hc (hb.alloc hb.size _) hn (row_later B1 hbx))
 have HB1:=Lib.hid B1
 have HV0:=Lib.hid hvx
 clear hbx hvx hc B1
 rw [cond_cells] at HI ⊢
 go_enter Tryz.func87,Tryz.ntmps87
 obtain ⟨xz,x0⟩:=rk1 HV0.out
 go_wp2_with fail
 refine HI.out.mono ?_
 rintro e w2 ⟨rfl,h2⟩
 have H2:=Lib.hid h2
 clear h2
 go_wp2
 go_ret
 exact ⟨rfl,H2.out.low,H2.out.box,(KeepB.low HB1.out).trans H2.out.keep⟩
set_option maxRecDepth 100000 in
set_option maxHeartbeats 1000000 in
theorem idxS_any (w0:World) (bx k:Nat) (IH:WalkS w0 bx k) (ks:List CondD) (a:Option Addr) (cap vx n:Nat) (w:World) (hk:cnodesL ks≤k) (hl:ks.length≤140737488355328)
  (hc:0<ks.length→∃b off,a=some ⟨b,off,none⟩∧KidsIs w0 b ks off) (hb:Below w0.heap.size w0 w) (hn:n≤60) (hbx:w.heap[bx]?=some (.cells #[.int .i64 n] 3 (0,0)))
  (hvx:w.heap[vx]?=some (.cells #[sizeF bx] 51 (0,0))) (hne:vx≠bx) :
  Calls Tryz.prog 108 #[.slice a ks.length cap,.func (.func 87) #[] #[.pointer (some ⟨vx,0,none⟩)]] w (SizI w0 bx n (cnodesL ks) w):=by
 obtain ⟨N,hN⟩:∃N,ks.length=N:=⟨_,rfl⟩
 rw [hN] at hl hc ⊢
 have HN:=Lib.hid hN
 have HC:=Lib.hid hc
 have HV:=Lib.hid hvx
 have HK:=Lib.hid hk
 have S0:=Lib.hid (show SzP w0 bx n 0 w w from ⟨hb,by rw [show cntS n 0=n by unfold cntS;rw [if_pos (by omega),Nat.add_zero]];exact hbx,KeepB.refl _ _⟩)
 clear hN hc hbx hk hvx hb
 go_enter Tryz.func108,Tryz.ntmps108
 go_wp2
 go_loopw [8] (fun i wr=>∃j:Nat,j≤N∧i=.int .i64 j∧Hid (n+cnodesL (ks.take j)≤60)∧Hid (SzP w0 bx n (cnodesL (ks.take j)) w wr)) (fun i _=>N - (intOf i).toNat)
 case atStart=>exact ⟨0,by omega,rfl,Lib.hid (by simpa [cnodesL] using hn),S0⟩
 case round =>
  obtain ⟨j,hj,rfl,HT,HS⟩:=hrel
  by_cases hlt:j<N
  ·obtain ⟨c,hcj⟩:∃c,ks[j]?=some c:=⟨ks[j]'(by rw [HN.out];exact hlt),List.getElem?_eq_getElem _⟩
   obtain ⟨b,off,ha,hrow⟩:=HC.out (by omega)
   subst ha
   obtain ⟨a',cap',⟨q0,q1,q2,q3,q4⟩,hci⟩:=KidsIs.at _ _ j c hrow hcj
   have hbr:=HS.out.low
   have c0:=cell_later hbr q0
   have c1:=cell_later hbr q1
   have c2:=cell_later hbr q2
   have c3:=cell_later hbr q3
   have c4:=cell_later hbr q4
   have hx:=HS.out.box
   rw [show cntS n (cnodesL (ks.take j))=n+cnodesL (ks.take j) by unfold cntS;rw [if_pos HT.out]] at hx
   have hkk:=Nat.le_trans (cnodes_kid _ _ _ hcj) HK.out
   have CL:=Lib.hid (closS_any w0 bx k IH c a' cap' (n+cnodesL (ks.take j)) vx wr hkk hci hbr HT.out hx (HS.out.keep.row HV.out hne))
   have HQ:=Lib.hid (cnodesL_take _ _ _ hcj)
   have HM:=Lib.hid (cnodesL_mono ks (j+1))
   clear q0 q1 q2 q3 q4 hci hrow hcj hx hkk hbr
   rw [cond_cells] at CL
   by_cases hv:n+cnodesL (ks.take j)+cnodes c≤60
   ·rw [decide_eq_true hv] at CL
    go_wp2_with fail
    refine CL.out.mono ?_
    rintro e w2 ⟨rfl,h2⟩
    have H2:=Lib.hid h2
    clear h2
    go_wp2
    go_roundw
    case rel=>exact ⟨j+1,by omega,by go_num,Lib.hid (by rw [HQ.out];omega),Lib.hid ⟨H2.out.low,by rw [HQ.out,←cntS_go _ _ _];exact H2.out.box,HS.out.keep.trans H2.out.keep⟩⟩
    case measure=>simp [intOf];omega
   ·rw [decide_eq_false hv] at CL
    go_wp2_with fail
    refine CL.out.mono ?_
    rintro e w2 ⟨rfl,h2⟩
    have H2:=Lib.hid h2
    clear h2
    go_wp2
    go_ret
    have hbig:60<n+cnodesL ks:=by have:=HM.out;rw [HQ.out] at this;omega
    exact ⟨⟨_,rfl,⟨fun _=>hbig,fun _=>by omega⟩⟩,H2.out.low,by
     have:=H2.out.box
     rw [show cntS (n+cnodesL (ks.take j)) (cnodes c)=61 by unfold cntS;rw [if_neg hv]] at this
     rw [show cntS n (cnodesL ks)=61 by unfold cntS;rw [if_neg (by omega)]];exact this,HS.out.keep.trans H2.out.keep⟩
  ·obtain rfl:j=N:=by omega
   have hT:=HT.out
   have hS:=HS.out
   rw [List.take_of_length_le (by rw [HN.out];exact Nat.le_refl _)] at hT hS
   have HS2:=Lib.hid hS
   have HT2:=Lib.hid hT
   clear hT hS HT HS
   go_wp2
   go_ret
   exact ⟨⟨_,rfl,⟨fun h=>absurd h (by decide),fun h=>by have:=HT2.out;omega⟩⟩,HS2.out⟩
set_option maxHeartbeats 1000000 in
theorem hasS_any (w0:World) (bx k:Nat) (IH:WalkS w0 bx k) (ks:List CondD) (a:Option Addr) (cap vx n:Nat) (w:World) (hk:cnodesL ks≤k) (hl:ks.length≤140737488355328)
  (hc:0<ks.length→∃b off,a=some ⟨b,off,none⟩∧KidsIs w0 b ks off) (hb:Below w0.heap.size w0 w) (hn:n≤60) (hbx:w.heap[bx]?=some (.cells #[.int .i64 n] 3 (0,0)))
  (hvx:w.heap[vx]?=some (.cells #[sizeF bx] 51 (0,0))) (hne:vx≠bx) :
  Calls Tryz.prog 79 #[.slice a ks.length cap,.func (.func 87) #[] #[.pointer (some ⟨vx,0,none⟩)]] w fun e w'=>e=.returned (.bool (decide (60<n+cnodesL ks)))∧SzP w0 bx n (cnodesL ks) w w':=by
 have HI:=Lib.hid (idxS_any w0 bx k IH ks a cap vx n w hk hl hc hb hn hbx hvx hne)
 clear hc hbx hvx hb
 obtain ⟨R,hR⟩:∃R,decide (60<n+cnodesL ks)=R:=⟨_,rfl⟩
 rw [hR]
 have HR:=Lib.hid hR
 clear hR
 go_enter Tryz.func79,Tryz.ntmps79
 go_wp2_with fail
 refine HI.out.mono ?_
 rintro e w2 ⟨⟨i,rfl,hi⟩,h2⟩
 have H2:=Lib.hid h2
 have hd:decide ((0:Int)≤i)=R:=by rw [←HR.out,decide_eq_decide];exact hi
 clear hi h2
 go_wp2
 go_ret
 exact ⟨rfl,H2.out⟩
set_option maxRecDepth 100000 in
set_option maxHeartbeats 1000000 in
theorem walkS_step (w0:World) (bx:Nat) (hb0:w0.heap.size≤bx) (k:Nat) (IH:WalkS w0 bx k):WalkS w0 bx (k+1):=by
 intro c a cap n w hk hc hb hn hbx
 have hlt:=lt_of_block hbx
 have B1:=((Below.refl w.heap.size w).alloc (Nat.le_refl _) (.cells #[.int .i64 c.op,.string c.key,.string c.val,.int .i64 c.n,.slice a c.kids.length cap] 24)).alloc (by simp) (.cells #[sizeF bx] 51)
 have HC0:=Lib.hid (row_past (o':=.cells #[sizeF bx] 51) (row_new w (.cells #[.int .i64 c.op,.string c.key,.string c.val,.int .i64 c.n,.slice a c.kids.length cap] 24)))
 have hF0:=row_new (w.alloc (.cells #[.int .i64 c.op,.string c.key,.string c.val,.int .i64 c.n,.slice a c.kids.length cap] 24)) (.cells #[sizeF bx] 51)
 simp only [World.size_alloc] at hF0
 have HF0:=Lib.hid hF0
 have HND:=Lib.hid (visit_any w0 bx hb0 c a cap n _ ((hb.alloc hb.size (.cells #[.int .i64 c.op,.string c.key,.string c.val,.int .i64 c.n,.slice a c.kids.length cap] 24)).alloc (by have:=hb.size;simp;omega) (.cells #[sizeF bx] 51)) hn (row_later B1 hbx))
 have HCI:=Lib.hid hc
 have HKN:=Lib.hid (show cnodesL c.kids≤k by rw [cnodes_eq] at hk;omega)
 have HE:=Lib.hid (cnodes_eq c)
 have HB1:=Lib.hid (KeepB.low (bx:=bx) B1)
 clear hc hk hbx hF0 B1 hb
 rw [cond_cells] at HND ⊢
 obtain ⟨M,hM⟩:∃M,cnodesL c.kids=M:=⟨_,rfl⟩
 rw [HE.out,hM]
 have HM:=Lib.hid hM
 clear HE hM
 go_enter Tryz.func59,Tryz.ntmps59
 by_cases h1:n+1≤60
 ·rw [decide_eq_true h1] at HND
  go_wp2_with fail
  refine HND.out.mono ?_
  rintro e w2 ⟨rfl,hb2,hx2,hk2⟩
  have HC1:=Lib.hid (hk2.row HC0.out (by omega))
  have HF1:=Lib.hid (hk2.row HF0.out (by omega))
  obtain ⟨-,-,h3,h4⟩:=HCI.out.open
  have HH:=Lib.hid (hasS_any w0 bx k IH c.kids a cap _ (n+1) w2 HKN.out h3 h4 hb2 h1 hx2 HF1.out (by omega))
  have HK2:=Lib.hid hk2
  rw [HM.out] at HH
  clear h3 h4 hb2 hx2 hk2
  obtain ⟨xz,x0,x1,x2,x3,x4⟩:=rk5 HC1.out
  by_cases hbig:60<n+1+M
  all_goals
   first
   |rw [decide_eq_true hbig] at HH
    have HD:=Lib.hid (show decide (n+(M+1)≤60)=false from decide_eq_false (by omega))
   |rw [decide_eq_false hbig] at HH
    have HD:=Lib.hid (show decide (n+(M+1)≤60)=true from decide_eq_true (by omega))
   clear hbig
   go_wp2_with fail
   refine HH.out.mono ?_
   rintro e w3 ⟨rfl,h3⟩
   have H3:=Lib.hid h3
   clear h3
   go_wp2
   go_ret
   exact ⟨ret_bool HD.out.symm,H3.out.low,by have:=H3.out.box;rw [cntS_go] at this;rwa [Nat.add_comm 1 M] at this,(HB1.out.trans HK2.out).trans H3.out.keep⟩
 ·rw [decide_eq_false h1] at HND
  have HD:=Lib.hid (show decide (n+(M+1)≤60)=false from decide_eq_false (by omega))
  have hn60:n=60:=by omega
  clear h1
  go_wp2_with fail
  refine HND.out.mono ?_
  rintro e w2 ⟨rfl,hb2,hx2,hk2⟩
  have HK2:=Lib.hid hk2
  have HX2:=Lib.hid hx2
  have HB2:=Lib.hid hb2
  clear hb2 hx2 hk2
  go_wp2
  go_ret
  exact ⟨ret_bool HD.out.symm,HB2.out,by rw [show cntS n (M+1)=n+1 by unfold cntS;rw [if_neg (by omega)];omega];exact HX2.out,HB1.out.trans HK2.out⟩
theorem walkS_all (w0:World) (bx:Nat) (hb0:w0.heap.size≤bx):∀k,WalkS w0 bx k
 |0=>fun c _ _ _ _ hk=>by have:=cnodes_pos c;omega
 |k+1=>walkS_step w0 bx hb0 k (walkS_all w0 bx hb0 k)
def sizeC (c:CondD):Nat:=cntS 0 (cnodes c)
set_option maxHeartbeats 1000000 in
theorem size_any (c:CondD) (a:Option Addr) (cap:Nat) (w:World) (hc:CondIs w c a) :
  Calls Tryz.prog 39 #[condV c a cap] w fun e w'=>e=.returned (.int .i64 (sizeC c))∧Below w.heap.size w w':=by
 have B1:=((Below.refl w.heap.size w).alloc (Nat.le_refl _) (.cells #[.int .i64 c.op,.string c.key,.string c.val,.int .i64 c.n,.slice a c.kids.length cap] 24)).alloc (by simp) (.cells #[.int .i64 0] 3)
 have hF0:=row_new (w.alloc (.cells #[.int .i64 c.op,.string c.key,.string c.val,.int .i64 c.n,.slice a c.kids.length cap] 24)) (.cells #[.int .i64 0] 3)
 simp only [World.size_alloc] at hF0
 have HW:=Lib.hid (walkS_all w (w.heap.size+1) (by omega) (cnodes c) c a cap 0 _ (Nat.le_refl _) hc B1 (by omega) hF0)
 rw [show sizeC c=cntS 0 (cnodes c) from rfl]
 clear hc hF0 B1
 rw [cond_cells] at HW ⊢
 go_enter Tryz.func39,Tryz.ntmps39
 go_wp2_with fail
 refine HW.out.mono ?_
 rintro e w2 ⟨rfl,h2⟩
 have H2:=Lib.hid h2
 have HX:=Lib.hid h2.box
 clear h2
 obtain ⟨xz,x0⟩:=rk1 HX.out
 go_wp2
 go_ret
 exact ⟨rfl,H2.out.low⟩
set_option maxHeartbeats 1000000 in
theorem valid_any (c:CondD) (a:Option Addr) (cap:Nat) (w:World) (hc:CondIs w c a) :
  Calls Tryz.prog 34 #[condV c a cap] w fun e w'=>e=.returned (.bool (validC c))∧Below w.heap.size w w':=by
 have B1:=(Below.refl w.heap.size w).alloc (Nat.le_refl _) (.cells #[.int .i64 c.op,.string c.key,.string c.val,.int .i64 c.n,.slice a c.kids.length cap] 24)
 have HZ:=Lib.hid (size_any c a cap _ (hc.later B1))
 have HCI:=Lib.hid (hc.later B1)
 have HC0:=Lib.hid (row_new w (.cells #[.int .i64 c.op,.string c.key,.string c.val,.int .i64 c.n,.slice a c.kids.length cap] 24))
 have HN:=Lib.hid (fun W (h:CondIs W c a)=>walkN_any c a cap W h)
 have HE:=Lib.hid (show validC c=(decide (sizeC c≤60) && callC nodeOK c) by
  have:decide (cnodes c≤60)=decide (sizeC c≤60):=by rw [decide_eq_decide];unfold sizeC cntS;split<;>omega
  rw [validC,this])
 obtain ⟨M,hM⟩:∃M,sizeC c=M:=⟨_,rfl⟩
 obtain ⟨R,hR⟩:∃R,callC nodeOK c=R:=⟨_,rfl⟩
 rw [HE.out,hM,hR]
 rw [hM] at HZ
 rw [hR] at HN
 clear hc HE hM hR
 rw [cond_cells] at HZ HN ⊢
 go_enter Tryz.func34,Tryz.ntmps34
 by_cases h1:M≤60
 ·have d1:decide ((M:Int)≤60)=true:=by rw [decide_eq_true_eq];omega
  rw [decide_eq_true h1]
  clear h1
  go_wp2_with fail
  refine HZ.out.mono ?_
  rintro e w2 ⟨rfl,hb2⟩
  have B2:=below_step B1 (Nat.le_refl _) hb2
  have HC1:=Lib.hid (row_later hb2 HC0.out)
  have HI2:=Lib.hid (HCI.out.later hb2)
  obtain ⟨xz,x0,x1,x2,x3,x4⟩:=rk5 HC1.out
  go_wp2_with fail
  refine (HN.out _ HI2.out).mono ?_
  rintro e w3 ⟨rfl,hb3⟩
  have B3:=below_step B2 (Nat.le_refl _) hb3
  cases R
  all_goals
   go_wp2
   go_ret
   exact ⟨rfl,B3⟩
 ·have d1:decide ((M:Int)≤60)=false:=by rw [decide_eq_false_iff_not];omega
  rw [decide_eq_false h1]
  clear h1
  go_wp2_with fail
  refine HZ.out.mono ?_
  rintro e w2 ⟨rfl,hb2⟩
  have B2:=below_step B1 (Nat.le_refl _) hb2
  go_wp2
  go_ret
  exact ⟨rfl,B2⟩
end Go.Proofs.YtdfenhjibnfdeaaGreatDoor

namespace Go.Proofs.YtdfenhjibnfdeaaGreatDoor
open Go.RowKit Go.Shelf
theorem getB_drop (key:ByteArray) (l:List TagD) (k:Nat) (t:TagD) (ht:l[k]?=some t):getB key (l.drop k)=if t.key=key then some t.val else getB key (l.drop (k+1)):=by
 obtain ⟨hk,rfl⟩:=List.getElem?_eq_some_iff.1 ht
 rw [List.drop_eq_getElem_cons hk];rfl
theorem getB_mem (key:ByteArray):∀(l:List TagD) (s:ByteArray),getB key l=some s→∃t∈l,t.val=s
 |[],s,h=>by cases h
 |t :: l,s,h=>by
  rw [getB] at h
  split at h
  ·injection h with h;exact ⟨t,List.mem_cons_self ..,h⟩
  ·obtain ⟨u,hu,e⟩:=getB_mem key l s h
   exact ⟨u,List.mem_cons_of_mem _ hu,e⟩
def GetPost (r:Option ByteArray) (w:World) (e:Ending) (w':World):Prop:=e=.returned (.tuple #[.string (r.getD ⟨#[]⟩),.bool r.isSome])∧Below w.heap.size w w'
set_option maxRecDepth 100000 in
set_option maxHeartbeats 1000000 in
theorem get_any (v:Value) (l:List TagD) (key:ByteArray) (w:World) (hv:TagRow w v l) :
  Calls Tryz.prog 73 #[v,.string key] w (GetPost (getB key l) w):=by
 obtain ⟨a,cap,rfl,hn,hsz,hc⟩:=hv
 generalize hN:l.length=N at *
 have HN:=Lib.hid hN
 have HC:=Lib.hid hc
 obtain ⟨r,hr⟩:∃r,getB key l=r:=⟨_,rfl⟩
 rw [hr]
 have HR:=Lib.hid hr
 clear hN hc hsz hr
 go_enter Tryz.func73,Tryz.ntmps73
 go_wp2
 go_loopw [10] (fun i wr=>∃k:Nat,k≤N∧i=.int .i64 k∧Hid (getB key (l.drop k)=r)∧Below w.heap.size w wr) (fun i _=>N - (intOf i).toNat)
 case atStart=>exact ⟨0,by omega,rfl,HR,Below.refl _ _⟩
 case round =>
  clear HR
  obtain ⟨k,hk,rfl,hT,hbr⟩:=hrel
  by_cases hlt:k<N
  ·obtain ⟨t,ht⟩:∃t,l[k]?=some t:=⟨l[k]'(by rw [HN.out];exact hlt),List.getElem?_eq_getElem _⟩
   obtain ⟨b,off,ha,hcell⟩:=HC.out (by omega)
   subst ha
   have c0:=cell_later hbr (hcell k t ht).1
   have c1:=cell_later hbr (hcell k t ht).2
   have HD:=Lib.hid (getB_drop key l k t ht)
   have BA:=hbr.alloc hbr.size (.cells #[.string t.key,.string t.val] 58)
   clear hcell ht
   by_cases hs:t.key=key
   ·have e1:(t.key.toList==key.toList)=true:=str_eq_true hs
    have HE:=Lib.hid (show r=some t.val by rw [←hT.out,HD.out,if_pos hs])
    clear hs
    go_wp2
    go_ret2
    exact ⟨by rw [HE.out];rfl,BA⟩
   ·have e1:(t.key.toList==key.toList)=false:=str_eq_false hs
    have HG:Hid (getB key (l.drop (k+1))=r):=Lib.hid (by rw [←hT.out,HD.out,if_neg hs])
    clear hs
    go_wp2
    go_roundw
    case rel=>exact ⟨k+1,by omega,by go_num,HG,BA⟩
    case measure=>simp [intOf];omega
  ·obtain rfl:k=N:=by omega
   have HE:=Lib.hid (show r=none by rw [←hT.out,List.drop_of_length_le (by rw [HN.out];exact Nat.le_refl _)];rfl)
   go_wp2
   go_ret2
   exact ⟨by rw [HE.out];rfl,hbr⟩
theorem atoiS_any (s:ByteArray) (hs:s.size≤281474976710656) (w:World) (he:Env w) :
  Calls Tryz.prog 78 #[.string s] w fun e w'=>(∃v er,e=.returned (.tuple #[.int .i64 v,er])∧((er=.nilIface∧numS s=some v)∨∃p,er=.iface 151 p∧numS s=none))∧Below w.heap.size w w':=by
 rcases h:Lib.atoiAll s.data.toList with v | - | -
 ·refine (Tryz.strconv_Atoi_ok s (by omega) v h w).mono ?_
  rintro e w' ⟨rfl,hw⟩
  refine ⟨⟨_,_,rfl,Or.inl ⟨rfl,by simp [numS,h]⟩⟩,?_⟩
  rcases hw with rfl | ⟨t,rfl⟩
  ·exact Below.refl _ _
  ·exact below_bytes
 ·obtain ⟨tp,p,hv⟩:=he.synt
  refine (Any.strconv_Atoi_syntax_var Tryz.laysC172 s hs h tp p w hv).mono ?_
  rintro e w' ⟨N,rfl,-,-,hb⟩
  exact ⟨⟨_,_,rfl,Or.inr ⟨_,rfl,by simp [numS,h]⟩⟩,hb⟩
 ·obtain ⟨tp,p,hv⟩:=he.rng
  refine (Tryz.strconv_Atoi_range_var s hs h tp p w hv).mono ?_
  rintro e w' ⟨N,rfl,-,-,hb⟩
  exact ⟨⟨_,_,rfl,Or.inr ⟨_,rfl,by simp [numS,h]⟩⟩,hb⟩
set_option maxHeartbeats 1000000 in
theorem rune_any (x:Nat) (hx:x≤1114111) (w:World) :
  Calls Tryz.prog 77 #[.int .i32 (x:Int)] w fun e w'=>e=.returned (.bool (notDig x))∧Below w.heap.size w w':=by
 by_cases h1:x<48
 ·have d1:decide ((x:Int)<48)=true:=by rw [decide_eq_true_eq];omega
  have HE:=Lib.hid (show notDig x=true by simp [notDig,h1])
  clear h1
  go_enter Tryz.func77,Tryz.ntmps77
  go_wp2
  go_ret
  exact ⟨ret_bool HE.out.symm,Below.refl _ _⟩
 ·have d1:decide ((x:Int)<48)=false:=by rw [decide_eq_false_iff_not];omega
  by_cases h2:57<x
  ·have d2:decide ((57:Int)<(x:Int))=true:=by rw [decide_eq_true_eq];omega
   have HE:=Lib.hid (show notDig x=true by simp [notDig,h2])
   clear h1 h2
   go_enter Tryz.func77,Tryz.ntmps77
   go_wp2
   go_ret
   exact ⟨ret_bool HE.out.symm,Below.refl _ _⟩
  ·have d2:decide ((57:Int)<(x:Int))=false:=by rw [decide_eq_false_iff_not];omega
   have HE:=Lib.hid (show notDig x=false by simp [notDig];omega)
   clear h1 h2
   go_enter Tryz.func77,Tryz.ntmps77
   go_wp2
   go_ret
   exact ⟨ret_bool HE.out.symm,Below.refl _ _⟩
theorem digs_any (s:ByteArray) (w:World) :
  Calls Tryz.prog 76 #[.string s,.func (.func 77) #[] #[]] w fun e w'=>e=.returned (.bool (!digsB s))∧Below w.heap.size w w':=by
 have h:=Tryz.strings_ContainsFunc_grows 77 #[] (enters_of Tryz.func77 (by kernel_rfl) rfl) notDig s w (fun W x hx _=>rune_any x hx W)
 rw [show (!digsB s)=decide (0≤Lib.idxFunc notDig true s) by rw [digsB,Bool.not_not]]
 exact h
theorem any_take {α:Type} (p:α→Bool):∀(l:List α) (i:Nat) (x:α),l[i]?=some x→(l.take (i+1)).any p=((l.take i).any p || p x)
 |[],_,_,h=>by cases h
 |y :: r,i,x,h=>by
  cases i with
  |zero=>injection h with h;subst h;simp
  |succ i =>
   have:=any_take p r i x h
   rw [List.take_succ_cons,List.take_succ_cons,List.any_cons,List.any_cons,this,Bool.or_assoc]
theorem any_at {α:Type} (p:α→Bool) (l:List α) (i:Nat) (x:α) (h:l[i]?=some x) (hp:p x=true):l.any p=true :=
 List.any_eq_true.2 ⟨x,List.mem_of_getElem? h,hp⟩
set_option maxRecDepth 100000 in
set_option maxHeartbeats 1000000 in
theorem idxH_any (p:CondD→Bool) (ks:List CondD) (a:Option Addr) (cap vx:Nat) (w:World) (hl:ks.length≤140737488355328)
  (hc:0<ks.length→∃b off,a=some ⟨b,off,none⟩∧KidsIs w b ks off)
  (hcl:∀(c:CondD) (a':Option Addr) (cap':Nat) (W:World),c∈ks→CondIs W c a'→Below w.heap.size w W→Calls Tryz.prog 74 #[condV c a' cap',.pointer (some ⟨vx,0,none⟩)] W fun e W'=>e=.returned (.bool (p c))∧Below W.heap.size W W') :
  Calls Tryz.prog 108 #[.slice a ks.length cap,.func (.func 74) #[] #[.pointer (some ⟨vx,0,none⟩)]] w (NoneP (!ks.any p) w):=by
 obtain ⟨N,hN⟩:∃N,ks.length=N:=⟨_,rfl⟩
 rw [hN] at hl hc ⊢
 have HN:=Lib.hid hN
 have HC:=Lib.hid hc
 have HCL:=Lib.hid hcl
 obtain ⟨R,hR⟩:∃R,ks.any p=R:=⟨_,rfl⟩
 have HR:=Lib.hid hR
 rw [hR]
 clear hN hc hR hcl
 go_enter Tryz.func108,Tryz.ntmps108
 go_wp2
 go_loopw [8] (fun i wr=>∃j:Nat,j≤N∧i=.int .i64 j∧Hid ((ks.take j).any p=false)∧Below w.heap.size w wr) (fun i _=>N - (intOf i).toNat)
 case atStart=>exact ⟨0,by omega,rfl,Lib.hid rfl,Below.refl _ _⟩
 case round =>
  obtain ⟨j,hj,rfl,HT,hbr⟩:=hrel
  by_cases hlt:j<N
  ·obtain ⟨c,hcj⟩:∃c,ks[j]?=some c:=⟨ks[j]'(by rw [HN.out];exact hlt),List.getElem?_eq_getElem _⟩
   obtain ⟨b,off,ha,hrow⟩:=HC.out (by omega)
   subst ha
   obtain ⟨a',cap',⟨q0,q1,q2,q3,q4⟩,hci⟩:=KidsIs.at _ _ j c hrow hcj
   have c0:=cell_later hbr q0
   have c1:=cell_later hbr q1
   have c2:=cell_later hbr q2
   have c3:=cell_later hbr q3
   have c4:=cell_later hbr q4
   have CL:=Lib.hid (HCL.out c a' cap' wr (List.mem_of_getElem? hcj) (hci.later hbr) hbr)
   have HJ:=Lib.hid hcj
   clear q0 q1 q2 q3 q4 hci hrow hcj
   cases hv:p c
   ·have HT2:=Lib.hid (show (ks.take (j+1)).any p=false by rw [any_take _ _ _ _ HJ.out,HT.out,hv];rfl)
    rw [hv,cond_cells] at CL
    clear hv
    go_wp2_with fail
    refine CL.out.mono ?_
    rintro e w2 ⟨rfl,hb2⟩
    have B2:=below_step hbr (Nat.le_refl _) hb2
    go_wp2
    go_roundw
    case rel=>exact ⟨j+1,by omega,by go_num,HT2,B2⟩
    case measure=>simp [intOf];omega
   ·have HE:=Lib.hid (show R=true by rw [←HR.out];exact any_at _ _ _ _ HJ.out hv)
    rw [hv,cond_cells] at CL
    clear hv
    go_wp2_with fail
    refine CL.out.mono ?_
    rintro e w2 ⟨rfl,hb2⟩
    have B2:=below_step hbr (Nat.le_refl _) hb2
    go_wp2
    go_ret
    exact ⟨⟨_,rfl,by rw [HE.out];simp⟩,B2⟩
  ·obtain rfl:j=N:=by omega
   have HE:=Lib.hid (show R=false by rw [←HR.out,←HT.out,List.take_of_length_le (by rw [HN.out];exact Nat.le_refl _)])
   go_wp2
   go_ret
   exact ⟨⟨_,rfl,by rw [HE.out];simp⟩,hbr⟩
theorem hasH_any (p:CondD→Bool) (ks:List CondD) (a:Option Addr) (cap vx:Nat) (w:World) (hl:ks.length≤140737488355328)
  (hc:0<ks.length→∃b off,a=some ⟨b,off,none⟩∧KidsIs w b ks off)
  (hcl:∀(c:CondD) (a':Option Addr) (cap':Nat) (W:World),c∈ks→CondIs W c a'→Below w.heap.size w W→Calls Tryz.prog 74 #[condV c a' cap',.pointer (some ⟨vx,0,none⟩)] W fun e W'=>e=.returned (.bool (p c))∧Below W.heap.size W W') :
  Calls Tryz.prog 79 #[.slice a ks.length cap,.func (.func 74) #[] #[.pointer (some ⟨vx,0,none⟩)]] w fun e w'=>e=.returned (.bool (ks.any p))∧Below w.heap.size w w':=by
 have HI:=Lib.hid (idxH_any p ks a cap vx w hl hc hcl)
 clear hc hcl
 obtain ⟨R,hR⟩:∃R,ks.any p=R:=⟨_,rfl⟩
 rw [hR] at HI ⊢
 clear hR
 go_enter Tryz.func79,Tryz.ntmps79
 go_wp2_with fail
 refine HI.out.mono ?_
 rintro e w2 ⟨⟨n,rfl,hn⟩,hb2⟩
 have hd:decide ((0:Int)≤n)=R:=by
  cases R
  ·exact decide_eq_false fun h=>by have:=hn.1 h;cases this
  ·exact decide_eq_true (hn.2 rfl)
 clear hn
 go_wp2
 go_ret
 exact ⟨rfl,hb2⟩
set_option maxRecDepth 100000 in
set_option maxHeartbeats 1000000 in
theorem idxF_any (p:CondD→Bool) (ks:List CondD) (a:Option Addr) (cap vx:Nat) (w:World) (hl:ks.length≤140737488355328)
  (hc:0<ks.length→∃b off,a=some ⟨b,off,none⟩∧KidsIs w b ks off)
  (hcl:∀(c:CondD) (a':Option Addr) (cap':Nat) (W:World),c∈ks→CondIs W c a'→Below w.heap.size w W→Calls Tryz.prog 75 #[condV c a' cap',.pointer (some ⟨vx,0,none⟩)] W fun e W'=>e=.returned (.bool (p c))∧Below W.heap.size W W') :
  Calls Tryz.prog 108 #[.slice a ks.length cap,.func (.func 75) #[] #[.pointer (some ⟨vx,0,none⟩)]] w (NoneP (!ks.any p) w):=by
 obtain ⟨N,hN⟩:∃N,ks.length=N:=⟨_,rfl⟩
 rw [hN] at hl hc ⊢
 have HN:=Lib.hid hN
 have HC:=Lib.hid hc
 have HCL:=Lib.hid hcl
 obtain ⟨R,hR⟩:∃R,ks.any p=R:=⟨_,rfl⟩
 have HR:=Lib.hid hR
 rw [hR]
 clear hN hc hR hcl
 go_enter Tryz.func108,Tryz.ntmps108
 go_wp2
 go_loopw [8] (fun i wr=>∃j:Nat,j≤N∧i=.int .i64 j∧Hid ((ks.take j).any p=false)∧Below w.heap.size w wr) (fun i _=>N - (intOf i).toNat)
 case atStart=>exact ⟨0,by omega,rfl,Lib.hid rfl,Below.refl _ _⟩
 case round =>
  obtain ⟨j,hj,rfl,HT,hbr⟩:=hrel
  by_cases hlt:j<N
  ·obtain ⟨c,hcj⟩:∃c,ks[j]?=some c:=⟨ks[j]'(by rw [HN.out];exact hlt),List.getElem?_eq_getElem _⟩
   obtain ⟨b,off,ha,hrow⟩:=HC.out (by omega)
   subst ha
   obtain ⟨a',cap',⟨q0,q1,q2,q3,q4⟩,hci⟩:=KidsIs.at _ _ j c hrow hcj
   have c0:=cell_later hbr q0
   have c1:=cell_later hbr q1
   have c2:=cell_later hbr q2
   have c3:=cell_later hbr q3
   have c4:=cell_later hbr q4
   have CL:=Lib.hid (HCL.out c a' cap' wr (List.mem_of_getElem? hcj) (hci.later hbr) hbr)
   have HJ:=Lib.hid hcj
   clear q0 q1 q2 q3 q4 hci hrow hcj
   cases hv:p c
   ·have HT2:=Lib.hid (show (ks.take (j+1)).any p=false by rw [any_take _ _ _ _ HJ.out,HT.out,hv];rfl)
    rw [hv,cond_cells] at CL
    clear hv
    go_wp2_with fail
    refine CL.out.mono ?_
    rintro e w2 ⟨rfl,hb2⟩
    have B2:=below_step hbr (Nat.le_refl _) hb2
    go_wp2
    go_roundw
    case rel=>exact ⟨j+1,by omega,by go_num,HT2,B2⟩
    case measure=>simp [intOf];omega
   ·have HE:=Lib.hid (show R=true by rw [←HR.out];exact any_at _ _ _ _ HJ.out hv)
    rw [hv,cond_cells] at CL
    clear hv
    go_wp2_with fail
    refine CL.out.mono ?_
    rintro e w2 ⟨rfl,hb2⟩
    have B2:=below_step hbr (Nat.le_refl _) hb2
    go_wp2
    go_ret
    exact ⟨⟨_,rfl,by rw [HE.out];simp⟩,B2⟩
  ·obtain rfl:j=N:=by omega
   have HE:=Lib.hid (show R=false by rw [←HR.out,←HT.out,List.take_of_length_le (by rw [HN.out];exact Nat.le_refl _)])
   go_wp2
   go_ret
   exact ⟨⟨_,rfl,by rw [HE.out];simp⟩,hbr⟩
theorem hasF_any (p:CondD→Bool) (ks:List CondD) (a:Option Addr) (cap vx:Nat) (w:World) (hl:ks.length≤140737488355328)
  (hc:0<ks.length→∃b off,a=some ⟨b,off,none⟩∧KidsIs w b ks off)
  (hcl:∀(c:CondD) (a':Option Addr) (cap':Nat) (W:World),c∈ks→CondIs W c a'→Below w.heap.size w W→Calls Tryz.prog 75 #[condV c a' cap',.pointer (some ⟨vx,0,none⟩)] W fun e W'=>e=.returned (.bool (p c))∧Below W.heap.size W W') :
  Calls Tryz.prog 79 #[.slice a ks.length cap,.func (.func 75) #[] #[.pointer (some ⟨vx,0,none⟩)]] w fun e w'=>e=.returned (.bool (ks.any p))∧Below w.heap.size w w':=by
 have HI:=Lib.hid (idxF_any p ks a cap vx w hl hc hcl)
 clear hc hcl
 obtain ⟨R,hR⟩:∃R,ks.any p=R:=⟨_,rfl⟩
 rw [hR] at HI ⊢
 clear hR
 go_enter Tryz.func79,Tryz.ntmps79
 go_wp2_with fail
 refine HI.out.mono ?_
 rintro e w2 ⟨⟨n,rfl,hn⟩,hb2⟩
 have hd:decide ((0:Int)≤n)=R:=by
  cases R
  ·exact decide_eq_false fun h=>by have:=hn.1 h;cases this
  ·exact decide_eq_true (hn.2 rfl)
 clear hn
 go_wp2
 go_ret
 exact ⟨rfl,hb2⟩
end Go.Proofs.YtdfenhjibnfdeaaGreatDoor
