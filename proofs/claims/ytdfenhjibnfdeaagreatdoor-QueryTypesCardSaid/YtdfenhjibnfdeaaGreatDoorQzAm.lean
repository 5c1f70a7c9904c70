/-      -/
import Derived.Test.YtdfenhjibnfdeaaGreatDoorQzAh
import Derived.Test.YtdfenhjibnfdeaaGreatDoorQzAe
import Derived.Test.YtdfenhjibnfdeaaGreatDoorQzAj
import Derived.Test.YtdfenhjibnfdeaaGreatDoorQzAi
namespace Go.Proofs.YtdfenhjibnfdeaaGreatDoor
open Go.RowKit Go.Shelf
def NodesP (w:World) (c:CondD) (most:Nat) (e:Ending) (w':World):Prop :=
 ∃n:Nat,e=.returned (.int .i64 n)∧1≤n∧(n=1∨n≤most+1)∧(n≤most→n=cnodes c)∧Below w.heap.size w w'
def NodesK (k:Nat):Prop:=∀(c:CondD) (a:Option Addr) (cap:Nat) (w:World) (most:Nat),cnodes c≤k→CondIs w c a→most≤100 →
 Calls Tryz.prog 45 #[condV c a cap,.int .i64 most] w (NodesP w c most)
set_option maxRecDepth 100000 in
set_option maxHeartbeats 4000000 in
theorem nodes_step (k:Nat) (IH:NodesK k):NodesK (k+1):=by
 intro c a cap w most hk hc hm
 obtain ⟨op,key,val,n,ks⟩:=c
 have hk2:cnodesL ks≤k:=by rw [cnodes] at hk;omega
 obtain ⟨h1,h2,h3,h4⟩:=hc.open
 show Calls Tryz.prog 45 #[.agg #[.int .i64 op,.string key,.string val,.int .i64 n,.slice a ks.length cap],.int .i64 most] w _
 have h3:ks.length≤140737488355328:=h3
 have HRES:=Lib.hid (show cnodes (.mk op key val n ks)=cnodesL ks+1 from by rw [cnodes])
 have B1:=(Below.refl w.heap.size w).alloc (Nat.le_refl _) (.cells #[.int .i64 op,.string key,.string val,.int .i64 n,.slice a ks.length cap] 24)
 have HC0:=Lib.hid (row_new w (.cells #[.int .i64 op,.string key,.string val,.int .i64 n,.slice a ks.length cap] 24))
 obtain ⟨N,hN⟩:∃N,ks.length=N:=⟨_,rfl⟩
 rw [hN] at h3 HC0 B1 ⊢
 have HN:=Lib.hid hN
 have H4:=Lib.hid (show 0<ks.length→∃b off,a=some ⟨b,off,none⟩∧KidsIs w b ks off from h4)
 clear hc h4 hk hN h1 h2
 go_enter Tryz.func45,Tryz.ntmps45
 go_wp2
 go_loopw [5,6] (fun v i wr=>∃(j m:Nat),j≤N∧i=.int .i64 j∧v=.int .i64 m∧1≤m∧(m=1∨m≤most+1)∧(m≤most∨j=0→m=cnodesL (ks.take j)+1)∧Below w.heap.size w wr∧wr.heap[w.heap.size]?=some (.cells #[.int .i64 op,.string key,.string val,.int .i64 n,.slice a N cap] 24 (0,0))) (fun _ i _=>N - (intOf i).toNat)
 case atStart=>exact ⟨0,1,by omega,rfl,rfl,by omega,.inl rfl,fun _=>by simp [cnodesL],B1,HC0.out⟩
 case round =>
  obtain ⟨j,m,hj,rfl,rfl,hm1,hm2,hm3,hbr,hbx⟩:=hrel
  have HM3:=Lib.hid hm3
  have HBX:=Lib.hid hbx
  clear hbx hm3
  by_cases hlt:j<N
  ·by_cases hle:m≤most
   ·obtain ⟨c,hcj⟩:∃c,ks[j]?=some c:=⟨ks[j]'(by rw [HN.out];exact hlt),List.getElem?_eq_getElem _⟩
    obtain ⟨b,off,ha,hrow⟩:=H4.out (by rw [HN.out];omega)
    subst ha
    obtain ⟨a',cap',⟨q0,q1,q2,q3,q4⟩,hci⟩:=KidsIs.at _ _ j c hrow hcj
    have c0:=cell_later hbr q0
    have c1:=cell_later hbr q1
    have c2:=cell_later hbr q2
    have c3:=cell_later hbr q3
    have c4:=cell_later hbr q4
    have hm:=List.mem_of_getElem? hcj
    have CL:=Lib.hid (IH c a' cap' wr (most - m) (Nat.le_trans (cnodes_kid _ _ _ hcj) hk2) (hci.later hbr) (by omega))
    have HTK:=Lib.hid (cnodesL_take ks j c hcj)
    have d1:decide ((m:Int)≤most)=true:=decide_eq_true (by omega)
    have d0:decide ((j:Int)<N)=true:=decide_eq_true (by omega)
    clear q0 q1 q2 q3 q4 hci hrow hcj hm
    rw [cond_cells,show (((most - m:Nat)):Int)=(most:Int) - m by omega] at CL
    obtain ⟨zz,z0,z1,z2,z3,z4⟩:=rk5 HBX.out
    go_wp2_with fail
    refine CL.out.mono ?_
    rintro e w2 ⟨r,rfl,hr1,hr2,hr3,hb2⟩
    have HB2:=Lib.hid (row_later hb2 HBX.out)
    have B2:=below_step hbr (Nat.le_refl _) hb2
    have HM4:=Lib.hid (show m+r≤most∨j+1=0→m+r=cnodesL (ks.take (j+1))+1 from fun h=>by
     rw [HTK.out]
     have h5:=HM3.out (.inl hle)
     have h6:=hr3 (by omega)
     omega)
    clear hb2 hr3 CL HM3
    go_wp2
    go_roundw
    case rel=>exact ⟨j+1,m+r,by omega,by go_num,by go_num,by omega,by omega,HM4.out,B2,HB2.out⟩
    case measure=>simp [intOf];omega
   ·have d1:decide ((m:Int)≤most)=false:=decide_eq_false (by omega)
    have d0:decide ((j:Int)<N)=true:=decide_eq_true (by omega)
    obtain ⟨zz,z0,z1,z2,z3,z4⟩:=rk5 HBX.out
    go_wp2
    go_ret
    exact ⟨m,rfl,hm1,hm2,fun h=>absurd h hle,hbr⟩
  ·obtain rfl:j=N:=by omega
   have hm4:=HM3.out
   rw [List.take_of_length_le (by rw [HN.out];exact Nat.le_refl _)] at hm4
   have HM4:=Lib.hid hm4
   clear hm4 HM3
   obtain ⟨zz,z0,z1,z2,z3,z4⟩:=rk5 HBX.out
   go_wp2
   go_ret
   exact ⟨m,rfl,hm1,hm2,fun h=>(HM4.out (.inl h)).trans HRES.out.symm,hbr⟩
theorem nodes_all:∀k,NodesK k
 |0=>fun c _ _ _ _ hk=>by have:=cnodes_pos c;omega
 |k+1=>nodes_step k (nodes_all k)
theorem nodes_any (c:CondD) (a:Option Addr) (cap:Nat) (w:World) (most:Nat) (hc:CondIs w c a) (hm:most≤100) :
  Calls Tryz.prog 45 #[condV c a cap,.int .i64 most] w (NodesP w c most):=nodes_all (cnodes c) c a cap w most (Nat.le_refl _) hc hm
end Go.Proofs.YtdfenhjibnfdeaaGreatDoor

namespace Go.Proofs.YtdfenhjibnfdeaaGreatDoor
open Go.RowKit Go.Shelf
def FewOPost (o:ObjD) (w:World) (e:Ending) (w':World):Prop:=(∃r,e=.returned (.bool r)∧(r=true→o.refs.length≤40∧o.tags.length≤65))∧Below w.heap.size w w'
set_option maxRecDepth 100000 in
set_option maxHeartbeats 4000000 in
theorem fewO_any (o:ObjD) (vr vt:Value) (w:World) (hr:StrRow w vr o.refs) (ht:TagRow w vt o.tags) :
  Calls Tryz.prog 19 #[obV o vr vt,.int .i64 40] w (FewOPost o w):=by
 obtain ⟨a1,c1,rfl,hn1,hs1,hc1⟩:=hr
 obtain ⟨a2,c2,rfl,hn2,hs2,hc2⟩:=ht
 have B1:Below w.heap.size w (w.alloc (.cells #[.string o.id,.int .i64 o.kind,.int .i64 o.x,.int .i64 o.y,.slice a1 o.refs.length c1,.slice a2 o.tags.length c2] 50)):=(Below.refl _ _).alloc (Nat.le_refl _) _
 have H2:=row_new w (.cells #[.string o.id,.int .i64 o.kind,.int .i64 o.x,.int .i64 o.y,.slice a1 o.refs.length c1,.slice a2 o.tags.length c2] 50)
 by_cases z1:(300:Int)<o.id.size
 ·have zb:decide ((300:Int)<o.id.size)=true:=decide_eq_true z1
  go_enter Tryz.func19,Tryz.ntmps19
  go_wp2
  go_ret
  exact ⟨⟨false,rfl,fun h=>by cases h⟩,B1⟩
 have zb:decide ((300:Int)<o.id.size)=false:=decide_eq_false z1
 by_cases z2:(40:Int)<o.refs.length
 ·have zb2:decide ((40:Int)<o.refs.length)=true:=decide_eq_true z2
  clear z1
  go_enter Tryz.func19,Tryz.ntmps19
  go_wp2
  go_ret
  exact ⟨⟨false,rfl,fun h=>by cases h⟩,B1⟩
 have zb2:decide ((40:Int)<o.refs.length)=false:=decide_eq_false z2
 by_cases z3:(65:Int)<o.tags.length
 ·have zb3:decide ((65:Int)<o.tags.length)=true:=decide_eq_true z3
  clear z1 z2
  go_enter Tryz.func19,Tryz.ntmps19
  go_wp2
  go_ret
  exact ⟨⟨false,rfl,fun h=>by cases h⟩,B1⟩
 have zb3:decide ((65:Int)<o.tags.length)=false:=decide_eq_false z3
 have HR:=Lib.hid (show o.refs.length≤40∧o.tags.length≤65 by omega)
 obtain ⟨nr,hnr⟩:∃n,o.refs.length=n:=⟨_,rfl⟩
 obtain ⟨nt,hnt⟩:∃n,o.tags.length=n:=⟨_,rfl⟩
 rw [hnr] at hn1 hc1 zb2 z2 B1 H2 ⊢
 rw [hnt] at hn2 hc2 zb3 z3 B1 H2 ⊢
 have HNR:=Lib.hid hnr
 have HNT:=Lib.hid hnt
 have HC1:=Lib.hid hc1
 have HC2:=Lib.hid hc2
 have HS1:=Lib.hid hs1
 have HS2:=Lib.hid hs2
 have hnr40:nr≤40:=by rw [←hnr];exact HR.out.1
 have hnt65:nt≤65:=by omega
 clear hnr hnt hc1 hc2 hs1 hs2 z1 z2 z3
 go_enter Tryz.func19,Tryz.ntmps19
 go_wp2_with fail
 generalize hw1:w.alloc (.cells #[.string o.id,.int .i64 o.kind,.int .i64 o.x,.int .i64 o.y,.slice a1 nr c1,.slice a2 nt c2] 50)=w1
 rw [hw1] at B1 H2
 clear hw1 zb zb2 zb3
 go_loopw [5] (fun i wr=>∃k:Nat,i=.int .i64 k∧k≤nr∧Below w.heap.size w wr∧wr.heap[w.heap.size]?=some (.cells #[.string o.id,.int .i64 o.kind,.int .i64 o.x,.int .i64 o.y,.slice a1 nr c1,.slice a2 nt c2] 50)) (fun i _=>nr - (intOf i).toNat)
 case atStart=>exact ⟨0,rfl,Nat.zero_le _,B1,H2⟩
 case round =>
  obtain ⟨k,rfl,hk,hbr,h2⟩:=hrel
  have G2:=Lib.hid h2
  clear h2
  by_cases hlt:k<nr
  ·obtain ⟨s,hs⟩:∃s,o.refs[k]?=some s:=⟨o.refs[k]'(by rw [HNR.out];exact hlt),List.getElem?_eq_getElem _⟩
   obtain ⟨b1,f1,e1,q1⟩:=HC1.out (by omega)
   subst e1
   have d0:=cell_later hbr (q1 k s hs)
   have hz:=HS1.out s (List.mem_of_getElem? hs)
   clear q1 hs
   obtain ⟨xz,x0,x1,x2,x3,x4,x5⟩:=rk6 G2.out
   by_cases hb:(300:Int)<s.size
   ·have hbb:decide ((300:Int)<s.size)=true:=decide_eq_true hb
    clear hb
    go_wp2
    go_ret
    exact ⟨⟨false,rfl,fun h=>by cases h⟩,hbr⟩
   ·have hbb:decide ((300:Int)<s.size)=false:=decide_eq_false hb
    clear hb
    go_wp2
    go_roundw
    case rel=>exact ⟨k+1,by go_num,by omega,hbr,G2.out⟩
    case measure=>simp [intOf];omega
  ·obtain rfl:k=nr:=by omega
   obtain ⟨wv,rfl⟩:∃z:World,z=wr:=⟨_,rfl⟩
   obtain ⟨xz,x0,x1,x2,x3,x4,x5⟩:=rk6 G2.out
   go_wp2_with fail
   clear x0 x1 x2 x3 x4 x5 xz
   go_loopw [6] (fun i wr=>∃j:Nat,i=.int .i64 j∧j≤nt∧Below w.heap.size w wr∧wr.heap[w.heap.size]?=some (.cells #[.string o.id,.int .i64 o.kind,.int .i64 o.x,.int .i64 o.y,.slice a1 k c1,.slice a2 nt c2] 50)) (fun i _=>nt - (intOf i).toNat)
   case atStart=>exact ⟨0,rfl,Nat.zero_le _,hbr,G2.out⟩
   case round =>
    obtain ⟨j,rfl,hj,hbr2,h2⟩:=hrel
    have G2:=Lib.hid h2
    clear h2
    by_cases hlt2:j<nt
    ·obtain ⟨t,ht⟩:∃t,o.tags[j]?=some t:=⟨o.tags[j]'(by rw [HNT.out];exact hlt2),List.getElem?_eq_getElem _⟩
     obtain ⟨b2,f2,e2,q2⟩:=HC2.out (by omega)
     subst e2
     have d0:=cell_later hbr2 (q2 j t ht).1
     have d1:=cell_later hbr2 (q2 j t ht).2
     obtain ⟨hz1,hz2⟩:=HS2.out t (List.mem_of_getElem? ht)
     have wz:IntKind.i64.wrap ((t.key.size:Int)+t.val.size)=(t.key.size:Int)+t.val.size:=IntWalk.i64_in _ (by omega)
     clear q2 ht
     obtain ⟨xz,x0,x1,x2,x3,x4,x5⟩:=rk6 G2.out
     obtain ⟨bd,hbd⟩:∃z,decide ((600:Int)<(t.key.size:Int)+t.val.size)=z:=⟨_,rfl⟩
     cases bd with
     |true =>
      go_wp2_with fail
      go_quiet (fail)
      go_wp2
      go_ret
      exact ⟨⟨false,rfl,fun h=>by cases h⟩,hbr2.drewN'⟩
     |false =>
      go_wp2_with fail
      go_quiet (fail)
      clear x0 x1 x2 x3 x4 x5 xz
      have BQ:Below wr.heap.size wr (wr.drewN nq):=(Below.refl _ _).drewN'
      go_wp2
      go_roundw
      case rel=>exact ⟨j+1,by go_num,by omega,hbr2.drewN',row_later BQ G2.out⟩
      case measure=>simp [intOf];omega
    ·obtain rfl:j=nt:=by omega
     obtain ⟨xz,x0,x1,x2,x3,x4,x5⟩:=rk6 G2.out
     go_wp2
     go_ret
     exact ⟨⟨true,rfl,fun _=>HR.out⟩,hbr2⟩
end Go.Proofs.YtdfenhjibnfdeaaGreatDoor

namespace Go.Proofs.YtdfenhjibnfdeaaGreatDoor
open Go.RowKit Go.Shelf
def ShortK (k:Nat):Prop:=∀(c:CondD) (a:Option Addr) (cap:Nat) (w:World),cnodes c≤k→CondIs w c a →
 Calls Tryz.prog 46 #[condV c a cap] w fun e w'=>∃b,e=.returned (.bool b)∧Below w.heap.size w w'
set_option maxRecDepth 100000 in
set_option maxHeartbeats 4000000 in
theorem short_step (k:Nat) (IH:ShortK k):ShortK (k+1):=by
 intro c a cap w hk hc
 obtain ⟨op,key,val,n,ks⟩:=c
 have hk2:cnodesL ks≤k:=by rw [cnodes] at hk;omega
 obtain ⟨h1,h2,h3,h4⟩:=hc.open
 have h3:ks.length≤140737488355328:=h3
 have B1:=(Below.refl w.heap.size w).alloc (Nat.le_refl _) (.cells #[.int .i64 op,.string key,.string val,.int .i64 n,.slice a ks.length cap] 24)
 have HC0:=Lib.hid (row_new w (.cells #[.int .i64 op,.string key,.string val,.int .i64 n,.slice a ks.length cap] 24))
 show Calls Tryz.prog 46 #[.agg #[.int .i64 op,.string key,.string val,.int .i64 n,.slice a ks.length cap]] w _
 obtain ⟨N,hN⟩:∃N,ks.length=N:=⟨_,rfl⟩
 rw [hN] at h3 HC0 B1 ⊢
 have HN:=Lib.hid hN
 have H4:=Lib.hid (show 0<ks.length→∃b off,a=some ⟨b,off,none⟩∧KidsIs w b ks off from h4)
 obtain ⟨sk,hsk⟩:∃sk,decide ((300:Int)<key.size)=sk:=⟨_,rfl⟩
 obtain ⟨sv,hsv⟩:∃sv,decide ((300:Int)<val.size)=sv:=⟨_,rfl⟩
 have h1:key.size≤140737488355328:=h1
 have h2:val.size≤140737488355328:=h2
 clear hc h4 hk hN
 cases sk
 case true =>
  go_enter Tryz.func46,Tryz.ntmps46
  go_wp2
  go_ret
  exact ⟨_,rfl,B1⟩
 cases sv
 case true =>
  go_enter Tryz.func46,Tryz.ntmps46
  go_wp2
  go_ret
  exact ⟨_,rfl,B1⟩
 go_enter Tryz.func46,Tryz.ntmps46
 go_wp2
 go_loopw [3] (fun i wr=>∃(j:Nat),j≤N∧i=.int .i64 j∧Below w.heap.size w wr∧wr.heap[w.heap.size]?=some (.cells #[.int .i64 op,.string key,.string val,.int .i64 n,.slice a N cap] 24 (0,0))) (fun i _=>N - (intOf i).toNat)
 case atStart=>exact ⟨0,by omega,rfl,B1,HC0.out⟩
 case round =>
  obtain ⟨j,hj,rfl,hbr,hbx⟩:=hrel
  have HBX:=Lib.hid hbx
  clear hbx hsk hsv
  by_cases hlt:j<N
  ·obtain ⟨c,hcj⟩:∃c,ks[j]?=some c:=⟨ks[j]'(by rw [HN.out];exact hlt),List.getElem?_eq_getElem _⟩
   obtain ⟨b,off,ha,hrow⟩:=H4.out (by rw [HN.out];omega)
   subst ha
   obtain ⟨a',cap',⟨q0,q1,q2,q3,q4⟩,hci⟩:=KidsIs.at _ _ j c hrow hcj
   have c0:=cell_later hbr q0
   have c1:=cell_later hbr q1
   have c2:=cell_later hbr q2
   have c3:=cell_later hbr q3
   have c4:=cell_later hbr q4
   have CL:=Lib.hid (IH c a' cap' wr (Nat.le_trans (cnodes_kid _ _ _ hcj) hk2) (hci.later hbr))
   have d0:decide ((j:Int)<N)=true:=decide_eq_true (by omega)
   clear q0 q1 q2 q3 q4 hci hrow hcj
   rw [cond_cells] at CL
   obtain ⟨zz,z0,z1,z2,z3,z4⟩:=rk5 HBX.out
   go_wp2_with fail
   refine CL.out.mono ?_
   rintro e w3 ⟨rb,rfl,hb3⟩
   have HB3:=Lib.hid (row_later hb3 HBX.out)
   have B3:=below_step hbr (Nat.le_refl _) hb3
   clear hb3 CL
   cases rb
   ·go_wp2
    go_ret
    exact ⟨_,rfl,B3⟩
   go_wp2
   go_roundw
   case rel=>exact ⟨j+1,by omega,by go_num,B3,HB3.out⟩
   case measure=>simp [intOf];omega
  ·obtain rfl:j=N:=by omega
   obtain ⟨zz,z0,z1,z2,z3,z4⟩:=rk5 HBX.out
   go_wp2
   go_ret
   exact ⟨_,rfl,hbr⟩
theorem short_all:∀k,ShortK k
 |0=>fun c _ _ _ hk=>by have:=cnodes_pos c;omega
 |k+1=>short_step k (short_all k)
theorem rshort_any (c:CondD) (a:Option Addr) (cap:Nat) (w:World) (hc:CondIs w c a) :
  Calls Tryz.prog 46 #[condV c a cap] w fun e w'=>∃b,e=.returned (.bool b)∧Below w.heap.size w w':=short_all (cnodes c) c a cap w (Nat.le_refl _) hc
set_option maxRecDepth 100000 in
set_option maxHeartbeats 4000000 in
theorem fewc_any (c:CondD) (a:Option Addr) (cap:Nat) (w:World) (hc:CondIs w c a) :
  Calls Tryz.prog 18 #[condV c a cap] w fun e w'=>∃b,e=.returned (.bool b)∧Below w.heap.size w w':=by
 have B1:=(Below.refl w.heap.size w).alloc (Nat.le_refl _) (.cells #[.int .i64 c.op,.string c.key,.string c.val,.int .i64 c.n,.slice a c.kids.length cap] 24)
 have HC0:=Lib.hid (row_new w (.cells #[.int .i64 c.op,.string c.key,.string c.val,.int .i64 c.n,.slice a c.kids.length cap] 24))
 have ND:=Lib.hid (fun W (hb:Below w.heap.size w W)=>nodes_any c a cap W 80 (hc.later hb) (by omega))
 have AL:=Lib.hid (fun W (hb:Below w.heap.size w W)=>rshort_any c a cap W (hc.later hb))
 rw [cond_cells] at ND AL ⊢
 clear hc
 go_enter Tryz.func18,Tryz.ntmps18
 go_wp2_with fail
 refine (ND.out _ B1).mono ?_
 rintro e w2 ⟨m,rfl,hm1,hm2,hm3,hb2⟩
 have HB2:=Lib.hid (row_later hb2 HC0.out)
 have B2:=below_step B1 (Nat.le_refl _) hb2
 clear hb2 ND hm3 B1
 by_cases hle:m≤80
 ·have d1:decide ((m:Int)≤80)=true:=decide_eq_true (by omega)
  clear hle
  obtain ⟨zz,z0,z1,z2,z3,z4⟩:=rk5 HB2.out
  go_wp2_with fail
  refine (AL.out _ B2).mono ?_
  rintro e w3 ⟨b,rfl,hb3⟩
  have B3:=below_step B2 (Nat.le_refl _) hb3
  clear hb3 z0 z1 z2 z3 z4 AL
  cases b
  ·go_wp2
   go_ret
   exact ⟨_,rfl,B3⟩
  ·go_wp2
   go_ret
   exact ⟨_,rfl,B3⟩
 ·have d1:decide ((m:Int)≤80)=false:=decide_eq_false (by omega)
  clear hle AL
  go_wp2
  go_ret
  exact ⟨_,rfl,B2⟩
end Go.Proofs.YtdfenhjibnfdeaaGreatDoor

namespace Go.Proofs.YtdfenhjibnfdeaaGreatDoor
open Go.RowKit
theorem least_below (k:Int) (h0:1≤k) (h5:k≤5) (w:World) :
  Calls Tryz.prog 112 #[.int .i64 k] w fun e w'=>e=.returned (.int .i64 (leastK k))∧Below w.heap.size w w' :=
 (least_any k h0 h5 w).mono fun _ _ h=>⟨h.1,by obtain ⟨_,rfl⟩:=h;exact Below.refl _ _⟩
theorem wordK_in (k:Int) (h0:1≤k) (h5:k≤5):0<(wordK k).size:=by
 obtain rfl | rfl | rfl | rfl | rfl:k=1∨k=2∨k=3∨k=4∨k=5:=by omega
 all_goals decide
theorem wordK_out (k:Int) (h:¬(1≤k∧k≤5)):wordK k=⟨#[]⟩:=by
 simp only [wordK];rw [if_neg (by omega),if_neg (by omega),if_neg (by omega),if_neg (by omega),if_neg (by omega)]
set_option maxRecDepth 100000 in
set_option maxHeartbeats 2000000 in
theorem valid_kind (id:ByteArray) (kind x y:Int) (refs:List ByteArray) (tags:List TagD) (a:Option Addr) (N cap:Nat) (vt:Value) (w:World) (hk:¬(1≤kind∧kind≤5)) :
  Calls Tryz.prog 82 #[.agg #[.string id,.int .i64 kind,.int .i64 x,.int .i64 y,.slice a N cap,vt]] w fun e w'=>e=.returned (.bool (objOK ⟨id,kind,x,y,refs,tags⟩))∧Below w.heap.size w w':=by
 have HB:=Lib.hid (show objOK ⟨id,kind,x,y,refs,tags⟩=false by simp only [objOK];rw [decide_eq_false hk];simp)
 have WD:=Lib.hid (fun w=>by have:=word_any kind w;rw [wordK_out kind hk] at this;exact this)
 have ND:=Lib.hid True.intro
 have TD:=Lib.hid True.intro
 have LD:=Lib.hid True.intro
 clear hk
 have mixed:Tryz.prog.follows .mixedOrders=true:=by kernel_rfl
 go_enter Tryz.func82,Tryz.ntmps82
 go_wp2_with fail
 have B1:Below w.heap.size w (w.alloc (.cells #[.string id,.int .i64 kind,.int .i64 x,.int .i64 y,.slice a N cap,vt] 50)):=(Below.refl _ w).alloc (Nat.le_refl _) _
 have HO:=row_new w (.cells #[.string id,.int .i64 kind,.int .i64 x,.int .i64 y,.slice a N cap,vt] 50)
 generalize hw1:w.alloc (.cells #[.string id,.int .i64 kind,.int .i64 x,.int .i64 y,.slice a N cap,vt] 50)=w1
 rw [hw1] at B1 HO
 clear hw1
 have HO1:=Lib.hid HO
 obtain ⟨pz,p0,p1,p2,p3,p4,p5⟩:=rk6 HO
 have HO':=Lib.hid HO
 clear HO
 have q0:=cell_belowBy p0
 have q1:=cell_belowBy p1
 have q3:=cell_belowBy p4
 have q5:=cell_belowBy p5
 clear p0 p1 p2 p3 p4 p5
 refine wp_region_quiet_below (by assumption) (by kernel_rfl) ?_
 repeat (quiet_step (first | (go_at_call 110;exact calls_belowBy (WD.out _)) | (go_at_call 36;exact calls_belowBy (ND.out _)) | (go_at_call 111;exact calls_belowBy (TD.out _ (below_step B1 (Nat.le_refl _) (BelowBy.below _)))) | (go_at_call 112;exact calls_belowBy (LD.out _))))
 refine wpQuiet_nil ?_
 intro w2 hw'
 obtain ⟨⟨w3,hb2⟩,hw''⟩:=hw'
 subst hw''
 go_wp2
 go_ret
 exact ⟨by rw [HB.out];rfl,below_step B1 (Nat.le_refl _) hb2⟩
set_option maxRecDepth 100000 in
set_option maxHeartbeats 2000000 in
theorem valid_name (id:ByteArray) (kind x y:Int) (refs:List ByteArray) (tags:List TagD) (a:Option Addr) (N cap:Nat) (vt:Value) (w:World) (hz:id.size≤140737488355328) (hk:1≤kind∧kind≤5) (hn:nameB id=false) :
  Calls Tryz.prog 82 #[.agg #[.string id,.int .i64 kind,.int .i64 x,.int .i64 y,.slice a N cap,vt]] w fun e w'=>e=.returned (.bool (objOK ⟨id,kind,x,y,refs,tags⟩))∧Below w.heap.size w w':=by
 have HB:=Lib.hid (show objOK ⟨id,kind,x,y,refs,tags⟩=false by simp only [objOK];rw [hn];simp)
 have WD:=Lib.hid (fun w=>word_any kind w)
 have hwz:=wordK_in kind hk.1 hk.2
 generalize wordK kind=wd at WD hwz
 have ew1:wd.toList.isEmpty=false:=str_not_empty hwz
 have ew0:¬wd.toList=[]:=by
  intro e;rw [e] at ew1;simp at ew1
 have ND:=Lib.hid (fun w=>by have:=name_any id hz w;rw [hn] at this;exact this)
 have TD:=Lib.hid True.intro
 have LD:=Lib.hid True.intro
 clear hk hn
 have mixed:Tryz.prog.follows .mixedOrders=true:=by kernel_rfl
 go_enter Tryz.func82,Tryz.ntmps82
 go_wp2_with fail
 have B1:Below w.heap.size w (w.alloc (.cells #[.string id,.int .i64 kind,.int .i64 x,.int .i64 y,.slice a N cap,vt] 50)):=(Below.refl _ w).alloc (Nat.le_refl _) _
 have HO:=row_new w (.cells #[.string id,.int .i64 kind,.int .i64 x,.int .i64 y,.slice a N cap,vt] 50)
 generalize hw1:w.alloc (.cells #[.string id,.int .i64 kind,.int .i64 x,.int .i64 y,.slice a N cap,vt] 50)=w1
 rw [hw1] at B1 HO
 clear hw1
 have HO1:=Lib.hid HO
 obtain ⟨pz,p0,p1,p2,p3,p4,p5⟩:=rk6 HO
 have HO':=Lib.hid HO
 clear HO
 have q0:=cell_belowBy p0
 have q1:=cell_belowBy p1
 have q3:=cell_belowBy p4
 have q5:=cell_belowBy p5
 clear p0 p1 p2 p3 p4 p5
 refine wp_region_quiet_below (by assumption) (by kernel_rfl) ?_
 repeat (quiet_step (first | (go_at_call 110;exact calls_belowBy (WD.out _)) | (go_at_call 36;exact calls_belowBy (ND.out _)) | (go_at_call 111;exact calls_belowBy (TD.out _ (below_step B1 (Nat.le_refl _) (BelowBy.below _)))) | (go_at_call 112;exact calls_belowBy (LD.out _))))
 refine wpQuiet_nil ?_
 intro w2 hw'
 obtain ⟨⟨w3,hb2⟩,hw''⟩:=hw'
 subst hw''
 go_wp2
 go_ret
 exact ⟨by rw [HB.out];rfl,below_step B1 (Nat.le_refl _) hb2⟩
set_option maxRecDepth 100000 in
set_option maxHeartbeats 2000000 in
theorem valid_tags (id:ByteArray) (kind x y:Int) (refs:List ByteArray) (tags:List TagD) (a:Option Addr) (N cap:Nat) (vt:Value) (w:World) (hz:id.size≤140737488355328) (ht:TagRow w vt tags) (hk:1≤kind∧kind≤5) (hn:nameB id=true) (htg:tagsOK tags=false) :
  Calls Tryz.prog 82 #[.agg #[.string id,.int .i64 kind,.int .i64 x,.int .i64 y,.slice a N cap,vt]] w fun e w'=>e=.returned (.bool (objOK ⟨id,kind,x,y,refs,tags⟩))∧Below w.heap.size w w':=by
 have HB:=Lib.hid (show objOK ⟨id,kind,x,y,refs,tags⟩=false by simp only [objOK];rw [htg];simp)
 have WD:=Lib.hid (fun w=>word_any kind w)
 have hwz:=wordK_in kind hk.1 hk.2
 generalize wordK kind=wd at WD hwz
 have ew1:wd.toList.isEmpty=false:=str_not_empty hwz
 have ew0:¬wd.toList=[]:=by
  intro e;rw [e] at ew1;simp at ew1
 have ND:=Lib.hid (fun w=>by have:=name_any id hz w;rw [hn] at this;exact this)
 have TD:=Lib.hid (fun (w':World) (hb:Below w.heap.size w w')=>by have:=tags_any vt tags w' (ht.later hb);rw [htg] at this;exact this)
 have LD:=Lib.hid True.intro
 clear hk hn ht htg
 have mixed:Tryz.prog.follows .mixedOrders=true:=by kernel_rfl
 go_enter Tryz.func82,Tryz.ntmps82
 go_wp2_with fail
 have B1:Below w.heap.size w (w.alloc (.cells #[.string id,.int .i64 kind,.int .i64 x,.int .i64 y,.slice a N cap,vt] 50)):=(Below.refl _ w).alloc (Nat.le_refl _) _
 have HO:=row_new w (.cells #[.string id,.int .i64 kind,.int .i64 x,.int .i64 y,.slice a N cap,vt] 50)
 generalize hw1:w.alloc (.cells #[.string id,.int .i64 kind,.int .i64 x,.int .i64 y,.slice a N cap,vt] 50)=w1
 rw [hw1] at B1 HO
 clear hw1
 have HO1:=Lib.hid HO
 obtain ⟨pz,p0,p1,p2,p3,p4,p5⟩:=rk6 HO
 have HO':=Lib.hid HO
 clear HO
 have q0:=cell_belowBy p0
 have q1:=cell_belowBy p1
 have q3:=cell_belowBy p4
 have q5:=cell_belowBy p5
 clear p0 p1 p2 p3 p4 p5
 refine wp_region_quiet_below (by assumption) (by kernel_rfl) ?_
 repeat (quiet_step (first | (go_at_call 110;exact calls_belowBy (WD.out _)) | (go_at_call 36;exact calls_belowBy (ND.out _)) | (go_at_call 111;exact calls_belowBy (TD.out _ (below_step B1 (Nat.le_refl _) (BelowBy.below _)))) | (go_at_call 112;exact calls_belowBy (LD.out _))))
 refine wpQuiet_nil ?_
 intro w2 hw'
 obtain ⟨⟨w3,hb2⟩,hw''⟩:=hw'
 subst hw''
 go_wp2
 go_ret
 exact ⟨by rw [HB.out];rfl,below_step B1 (Nat.le_refl _) hb2⟩
set_option maxRecDepth 100000 in
set_option maxHeartbeats 2000000 in
theorem valid_least (id:ByteArray) (kind x y:Int) (refs:List ByteArray) (tags:List TagD) (a:Option Addr) (N cap:Nat) (vt:Value) (w:World) (hz:id.size≤140737488355328) (ht:TagRow w vt tags) (hk:1≤kind∧kind≤5) (hn:nameB id=true) (htg:tagsOK tags=true) (hN:N=refs.length) (hl:(N:Int)<leastK kind) :
  Calls Tryz.prog 82 #[.agg #[.string id,.int .i64 kind,.int .i64 x,.int .i64 y,.slice a N cap,vt]] w fun e w'=>e=.returned (.bool (objOK ⟨id,kind,x,y,refs,tags⟩))∧Below w.heap.size w w':=by
 have HB:=Lib.hid (show objOK ⟨id,kind,x,y,refs,tags⟩=false by simp only [objOK];rw [←hN,show decide (leastK kind≤(N:Int))=false from decide_eq_false (by omega)];simp)
 have WD:=Lib.hid (fun w=>word_any kind w)
 have hwz:=wordK_in kind hk.1 hk.2
 generalize wordK kind=wd at WD hwz
 have ew1:wd.toList.isEmpty=false:=str_not_empty hwz
 have ew0:¬wd.toList=[]:=by
  intro e;rw [e] at ew1;simp at ew1
 have ND:=Lib.hid (fun w=>by have:=name_any id hz w;rw [hn] at this;exact this)
 have TD:=Lib.hid (fun (w':World) (hb:Below w.heap.size w w')=>by have:=tags_any vt tags w' (ht.later hb);rw [htg] at this;exact this)
 have LD:=Lib.hid (fun w=>least_below kind hk.1 hk.2 w)
 generalize leastK kind=m at LD hl
 have hld:decide ((N:Int)<m)=true:=decide_eq_true hl
 clear hk hn ht htg hN
 have mixed:Tryz.prog.follows .mixedOrders=true:=by kernel_rfl
 go_enter Tryz.func82,Tryz.ntmps82
 go_wp2_with fail
 have B1:Below w.heap.size w (w.alloc (.cells #[.string id,.int .i64 kind,.int .i64 x,.int .i64 y,.slice a N cap,vt] 50)):=(Below.refl _ w).alloc (Nat.le_refl _) _
 have HO:=row_new w (.cells #[.string id,.int .i64 kind,.int .i64 x,.int .i64 y,.slice a N cap,vt] 50)
 generalize hw1:w.alloc (.cells #[.string id,.int .i64 kind,.int .i64 x,.int .i64 y,.slice a N cap,vt] 50)=w1
 rw [hw1] at B1 HO
 clear hw1
 have HO1:=Lib.hid HO
 obtain ⟨pz,p0,p1,p2,p3,p4,p5⟩:=rk6 HO
 have HO':=Lib.hid HO
 clear HO
 have q0:=cell_belowBy p0
 have q1:=cell_belowBy p1
 have q3:=cell_belowBy p4
 have q5:=cell_belowBy p5
 clear p0 p1 p2 p3 p4 p5
 refine wp_region_quiet_below (by assumption) (by kernel_rfl) ?_
 repeat (quiet_step (first | (go_at_call 110;exact calls_belowBy (WD.out _)) | (go_at_call 36;exact calls_belowBy (ND.out _)) | (go_at_call 111;exact calls_belowBy (TD.out _ (below_step B1 (Nat.le_refl _) (BelowBy.below _)))) | (go_at_call 112;exact calls_belowBy (LD.out _))))
 refine wpQuiet_nil ?_
 intro w2 hw'
 obtain ⟨⟨w3,hb2⟩,hw''⟩:=hw'
 subst hw''
 go_wp2
 go_ret
 exact ⟨by rw [HB.out];rfl,below_step B1 (Nat.le_refl _) hb2⟩
set_option maxRecDepth 100000 in
set_option maxHeartbeats 2000000 in
theorem valid_many (id:ByteArray) (kind x y:Int) (refs:List ByteArray) (tags:List TagD) (a:Option Addr) (N cap:Nat) (vt:Value) (w:World) (hz:id.size≤140737488355328) (ht:TagRow w vt tags) (hk:1≤kind∧kind≤5) (hn:nameB id=true) (htg:tagsOK tags=true) (hN:N=refs.length) (hl:¬(N:Int)<leastK kind) (hm:2000<N) :
  Calls Tryz.prog 82 #[.agg #[.string id,.int .i64 kind,.int .i64 x,.int .i64 y,.slice a N cap,vt]] w fun e w'=>e=.returned (.bool (objOK ⟨id,kind,x,y,refs,tags⟩))∧Below w.heap.size w w':=by
 have HB:=Lib.hid (show objOK ⟨id,kind,x,y,refs,tags⟩=false by simp only [objOK];rw [←hN,show decide (N≤2000)=false from decide_eq_false (by omega)];simp)
 have WD:=Lib.hid (fun w=>word_any kind w)
 have hwz:=wordK_in kind hk.1 hk.2
 generalize wordK kind=wd at WD hwz
 have ew1:wd.toList.isEmpty=false:=str_not_empty hwz
 have ew0:¬wd.toList=[]:=by
  intro e;rw [e] at ew1;simp at ew1
 have ND:=Lib.hid (fun w=>by have:=name_any id hz w;rw [hn] at this;exact this)
 have TD:=Lib.hid (fun (w':World) (hb:Below w.heap.size w w')=>by have:=tags_any vt tags w' (ht.later hb);rw [htg] at this;exact this)
 have LD:=Lib.hid (fun w=>least_below kind hk.1 hk.2 w)
 generalize leastK kind=m at LD hl
 have hld:decide ((N:Int)<m)=false:=decide_eq_false hl
 have hmz:(2000:Int)<(N:Int):=by omega
 have hmd:decide ((2000:Int)<(N:Int))=true:=decide_eq_true hmz
 clear hk hn ht htg hN
 have mixed:Tryz.prog.follows .mixedOrders=true:=by kernel_rfl
 go_enter Tryz.func82,Tryz.ntmps82
 go_wp2_with fail
 have B1:Below w.heap.size w (w.alloc (.cells #[.string id,.int .i64 kind,.int .i64 x,.int .i64 y,.slice a N cap,vt] 50)):=(Below.refl _ w).alloc (Nat.le_refl _) _
 have HO:=row_new w (.cells #[.string id,.int .i64 kind,.int .i64 x,.int .i64 y,.slice a N cap,vt] 50)
 generalize hw1:w.alloc (.cells #[.string id,.int .i64 kind,.int .i64 x,.int .i64 y,.slice a N cap,vt] 50)=w1
 rw [hw1] at B1 HO
 clear hw1
 have HO1:=Lib.hid HO
 obtain ⟨pz,p0,p1,p2,p3,p4,p5⟩:=rk6 HO
 have HO':=Lib.hid HO
 clear HO
 have q0:=cell_belowBy p0
 have q1:=cell_belowBy p1
 have q3:=cell_belowBy p4
 have q5:=cell_belowBy p5
 clear p0 p1 p2 p3 p4 p5
 refine wp_region_quiet_below (by assumption) (by kernel_rfl) ?_
 repeat (quiet_step (first | (go_at_call 110;exact calls_belowBy (WD.out _)) | (go_at_call 36;exact calls_belowBy (ND.out _)) | (go_at_call 111;exact calls_belowBy (TD.out _ (below_step B1 (Nat.le_refl _) (BelowBy.below _)))) | (go_at_call 112;exact calls_belowBy (LD.out _))))
 refine wpQuiet_nil ?_
 intro w2 hw'
 obtain ⟨⟨w3,hb2⟩,hw''⟩:=hw'
 subst hw''
 go_wp2
 go_ret
 exact ⟨by rw [HB.out];rfl,below_step B1 (Nat.le_refl _) hb2⟩
end Go.Proofs.YtdfenhjibnfdeaaGreatDoor

namespace Go.Proofs.YtdfenhjibnfdeaaGreatDoor
open Go.RowKit
set_option maxRecDepth 100000 in
set_option maxHeartbeats 4000000 in
theorem valid_good (id:ByteArray) (kind x y:Int) (refs:List ByteArray) (tags:List TagD) (a:Option Addr) (N cap:Nat) (vt:Value) (w:World) (hz:id.size≤140737488355328) (ht:TagRow w vt tags) (hv:StrRow w (.slice a N cap) refs) (hk:1≤kind∧kind≤5) (hn:nameB id=true) (htg:tagsOK tags=true) (hN:N=refs.length) (hl:¬(N:Int)<leastK kind) (hm:¬2000<N) :
  Calls Tryz.prog 82 #[.agg #[.string id,.int .i64 kind,.int .i64 x,.int .i64 y,.slice a N cap,vt]] w fun e w'=>e=.returned (.bool (objOK ⟨id,kind,x,y,refs,tags⟩))∧Below w.heap.size w w':=by
 have HB:=Lib.hid (show objOK ⟨id,kind,x,y,refs,tags⟩=(refsFrom kind [] refs && (if kind=1 then decide (N=0) && onB x y else if kind=5 then decide (N=3) && decide (x=0∧y=0) else decide (x=0∧y=0))) by
  simp only [objOK];rw [←hN,decide_eq_true hk,hn,htg,show decide (leastK kind≤(N:Int))=true from decide_eq_true (by omega),show decide (N≤2000)=true from decide_eq_true (by omega)];simp)
 have WD:=Lib.hid (fun w=>word_any kind w)
 have hwz:=wordK_in kind hk.1 hk.2
 generalize wordK kind=wd at WD hwz
 have ew1:wd.toList.isEmpty=false:=str_not_empty hwz
 have ew0:¬wd.toList=[]:=by
  intro e;rw [e] at ew1;simp at ew1
 have ND:=Lib.hid (fun w=>by have:=name_any id hz w;rw [hn] at this;exact this)
 have TD:=Lib.hid (fun (w':World) (hb:Below w.heap.size w w')=>by have:=tags_any vt tags w' (ht.later hb);rw [htg] at this;exact this)
 have LD:=Lib.hid (fun w=>least_below kind hk.1 hk.2 w)
 generalize leastK kind=m at LD hl
 have hld:decide ((N:Int)<m)=false:=decide_eq_false hl
 have hmz:¬(2000:Int)<(N:Int):=by omega
 have hmd:decide ((2000:Int)<(N:Int))=false:=decide_eq_false hmz
 have HV:=Lib.hid hv
 have HK:=Lib.hid hk
 have HLE:=Lib.hid (show refs.length≤4000 by omega)
 clear hk hn ht htg hN hv
 have mixed:Tryz.prog.follows .mixedOrders=true:=by kernel_rfl
 go_enter Tryz.func82,Tryz.ntmps82
 go_wp2_with fail
 have B1:Below w.heap.size w (w.alloc (.cells #[.string id,.int .i64 kind,.int .i64 x,.int .i64 y,.slice a N cap,vt] 50)):=(Below.refl _ w).alloc (Nat.le_refl _) _
 have HO:=row_new w (.cells #[.string id,.int .i64 kind,.int .i64 x,.int .i64 y,.slice a N cap,vt] 50)
 generalize hw1:w.alloc (.cells #[.string id,.int .i64 kind,.int .i64 x,.int .i64 y,.slice a N cap,vt] 50)=w1
 rw [hw1] at B1 HO
 clear hw1
 have HO1:=Lib.hid HO
 obtain ⟨pz,p0,p1,p2,p3,p4,p5⟩:=rk6 HO
 have HO':=Lib.hid HO
 clear HO
 have q0:=cell_belowBy p0
 have q1:=cell_belowBy p1
 have q3:=cell_belowBy p4
 have q5:=cell_belowBy p5
 clear p0 p1 p2 p3 p4 p5
 refine wp_region_quiet_below (by assumption) (by kernel_rfl) ?_
 repeat (quiet_step (first | (go_at_call 110;exact calls_belowBy (WD.out _)) | (go_at_call 36;exact calls_belowBy (ND.out _)) | (go_at_call 111;exact calls_belowBy (TD.out _ (below_step B1 (Nat.le_refl _) (BelowBy.below _)))) | (go_at_call 112;exact calls_belowBy (LD.out _))))
 refine wpQuiet_nil ?_
 intro w2 hw'
 obtain ⟨⟨w3,hb2⟩,hw''⟩:=hw'
 subst hw''
 have hmm:=@run_makeMap Tryz.prog
 have HO2:=row_later hb2 HO1.out
 have B2:=below_step B1 (Nat.le_refl _) hb2
 clear HO1 HO' WD ND TD LD hl hld hmz hmd hm
 have HO2h:=Lib.hid HO2
 obtain ⟨cz,c0,c1,c2,c3,c4,c5⟩:=rk6 HO2
 have HO2':=Lib.hid HO2
 clear HO2
 have B5:Below w2.heap.size w2 (((w2.alloc (.map #[] 0)).alloc (.cells #[.map (some w2.heap.size)] 122)).alloc (.cells #[.string ⟨#[]⟩] 9)):=(((Below.refl _ w2).alloc (Nat.le_refl _) _).alloc (by simp) _).alloc (by simp;omega) _
 have d4:=cell_later B5 c4
 have HS:=row_past (o':=.cells #[.string ⟨#[]⟩] 9) (row_new (w2.alloc (.map #[] 0)) (.cells #[.map (some w2.heap.size)] 122))
 have HL:=row_new ((w2.alloc (.map #[] 0)).alloc (.cells #[.map (some w2.heap.size)] 122)) (.cells #[.string ⟨#[]⟩] 9)
 have HMs:SetIs (((w2.alloc (.map #[] 0)).alloc (.cells #[.map (some w2.heap.size)] 122)).alloc (.cells #[.string ⟨#[]⟩] 9)) w2.heap.size [] :=
  (SetIs.made w2).later ((((Below.refl _ (w2.alloc (.map #[] 0))).alloc (Nat.le_refl _) _).alloc (by simp) _).block _ (by simp))
 have HOb:=row_later B5 HO2h.out
 clear c0 c1 c2 c3 c4 c5
 go_wp2_with fail
 generalize hw5:((w2.alloc (.map #[] 0)).alloc (.cells #[.map (some w2.heap.size)] 122)).alloc (.cells #[.string ⟨#[]⟩] 9)=w5
 rw [hw5] at B5 HS HL HMs HOb
 have hs5:w5.heap.size=w2.heap.size+3:=by rw [←hw5];simp
 clear hw5 hmm d4
 have HS':w5.heap[w2.heap.size+1]?=some (.cells #[.map (some w2.heap.size)] 122):=by simpa using HS
 have HL':w5.heap[w2.heap.size+1+1]?=some (.cells #[.string ⟨#[]⟩] 9):=by simpa using HL
 have V:VSt w5 w.heap.size (w2.heap.size+1+1) (w2.heap.size+1) w2.heap.size kind []:=⟨by have:=cell_of_row w5 _ 1 _ _ _ HOb;simpa using this,HL',HS',HMs⟩
 refine (has_any (.slice a N cap) refs kind w.heap.size (w2.heap.size+1+1) (w2.heap.size+1) w2.heap.size w2 w5 HLE.out (HV.out.later B2) B5 V (by omega) (Nat.le_refl _) (by omega) (by omega) (by omega) (by omega) (by omega)).mono ?_
 rintro e w6 ⟨rfl,hb6,hx6⟩
 have B6:=B2.trans (hb6.mono (Nat.le_of_lt cz))
 have HO6:w6.heap[w.heap.size]?=some (.cells #[.string id,.int .i64 kind,.int .i64 x,.int .i64 y,.slice a N cap,vt] 50):=(hx6 _ (by omega) (by omega) (by omega)).trans HOb
 clear V HS HS' HL HL' HMs HOb hb6 hx6 B5 B2 B1 hb2 pz hs5 cz HO2' HO2h HLE HV
 obtain ⟨oz,o0,o1,o2,o3,o4,o5⟩:=rk6 HO6
 have HO6':=Lib.hid HO6
 clear HO6
 cases hrf:refsFrom kind [] refs
 case false =>
  have HE:=Lib.hid (show objOK ⟨id,kind,x,y,refs,tags⟩=false by rw [HB.out,hrf];rfl)
  clear hrf
  go_wp2
  go_ret
  exact ⟨ret_bool HE.out.symm,B6⟩
 case true =>
  have HE:=Lib.hid (show objOK ⟨id,kind,x,y,refs,tags⟩=(if kind=1 then decide (N=0) && onB x y else if kind=5 then decide (N=3) && decide (x=0∧y=0) else decide (x=0∧y=0)) by rw [HB.out,hrf];rfl)
  clear hrf HB
  by_cases k1:kind=1
  ·have HE1:=Lib.hid (show objOK ⟨id,kind,x,y,refs,tags⟩=(decide (N=0) && onB x y) by rw [HE.out,if_pos k1])
   have f1:(kind==1)=true:=by rw [k1];rfl
   clear HE k1 HK
   by_cases n0:N=0
   ·have HE2:=Lib.hid (show objOK ⟨id,kind,x,y,refs,tags⟩=onB x y by rw [HE1.out,n0];rfl)
    have n0b:((N:Int)==0)=true:=by rw [n0];rfl
    clear HE1 n0
    go_wp2_with fail
    refine (on_any x y _).mono ?_
    rintro e w7 ⟨rfl,hb7⟩
    have B7:=below_step B6 (Nat.le_refl _) hb7
    clear o0 o1 o2 o3 o4 o5 oz HO6' hb7
    rw [←HE2.out]
    go_wp2
    go_ret
    exact ⟨rfl,B7⟩
   ·have HE2:=Lib.hid (show objOK ⟨id,kind,x,y,refs,tags⟩=false by rw [HE1.out,decide_eq_false n0];rfl)
    have n0b:((N:Int)==0)=false:=by rw [beq_eq_false_iff_ne];omega
    clear HE1
    go_wp2
    go_ret
    exact ⟨ret_bool HE2.out.symm,B6⟩
  ·have f1:(kind==1)=false:=by rw [beq_eq_false_iff_ne];exact k1
   by_cases k5:kind=5
   ·have HE1:=Lib.hid (show objOK ⟨id,kind,x,y,refs,tags⟩=(decide (N=3) && decide (x=0∧y=0)) by rw [HE.out,if_neg k1,if_pos k5])
    have f5:(kind==5)=true:=by rw [k5];rfl
    clear HE k1 k5 HK
    by_cases n0:N=3
    ·have HE2:=Lib.hid (show objOK ⟨id,kind,x,y,refs,tags⟩=decide (x=0∧y=0) by rw [HE1.out,n0];rfl)
     have n0b:((N:Int)==3)=true:=by rw [n0];rfl
     clear HE1 n0
     by_cases kz:x=0∧y=0
     ·have HE3:=Lib.hid (show objOK ⟨id,kind,x,y,refs,tags⟩=true by rw [HE2.out,decide_eq_true kz])
      obtain ⟨rfl,rfl⟩:=kz
      clear HE2
      go_wp2
      go_ret
      exact ⟨ret_bool HE3.out.symm,B6⟩
     ·have HE3:=Lib.hid (show objOK ⟨id,kind,x,y,refs,tags⟩=false by rw [HE2.out,decide_eq_false kz])
      have hz:x≠0∨y≠0:=by omega
      clear HE2 kz
      rcases hz with hz | hz
      ·have z0:(x==0)=false:=by rw [beq_eq_false_iff_ne];exact hz
       go_wp2
       go_ret
       exact ⟨ret_bool HE3.out.symm,B6⟩
      ·have z0:(y==0)=false:=by rw [beq_eq_false_iff_ne];exact hz
       by_cases hx:x=0
       ·subst hx
        go_wp2
        go_ret
        exact ⟨ret_bool HE3.out.symm,B6⟩
       ·have z1:(x==0)=false:=by rw [beq_eq_false_iff_ne];exact hx
        go_wp2
        go_ret
        exact ⟨ret_bool HE3.out.symm,B6⟩
    ·have HE2:=Lib.hid (show objOK ⟨id,kind,x,y,refs,tags⟩=false by rw [HE1.out,decide_eq_false n0];rfl)
     have n0b:((N:Int)==3)=false:=by rw [beq_eq_false_iff_ne];omega
     clear HE1
     go_wp2
     go_ret
     exact ⟨ret_bool HE2.out.symm,B6⟩
   ·have HE2:=Lib.hid (show objOK ⟨id,kind,x,y,refs,tags⟩=decide (x=0∧y=0) by rw [HE.out,if_neg k1,if_neg k5])
    have f5:(kind==5)=false:=by rw [beq_eq_false_iff_ne];exact k5
    clear HE k1 k5 HK
    by_cases kz:x=0∧y=0
    ·have HE3:=Lib.hid (show objOK ⟨id,kind,x,y,refs,tags⟩=true by rw [HE2.out,decide_eq_true kz])
     obtain ⟨rfl,rfl⟩:=kz
     clear HE2
     go_wp2
     go_ret
     exact ⟨ret_bool HE3.out.symm,B6⟩
    ·have HE3:=Lib.hid (show objOK ⟨id,kind,x,y,refs,tags⟩=false by rw [HE2.out,decide_eq_false kz])
     have hz:x≠0∨y≠0:=by omega
     clear HE2 kz
     rcases hz with hz | hz
     ·have z0:(x==0)=false:=by rw [beq_eq_false_iff_ne];exact hz
      go_wp2
      go_ret
      exact ⟨ret_bool HE3.out.symm,B6⟩
     ·have z0:(y==0)=false:=by rw [beq_eq_false_iff_ne];exact hz
      by_cases hx:x=0
      ·subst hx
       go_wp2
       go_ret
       exact ⟨ret_bool HE3.out.symm,B6⟩
      ·have z1:(x==0)=false:=by rw [beq_eq_false_iff_ne];exact hx
       go_wp2
       go_ret
       exact ⟨ret_bool HE3.out.symm,B6⟩
theorem validO_any (id:ByteArray) (kind x y:Int) (vr vt:Value) (refs:List ByteArray) (tags:List TagD) (w:World) (hz:id.size≤140737488355328) (hv:StrRow w vr refs) (ht:TagRow w vt tags) :
  Calls Tryz.prog 82 #[.agg #[.string id,.int .i64 kind,.int .i64 x,.int .i64 y,vr,vt]] w fun e w'=>e=.returned (.bool (objOK ⟨id,kind,x,y,refs,tags⟩))∧Below w.heap.size w w':=by
 have hv0:=hv
 obtain ⟨a,cap,rfl,_⟩:=hv
 by_cases hk:1≤kind∧kind≤5
 ·cases hn:nameB id
  ·exact valid_name id kind x y refs tags a _ cap vt w hz hk hn
  ·cases htg:tagsOK tags
   ·exact valid_tags id kind x y refs tags a _ cap vt w hz ht hk hn htg
   ·by_cases hl:(refs.length:Int)<leastK kind
    ·exact valid_least id kind x y refs tags a _ cap vt w hz ht hk hn htg rfl hl
    ·by_cases hm:2000<refs.length
     ·exact valid_many id kind x y refs tags a _ cap vt w hz ht hk hn htg rfl hl hm
     ·exact valid_good id kind x y refs tags a _ cap vt w hz ht hv0 hk hn htg rfl hl hm
 ·exact valid_kind id kind x y refs tags a _ cap vt w hk
end Go.Proofs.YtdfenhjibnfdeaaGreatDoor
