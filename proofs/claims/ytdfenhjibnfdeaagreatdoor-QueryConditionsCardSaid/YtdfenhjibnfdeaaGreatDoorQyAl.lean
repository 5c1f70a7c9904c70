/-    -/
import Derived.Test.YtdfenhjibnfdeaaGreatDoorQyAk
import Derived.Test.YtdfenhjibnfdeaaGreatDoorQyAe
namespace Go.Proofs.YtdfenhjibnfdeaaGreatDoor
open Go.RowKit Go.Shelf
def AllPost (p:CondD→Bool) (c:CondD) (w:World) (e:Ending) (w':World):Prop:=∃b,e=.returned (.bool b)∧(b=true→callC p c=true)∧Below w.heap.size w w'
def AllK (k:Nat):Prop:=∀(c:CondD) (a:Option Addr) (cap:Nat) (w:World),cnodes c≤k→CondIs w c a →
 Calls Tryz.prog 47 #[condV c a cap] w (AllPost nodeOK c w)
set_option maxRecDepth 100000 in
set_option maxHeartbeats 4000000 in
theorem all_step (k:Nat) (IH:AllK k):AllK (k+1):=by
 intro c a cap w hk hc
 obtain ⟨op,key,val,n,ks⟩:=c
 have hk2:cnodesL ks≤k:=by rw [cnodes] at hk;omega
 obtain ⟨h1,h2,h3,h4⟩:=hc.open
 have h3:ks.length≤140737488355328:=h3
 have B1:=(Below.refl w.heap.size w).alloc (Nat.le_refl _) (.cells #[.int .i64 op,.string key,.string val,.int .i64 n,.slice a ks.length cap] 24)
 have HC0:=Lib.hid (row_new w (.cells #[.int .i64 op,.string key,.string val,.int .i64 n,.slice a ks.length cap] 24))
 have ND:=Lib.hid (rnode_any (.mk op key val n ks) a cap _ (hc.later B1))
 have HRES:=Lib.hid (show callC nodeOK (.mk op key val n ks)=(nodeOK (.mk op key val n ks) && callL nodeOK ks) from by rw [callC])
 show Calls Tryz.prog 47 #[.agg #[.int .i64 op,.string key,.string val,.int .i64 n,.slice a ks.length cap]] w _
 obtain ⟨N,hN⟩:∃N,ks.length=N:=⟨_,rfl⟩
 rw [cond_cells] at ND
 simp only [CondD.op,CondD.key,CondD.val,CondD.n,CondD.kids] at ND
 rw [hN] at h3 HC0 B1 ND ⊢
 have HN:=Lib.hid hN
 have H4:=Lib.hid (show 0<ks.length→∃b off,a=some ⟨b,off,none⟩∧KidsIs w b ks off from h4)
 clear hc h4 hk hN h1 h2
 go_enter Tryz.func47,Tryz.ntmps47
 go_wp2_with fail
 refine ND.out.mono ?_
 rintro e w2 ⟨nb,rfl,hnb,hb2⟩
 have HNB:=Lib.hid hnb
 have HB2:=Lib.hid (row_later hb2 HC0.out)
 have B2:=below_step B1 (Nat.le_refl _) hb2
 clear hb2 hnb ND
 cases nb
 ·go_wp2
  go_ret
  exact ⟨_,rfl,(fun h=>by cases h),B2⟩
 go_wp2
 go_loopw [3] (fun i wr=>∃(j:Nat),j≤N∧i=.int .i64 j∧callL nodeOK (ks.take j)=true∧Below w.heap.size w wr∧wr.heap[w.heap.size]?=some (.cells #[.int .i64 op,.string key,.string val,.int .i64 n,.slice a N cap] 24 (0,0))) (fun i _=>N - (intOf i).toNat)
 case atStart=>exact ⟨0,by omega,rfl,rfl,B2,HB2.out⟩
 case round =>
  obtain ⟨j,hj,rfl,hcl,hbr,hbx⟩:=hrel
  have HCL:=Lib.hid hcl
  have HBX:=Lib.hid hbx
  clear hbx hcl
  by_cases hlt:j<N
  ·obtain ⟨c,hcj⟩:∃c,ks[j]?=some c:=⟨ks[j]'(by rw [HN.out];exact hlt),List.getElem?_eq_getElem _⟩
   obtain ⟨b,off,ha,hrow⟩:=H4.out (by rw [HN.out];omega)
   subst ha
   obtain ⟨a',cap',⟨q0,q1,q2,q3,q4⟩,hci⟩:=KidsIs.at _ _ j c hrow hcj
   have c0:=cell_later hbr q0
   have c1:=cell_later hbr q1
   have c2:=cell_later hbr q2
   have c3:=cell_later hbr q3
   have c4:=cell_later hbr q4
   have CL:=Lib.hid (IH c a' cap' wr (Nat.le_trans (cnodes_kid _ _ _ hcj) hk2) (hci.later hbr))
   have HTK:=Lib.hid (callL_take nodeOK ks j c hcj)
   have d0:decide ((j:Int)<N)=true:=decide_eq_true (by omega)
   clear q0 q1 q2 q3 q4 hci hrow hcj
   rw [cond_cells] at CL
   obtain ⟨zz,z0,z1,z2,z3,z4⟩:=rk5 HBX.out
   go_wp2_with fail
   refine CL.out.mono ?_
   rintro e w3 ⟨rb,rfl,hrb,hb3⟩
   have HRB:=Lib.hid hrb
   have HB3:=Lib.hid (row_later hb3 HBX.out)
   have B3:=below_step hbr (Nat.le_refl _) hb3
   clear hb3 hrb CL
   cases rb
   ·go_wp2
    go_ret
    exact ⟨_,rfl,(fun h=>by cases h),B3⟩
   have HC2:=Lib.hid (show callL nodeOK (ks.take (j+1))=true from by rw [HTK.out,HCL.out,HRB.out rfl];rfl)
   go_wp2
   go_roundw
   case rel=>exact ⟨j+1,by omega,by go_num,HC2.out,B3,HB3.out⟩
   case measure=>simp [intOf];omega
  ·obtain rfl:j=N:=by omega
   have hcl2:=HCL.out
   rw [List.take_of_length_le (by rw [HN.out];exact Nat.le_refl _)] at hcl2
   have HE:=Lib.hid (show callC nodeOK (.mk op key val n ks)=true by rw [HRES.out,HNB.out trivial,hcl2];rfl)
   clear hcl2
   obtain ⟨zz,z0,z1,z2,z3,z4⟩:=rk5 HBX.out
   go_wp2
   go_ret
   exact ⟨_,rfl,(fun _=>HE.out),hbr⟩
theorem all_all:∀k,AllK k
 |0=>fun c _ _ _ hk=>by have:=cnodes_pos c;omega
 |k+1=>all_step k (all_all k)
theorem rall_any (c:CondD) (a:Option Addr) (cap:Nat) (w:World) (hc:CondIs w c a) :
  Calls Tryz.prog 47 #[condV c a cap] w (AllPost nodeOK c w):=all_all (cnodes c) c a cap w (Nat.le_refl _) hc
def ShortK (k:Nat):Prop:=∀(c:CondD) (a:Option Addr) (cap:Nat) (w:World),cnodes c≤k→CondIs w c a →
 Calls Tryz.prog 46 #[condV c a cap] w fun e w'=>∃b,e=.returned (.bool b)∧Below w.heap.size w w'
set_option maxRecDepth 100000 in
set_option maxHeartbeats 4000000 in
theorem short_step (k:Nat) (IH:ShortK k):ShortK (k+1):=by
 intro c a cap w hk hc
 obtain ⟨op,key,val,n,ks⟩:=c
 have hk2:cnodesL ks≤k:=by rw [cnodes] at hk;omega
 obtain ⟨h1,h2,h3,h4⟩:=hc.open
 have h3:ks.length≤140737488355328:=h3
 have B1:=(Below.refl w.heap.size w).alloc (Nat.le_refl _) (.cells #[.int .i64 op,.string key,.string val,.int .i64 n,.slice a ks.length cap] 24)
 have HC0:=Lib.hid (row_new w (.cells #[.int .i64 op,.string key,.string val,.int .i64 n,.slice a ks.length cap] 24))
 show Calls Tryz.prog 46 #[.agg #[.int .i64 op,.string key,.string val,.int .i64 n,.slice a ks.length cap]] w _
 obtain ⟨N,hN⟩:∃N,ks.length=N:=⟨_,rfl⟩
 rw [hN] at h3 HC0 B1 ⊢
 have HN:=Lib.hid hN
 have H4:=Lib.hid (show 0<ks.length→∃b off,a=some ⟨b,off,none⟩∧KidsIs w b ks off from h4)
 obtain ⟨sk,hsk⟩:∃sk,decide ((300:Int)<key.size)=sk:=⟨_,rfl⟩
 obtain ⟨sv,hsv⟩:∃sv,decide ((300:Int)<val.size)=sv:=⟨_,rfl⟩
 have h1:key.size≤140737488355328:=h1
 have h2:val.size≤140737488355328:=h2
 clear hc h4 hk hN
 cases sk
 case true =>
  go_enter Tryz.func46,Tryz.ntmps46
  go_wp2
  go_ret
  exact ⟨_,rfl,B1⟩
 cases sv
 case true =>
  go_enter Tryz.func46,Tryz.ntmps46
  go_wp2
  go_ret
  exact ⟨_,rfl,B1⟩
 go_enter Tryz.func46,Tryz.ntmps46
 go_wp2
 go_loopw [3] (fun i wr=>∃(j:Nat),j≤N∧i=.int .i64 j∧Below w.heap.size w wr∧wr.heap[w.heap.size]?=some (.cells #[.int .i64 op,.string key,.string val,.int .i64 n,.slice a N cap] 24 (0,0))) (fun i _=>N - (intOf i).toNat)
 case atStart=>exact ⟨0,by omega,rfl,B1,HC0.out⟩
 case round =>
  obtain ⟨j,hj,rfl,hbr,hbx⟩:=hrel
  have HBX:=Lib.hid hbx
  clear hbx hsk hsv
  by_cases hlt:j<N
  ·obtain ⟨c,hcj⟩:∃c,ks[j]?=some c:=⟨ks[j]'(by rw [HN.out];exact hlt),List.getElem?_eq_getElem _⟩
   obtain ⟨b,off,ha,hrow⟩:=H4.out (by rw [HN.out];omega)
   subst ha
   obtain ⟨a',cap',⟨q0,q1,q2,q3,q4⟩,hci⟩:=KidsIs.at _ _ j c hrow hcj
   have c0:=cell_later hbr q0
   have c1:=cell_later hbr q1
   have c2:=cell_later hbr q2
   have c3:=cell_later hbr q3
   have c4:=cell_later hbr q4
   have CL:=Lib.hid (IH c a' cap' wr (Nat.le_trans (cnodes_kid _ _ _ hcj) hk2) (hci.later hbr))
   have d0:decide ((j:Int)<N)=true:=decide_eq_true (by omega)
   clear q0 q1 q2 q3 q4 hci hrow hcj
   rw [cond_cells] at CL
   obtain ⟨zz,z0,z1,z2,z3,z4⟩:=rk5 HBX.out
   go_wp2_with fail
   refine CL.out.mono ?_
   rintro e w3 ⟨rb,rfl,hb3⟩
   have HB3:=Lib.hid (row_later hb3 HBX.out)
   have B3:=below_step hbr (Nat.le_refl _) hb3
   clear hb3 CL
   cases rb
   ·go_wp2
    go_ret
    exact ⟨_,rfl,B3⟩
   go_wp2
   go_roundw
   case rel=>exact ⟨j+1,by omega,by go_num,B3,HB3.out⟩
   case measure=>simp [intOf];omega
  ·obtain rfl:j=N:=by omega
   obtain ⟨zz,z0,z1,z2,z3,z4⟩:=rk5 HBX.out
   go_wp2
   go_ret
   exact ⟨_,rfl,hbr⟩
theorem short_all:∀k,ShortK k
 |0=>fun c _ _ _ hk=>by have:=cnodes_pos c;omega
 |k+1=>short_step k (short_all k)
theorem rshort_any (c:CondD) (a:Option Addr) (cap:Nat) (w:World) (hc:CondIs w c a) :
  Calls Tryz.prog 46 #[condV c a cap] w fun e w'=>∃b,e=.returned (.bool b)∧Below w.heap.size w w':=short_all (cnodes c) c a cap w (Nat.le_refl _) hc
set_option maxRecDepth 100000 in
set_option maxHeartbeats 4000000 in
theorem rcond_any (c:CondD) (a:Option Addr) (cap:Nat) (w:World) (hc:CondIs w c a) :
  Calls Tryz.prog 21 #[condV c a cap] w fun e w'=>∃b,e=.returned (.bool b)∧(b=true→validC c=true)∧Below w.heap.size w w':=by
 have B1:=(Below.refl w.heap.size w).alloc (Nat.le_refl _) (.cells #[.int .i64 c.op,.string c.key,.string c.val,.int .i64 c.n,.slice a c.kids.length cap] 24)
 have HC0:=Lib.hid (row_new w (.cells #[.int .i64 c.op,.string c.key,.string c.val,.int .i64 c.n,.slice a c.kids.length cap] 24))
 have ND:=Lib.hid (fun W (hb:Below w.heap.size w W)=>nodes_any c a cap W 60 (hc.later hb) (by omega))
 have AL:=Lib.hid (fun W (hb:Below w.heap.size w W)=>rall_any c a cap W (hc.later hb))
 rw [cond_cells] at ND AL ⊢
 clear hc
 go_enter Tryz.func21,Tryz.ntmps21
 go_wp2_with fail
 refine (ND.out _ B1).mono ?_
 rintro e w2 ⟨m,rfl,hm1,hm2,hm3,hb2⟩
 have HB2:=Lib.hid (row_later hb2 HC0.out)
 have B2:=below_step B1 (Nat.le_refl _) hb2
 have HM:=Lib.hid hm3
 clear hb2 ND hm3 B1
 by_cases hle:m≤60
 ·have d1:decide ((m:Int)≤60)=true:=decide_eq_true (by omega)
  have HM2:=Lib.hid (show cnodes c≤60 by rw [←HM.out hle];exact hle)
  clear hle
  obtain ⟨zz,z0,z1,z2,z3,z4⟩:=rk5 HB2.out
  go_wp2_with fail
  refine (AL.out _ B2).mono ?_
  rintro e w3 ⟨b,rfl,hb,hb3⟩
  have HB:=Lib.hid hb
  have B3:=below_step B2 (Nat.le_refl _) hb3
  clear hb hb3 z0 z1 z2 z3 z4 AL
  cases b
  ·go_wp2
   go_ret
   exact ⟨_,rfl,(fun h=>by cases h),B3⟩
  ·go_wp2
   go_ret
   exact ⟨_,rfl,(fun _=>by unfold validC;rw [HB.out trivial,decide_eq_true HM2.out];rfl),B3⟩
 ·have d1:decide ((m:Int)≤60)=false:=decide_eq_false (by omega)
  clear hle AL
  go_wp2
  go_ret
  exact ⟨_,rfl,(fun h=>by cases h),B2⟩
set_option maxRecDepth 100000 in
set_option maxHeartbeats 4000000 in
theorem fewc_any (c:CondD) (a:Option Addr) (cap:Nat) (w:World) (hc:CondIs w c a) :
  Calls Tryz.prog 18 #[condV c a cap] w fun e w'=>∃b,e=.returned (.bool b)∧Below w.heap.size w w':=by
 have B1:=(Below.refl w.heap.size w).alloc (Nat.le_refl _) (.cells #[.int .i64 c.op,.string c.key,.string c.val,.int .i64 c.n,.slice a c.kids.length cap] 24)
 have HC0:=Lib.hid (row_new w (.cells #[.int .i64 c.op,.string c.key,.string c.val,.int .i64 c.n,.slice a c.kids.length cap] 24))
 have ND:=Lib.hid (fun W (hb:Below w.heap.size w W)=>nodes_any c a cap W 80 (hc.later hb) (by omega))
 have AL:=Lib.hid (fun W (hb:Below w.heap.size w W)=>rshort_any c a cap W (hc.later hb))
 rw [cond_cells] at ND AL ⊢
 clear hc
 go_enter Tryz.func18,Tryz.ntmps18
 go_wp2_with fail
 refine (ND.out _ B1).mono ?_
 rintro e w2 ⟨m,rfl,hm1,hm2,hm3,hb2⟩
 have HB2:=Lib.hid (row_later hb2 HC0.out)
 have B2:=below_step B1 (Nat.le_refl _) hb2
 clear hb2 ND hm3 B1
 by_cases hle:m≤80
 ·have d1:decide ((m:Int)≤80)=true:=decide_eq_true (by omega)
  clear hle
  obtain ⟨zz,z0,z1,z2,z3,z4⟩:=rk5 HB2.out
  go_wp2_with fail
  refine (AL.out _ B2).mono ?_
  rintro e w3 ⟨b,rfl,hb3⟩
  have B3:=below_step B2 (Nat.le_refl _) hb3
  clear hb3 z0 z1 z2 z3 z4 AL
  cases b
  ·go_wp2
   go_ret
   exact ⟨_,rfl,B3⟩
  ·go_wp2
   go_ret
   exact ⟨_,rfl,B3⟩
 ·have d1:decide ((m:Int)≤80)=false:=decide_eq_false (by omega)
  clear hle AL
  go_wp2
  go_ret
  exact ⟨_,rfl,B2⟩
end Go.Proofs.YtdfenhjibnfdeaaGreatDoor

namespace Go.Proofs.YtdfenhjibnfdeaaGreatDoor
open Go
def notC (c:CondD):CondD:=.mk 4 emptyB emptyB 0 [c]
def bothC (a b:CondD):CondD:=.mk 5 emptyB emptyB 0 [a,b]
def eitherC (a b:CondD):CondD:=.mk 6 emptyB emptyB 0 [a,b]
def otherC (a b:CondD):CondD:=notC (eitherC (notC a) (notC b))
theorem cnodes_pos':∀c:CondD,0<cnodes c
 |.mk _ _ _ _ _=>by rw [cnodes];omega
theorem cn_not (c:CondD):cnodes (notC c)=cnodes c+1:=by simp [notC,cnodes,cnodesL]
theorem cn_both (a b:CondD):cnodes (bothC a b)=cnodes a+cnodes b+1:=by simp [bothC,cnodes,cnodesL]
theorem cn_either (a b:CondD):cnodes (eitherC a b)=cnodes a+cnodes b+1:=by simp [eitherC,cnodes,cnodesL]
theorem ok_not (c:CondD):callC nodeOK (notC c)=callC nodeOK c:=by
 rw [notC,callC,callL,callL,show nodeOK (.mk 4 emptyB emptyB 0 [c])=true from by rfl];simp
theorem ok_both (a b:CondD):callC nodeOK (bothC a b)=(callC nodeOK a && callC nodeOK b):=by
 rw [bothC,callC,callL,callL,callL,show nodeOK (.mk 5 emptyB emptyB 0 [a,b])=true from by rfl];simp
theorem ok_either (a b:CondD):callC nodeOK (eitherC a b)=(callC nodeOK a && callC nodeOK b):=by
 rw [eitherC,callC,callL,callL,callL,show nodeOK (.mk 6 emptyB emptyB 0 [a,b])=true from by rfl];simp
theorem holds_not (l:List TagD) (c:CondD):holdsC l (notC c) = !holdsC l c:=by simp [notC,holdsC,allK]
theorem holds_both (l:List TagD) (a b:CondD):holdsC l (bothC a b)=(holdsC l a && holdsC l b):=by simp [bothC,holdsC,allK]
theorem holds_either (l:List TagD) (a b:CondD):holdsC l (eitherC a b)=(holdsC l a || holdsC l b):=by simp [eitherC,holdsC,anyK]
theorem other_valid {a b:CondD} (h:validC (otherC a b)=true) :
  validC a=true∧validC b=true∧validC (notC (notC a))=true∧validC (bothC a b)=true∧validC (bothC b a)=true∧validC (eitherC b a)=true:=by
 unfold otherC validC at h
 rw [Bool.and_eq_true,decide_eq_true_eq,ok_not,ok_either,ok_not,ok_not,cn_not,cn_either,cn_not,cn_not,Bool.and_eq_true] at h
 obtain ⟨h1,h2,h3⟩:=h
 have pa:=cnodes_pos' a
 have pb:=cnodes_pos' b
 unfold validC
 simp only [ok_not,ok_both,ok_either,cn_not,cn_both,cn_either,h2,h3,Bool.and_true,decide_eq_true_eq]
 omega
theorem cond_law (l : List TagD) {a b : CondD} (h : validC (otherC a b) = true) :
    ((validC (notC (notC a)) && holdsC l (notC (notC a))) = holdsC l a ∧ (validC (bothC a b) && holdsC l (bothC a b)) = (holdsC l a && holdsC l b) ∧ (validC (bothC b a) && holdsC l (bothC b a)) = (holdsC l a && holdsC l b) ∧
      (validC (otherC a b) && holdsC l (otherC a b)) = (holdsC l a && holdsC l b) ∧ (validC (eitherC b a) && holdsC l (eitherC b a)) = (holdsC l a || holdsC l b)) ∧ (validC a && holdsC l a) = holdsC l a ∧ (validC b && holdsC l b) = holdsC l b := by
  obtain ⟨h1, h2, h3, h4, h5, h6⟩ := other_valid h
  rw [h, h1, h2, h3, h4, h5, h6]
  unfold otherC
  simp only [holds_not, holds_both, holds_either, Bool.true_and]
  cases holdsC l a <;> cases holdsC l b <;> simp
mutual
def mentC (key:ByteArray):CondD→Bool
 |.mk _ k _ _ ks=>decide (k=key) || mentL key ks
def mentL (key:ByteArray):List CondD→Bool
 |[]=>false
 |c :: r=>mentC key c || mentL key r
end
theorem getB_filter (p:ByteArray→Bool) (k:ByteArray) (hk:p k=true):∀l:List TagD,getB k (l.filter fun t=>p t.key)=getB k l
 |[]=>rfl
 |t :: l=>by
  rw [List.filter_cons]
  by_cases e:t.key=k
  ·rw [e,hk,if_pos rfl,getB,getB,if_pos e,if_pos e]
  ·rw [getB,if_neg e]
   split
   ·rw [getB,if_neg e];exact getB_filter p k hk l
   ·exact getB_filter p k hk l
mutual
theorem holds_filter (p:ByteArray→Bool) (l:List TagD):∀c:CondD,(∀key,mentC key c=true→p key=true)→holdsC (l.filter fun t=>p t.key) c=holdsC l c
 |.mk o k v n ks,h=>by
  have hk:p k=true:=h k (by simp [mentC])
  have ha:=all_filter p l ks fun key hm=>h key (by simp [mentC,hm])
  have hb:=any_filter p l ks fun key hm=>h key (by simp [mentC,hm])
  rw [holdsC,holdsC,getB_filter p k hk,ha,hb]
theorem all_filter (p:ByteArray→Bool) (l:List TagD):∀ks:List CondD,(∀key,mentL key ks=true→p key=true)→allK (l.filter fun t=>p t.key) ks=allK l ks
 |[],_=>by rw [allK,allK]
 |c :: r,h=>by
  rw [allK,allK,holds_filter p l c fun key hm=>h key (by simp [mentL,hm]),all_filter p l r fun key hm=>h key (by simp [mentL,hm])]
theorem any_filter (p:ByteArray→Bool) (l:List TagD):∀ks:List CondD,(∀key,mentL key ks=true→p key=true)→anyK (l.filter fun t=>p t.key) ks=anyK l ks
 |[],_=>by rw [anyK,anyK]
 |c :: r,h=>by
  rw [anyK,anyK,holds_filter p l c fun key hm=>h key (by simp [mentL,hm]),any_filter p l r fun key hm=>h key (by simp [mentL,hm])]
end
theorem tags_law (l:List TagD) (c:CondD):holdsC (l.filter fun t=>mentC t.key c) c=holdsC l c:=holds_filter (fun key=>mentC key c) l c fun _ h=>h
theorem mentL_take (key:ByteArray):∀(ks:List CondD) (i:Nat) (c:CondD),ks[i]?=some c→mentL key (ks.take (i+1))=(mentL key (ks.take i) || mentC key c)
 |[],_,_,h=>by cases h
 |x :: r,i,c,h=>by
  cases i with
  |zero=>injection h with h;subst h;simp [mentL]
  |succ i =>
   have:=mentL_take key r i c h
   rw [List.take_succ_cons,List.take_succ_cons,mentL,mentL,this,Bool.or_assoc]
theorem mentL_in (key:ByteArray):∀(ks:List CondD) (i:Nat) (c:CondD),ks[i]?=some c→mentC key c=true→mentL key ks=true
 |[],_,_,h,_=>by cases h
 |x :: r,i,c,h,hc=>by
  rw [mentL]
  cases i with
  |zero=>injection h with h;subst h;rw [hc];rfl
  |succ i=>rw [mentL_in key r i c h hc,Bool.or_true]
end Go.Proofs.YtdfenhjibnfdeaaGreatDoor

namespace Go.Proofs.YtdfenhjibnfdeaaGreatDoor
open Go.RowKit Go.Shelf
def MentK (key0:ByteArray) (k:Nat):Prop:=∀(c:CondD) (a:Option Addr) (cap:Nat) (w:World),cnodes c≤k→CondIs w c a →
 Calls Tryz.prog 23 #[condV c a cap,.string key0] w fun e w'=>e=.returned (.bool (mentC key0 c))∧Below w.heap.size w w'
set_option maxRecDepth 100000 in
set_option maxHeartbeats 4000000 in
theorem ment_step (key0:ByteArray) (k:Nat) (IH:MentK key0 k):MentK key0 (k+1):=by
 intro c a cap w hk hc
 obtain ⟨op,key,val,n,ks⟩:=c
 have hk2:cnodesL ks≤k:=by rw [cnodes] at hk;omega
 obtain ⟨h1,h2,h3,h4⟩:=hc.open
 have h3:ks.length≤140737488355328:=h3
 have B1:=((Below.refl w.heap.size w).alloc (Nat.le_refl _) (.cells #[.int .i64 op,.string key,.string val,.int .i64 n,.slice a ks.length cap] 24))
 have HC0:=Lib.hid (row_new w (.cells #[.int .i64 op,.string key,.string val,.int .i64 n,.slice a ks.length cap] 24))
 have HRES:=Lib.hid (show mentC key0 (.mk op key val n ks)=(decide (key=key0) || mentL key0 ks) from by rw [mentC])
 show Calls Tryz.prog 23 #[.agg #[.int .i64 op,.string key,.string val,.int .i64 n,.slice a ks.length cap],.string key0] w _
 obtain ⟨N,hN⟩:∃N,ks.length=N:=⟨_,rfl⟩
 rw [hN] at h3 HC0 B1 ⊢
 have HN:=Lib.hid hN
 have H4:=Lib.hid (show 0<ks.length→∃b off,a=some ⟨b,off,none⟩∧KidsIs w b ks off from h4)
 obtain ⟨RES,hRES⟩:∃z,mentC key0 (.mk op key val n ks)=z:=⟨_,rfl⟩
 rw [hRES] at HRES ⊢
 clear hc h4 hk hN h1 h2 hRES
 by_cases he:key=key0
 ·have HR:=Lib.hid (show true=RES by rw [HRES.out,decide_eq_true he];rfl)
  clear HRES
  subst he
  go_enter Tryz.func23,Tryz.ntmps23
  go_wp2
  go_ret
  exact ⟨ret_bool HR.out,B1⟩
 have n1:=ne_str he
 have HR:=Lib.hid (show RES=mentL key0 ks by rw [HRES.out,decide_eq_false he];rfl)
 clear HRES he
 go_enter Tryz.func23,Tryz.ntmps23
 go_wp2
 go_loopw [5] (fun i wr=>∃(j:Nat),j≤N∧i=.int .i64 j∧mentL key0 (ks.take j)=false∧Below w.heap.size w wr∧wr.heap[w.heap.size]?=some (.cells #[.int .i64 op,.string key,.string val,.int .i64 n,.slice a N cap] 24 (0,0))) (fun i _=>N - (intOf i).toNat)
 case atStart=>exact ⟨0,by omega,rfl,rfl,B1,HC0.out⟩
 case round =>
  obtain ⟨j,hj,rfl,hcl,hbr,hbx⟩:=hrel
  have HCL:=Lib.hid hcl
  have HBX:=Lib.hid hbx
  clear hbx hcl
  by_cases hlt:j<N
  ·obtain ⟨c,hcj⟩:∃c,ks[j]?=some c:=⟨ks[j]'(by rw [HN.out];exact hlt),List.getElem?_eq_getElem _⟩
   obtain ⟨b,off,ha,hrow⟩:=H4.out (by rw [HN.out];omega)
   subst ha
   obtain ⟨a',cap',⟨q0,q1,q2,q3,q4⟩,hci⟩:=KidsIs.at _ _ j c hrow hcj
   have c0:=cell_later hbr q0
   have c1:=cell_later hbr q1
   have c2:=cell_later hbr q2
   have c3:=cell_later hbr q3
   have c4:=cell_later hbr q4
   have CL:=Lib.hid (IH c a' cap' wr (Nat.le_trans (cnodes_kid _ _ _ hcj) hk2) (hci.later hbr))
   have HTK:=Lib.hid (mentL_take key0 ks j c hcj)
   have HIN:=Lib.hid (mentL_in key0 ks j c hcj)
   have d0:decide ((j:Int)<N)=true:=decide_eq_true (by omega)
   clear q0 q1 q2 q3 q4 hci hrow hcj
   rw [cond_cells] at CL
   obtain ⟨mb,hmb⟩:∃z,mentC key0 c=z:=⟨_,rfl⟩
   rw [hmb] at CL HTK HIN
   clear hmb n1
   obtain ⟨zz,z0,z1,z2,z3,z4⟩:=rk5 HBX.out
   go_wp2_with fail
   refine CL.out.mono ?_
   rintro e w3 ⟨rfl,hb3⟩
   have HB3:=Lib.hid (row_later hb3 HBX.out)
   have B3:=below_step hbr (Nat.le_refl _) hb3
   clear hb3 CL
   cases mb
   ·have HC2:=Lib.hid (show mentL key0 (ks.take (j+1))=false from by rw [HTK.out,HCL.out];rfl)
    go_wp2
    go_roundw
    case rel=>exact ⟨j+1,by omega,by go_num,HC2.out,B3,HB3.out⟩
    case measure=>simp [intOf];omega
   ·have HE:=Lib.hid (show true=RES by rw [HR.out,HIN.out rfl])
    go_wp2
    go_ret
    exact ⟨ret_bool HE.out,B3⟩
  ·obtain rfl:j=N:=by omega
   have hcl2:=HCL.out
   rw [List.take_of_length_le (by rw [HN.out];exact Nat.le_refl _)] at hcl2
   have HE:=Lib.hid (show false=RES by rw [HR.out,hcl2])
   clear hcl2
   obtain ⟨zz,z0,z1,z2,z3,z4⟩:=rk5 HBX.out
   go_wp2
   go_ret
   exact ⟨ret_bool HE.out,hbr⟩
theorem ment_all (key0:ByteArray):∀k,MentK key0 k
 |0=>fun c _ _ _ hk=>by have:=cnodes_pos c;omega
 |k+1=>ment_step key0 k (ment_all key0 k)
theorem ment_any (key0:ByteArray) (c:CondD) (a:Option Addr) (cap:Nat) (w:World) (hc:CondIs w c a) :
  Calls Tryz.prog 23 #[condV c a cap,.string key0] w fun e w'=>e=.returned (.bool (mentC key0 c))∧Below w.heap.size w w':=ment_all key0 (cnodes c) c a cap w (Nat.le_refl _) hc
end Go.Proofs.YtdfenhjibnfdeaaGreatDoor
