/- Texts of QueryTexts. -/
import Derived.Test.YtdfenhjibnfdeaaGreatDoorQtS
import Derived.Test.YtdfenhjibnfdeaaGreatDoorQtT
import Derived.Test.YtdfenhjibnfdeaaGreatDoorQtU
namespace Go.Proofs.YtdfenhjibnfdeaaGreatDoor
open Go.RowKit Go.Shelf
theorem validQA_any (q:QryD) (a:Option Addr) (cap:Nat) (w:World) (hc:CondIs w q.wher a) (hi:q.id.size≤140737488355328) (hkey:q.key.size≤140737488355328) (hp:q.prof.size≤140737488355328) :
  Calls Tryz.prog 12 #[qryV q a cap] w fun e w'=>e=.returned (.bool (validQ q))∧Below w.heap.size w w':=by
 by_cases hk:0≤q.kind∧q.kind<6
 case neg =>
  have hv:validQ q=false:=by unfold validQ;rw [decide_eq_false hk];rfl
  rw [hv]
  by_cases h0:q.kind<0
  ·exact validQL_any q a cap w h0
  ·exact validQG_any q a cap w (by omega)
 cases hR:validC q.wher
 case false=>exact validQF_any q a cap w hc hk hR
 by_cases h1:q.ask=1
 ·exact validQ1_any q a cap w hc hk h1 hR
 by_cases h2:q.ask=2
 ·exact validQ2_any q a cap w hc hk h2 hi hR
 by_cases h3:q.ask=3
 ·exact validQ3_any q a cap w hc hk h3 hi hR
 by_cases h4:q.ask=4
 ·exact validQ4_any q a cap w hc hk h4 hR
 by_cases h5:q.ask=5
 ·exact validQ5_any q a cap w hc hk h5 hi hp hR
 by_cases h6:q.ask=6
 ·exact validQ6_any q a cap w hc hk h6 hkey hR
 have hv:validQ q=false:=by
  unfold validQ
  rw [if_neg h1,if_neg h2,if_neg h3,if_neg h4,if_neg h5,if_neg h6,Bool.and_false]
 rw [hv]
 exact validQD_any q a cap w hc hk (by omega) hR
end Go.Proofs.YtdfenhjibnfdeaaGreatDoor
namespace Go.Proofs.YtdfenhjibnfdeaaGreatDoor
open Go.RowKit Go.Shelf
def ShortK (k:Nat):Prop:=∀(c:CondD) (a:Option Addr) (cap:Nat) (w:World),cnodes c≤k→CondIs w c a →
 Calls Tryz.prog 46 #[condV c a cap] w fun e w'=>∃b,e=.returned (.bool b)∧Below w.heap.size w w'
set_option maxRecDepth 100000 in
set_option maxHeartbeats 4000000 in
theorem short_step (k:Nat) (IH:ShortK k):ShortK (k+1):=by
 intro c a cap w hk hc
 obtain ⟨op,key,val,n,ks⟩:=c
 have hk2:cnodesL ks≤k:=by rw [cnodes] at hk;omega
 obtain ⟨h1,h2,h3,h4⟩:=hc.open
 have h3:ks.length≤140737488355328:=h3
 have B1:=(Below.refl w.heap.size w).alloc (Nat.le_refl _) (.cells #[.int .i64 op,.string key,.string val,.int .i64 n,.slice a ks.length cap] 24)
 have HC0:=Lib.hid (row_new w (.cells #[.int .i64 op,.string key,.string val,.int .i64 n,.slice a ks.length cap] 24))
 show Calls Tryz.prog 46 #[.agg #[.int .i64 op,.string key,.string val,.int .i64 n,.slice a ks.length cap]] w _
 obtain ⟨N,hN⟩:∃N,ks.length=N:=⟨_,rfl⟩
 rw [hN] at h3 HC0 B1 ⊢
 have HN:=Lib.hid hN
 have H4:=Lib.hid (show 0<ks.length→∃b off,a=some ⟨b,off,none⟩∧KidsIs w b ks off from h4)
 obtain ⟨sk,hsk⟩:∃sk,decide ((300:Int)<key.size)=sk:=⟨_,rfl⟩
 obtain ⟨sv,hsv⟩:∃sv,decide ((300:Int)<val.size)=sv:=⟨_,rfl⟩
 have h1:key.size≤140737488355328:=h1
 have h2:val.size≤140737488355328:=h2
 clear hc h4 hk hN
 cases sk
 case true =>
  go_enter Tryz.func46,Tryz.ntmps46
  go_wp2
  go_ret
  exact ⟨_,rfl,B1⟩
 cases sv
 case true =>
  go_enter Tryz.func46,Tryz.ntmps46
  go_wp2
  go_ret
  exact ⟨_,rfl,B1⟩
 go_enter Tryz.func46,Tryz.ntmps46
 go_wp2
 go_loopw [3] (fun i wr=>∃(j:Nat),j≤N∧i=.int .i64 j∧Below w.heap.size w wr∧wr.heap[w.heap.size]?=some (.cells #[.int .i64 op,.string key,.string val,.int .i64 n,.slice a N cap] 24 (0,0))) (fun i _=>N - (intOf i).toNat)
 case atStart=>exact ⟨0,by omega,rfl,B1,HC0.out⟩
 case round =>
  obtain ⟨j,hj,rfl,hbr,hbx⟩:=hrel
  have HBX:=Lib.hid hbx
  clear hbx hsk hsv
  by_cases hlt:j<N
  ·obtain ⟨c,hcj⟩:∃c,ks[j]?=some c:=⟨ks[j]'(by rw [HN.out];exact hlt),List.getElem?_eq_getElem _⟩
   obtain ⟨b,off,ha,hrow⟩:=H4.out (by rw [HN.out];omega)
   subst ha
   obtain ⟨a',cap',⟨q0,q1,q2,q3,q4⟩,hci⟩:=KidsIs.at _ _ j c hrow hcj
   have c0:=cell_later hbr q0
   have c1:=cell_later hbr q1
   have c2:=cell_later hbr q2
   have c3:=cell_later hbr q3
   have c4:=cell_later hbr q4
   have CL:=Lib.hid (IH c a' cap' wr (Nat.le_trans (cnodes_kid _ _ _ hcj) hk2) (hci.later hbr))
   have d0:decide ((j:Int)<N)=true:=decide_eq_true (by omega)
   clear q0 q1 q2 q3 q4 hci hrow hcj
   rw [cond_cells] at CL
   obtain ⟨zz,z0,z1,z2,z3,z4⟩:=rk5 HBX.out
   go_wp2_with fail
   refine CL.out.mono ?_
   rintro e w3 ⟨rb,rfl,hb3⟩
   have HB3:=Lib.hid (row_later hb3 HBX.out)
   have B3:=below_step hbr (Nat.le_refl _) hb3
   clear hb3 CL
   cases rb
   ·go_wp2
    go_ret
    exact ⟨_,rfl,B3⟩
   go_wp2
   go_roundw
   case rel=>exact ⟨j+1,by omega,by go_num,B3,HB3.out⟩
   case measure=>simp [intOf];omega
  ·obtain rfl:j=N:=by omega
   obtain ⟨zz,z0,z1,z2,z3,z4⟩:=rk5 HBX.out
   go_wp2
   go_ret
   exact ⟨_,rfl,hbr⟩
theorem short_all:∀k,ShortK k
 |0=>fun c _ _ _ hk=>by have:=cnodes_pos c;omega
 |k+1=>short_step k (short_all k)
theorem rshort_any (c:CondD) (a:Option Addr) (cap:Nat) (w:World) (hc:CondIs w c a) :
  Calls Tryz.prog 46 #[condV c a cap] w fun e w'=>∃b,e=.returned (.bool b)∧Below w.heap.size w w':=short_all (cnodes c) c a cap w (Nat.le_refl _) hc
set_option maxRecDepth 100000 in
set_option maxHeartbeats 4000000 in
theorem fewc_any (c:CondD) (a:Option Addr) (cap:Nat) (w:World) (hc:CondIs w c a) :
  Calls Tryz.prog 18 #[condV c a cap] w fun e w'=>∃b,e=.returned (.bool b)∧Below w.heap.size w w':=by
 have B1:=(Below.refl w.heap.size w).alloc (Nat.le_refl _) (.cells #[.int .i64 c.op,.string c.key,.string c.val,.int .i64 c.n,.slice a c.kids.length cap] 24)
 have HC0:=Lib.hid (row_new w (.cells #[.int .i64 c.op,.string c.key,.string c.val,.int .i64 c.n,.slice a c.kids.length cap] 24))
 have ND:=Lib.hid (fun W (hb:Below w.heap.size w W)=>nodes_any c a cap W 80 (hc.later hb) (by omega))
 have AL:=Lib.hid (fun W (hb:Below w.heap.size w W)=>rshort_any c a cap W (hc.later hb))
 rw [cond_cells] at ND AL ⊢
 clear hc
 go_enter Tryz.func18,Tryz.ntmps18
 go_wp2_with fail
 refine (ND.out _ B1).mono ?_
 rintro e w2 ⟨m,rfl,hm1,hm2,hm3,hb2⟩
 have HB2:=Lib.hid (row_later hb2 HC0.out)
 have B2:=below_step B1 (Nat.le_refl _) hb2
 clear hb2 ND hm3 B1
 by_cases hle:m≤80
 ·have d1:decide ((m:Int)≤80)=true:=decide_eq_true (by omega)
  clear hle
  obtain ⟨zz,z0,z1,z2,z3,z4⟩:=rk5 HB2.out
  go_wp2_with fail
  refine (AL.out _ B2).mono ?_
  rintro e w3 ⟨b,rfl,hb3⟩
  have B3:=below_step B2 (Nat.le_refl _) hb3
  clear hb3 z0 z1 z2 z3 z4 AL
  cases b
  ·go_wp2
   go_ret
   exact ⟨_,rfl,B3⟩
  ·go_wp2
   go_ret
   exact ⟨_,rfl,B3⟩
 ·have d1:decide ((m:Int)≤80)=false:=decide_eq_false (by omega)
  clear hle AL
  go_wp2
  go_ret
  exact ⟨_,rfl,B2⟩
end Go.Proofs.YtdfenhjibnfdeaaGreatDoor
