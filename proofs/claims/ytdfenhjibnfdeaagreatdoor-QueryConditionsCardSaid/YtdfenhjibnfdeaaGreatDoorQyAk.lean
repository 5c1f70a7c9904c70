/-  -/
import Derived.Test.YtdfenhjibnfdeaaGreatDoorQyAj
namespace Go.Proofs.YtdfenhjibnfdeaaGreatDoor
open Go.RowKit Go.Shelf
theorem size_list (s:ByteArray):s.size=0↔s.toList=[]:=by
 rw [ByteArray.toList_eq]
 show s.data.size=0↔_
 rw [Array.size_eq_zero_iff,Array.toList_eq_nil_iff]
theorem emptyE (s:ByteArray):s=ByteArray.empty↔s.toList=[]:=str_list s []
def NodePost (c:CondD) (w:World) (e:Ending) (w':World):Prop:=∃b,e=.returned (.bool b)∧(b=true→nodeOK c=true)∧Below w.heap.size w w'
set_option maxRecDepth 100000 in
set_option maxHeartbeats 4000000 in
theorem rnode_2 (key val:ByteArray) (n:Int) (ks:List CondD) (a:Option Addr) (cap:Nat) (w:World) (h1:key.size≤140737488355328) (_h2:val.size≤140737488355328) (_h3:ks.length≤140737488355328) :
  Calls Tryz.prog 72 #[.agg #[.int .i64 2,.string key,.string val,.int .i64 n,.slice a ks.length cap]] w (NodePost (.mk 2 key val n ks) w):=by
 have B1:=(Below.refl w.heap.size w).alloc (Nat.le_refl _) (.cells #[.int .i64 2,.string key,.string val,.int .i64 n,.slice a ks.length cap] 24)
 have HC0:=Lib.hid (row_new w (.cells #[.int .i64 2,.string key,.string val,.int .i64 n,.slice a ks.length cap] 24))
 have RK:=Lib.hid (fun W=>rkey_any key h1 W)
 have HNO:=Lib.hid (show nodeOK (.mk 2 key val n ks)=nodeB 2 key val n ks.length from rfl)
 obtain ⟨N,hN⟩:∃N,ks.length=N:=⟨_,rfl⟩
 rw [hN] at _h3 HC0 B1 HNO ⊢
 clear hN
 go_enter Tryz.func72,Tryz.ntmps72
 go_wp2_with fail
 all_goals
  refine (RK.out _).mono ?_
  rintro e w2 ⟨rfl,hb2⟩
  have HB2:=Lib.hid (row_later hb2 HC0.out)
  have B2:=below_step B1 (Nat.le_refl _) hb2
  clear hb2 B1
  obtain ⟨kb,hkb⟩:∃kb,keyB key=kb:=⟨_,rfl⟩
  have HKB:=Lib.hid hkb
  rw [hkb]
  clear hkb
  cases kb
  ·go_wp2
   all_goals
    go_ret
    exact ⟨_,rfl,fun h=>by simp at h,B2⟩
  ·obtain ⟨zz,z0,z1,z2,z3,z4⟩:=rk5 HB2.out
   go_wp2
   all_goals
    go_ret
    refine ⟨_,rfl,fun h=>?_,B2⟩
    rw [HNO.out]
    have hkb:=HKB.out
    simp_all [nodeB,emptyE]
    try omega
set_option maxRecDepth 100000 in
set_option maxHeartbeats 4000000 in
theorem rnode_3 (key val:ByteArray) (n:Int) (ks:List CondD) (a:Option Addr) (cap:Nat) (w:World) (h1:key.size≤140737488355328) (h2:val.size≤140737488355328) (_h3:ks.length≤140737488355328) :
  Calls Tryz.prog 72 #[.agg #[.int .i64 3,.string key,.string val,.int .i64 n,.slice a ks.length cap]] w (NodePost (.mk 3 key val n ks) w):=by
 have B1:=(Below.refl w.heap.size w).alloc (Nat.le_refl _) (.cells #[.int .i64 3,.string key,.string val,.int .i64 n,.slice a ks.length cap] 24)
 have HC0:=Lib.hid (row_new w (.cells #[.int .i64 3,.string key,.string val,.int .i64 n,.slice a ks.length cap] 24))
 have RK:=Lib.hid (fun W=>rkey_any key h1 W)
 have HNO:=Lib.hid (show nodeOK (.mk 3 key val n ks)=nodeB 3 key val n ks.length from rfl)
 obtain ⟨N,hN⟩:∃N,ks.length=N:=⟨_,rfl⟩
 rw [hN] at _h3 HC0 B1 HNO ⊢
 clear hN
 go_enter Tryz.func72,Tryz.ntmps72
 go_wp2_with fail
 all_goals
  refine (RK.out _).mono ?_
  rintro e w2 ⟨rfl,hb2⟩
  have HB2:=Lib.hid (row_later hb2 HC0.out)
  have B2:=below_step B1 (Nat.le_refl _) hb2
  clear hb2 B1
  obtain ⟨kb,hkb⟩:∃kb,keyB key=kb:=⟨_,rfl⟩
  have HKB:=Lib.hid hkb
  rw [hkb]
  clear hkb
  cases kb
  ·go_wp2
   all_goals
    go_ret
    exact ⟨_,rfl,fun h=>by simp at h,B2⟩
  ·obtain ⟨zz,z0,z1,z2,z3,z4⟩:=rk5 HB2.out
   go_wp2
   all_goals
    go_ret
    refine ⟨_,rfl,fun h=>?_,B2⟩
    rw [HNO.out]
    have hkb:=HKB.out
    simp_all [nodeB]
    try omega
set_option maxRecDepth 100000 in
set_option maxHeartbeats 4000000 in
theorem rnode_7 (key val:ByteArray) (n:Int) (ks:List CondD) (a:Option Addr) (cap:Nat) (w:World) (h1:key.size≤140737488355328) (_h2:val.size≤140737488355328) (_h3:ks.length≤140737488355328) :
  Calls Tryz.prog 72 #[.agg #[.int .i64 7,.string key,.string val,.int .i64 n,.slice a ks.length cap]] w (NodePost (.mk 7 key val n ks) w):=by
 have B1:=(Below.refl w.heap.size w).alloc (Nat.le_refl _) (.cells #[.int .i64 7,.string key,.string val,.int .i64 n,.slice a ks.length cap] 24)
 have HC0:=Lib.hid (row_new w (.cells #[.int .i64 7,.string key,.string val,.int .i64 n,.slice a ks.length cap] 24))
 have RK:=Lib.hid (fun W=>rkey_any key h1 W)
 have HNO:=Lib.hid (show nodeOK (.mk 7 key val n ks)=nodeB 7 key val n ks.length from rfl)
 obtain ⟨N,hN⟩:∃N,ks.length=N:=⟨_,rfl⟩
 rw [hN] at _h3 HC0 B1 HNO ⊢
 clear hN
 go_enter Tryz.func72,Tryz.ntmps72
 go_wp2_with fail
 all_goals
  refine (RK.out _).mono ?_
  rintro e w2 ⟨rfl,hb2⟩
  have HB2:=Lib.hid (row_later hb2 HC0.out)
  have B2:=below_step B1 (Nat.le_refl _) hb2
  clear hb2 B1
  obtain ⟨kb,hkb⟩:∃kb,keyB key=kb:=⟨_,rfl⟩
  have HKB:=Lib.hid hkb
  rw [hkb]
  clear hkb
  cases kb
  ·go_wp2
   all_goals
    go_ret
    exact ⟨_,rfl,fun h=>by simp at h,B2⟩
  ·obtain ⟨zz,z0,z1,z2,z3,z4⟩:=rk5 HB2.out
   go_wp2
   all_goals
    go_ret
    refine ⟨_,rfl,fun h=>?_,B2⟩
    rw [HNO.out]
    have hkb:=HKB.out
    simp_all [nodeB,emptyE]
    try omega
set_option maxRecDepth 100000 in
set_option maxHeartbeats 4000000 in
theorem rnode_1 (key val:ByteArray) (n:Int) (ks:List CondD) (a:Option Addr) (cap:Nat) (w:World) (h1:key.size≤140737488355328) (_h2:val.size≤140737488355328) (_h3:ks.length≤140737488355328) :
  Calls Tryz.prog 72 #[.agg #[.int .i64 1,.string key,.string val,.int .i64 n,.slice a ks.length cap]] w (NodePost (.mk 1 key val n ks) w):=by
 have B1:=(Below.refl w.heap.size w).alloc (Nat.le_refl _) (.cells #[.int .i64 1,.string key,.string val,.int .i64 n,.slice a ks.length cap] 24)
 have HC0:=Lib.hid (row_new w (.cells #[.int .i64 1,.string key,.string val,.int .i64 n,.slice a ks.length cap] 24))
 have RK:=Lib.hid (fun W=>rkey_any key h1 W)
 have HNO:=Lib.hid (show nodeOK (.mk 1 key val n ks)=nodeB 1 key val n ks.length from rfl)
 obtain ⟨N,hN⟩:∃N,ks.length=N:=⟨_,rfl⟩
 rw [hN] at _h3 HC0 B1 HNO ⊢
 clear hN
 have hz1:=size_list key
 have hz2:=size_list val
 go_enter Tryz.func72,Tryz.ntmps72
 go_wp2
 all_goals
  go_ret
  refine ⟨_,rfl,fun h=>?_,((Below.refl _ w).alloc (Nat.le_refl _) _)⟩
  rw [HNO.out]
  simp_all [nodeB,emptyE]
  try omega
set_option maxRecDepth 100000 in
set_option maxHeartbeats 4000000 in
theorem rnode_4 (key val:ByteArray) (n:Int) (ks:List CondD) (a:Option Addr) (cap:Nat) (w:World) (h1:key.size≤140737488355328) (_h2:val.size≤140737488355328) (_h3:ks.length≤140737488355328) :
  Calls Tryz.prog 72 #[.agg #[.int .i64 4,.string key,.string val,.int .i64 n,.slice a ks.length cap]] w (NodePost (.mk 4 key val n ks) w):=by
 have B1:=(Below.refl w.heap.size w).alloc (Nat.le_refl _) (.cells #[.int .i64 4,.string key,.string val,.int .i64 n,.slice a ks.length cap] 24)
 have HC0:=Lib.hid (row_new w (.cells #[.int .i64 4,.string key,.string val,.int .i64 n,.slice a ks.length cap] 24))
 have RK:=Lib.hid (fun W=>rkey_any key h1 W)
 have HNO:=Lib.hid (show nodeOK (.mk 4 key val n ks)=nodeB 4 key val n ks.length from rfl)
 obtain ⟨N,hN⟩:∃N,ks.length=N:=⟨_,rfl⟩
 rw [hN] at _h3 HC0 B1 HNO ⊢
 clear hN
 have hz1:=size_list key
 have hz2:=size_list val
 go_enter Tryz.func72,Tryz.ntmps72
 go_wp2
 all_goals
  go_ret
  refine ⟨_,rfl,fun h=>?_,((Below.refl _ w).alloc (Nat.le_refl _) _)⟩
  rw [HNO.out]
  simp_all [nodeB,emptyE]
  try omega
set_option maxRecDepth 100000 in
set_option maxHeartbeats 4000000 in
theorem rnode_5 (key val:ByteArray) (n:Int) (ks:List CondD) (a:Option Addr) (cap:Nat) (w:World) (h1:key.size≤140737488355328) (_h2:val.size≤140737488355328) (h3:ks.length≤140737488355328) :
  Calls Tryz.prog 72 #[.agg #[.int .i64 5,.string key,.string val,.int .i64 n,.slice a ks.length cap]] w (NodePost (.mk 5 key val n ks) w):=by
 have B1:=(Below.refl w.heap.size w).alloc (Nat.le_refl _) (.cells #[.int .i64 5,.string key,.string val,.int .i64 n,.slice a ks.length cap] 24)
 have HC0:=Lib.hid (row_new w (.cells #[.int .i64 5,.string key,.string val,.int .i64 n,.slice a ks.length cap] 24))
 have RK:=Lib.hid (fun W=>rkey_any key h1 W)
 have HNO:=Lib.hid (show nodeOK (.mk 5 key val n ks)=nodeB 5 key val n ks.length from rfl)
 obtain ⟨N,hN⟩:∃N,ks.length=N:=⟨_,rfl⟩
 rw [hN] at h3 HC0 B1 HNO ⊢
 clear hN
 have hz1:=size_list key
 have hz2:=size_list val
 go_enter Tryz.func72,Tryz.ntmps72
 go_wp2
 all_goals
  go_ret
  refine ⟨_,rfl,fun h=>?_,((Below.refl _ w).alloc (Nat.le_refl _) _)⟩
  rw [HNO.out]
  simp_all [nodeB,emptyE]
  try omega
set_option maxRecDepth 100000 in
set_option maxHeartbeats 4000000 in
theorem rnode_6 (key val:ByteArray) (n:Int) (ks:List CondD) (a:Option Addr) (cap:Nat) (w:World) (h1:key.size≤140737488355328) (_h2:val.size≤140737488355328) (h3:ks.length≤140737488355328) :
  Calls Tryz.prog 72 #[.agg #[.int .i64 6,.string key,.string val,.int .i64 n,.slice a ks.length cap]] w (NodePost (.mk 6 key val n ks) w):=by
 have B1:=(Below.refl w.heap.size w).alloc (Nat.le_refl _) (.cells #[.int .i64 6,.string key,.string val,.int .i64 n,.slice a ks.length cap] 24)
 have HC0:=Lib.hid (row_new w (.cells #[.int .i64 6,.string key,.string val,.int .i64 n,.slice a ks.length cap] 24))
 have RK:=Lib.hid (fun W=>rkey_any key h1 W)
 have HNO:=Lib.hid (show nodeOK (.mk 6 key val n ks)=nodeB 6 key val n ks.length from rfl)
 obtain ⟨N,hN⟩:∃N,ks.length=N:=⟨_,rfl⟩
 rw [hN] at h3 HC0 B1 HNO ⊢
 clear hN
 have hz1:=size_list key
 have hz2:=size_list val
 go_enter Tryz.func72,Tryz.ntmps72
 go_wp2
 all_goals
  go_ret
  refine ⟨_,rfl,fun h=>?_,((Below.refl _ w).alloc (Nat.le_refl _) _)⟩
  rw [HNO.out]
  simp_all [nodeB,emptyE]
  try omega
set_option maxRecDepth 100000 in
set_option maxHeartbeats 4000000 in
theorem rnode_no (op:Int) (key val:ByteArray) (n:Int) (ks:List CondD) (a:Option Addr) (cap:Nat) (w:World) (ho:op<1∨7<op) (h1:key.size≤140737488355328) (_h2:val.size≤140737488355328) (_h3:ks.length≤140737488355328) :
  Calls Tryz.prog 72 #[.agg #[.int .i64 op,.string key,.string val,.int .i64 n,.slice a ks.length cap]] w (NodePost (.mk op key val n ks) w):=by
 have B1:=(Below.refl w.heap.size w).alloc (Nat.le_refl _) (.cells #[.int .i64 op,.string key,.string val,.int .i64 n,.slice a ks.length cap] 24)
 have HC0:=Lib.hid (row_new w (.cells #[.int .i64 op,.string key,.string val,.int .i64 n,.slice a ks.length cap] 24))
 have RK:=Lib.hid (fun W=>rkey_any key h1 W)
 have HNO:=Lib.hid (show nodeOK (.mk op key val n ks)=nodeB op key val n ks.length from rfl)
 obtain ⟨N,hN⟩:∃N,ks.length=N:=⟨_,rfl⟩
 rw [hN] at _h3 HC0 B1 HNO ⊢
 clear hN
 have x2:(op==2)=false:=by rw [beq_eq_false_iff_ne];omega
 have x3:(op==3)=false:=by rw [beq_eq_false_iff_ne];omega
 have x7:(op==7)=false:=by rw [beq_eq_false_iff_ne];omega
 have x4:(op==4)=false:=by rw [beq_eq_false_iff_ne];omega
 have x5:(op==5)=false:=by rw [beq_eq_false_iff_ne];omega
 have x6:(op==6)=false:=by rw [beq_eq_false_iff_ne];omega
 clear HNO RK
 rcases ho with ho | ho
 ·have d1:decide ((1:Int)≤op)=false:=decide_eq_false (by omega)
  clear ho
  go_enter Tryz.func72,Tryz.ntmps72
  go_wp2
  all_goals
   go_ret
   exact ⟨_,rfl,(fun h=>by cases h),B1⟩
 ·have d1:decide ((1:Int)≤op)=true:=decide_eq_true (by omega)
  have d7:decide (op≤7)=false:=decide_eq_false (by omega)
  clear ho
  go_enter Tryz.func72,Tryz.ntmps72
  go_wp2
  all_goals
   go_ret
   exact ⟨_,rfl,(fun h=>by cases h),B1⟩
theorem rnode_any (c:CondD) (a:Option Addr) (cap:Nat) (w:World) (hc:CondIs w c a) :
  Calls Tryz.prog 72 #[condV c a cap] w (NodePost c w):=by
 obtain ⟨op,key,val,n,ks⟩:=c
 obtain ⟨h1,h2,h3,-⟩:=hc.open
 by_cases o2:op=2
 ·subst o2;exact rnode_2 key val n ks a cap w h1 h2 h3
 by_cases o3:op=3
 ·subst o3;exact rnode_3 key val n ks a cap w h1 h2 h3
 by_cases o7:op=7
 ·subst o7;exact rnode_7 key val n ks a cap w h1 h2 h3
 by_cases o1:op=1
 ·subst o1;exact rnode_1 key val n ks a cap w h1 h2 h3
 by_cases o4:op=4
 ·subst o4;exact rnode_4 key val n ks a cap w h1 h2 h3
 by_cases o5:op=5
 ·subst o5;exact rnode_5 key val n ks a cap w h1 h2 h3
 by_cases o6:op=6
 ·subst o6;exact rnode_6 key val n ks a cap w h1 h2 h3
 exact rnode_no op key val n ks a cap w (by omega) h1 h2 h3
end Go.Proofs.YtdfenhjibnfdeaaGreatDoor
