/-  -/
import Derived.Test.YtdfenhjibnfdeaaGreatDoorQyAe
namespace Go.Proofs.YtdfenhjibnfdeaaGreatDoor
open Go.RowKit Go.Shelf
theorem size0_true {s:ByteArray} (h:s.size=0):(s.toList==[])=true:=by rw [str_nil h];rfl
theorem size0_false {s:ByteArray} (h:¬s.size=0):(s.toList==[])=false:=str_ne_nil (by omega)
set_option maxRecDepth 100000 in
set_option maxHeartbeats 2000000 in
theorem node1_any (k s:ByteArray) (n:Int) (a:Option Addr) (K cap:Nat) (w:World) :
  Calls Tryz.prog 60 #[.agg #[.int .i64 1,.string k,.string s,.int .i64 n,.slice a K cap]] w fun e w'=>e=.returned (.bool (nodeB 1 k s n K))∧Below w.heap.size w w':=by
 by_cases hA:k.size=0
 case neg =>
  have e1:=size0_false hA
  have HE:=Lib.hid (show nodeB 1 k s n K=false by unfold nodeB;simp [hA])
  clear hA
  go_enter Tryz.func60,Tryz.ntmps60
  go_wp2
  go_ret
  exact ⟨ret_bool HE.out.symm,(Below.refl w.heap.size w).alloc (Nat.le_refl _) _⟩
 have e1:=size0_true hA
 by_cases hB:s.size=0
 case neg =>
  have e2:=size0_false hB
  have HE:=Lib.hid (show nodeB 1 k s n K=false by unfold nodeB;simp [hB])
  clear hA hB
  go_enter Tryz.func60,Tryz.ntmps60
  go_wp2
  go_ret
  exact ⟨ret_bool HE.out.symm,(Below.refl w.heap.size w).alloc (Nat.le_refl _) _⟩
 have e2:=size0_true hB
 by_cases hC:n=0
 case neg =>
  have e3:(n==0)=false:=by rw [beq_eq_false_iff_ne];exact hC
  have HE:=Lib.hid (show nodeB 1 k s n K=false by unfold nodeB;simp [hC])
  clear hA hB hC
  go_enter Tryz.func60,Tryz.ntmps60
  go_wp2
  go_ret
  exact ⟨ret_bool HE.out.symm,(Below.refl w.heap.size w).alloc (Nat.le_refl _) _⟩
 have e3:(n==0)=true:=by rw [beq_iff_eq];exact hC
 by_cases hD:K=0
 ·have e4:((K:Int)==0)=true:=by rw [beq_iff_eq];omega
  have HE:=Lib.hid (show nodeB 1 k s n K=true by unfold nodeB;simp [hA,hB,hC,hD])
  clear hA hB hC hD
  go_enter Tryz.func60,Tryz.ntmps60
  go_wp2
  go_ret
  exact ⟨ret_bool HE.out.symm,(Below.refl w.heap.size w).alloc (Nat.le_refl _) _⟩
 ·have e4:((K:Int)==0)=false:=by rw [beq_eq_false_iff_ne];omega
  have HE:=Lib.hid (show nodeB 1 k s n K=false by unfold nodeB;simp [hD])
  clear hA hB hC hD
  go_enter Tryz.func60,Tryz.ntmps60
  go_wp2
  go_ret
  exact ⟨ret_bool HE.out.symm,(Below.refl w.heap.size w).alloc (Nat.le_refl _) _⟩
set_option maxRecDepth 100000 in
set_option maxHeartbeats 2000000 in
theorem node4_any (k s:ByteArray) (n:Int) (a:Option Addr) (K cap:Nat) (w:World) :
  Calls Tryz.prog 60 #[.agg #[.int .i64 4,.string k,.string s,.int .i64 n,.slice a K cap]] w fun e w'=>e=.returned (.bool (nodeB 4 k s n K))∧Below w.heap.size w w':=by
 by_cases hA:k.size=0
 case neg =>
  have e1:=size0_false hA
  have HE:=Lib.hid (show nodeB 4 k s n K=false by unfold nodeB;simp [hA])
  clear hA
  go_enter Tryz.func60,Tryz.ntmps60
  go_wp2
  go_ret
  exact ⟨ret_bool HE.out.symm,(Below.refl w.heap.size w).alloc (Nat.le_refl _) _⟩
 have e1:=size0_true hA
 by_cases hB:s.size=0
 case neg =>
  have e2:=size0_false hB
  have HE:=Lib.hid (show nodeB 4 k s n K=false by unfold nodeB;simp [hB])
  clear hA hB
  go_enter Tryz.func60,Tryz.ntmps60
  go_wp2
  go_ret
  exact ⟨ret_bool HE.out.symm,(Below.refl w.heap.size w).alloc (Nat.le_refl _) _⟩
 have e2:=size0_true hB
 by_cases hC:n=0
 case neg =>
  have e3:(n==0)=false:=by rw [beq_eq_false_iff_ne];exact hC
  have HE:=Lib.hid (show nodeB 4 k s n K=false by unfold nodeB;simp [hC])
  clear hA hB hC
  go_enter Tryz.func60,Tryz.ntmps60
  go_wp2
  go_ret
  exact ⟨ret_bool HE.out.symm,(Below.refl w.heap.size w).alloc (Nat.le_refl _) _⟩
 have e3:(n==0)=true:=by rw [beq_iff_eq];exact hC
 by_cases hD:K=1
 ·have e4:((K:Int)==1)=true:=by rw [beq_iff_eq];omega
  have HE:=Lib.hid (show nodeB 4 k s n K=true by unfold nodeB;simp [hA,hB,hC,hD])
  clear hA hB hC hD
  go_enter Tryz.func60,Tryz.ntmps60
  go_wp2
  go_ret
  exact ⟨ret_bool HE.out.symm,(Below.refl w.heap.size w).alloc (Nat.le_refl _) _⟩
 ·have e4:((K:Int)==1)=false:=by rw [beq_eq_false_iff_ne];omega
  have HE:=Lib.hid (show nodeB 4 k s n K=false by unfold nodeB;simp [hD])
  clear hA hB hC hD
  go_enter Tryz.func60,Tryz.ntmps60
  go_wp2
  go_ret
  exact ⟨ret_bool HE.out.symm,(Below.refl w.heap.size w).alloc (Nat.le_refl _) _⟩
set_option maxRecDepth 100000 in
set_option maxHeartbeats 2000000 in
theorem node5_any (k s:ByteArray) (n:Int) (a:Option Addr) (K cap:Nat) (w:World) :
  Calls Tryz.prog 60 #[.agg #[.int .i64 5,.string k,.string s,.int .i64 n,.slice a K cap]] w fun e w'=>e=.returned (.bool (nodeB 5 k s n K))∧Below w.heap.size w w':=by
 by_cases hA:k.size=0
 case neg =>
  have e1:=size0_false hA
  have HE:=Lib.hid (show nodeB 5 k s n K=false by unfold nodeB;simp [hA])
  clear hA
  go_enter Tryz.func60,Tryz.ntmps60
  go_wp2
  go_ret
  exact ⟨ret_bool HE.out.symm,(Below.refl w.heap.size w).alloc (Nat.le_refl _) _⟩
 have e1:=size0_true hA
 by_cases hB:s.size=0
 case neg =>
  have e2:=size0_false hB
  have HE:=Lib.hid (show nodeB 5 k s n K=false by unfold nodeB;simp [hB])
  clear hA hB
  go_enter Tryz.func60,Tryz.ntmps60
  go_wp2
  go_ret
  exact ⟨ret_bool HE.out.symm,(Below.refl w.heap.size w).alloc (Nat.le_refl _) _⟩
 have e2:=size0_true hB
 by_cases hC:n=0
 case neg =>
  have e3:(n==0)=false:=by rw [beq_eq_false_iff_ne];exact hC
  have HE:=Lib.hid (show nodeB 5 k s n K=false by unfold nodeB;simp [hC])
  clear hA hB hC
  go_enter Tryz.func60,Tryz.ntmps60
  go_wp2
  go_ret
  exact ⟨ret_bool HE.out.symm,(Below.refl w.heap.size w).alloc (Nat.le_refl _) _⟩
 have e3:(n==0)=true:=by rw [beq_iff_eq];exact hC
 by_cases hD:1<K
 ·have e4:decide ((1:Int)<(K:Int))=true:=by rw [decide_eq_true_eq];omega
  have HE:=Lib.hid (show nodeB 5 k s n K=true by unfold nodeB;simp [hA,hB,hC,hD])
  clear hA hB hC hD
  go_enter Tryz.func60,Tryz.ntmps60
  go_wp2
  go_ret
  exact ⟨ret_bool HE.out.symm,(Below.refl w.heap.size w).alloc (Nat.le_refl _) _⟩
 ·have e4:decide ((1:Int)<(K:Int))=false:=by rw [decide_eq_false_iff_not];omega
  have HE:=Lib.hid (show nodeB 5 k s n K=false by unfold nodeB;simp [hD])
  clear hA hB hC hD
  go_enter Tryz.func60,Tryz.ntmps60
  go_wp2
  go_ret
  exact ⟨ret_bool HE.out.symm,(Below.refl w.heap.size w).alloc (Nat.le_refl _) _⟩
set_option maxRecDepth 100000 in
set_option maxHeartbeats 2000000 in
theorem node6_any (k s:ByteArray) (n:Int) (a:Option Addr) (K cap:Nat) (w:World) :
  Calls Tryz.prog 60 #[.agg #[.int .i64 6,.string k,.string s,.int .i64 n,.slice a K cap]] w fun e w'=>e=.returned (.bool (nodeB 6 k s n K))∧Below w.heap.size w w':=by
 by_cases hA:k.size=0
 case neg =>
  have e1:=size0_false hA
  have HE:=Lib.hid (show nodeB 6 k s n K=false by unfold nodeB;simp [hA])
  clear hA
  go_enter Tryz.func60,Tryz.ntmps60
  go_wp2
  go_ret
  exact ⟨ret_bool HE.out.symm,(Below.refl w.heap.size w).alloc (Nat.le_refl _) _⟩
 have e1:=size0_true hA
 by_cases hB:s.size=0
 case neg =>
  have e2:=size0_false hB
  have HE:=Lib.hid (show nodeB 6 k s n K=false by unfold nodeB;simp [hB])
  clear hA hB
  go_enter Tryz.func60,Tryz.ntmps60
  go_wp2
  go_ret
  exact ⟨ret_bool HE.out.symm,(Below.refl w.heap.size w).alloc (Nat.le_refl _) _⟩
 have e2:=size0_true hB
 by_cases hC:n=0
 case neg =>
  have e3:(n==0)=false:=by rw [beq_eq_false_iff_ne];exact hC
  have HE:=Lib.hid (show nodeB 6 k s n K=false by unfold nodeB;simp [hC])
  clear hA hB hC
  go_enter Tryz.func60,Tryz.ntmps60
  go_wp2
  go_ret
  exact ⟨ret_bool HE.out.symm,(Below.refl w.heap.size w).alloc (Nat.le_refl _) _⟩
 have e3:(n==0)=true:=by rw [beq_iff_eq];exact hC
 by_cases hD:1<K
 ·have e4:decide ((1:Int)<(K:Int))=true:=by rw [decide_eq_true_eq];omega
  have HE:=Lib.hid (show nodeB 6 k s n K=true by unfold nodeB;simp [hA,hB,hC,hD])
  clear hA hB hC hD
  go_enter Tryz.func60,Tryz.ntmps60
  go_wp2
  go_ret
  exact ⟨ret_bool HE.out.symm,(Below.refl w.heap.size w).alloc (Nat.le_refl _) _⟩
 ·have e4:decide ((1:Int)<(K:Int))=false:=by rw [decide_eq_false_iff_not];omega
  have HE:=Lib.hid (show nodeB 6 k s n K=false by unfold nodeB;simp [hD])
  clear hA hB hC hD
  go_enter Tryz.func60,Tryz.ntmps60
  go_wp2
  go_ret
  exact ⟨ret_bool HE.out.symm,(Below.refl w.heap.size w).alloc (Nat.le_refl _) _⟩
set_option maxRecDepth 100000 in
set_option maxHeartbeats 2000000 in
theorem nodeX_any (o:Int) (k s:ByteArray) (n:Int) (a:Option Addr) (K cap:Nat) (ho:o≠1∧o≠2∧o≠3∧o≠4∧o≠5∧o≠6∧o≠7) (w:World) :
  Calls Tryz.prog 60 #[.agg #[.int .i64 o,.string k,.string s,.int .i64 n,.slice a K cap]] w fun e w'=>e=.returned (.bool (nodeB o k s n K))∧Below w.heap.size w w':=by
 have x1:(o==1)=false:=by rw [beq_eq_false_iff_ne];omega
 have x2:(o==2)=false:=by rw [beq_eq_false_iff_ne];omega
 have x3:(o==3)=false:=by rw [beq_eq_false_iff_ne];omega
 have x4:(o==4)=false:=by rw [beq_eq_false_iff_ne];omega
 have x5:(o==5)=false:=by rw [beq_eq_false_iff_ne];omega
 have x6:(o==6)=false:=by rw [beq_eq_false_iff_ne];omega
 have x7:(o==7)=false:=by rw [beq_eq_false_iff_ne];omega
 have HE:=Lib.hid (show nodeB o k s n K=false by unfold nodeB;rw [if_neg (by omega),if_neg (by omega),if_neg (by omega),if_neg (by omega),if_neg (by omega),if_neg (by omega)])
 clear ho
 by_cases hA:k.size=0
 case neg =>
  have e1:=size0_false hA
  clear hA
  go_enter Tryz.func60,Tryz.ntmps60
  go_wp2
  go_ret
  exact ⟨ret_bool HE.out.symm,(Below.refl w.heap.size w).alloc (Nat.le_refl _) _⟩
 have e1:=size0_true hA
 by_cases hB:s.size=0
 case neg =>
  have e2:=size0_false hB
  clear hA hB
  go_enter Tryz.func60,Tryz.ntmps60
  go_wp2
  go_ret
  exact ⟨ret_bool HE.out.symm,(Below.refl w.heap.size w).alloc (Nat.le_refl _) _⟩
 have e2:=size0_true hB
 by_cases hC:n=0
 case neg =>
  have e3:(n==0)=false:=by rw [beq_eq_false_iff_ne];exact hC
  clear hA hB hC
  go_enter Tryz.func60,Tryz.ntmps60
  go_wp2
  go_ret
  exact ⟨ret_bool HE.out.symm,(Below.refl w.heap.size w).alloc (Nat.le_refl _) _⟩
 have e3:(n==0)=true:=by rw [beq_iff_eq];exact hC
 clear hA hB hC
 go_enter Tryz.func60,Tryz.ntmps60
 go_wp2
 go_ret
 exact ⟨ret_bool HE.out.symm,(Below.refl w.heap.size w).alloc (Nat.le_refl _) _⟩
set_option maxRecDepth 100000 in
set_option maxHeartbeats 2000000 in
theorem node2_any (k s:ByteArray) (n:Int) (a:Option Addr) (K cap:Nat) (hk:k.size≤140737488355328) (w:World) :
  Calls Tryz.prog 60 #[.agg #[.int .i64 2,.string k,.string s,.int .i64 n,.slice a K cap]] w fun e w'=>e=.returned (.bool (nodeB 2 k s n K))∧Below w.heap.size w w':=by
 have HKK:=Lib.hid (fun W=>key_any k hk W)
 by_cases hA:k.size=0
 case pos =>
  have e1:=size0_true hA
  have hkey:keyB k=false:=by simp [keyB,nameB,nameL,show k.data.toList.length=0 from (Array.length_toList).trans hA]
  have HE:=Lib.hid (show nodeB 2 k s n K=false by unfold nodeB;simp [hkey])
  rw [hkey] at HKK
  by_cases hB:s.size=0
  case neg =>
   have e2:=size0_false hB
   clear hA hB hkey
   go_enter Tryz.func60,Tryz.ntmps60
   go_wp2_with fail
   refine (HKK.out _).mono ?_
   rintro e w1 ⟨rfl,hb1⟩
   have HB1:=Lib.hid (row_later hb1 (row_new w (.cells #[.int .i64 2,.string k,.string s,.int .i64 n,.slice a K cap] 24)))
   obtain ⟨bz,b0,b1,b2,b3,b4⟩:=rk5 HB1.out
   have BB:=below_step ((Below.refl w.heap.size w).alloc (Nat.le_refl _) (.cells #[.int .i64 2,.string k,.string s,.int .i64 n,.slice a K cap] 24)) (Nat.le_refl _) hb1
   clear hb1
   go_wp2
   go_ret
   exact ⟨ret_bool HE.out.symm,BB⟩
  have e2:=size0_true hB
  by_cases hC:n=0
  case neg =>
   have e3:(n==0)=false:=by rw [beq_eq_false_iff_ne];exact hC
   clear hA hB hC hkey
   go_enter Tryz.func60,Tryz.ntmps60
   go_wp2_with fail
   refine (HKK.out _).mono ?_
   rintro e w1 ⟨rfl,hb1⟩
   have HB1:=Lib.hid (row_later hb1 (row_new w (.cells #[.int .i64 2,.string k,.string s,.int .i64 n,.slice a K cap] 24)))
   obtain ⟨bz,b0,b1,b2,b3,b4⟩:=rk5 HB1.out
   have BB:=below_step ((Below.refl w.heap.size w).alloc (Nat.le_refl _) (.cells #[.int .i64 2,.string k,.string s,.int .i64 n,.slice a K cap] 24)) (Nat.le_refl _) hb1
   clear hb1
   go_wp2
   go_ret
   exact ⟨ret_bool HE.out.symm,BB⟩
  have e3:(n==0)=true:=by rw [beq_iff_eq];exact hC
  clear hA hB hC hkey
  go_enter Tryz.func60,Tryz.ntmps60
  go_wp2_with fail
  refine (HKK.out _).mono ?_
  rintro e w1 ⟨rfl,hb1⟩
  have HB1:=Lib.hid (row_later hb1 (row_new w (.cells #[.int .i64 2,.string k,.string s,.int .i64 n,.slice a K cap] 24)))
  obtain ⟨bz,b0,b1,b2,b3,b4⟩:=rk5 HB1.out
  have BB:=below_step ((Below.refl w.heap.size w).alloc (Nat.le_refl _) (.cells #[.int .i64 2,.string k,.string s,.int .i64 n,.slice a K cap] 24)) (Nat.le_refl _) hb1
  clear hb1
  go_wp2
  go_ret
  exact ⟨ret_bool HE.out.symm,BB⟩
 have e1:=size0_false hA
 cases hkey:keyB k
 case false =>
  have HE:=Lib.hid (show nodeB 2 k s n K=false by unfold nodeB;simp [hkey])
  rw [hkey] at HKK
  clear hA hkey
  go_enter Tryz.func60,Tryz.ntmps60
  go_wp2_with fail
  refine (HKK.out _).mono ?_
  rintro e w1 ⟨rfl,hb1⟩
  have HB1:=Lib.hid (row_later hb1 (row_new w (.cells #[.int .i64 2,.string k,.string s,.int .i64 n,.slice a K cap] 24)))
  obtain ⟨bz,b0,b1,b2,b3,b4⟩:=rk5 HB1.out
  have BB:=below_step ((Below.refl w.heap.size w).alloc (Nat.le_refl _) (.cells #[.int .i64 2,.string k,.string s,.int .i64 n,.slice a K cap] 24)) (Nat.le_refl _) hb1
  clear hb1
  go_wp2
  go_ret
  exact ⟨ret_bool HE.out.symm,BB⟩
 rw [hkey] at HKK
 by_cases hB:s.size=0
 case neg =>
  have e2:=size0_false hB
  have HE:=Lib.hid (show nodeB 2 k s n K=false by unfold nodeB;first | (simp [hkey,hB];done) | (simp [hkey];omega))
  clear hA hkey hB
  go_enter Tryz.func60,Tryz.ntmps60
  go_wp2_with fail
  refine (HKK.out _).mono ?_
  rintro e w1 ⟨rfl,hb1⟩
  have HB1:=Lib.hid (row_later hb1 (row_new w (.cells #[.int .i64 2,.string k,.string s,.int .i64 n,.slice a K cap] 24)))
  obtain ⟨bz,b0,b1,b2,b3,b4⟩:=rk5 HB1.out
  have BB:=below_step ((Below.refl w.heap.size w).alloc (Nat.le_refl _) (.cells #[.int .i64 2,.string k,.string s,.int .i64 n,.slice a K cap] 24)) (Nat.le_refl _) hb1
  clear hb1
  go_wp2
  go_ret
  exact ⟨ret_bool HE.out.symm,BB⟩
 have e2:=size0_true hB
 by_cases hC:n=0
 case neg =>
  have e3:(n==0)=false:=by rw [beq_eq_false_iff_ne];exact hC
  have HE:=Lib.hid (show nodeB 2 k s n K=false by unfold nodeB;first | (simp [hkey,hC];done) | (simp [hkey];omega))
  clear hA hkey hC hB
  go_enter Tryz.func60,Tryz.ntmps60
  go_wp2_with fail
  refine (HKK.out _).mono ?_
  rintro e w1 ⟨rfl,hb1⟩
  have HB1:=Lib.hid (row_later hb1 (row_new w (.cells #[.int .i64 2,.string k,.string s,.int .i64 n,.slice a K cap] 24)))
  obtain ⟨bz,b0,b1,b2,b3,b4⟩:=rk5 HB1.out
  have BB:=below_step ((Below.refl w.heap.size w).alloc (Nat.le_refl _) (.cells #[.int .i64 2,.string k,.string s,.int .i64 n,.slice a K cap] 24)) (Nat.le_refl _) hb1
  clear hb1
  go_wp2
  go_ret
  exact ⟨ret_bool HE.out.symm,BB⟩
 have e3:(n==0)=true:=by rw [beq_iff_eq];exact hC
 by_cases hD:K=0
 case neg =>
  have e4:((K:Int)==0)=false:=by rw [beq_eq_false_iff_ne];omega
  have HE:=Lib.hid (show nodeB 2 k s n K=false by unfold nodeB;first | (simp [hkey,hD];done) | (simp [hkey];omega))
  clear hA hkey hD hB hC
  go_enter Tryz.func60,Tryz.ntmps60
  go_wp2_with fail
  refine (HKK.out _).mono ?_
  rintro e w1 ⟨rfl,hb1⟩
  have HB1:=Lib.hid (row_later hb1 (row_new w (.cells #[.int .i64 2,.string k,.string s,.int .i64 n,.slice a K cap] 24)))
  obtain ⟨bz,b0,b1,b2,b3,b4⟩:=rk5 HB1.out
  have BB:=below_step ((Below.refl w.heap.size w).alloc (Nat.le_refl _) (.cells #[.int .i64 2,.string k,.string s,.int .i64 n,.slice a K cap] 24)) (Nat.le_refl _) hb1
  clear hb1
  go_wp2
  go_ret
  exact ⟨ret_bool HE.out.symm,BB⟩
 have e4:((K:Int)==0)=true:=by rw [beq_iff_eq];omega
 have HE:=Lib.hid (show nodeB 2 k s n K=true by unfold nodeB;simp [hkey,hB,hC,hD])
 clear hA hkey hD hB hC
 go_enter Tryz.func60,Tryz.ntmps60
 go_wp2_with fail
 refine (HKK.out _).mono ?_
 rintro e w1 ⟨rfl,hb1⟩
 have HB1:=Lib.hid (row_later hb1 (row_new w (.cells #[.int .i64 2,.string k,.string s,.int .i64 n,.slice a K cap] 24)))
 obtain ⟨bz,b0,b1,b2,b3,b4⟩:=rk5 HB1.out
 have BB:=below_step ((Below.refl w.heap.size w).alloc (Nat.le_refl _) (.cells #[.int .i64 2,.string k,.string s,.int .i64 n,.slice a K cap] 24)) (Nat.le_refl _) hb1
 clear hb1
 go_wp2
 go_ret
 exact ⟨ret_bool HE.out.symm,BB⟩
set_option maxRecDepth 100000 in
set_option maxHeartbeats 2000000 in
theorem node3_any (k s:ByteArray) (n:Int) (a:Option Addr) (K cap:Nat) (hk:k.size≤140737488355328) (w:World) :
  Calls Tryz.prog 60 #[.agg #[.int .i64 3,.string k,.string s,.int .i64 n,.slice a K cap]] w fun e w'=>e=.returned (.bool (nodeB 3 k s n K))∧Below w.heap.size w w':=by
 have HKK:=Lib.hid (fun W=>key_any k hk W)
 by_cases hA:k.size=0
 case pos =>
  have e1:=size0_true hA
  have hkey:keyB k=false:=by simp [keyB,nameB,nameL,show k.data.toList.length=0 from (Array.length_toList).trans hA]
  have HE:=Lib.hid (show nodeB 3 k s n K=false by unfold nodeB;simp [hkey])
  rw [hkey] at HKK
  by_cases hB:s.size=0
  case neg =>
   have e2:=size0_false hB
   clear hA hB hkey
   go_enter Tryz.func60,Tryz.ntmps60
   go_wp2_with fail
   refine (HKK.out _).mono ?_
   rintro e w1 ⟨rfl,hb1⟩
   have HB1:=Lib.hid (row_later hb1 (row_new w (.cells #[.int .i64 3,.string k,.string s,.int .i64 n,.slice a K cap] 24)))
   obtain ⟨bz,b0,b1,b2,b3,b4⟩:=rk5 HB1.out
   have BB:=below_step ((Below.refl w.heap.size w).alloc (Nat.le_refl _) (.cells #[.int .i64 3,.string k,.string s,.int .i64 n,.slice a K cap] 24)) (Nat.le_refl _) hb1
   clear hb1
   go_wp2
   go_ret
   exact ⟨ret_bool HE.out.symm,BB⟩
  have e2:=size0_true hB
  by_cases hC:n=0
  case neg =>
   have e3:(n==0)=false:=by rw [beq_eq_false_iff_ne];exact hC
   clear hA hB hC hkey
   go_enter Tryz.func60,Tryz.ntmps60
   go_wp2_with fail
   refine (HKK.out _).mono ?_
   rintro e w1 ⟨rfl,hb1⟩
   have HB1:=Lib.hid (row_later hb1 (row_new w (.cells #[.int .i64 3,.string k,.string s,.int .i64 n,.slice a K cap] 24)))
   obtain ⟨bz,b0,b1,b2,b3,b4⟩:=rk5 HB1.out
   have BB:=below_step ((Below.refl w.heap.size w).alloc (Nat.le_refl _) (.cells #[.int .i64 3,.string k,.string s,.int .i64 n,.slice a K cap] 24)) (Nat.le_refl _) hb1
   clear hb1
   go_wp2
   go_ret
   exact ⟨ret_bool HE.out.symm,BB⟩
  have e3:(n==0)=true:=by rw [beq_iff_eq];exact hC
  clear hA hB hC hkey
  go_enter Tryz.func60,Tryz.ntmps60
  go_wp2_with fail
  refine (HKK.out _).mono ?_
  rintro e w1 ⟨rfl,hb1⟩
  have HB1:=Lib.hid (row_later hb1 (row_new w (.cells #[.int .i64 3,.string k,.string s,.int .i64 n,.slice a K cap] 24)))
  obtain ⟨bz,b0,b1,b2,b3,b4⟩:=rk5 HB1.out
  have BB:=below_step ((Below.refl w.heap.size w).alloc (Nat.le_refl _) (.cells #[.int .i64 3,.string k,.string s,.int .i64 n,.slice a K cap] 24)) (Nat.le_refl _) hb1
  clear hb1
  go_wp2
  go_ret
  exact ⟨ret_bool HE.out.symm,BB⟩
 have e1:=size0_false hA
 cases hkey:keyB k
 case false =>
  have HE:=Lib.hid (show nodeB 3 k s n K=false by unfold nodeB;simp [hkey])
  rw [hkey] at HKK
  clear hA hkey
  go_enter Tryz.func60,Tryz.ntmps60
  go_wp2_with fail
  refine (HKK.out _).mono ?_
  rintro e w1 ⟨rfl,hb1⟩
  have HB1:=Lib.hid (row_later hb1 (row_new w (.cells #[.int .i64 3,.string k,.string s,.int .i64 n,.slice a K cap] 24)))
  obtain ⟨bz,b0,b1,b2,b3,b4⟩:=rk5 HB1.out
  have BB:=below_step ((Below.refl w.heap.size w).alloc (Nat.le_refl _) (.cells #[.int .i64 3,.string k,.string s,.int .i64 n,.slice a K cap] 24)) (Nat.le_refl _) hb1
  clear hb1
  go_wp2
  go_ret
  exact ⟨ret_bool HE.out.symm,BB⟩
 rw [hkey] at HKK
 by_cases hB:0<s.size
 case neg =>
  have e2:s.toList.isEmpty=true:=by rw [str_nil (by omega)];rfl
  have HE:=Lib.hid (show nodeB 3 k s n K=false by unfold nodeB;first | (simp [hkey,hB];done) | (simp [hkey];omega))
  clear hA hkey hB
  go_enter Tryz.func60,Tryz.ntmps60
  go_wp2_with fail
  refine (HKK.out _).mono ?_
  rintro e w1 ⟨rfl,hb1⟩
  have HB1:=Lib.hid (row_later hb1 (row_new w (.cells #[.int .i64 3,.string k,.string s,.int .i64 n,.slice a K cap] 24)))
  obtain ⟨bz,b0,b1,b2,b3,b4⟩:=rk5 HB1.out
  have BB:=below_step ((Below.refl w.heap.size w).alloc (Nat.le_refl _) (.cells #[.int .i64 3,.string k,.string s,.int .i64 n,.slice a K cap] 24)) (Nat.le_refl _) hb1
  clear hb1
  go_wp2
  go_ret
  exact ⟨ret_bool HE.out.symm,BB⟩
 have e2:s.toList.isEmpty=false:=str_not_empty (by omega)
 by_cases hF:s.size≤200
 case neg =>
  have e5:decide ((s.size:Int)≤200)=false:=by rw [decide_eq_false_iff_not];omega
  have HE:=Lib.hid (show nodeB 3 k s n K=false by unfold nodeB;first | (simp [hkey,hF];done) | (simp [hkey];omega))
  clear hA hkey hF hB
  go_enter Tryz.func60,Tryz.ntmps60
  go_wp2_with fail
  refine (HKK.out _).mono ?_
  rintro e w1 ⟨rfl,hb1⟩
  have HB1:=Lib.hid (row_later hb1 (row_new w (.cells #[.int .i64 3,.string k,.string s,.int .i64 n,.slice a K cap] 24)))
  obtain ⟨bz,b0,b1,b2,b3,b4⟩:=rk5 HB1.out
  have BB:=below_step ((Below.refl w.heap.size w).alloc (Nat.le_refl _) (.cells #[.int .i64 3,.string k,.string s,.int .i64 n,.slice a K cap] 24)) (Nat.le_refl _) hb1
  clear hb1
  go_wp2
  go_ret
  exact ⟨ret_bool HE.out.symm,BB⟩
 have e5:decide ((s.size:Int)≤200)=true:=by rw [decide_eq_true_eq];omega
 by_cases hC:n=0
 case neg =>
  have e3:(n==0)=false:=by rw [beq_eq_false_iff_ne];exact hC
  have HE:=Lib.hid (show nodeB 3 k s n K=false by unfold nodeB;first | (simp [hkey,hC];done) | (simp [hkey];omega))
  clear hA hkey hC hB hF
  go_enter Tryz.func60,Tryz.ntmps60
  go_wp2_with fail
  refine (HKK.out _).mono ?_
  rintro e w1 ⟨rfl,hb1⟩
  have HB1:=Lib.hid (row_later hb1 (row_new w (.cells #[.int .i64 3,.string k,.string s,.int .i64 n,.slice a K cap] 24)))
  obtain ⟨bz,b0,b1,b2,b3,b4⟩:=rk5 HB1.out
  have BB:=below_step ((Below.refl w.heap.size w).alloc (Nat.le_refl _) (.cells #[.int .i64 3,.string k,.string s,.int .i64 n,.slice a K cap] 24)) (Nat.le_refl _) hb1
  clear hb1
  go_wp2
  go_ret
  exact ⟨ret_bool HE.out.symm,BB⟩
 have e3:(n==0)=true:=by rw [beq_iff_eq];exact hC
 by_cases hD:K=0
 case neg =>
  have e4:((K:Int)==0)=false:=by rw [beq_eq_false_iff_ne];omega
  have HE:=Lib.hid (show nodeB 3 k s n K=false by unfold nodeB;first | (simp [hkey,hD];done) | (simp [hkey];omega))
  clear hA hkey hD hB hF hC
  go_enter Tryz.func60,Tryz.ntmps60
  go_wp2_with fail
  refine (HKK.out _).mono ?_
  rintro e w1 ⟨rfl,hb1⟩
  have HB1:=Lib.hid (row_later hb1 (row_new w (.cells #[.int .i64 3,.string k,.string s,.int .i64 n,.slice a K cap] 24)))
  obtain ⟨bz,b0,b1,b2,b3,b4⟩:=rk5 HB1.out
  have BB:=below_step ((Below.refl w.heap.size w).alloc (Nat.le_refl _) (.cells #[.int .i64 3,.string k,.string s,.int .i64 n,.slice a K cap] 24)) (Nat.le_refl _) hb1
  clear hb1
  go_wp2
  go_ret
  exact ⟨ret_bool HE.out.symm,BB⟩
 have e4:((K:Int)==0)=true:=by rw [beq_iff_eq];omega
 have HE:=Lib.hid (show nodeB 3 k s n K=true by unfold nodeB;simp [hkey,hB,hF,hC,hD])
 clear hA hkey hD hB hF hC
 go_enter Tryz.func60,Tryz.ntmps60
 go_wp2_with fail
 refine (HKK.out _).mono ?_
 rintro e w1 ⟨rfl,hb1⟩
 have HB1:=Lib.hid (row_later hb1 (row_new w (.cells #[.int .i64 3,.string k,.string s,.int .i64 n,.slice a K cap] 24)))
 obtain ⟨bz,b0,b1,b2,b3,b4⟩:=rk5 HB1.out
 have BB:=below_step ((Below.refl w.heap.size w).alloc (Nat.le_refl _) (.cells #[.int .i64 3,.string k,.string s,.int .i64 n,.slice a K cap] 24)) (Nat.le_refl _) hb1
 clear hb1
 go_wp2
 go_ret
 exact ⟨ret_bool HE.out.symm,BB⟩
set_option maxRecDepth 100000 in
set_option maxHeartbeats 2000000 in
theorem node7_any (k s:ByteArray) (n:Int) (a:Option Addr) (K cap:Nat) (hk:k.size≤140737488355328) (w:World) :
  Calls Tryz.prog 60 #[.agg #[.int .i64 7,.string k,.string s,.int .i64 n,.slice a K cap]] w fun e w'=>e=.returned (.bool (nodeB 7 k s n K))∧Below w.heap.size w w':=by
 have HKK:=Lib.hid (fun W=>key_any k hk W)
 by_cases hA:k.size=0
 case pos =>
  have e1:=size0_true hA
  have hkey:keyB k=false:=by simp [keyB,nameB,nameL,show k.data.toList.length=0 from (Array.length_toList).trans hA]
  have HE:=Lib.hid (show nodeB 7 k s n K=false by unfold nodeB;simp [hkey])
  rw [hkey] at HKK
  by_cases hB:s.size=0
  case neg =>
   have e2:=size0_false hB
   clear hA hB hkey
   go_enter Tryz.func60,Tryz.ntmps60
   go_wp2_with fail
   refine (HKK.out _).mono ?_
   rintro e w1 ⟨rfl,hb1⟩
   have HB1:=Lib.hid (row_later hb1 (row_new w (.cells #[.int .i64 7,.string k,.string s,.int .i64 n,.slice a K cap] 24)))
   obtain ⟨bz,b0,b1,b2,b3,b4⟩:=rk5 HB1.out
   have BB:=below_step ((Below.refl w.heap.size w).alloc (Nat.le_refl _) (.cells #[.int .i64 7,.string k,.string s,.int .i64 n,.slice a K cap] 24)) (Nat.le_refl _) hb1
   clear hb1
   go_wp2
   go_ret
   exact ⟨ret_bool HE.out.symm,BB⟩
  have e2:=size0_true hB
  by_cases hC:n=0
  case neg =>
   have e3:(n==0)=false:=by rw [beq_eq_false_iff_ne];exact hC
   clear hA hB hC hkey
   go_enter Tryz.func60,Tryz.ntmps60
   go_wp2_with fail
   refine (HKK.out _).mono ?_
   rintro e w1 ⟨rfl,hb1⟩
   have HB1:=Lib.hid (row_later hb1 (row_new w (.cells #[.int .i64 7,.string k,.string s,.int .i64 n,.slice a K cap] 24)))
   obtain ⟨bz,b0,b1,b2,b3,b4⟩:=rk5 HB1.out
   have BB:=below_step ((Below.refl w.heap.size w).alloc (Nat.le_refl _) (.cells #[.int .i64 7,.string k,.string s,.int .i64 n,.slice a K cap] 24)) (Nat.le_refl _) hb1
   clear hb1
   go_wp2
   go_ret
   exact ⟨ret_bool HE.out.symm,BB⟩
  have e3:(n==0)=true:=by rw [beq_iff_eq];exact hC
  clear hA hB hC hkey
  go_enter Tryz.func60,Tryz.ntmps60
  go_wp2_with fail
  refine (HKK.out _).mono ?_
  rintro e w1 ⟨rfl,hb1⟩
  have HB1:=Lib.hid (row_later hb1 (row_new w (.cells #[.int .i64 7,.string k,.string s,.int .i64 n,.slice a K cap] 24)))
  obtain ⟨bz,b0,b1,b2,b3,b4⟩:=rk5 HB1.out
  have BB:=below_step ((Below.refl w.heap.size w).alloc (Nat.le_refl _) (.cells #[.int .i64 7,.string k,.string s,.int .i64 n,.slice a K cap] 24)) (Nat.le_refl _) hb1
  clear hb1
  go_wp2
  go_ret
  exact ⟨ret_bool HE.out.symm,BB⟩
 have e1:=size0_false hA
 cases hkey:keyB k
 case false =>
  have HE:=Lib.hid (show nodeB 7 k s n K=false by unfold nodeB;simp [hkey])
  rw [hkey] at HKK
  clear hA hkey
  go_enter Tryz.func60,Tryz.ntmps60
  go_wp2_with fail
  refine (HKK.out _).mono ?_
  rintro e w1 ⟨rfl,hb1⟩
  have HB1:=Lib.hid (row_later hb1 (row_new w (.cells #[.int .i64 7,.string k,.string s,.int .i64 n,.slice a K cap] 24)))
  obtain ⟨bz,b0,b1,b2,b3,b4⟩:=rk5 HB1.out
  have BB:=below_step ((Below.refl w.heap.size w).alloc (Nat.le_refl _) (.cells #[.int .i64 7,.string k,.string s,.int .i64 n,.slice a K cap] 24)) (Nat.le_refl _) hb1
  clear hb1
  go_wp2
  go_ret
  exact ⟨ret_bool HE.out.symm,BB⟩
 rw [hkey] at HKK
 by_cases hB:s.size=0
 case neg =>
  have e2:=size0_false hB
  have HE:=Lib.hid (show nodeB 7 k s n K=false by unfold nodeB;first | (simp [hkey,hB];done) | (simp [hkey];omega))
  clear hA hkey hB
  go_enter Tryz.func60,Tryz.ntmps60
  go_wp2_with fail
  refine (HKK.out _).mono ?_
  rintro e w1 ⟨rfl,hb1⟩
  have HB1:=Lib.hid (row_later hb1 (row_new w (.cells #[.int .i64 7,.string k,.string s,.int .i64 n,.slice a K cap] 24)))
  obtain ⟨bz,b0,b1,b2,b3,b4⟩:=rk5 HB1.out
  have BB:=below_step ((Below.refl w.heap.size w).alloc (Nat.le_refl _) (.cells #[.int .i64 7,.string k,.string s,.int .i64 n,.slice a K cap] 24)) (Nat.le_refl _) hb1
  clear hb1
  go_wp2
  go_ret
  exact ⟨ret_bool HE.out.symm,BB⟩
 have e2:=size0_true hB
 by_cases hF:0≤n
 case neg =>
  have e5:decide ((0:Int)≤n)=false:=by rw [decide_eq_false_iff_not];omega
  have HE:=Lib.hid (show nodeB 7 k s n K=false by unfold nodeB;first | (simp [hkey,hF];done) | (simp [hkey];omega))
  clear hA hkey hF hB
  go_enter Tryz.func60,Tryz.ntmps60
  go_wp2_with fail
  refine (HKK.out _).mono ?_
  rintro e w1 ⟨rfl,hb1⟩
  have HB1:=Lib.hid (row_later hb1 (row_new w (.cells #[.int .i64 7,.string k,.string s,.int .i64 n,.slice a K cap] 24)))
  obtain ⟨bz,b0,b1,b2,b3,b4⟩:=rk5 HB1.out
  have BB:=below_step ((Below.refl w.heap.size w).alloc (Nat.le_refl _) (.cells #[.int .i64 7,.string k,.string s,.int .i64 n,.slice a K cap] 24)) (Nat.le_refl _) hb1
  clear hb1
  go_wp2
  go_ret
  exact ⟨ret_bool HE.out.symm,BB⟩
 have e5:decide ((0:Int)≤n)=true:=by rw [decide_eq_true_eq];omega
 by_cases hC:n≤9999999
 case neg =>
  have e6:decide (n≤9999999)=false:=by rw [decide_eq_false_iff_not];omega
  have HE:=Lib.hid (show nodeB 7 k s n K=false by unfold nodeB;first | (simp [hkey,hC];done) | (simp [hkey];omega))
  clear hA hkey hC hB hF
  go_enter Tryz.func60,Tryz.ntmps60
  go_wp2_with fail
  refine (HKK.out _).mono ?_
  rintro e w1 ⟨rfl,hb1⟩
  have HB1:=Lib.hid (row_later hb1 (row_new w (.cells #[.int .i64 7,.string k,.string s,.int .i64 n,.slice a K cap] 24)))
  obtain ⟨bz,b0,b1,b2,b3,b4⟩:=rk5 HB1.out
  have BB:=below_step ((Below.refl w.heap.size w).alloc (Nat.le_refl _) (.cells #[.int .i64 7,.string k,.string s,.int .i64 n,.slice a K cap] 24)) (Nat.le_refl _) hb1
  clear hb1
  go_wp2
  go_ret
  exact ⟨ret_bool HE.out.symm,BB⟩
 have e6:decide (n≤9999999)=true:=by rw [decide_eq_true_eq];omega
 by_cases hD:K=0
 case neg =>
  have e4:((K:Int)==0)=false:=by rw [beq_eq_false_iff_ne];omega
  have HE:=Lib.hid (show nodeB 7 k s n K=false by unfold nodeB;first | (simp [hkey,hD];done) | (simp [hkey];omega))
  clear hA hkey hD hB hF hC
  go_enter Tryz.func60,Tryz.ntmps60
  go_wp2_with fail
  refine (HKK.out _).mono ?_
  rintro e w1 ⟨rfl,hb1⟩
  have HB1:=Lib.hid (row_later hb1 (row_new w (.cells #[.int .i64 7,.string k,.string s,.int .i64 n,.slice a K cap] 24)))
  obtain ⟨bz,b0,b1,b2,b3,b4⟩:=rk5 HB1.out
  have BB:=below_step ((Below.refl w.heap.size w).alloc (Nat.le_refl _) (.cells #[.int .i64 7,.string k,.string s,.int .i64 n,.slice a K cap] 24)) (Nat.le_refl _) hb1
  clear hb1
  go_wp2
  go_ret
  exact ⟨ret_bool HE.out.symm,BB⟩
 have e4:((K:Int)==0)=true:=by rw [beq_iff_eq];omega
 have HE:=Lib.hid (show nodeB 7 k s n K=true by unfold nodeB;simp [hkey,hB,hF,hC,hD])
 clear hA hkey hD hB hF hC
 go_enter Tryz.func60,Tryz.ntmps60
 go_wp2_with fail
 refine (HKK.out _).mono ?_
 rintro e w1 ⟨rfl,hb1⟩
 have HB1:=Lib.hid (row_later hb1 (row_new w (.cells #[.int .i64 7,.string k,.string s,.int .i64 n,.slice a K cap] 24)))
 obtain ⟨bz,b0,b1,b2,b3,b4⟩:=rk5 HB1.out
 have BB:=below_step ((Below.refl w.heap.size w).alloc (Nat.le_refl _) (.cells #[.int .i64 7,.string k,.string s,.int .i64 n,.slice a K cap] 24)) (Nat.le_refl _) hb1
 clear hb1
 go_wp2
 go_ret
 exact ⟨ret_bool HE.out.symm,BB⟩
theorem node_any (c:CondD) (a:Option Addr) (cap:Nat) (w:World) (h:CondIs w c a) :
  Calls Tryz.prog 60 #[condV c a cap] w fun e w'=>e=.returned (.bool (nodeOK c))∧Below w.heap.size w w':=by
 obtain ⟨h1,-⟩:=h.open
 obtain ⟨o,k,s,n,ks⟩:=c
 show Calls Tryz.prog 60 #[.agg #[.int .i64 o,.string k,.string s,.int .i64 n,.slice a ks.length cap]] w fun e w'=>e=.returned (.bool (nodeB o k s n ks.length))∧Below w.heap.size w w'
 by_cases p1:o=1
 ·subst p1;exact node1_any k s n a _ cap w
 by_cases p2:o=2
 ·subst p2;exact node2_any k s n a _ cap h1 w
 by_cases p3:o=3
 ·subst p3;exact node3_any k s n a _ cap h1 w
 by_cases p4:o=4
 ·subst p4;exact node4_any k s n a _ cap w
 by_cases p5:o=5
 ·subst p5;exact node5_any k s n a _ cap w
 by_cases p6:o=6
 ·subst p6;exact node6_any k s n a _ cap w
 by_cases p7:o=7
 ·subst p7;exact node7_any k s n a _ cap h1 w
 exact nodeX_any o k s n a _ cap ⟨p1,p2,p3,p4,p5,p6,p7⟩ w
end Go.Proofs.YtdfenhjibnfdeaaGreatDoor
