/-  -/
import Derived.Test.YtdfenhjibnfdeaaGreatDoorQyAn
import Derived.Test.YtdfenhjibnfdeaaGreatDoorQyBa
import Derived.Test.YtdfenhjibnfdeaaGreatDoorQyBb
import Derived.Test.YtdfenhjibnfdeaaGreatDoorQyBd
namespace Go.Proofs.YtdfenhjibnfdeaaGreatDoor
open Go.RowKit Go.Shelf
set_option maxHeartbeats 1000000 in
theorem validM0_any (w:World) :
  Calls Tryz.prog 55 #[.agg #[.slice none 0 0]] w fun e w'=>e=.returned (.bool true)∧Below w.heap.size w w':=by
 go_enter Tryz.func55,Tryz.ntmps55
 go_wp2_with fail
 have B1:Below w.heap.size w (w.alloc (.cells #[.slice none 0 0] 62)):=(Below.refl _ w).alloc (Nat.le_refl _) _
 have HM:=row_new w (.cells #[.slice none 0 0] 62)
 generalize hw1:w.alloc (.cells #[.slice none 0 0] 62)=w1
 rw [hw1] at B1 HM
 clear hw1
 have HMh:=Lib.hid HM
 obtain ⟨mz,m0⟩:=rk1 HM
 have HM':=Lib.hid HM
 clear HM
 go_wp2
 clear m0
 go_loopw [3,9] (fun s i wr=>s=.string ⟨#[]⟩∧i=.int .i64 0∧wr=w1) (fun _ i _=>1 - (intOf i).toNat)
 case atStart=>exact ⟨rfl,rfl,rfl⟩
 case round =>
  obtain ⟨rfl,rfl,rfl⟩:=hrel
  have HM2:=HMh.out
  obtain ⟨nz,n0⟩:=rk1 HM2
  have HM2':=Lib.hid HM2
  clear HM2
  go_wp2
  go_ret
  exact ⟨rfl,B1⟩
set_option maxHeartbeats 1000000 in
theorem idx0_any (f:Value) (w:World) :
  Calls Tryz.prog 83 #[.slice none 0 0,f] w fun e w'=>e=.returned (.int .i64 (-1))∧w'=w:=by
 go_enter Tryz.func83,Tryz.ntmps83
 go_wp2
 go_loopw [8] (fun i wr=>i=.int .i64 0∧wr=w) (fun i _=>1 - (intOf i).toNat)
 case atStart=>exact ⟨rfl,rfl⟩
 case round =>
  obtain ⟨rfl,rfl⟩:=hrel
  go_wp2
  go_ret
  exact ⟨rfl,rfl⟩
set_option maxHeartbeats 1000000 in
theorem find0_any (id:ByteArray) (w:World) :
  Calls Tryz.prog 56 #[.agg #[.slice none 0 0],.string id] w fun e w'=>e=.returned (.int .i64 (-1))∧Below w.heap.size w w':=by
 have IX:=Lib.hid (fun f W=>idx0_any f W)
 go_enter Tryz.func56,Tryz.ntmps56
 go_wp2_with fail
 have BX:Below w.heap.size w ((w.alloc (.cells #[.slice none 0 0] 62)).alloc (.cells #[.string id] 9)):=(by repeat' (first | exact Below.refl _ _ | refine Below.drew ?_ | refine Below.drewN' ?_ | refine Below.setCell ?_ (by first | omega | (simp;done) | exact Below.size (by assumption) | (simp;omega)) _ | refine Below.alloc ?_ (by first | omega | (simp;done) | exact Below.size (by assumption) | (simp;omega)) _ | refine Below.trans ?_ (Below.mono (by assumption) ?_) | (first | omega | (simp;done) | exact Below.size (by assumption) | (simp;omega))))
 refine (IX.out _ _).mono ?_
 rintro e w2 ⟨rfl,rfl⟩
 go_wp2
 go_ret
 exact ⟨rfl,BX⟩
set_option maxRecDepth 100000 in
set_option maxHeartbeats 4000000 in
theorem checkH_any (c:CondD) (id:ByteArray) (a:Option Addr) (cap:Nat) (w:World) (hc:CondIs w c a) (hid:id.size≤24) (hv:validQ (hqQ c id)=true) (hcv:validC c=true) :
  Calls Tryz.prog 28 #[.agg #[.int .i64 2,.int .i64 1,.int .i64 c.op,.string c.key,.string c.val,.int .i64 c.n,.slice a c.kids.length cap,.string id,.int .i64 0,.int .i64 0,.int .i64 0,.string ⟨#[]⟩,.string ⟨#[]⟩,.int .i64 0],.agg #[.slice none 0 0]] w fun e w'=>e=.returned (.int .i64 11)∧Below w.heap.size w w':=by
 have b0:=(Below.refl w.heap.size w).alloc (Nat.le_refl _) (.cells #[.int .i64 2,.int .i64 1,.int .i64 c.op,.string c.key,.string c.val,.int .i64 c.n,.slice a c.kids.length cap,.string id,.int .i64 0,.int .i64 0,.int .i64 0,.string ⟨#[]⟩,.string ⟨#[]⟩,.int .i64 0] 28)
 have b1:=b0.alloc b0.size (.cells #[.slice none 0 0] 62)
 have VQ:=Lib.hid (fun W hc=>validQ2_any (hqQ c id) a cap W hc (by show (0:Int)≤1∧(1:Int)<6;omega) rfl (show id.size≤_ by omega) hcv)
 rw [hv] at VQ
 have VM:=Lib.hid (fun W=>validM0_any W)
 have FN:=Lib.hid (fun W=>find0_any id W)
 have HC1:=Lib.hid (hc.later b1)
 have HB1:=Lib.hid (row_past (o':=.cells #[.slice none 0 0] 62) (row_new w (.cells #[.int .i64 2,.int .i64 1,.int .i64 c.op,.string c.key,.string c.val,.int .i64 c.n,.slice a c.kids.length cap,.string id,.int .i64 0,.int .i64 0,.int .i64 0,.string ⟨#[]⟩,.string ⟨#[]⟩,.int .i64 0] 28)))
 have HD1:=Lib.hid (row_new1 w (.cells #[.int .i64 2,.int .i64 1,.int .i64 c.op,.string c.key,.string c.val,.int .i64 c.n,.slice a c.kids.length cap,.string id,.int .i64 0,.int .i64 0,.int .i64 0,.string ⟨#[]⟩,.string ⟨#[]⟩,.int .i64 0] 28) (.cells #[.slice none 0 0] 62))
 have B1:=Lib.hid b1
 clear hc b0 b1 hv
 go_enter Tryz.func28,Tryz.ntmps28
 go_wp2_with fail
 refine (VQ.out _ HC1.out).mono ?_
 rintro e w2 ⟨rfl,hb⟩
 have HB2:=Lib.hid (row_later hb HB1.out)
 have HD2:=Lib.hid (row_later hb HD1.out)
 have B2:=Lib.hid (below_step B1.out (Nat.le_refl _) hb)
 clear hb
 obtain ⟨dz,d0⟩:=rk1 HD2.out
 go_wp2_with fail
 refine (VM.out _).mono ?_
 rintro e w3 ⟨rfl,hb⟩
 have HB3:=Lib.hid (row_later hb HB2.out)
 have HD3:=Lib.hid (row_later hb HD2.out)
 have B3:=Lib.hid (below_step B2.out (Nat.le_refl _) hb)
 clear hb
 clear d0 dz
 have xz:=lt_of_block HB3.out
 have x0:=cell_of_row w3 _ 0 _ _ _ HB3.out
 have x1:=cell_of_row w3 _ 1 _ _ _ HB3.out
 have x2:=cell_of_row w3 _ 2 _ _ _ HB3.out
 have x3:=cell_of_row w3 _ 3 _ _ _ HB3.out
 have x4:=cell_of_row w3 _ 4 _ _ _ HB3.out
 have x5:=cell_of_row w3 _ 5 _ _ _ HB3.out
 have x6:=cell_of_row w3 _ 6 _ _ _ HB3.out
 have x7:=cell_of_row w3 _ 7 _ _ _ HB3.out
 have x8:=cell_of_row w3 _ 8 _ _ _ HB3.out
 have x9:=cell_of_row w3 _ 9 _ _ _ HB3.out
 have x10:=cell_of_row w3 _ 10 _ _ _ HB3.out
 have x11:=cell_of_row w3 _ 11 _ _ _ HB3.out
 have x12:=cell_of_row w3 _ 12 _ _ _ HB3.out
 have x13:=cell_of_row w3 _ 13 _ _ _ HB3.out
 simp only [List.getElem?_toArray,List.getElem?_cons_zero,List.getElem?_cons_succ] at x0 x1 x2 x3 x4 x5 x6 x7 x8 x9 x10 x11 x12 x13
 obtain ⟨dz,d0⟩:=rk1 HD3.out
 go_wp2_with fail
 refine (FN.out _).mono ?_
 rintro e w4 ⟨rfl,hb⟩
 have HB4:=Lib.hid (row_later hb HB3.out)
 have HD4:=Lib.hid (row_later hb HD3.out)
 have B4:=Lib.hid (below_step B3.out (Nat.le_refl _) hb)
 clear hb
 go_wp2
 go_ret
 exact ⟨rfl,B4.out⟩
set_option maxRecDepth 100000 in
set_option maxHeartbeats 4000000 in
theorem checkR_any (a:Option Addr) (cap:Nat) (w:World) (hc:CondIs w allW a) :
  Calls Tryz.prog 28 #[.agg #[.int .i64 5,.int .i64 2,.int .i64 1,.string ⟨#[]⟩,.string ⟨#[]⟩,.int .i64 0,.slice a 0 cap,.string ⟨#[110,49]⟩,.int .i64 30,.int .i64 0,.int .i64 0,.string ⟨#[]⟩,.string ⟨#[99,97,114]⟩,.int .i64 600],.agg #[.slice none 0 0]] w fun e w'=>e=.returned (.int .i64 8)∧Below w.heap.size w w':=by
 have b0:=(Below.refl w.heap.size w).alloc (Nat.le_refl _) (.cells #[.int .i64 5,.int .i64 2,.int .i64 1,.string ⟨#[]⟩,.string ⟨#[]⟩,.int .i64 0,.slice a 0 cap,.string ⟨#[110,49]⟩,.int .i64 30,.int .i64 0,.int .i64 0,.string ⟨#[]⟩,.string ⟨#[99,97,114]⟩,.int .i64 600] 28)
 have b1:=b0.alloc b0.size (.cells #[.slice none 0 0] 62)
 have VQ:=Lib.hid (fun W hc=>validQ5_any qR a cap W hc (by show (0:Int)≤2∧(2:Int)<6;omega) rfl (by decide) (by decide) (by decide +kernel))
 rw [show validQ qR=true by decide +kernel] at VQ
 have VM:=Lib.hid (fun W=>validM0_any W)
 have HC1:=Lib.hid (hc.later b1)
 have HB1:=Lib.hid (row_past (o':=.cells #[.slice none 0 0] 62) (row_new w (.cells #[.int .i64 5,.int .i64 2,.int .i64 1,.string ⟨#[]⟩,.string ⟨#[]⟩,.int .i64 0,.slice a 0 cap,.string ⟨#[110,49]⟩,.int .i64 30,.int .i64 0,.int .i64 0,.string ⟨#[]⟩,.string ⟨#[99,97,114]⟩,.int .i64 600] 28)))
 have HD1:=Lib.hid (row_new1 w (.cells #[.int .i64 5,.int .i64 2,.int .i64 1,.string ⟨#[]⟩,.string ⟨#[]⟩,.int .i64 0,.slice a 0 cap,.string ⟨#[110,49]⟩,.int .i64 30,.int .i64 0,.int .i64 0,.string ⟨#[]⟩,.string ⟨#[99,97,114]⟩,.int .i64 600] 28) (.cells #[.slice none 0 0] 62))
 have B1:=Lib.hid b1
 clear hc b0 b1
 go_enter Tryz.func28,Tryz.ntmps28
 go_wp2_with fail
 refine (VQ.out _ HC1.out).mono ?_
 rintro e w2 ⟨rfl,hb⟩
 have HB2:=Lib.hid (row_later hb HB1.out)
 have HD2:=Lib.hid (row_later hb HD1.out)
 have B2:=Lib.hid (below_step B1.out (Nat.le_refl _) hb)
 clear hb
 obtain ⟨dz,d0⟩:=rk1 HD2.out
 go_wp2_with fail
 refine (VM.out _).mono ?_
 rintro e w3 ⟨rfl,hb⟩
 have HB3:=Lib.hid (row_later hb HB2.out)
 have HD3:=Lib.hid (row_later hb HD2.out)
 have B3:=Lib.hid (below_step B2.out (Nat.le_refl _) hb)
 clear hb
 clear d0 dz
 have xz:=lt_of_block HB3.out
 have x0:=cell_of_row w3 _ 0 _ _ _ HB3.out
 have x1:=cell_of_row w3 _ 1 _ _ _ HB3.out
 have x2:=cell_of_row w3 _ 2 _ _ _ HB3.out
 have x3:=cell_of_row w3 _ 3 _ _ _ HB3.out
 have x4:=cell_of_row w3 _ 4 _ _ _ HB3.out
 have x5:=cell_of_row w3 _ 5 _ _ _ HB3.out
 have x6:=cell_of_row w3 _ 6 _ _ _ HB3.out
 have x7:=cell_of_row w3 _ 7 _ _ _ HB3.out
 have x8:=cell_of_row w3 _ 8 _ _ _ HB3.out
 have x9:=cell_of_row w3 _ 9 _ _ _ HB3.out
 have x10:=cell_of_row w3 _ 10 _ _ _ HB3.out
 have x11:=cell_of_row w3 _ 11 _ _ _ HB3.out
 have x12:=cell_of_row w3 _ 12 _ _ _ HB3.out
 have x13:=cell_of_row w3 _ 13 _ _ _ HB3.out
 simp only [List.getElem?_toArray,List.getElem?_cons_zero,List.getElem?_cons_succ] at x0 x1 x2 x3 x4 x5 x6 x7 x8 x9 x10 x11 x12 x13
 go_wp2
 go_ret
 exact ⟨rfl,B3.out⟩
end Go.Proofs.YtdfenhjibnfdeaaGreatDoor
