/- Texts of QueryTexts. -/
import Derived.Test.YtdfenhjibnfdeaaGreatDoorQtA
import Derived.Test.YtdfenhjibnfdeaaGreatDoorQtV
import Derived.Test.YtdfenhjibnfdeaaGreatDoorQtI
import Derived.Test.YtdfenhjibnfdeaaGreatDoorQyBf
import Derived.Test.YtdfenhjibnfdeaaGreatDoorQtJ
import Derived.Deep.CutBlock
import Derived.Deep.CutRange
namespace Go.Proofs.YtdfenhjibnfdeaaGreatDoor
open Go.RowKit Go.Shelf
def askV (q:QryD):List Value:=(askPs q).map fun p=>Value.string p.1
def bigT (q:QryD):Bool:=decide (20000<(textQ q).size)
def textR (q:QryD):ByteArray:=if bigT q then ⟨#[]⟩ else textQ q
def textE (q:QryD):Int:=if bigT q then 2 else 0
theorem qn_range {q:QryD} (h:QryV q):0≤q.n∧q.n≤9999999:=by
 rcases h.ask with ⟨-,e⟩ | ⟨-,-,e⟩ | ⟨-,-,h2,-⟩ | ⟨-,h1,-⟩ | ⟨-,-,-,h3,-⟩ | ⟨-,-,e⟩
 ·have:=congrArg QryD.n e;simp only at this;omega
 ·have:=congrArg QryD.n e;simp only at this;omega
 ·omega
 ·omega
 ·omega
 ·have:=congrArg QryD.n e;simp only at this;omega
theorem kindW_get {k:Nat} (h:k<6):kindsW[k]?=some (kindB (k:Int)):=by
 have:k=0∨k=1∨k=2∨k=3∨k=4∨k=5:=by omega
 rcases this with rfl | rfl | rfl | rfl | rfl | rfl<;>rfl
theorem own_new {w0 W:World} {g n:Nat} {cs:List Value} (hg:w0.heap.size≤g) (hW:W.heap[g]?=some (.cells cs.toArray 9)) (hn:cs.length=n) (hm:n≤8):W.ownsRow w0.heap.size 9 1 (.slice (some ⟨g,0,none⟩) n n) n cs :=
 ⟨by rw [hn];omega,.inr ⟨g,n,cs.toArray,rfl,hg,hW,Nat.le_refl _,by unfold maxLen;omega,by simp [hn],by rw [←hn];simp⟩⟩
set_option maxRecDepth 100000 in
set_option maxHeartbeats 16000000 in
theorem text_ok (q:QryD) (a:Option Addr) (cap:Nat) (w:World) (hc:CondIs w q.wher a) (he:Env w) (hv:validQ q=true) (hid:q.id.size≤140737488355328) (hkey:q.key.size≤140737488355328) (hprof:q.prof.size≤140737488355328) :
  Calls Tryz.prog 11 #[qryV q a cap] w fun e w'=>e=.returned (.tuple #[.string (textR q),.int .i64 (textE q)])∧Below w.heap.size w w':=by
 have hV:=valid_parts hv
 have hqn:=qn_range hV
 obtain ⟨kk,hkk⟩:=Int.eq_ofNat_of_zero_le hV.k0
 have hk6:kk<6:=by have:=hV.k6;omega
 have hcv:validC q.wher=true:=by
  unfold validC;rw [decide_eq_true hV.c60,hV.cok];rfl
 obtain ⟨hts,hth⟩:=valid_size hv
 show Calls Tryz.prog 11 #[.agg #[.int .i64 q.ask,.int .i64 q.kind,.int .i64 q.wher.op,.string q.wher.key,.string q.wher.val,.int .i64 q.wher.n,.slice a q.wher.kids.length cap,.string q.id,.int .i64 q.n,.int .i64 q.x,.int .i64 q.y,.string q.key,.string q.prof,.int .i64 q.minute]] w _
 have b1:=(Below.refl w.heap.size w).alloc (Nat.le_refl _) (.cells #[.int .i64 q.ask,.int .i64 q.kind,.int .i64 q.wher.op,.string q.wher.key,.string q.wher.val,.int .i64 q.wher.n,.slice a q.wher.kids.length cap,.string q.id,.int .i64 q.n,.int .i64 q.x,.int .i64 q.y,.string q.key,.string q.prof,.int .i64 q.minute] 28)
 have VQ:=Lib.hid (fun W hc=>validQA_any q a cap W hc hid hkey hprof)
 rw [hv] at VQ
 have IT:=Lib.hid (fun W he=>itoa_below q.n (by omega) (by omega) W he)
 have HC1:=Lib.hid (hc.later b1)
 have HE1:=Lib.hid (he.later b1)
 have HB1:=Lib.hid (row_new w (.cells #[.int .i64 q.ask,.int .i64 q.kind,.int .i64 q.wher.op,.string q.wher.key,.string q.wher.val,.int .i64 q.wher.n,.slice a q.wher.kids.length cap,.string q.id,.int .i64 q.n,.int .i64 q.x,.int .i64 q.y,.string q.key,.string q.prof,.int .i64 q.minute] 28))
 have TX:=Lib.hid (fun W hc he=>textc_any q.wher a cap W hc he hcv (by omega))
 have B1:=Lib.hid b1
 have HV:=Lib.hid hV
 have hmx:Tryz.prog.follows .mixedOrders=true:=by kernel_rfl
 obtain ⟨i0,hi,hi0,hi1,hi2⟩:=info_parts infoStrQ
 have HKK:=Lib.hid hkk
 have HTS:=Lib.hid hts
 have HTH:=Lib.hid hth
 have HQN:=Lib.hid hqn
 clear hc he b1 hv hV hcv hid hkey hprof hkk hts hth hqn
 go_enter Tryz.func11,Tryz.ntmps11
 go_wp2_with fail
 refine (VQ.out _ HC1.out).mono ?_
 rintro e w2 ⟨rfl,hb2⟩
 have HB2:=Lib.hid (row_later hb2 HB1.out)
 have HC2:=Lib.hid (HC1.out.later hb2)
 have HE2:=Lib.hid (HE1.out.later hb2)
 have B2:=Lib.hid (below_step B1.out (Nat.le_refl _) hb2)
 clear hb2 VQ
 have xz:=lt_of_block HB2.out
 have x0:=cell_of_row w2 _ 0 _ _ _ HB2.out
 have x1:=cell_of_row w2 _ 1 _ _ _ HB2.out
 have x2:=cell_of_row w2 _ 2 _ _ _ HB2.out
 have x3:=cell_of_row w2 _ 3 _ _ _ HB2.out
 have x4:=cell_of_row w2 _ 4 _ _ _ HB2.out
 have x5:=cell_of_row w2 _ 5 _ _ _ HB2.out
 have x6:=cell_of_row w2 _ 6 _ _ _ HB2.out
 have x7:=cell_of_row w2 _ 7 _ _ _ HB2.out
 have x8:=cell_of_row w2 _ 8 _ _ _ HB2.out
 have x9:=cell_of_row w2 _ 9 _ _ _ HB2.out
 have x10:=cell_of_row w2 _ 10 _ _ _ HB2.out
 have x11:=cell_of_row w2 _ 11 _ _ _ HB2.out
 have x12:=cell_of_row w2 _ 12 _ _ _ HB2.out
 have x13:=cell_of_row w2 _ 13 _ _ _ HB2.out
 simp only [List.getElem?_toArray,List.getElem?_cons_zero,List.getElem?_cons_succ] at x0 x1 x2 x3 x4 x5 x6 x7 x8 x9 x10 x11 x12 x13
 go_wp2_with fail
 refine (IT.out _ HE2.out).mono ?_
 rintro e w3 ⟨rfl,hb3⟩
 have HB3:=Lib.hid (row_later hb3 HB2.out)
 have HC3:=Lib.hid (HC2.out.later hb3)
 have HE3:=Lib.hid (HE2.out.later hb3)
 have B3:=Lib.hid (below_step B2.out (Nat.le_refl _) hb3)
 clear hb3 IT
 clear x0 x1 x2 x3 x4 x5 x6 x7 x8 x9 x10 x11 x12 x13 xz
 have b34:=(Below.refl w3.heap.size w3).alloc (Nat.le_refl _) (.cells #[.string ⟨#[97,108,108]⟩] 9)
 have HB4:=Lib.hid (row_later b34 HB3.out)
 have r34:=row_new w3 (.cells #[.string ⟨#[97,108,108]⟩] 9)
 have yz:=lt_of_block HB3.out
 have y0:=cell_of_row w3 _ 0 _ _ _ HB3.out
 have y1:=cell_of_row w3 _ 1 _ _ _ HB3.out
 have y2:=cell_of_row w3 _ 2 _ _ _ HB3.out
 have y3:=cell_of_row w3 _ 3 _ _ _ HB3.out
 have y4:=cell_of_row w3 _ 4 _ _ _ HB3.out
 have y5:=cell_of_row w3 _ 5 _ _ _ HB3.out
 have y6:=cell_of_row w3 _ 6 _ _ _ HB3.out
 have y7:=cell_of_row w3 _ 7 _ _ _ HB3.out
 have y8:=cell_of_row w3 _ 8 _ _ _ HB3.out
 have y9:=cell_of_row w3 _ 9 _ _ _ HB3.out
 have y10:=cell_of_row w3 _ 10 _ _ _ HB3.out
 have y11:=cell_of_row w3 _ 11 _ _ _ HB3.out
 have y12:=cell_of_row w3 _ 12 _ _ _ HB3.out
 have y13:=cell_of_row w3 _ 13 _ _ _ HB3.out
 simp only [List.getElem?_toArray,List.getElem?_cons_zero,List.getElem?_cons_succ] at y0 y1 y2 y3 y4 y5 y6 y7 y8 y9 y10 y11 y12 y13
 have x0:=cell_later b34 y0
 have x1:=cell_later b34 y1
 have x2:=cell_later b34 y2
 have x3:=cell_later b34 y3
 have x4:=cell_later b34 y4
 have x5:=cell_later b34 y5
 have x6:=cell_later b34 y6
 have x7:=cell_later b34 y7
 have x8:=cell_later b34 y8
 have x9:=cell_later b34 y9
 have x10:=cell_later b34 y10
 have x11:=cell_later b34 y11
 have x12:=cell_later b34 y12
 have x13:=cell_later b34 y13
 clear y0 y1 y2 y3 y4 y5 y6 y7 y8 y9 y10 y11 y12 y13 yz
 go_upto_block 0 with fail
 go_cut [5] from 16 (fun v5 wx=>wx.ownsRow w3.heap.size 9 1 v5 (askPs q).length (askV q)∧Below w3.heap.size w3 wx)
 case first =>
  obtain ⟨w4,hw4⟩:∃z,w3.alloc (.cells #[.string ⟨#[97,108,108]⟩] 9)=z:=⟨_,rfl⟩
  rw [hw4] at b34 r34 HB4 x0 x1 x2 x3 x4 x5 x6 x7 x8 x9 x10 x11 x12 x13
  rcases HV.out.ask with ⟨e,-⟩ | ⟨e,-⟩ | ⟨e,-⟩ | ⟨e,-,h2,h3,-⟩ | ⟨e,-,-,-,h4,-⟩ | ⟨e,-⟩
  ·have HA:askV q=[.string ⟨#[97,108,108]⟩]:=by unfold askV askPs;rw [e];rfl
   have HN:(askPs q).length=1:=by unfold askPs;rw [e];rfl
   have z2:(q.ask==2)=false:=by rw [e];decide
   have z3:(q.ask==3)=false:=by rw [e];decide
   have z4:(q.ask==4)=false:=by rw [e];decide
   have z5:(q.ask==5)=false:=by rw [e];decide
   have z6:(q.ask==6)=false:=by rw [e];decide
   rw [hw4]
   clear hw4 HB4 e
   go_wp2
   go_meet
   case rel=>exact ⟨by rw [HA,HN];exact own_new (cs:=[.string ⟨#[97,108,108]⟩]) (Nat.le_refl _) r34 rfl (by decide),b34⟩
  ·have HA:askV q=[.string ⟨#[105,110,115,105,100,101]⟩,.string q.id]:=by unfold askV askPs;rw [e];rfl
   have HN:(askPs q).length=2:=by unfold askPs;rw [e];rfl
   have z2:(q.ask==2)=true:=by rw [e];decide
   have r5:=row_new w4 (.cells #[.string ⟨#[105,110,115,105,100,101]⟩,.string q.id] 9)
   have hs4:=b34.size
   have b5:=b34.alloc hs4 (.cells #[.string ⟨#[105,110,115,105,100,101]⟩,.string q.id] 9)
   rw [hw4]
   clear hw4 HB4 e r34
   go_wp2
   go_meet
   case rel=>exact ⟨by rw [HA,HN];exact own_new (cs:=[.string ⟨#[105,110,115,105,100,101]⟩,.string q.id]) hs4 r5 rfl (by decide),b5⟩
  ·have HA:askV q=[.string ⟨#[97,108,111,110,103]⟩,.string q.id,.string ⟨#[98,121]⟩,.string (itoaB q.n)]:=by unfold askV askPs;rw [e];rfl
   have HN:(askPs q).length=4:=by unfold askPs;rw [e];rfl
   have z2:(q.ask==2)=false:=by rw [e];decide
   have z3:(q.ask==3)=true:=by rw [e];decide
   have r5:=row_new w4 (.cells #[.string ⟨#[97,108,111,110,103]⟩,.string q.id,.string ⟨#[98,121]⟩,.string (itoaB q.n)] 9)
   have hs4:=b34.size
   have b5:=b34.alloc hs4 (.cells #[.string ⟨#[97,108,111,110,103]⟩,.string q.id,.string ⟨#[98,121]⟩,.string (itoaB q.n)] 9)
   rw [hw4]
   clear hw4 HB4 e r34
   go_wp2
   go_meet
   case rel=>exact ⟨by rw [HA,HN];exact own_new (cs:=[.string ⟨#[97,108,111,110,103]⟩,.string q.id,.string ⟨#[98,121]⟩,.string (itoaB q.n)]) hs4 r5 rfl (by decide),b5⟩
  ·have HA:askV q=[.string ⟨#[110,101,97,114,101,115,116]⟩,.string (itoaB q.n),.string ⟨#[116,111]⟩,.string (itoaB q.x),.string (itoaB q.y)]:=by unfold askV askPs;rw [e];rfl
   have HN:(askPs q).length=5:=by unfold askPs;rw [e];rfl
   have z2:(q.ask==2)=false:=by rw [e];decide
   have z3:(q.ask==3)=false:=by rw [e];decide
   have z4:(q.ask==4)=true:=by rw [e];decide
   have IX:=Lib.hid (fun W he=>itoa_below q.x (by omega) (by omega) W he)
   have IY:=Lib.hid (fun W he=>itoa_below q.y (by omega) (by omega) W he)
   have hs4:=b34.size
   have HE4:=Lib.hid (HE3.out.later b34)
   rw [hw4]
   clear hw4 e r34 x0 x1 x2 x3 x4 x5 x6 x7 x8 x9 x10 x11 x12 x13
   go_wp2
   refine wp_region_mix 9 (fun W=>Below w4.heap.size w4 W) (fun W=>Below w4.heap.size w4 W) hmx (by kernel_rfl) (by kernel_rfl) (by kernel_rfl) (StableW.below _ _ (Nat.le_refl _)) (fun W hW=>hW) (Below.refl _ _).drew ?_
   apply Exists.intro
   refine ⟨fun W hW=>?_,?_⟩
   ·have HXW:=row_later hW HB4.out
    have HEW:=Lib.hid (HE4.out.later hW)
    clear hW
    have xz:=lt_of_block HXW
    have x0:=cell_of_row W _ 0 _ _ _ HXW
    have x1:=cell_of_row W _ 1 _ _ _ HXW
    have x2:=cell_of_row W _ 2 _ _ _ HXW
    have x3:=cell_of_row W _ 3 _ _ _ HXW
    have x4:=cell_of_row W _ 4 _ _ _ HXW
    have x5:=cell_of_row W _ 5 _ _ _ HXW
    have x6:=cell_of_row W _ 6 _ _ _ HXW
    have x7:=cell_of_row W _ 7 _ _ _ HXW
    have x8:=cell_of_row W _ 8 _ _ _ HXW
    have x9:=cell_of_row W _ 9 _ _ _ HXW
    have x10:=cell_of_row W _ 10 _ _ _ HXW
    have x11:=cell_of_row W _ 11 _ _ _ HXW
    have x12:=cell_of_row W _ 12 _ _ _ HXW
    have x13:=cell_of_row W _ 13 _ _ _ HXW
    simp only [List.getElem?_toArray,List.getElem?_cons_zero,List.getElem?_cons_succ] at x0 x1 x2 x3 x4 x5 x6 x7 x8 x9 x10 x11 x12 x13
    have HXW':=Lib.hid HXW
    clear HXW
    have d0:=cell_belowBy x0
    have d1:=cell_belowBy x1
    have d2:=cell_belowBy x2
    have d3:=cell_belowBy x3
    have d4:=cell_belowBy x4
    have d5:=cell_belowBy x5
    have d6:=cell_belowBy x6
    have d7:=cell_belowBy x7
    have d8:=cell_belowBy x8
    have d9:=cell_belowBy x9
    have d10:=cell_belowBy x10
    have d11:=cell_belowBy x11
    have d12:=cell_belowBy x12
    have d13:=cell_belowBy x13
    clear x0 x1 x2 x3 x4 x5 x6 x7 x8 x9 x10 x11 x12 x13
    simp only [List.take_succ_cons,List.take_zero]
    repeat (go_big_quiet_step (first | (go_at_call 30;first | with_reducible exact calls_belowBy (IX.out _ (HEW.out.later (BelowBy.below _))) | with_reducible exact calls_belowBy (IY.out _ (HEW.out.later (BelowBy.below _))))))
    exact wpQuiet_nil rfl
   ·simp only [List.drop_succ_cons,List.drop_zero]
    refine tailM_step (ι:=Nat) (fun g=>.slice (some ⟨g,0,none⟩) 5 5) (fun g W=>Below w4.heap.size w4 W∧(W.heap[g]?=some (.cells #[.string ⟨#[110,101,97,114,101,115,116]⟩,.string (itoaB q.n),.string ⟨#[116,111]⟩,.string (itoaB q.x),.string (itoaB q.y)] 9)∧w4.heap.size≤g)) rfl (fun g=>(StableW.below _ _ (Nat.le_refl _)).and ((StableW.row _ _).and (StableW.const _))) (fun _ _ h=>h.1) (fun W hS K hK=>?_) (fun g=>?_)
    ·go_simp
     exact hK W.heap.size _ ⟨hS.alloc hS.size _,row_new _ _,hS.size⟩
    simp only [Act.put,List.setIfInBounds_toArray,List.set_cons_succ,List.set_cons_zero]
    refine tailM_pure (.slice (some ⟨g,0,none⟩) 5 5) rfl ((StableW.below _ _ (Nat.le_refl _)).and ((StableW.row _ _).and (StableW.const _))) (fun _ h=>h.1) (fun W hS K hK=>?_) (tailM_nil fun W hW=>?_)
    ·go_simp
     exact hK
    obtain ⟨hW1,hWg,hgl⟩:=hW
    simp only [Act.put,List.setIfInBounds_toArray,List.set_cons_succ,List.set_cons_zero]
    go_wp2
    go_meet
    case rel=>exact ⟨by rw [HA,HN];exact own_new (cs:=[.string ⟨#[110,101,97,114,101,115,116]⟩,.string (itoaB q.n),.string ⟨#[116,111]⟩,.string (itoaB q.x),.string (itoaB q.y)]) (Nat.le_trans hs4 hgl) hWg rfl (by decide),below_step b34 (Nat.le_refl _) hW1⟩
  ·have HA:askV q=[.string ⟨#[114,101,97,99,104]⟩,.string q.id,.string ⟨#[105,110]⟩,.string (itoaB q.n),.string ⟨#[98,121]⟩,.string q.prof,.string ⟨#[97,116]⟩,.string (itoaB q.minute)]:=by unfold askV askPs;rw [e];rfl
   have HN:(askPs q).length=8:=by unfold askPs;rw [e];rfl
   have z2:(q.ask==2)=false:=by rw [e];decide
   have z3:(q.ask==3)=false:=by rw [e];decide
   have z4:(q.ask==4)=false:=by rw [e];decide
   have z5:(q.ask==5)=true:=by rw [e];decide
   have IM:=Lib.hid (fun W he=>itoa_below q.minute (by omega) (by omega) W he)
   have hs4:=b34.size
   have HE4:=Lib.hid (HE3.out.later b34)
   rw [hw4]
   clear hw4 e r34 x0 x1 x2 x3 x4 x5 x6 x7 x8 x9 x10 x11 x12 x13
   go_wp2
   refine wp_region_mix 8 (fun W=>Below w4.heap.size w4 W) (fun W=>Below w4.heap.size w4 W) hmx (by kernel_rfl) (by kernel_rfl) (by kernel_rfl) (StableW.below _ _ (Nat.le_refl _)) (fun W hW=>hW) (Below.refl _ _).drew ?_
   apply Exists.intro
   refine ⟨fun W hW=>?_,?_⟩
   ·have HXW:=row_later hW HB4.out
    have HEW:=Lib.hid (HE4.out.later hW)
    clear hW
    have xz:=lt_of_block HXW
    have x0:=cell_of_row W _ 0 _ _ _ HXW
    have x1:=cell_of_row W _ 1 _ _ _ HXW
    have x2:=cell_of_row W _ 2 _ _ _ HXW
    have x3:=cell_of_row W _ 3 _ _ _ HXW
    have x4:=cell_of_row W _ 4 _ _ _ HXW
    have x5:=cell_of_row W _ 5 _ _ _ HXW
    have x6:=cell_of_row W _ 6 _ _ _ HXW
    have x7:=cell_of_row W _ 7 _ _ _ HXW
    have x8:=cell_of_row W _ 8 _ _ _ HXW
    have x9:=cell_of_row W _ 9 _ _ _ HXW
    have x10:=cell_of_row W _ 10 _ _ _ HXW
    have x11:=cell_of_row W _ 11 _ _ _ HXW
    have x12:=cell_of_row W _ 12 _ _ _ HXW
    have x13:=cell_of_row W _ 13 _ _ _ HXW
    simp only [List.getElem?_toArray,List.getElem?_cons_zero,List.getElem?_cons_succ] at x0 x1 x2 x3 x4 x5 x6 x7 x8 x9 x10 x11 x12 x13
    have HXW':=Lib.hid HXW
    clear HXW
    have d0:=cell_belowBy x0
    have d1:=cell_belowBy x1
    have d2:=cell_belowBy x2
    have d3:=cell_belowBy x3
    have d4:=cell_belowBy x4
    have d5:=cell_belowBy x5
    have d6:=cell_belowBy x6
    have d7:=cell_belowBy x7
    have d8:=cell_belowBy x8
    have d9:=cell_belowBy x9
    have d10:=cell_belowBy x10
    have d11:=cell_belowBy x11
    have d12:=cell_belowBy x12
    have d13:=cell_belowBy x13
    clear x0 x1 x2 x3 x4 x5 x6 x7 x8 x9 x10 x11 x12 x13
    simp only [List.take_succ_cons,List.take_zero]
    repeat (go_big_quiet_step (first | (go_at_call 30;first | with_reducible exact calls_belowBy (IM.out _ (HEW.out.later (BelowBy.below _))))))
    exact wpQuiet_nil rfl
   ·simp only [List.drop_succ_cons,List.drop_zero]
    refine tailM_step (ι:=Nat) (fun g=>.slice (some ⟨g,0,none⟩) 8 8) (fun g W=>Below w4.heap.size w4 W∧(W.heap[g]?=some (.cells #[.string ⟨#[114,101,97,99,104]⟩,.string q.id,.string ⟨#[105,110]⟩,.string (itoaB q.n),.string ⟨#[98,121]⟩,.string q.prof,.string ⟨#[97,116]⟩,.string (itoaB q.minute)] 9)∧w4.heap.size≤g)) rfl (fun g=>(StableW.below _ _ (Nat.le_refl _)).and ((StableW.row _ _).and (StableW.const _))) (fun _ _ h=>h.1) (fun W hS K hK=>?_) (fun g=>?_)
    ·go_simp
     exact hK W.heap.size _ ⟨hS.alloc hS.size _,row_new _ _,hS.size⟩
    simp only [Act.put,List.setIfInBounds_toArray,List.set_cons_succ,List.set_cons_zero]
    refine tailM_pure (.slice (some ⟨g,0,none⟩) 8 8) rfl ((StableW.below _ _ (Nat.le_refl _)).and ((StableW.row _ _).and (StableW.const _))) (fun _ h=>h.1) (fun W hS K hK=>?_) (tailM_nil fun W hW=>?_)
    ·go_simp
     exact hK
    obtain ⟨hW1,hWg,hgl⟩:=hW
    simp only [Act.put,List.setIfInBounds_toArray,List.set_cons_succ,List.set_cons_zero]
    go_wp2
    go_meet
    case rel=>exact ⟨by rw [HA,HN];exact own_new (cs:=[.string ⟨#[114,101,97,99,104]⟩,.string q.id,.string ⟨#[105,110]⟩,.string (itoaB q.n),.string ⟨#[98,121]⟩,.string q.prof,.string ⟨#[97,116]⟩,.string (itoaB q.minute)]) (Nat.le_trans hs4 hgl) hWg rfl (by decide),below_step b34 (Nat.le_refl _) hW1⟩
  ·have HA:askV q=[.string ⟨#[99,111,117,110,116]⟩,.string q.key]:=by unfold askV askPs;rw [e];rfl
   have HN:(askPs q).length=2:=by unfold askPs;rw [e];rfl
   have z2:(q.ask==2)=false:=by rw [e];decide
   have z3:(q.ask==3)=false:=by rw [e];decide
   have z4:(q.ask==4)=false:=by rw [e];decide
   have z5:(q.ask==5)=false:=by rw [e];decide
   have z6:(q.ask==6)=true:=by rw [e];decide
   have r5:=row_new w4 (.cells #[.string ⟨#[99,111,117,110,116]⟩,.string q.key] 9)
   have hs4:=b34.size
   have b5:=b34.alloc hs4 (.cells #[.string ⟨#[99,111,117,110,116]⟩,.string q.key] 9)
   rw [hw4]
   clear hw4 HB4 e r34
   go_wp2
   go_meet
   case rel=>exact ⟨by rw [HA,HN];exact own_new (cs:=[.string ⟨#[99,111,117,110,116]⟩,.string q.key]) hs4 r5 rfl (by decide),b5⟩
 case rest =>
  obtain ⟨hox,hbx⟩:=hcut
  have HKV:=Lib.hid (show q.kind=(kk:Int) from HKK.out)
  have HN:=Lib.hid (show (askPs q).length≤8∧0<(askPs q).length by
   have:=HV.out.ask
   unfold askPs
   constructor
   ·repeat (split;· simp)
    simp
   ·repeat (split;· simp)
    simp)
  obtain ⟨NN,hNN⟩:∃n,(askPs q).length=n:=⟨_,rfl⟩
  obtain ⟨XS,hXS⟩:∃l,askV q=l:=⟨_,rfl⟩
  rw [hNN,hXS] at hox
  rw [hNN] at HN
  have hn8:=HN.out.1
  have hn0:=HN.out.2
  have HXS:=Lib.hid hXS
  have HNN:=Lib.hid hNN
  clear hXS hNN
  go_upto_region 16 with fail
  go_cut [5] from 55 (fun v5 wx=>wx.ownsRow w3.heap.size 9 1 v5 (NN+1) (XS++[.string (kindB q.kind)])∧Below w3.heap.size w3 wx)
  case first =>
   refine wp_region_nodes 1 8 (fun W=>Below w3.heap.size w3 W) (fun W=>Below w3.heap.size w3 W∧W.ownsRow w3.heap.size 9 1 u5 NN XS) hmx (by kernel_rfl) (by kernel_rfl) (by kernel_rfl) ((StableW.below _ _ (Nat.le_refl _)).and (StableW.owns _ _ _ _ _ _)) (fun _ h=>h.1) ⟨hbx.drew,hox.drew⟩ (by kernel_rfl) ?_
   apply Exists.intro
   refine ⟨fun W hW=>?_,?_⟩
   ·clear hW
    simp only [List.take_succ_cons,List.take_zero]
    repeat (go_big_quiet_step (fail))
    exact wpQuiet_nil rfl
   refine any_quiet 2 (.pointer (some ⟨w.heap.size,1,none⟩)) ((StableW.below _ _ (Nat.le_refl _)).and (StableW.owns _ _ _ _ _ _)) (fun _ h=>h.1) rfl (by kernel_rfl) (by kernel_rfl) (by kernel_rfl) rfl (QuietB.at' fun W _=>(by go_simp)) ?_
   simp only [Act.put,List.getElem_toArray,List.getElem_cons_succ,List.getElem_cons_zero,List.setIfInBounds_toArray,List.set_cons_succ,List.set_cons_zero]
   refine any_quiet 3 (.int .i64 (kk:Int)) ((StableW.below _ _ (Nat.le_refl _)).and (StableW.owns _ _ _ _ _ _)) (fun _ h=>h.1) rfl (by kernel_rfl) (by kernel_rfl) (by kernel_rfl) rfl (QuietB.at' fun W hS=>(by
    have HW:=Lib.hid (row_later hS HB3.out)
    have yz:=lt_of_block HW.out
    have y0:=cell_of_row W _ 0 _ _ _ HW.out
    have y1:=cell_of_row W _ 1 _ _ _ HW.out
    have y2:=cell_of_row W _ 2 _ _ _ HW.out
    have y3:=cell_of_row W _ 3 _ _ _ HW.out
    have y4:=cell_of_row W _ 4 _ _ _ HW.out
    have y5:=cell_of_row W _ 5 _ _ _ HW.out
    have y6:=cell_of_row W _ 6 _ _ _ HW.out
    have y7:=cell_of_row W _ 7 _ _ _ HW.out
    have y8:=cell_of_row W _ 8 _ _ _ HW.out
    have y9:=cell_of_row W _ 9 _ _ _ HW.out
    have y10:=cell_of_row W _ 10 _ _ _ HW.out
    have y11:=cell_of_row W _ 11 _ _ _ HW.out
    have y12:=cell_of_row W _ 12 _ _ _ HW.out
    have y13:=cell_of_row W _ 13 _ _ _ HW.out
    simp only [List.getElem?_toArray,List.getElem?_cons_zero,List.getElem?_cons_succ] at y0 y1 y2 y3 y4 y5 y6 y7 y8 y9 y10 y11 y12 y13
    rw [HKV.out] at y1
    go_simp)) ?_
   simp only [Act.put,List.getElem_toArray,List.getElem_cons_succ,List.getElem_cons_zero,List.setIfInBounds_toArray,List.set_cons_succ,List.set_cons_zero]
   refine any_one 1 (by kernel_rfl) rfl rfl ?_
   refine LoudB.mk' (ι:=Nat) (fun g=>.slice (some ⟨g,0,none⟩) 6 6) (fun g=>fun W=>(Below w3.heap.size w3 W∧W.ownsRow w3.heap.size 9 1 u5 NN XS)∧StrRow W (.slice (some ⟨g,0,none⟩) 6 6) kindsW) (fun g=>((StableW.below _ _ (Nat.le_refl _)).and (StableW.owns _ _ _ _ _ _)).and (StrRow.stable _ _)) (fun _ W d=>d.1.1) (fun W hS K' hK'=>?_) (fun g=>?_)
   ·go_simp
    refine (words_any W).mono ?_
    rintro e w5 ⟨rfl,hs5,hb5⟩
    exact hK' W.heap.size _ ⟨⟨below_step hS.1 (Nat.le_refl _) hb5,own_laterL hS.2 hb5⟩,hs5⟩
   simp only [Act.put,List.getElem_toArray,List.getElem_cons_succ,List.getElem_cons_zero,List.setIfInBounds_toArray,List.set_cons_succ,List.set_cons_zero]
   refine any_one 4 (by kernel_rfl) rfl rfl ?_
   refine LoudB.mk' (ι:=Unit) (fun _=>.pointer (some ⟨g,kk,none⟩)) (fun _=>fun W=>(Below w3.heap.size w3 W∧W.ownsRow w3.heap.size 9 1 u5 NN XS)∧StrRow W (.slice (some ⟨g,0,none⟩) 6 6) kindsW) (fun _=>((StableW.below _ _ (Nat.le_refl _)).and (StableW.owns _ _ _ _ _ _)).and (StrRow.stable _ _)) (fun _ W d=>d.1.1) (fun W hS K' hK'=>?_) (fun _=>?_)
   ·go_simp
    rw [if_pos (show (kk:Int)<6 by omega)]
    exact hK' () _ hS
   simp only [Act.put,List.getElem_toArray,List.getElem_cons_succ,List.getElem_cons_zero,List.setIfInBounds_toArray,List.set_cons_succ,List.set_cons_zero]
   refine any_one 5 (by kernel_rfl) rfl rfl ?_
   refine LoudB.mk' (ι:=Unit) (fun _=>.string (kindB q.kind)) (fun _=>fun W=>(Below w3.heap.size w3 W∧W.ownsRow w3.heap.size 9 1 u5 NN XS)) (fun _=>((StableW.below _ _ (Nat.le_refl _)).and (StableW.owns _ _ _ _ _ _))) (fun _ W d=>d.1) (fun W hS K' hK'=>?_) (fun _=>?_)
   ·obtain ⟨hS1,hS2⟩:=hS
    have c1:W.cell? ⟨g,kk,none⟩=some (.string (kindB q.kind)):=by
     obtain ⟨a9,c9,e9,-,-,h9⟩:=hS2
     obtain ⟨b9,o9,ea,h9⟩:=h9 (by decide)
     injection e9 with e9
     have e9:=e9.trans ea
     injection e9 with e9
     injection e9 with e9 e10
     have:=h9 kk (kindB q.kind) (by rw [HKV.out];exact kindW_get hk6)
     rw [←e9,←e10] at this
     simpa using this
    clear hS2
    go_simp
    exact hK' () _ hS1
   simp only [Act.put,List.getElem_toArray,List.getElem_cons_succ,List.getElem_cons_zero,List.setIfInBounds_toArray,List.set_cons_succ,List.set_cons_zero]
   refine any_one 6 (by kernel_rfl) rfl rfl ?_
   refine LoudB.mk' (ι:=Nat) (fun g2=>.slice (some ⟨g2,0,none⟩) 1 1) (fun g2=>fun W=>(Below w3.heap.size w3 W∧W.ownsRow w3.heap.size 9 1 u5 NN XS)∧W.heap[g2]?=some (.cells #[.string (kindB q.kind)] 9)) (fun g2=>((StableW.below _ _ (Nat.le_refl _)).and (StableW.owns _ _ _ _ _ _)).and (StableW.row _ _)) (fun _ W d=>d.1.1) (fun W hS K' hK'=>?_) (fun g2=>?_)
   ·have h2:=((StableW.below _ _ (Nat.le_refl _)).and (StableW.owns _ _ _ _ _ _)) _ _ hS ((Below.refl W.heap.size W).alloc (Nat.le_refl _) (.cells #[.string (kindB q.kind)] 9))
    clear hS
    go_simp
    exact hK' W.heap.size _ ⟨h2,row_new _ _⟩
   simp only [Act.put,List.getElem_toArray,List.getElem_cons_succ,List.getElem_cons_zero,List.setIfInBounds_toArray,List.set_cons_succ,List.set_cons_zero]
   refine any_one 7 (by kernel_rfl) rfl rfl ?_
   refine LoudB.mk' (ι:=Value) (fun v'=>v') (fun v'=>fun W=>Below w3.heap.size w3 W∧W.ownsRow w3.heap.size 9 1 v' (NN+1) (XS++[.string (kindB q.kind)])) (fun v'=>((StableW.below _ _ (Nat.le_refl _)).and (StableW.owns _ _ _ _ _ _))) (fun _ W d=>d.1) (fun W hS K' hK'=>?_) (fun v'=>?_)
   ·obtain ⟨⟨hS1,hS2⟩,hS3⟩:=hS
    refine wp_append_own _ _ _ 47 rfl w3.heap.size 9 i0 (.string ⟨#[]⟩) 1 16 Tryz.underlying47 hi hi0 hi1 hi2 rfl (by decide) _ _ _ rfl hS2 ⟨g2,0,none⟩ 1 1 [.string (kindB q.kind)] rfl rfl (cells_rowQ hS3) (one_str _) (by unfold maxLen;omega) (by omega) hS1.size ?_
    intro v' w9 hown2 hgrow _
    exact hK' v' w9 ⟨hS1.grown hgrow hS1.size (fun j ej=>(hS2.lt j ej).1),hown2⟩
   simp only [Act.put,List.getElem_toArray,List.getElem_cons_succ,List.getElem_cons_zero,List.setIfInBounds_toArray,List.set_cons_succ,List.set_cons_zero]
   refine any_one 8 (by kernel_rfl) rfl rfl ?_
   refine LoudB.mk' (ι:=Unit) (fun _=>v') (fun _=>fun W=>Below w3.heap.size w3 W∧W.ownsRow w3.heap.size 9 1 v' (NN+1) (XS++[.string (kindB q.kind)])) (fun _=>((StableW.below _ _ (Nat.le_refl _)).and (StableW.owns _ _ _ _ _ _))) (fun _ W d=>d.1) (fun W hS K' hK'=>?_) (fun _=>?_)
   ·go_simp
    exact hK' () _ hS
   simp only [Act.put,List.getElem_toArray,List.getElem_cons_succ,List.getElem_cons_zero,List.setIfInBounds_toArray,List.set_cons_succ,List.set_cons_zero]
   refine any_end (by kernel_rfl) fun w5 hw5=>?_
   obtain ⟨hb5,ho5⟩:=hw5
   go_wp2
   go_meet
   case rel=>exact ⟨ho5,hb5⟩
  case rest =>
  obtain ⟨ho5,hb5⟩:=hcut
  have HO5:=Lib.hid ho5
  have B5:=Lib.hid (below_step B3.out (Nat.le_refl _) hb5)
  have HB5:=Lib.hid (row_later hb5 HB3.out)
  have HC5:=Lib.hid (HC3.out.later hb5)
  have HE5:=Lib.hid (HE3.out.later hb5)
  have hz5':=hb5.size
  have hz3:=B3.out.size
  clear hb5 ho5
  have mz:=lt_of_block HB5.out
  have m0:=cell_of_row wc _ 0 _ _ _ HB5.out
  have m1:=cell_of_row wc _ 1 _ _ _ HB5.out
  have m2:=cell_of_row wc _ 2 _ _ _ HB5.out
  have m3:=cell_of_row wc _ 3 _ _ _ HB5.out
  have m4:=cell_of_row wc _ 4 _ _ _ HB5.out
  have m5:=cell_of_row wc _ 5 _ _ _ HB5.out
  have m6:=cell_of_row wc _ 6 _ _ _ HB5.out
  have m7:=cell_of_row wc _ 7 _ _ _ HB5.out
  have m8:=cell_of_row wc _ 8 _ _ _ HB5.out
  have m9:=cell_of_row wc _ 9 _ _ _ HB5.out
  have m10:=cell_of_row wc _ 10 _ _ _ HB5.out
  have m11:=cell_of_row wc _ 11 _ _ _ HB5.out
  have m12:=cell_of_row wc _ 12 _ _ _ HB5.out
  have m13:=cell_of_row wc _ 13 _ _ _ HB5.out
  simp only [List.getElem?_toArray,List.getElem?_cons_zero,List.getElem?_cons_succ] at m0 m1 m2 m3 m4 m5 m6 m7 m8 m9 m10 m11 m12 m13
  by_cases hop:q.wher.op=1
  ·have xo:(q.wher.op != 1)=false:=by rw [bne_eq_false_iff_eq];exact hop
   have HLS:=Lib.hid (show XS++[.string (kindB q.kind)]=(textL q).map Value.string by
    rw [textL,if_pos hop,←HXS.out,List.map_append,askV,List.map_map];rfl)
   have HLL:=Lib.hid (show (textL q).length=NN+1 by rw [textL,if_pos hop,←HNN.out];simp)
   have HO9:=HO5
   have B9:=B5
   clear hop
   go_wp2_with fail
   obtain ⟨g,cap2,rfl,hg1,hg2⟩:=own_slice HO9.out (by omega)
   have hc9:=World.ownsRow.cells HO9.out (g:=g) rfl
   have J:=Lib.hid (Tryz.strings_Join g 0 cap2 (textL q) ⟨#[32]⟩ wc (fun j x hx=>by
    have:=hc9 j (.string x) (by rw [HLS.out,List.getElem?_map,hx];rfl)
    rwa [Addr.add_lit] at this) hg2 (by rw [HLL.out];omega) (by rw [HLL.out];exact own_cap HO9.out) (by
     have h1:=HTH.out
     rw [textQ,joinB_size] at h1;omega))
   rw [HLL.out] at J
   have HRS:=Lib.hid (show (⟨(Lib.join ((textL q).map (·.data.toList)) (⟨#[32]⟩:ByteArray).data.toList).toArray⟩:ByteArray)=textQ q from rfl)
   obtain ⟨RES,hRES⟩:∃z,textQ q=z:=⟨_,rfl⟩
   have HR1:=Lib.hid (show textR q=if decide (20000<RES.size) then ⟨#[]⟩ else RES by rw [←hRES];rfl)
   have HR2:=Lib.hid (show textE q=if decide (20000<RES.size) then 2 else 0 by rw [←hRES];rfl)
   rw [hRES] at HRS
   clear hRES hc9 HO9
   go_wp2_with fail
   refine J.out.mono ?_
   rintro e w10 ⟨he10,hb10⟩
   have he11:=he10.trans (congrArg (fun s=>Ending.returned (.string s)) HRS.out)
   subst he11
   have B10:=Lib.hid (below_step B9.out (Nat.le_refl _) hb10)
   clear he10 hb10 J
   by_cases hbig:20000<RES.size
   ·have hlt:decide ((20000:Int)<(RES.size:Int))=true:=decide_eq_true (by omega)
    have e1:=HR1.out
    have e2:=HR2.out
    rw [if_pos (decide_eq_true hbig)] at e1 e2
    clear hbig
    go_wp2
    refine bodyPost_ret (v:=.tuple #[.string ⟨#[]⟩,.int .i64 2]) ?_ rfl ⟨by rw [e1,e2],B10.out⟩
    simp [results,Tryz.results11,go_sem]
   ·have hlt:decide ((20000:Int)<(RES.size:Int))=false:=decide_eq_false (by omega)
    have e1:=HR1.out
    have e2:=HR2.out
    rw [if_neg (by rw [decide_eq_false hbig];decide)] at e1 e2
    clear hbig
    go_wp2
    refine bodyPost_ret (v:=.tuple #[.string RES,.int .i64 0]) ?_ rfl ⟨by rw [e1,e2],B10.out⟩
    simp [results,Tryz.results11,go_sem]
  ·have xo:(q.wher.op != 1)=true:=by rw [bne_iff_ne];exact hop
   have HLS:=Lib.hid (show (XS++[.string (kindB q.kind)])++[.string wWhere,.string (textC q.wher)]=(textL q).map Value.string by
    rw [textL,if_neg hop,←HXS.out,List.map_append,askV,List.map_map];simp)
   have HLL:=Lib.hid (show (textL q).length=NN+1+2 by rw [textL,if_neg hop,←HNN.out];simp)
   clear hop
   go_wp2_with fail
   refine (TX.out _ HC5.out HE5.out).mono ?_
   rintro e w6 ⟨rfl,hb6⟩
   have O6:=Lib.hid (own_laterL HO5.out hb6)
   have B6:=Lib.hid (below_step B5.out (Nat.le_refl _) hb6)
   have hz6:=hb6.size
   have hz5:w3.heap.size≤w6.heap.size:=Nat.le_trans hz5' hz6
   clear hb6
   go_wp2_with (at_builtin;refine wpList_append_own _ rfl _ _ 47 rfl w3.heap.size 9 i0 (.string ⟨#[]⟩) 1 16 Tryz.underlying47 hi hi0 hi1 hi2 rfl (by decide) _ _ _ rfl (O6.out.alloc _) ⟨w6.heap.size,0,none⟩ 2 2 [.string wWhere,.string (textC q.wher)] rfl rfl (cells_newQ w6 _ _) (two_str _ _) (by unfold maxLen;omega) (by omega) (by simp;omega) ?_;intro v7 w9 hown9 hgrow9 _;have HO9:=Lib.hid hown9;have B9:=Lib.hid ((B6.out.alloc B6.out.size _).grown hgrow9 (by simp;omega) (fun j ej=>by have:=(O6.out.lt j ej).1;omega));clear hown9 hgrow9)
   obtain ⟨g,cap2,rfl,hg1,hg2⟩:=own_slice HO9.out (by omega)
   have hc9:=World.ownsRow.cells HO9.out (g:=g) rfl
   have J:=Lib.hid (Tryz.strings_Join g 0 cap2 (textL q) ⟨#[32]⟩ w9 (fun j x hx=>by
    have:=hc9 j (.string x) (by rw [HLS.out,List.getElem?_map,hx];rfl)
    rwa [Addr.add_lit] at this) hg2 (by rw [HLL.out];omega) (by rw [HLL.out];exact own_cap HO9.out) (by
     have h1:=HTH.out
     rw [textQ,joinB_size] at h1;omega))
   rw [HLL.out] at J
   have HRS:=Lib.hid (show (⟨(Lib.join ((textL q).map (·.data.toList)) (⟨#[32]⟩:ByteArray).data.toList).toArray⟩:ByteArray)=textQ q from rfl)
   obtain ⟨RES,hRES⟩:∃z,textQ q=z:=⟨_,rfl⟩
   have HR1:=Lib.hid (show textR q=if decide (20000<RES.size) then ⟨#[]⟩ else RES by rw [←hRES];rfl)
   have HR2:=Lib.hid (show textE q=if decide (20000<RES.size) then 2 else 0 by rw [←hRES];rfl)
   rw [hRES] at HRS
   clear hRES hc9 HO9
   go_wp2_with fail
   refine J.out.mono ?_
   rintro e w10 ⟨he10,hb10⟩
   have he11:=he10.trans (congrArg (fun s=>Ending.returned (.string s)) HRS.out)
   subst he11
   have B10:=Lib.hid (below_step B9.out (Nat.le_refl _) hb10)
   clear he10 hb10 J
   by_cases hbig:20000<RES.size
   ·have hlt:decide ((20000:Int)<(RES.size:Int))=true:=decide_eq_true (by omega)
    have e1:=HR1.out
    have e2:=HR2.out
    rw [if_pos (decide_eq_true hbig)] at e1 e2
    clear hbig
    go_wp2
    refine bodyPost_ret (v:=.tuple #[.string ⟨#[]⟩,.int .i64 2]) ?_ rfl ⟨by rw [e1,e2],B10.out⟩
    simp [results,Tryz.results11,go_sem]
   ·have hlt:decide ((20000:Int)<(RES.size:Int))=false:=decide_eq_false (by omega)
    have e1:=HR1.out
    have e2:=HR2.out
    rw [if_neg (by rw [decide_eq_false hbig];decide)] at e1 e2
    clear hbig
    go_wp2
    refine bodyPost_ret (v:=.tuple #[.string RES,.int .i64 0]) ?_ rfl ⟨by rw [e1,e2],B10.out⟩
    simp [results,Tryz.results11,go_sem]
end Go.Proofs.YtdfenhjibnfdeaaGreatDoor
namespace Go.Proofs.YtdfenhjibnfdeaaGreatDoor
open Go.RowKit Go.Shelf
theorem parse_no {s:ByteArray} (h:(parseQ s).2.1≠0):(parseQ s).1=zeroQ:=by
 unfold parseQ at h ⊢
 split
 ·rfl
 ·rename_i he
  rw [if_neg he] at h
  cases hq:queryP s.size (lexP s).1 with
  |bad e o=>rfl
  |ok q r =>
   rw [hq] at h
   simp only at h ⊢
   split
   ·rfl
   ·rename_i hz;rw [if_neg hz] at h;exact absurd rfl h
theorem parse_yes {s:ByteArray} (h:(parseQ s).2.1=0):(parseQ s).2.2=0:=by
 unfold parseQ at h ⊢
 split
 ·rename_i he
  rw [if_pos he] at h;exact absurd h he
 ·rename_i he
  rw [if_neg he] at h
  cases hq:queryP s.size (lexP s).1 with
  |bad e o =>
   rw [hq] at h
   exact absurd h (nz_query _ _ e o hq)
  |ok q r =>
   simp only
   split<;>rfl
def textS (q:QryD):ByteArray:=if validQ q then textR q else ⟨#[]⟩
def textF (q:QryD):Int:=if validQ q then textE q else 1
theorem text_ways (q:QryD):(validQ q=false∧textS q=⟨#[]⟩∧textF q=1)∨(validQ q=true∧textS q=⟨#[]⟩∧textF q=2)∨(validQ q=true∧textS q=textQ q∧textF q=0∧(textQ q).size≤20000):=by
 unfold textS textF textR textE bigT
 cases hv:validQ q
 ·exact Or.inl ⟨rfl,rfl,rfl⟩
 ·by_cases hb:20000<(textQ q).size
  ·rw [decide_eq_true hb];exact Or.inr (Or.inl ⟨rfl,rfl,rfl⟩)
  ·rw [decide_eq_false hb];exact Or.inr (Or.inr ⟨rfl,rfl,rfl,by omega⟩)
theorem text_inj {p q:QryD} (hp:validQ p=true) (hq:validQ q=true) (hs:(textQ p).size≤20000) (h:textQ p=textQ q):p=q:=by
 have h1:=parse_text hp hs
 have h2:=parse_text hq (by rw [←h];exact hs)
 rw [h,h2] at h1
 injection h1 with h1 _
 exact h1.symm
set_option maxRecDepth 100000 in
set_option maxHeartbeats 4000000 in
theorem text_any (q:QryD) (a:Option Addr) (cap:Nat) (w:World) (hc:CondIs w q.wher a) (he:Env w) (hid:q.id.size≤140737488355328) (hkey:q.key.size≤140737488355328) (hprof:q.prof.size≤140737488355328) :
  Calls Tryz.prog 11 #[.agg (qryC q a cap)] w fun e w'=>e=.returned (.tuple #[.string (textS q),.int .i64 (textF q)])∧Below w.heap.size w w':=by
 by_cases hv:validQ q=true
 ·have h:=text_ok q a cap w hc he hv hid hkey hprof
  unfold textS textF
  rw [if_pos hv,if_pos hv]
  exact h
 ·have hv:=eq_false_of_ne_true hv
  unfold textS textF
  rw [hv,if_neg (by decide),if_neg (by decide)]
  have b1:=(Below.refl w.heap.size w).alloc (Nat.le_refl _) (.cells (qryC q a cap) 28)
  have VQ:=Lib.hid (validQA_any q a cap _ (hc.later b1) hid hkey hprof)
  rw [hv] at VQ
  have B1:=Lib.hid b1
  clear hc he b1 hv hid hkey hprof
  go_enter Tryz.func11,Tryz.ntmps11
  go_wp2_with fail
  refine VQ.out.mono ?_
  rintro e w2 ⟨rfl,hb2⟩
  have B2:=below_step B1.out (Nat.le_refl _) hb2
  go_wp2
  refine bodyPost_ret (v:=.tuple #[.string ⟨#[]⟩,.int .i64 1]) ?_ rfl ⟨rfl,B2⟩
  simp [results,Tryz.results11,go_sem]
set_option maxRecDepth 100000 in
set_option maxHeartbeats 4000000 in
theorem tfew36_any (q:QryD) (a:Option Addr) (cap:Nat) (w:World) (hc:CondIs w q.wher a) :
  Calls Tryz.prog 29 #[.agg (qryC q a cap)] w fun e w'=>∃b,e=.returned (.bool b)∧Below w.heap.size w w':=by
 have B1:=(Below.refl w.heap.size w).alloc (Nat.le_refl _) (.cells (qryC q a cap) 28)
 obtain ⟨w1,hw1⟩:∃w1,w.alloc (.cells (qryC q a cap) 28)=w1:=⟨_,rfl⟩
 have H1:=Lib.hid (row_new w (.cells (qryC q a cap) 28))
 rw [hw1] at B1 H1
 have HW:=Lib.hid hw1
 have FC:=Lib.hid (fewc_any q.wher a cap w1 (hc.later B1))
 rw [cond_cells] at FC
 clear hw1 hc
 go_enter Tryz.func29,Tryz.ntmps29
 go_wp2_with fail
 rw [HW.out]
 have xz:=lt_of_block H1.out
 have x0:=cell_of_row w1 _ 0 _ _ _ H1.out
 have x1:=cell_of_row w1 _ 1 _ _ _ H1.out
 have x2:=cell_of_row w1 _ 2 _ _ _ H1.out
 have x3:=cell_of_row w1 _ 3 _ _ _ H1.out
 have x4:=cell_of_row w1 _ 4 _ _ _ H1.out
 have x5:=cell_of_row w1 _ 5 _ _ _ H1.out
 have x6:=cell_of_row w1 _ 6 _ _ _ H1.out
 have x7:=cell_of_row w1 _ 7 _ _ _ H1.out
 have x8:=cell_of_row w1 _ 8 _ _ _ H1.out
 have x9:=cell_of_row w1 _ 9 _ _ _ H1.out
 have x10:=cell_of_row w1 _ 10 _ _ _ H1.out
 have x11:=cell_of_row w1 _ 11 _ _ _ H1.out
 have x12:=cell_of_row w1 _ 12 _ _ _ H1.out
 have x13:=cell_of_row w1 _ 13 _ _ _ H1.out
 simp only [List.getElem?_toArray,List.getElem?_cons_zero,List.getElem?_cons_succ] at x0 x1 x2 x3 x4 x5 x6 x7 x8 x9 x10 x11 x12 x13
 go_wp2_with fail
 refine FC.out.mono ?_
 rintro e w2 ⟨b,rfl,hb⟩
 have B2:=below_step B1 (Nat.le_refl _) hb
 have H2:=Lib.hid (row_later hb H1.out)
 clear hb
 clear x0 x1 x2 x3 x4 x5 x6 x7 x8 x9 x10 x11 x12 x13 xz
 cases b
 ·go_wp2
  go_ret
  exact ⟨_,rfl,B2⟩
 ·have xz:=lt_of_block H2.out
  have x0:=cell_of_row w2 _ 0 _ _ _ H2.out
  have x1:=cell_of_row w2 _ 1 _ _ _ H2.out
  have x2:=cell_of_row w2 _ 2 _ _ _ H2.out
  have x3:=cell_of_row w2 _ 3 _ _ _ H2.out
  have x4:=cell_of_row w2 _ 4 _ _ _ H2.out
  have x5:=cell_of_row w2 _ 5 _ _ _ H2.out
  have x6:=cell_of_row w2 _ 6 _ _ _ H2.out
  have x7:=cell_of_row w2 _ 7 _ _ _ H2.out
  have x8:=cell_of_row w2 _ 8 _ _ _ H2.out
  have x9:=cell_of_row w2 _ 9 _ _ _ H2.out
  have x10:=cell_of_row w2 _ 10 _ _ _ H2.out
  have x11:=cell_of_row w2 _ 11 _ _ _ H2.out
  have x12:=cell_of_row w2 _ 12 _ _ _ H2.out
  have x13:=cell_of_row w2 _ 13 _ _ _ H2.out
  simp only [List.getElem?_toArray,List.getElem?_cons_zero,List.getElem?_cons_succ] at x0 x1 x2 x3 x4 x5 x6 x7 x8 x9 x10 x11 x12 x13
  go_wp2
  go_ret
  exact ⟨_,rfl,B2⟩
set_option maxRecDepth 100000 in
set_option maxHeartbeats 8000000 in
theorem fewT_any (q p:QryD) (a:Option Addr) (cap:Nat) (a2:Option Addr) (cap2 g:Nat) (w:World) (hc:CondIs w q.wher a) (hd:CondIs w p.wher a2)
  (hr:w.heap[g]?=some (.cells #[.int .i64 q.ask,.int .i64 q.kind,.int .i64 q.wher.op,.string q.wher.key,.string q.wher.val,.int .i64 q.wher.n,.slice a q.wher.kids.length cap,.string q.id,.int .i64 q.n,.int .i64 q.x,.int .i64 q.y,.string q.key,.string q.prof,.int .i64 q.minute,.int .i64 p.ask,.int .i64 p.kind,.int .i64 p.wher.op,.string p.wher.key,.string p.wher.val,.int .i64 p.wher.n,.slice a2 p.wher.kids.length cap2,.string p.id,.int .i64 p.n,.int .i64 p.x,.int .i64 p.y,.string p.key,.string p.prof,.int .i64 p.minute] 28 (0,0))) :
  Calls Tryz.prog 10 #[.slice (some ⟨g,0,none⟩) 2 2] w fun e w'=>∃b,e=.returned (.bool b)∧Below w.heap.size w w':=by
 have F:=Lib.hid (tfew36_any q a cap w hc)
 have F2:=Lib.hid (fun W (hW:Below w.heap.size w W)=>tfew36_any p a2 cap2 W (hd.later hW))
 have H1:=Lib.hid hr
 have hz:=lt_of_block hr
 clear hr hc hd
 go_enter Tryz.func10,Tryz.ntmps10
 go_wp2_with fail
 refine wp_loop_rounds 4 ?_
 rw [rounds_succ]
 have xz:=lt_of_block H1.out
 have x0:=cell_of_row w _ 0 _ _ _ H1.out
 have x1:=cell_of_row w _ 1 _ _ _ H1.out
 have x2:=cell_of_row w _ 2 _ _ _ H1.out
 have x3:=cell_of_row w _ 3 _ _ _ H1.out
 have x4:=cell_of_row w _ 4 _ _ _ H1.out
 have x5:=cell_of_row w _ 5 _ _ _ H1.out
 have x6:=cell_of_row w _ 6 _ _ _ H1.out
 have x7:=cell_of_row w _ 7 _ _ _ H1.out
 have x8:=cell_of_row w _ 8 _ _ _ H1.out
 have x9:=cell_of_row w _ 9 _ _ _ H1.out
 have x10:=cell_of_row w _ 10 _ _ _ H1.out
 have x11:=cell_of_row w _ 11 _ _ _ H1.out
 have x12:=cell_of_row w _ 12 _ _ _ H1.out
 have x13:=cell_of_row w _ 13 _ _ _ H1.out
 have x14:=cell_of_row w _ 14 _ _ _ H1.out
 have x15:=cell_of_row w _ 15 _ _ _ H1.out
 have x16:=cell_of_row w _ 16 _ _ _ H1.out
 have x17:=cell_of_row w _ 17 _ _ _ H1.out
 have x18:=cell_of_row w _ 18 _ _ _ H1.out
 have x19:=cell_of_row w _ 19 _ _ _ H1.out
 have x20:=cell_of_row w _ 20 _ _ _ H1.out
 have x21:=cell_of_row w _ 21 _ _ _ H1.out
 have x22:=cell_of_row w _ 22 _ _ _ H1.out
 have x23:=cell_of_row w _ 23 _ _ _ H1.out
 have x24:=cell_of_row w _ 24 _ _ _ H1.out
 have x25:=cell_of_row w _ 25 _ _ _ H1.out
 have x26:=cell_of_row w _ 26 _ _ _ H1.out
 have x27:=cell_of_row w _ 27 _ _ _ H1.out
 simp only [List.getElem?_toArray,List.getElem?_cons_zero,List.getElem?_cons_succ] at x0 x1 x2 x3 x4 x5 x6 x7 x8 x9 x10 x11 x12 x13 x14 x15 x16 x17 x18 x19 x20 x21 x22 x23 x24 x25 x26 x27
 go_wp2_with fail
 refine F.out.mono ?_
 rintro e w2 ⟨b,rfl,hb⟩
 have H2:=Lib.hid (row_later hb H1.out)
 have B2:=Lib.hid hb
 clear hb
 clear x0 x1 x2 x3 x4 x5 x6 x7 x8 x9 x10 x11 x12 x13 x14 x15 x16 x17 x18 x19 x20 x21 x22 x23 x24 x25 x26 x27 xz
 cases b
 ·go_wp2
  go_ret
  exact ⟨_,rfl,B2.out⟩
 ·go_wp2
  rw [rounds_succ]
  have xz:=lt_of_block H2.out
  have x0:=cell_of_row w2 _ 0 _ _ _ H2.out
  have x1:=cell_of_row w2 _ 1 _ _ _ H2.out
  have x2:=cell_of_row w2 _ 2 _ _ _ H2.out
  have x3:=cell_of_row w2 _ 3 _ _ _ H2.out
  have x4:=cell_of_row w2 _ 4 _ _ _ H2.out
  have x5:=cell_of_row w2 _ 5 _ _ _ H2.out
  have x6:=cell_of_row w2 _ 6 _ _ _ H2.out
  have x7:=cell_of_row w2 _ 7 _ _ _ H2.out
  have x8:=cell_of_row w2 _ 8 _ _ _ H2.out
  have x9:=cell_of_row w2 _ 9 _ _ _ H2.out
  have x10:=cell_of_row w2 _ 10 _ _ _ H2.out
  have x11:=cell_of_row w2 _ 11 _ _ _ H2.out
  have x12:=cell_of_row w2 _ 12 _ _ _ H2.out
  have x13:=cell_of_row w2 _ 13 _ _ _ H2.out
  have x14:=cell_of_row w2 _ 14 _ _ _ H2.out
  have x15:=cell_of_row w2 _ 15 _ _ _ H2.out
  have x16:=cell_of_row w2 _ 16 _ _ _ H2.out
  have x17:=cell_of_row w2 _ 17 _ _ _ H2.out
  have x18:=cell_of_row w2 _ 18 _ _ _ H2.out
  have x19:=cell_of_row w2 _ 19 _ _ _ H2.out
  have x20:=cell_of_row w2 _ 20 _ _ _ H2.out
  have x21:=cell_of_row w2 _ 21 _ _ _ H2.out
  have x22:=cell_of_row w2 _ 22 _ _ _ H2.out
  have x23:=cell_of_row w2 _ 23 _ _ _ H2.out
  have x24:=cell_of_row w2 _ 24 _ _ _ H2.out
  have x25:=cell_of_row w2 _ 25 _ _ _ H2.out
  have x26:=cell_of_row w2 _ 26 _ _ _ H2.out
  have x27:=cell_of_row w2 _ 27 _ _ _ H2.out
  simp only [List.getElem?_toArray,List.getElem?_cons_zero,List.getElem?_cons_succ] at x0 x1 x2 x3 x4 x5 x6 x7 x8 x9 x10 x11 x12 x13 x14 x15 x16 x17 x18 x19 x20 x21 x22 x23 x24 x25 x26 x27
  go_wp2_with fail
  refine (F2.out _ B2.out).mono ?_
  rintro e w3 ⟨b,rfl,hb⟩
  have B3:=below_step B2.out (Nat.le_refl _) hb
  cases b
  ·go_wp2
   go_ret
   exact ⟨_,rfl,B3⟩
  ·go_wp2
   rw [rounds_succ]
   go_wp2
   go_ret
   exact ⟨_,rfl,B3⟩
end Go.Proofs.YtdfenhjibnfdeaaGreatDoor
