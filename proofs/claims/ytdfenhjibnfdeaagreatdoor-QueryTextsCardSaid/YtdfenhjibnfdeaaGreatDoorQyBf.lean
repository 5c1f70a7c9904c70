/-  -/
import Derived.Test.YtdfenhjibnfdeaaGreatDoorQyBe
import Derived.Test.YtdfenhjibnfdeaaGreatDoorQyBa
import Derived.Test.YtdfenhjibnfdeaaGreatDoorQyBb
import Derived.Test.YtdfenhjibnfdeaaGreatDoorQyBd
namespace Go.Proofs.YtdfenhjibnfdeaaGreatDoor
open Go.RowKit Go.Shelf
theorem infoTagQ:(Tryz.prog.info? 58).map (fun i=>(i.zero,i.size,i.bytes))=some (some (.agg #[.string ⟨#[]⟩,.string ⟨#[]⟩]),2,32):=by kernel_rfl
theorem parseQ_any (w:World):Calls Tryz.prog 13 #[.string ⟨#[105,110,115,105,100,101,32,97,49,32,110,111,100,101,32,119,104,101,114,101,32,99,108,97,115,115,32,61,32,34,99,97,102,101,34,32,97,110,100,32,110,111,116,32,40,104,111,117,114,115,32,111,114,32,108,101,118,101,108,32,62,32,50,41]⟩] w fun e w'=>∃a cap,e=.returned (.tuple #[.agg #[.int .i64 2,.int .i64 1,.int .i64 5,.string ⟨#[]⟩,.string ⟨#[]⟩,.int .i64 0,.slice a 2 cap,.string ⟨#[97,49]⟩,.int .i64 0,.int .i64 0,.int .i64 0,.string ⟨#[]⟩,.string ⟨#[]⟩,.int .i64 0],.int .i64 0,.int .i64 0])∧CondIs w' cQ a∧Below w.heap.size w w' :=
 (parse_ok sQ (by decide +kernel) _ qQ [] lxQ tlQ tokQ pQ zQ w).mono fun e w' ⟨a,cap,h1,h2,h3⟩=>⟨a,cap,h1,CondP.is _ _ h2,h3⟩
theorem parseF_any (w:World):Calls Tryz.prog 13 #[.string ⟨#[110,101,97,114,101,115,116,32,48,32,116,111,32,49,32,49,32,97,110,121]⟩] w fun e w'=>∃a cap,e=.returned (.tuple #[.agg #[.int .i64 0,.int .i64 0,.int .i64 0,.string ⟨#[]⟩,.string ⟨#[]⟩,.int .i64 0,.slice a 0 cap,.string ⟨#[]⟩,.int .i64 0,.int .i64 0,.int .i64 0,.string ⟨#[]⟩,.string ⟨#[]⟩,.int .i64 0],.int .i64 10,.int .i64 8])∧Below w.heap.size w w' :=
 (parse_bad sF (by decide +kernel) _ 10 8 lxF tlF tokF pF w).mono fun e w' ⟨a,cap,h1,_,h3⟩=>⟨a,cap,h1,h3⟩
theorem parseG_any (w:World):Calls Tryz.prog 13 #[.string ⟨#[97,108,108,32,110,111,100,101,32,119,104,101,114,101,32,110,111,116]⟩] w fun e w'=>∃a cap,e=.returned (.tuple #[.agg #[.int .i64 0,.int .i64 0,.int .i64 0,.string ⟨#[]⟩,.string ⟨#[]⟩,.int .i64 0,.slice a 0 cap,.string ⟨#[]⟩,.int .i64 0,.int .i64 0,.int .i64 0,.string ⟨#[]⟩,.string ⟨#[]⟩,.int .i64 0],.int .i64 6,.int .i64 18])∧Below w.heap.size w w' :=
 (parse_bad sG (by decide +kernel) _ 6 18 lxG tlG tokG pG w).mono fun e w' ⟨a,cap,h1,_,h3⟩=>⟨a,cap,h1,h3⟩
theorem parseR_any (w:World):Calls Tryz.prog 13 #[.string ⟨#[114,101,97,99,104,32,110,49,32,105,110,32,51,48,32,98,121,32,99,97,114,32,97,116,32,54,48,48,32,119,97,121]⟩] w fun e w'=>∃a cap,e=.returned (.tuple #[.agg #[.int .i64 5,.int .i64 2,.int .i64 1,.string ⟨#[]⟩,.string ⟨#[]⟩,.int .i64 0,.slice a 0 cap,.string ⟨#[110,49]⟩,.int .i64 30,.int .i64 0,.int .i64 0,.string ⟨#[]⟩,.string ⟨#[99,97,114]⟩,.int .i64 600],.int .i64 0,.int .i64 0])∧CondIs w' allW a∧Below w.heap.size w w' :=
 (parse_ok sRq (by decide +kernel) _ qR [] lxRq tlRq tokRq pR zR w).mono fun e w' ⟨a,cap,h1,h2,h3⟩=>⟨a,cap,h1,CondP.is _ _ h2,h3⟩
theorem textQ_any (a:Option Addr) (cap:Nat) (w:World) (hc:CondIs w cQ a) (he:Env w):Calls Tryz.prog 11 #[.agg #[.int .i64 2,.int .i64 1,.int .i64 5,.string ⟨#[]⟩,.string ⟨#[]⟩,.int .i64 0,.slice a 2 cap,.string ⟨#[97,49]⟩,.int .i64 0,.int .i64 0,.int .i64 0,.string ⟨#[]⟩,.string ⟨#[]⟩,.int .i64 0]] w fun e w'=>e=.returned (.tuple #[.string ⟨#[105,110,115,105,100,101,32,97,49,32,110,111,100,101,32,119,104,101,114,101,32,99,108,97,115,115,32,61,32,34,99,97,102,101,34,32,97,110,100,32,110,111,116,32,40,104,111,117,114,115,32,111,114,32,108,101,118,101,108,32,62,32,50,41]⟩,.int .i64 0])∧Below w.heap.size w w':=by
 have h:=textH_any cQ a1Q a cap w hc he (by decide) vQ vcQ (by decide) tcQ (by rw [textH,txQ];decide +kernel)
 rw [show textH cQ a1Q=sQ from txQ] at h
 exact h
theorem checkQ_any (a:Option Addr) (cap:Nat) (w:World) (hc:CondIs w cQ a):Calls Tryz.prog 28 #[.agg #[.int .i64 2,.int .i64 1,.int .i64 5,.string ⟨#[]⟩,.string ⟨#[]⟩,.int .i64 0,.slice a 2 cap,.string ⟨#[97,49]⟩,.int .i64 0,.int .i64 0,.int .i64 0,.string ⟨#[]⟩,.string ⟨#[]⟩,.int .i64 0],.agg #[.slice none 0 0]] w fun e w'=>e=.returned (.int .i64 11)∧Below w.heap.size w w' :=
 checkH_any cQ a1Q a cap w hc (by decide) vQ vcQ
theorem validQQ_any (a:Option Addr) (cap:Nat) (w:World) (hc:CondIs w cQ a):Calls Tryz.prog 12 #[.agg #[.int .i64 2,.int .i64 1,.int .i64 5,.string ⟨#[]⟩,.string ⟨#[]⟩,.int .i64 0,.slice a 2 cap,.string ⟨#[97,49]⟩,.int .i64 0,.int .i64 0,.int .i64 0,.string ⟨#[]⟩,.string ⟨#[]⟩,.int .i64 0]] w fun e w'=>e=.returned (.bool true)∧Below w.heap.size w w':=by
 have h:=validQ2_any qQ a cap w hc (by show (0:Int)≤1∧(1:Int)<6;omega) rfl (show a1Q.size≤_ by decide) vcQ
 rw [vQ] at h
 exact h
theorem holdsA_any (a:Option Addr) (cap:Nat) (vt:Value) (w:World) (hc:CondIs w cQ a) (ht:TagRow w vt [⟨wClass,wCafe⟩,⟨wLevel,⟨#[50]⟩⟩]) (he:Env w):Calls Tryz.prog 22 #[.agg #[.int .i64 5,.string ⟨#[]⟩,.string ⟨#[]⟩,.int .i64 0,.slice a 2 cap],.agg #[.string ⟨#[]⟩,.int .i64 0,.int .i64 0,.int .i64 0,.slice none 0 0,vt]] w fun e w'=>e=.returned (.bool true)∧Below w.heap.size w w':=by
 have h:=Holds_any cQ a cap ⟨emptyB,0,0,0,[],[⟨wClass,wCafe⟩,⟨wLevel,⟨#[50]⟩⟩]⟩ (.slice none 0 0) vt w hc ht he
 rw [vcQ,hQ1] at h
 exact h
theorem holdsB_any (a:Option Addr) (cap:Nat) (vt:Value) (w:World) (hc:CondIs w cQ a) (ht:TagRow w vt [⟨wClass,wCafe⟩,⟨wLevel,⟨#[51]⟩⟩]) (he:Env w):Calls Tryz.prog 22 #[.agg #[.int .i64 5,.string ⟨#[]⟩,.string ⟨#[]⟩,.int .i64 0,.slice a 2 cap],.agg #[.string ⟨#[]⟩,.int .i64 0,.int .i64 0,.int .i64 0,.slice none 0 0,vt]] w fun e w'=>e=.returned (.bool false)∧Below w.heap.size w w':=by
 have h:=Holds_any cQ a cap ⟨emptyB,0,0,0,[],[⟨wClass,wCafe⟩,⟨wLevel,⟨#[51]⟩⟩]⟩ (.slice none 0 0) vt w hc ht he
 rw [vcQ,hQ2] at h
 exact h
theorem cQ_open {w:World} {a:Option Addr} (h:CondIs w cQ a):∃b off b1 off1 cap1,a=some ⟨b,off,none⟩∧w.cell? ⟨b,off,none⟩=some (.int .i64 3)∧w.cell? ⟨b,off+9,none⟩=some (.slice (some ⟨b1,off1,none⟩) 1 cap1)∧w.cell? ⟨b1,off1,none⟩=some (.int .i64 6):=by
 obtain ⟨-,-,-,h4⟩:=h.open
 obtain ⟨b,off,ha,hk⟩:=h4 (by decide)
 obtain ⟨a0,c0,h0,-⟩:=KidsIs.at _ _ 0 _ hk rfl
 obtain ⟨a1,c1,h1,hx⟩:=KidsIs.at _ _ 1 _ hk rfl
 obtain ⟨-,-,-,h5⟩:=hx.open
 obtain ⟨b1,off1,ha1,hk1⟩:=h5 (by decide)
 obtain ⟨a2,c2,h2,-⟩:=KidsIs.at _ _ 0 _ hk1 rfl
 subst ha1
 exact ⟨b,off,b1,off1,c1,ha,h0.1,h1.2.2.2.2,h2.1⟩
theorem own_rowH {w:World} {base e size n:Nat} {v:Value} {xs:List Value} (h:w.ownsRow base e size v n xs) (h0:0<n):∃g cap cur,v=.slice (some ⟨g,0,none⟩) n cap∧base≤g∧w.heap[g]?=some (.cells cur e (0,0))∧∀(j:Nat) (u:Value),xs[j]?=some u→w.cell? ⟨g,j,none⟩=some u:=by
 have hc:=fun g=>World.ownsRow.cells h (g:=g)
 rcases h.2 with ⟨_,h1⟩ | ⟨g,cap,cur,rfl,hb,hr,_⟩
 ·omega
 ·refine ⟨g,cap,cur,rfl,hb,hr,fun j u hu=>?_⟩
  have:=hc g rfl j u hu
  rwa [Addr.add_lit,Nat.zero_add] at this
theorem row_grownH {w w':World} {row:Option Nat} (h:w.grownBy w' row) {b:Nat} {o:Obj} (hb:w.heap[b]?=some o) (hne:some b≠row):w'.heap[b]?=some o:=(h.block b (lt_of_block hb) hne).trans hb
theorem cell_sameH {w w':World} {g j:Nat} {cur:Array Value} {t:TypeId} {v:Value} (hr:w.heap[g]?=some (.cells cur t (0,0))) (hr':w'.heap[g]?=some (.cells cur t (0,0))) (h:w.cell? ⟨g,j,none⟩=some v):w'.cell? ⟨g,j,none⟩=some v:=by
 rw [cell_of_row _ _ j _ _ _ hr'] ;rw [cell_of_row _ _ j _ _ _ hr] at h;exact h
theorem tags_set3 {w:World} {g:Nat} {cur:Array Value} {t:TypeId} {a b c d:Value} (u:Value) (hr:w.heap[g]?=some (.cells cur t (0,0))) (h0:w.cell? ⟨g,0,none⟩=some a) (h1:w.cell? ⟨g,1,none⟩=some b) (h2:w.cell? ⟨g,2,none⟩=some c) (h3:w.cell? ⟨g,3,none⟩=some d) :
  (w.setCell ⟨g,3,none⟩ u).cell? ⟨g,0,none⟩=some a∧(w.setCell ⟨g,3,none⟩ u).cell? ⟨g,1,none⟩=some b∧(w.setCell ⟨g,3,none⟩ u).cell? ⟨g,2,none⟩=some c∧(w.setCell ⟨g,3,none⟩ u).cell? ⟨g,3,none⟩=some u:=by
 have r:=row_set (i:=3) (v:=u) hr
 rw [cell_of_row _ _ 0 _ _ _ hr] at h0
 rw [cell_of_row _ _ 1 _ _ _ hr] at h1
 rw [cell_of_row _ _ 2 _ _ _ hr] at h2
 rw [cell_of_row _ _ 3 _ _ _ hr] at h3
 have hz:3<cur.size:=(Array.getElem?_eq_some_iff.1 h3).1
 refine ⟨?_,?_,?_,?_⟩
 ·rw [cell_of_row _ _ 0 _ _ _ r];simpa [Array.getElem?_setIfInBounds] using h0
 ·rw [cell_of_row _ _ 1 _ _ _ r];simpa [Array.getElem?_setIfInBounds] using h1
 ·rw [cell_of_row _ _ 2 _ _ _ r];simpa [Array.getElem?_setIfInBounds] using h2
 ·rw [cell_of_row _ _ 3 _ _ _ r];simp [hz]
theorem tags_two {w:World} {g cap:Nat} {k1 v1 k2 v2:ByteArray} (h0:w.cell? ⟨g,0,none⟩=some (.string k1)) (h1:w.cell? ⟨g,1,none⟩=some (.string v1)) (h2:w.cell? ⟨g,2,none⟩=some (.string k2)) (h3:w.cell? ⟨g,3,none⟩=some (.string v2))
  (hs:k1.size≤300∧v1.size≤300∧k2.size≤300∧v2.size≤300):TagRow w (.slice (some ⟨g,0,none⟩) 2 cap) [⟨k1,v1⟩,⟨k2,v2⟩]:=by
 refine ⟨some ⟨g,0,none⟩,cap,rfl,by show 2≤_;omega,fun t ht=>?_,fun _=>⟨g,0,rfl,fun i t hi=>?_⟩⟩
 ·simp only [List.mem_cons,List.not_mem_nil,or_false] at ht
  rcases ht with rfl | rfl
  ·exact ⟨by show k1.size≤_;omega,by show v1.size≤_;omega⟩
  ·exact ⟨by show k2.size≤_;omega,by show v2.size≤_;omega⟩
 ·match i,hi with
  |0,hi=>injection hi with hi;subst hi;exact ⟨h0,h1⟩
  |1,hi=>injection hi with hi;subst hi;exact ⟨h2,h3⟩
set_option maxRecDepth 100000 in
set_option maxHeartbeats 16000000 in
theorem head_any (w:World) (he:Env w) :
  Calls Tryz.prog 9 #[] w fun e w'=>e=.returned (.bool true)∧Below w.heap.size w w':=by
 have PQ:=Lib.hid (fun W=>parseQ_any W)
 have PF:=Lib.hid (fun W=>parseF_any W)
 have PG:=Lib.hid (fun W=>parseG_any W)
 have PR:=Lib.hid (fun W=>parseR_any W)
 go_enter Tryz.func9,Tryz.ntmps9
 go_wp2_with fail
 refine (PQ.out _).mono ?_
 rintro e w1 ⟨aq,cq,rfl,hc,hb⟩
 have bq:=(Below.refl w1.heap.size w1).alloc (Nat.le_refl _) (.cells #[.int .i64 2,.int .i64 1,.int .i64 5,.string ⟨#[]⟩,.string ⟨#[]⟩,.int .i64 0,.slice aq 2 cq,.string ⟨#[97,49]⟩,.int .i64 0,.int .i64 0,.int .i64 0,.string ⟨#[]⟩,.string ⟨#[]⟩,.int .i64 0] 28)
 have B1:=Lib.hid (below_step hb (Nat.le_refl _) bq)
 have E1:=Lib.hid ((he.later hb).later bq)
 have C1:=Lib.hid (hc.later bq)
 have Q1:=Lib.hid (row_new w1 (.cells #[.int .i64 2,.int .i64 1,.int .i64 5,.string ⟨#[]⟩,.string ⟨#[]⟩,.int .i64 0,.slice aq 2 cq,.string ⟨#[97,49]⟩,.int .i64 0,.int .i64 0,.int .i64 0,.string ⟨#[]⟩,.string ⟨#[]⟩,.int .i64 0] 28))
 clear hb bq hc he
 go_wp2_with fail
 refine (PF.out _).mono ?_
 rintro e w2 ⟨a2,c2,rfl,hb⟩
 have bq:=(Below.refl w2.heap.size w2).alloc (Nat.le_refl _) (.cells #[.int .i64 0,.int .i64 0,.int .i64 0,.string ⟨#[]⟩,.string ⟨#[]⟩,.int .i64 0,.slice a2 0 c2,.string ⟨#[]⟩,.int .i64 0,.int .i64 0,.int .i64 0,.string ⟨#[]⟩,.string ⟨#[]⟩,.int .i64 0] 28)
 have hbb:=below_step hb (Nat.le_refl _) bq
 have Q2:=Lib.hid (row_later hbb Q1.out)
 have E2:=Lib.hid (E1.out.later hbb)
 have C2:=Lib.hid (C1.out.later hbb)
 have B2:=Lib.hid (below_step B1.out (Nat.le_refl _) hbb)
 clear Q1 E1 C1 B1
 clear hb bq hbb
 go_wp2_with fail
 refine (PG.out _).mono ?_
 rintro e w3 ⟨a3,c3,rfl,hb⟩
 have bq:=(Below.refl w3.heap.size w3).alloc (Nat.le_refl _) (.cells #[.int .i64 0,.int .i64 0,.int .i64 0,.string ⟨#[]⟩,.string ⟨#[]⟩,.int .i64 0,.slice a3 0 c3,.string ⟨#[]⟩,.int .i64 0,.int .i64 0,.int .i64 0,.string ⟨#[]⟩,.string ⟨#[]⟩,.int .i64 0] 28)
 have hbb:=below_step hb (Nat.le_refl _) bq
 have Q3:=Lib.hid (row_later hbb Q2.out)
 have E3:=Lib.hid (E2.out.later hbb)
 have C3:=Lib.hid (C2.out.later hbb)
 have B3:=Lib.hid (below_step B2.out (Nat.le_refl _) hbb)
 clear Q2 E2 C2 B2
 clear hb bq hbb
 go_wp2_with fail
 refine (PR.out _).mono ?_
 rintro e w4 ⟨ar,cr,rfl,hc,hb⟩
 have bq:=(Below.refl w4.heap.size w4).alloc (Nat.le_refl _) (.cells #[.int .i64 5,.int .i64 2,.int .i64 1,.string ⟨#[]⟩,.string ⟨#[]⟩,.int .i64 0,.slice ar 0 cr,.string ⟨#[110,49]⟩,.int .i64 30,.int .i64 0,.int .i64 0,.string ⟨#[]⟩,.string ⟨#[99,97,114]⟩,.int .i64 600] 28)
 have hbb:=below_step hb (Nat.le_refl _) bq
 have Qp:=Lib.hid (row_later hb Q3.out)
 have Q4:=Lib.hid (row_later hbb Q3.out)
 have E4:=Lib.hid (E3.out.later hbb)
 have C4:=Lib.hid (C3.out.later hbb)
 have B4:=Lib.hid (below_step B3.out (Nat.le_refl _) hbb)
 clear Q3 E3 C3 B3
 have R4:=Lib.hid (row_new w4 (.cells #[.int .i64 5,.int .i64 2,.int .i64 1,.string ⟨#[]⟩,.string ⟨#[]⟩,.int .i64 0,.slice ar 0 cr,.string ⟨#[110,49]⟩,.int .i64 30,.int .i64 0,.int .i64 0,.string ⟨#[]⟩,.string ⟨#[99,97,114]⟩,.int .i64 600] 28))
 have D4:=Lib.hid (hc.later bq)
 clear hb bq hbb hc PQ PF PG PR
 have qz:=lt_of_block Qp.out
 have q0:=cell_of_row w4 _ 0 _ _ _ Qp.out
 have q1:=cell_of_row w4 _ 1 _ _ _ Qp.out
 have q2:=cell_of_row w4 _ 2 _ _ _ Qp.out
 have q3:=cell_of_row w4 _ 3 _ _ _ Qp.out
 have q4:=cell_of_row w4 _ 4 _ _ _ Qp.out
 have q5:=cell_of_row w4 _ 5 _ _ _ Qp.out
 have q6:=cell_of_row w4 _ 6 _ _ _ Qp.out
 have q7:=cell_of_row w4 _ 7 _ _ _ Qp.out
 have q8:=cell_of_row w4 _ 8 _ _ _ Qp.out
 have q9:=cell_of_row w4 _ 9 _ _ _ Qp.out
 have q10:=cell_of_row w4 _ 10 _ _ _ Qp.out
 have q11:=cell_of_row w4 _ 11 _ _ _ Qp.out
 have q12:=cell_of_row w4 _ 12 _ _ _ Qp.out
 have q13:=cell_of_row w4 _ 13 _ _ _ Qp.out
 simp only [List.getElem?_toArray,List.getElem?_cons_zero,List.getElem?_cons_succ] at q0 q1 q2 q3 q4 q5 q6 q7 q8 q9 q10 q11 q12 q13
 have TQ:=Lib.hid (fun W hc he=>textQ_any aq cq W hc he)
 go_wp2_with fail
 generalize hw5:w4.alloc (.cells #[.int .i64 5,.int .i64 2,.int .i64 1,.string ⟨#[]⟩,.string ⟨#[]⟩,.int .i64 0,.slice ar 0 cr,.string ⟨#[110,49]⟩,.int .i64 30,.int .i64 0,.int .i64 0,.string ⟨#[]⟩,.string ⟨#[99,97,114]⟩,.int .i64 600] 28)=w5
 rw [hw5] at Q4 E4 C4 R4 D4 B4
 clear hw5 Qp
 clear q0 q1 q2 q3 q4 q5 q6 q7 q8 q9 q10 q11 q12 q13 qz
 refine (TQ.out _ C4.out E4.out).mono ?_
 rintro e w6 ⟨rfl,hb⟩
 have Q6:=Lib.hid (row_later hb Q4.out)
 have R6:=Lib.hid (row_later hb R4.out)
 have E6:=Lib.hid (E4.out.later hb)
 have C6:=Lib.hid (C4.out.later hb)
 have D6:=Lib.hid (D4.out.later hb)
 have B6:=Lib.hid (below_step B4.out (Nat.le_refl _) hb)
 clear Q4 R4 E4 C4 D4 B4
 clear hb TQ
 have hop:=cQ_open C6.out
 obtain ⟨b,off,b1,off1,cap1,haq,k0,k1,k2⟩:=hop
 subst haq
 have z0:=lt_of_cell k0
 have z1:=lt_of_cell k1
 have z2:=lt_of_cell k2
 have qz:=lt_of_block Q6.out
 have q0:=cell_of_row w6 _ 0 _ _ _ Q6.out
 have q1:=cell_of_row w6 _ 1 _ _ _ Q6.out
 have q2:=cell_of_row w6 _ 2 _ _ _ Q6.out
 have q3:=cell_of_row w6 _ 3 _ _ _ Q6.out
 have q4:=cell_of_row w6 _ 4 _ _ _ Q6.out
 have q5:=cell_of_row w6 _ 5 _ _ _ Q6.out
 have q6:=cell_of_row w6 _ 6 _ _ _ Q6.out
 have q7:=cell_of_row w6 _ 7 _ _ _ Q6.out
 have q8:=cell_of_row w6 _ 8 _ _ _ Q6.out
 have q9:=cell_of_row w6 _ 9 _ _ _ Q6.out
 have q10:=cell_of_row w6 _ 10 _ _ _ Q6.out
 have q11:=cell_of_row w6 _ 11 _ _ _ Q6.out
 have q12:=cell_of_row w6 _ 12 _ _ _ Q6.out
 have q13:=cell_of_row w6 _ 13 _ _ _ Q6.out
 simp only [List.getElem?_toArray,List.getElem?_cons_zero,List.getElem?_cons_succ] at q0 q1 q2 q3 q4 q5 q6 q7 q8 q9 q10 q11 q12 q13
 have rz:=lt_of_block R6.out
 have r0:=cell_of_row w6 _ 0 _ _ _ R6.out
 have r1:=cell_of_row w6 _ 1 _ _ _ R6.out
 have r2:=cell_of_row w6 _ 2 _ _ _ R6.out
 have r3:=cell_of_row w6 _ 3 _ _ _ R6.out
 have r4:=cell_of_row w6 _ 4 _ _ _ R6.out
 have r5:=cell_of_row w6 _ 5 _ _ _ R6.out
 have r6:=cell_of_row w6 _ 6 _ _ _ R6.out
 have r7:=cell_of_row w6 _ 7 _ _ _ R6.out
 have r8:=cell_of_row w6 _ 8 _ _ _ R6.out
 have r9:=cell_of_row w6 _ 9 _ _ _ R6.out
 have r10:=cell_of_row w6 _ 10 _ _ _ R6.out
 have r11:=cell_of_row w6 _ 11 _ _ _ R6.out
 have r12:=cell_of_row w6 _ 12 _ _ _ R6.out
 have r13:=cell_of_row w6 _ 13 _ _ _ R6.out
 simp only [List.getElem?_toArray,List.getElem?_cons_zero,List.getElem?_cons_succ] at r0 r1 r2 r3 r4 r5 r6 r7 r8 r9 r10 r11 r12 r13
 have bt:=(Below.refl w6.heap.size w6).alloc (Nat.le_refl _) (.cells #[.string ⟨#[99,108,97,115,115]⟩,.string ⟨#[99,97,102,101]⟩,.string ⟨#[108,101,118,101,108]⟩,.string ⟨#[50]⟩] 58)
 have bo:=bt.alloc bt.size (.cells #[.string ⟨#[]⟩,.int .i64 0,.int .i64 0,.int .i64 0,.slice none 0 0,.slice (some ⟨w6.heap.size,0,none⟩) 2 2] 50)
 have T7:=Lib.hid (row_past (o':=.cells #[.string ⟨#[]⟩,.int .i64 0,.int .i64 0,.int .i64 0,.slice none 0 0,.slice (some ⟨w6.heap.size,0,none⟩) 2 2] 50) (row_new w6 (.cells #[.string ⟨#[99,108,97,115,115]⟩,.string ⟨#[99,97,102,101]⟩,.string ⟨#[108,101,118,101,108]⟩,.string ⟨#[50]⟩] 58)))
 have O7:=Lib.hid (row_new1 w6 (.cells #[.string ⟨#[99,108,97,115,115]⟩,.string ⟨#[99,97,102,101]⟩,.string ⟨#[108,101,118,101,108]⟩,.string ⟨#[50]⟩] 58) (.cells #[.string ⟨#[]⟩,.int .i64 0,.int .i64 0,.int .i64 0,.slice none 0 0,.slice (some ⟨w6.heap.size,0,none⟩) 2 2] 50))
 have Q7:=Lib.hid (row_later bo Q6.out)
 have R7:=Lib.hid (row_later bo R6.out)
 have E7:=Lib.hid (E6.out.later bo)
 have C7:=Lib.hid (C6.out.later bo)
 have D7:=Lib.hid (D6.out.later bo)
 have B7:=Lib.hid (below_step B6.out (Nat.le_refl _) bo)
 clear Q6 R6 E6 C6 D6 B6
 clear bt bo
 have CR:=Lib.hid (fun W hc=>checkR_any ar cr W hc)
 have CQ:=Lib.hid (fun W hc=>checkQ_any (some ⟨b,off,none⟩) cq W hc)
 go_wp2_with fail
 generalize hw7:(w6.alloc (.cells #[.string ⟨#[99,108,97,115,115]⟩,.string ⟨#[99,97,102,101]⟩,.string ⟨#[108,101,118,101,108]⟩,.string ⟨#[50]⟩] 58)).alloc (.cells #[.string ⟨#[]⟩,.int .i64 0,.int .i64 0,.int .i64 0,.slice none 0 0,.slice (some ⟨w6.heap.size,0,none⟩) 2 2] 50)=w7
 rw [hw7] at Q7 R7 E7 C7 D7 B7 T7 O7
 clear hw7
 refine (CR.out _ D7.out).mono ?_
 rintro e w8 ⟨rfl,hb⟩
 have Q8:=Lib.hid (row_later hb Q7.out)
 have T8:=Lib.hid (row_later hb T7.out)
 have O8:=Lib.hid (row_later hb O7.out)
 have E8:=Lib.hid (E7.out.later hb)
 have C8:=Lib.hid (C7.out.later hb)
 have B8:=Lib.hid (below_step B7.out (Nat.le_refl _) hb)
 clear Q7 T7 O7 E7 C7 B7
 clear hb CR R7 D7
 clear q0 q1 q2 q3 q4 q5 q6 q7 q8 q9 q10 q11 q12 q13 qz
 clear r0 r1 r2 r3 r4 r5 r6 r7 r8 r9 r10 r11 r12 r13 rz
 have qz:=lt_of_block Q8.out
 have q0:=cell_of_row w8 _ 0 _ _ _ Q8.out
 have q1:=cell_of_row w8 _ 1 _ _ _ Q8.out
 have q2:=cell_of_row w8 _ 2 _ _ _ Q8.out
 have q3:=cell_of_row w8 _ 3 _ _ _ Q8.out
 have q4:=cell_of_row w8 _ 4 _ _ _ Q8.out
 have q5:=cell_of_row w8 _ 5 _ _ _ Q8.out
 have q6:=cell_of_row w8 _ 6 _ _ _ Q8.out
 have q7:=cell_of_row w8 _ 7 _ _ _ Q8.out
 have q8:=cell_of_row w8 _ 8 _ _ _ Q8.out
 have q9:=cell_of_row w8 _ 9 _ _ _ Q8.out
 have q10:=cell_of_row w8 _ 10 _ _ _ Q8.out
 have q11:=cell_of_row w8 _ 11 _ _ _ Q8.out
 have q12:=cell_of_row w8 _ 12 _ _ _ Q8.out
 have q13:=cell_of_row w8 _ 13 _ _ _ Q8.out
 simp only [List.getElem?_toArray,List.getElem?_cons_zero,List.getElem?_cons_succ] at q0 q1 q2 q3 q4 q5 q6 q7 q8 q9 q10 q11 q12 q13
 go_wp2_with fail
 refine (CQ.out _ C8.out).mono ?_
 rintro e w9 ⟨rfl,hb⟩
 have Q9:=Lib.hid (row_later hb Q8.out)
 have T9:=Lib.hid (row_later hb T8.out)
 have O9:=Lib.hid (row_later hb O8.out)
 have E9:=Lib.hid (E8.out.later hb)
 have C9:=Lib.hid (C8.out.later hb)
 have B9:=Lib.hid (below_step B8.out (Nat.le_refl _) hb)
 clear Q8 T8 O8 E8 C8 B8
 clear hb CQ
 clear q0 q1 q2 q3 q4 q5 q6 q7 q8 q9 q10 q11 q12 q13 qz
 obtain ⟨oz,o0,o1,o2,o3,o4,o5⟩:=rk6 O9.out
 obtain ⟨tz,t0,t1,t2,t3⟩:=rk4 T9.out
 obtain ⟨i0,hi,hi0,hi1,hi2⟩:=info_parts infoTagQ
 have hz9:w6.heap.size+1<w9.heap.size:=lt_of_block O9.out
 have ow9:((w9.alloc (.cells #[.string ⟨#[]⟩,.int .i64 0,.int .i64 0,.int .i64 0,.slice none 0 0,.slice (some ⟨w6.heap.size,0,none⟩) 2 2] 50)).alloc (.cells #[] 58)).ownsRow (w9.heap.size+1) 58 2 (.slice (some ⟨w9.heap.size+1,0,none⟩) 0 0) 0 [] :=
  ⟨rfl,.inr ⟨w9.heap.size+1,0,#[],rfl,Nat.le_refl _,row_new1 _ _ _,Nat.le_refl _,by unfold maxLen;omega,rfl,rfl⟩⟩
 have HW9:=Lib.hid ow9
 have HX9:=Lib.hid (row_past (o':=.cells #[] 58) (row_new w9 (.cells #[.string ⟨#[]⟩,.int .i64 0,.int .i64 0,.int .i64 0,.slice none 0 0,.slice (some ⟨w6.heap.size,0,none⟩) 2 2] 50)))
 have HT9:=Lib.hid (row_past (o':=.cells #[] 58) (row_past (o':=.cells #[.string ⟨#[]⟩,.int .i64 0,.int .i64 0,.int .i64 0,.slice none 0 0,.slice (some ⟨w6.heap.size,0,none⟩) 2 2] 50) T9.out))
 have BA9:=Lib.hid (((Below.refl w9.heap.size w9).alloc (Nat.le_refl _) (.cells #[.string ⟨#[]⟩,.int .i64 0,.int .i64 0,.int .i64 0,.slice none 0 0,.slice (some ⟨w6.heap.size,0,none⟩) 2 2] 50)).alloc (by simp) (.cells #[] 58))
 clear ow9
 have HQ9:=Lib.hid (row_past (o':=.cells #[] 58) (row_past (o':=.cells #[.string ⟨#[]⟩,.int .i64 0,.int .i64 0,.int .i64 0,.slice none 0 0,.slice (some ⟨w6.heap.size,0,none⟩) 2 2] 50) Q9.out))
 have HO9:=Lib.hid (row_past (o':=.cells #[] 58) (row_past (o':=.cells #[.string ⟨#[]⟩,.int .i64 0,.int .i64 0,.int .i64 0,.slice none 0 0,.slice (some ⟨w6.heap.size,0,none⟩) 2 2] 50) O9.out))
 have hq9:=lt_of_block Q9.out
 go_wp2_with (
  at_builtin
  refine wpList_append_own _ rfl _ _ 48 rfl (w9.heap.size+1) 58 i0 (.agg #[.string ⟨#[]⟩,.string ⟨#[]⟩]) 2 32 Tryz.underlying48 hi hi0 hi1 hi2 rfl (by decide) _ _ _ rfl HW9.out ⟨w6.heap.size,0,none⟩ 2 2 [.string ⟨#[99,108,97,115,115]⟩,.string ⟨#[99,97,102,101]⟩,.string ⟨#[108,101,118,101,108]⟩,.string ⟨#[50]⟩] rfl rfl (cells_rowQ HT9.out) (by simp [Value.oneCell']) (by unfold maxLen<;>omega) (by omega) (by simp<;>omega) ?_
  intro v10 w10 hown hgrow hxx
  clear hxx
  obtain ⟨g,cap2,cur,rfl,hg1,hrow,hcell⟩:=own_rowH hown (by omega)
  have hne:∀x,x<w9.heap.size+1→some x≠Value.ownBlock (.slice (some ⟨w9.heap.size+1,0,none⟩) 0 0):=fun x hx e=>by injection e with e;simp only at e;omega
  have X10:=Lib.hid (row_grownH hgrow HX9.out (hne _ (by omega)))
  have T10:=Lib.hid (row_grownH hgrow HT9.out (hne _ (by omega)))
  have Q10:=Lib.hid (row_grownH hgrow HQ9.out (hne _ (by omega)))
  have O10:=Lib.hid (row_grownH hgrow HO9.out (hne _ (by omega)))
  have B10:=Lib.hid (BA9.out.grown hgrow (by simp<;>omega) (fun j hj=>by injection hj with hj;simp only at hj;omega))
  have g0:=hcell 0 _ rfl
  have g1:=hcell 1 _ rfl
  have g2:=hcell 2 _ rfl
  have g3:=hcell 3 _ rfl
  have gf3:=frozen_of_row w10 _ 3 _ _ hrow
  have HR10:=Lib.hid hrow
  have hgn:g≠w9.heap.size:=by omega
  have hgn':w9.heap.size≠g:=by omega
  have hz10:=B10.out.size
  have hgz:=lt_of_block hrow
  have n1:w1.heap.size≠w9.heap.size:=by omega
  have n2:w1.heap.size≠g:=by omega
  have n3:w6.heap.size+1≠w9.heap.size:=by omega
  have n4:w6.heap.size+1≠g:=by omega
  clear hown hgrow hcell hrow hne
  obtain ⟨xz,x0,x1,x2,x3,x4,x5⟩:=rk6 X10.out
  have xf0:=frozen_of_row w10 _ 0 _ _ X10.out
  have xf1:=frozen_of_row w10 _ 1 _ _ X10.out
  have xf2:=frozen_of_row w10 _ 2 _ _ X10.out
  have xf3:=frozen_of_row w10 _ 3 _ _ X10.out
  have xf4:=frozen_of_row w10 _ 4 _ _ X10.out
  have xf5:=frozen_of_row w10 _ 5 _ _ X10.out
  have qz:=lt_of_block Q10.out
  have q0:=cell_of_row w10 _ 0 _ _ _ Q10.out
  have q1:=cell_of_row w10 _ 1 _ _ _ Q10.out
  have q2:=cell_of_row w10 _ 2 _ _ _ Q10.out
  have q3:=cell_of_row w10 _ 3 _ _ _ Q10.out
  have q4:=cell_of_row w10 _ 4 _ _ _ Q10.out
  have q5:=cell_of_row w10 _ 5 _ _ _ Q10.out
  have q6:=cell_of_row w10 _ 6 _ _ _ Q10.out
  have q7:=cell_of_row w10 _ 7 _ _ _ Q10.out
  have q8:=cell_of_row w10 _ 8 _ _ _ Q10.out
  have q9:=cell_of_row w10 _ 9 _ _ _ Q10.out
  have q10:=cell_of_row w10 _ 10 _ _ _ Q10.out
  have q11:=cell_of_row w10 _ 11 _ _ _ Q10.out
  have q12:=cell_of_row w10 _ 12 _ _ _ Q10.out
  have q13:=cell_of_row w10 _ 13 _ _ _ Q10.out
  simp only [List.getElem?_toArray,List.getElem?_cons_zero,List.getElem?_cons_succ] at q0 q1 q2 q3 q4 q5 q6 q7 q8 q9 q10 q11 q12 q13
  clear o0 o1 o2 o3 o4 o5 oz
  clear t0 t1 t2 t3 tz
  obtain ⟨oz,o0,o1,o2,o3,o4,o5⟩:=rk6 O10.out
  )
 have bc:=(B10.out.setCell (p:=⟨w9.heap.size,5,none⟩) (by simp only;omega) (.slice (some ⟨g,0,none⟩) 2 cap2)).setCell (p:=⟨g,3,none⟩) (by simp only;omega) (.string ⟨#[51]⟩)
 have r2:=row_set_other (a:=⟨w9.heap.size,5,none⟩) (v:=.slice (some ⟨g,0,none⟩) 2 cap2) HR10.out hgn
 have c2:=tags_set3 (.string ⟨#[51]⟩) r2 (cell_sameH HR10.out r2 g0) (cell_sameH HR10.out r2 g1) (cell_sameH HR10.out r2 g2) (cell_sameH HR10.out r2 g3)
 clear r2
 have rq:=row_set_other (a:=⟨g,3,none⟩) (v:=.string ⟨#[51]⟩) (row_set_other (a:=⟨w9.heap.size,5,none⟩) (v:=.slice (some ⟨g,0,none⟩) 2 cap2) Q10.out n1) n2
 have rt:=row_set_other (a:=⟨g,3,none⟩) (v:=.string ⟨#[51]⟩) (row_set_other (a:=⟨w9.heap.size,5,none⟩) (v:=.slice (some ⟨g,0,none⟩) 2 cap2) T10.out (show w6.heap.size≠w9.heap.size by omega)) (show w6.heap.size≠g by omega)
 have rx:=row_set_other (a:=⟨g,3,none⟩) (v:=.string ⟨#[51]⟩) (row_set (i:=5) (v:=.slice (some ⟨g,0,none⟩) 2 cap2) X10.out) hgn'
 generalize hw12:((w10.setCell ⟨w9.heap.size,5,none⟩ (.slice (some ⟨g,0,none⟩) 2 cap2)).setCell ⟨g,3,none⟩ (.string ⟨#[51]⟩))=w12
 rw [hw12] at bc c2 rq rt rx
 clear hw12
 clear q0 q1 q2 q3 q4 q5 q6 q7 q8 q9 q10 q11 q12 q13 qz
 clear o0 o1 o2 o3 o4 o5 oz
 clear x0 x1 x2 x3 x4 x5 xz xf0 xf1 xf2 xf3 xf4 xf5
 have Q12:=Lib.hid rq
 have X12:=Lib.hid (show w12.heap[w9.heap.size]?=some (.cells #[.string ⟨#[]⟩,.int .i64 0,.int .i64 0,.int .i64 0,.slice none 0 0,.slice (some ⟨g,0,none⟩) 2 cap2] 50 (0,0)) from rx)
 have C12:=Lib.hid (C9.out.later bc)
 have E12:=Lib.hid (E9.out.later bc)
 have B12:=Lib.hid (below_step B9.out (Nat.le_refl _) bc)
 have G12:=Lib.hid (show TagRow w12 (.slice (some ⟨g,0,none⟩) 2 cap2) [⟨wClass,wCafe⟩,⟨wLevel,⟨#[51]⟩⟩] from tags_two c2.1 c2.2.1 c2.2.2.1 c2.2.2.2 (by decide))
 have K12:=Lib.hid (show TagRow w12 (.slice (some ⟨w6.heap.size,0,none⟩) 2 2) [⟨wClass,wCafe⟩,⟨wLevel,⟨#[50]⟩⟩] from tags_two (by rw [cell_of_row _ _ 0 _ _ _ rt];rfl) (by rw [cell_of_row _ _ 1 _ _ _ rt];rfl) (by rw [cell_of_row _ _ 2 _ _ _ rt];rfl) (by rw [cell_of_row _ _ 3 _ _ _ rt];rfl) (by decide))
 clear bc c2 rq rt rx
 refine (holdsA_any _ _ _ _ C12.out K12.out E12.out).mono ?_
 rintro e w13 ⟨rfl,hb⟩
 have Q13:=Lib.hid (row_later hb Q12.out)
 have X13:=Lib.hid (row_later hb X12.out)
 have C13:=Lib.hid (C12.out.later hb)
 have E13:=Lib.hid (E12.out.later hb)
 have G13:=Lib.hid (G12.out.later hb)
 have B13:=Lib.hid (below_step B12.out (Nat.le_refl _) hb)
 clear hb
 have qz:=lt_of_block Q13.out
 have q0:=cell_of_row w13 _ 0 _ _ _ Q13.out
 have q1:=cell_of_row w13 _ 1 _ _ _ Q13.out
 have q2:=cell_of_row w13 _ 2 _ _ _ Q13.out
 have q3:=cell_of_row w13 _ 3 _ _ _ Q13.out
 have q4:=cell_of_row w13 _ 4 _ _ _ Q13.out
 have q5:=cell_of_row w13 _ 5 _ _ _ Q13.out
 have q6:=cell_of_row w13 _ 6 _ _ _ Q13.out
 have q7:=cell_of_row w13 _ 7 _ _ _ Q13.out
 have q8:=cell_of_row w13 _ 8 _ _ _ Q13.out
 have q9:=cell_of_row w13 _ 9 _ _ _ Q13.out
 have q10:=cell_of_row w13 _ 10 _ _ _ Q13.out
 have q11:=cell_of_row w13 _ 11 _ _ _ Q13.out
 have q12:=cell_of_row w13 _ 12 _ _ _ Q13.out
 have q13:=cell_of_row w13 _ 13 _ _ _ Q13.out
 simp only [List.getElem?_toArray,List.getElem?_cons_zero,List.getElem?_cons_succ] at q0 q1 q2 q3 q4 q5 q6 q7 q8 q9 q10 q11 q12 q13
 obtain ⟨xz,x0,x1,x2,x3,x4,x5⟩:=rk6 X13.out
 go_wp2_with fail
 refine (holdsB_any _ _ _ _ C13.out G13.out E13.out).mono ?_
 rintro e w14 ⟨rfl,hb⟩
 have Q14:=Lib.hid (row_later hb Q13.out)
 have C14:=Lib.hid (C13.out.later hb)
 have B14:=Lib.hid (below_step B13.out (Nat.le_refl _) hb)
 clear hb
 clear q0 q1 q2 q3 q4 q5 q6 q7 q8 q9 q10 q11 q12 q13 qz
 clear x0 x1 x2 x3 x4 x5 xz
 have qz:=lt_of_block Q14.out
 have q0:=cell_of_row w14 _ 0 _ _ _ Q14.out
 have q1:=cell_of_row w14 _ 1 _ _ _ Q14.out
 have q2:=cell_of_row w14 _ 2 _ _ _ Q14.out
 have q3:=cell_of_row w14 _ 3 _ _ _ Q14.out
 have q4:=cell_of_row w14 _ 4 _ _ _ Q14.out
 have q5:=cell_of_row w14 _ 5 _ _ _ Q14.out
 have q6:=cell_of_row w14 _ 6 _ _ _ Q14.out
 have q7:=cell_of_row w14 _ 7 _ _ _ Q14.out
 have q8:=cell_of_row w14 _ 8 _ _ _ Q14.out
 have q9:=cell_of_row w14 _ 9 _ _ _ Q14.out
 have q10:=cell_of_row w14 _ 10 _ _ _ Q14.out
 have q11:=cell_of_row w14 _ 11 _ _ _ Q14.out
 have q12:=cell_of_row w14 _ 12 _ _ _ Q14.out
 have q13:=cell_of_row w14 _ 13 _ _ _ Q14.out
 simp only [List.getElem?_toArray,List.getElem?_cons_zero,List.getElem?_cons_succ] at q0 q1 q2 q3 q4 q5 q6 q7 q8 q9 q10 q11 q12 q13
 go_wp2_with fail
 refine (validQQ_any _ _ _ C14.out).mono ?_
 rintro e w15 ⟨rfl,hb⟩
 have B15:=below_step B14.out (Nat.le_refl _) hb
 clear hb
 go_wp2
 go_ret
 exact ⟨rfl,B15⟩
end Go.Proofs.YtdfenhjibnfdeaaGreatDoor
