/-  -/
import Derived.Test.YtdfenhjibnfdeaaGreatDoorQyAu
namespace Go.Proofs.YtdfenhjibnfdeaaGreatDoor
open Go.RowKit Go.Shelf
theorem bind_okE {α β:Type} (a:α) (r:List TokD) (f:α→List TokD→PR β):(PR.ok a r).bind f=f a r:=rfl
def zeroQ:QryD:=⟨0,0,.mk 0 emptyB emptyB 0 [],emptyB,0,0,0,emptyB,emptyB,0⟩
abbrev askC (q:QryD):Array Value:=#[.int .i64 q.ask,.int .i64 0,.int .i64 0,.string ⟨#[]⟩,.string ⟨#[]⟩,.int .i64 0,.slice none 0 0,.string q.id,.int .i64 q.n,.int .i64 q.x,.int .i64 q.y,.string q.key,.string q.prof,.int .i64 q.minute]
def Keep2 (pb qb:Nat) (w1 W:World):Prop:=w1.heap.size≤W.heap.size∧∀b,b<w1.heap.size→b≠pb→b≠qb→W.heap[b]?=w1.heap[b]?
theorem Keep2.refl (pb qb:Nat) (w1:World):Keep2 pb qb w1 w1:=⟨Nat.le_refl _,fun _ _ _ _=>rfl⟩
theorem Keep2.call {pb qb:Nat} {w1 W W2:World} (h:Keep2 pb qb w1 W) (k:KeepB pb W W2):Keep2 pb qb w1 W2 :=
 ⟨Nat.le_trans h.1 k.1,fun b hb h1 h2=>(k.2 b (Nat.lt_of_lt_of_le hb h.1) h1).trans (h.2 b hb h1 h2)⟩
theorem Keep2.set {pb qb:Nat} {w1 W:World} (h:Keep2 pb qb w1 W) (i:Nat) (v:Value):Keep2 pb qb w1 (W.setCell ⟨qb,i,none⟩ v) :=
 ⟨by simpa using h.1,fun b hb h1 h2=>by rw [Below.heap_setCell _ _ _ _ h2];exact h.2 b hb h1 h2⟩
def AskR (B pb fin qb:Nat) (r:PR QryD) (w0 w1:World) (e:Ending) (w':World):Prop:=PMem B pb w0 w'∧Keep2 pb qb w1 w'∧match r with
 |.ok q rest=>e=.returned (.tuple #[])∧w'.heap[qb]?=some (.cells (askC q) 28 (0,0))∧PAt B w' pb rest fin
 |.bad er off=>e=failE er off
theorem one_set {B pb fin D i:Nat} {w0 W:World} {u:Value} {r:List TokD} (hM:PMem B pb w0 W) (hP:PAt B W pb r fin) (hD:w0.heap.size≤D) (hB:B≤w0.heap.size) (hpb:pb<w0.heap.size):PMem B pb w0 (W.setCell ⟨D,i,none⟩ u)∧PAt B (W.setCell ⟨D,i,none⟩ u) pb r fin :=
 ⟨⟨hM.low.setCell (by simp only;omega) _,hM.keep.over hD _⟩,hP.keep ((Below.refl _ _).setCell (by simp only;omega) _) (Below.heap_setCell _ _ _ _ (by simp only;omega))⟩
def askR (fin:Nat):Nat→List TokD→PR QryD
 |1,r=>.ok { zeroQ with ask:=1 } r
 |2,r=>(nameP fin r).bind fun v1 r1=>.ok { zeroQ with ask:=2,id:=v1 } r1
 |3,r=>(nameP fin r).bind fun v1 r1=>(wantP fin wBy r1).bind fun _ r2=>(numP fin 0 1048576 r2).bind fun v3 r3=>.ok { zeroQ with ask:=3,id:=v1,n:=v3 } r3
 |4,r=>(numP fin 1 10000 r).bind fun v1 r1=>(wantP fin wTo r1).bind fun _ r2=>(numP fin 0 1048575 r2).bind fun v3 r3=>(numP fin 0 1048575 r3).bind fun v4 r4=>.ok { zeroQ with ask:=4,n:=v1,x:=v3,y:=v4 } r4
 |5,r=>(nameP fin r).bind fun v1 r1=>(wantP fin wIn r1).bind fun _ r2=>(numP fin 0 10080 r2).bind fun v3 r3=>(wantP fin wBy r3).bind fun _ r4=>(nameP fin r4).bind fun v5 r5=>(wantP fin wAt r5).bind fun _ r6=>(numP fin 0 9999999 r6).bind fun v7 r7=>.ok { zeroQ with ask:=5,id:=v1,n:=v3,prof:=v5,minute:=v7 } r7
 |6,r=>(nameP fin r).bind fun v1 r1=>.ok { zeroQ with ask:=6,key:=v1 } r1
 |_,r=>failP fin 5 r
set_option maxHeartbeats 1000000 in
theorem ask1_any (B pb:Nat) (_hB:B≤pb) (fin bx qb:Nat) (w0 w1:World) (hB0:B≤w0.heap.size) (hpb:pb<w0.heap.size) (_hx0:w0.heap.size≤bx) (hq0:w0.heap.size≤qb) (_hne:bx≠qb) (ts:List TokD) (hm:PMem B pb w0 w1) (hp:PAt B w1 pb ts fin) (_hx:w1.heap[bx]?=some (.cells #[.pointer (some ⟨pb,0,none⟩)] 78 (0,0))) (hq:w1.heap[qb]?=some (.cells (askC zeroQ) 28 (0,0))) :
  Calls Tryz.prog 90 #[.pointer (some ⟨qb,0,none⟩)] w1 (AskR B pb fin qb (askR fin 1 ts) w0 w1):=by
 have HQ1:=Lib.hid hq
 have hos:=one_set (i:=0) (u:=.int .i64 1) hm hp hq0 hB0 hpb
 clear _hx hq
 go_enter Tryz.func90,Tryz.ntmps90
 have qz:=lt_of_block HQ1.out
 have q0:=cell_of_row w1 _ 0 _ _ _ HQ1.out
 have q1:=cell_of_row w1 _ 1 _ _ _ HQ1.out
 have q2:=cell_of_row w1 _ 2 _ _ _ HQ1.out
 have q3:=cell_of_row w1 _ 3 _ _ _ HQ1.out
 have q4:=cell_of_row w1 _ 4 _ _ _ HQ1.out
 have q5:=cell_of_row w1 _ 5 _ _ _ HQ1.out
 have q6:=cell_of_row w1 _ 6 _ _ _ HQ1.out
 have q7:=cell_of_row w1 _ 7 _ _ _ HQ1.out
 have q8:=cell_of_row w1 _ 8 _ _ _ HQ1.out
 have q9:=cell_of_row w1 _ 9 _ _ _ HQ1.out
 have q10:=cell_of_row w1 _ 10 _ _ _ HQ1.out
 have q11:=cell_of_row w1 _ 11 _ _ _ HQ1.out
 have q12:=cell_of_row w1 _ 12 _ _ _ HQ1.out
 have q13:=cell_of_row w1 _ 13 _ _ _ HQ1.out
 have qf0:=frozen_of_row w1 _ 0 _ _ HQ1.out
 have qf1:=frozen_of_row w1 _ 1 _ _ HQ1.out
 have qf2:=frozen_of_row w1 _ 2 _ _ HQ1.out
 have qf3:=frozen_of_row w1 _ 3 _ _ HQ1.out
 have qf4:=frozen_of_row w1 _ 4 _ _ HQ1.out
 have qf5:=frozen_of_row w1 _ 5 _ _ HQ1.out
 have qf6:=frozen_of_row w1 _ 6 _ _ HQ1.out
 have qf7:=frozen_of_row w1 _ 7 _ _ HQ1.out
 have qf8:=frozen_of_row w1 _ 8 _ _ HQ1.out
 have qf9:=frozen_of_row w1 _ 9 _ _ HQ1.out
 have qf10:=frozen_of_row w1 _ 10 _ _ HQ1.out
 have qf11:=frozen_of_row w1 _ 11 _ _ HQ1.out
 have qf12:=frozen_of_row w1 _ 12 _ _ HQ1.out
 have qf13:=frozen_of_row w1 _ 13 _ _ HQ1.out
 simp only [List.getElem?_toArray,List.getElem?_cons_zero,List.getElem?_cons_succ] at q0 q1 q2 q3 q4 q5 q6 q7 q8 q9 q10 q11 q12 q13
 go_wp2
 go_end0
 exact ⟨hos.1,(Keep2.refl _ _ _).set _ _,rfl,row_set (i:=0) HQ1.out,hos.2⟩
set_option maxRecDepth 100000 in
set_option maxHeartbeats 4000000 in
theorem ask2_any (B pb:Nat) (hB:B≤pb) (fin bx qb:Nat) (w0 w1:World) (hB0:B≤w0.heap.size) (hpb:pb<w0.heap.size) (hx0:w0.heap.size≤bx) (hq0:w0.heap.size≤qb) (hne:bx≠qb) (ts:List TokD) (hm:PMem B pb w0 w1) (hp:PAt B w1 pb ts fin) (hx:w1.heap[bx]?=some (.cells #[.pointer (some ⟨pb,0,none⟩)] 78 (0,0))) (hq:w1.heap[qb]?=some (.cells (askC zeroQ) 28 (0,0))) :
  Calls Tryz.prog 91 #[.pointer (some ⟨bx,0,none⟩),.pointer (some ⟨qb,0,none⟩)] w1 (AskR B pb fin qb (askR fin 2 ts) w0 w1):=by
 have HX1:=Lib.hid hx
 have HQ1:=Lib.hid (show w1.heap[qb]?=some (.cells #[.int .i64 0,.int .i64 0,.int .i64 0,.string ⟨#[]⟩,.string ⟨#[]⟩,.int .i64 0,.slice none 0 0,.string ⟨#[]⟩,.int .i64 0,.int .i64 0,.int .i64 0,.string ⟨#[]⟩,.string ⟨#[]⟩,.int .i64 0] 28 (0,0)) from hq)
 have HM1:=Lib.hid hm
 have HP1:=Lib.hid hp
 have HK1:=Lib.hid (Keep2.refl pb qb w1)
 have hs0:=hm.keep.1
 obtain ⟨RES,hRES⟩:∃z,askR fin 2 ts=z:=⟨_,rfl⟩
 rw [hRES]
 have hRES:((nameP fin ts).bind fun v1 r1=>.ok { zeroQ with ask:=2,id:=v1 } r1)=RES:=hRES
 clear hx hq hm hp
 go_enter Tryz.func91,Tryz.ntmps91
 obtain ⟨xz,x0⟩:=rk1 HX1.out
 have C1:=Lib.hid (pname_any B pb hB (ts) fin w1 (by omega) HP1.out)
 cases h1:nameP fin (ts) with
 |bad er off =>
  rw [h1] at hRES C1
  have HOK:=Lib.hid (show RES=.bad er off from hRES.symm)
  clear hRES h1
  go_wp2_with fail
  refine C1.out.mono ?_
  rintro e w2 ⟨hm2,rfl⟩
  exact ⟨rfl,by rw [HOK.out];exact ⟨HM1.out.trans hm2,HK1.out.call hm2.keep,rfl⟩⟩
 |ok v1 r1 =>
  rw [h1] at hRES C1
  simp only [bind_okE] at hRES
  clear h1
  go_wp2_with fail
  refine C1.out.mono ?_
  rintro e w2 ⟨hm2,vv1,rfl,rfl,hp2⟩
  have HX2:=Lib.hid (hm2.keep.row HX1.out (by omega))
  have HQ2:=Lib.hid (hm2.keep.row HQ1.out (by omega))
  have HM2:=Lib.hid (HM1.out.trans hm2)
  have HP2:=Lib.hid hp2
  have HK2:=Lib.hid (HK1.out.call hm2.keep)
  have hs2:=hm2.keep.1
  clear hm2 hp2
  obtain ⟨xz,x0⟩:=rk1 HX2.out
  have qz:=lt_of_block HQ2.out
  have q0:=cell_of_row w2 _ 0 _ _ _ HQ2.out
  have q1:=cell_of_row w2 _ 1 _ _ _ HQ2.out
  have q2:=cell_of_row w2 _ 2 _ _ _ HQ2.out
  have q3:=cell_of_row w2 _ 3 _ _ _ HQ2.out
  have q4:=cell_of_row w2 _ 4 _ _ _ HQ2.out
  have q5:=cell_of_row w2 _ 5 _ _ _ HQ2.out
  have q6:=cell_of_row w2 _ 6 _ _ _ HQ2.out
  have q7:=cell_of_row w2 _ 7 _ _ _ HQ2.out
  have q8:=cell_of_row w2 _ 8 _ _ _ HQ2.out
  have q9:=cell_of_row w2 _ 9 _ _ _ HQ2.out
  have q10:=cell_of_row w2 _ 10 _ _ _ HQ2.out
  have q11:=cell_of_row w2 _ 11 _ _ _ HQ2.out
  have q12:=cell_of_row w2 _ 12 _ _ _ HQ2.out
  have q13:=cell_of_row w2 _ 13 _ _ _ HQ2.out
  have qf0:=frozen_of_row w2 _ 0 _ _ HQ2.out
  have qf1:=frozen_of_row w2 _ 1 _ _ HQ2.out
  have qf2:=frozen_of_row w2 _ 2 _ _ HQ2.out
  have qf3:=frozen_of_row w2 _ 3 _ _ HQ2.out
  have qf4:=frozen_of_row w2 _ 4 _ _ HQ2.out
  have qf5:=frozen_of_row w2 _ 5 _ _ HQ2.out
  have qf6:=frozen_of_row w2 _ 6 _ _ HQ2.out
  have qf7:=frozen_of_row w2 _ 7 _ _ HQ2.out
  have qf8:=frozen_of_row w2 _ 8 _ _ HQ2.out
  have qf9:=frozen_of_row w2 _ 9 _ _ HQ2.out
  have qf10:=frozen_of_row w2 _ 10 _ _ HQ2.out
  have qf11:=frozen_of_row w2 _ 11 _ _ HQ2.out
  have qf12:=frozen_of_row w2 _ 12 _ _ HQ2.out
  have qf13:=frozen_of_row w2 _ 13 _ _ HQ2.out
  simp only [List.getElem?_toArray,List.getElem?_cons_zero,List.getElem?_cons_succ] at q0 q1 q2 q3 q4 q5 q6 q7 q8 q9 q10 q11 q12 q13
  have HOK:=Lib.hid (show RES=.ok { zeroQ with ask:=2,id:=v1 } r1 from hRES.symm)
  clear hRES
  go_wp2
  generalize hw3:(w2.setCell ⟨qb,0,none⟩ (.int .i64 2)).setCell ⟨qb,7,none⟩ (.string v1)=w3
  have HX3:=Lib.hid (show w3.heap[bx]?=some (.cells #[.pointer (some ⟨pb,0,none⟩)] 78 (0,0)) by rw [←hw3];exact row_set_other (row_set_other HX2.out (by simp only;omega)) (by simp only;omega))
  have HQ3:=Lib.hid (show w3.heap[qb]?=some (.cells #[.int .i64 2,.int .i64 0,.int .i64 0,.string ⟨#[]⟩,.string ⟨#[]⟩,.int .i64 0,.slice none 0 0,.string v1,.int .i64 0,.int .i64 0,.int .i64 0,.string ⟨#[]⟩,.string ⟨#[]⟩,.int .i64 0] 28 (0,0)) by rw [←hw3];exact row_set (i:=7) (row_set (i:=0) HQ2.out))
  have HK3:=Lib.hid (show Keep2 pb qb w1 w3 by rw [←hw3];exact (HK2.out.set _ _).set _ _)
  have hos3:=one_set (i:=7) (u:=(.string v1)) (one_set (i:=0) (u:=(.int .i64 2)) HM2.out HP2.out hq0 hB0 hpb).1 (one_set (i:=0) (u:=(.int .i64 2)) HM2.out HP2.out hq0 hB0 hpb).2 hq0 hB0 hpb
  rw [hw3] at hos3
  have HM3:=Lib.hid hos3.1
  have HP3:=Lib.hid hos3.2
  have hs3:w2.heap.size≤w3.heap.size:=by rw [←hw3];simp
  clear hos3 hw3
  go_end0
  rw [HOK.out]
  exact ⟨HM3.out,HK3.out,rfl,HQ3.out,HP3.out⟩
set_option maxRecDepth 100000 in
set_option maxHeartbeats 4000000 in
theorem ask3_any (B pb:Nat) (hB:B≤pb) (fin bx qb:Nat) (w0 w1:World) (hB0:B≤w0.heap.size) (hpb:pb<w0.heap.size) (hx0:w0.heap.size≤bx) (hq0:w0.heap.size≤qb) (hne:bx≠qb) (ts:List TokD) (hm:PMem B pb w0 w1) (hp:PAt B w1 pb ts fin) (hx:w1.heap[bx]?=some (.cells #[.pointer (some ⟨pb,0,none⟩)] 78 (0,0))) (hq:w1.heap[qb]?=some (.cells (askC zeroQ) 28 (0,0))) :
  Calls Tryz.prog 93 #[.pointer (some ⟨bx,0,none⟩),.pointer (some ⟨qb,0,none⟩)] w1 (AskR B pb fin qb (askR fin 3 ts) w0 w1):=by
 have HX1:=Lib.hid hx
 have HQ1:=Lib.hid (show w1.heap[qb]?=some (.cells #[.int .i64 0,.int .i64 0,.int .i64 0,.string ⟨#[]⟩,.string ⟨#[]⟩,.int .i64 0,.slice none 0 0,.string ⟨#[]⟩,.int .i64 0,.int .i64 0,.int .i64 0,.string ⟨#[]⟩,.string ⟨#[]⟩,.int .i64 0] 28 (0,0)) from hq)
 have HM1:=Lib.hid hm
 have HP1:=Lib.hid hp
 have HK1:=Lib.hid (Keep2.refl pb qb w1)
 have hs0:=hm.keep.1
 obtain ⟨RES,hRES⟩:∃z,askR fin 3 ts=z:=⟨_,rfl⟩
 rw [hRES]
 have hRES:((nameP fin ts).bind fun v1 r1=>(wantP fin wBy r1).bind fun _ r2=>(numP fin 0 1048576 r2).bind fun v3 r3=>.ok { zeroQ with ask:=3,id:=v1,n:=v3 } r3)=RES:=hRES
 clear hx hq hm hp
 go_enter Tryz.func93,Tryz.ntmps93
 obtain ⟨xz,x0⟩:=rk1 HX1.out
 have C1:=Lib.hid (pname_any B pb hB (ts) fin w1 (by omega) HP1.out)
 cases h1:nameP fin (ts) with
 |bad er off =>
  rw [h1] at hRES C1
  have HOK:=Lib.hid (show RES=.bad er off from hRES.symm)
  clear hRES h1
  go_wp2_with fail
  refine C1.out.mono ?_
  rintro e w2 ⟨hm2,rfl⟩
  exact ⟨rfl,by rw [HOK.out];exact ⟨HM1.out.trans hm2,HK1.out.call hm2.keep,rfl⟩⟩
 |ok v1 r1 =>
  rw [h1] at hRES C1
  simp only [bind_okE] at hRES
  clear h1
  go_wp2_with fail
  refine C1.out.mono ?_
  rintro e w2 ⟨hm2,vv1,rfl,rfl,hp2⟩
  have HX2:=Lib.hid (hm2.keep.row HX1.out (by omega))
  have HQ2:=Lib.hid (hm2.keep.row HQ1.out (by omega))
  have HM2:=Lib.hid (HM1.out.trans hm2)
  have HP2:=Lib.hid hp2
  have HK2:=Lib.hid (HK1.out.call hm2.keep)
  have hs2:=hm2.keep.1
  clear hm2 hp2
  obtain ⟨xz,x0⟩:=rk1 HX2.out
  have qz:=lt_of_block HQ2.out
  have q0:=cell_of_row w2 _ 0 _ _ _ HQ2.out
  have q1:=cell_of_row w2 _ 1 _ _ _ HQ2.out
  have q2:=cell_of_row w2 _ 2 _ _ _ HQ2.out
  have q3:=cell_of_row w2 _ 3 _ _ _ HQ2.out
  have q4:=cell_of_row w2 _ 4 _ _ _ HQ2.out
  have q5:=cell_of_row w2 _ 5 _ _ _ HQ2.out
  have q6:=cell_of_row w2 _ 6 _ _ _ HQ2.out
  have q7:=cell_of_row w2 _ 7 _ _ _ HQ2.out
  have q8:=cell_of_row w2 _ 8 _ _ _ HQ2.out
  have q9:=cell_of_row w2 _ 9 _ _ _ HQ2.out
  have q10:=cell_of_row w2 _ 10 _ _ _ HQ2.out
  have q11:=cell_of_row w2 _ 11 _ _ _ HQ2.out
  have q12:=cell_of_row w2 _ 12 _ _ _ HQ2.out
  have q13:=cell_of_row w2 _ 13 _ _ _ HQ2.out
  have qf0:=frozen_of_row w2 _ 0 _ _ HQ2.out
  have qf1:=frozen_of_row w2 _ 1 _ _ HQ2.out
  have qf2:=frozen_of_row w2 _ 2 _ _ HQ2.out
  have qf3:=frozen_of_row w2 _ 3 _ _ HQ2.out
  have qf4:=frozen_of_row w2 _ 4 _ _ HQ2.out
  have qf5:=frozen_of_row w2 _ 5 _ _ HQ2.out
  have qf6:=frozen_of_row w2 _ 6 _ _ HQ2.out
  have qf7:=frozen_of_row w2 _ 7 _ _ HQ2.out
  have qf8:=frozen_of_row w2 _ 8 _ _ HQ2.out
  have qf9:=frozen_of_row w2 _ 9 _ _ HQ2.out
  have qf10:=frozen_of_row w2 _ 10 _ _ HQ2.out
  have qf11:=frozen_of_row w2 _ 11 _ _ HQ2.out
  have qf12:=frozen_of_row w2 _ 12 _ _ HQ2.out
  have qf13:=frozen_of_row w2 _ 13 _ _ HQ2.out
  simp only [List.getElem?_toArray,List.getElem?_cons_zero,List.getElem?_cons_succ] at q0 q1 q2 q3 q4 q5 q6 q7 q8 q9 q10 q11 q12 q13
  obtain ⟨w3,hw3⟩:∃z,(w2.setCell ⟨qb,0,none⟩ (.int .i64 3)).setCell ⟨qb,7,none⟩ (.string v1)=z:=⟨_,rfl⟩
  have HWW3:=Lib.hid hw3
  have HX3:=Lib.hid (show w3.heap[bx]?=some (.cells #[.pointer (some ⟨pb,0,none⟩)] 78 (0,0)) by rw [←hw3];exact row_set_other (row_set_other HX2.out (by simp only;omega)) (by simp only;omega))
  have HQ3:=Lib.hid (show w3.heap[qb]?=some (.cells #[.int .i64 3,.int .i64 0,.int .i64 0,.string ⟨#[]⟩,.string ⟨#[]⟩,.int .i64 0,.slice none 0 0,.string v1,.int .i64 0,.int .i64 0,.int .i64 0,.string ⟨#[]⟩,.string ⟨#[]⟩,.int .i64 0] 28 (0,0)) by rw [←hw3];exact row_set (i:=7) (row_set (i:=0) HQ2.out))
  have HK3:=Lib.hid (show Keep2 pb qb w1 w3 by rw [←hw3];exact (HK2.out.set _ _).set _ _)
  have hos3:=one_set (i:=7) (u:=(.string v1)) (one_set (i:=0) (u:=(.int .i64 3)) HM2.out HP2.out hq0 hB0 hpb).1 (one_set (i:=0) (u:=(.int .i64 3)) HM2.out HP2.out hq0 hB0 hpb).2 hq0 hB0 hpb
  rw [hw3] at hos3
  have HM3:=Lib.hid hos3.1
  have HP3:=Lib.hid hos3.2
  have hs3:w2.heap.size≤w3.heap.size:=by rw [←hw3];simp
  clear hos3 hw3
  have C2:=Lib.hid (want_any B pb hB (r1) fin wBy w3 HP3.out)
  cases h2:wantP fin wBy (r1) with
  |bad er off =>
   rw [h2] at hRES C2
   have HOK:=Lib.hid (show RES=.bad er off from hRES.symm)
   clear hRES h2
   go_wp2_with fail
   rw [HWW3.out]
   refine C2.out.mono ?_
   rintro e w4 ⟨hm4,rfl⟩
   exact ⟨rfl,by rw [HOK.out];exact ⟨HM3.out.trans hm4,HK3.out.call hm4.keep,rfl⟩⟩
  |ok u2 r2 =>
   rw [h2] at hRES C2
   simp only [bind_okE] at hRES
   clear h2
   go_wp2_with fail
   rw [HWW3.out]
   refine C2.out.mono ?_
   rintro e w4 ⟨hm4,vv2,rfl,rfl,hp4⟩
   have HX4:=Lib.hid (hm4.keep.row HX3.out (by omega))
   have HQ4:=Lib.hid (hm4.keep.row HQ3.out (by omega))
   have HM4:=Lib.hid (HM3.out.trans hm4)
   have HP4:=Lib.hid hp4
   have HK4:=Lib.hid (HK3.out.call hm4.keep)
   have hs4:=hm4.keep.1
   clear hm4 hp4
   obtain ⟨xz,x0⟩:=rk1 HX4.out
   have C3:=Lib.hid (number_any B pb hB (r2) fin 0 1048576 w4 (by omega) HP4.out)
   cases h3:numP fin 0 1048576 (r2) with
   |bad er off =>
    rw [h3] at hRES C3
    have HOK:=Lib.hid (show RES=.bad er off from hRES.symm)
    clear hRES h3
    go_wp2_with fail
    refine C3.out.mono ?_
    rintro e w5 ⟨hm5,rfl⟩
    exact ⟨rfl,by rw [HOK.out];exact ⟨HM4.out.trans hm5,HK4.out.call hm5.keep,rfl⟩⟩
   |ok v3 r3 =>
    rw [h3] at hRES C3
    simp only [bind_okE] at hRES
    clear h3
    go_wp2_with fail
    refine C3.out.mono ?_
    rintro e w5 ⟨hm5,vv3,rfl,rfl,hp5⟩
    have HX5:=Lib.hid (hm5.keep.row HX4.out (by omega))
    have HQ5:=Lib.hid (hm5.keep.row HQ4.out (by omega))
    have HM5:=Lib.hid (HM4.out.trans hm5)
    have HP5:=Lib.hid hp5
    have HK5:=Lib.hid (HK4.out.call hm5.keep)
    have hs5:=hm5.keep.1
    clear hm5 hp5
    obtain ⟨xz,x0⟩:=rk1 HX5.out
    have qz:=lt_of_block HQ5.out
    have q0:=cell_of_row w5 _ 0 _ _ _ HQ5.out
    have q1:=cell_of_row w5 _ 1 _ _ _ HQ5.out
    have q2:=cell_of_row w5 _ 2 _ _ _ HQ5.out
    have q3:=cell_of_row w5 _ 3 _ _ _ HQ5.out
    have q4:=cell_of_row w5 _ 4 _ _ _ HQ5.out
    have q5:=cell_of_row w5 _ 5 _ _ _ HQ5.out
    have q6:=cell_of_row w5 _ 6 _ _ _ HQ5.out
    have q7:=cell_of_row w5 _ 7 _ _ _ HQ5.out
    have q8:=cell_of_row w5 _ 8 _ _ _ HQ5.out
    have q9:=cell_of_row w5 _ 9 _ _ _ HQ5.out
    have q10:=cell_of_row w5 _ 10 _ _ _ HQ5.out
    have q11:=cell_of_row w5 _ 11 _ _ _ HQ5.out
    have q12:=cell_of_row w5 _ 12 _ _ _ HQ5.out
    have q13:=cell_of_row w5 _ 13 _ _ _ HQ5.out
    have qf0:=frozen_of_row w5 _ 0 _ _ HQ5.out
    have qf1:=frozen_of_row w5 _ 1 _ _ HQ5.out
    have qf2:=frozen_of_row w5 _ 2 _ _ HQ5.out
    have qf3:=frozen_of_row w5 _ 3 _ _ HQ5.out
    have qf4:=frozen_of_row w5 _ 4 _ _ HQ5.out
    have qf5:=frozen_of_row w5 _ 5 _ _ HQ5.out
    have qf6:=frozen_of_row w5 _ 6 _ _ HQ5.out
    have qf7:=frozen_of_row w5 _ 7 _ _ HQ5.out
    have qf8:=frozen_of_row w5 _ 8 _ _ HQ5.out
    have qf9:=frozen_of_row w5 _ 9 _ _ HQ5.out
    have qf10:=frozen_of_row w5 _ 10 _ _ HQ5.out
    have qf11:=frozen_of_row w5 _ 11 _ _ HQ5.out
    have qf12:=frozen_of_row w5 _ 12 _ _ HQ5.out
    have qf13:=frozen_of_row w5 _ 13 _ _ HQ5.out
    simp only [List.getElem?_toArray,List.getElem?_cons_zero,List.getElem?_cons_succ] at q0 q1 q2 q3 q4 q5 q6 q7 q8 q9 q10 q11 q12 q13
    have HOK:=Lib.hid (show RES=.ok { zeroQ with ask:=3,id:=v1,n:=v3 } r3 from hRES.symm)
    clear hRES
    go_wp2
    generalize hw6:w5.setCell ⟨qb,8,none⟩ (.int .i64 v3)=w6
    have HX6:=Lib.hid (show w6.heap[bx]?=some (.cells #[.pointer (some ⟨pb,0,none⟩)] 78 (0,0)) by rw [←hw6];exact row_set_other HX5.out (by simp only;omega))
    have HQ6:=Lib.hid (show w6.heap[qb]?=some (.cells #[.int .i64 3,.int .i64 0,.int .i64 0,.string ⟨#[]⟩,.string ⟨#[]⟩,.int .i64 0,.slice none 0 0,.string v1,.int .i64 v3,.int .i64 0,.int .i64 0,.string ⟨#[]⟩,.string ⟨#[]⟩,.int .i64 0] 28 (0,0)) by rw [←hw6];exact row_set (i:=8) HQ5.out)
    have HK6:=Lib.hid (show Keep2 pb qb w1 w6 by rw [←hw6];exact HK5.out.set _ _)
    have hos6:=one_set (i:=8) (u:=(.int .i64 v3)) HM5.out HP5.out hq0 hB0 hpb
    rw [hw6] at hos6
    have HM6:=Lib.hid hos6.1
    have HP6:=Lib.hid hos6.2
    have hs6:w5.heap.size≤w6.heap.size:=by rw [←hw6];simp
    clear hos6 hw6
    go_end0
    rw [HOK.out]
    exact ⟨HM6.out,HK6.out,rfl,HQ6.out,HP6.out⟩
set_option maxRecDepth 100000 in
set_option maxHeartbeats 4000000 in
theorem ask4_any (B pb:Nat) (hB:B≤pb) (fin bx qb:Nat) (w0 w1:World) (hB0:B≤w0.heap.size) (hpb:pb<w0.heap.size) (hx0:w0.heap.size≤bx) (hq0:w0.heap.size≤qb) (hne:bx≠qb) (ts:List TokD) (hm:PMem B pb w0 w1) (hp:PAt B w1 pb ts fin) (hx:w1.heap[bx]?=some (.cells #[.pointer (some ⟨pb,0,none⟩)] 78 (0,0))) (hq:w1.heap[qb]?=some (.cells (askC zeroQ) 28 (0,0))) :
  Calls Tryz.prog 96 #[.pointer (some ⟨bx,0,none⟩),.pointer (some ⟨qb,0,none⟩)] w1 (AskR B pb fin qb (askR fin 4 ts) w0 w1):=by
 have HX1:=Lib.hid hx
 have HQ1:=Lib.hid (show w1.heap[qb]?=some (.cells #[.int .i64 0,.int .i64 0,.int .i64 0,.string ⟨#[]⟩,.string ⟨#[]⟩,.int .i64 0,.slice none 0 0,.string ⟨#[]⟩,.int .i64 0,.int .i64 0,.int .i64 0,.string ⟨#[]⟩,.string ⟨#[]⟩,.int .i64 0] 28 (0,0)) from hq)
 have HM1:=Lib.hid hm
 have HP1:=Lib.hid hp
 have HK1:=Lib.hid (Keep2.refl pb qb w1)
 have hs0:=hm.keep.1
 obtain ⟨RES,hRES⟩:∃z,askR fin 4 ts=z:=⟨_,rfl⟩
 rw [hRES]
 have hRES:((numP fin 1 10000 ts).bind fun v1 r1=>(wantP fin wTo r1).bind fun _ r2=>(numP fin 0 1048575 r2).bind fun v3 r3=>(numP fin 0 1048575 r3).bind fun v4 r4=>.ok { zeroQ with ask:=4,n:=v1,x:=v3,y:=v4 } r4)=RES:=hRES
 clear hx hq hm hp
 go_enter Tryz.func96,Tryz.ntmps96
 obtain ⟨xz,x0⟩:=rk1 HX1.out
 have C1:=Lib.hid (number_any B pb hB (ts) fin 1 10000 w1 (by omega) HP1.out)
 cases h1:numP fin 1 10000 (ts) with
 |bad er off =>
  rw [h1] at hRES C1
  have HOK:=Lib.hid (show RES=.bad er off from hRES.symm)
  clear hRES h1
  go_wp2_with fail
  refine C1.out.mono ?_
  rintro e w2 ⟨hm2,rfl⟩
  exact ⟨rfl,by rw [HOK.out];exact ⟨HM1.out.trans hm2,HK1.out.call hm2.keep,rfl⟩⟩
 |ok v1 r1 =>
  rw [h1] at hRES C1
  simp only [bind_okE] at hRES
  clear h1
  go_wp2_with fail
  refine C1.out.mono ?_
  rintro e w2 ⟨hm2,vv1,rfl,rfl,hp2⟩
  have HX2:=Lib.hid (hm2.keep.row HX1.out (by omega))
  have HQ2:=Lib.hid (hm2.keep.row HQ1.out (by omega))
  have HM2:=Lib.hid (HM1.out.trans hm2)
  have HP2:=Lib.hid hp2
  have HK2:=Lib.hid (HK1.out.call hm2.keep)
  have hs2:=hm2.keep.1
  clear hm2 hp2
  obtain ⟨xz,x0⟩:=rk1 HX2.out
  have qz:=lt_of_block HQ2.out
  have q0:=cell_of_row w2 _ 0 _ _ _ HQ2.out
  have q1:=cell_of_row w2 _ 1 _ _ _ HQ2.out
  have q2:=cell_of_row w2 _ 2 _ _ _ HQ2.out
  have q3:=cell_of_row w2 _ 3 _ _ _ HQ2.out
  have q4:=cell_of_row w2 _ 4 _ _ _ HQ2.out
  have q5:=cell_of_row w2 _ 5 _ _ _ HQ2.out
  have q6:=cell_of_row w2 _ 6 _ _ _ HQ2.out
  have q7:=cell_of_row w2 _ 7 _ _ _ HQ2.out
  have q8:=cell_of_row w2 _ 8 _ _ _ HQ2.out
  have q9:=cell_of_row w2 _ 9 _ _ _ HQ2.out
  have q10:=cell_of_row w2 _ 10 _ _ _ HQ2.out
  have q11:=cell_of_row w2 _ 11 _ _ _ HQ2.out
  have q12:=cell_of_row w2 _ 12 _ _ _ HQ2.out
  have q13:=cell_of_row w2 _ 13 _ _ _ HQ2.out
  have qf0:=frozen_of_row w2 _ 0 _ _ HQ2.out
  have qf1:=frozen_of_row w2 _ 1 _ _ HQ2.out
  have qf2:=frozen_of_row w2 _ 2 _ _ HQ2.out
  have qf3:=frozen_of_row w2 _ 3 _ _ HQ2.out
  have qf4:=frozen_of_row w2 _ 4 _ _ HQ2.out
  have qf5:=frozen_of_row w2 _ 5 _ _ HQ2.out
  have qf6:=frozen_of_row w2 _ 6 _ _ HQ2.out
  have qf7:=frozen_of_row w2 _ 7 _ _ HQ2.out
  have qf8:=frozen_of_row w2 _ 8 _ _ HQ2.out
  have qf9:=frozen_of_row w2 _ 9 _ _ HQ2.out
  have qf10:=frozen_of_row w2 _ 10 _ _ HQ2.out
  have qf11:=frozen_of_row w2 _ 11 _ _ HQ2.out
  have qf12:=frozen_of_row w2 _ 12 _ _ HQ2.out
  have qf13:=frozen_of_row w2 _ 13 _ _ HQ2.out
  simp only [List.getElem?_toArray,List.getElem?_cons_zero,List.getElem?_cons_succ] at q0 q1 q2 q3 q4 q5 q6 q7 q8 q9 q10 q11 q12 q13
  obtain ⟨w3,hw3⟩:∃z,(w2.setCell ⟨qb,0,none⟩ (.int .i64 4)).setCell ⟨qb,8,none⟩ (.int .i64 v1)=z:=⟨_,rfl⟩
  have HWW3:=Lib.hid hw3
  have HX3:=Lib.hid (show w3.heap[bx]?=some (.cells #[.pointer (some ⟨pb,0,none⟩)] 78 (0,0)) by rw [←hw3];exact row_set_other (row_set_other HX2.out (by simp only;omega)) (by simp only;omega))
  have HQ3:=Lib.hid (show w3.heap[qb]?=some (.cells #[.int .i64 4,.int .i64 0,.int .i64 0,.string ⟨#[]⟩,.string ⟨#[]⟩,.int .i64 0,.slice none 0 0,.string ⟨#[]⟩,.int .i64 v1,.int .i64 0,.int .i64 0,.string ⟨#[]⟩,.string ⟨#[]⟩,.int .i64 0] 28 (0,0)) by rw [←hw3];exact row_set (i:=8) (row_set (i:=0) HQ2.out))
  have HK3:=Lib.hid (show Keep2 pb qb w1 w3 by rw [←hw3];exact (HK2.out.set _ _).set _ _)
  have hos3:=one_set (i:=8) (u:=(.int .i64 v1)) (one_set (i:=0) (u:=(.int .i64 4)) HM2.out HP2.out hq0 hB0 hpb).1 (one_set (i:=0) (u:=(.int .i64 4)) HM2.out HP2.out hq0 hB0 hpb).2 hq0 hB0 hpb
  rw [hw3] at hos3
  have HM3:=Lib.hid hos3.1
  have HP3:=Lib.hid hos3.2
  have hs3:w2.heap.size≤w3.heap.size:=by rw [←hw3];simp
  clear hos3 hw3
  have C2:=Lib.hid (want_any B pb hB (r1) fin wTo w3 HP3.out)
  cases h2:wantP fin wTo (r1) with
  |bad er off =>
   rw [h2] at hRES C2
   have HOK:=Lib.hid (show RES=.bad er off from hRES.symm)
   clear hRES h2
   go_wp2_with fail
   rw [HWW3.out]
   refine C2.out.mono ?_
   rintro e w4 ⟨hm4,rfl⟩
   exact ⟨rfl,by rw [HOK.out];exact ⟨HM3.out.trans hm4,HK3.out.call hm4.keep,rfl⟩⟩
  |ok u2 r2 =>
   rw [h2] at hRES C2
   simp only [bind_okE] at hRES
   clear h2
   go_wp2_with fail
   rw [HWW3.out]
   refine C2.out.mono ?_
   rintro e w4 ⟨hm4,vv2,rfl,rfl,hp4⟩
   have HX4:=Lib.hid (hm4.keep.row HX3.out (by omega))
   have HQ4:=Lib.hid (hm4.keep.row HQ3.out (by omega))
   have HM4:=Lib.hid (HM3.out.trans hm4)
   have HP4:=Lib.hid hp4
   have HK4:=Lib.hid (HK3.out.call hm4.keep)
   have hs4:=hm4.keep.1
   clear hm4 hp4
   obtain ⟨xz,x0⟩:=rk1 HX4.out
   have C3:=Lib.hid (number_any B pb hB (r2) fin 0 1048575 w4 (by omega) HP4.out)
   cases h3:numP fin 0 1048575 (r2) with
   |bad er off =>
    rw [h3] at hRES C3
    have HOK:=Lib.hid (show RES=.bad er off from hRES.symm)
    clear hRES h3
    go_wp2_with fail
    refine C3.out.mono ?_
    rintro e w5 ⟨hm5,rfl⟩
    exact ⟨rfl,by rw [HOK.out];exact ⟨HM4.out.trans hm5,HK4.out.call hm5.keep,rfl⟩⟩
   |ok v3 r3 =>
    rw [h3] at hRES C3
    simp only [bind_okE] at hRES
    clear h3
    go_wp2_with fail
    refine C3.out.mono ?_
    rintro e w5 ⟨hm5,vv3,rfl,rfl,hp5⟩
    have HX5:=Lib.hid (hm5.keep.row HX4.out (by omega))
    have HQ5:=Lib.hid (hm5.keep.row HQ4.out (by omega))
    have HM5:=Lib.hid (HM4.out.trans hm5)
    have HP5:=Lib.hid hp5
    have HK5:=Lib.hid (HK4.out.call hm5.keep)
    have hs5:=hm5.keep.1
    clear hm5 hp5
    obtain ⟨xz,x0⟩:=rk1 HX5.out
    have qz:=lt_of_block HQ5.out
    have q0:=cell_of_row w5 _ 0 _ _ _ HQ5.out
    have q1:=cell_of_row w5 _ 1 _ _ _ HQ5.out
    have q2:=cell_of_row w5 _ 2 _ _ _ HQ5.out
    have q3:=cell_of_row w5 _ 3 _ _ _ HQ5.out
    have q4:=cell_of_row w5 _ 4 _ _ _ HQ5.out
    have q5:=cell_of_row w5 _ 5 _ _ _ HQ5.out
    have q6:=cell_of_row w5 _ 6 _ _ _ HQ5.out
    have q7:=cell_of_row w5 _ 7 _ _ _ HQ5.out
    have q8:=cell_of_row w5 _ 8 _ _ _ HQ5.out
    have q9:=cell_of_row w5 _ 9 _ _ _ HQ5.out
    have q10:=cell_of_row w5 _ 10 _ _ _ HQ5.out
    have q11:=cell_of_row w5 _ 11 _ _ _ HQ5.out
    have q12:=cell_of_row w5 _ 12 _ _ _ HQ5.out
    have q13:=cell_of_row w5 _ 13 _ _ _ HQ5.out
    have qf0:=frozen_of_row w5 _ 0 _ _ HQ5.out
    have qf1:=frozen_of_row w5 _ 1 _ _ HQ5.out
    have qf2:=frozen_of_row w5 _ 2 _ _ HQ5.out
    have qf3:=frozen_of_row w5 _ 3 _ _ HQ5.out
    have qf4:=frozen_of_row w5 _ 4 _ _ HQ5.out
    have qf5:=frozen_of_row w5 _ 5 _ _ HQ5.out
    have qf6:=frozen_of_row w5 _ 6 _ _ HQ5.out
    have qf7:=frozen_of_row w5 _ 7 _ _ HQ5.out
    have qf8:=frozen_of_row w5 _ 8 _ _ HQ5.out
    have qf9:=frozen_of_row w5 _ 9 _ _ HQ5.out
    have qf10:=frozen_of_row w5 _ 10 _ _ HQ5.out
    have qf11:=frozen_of_row w5 _ 11 _ _ HQ5.out
    have qf12:=frozen_of_row w5 _ 12 _ _ HQ5.out
    have qf13:=frozen_of_row w5 _ 13 _ _ HQ5.out
    simp only [List.getElem?_toArray,List.getElem?_cons_zero,List.getElem?_cons_succ] at q0 q1 q2 q3 q4 q5 q6 q7 q8 q9 q10 q11 q12 q13
    obtain ⟨w6,hw6⟩:∃z,w5.setCell ⟨qb,9,none⟩ (.int .i64 v3)=z:=⟨_,rfl⟩
    have HWW6:=Lib.hid hw6
    have HX6:=Lib.hid (show w6.heap[bx]?=some (.cells #[.pointer (some ⟨pb,0,none⟩)] 78 (0,0)) by rw [←hw6];exact row_set_other HX5.out (by simp only;omega))
    have HQ6:=Lib.hid (show w6.heap[qb]?=some (.cells #[.int .i64 4,.int .i64 0,.int .i64 0,.string ⟨#[]⟩,.string ⟨#[]⟩,.int .i64 0,.slice none 0 0,.string ⟨#[]⟩,.int .i64 v1,.int .i64 v3,.int .i64 0,.string ⟨#[]⟩,.string ⟨#[]⟩,.int .i64 0] 28 (0,0)) by rw [←hw6];exact row_set (i:=9) HQ5.out)
    have HK6:=Lib.hid (show Keep2 pb qb w1 w6 by rw [←hw6];exact HK5.out.set _ _)
    have hos6:=one_set (i:=9) (u:=(.int .i64 v3)) HM5.out HP5.out hq0 hB0 hpb
    rw [hw6] at hos6
    have HM6:=Lib.hid hos6.1
    have HP6:=Lib.hid hos6.2
    have hs6:w5.heap.size≤w6.heap.size:=by rw [←hw6];simp
    clear hos6 hw6
    have C4:=Lib.hid (number_any B pb hB (r3) fin 0 1048575 w6 (by omega) HP6.out)
    cases h4:numP fin 0 1048575 (r3) with
    |bad er off =>
     rw [h4] at hRES C4
     have HOK:=Lib.hid (show RES=.bad er off from hRES.symm)
     clear hRES h4
     go_wp2_with fail
     rw [HWW6.out]
     refine C4.out.mono ?_
     rintro e w7 ⟨hm7,rfl⟩
     exact ⟨rfl,by rw [HOK.out];exact ⟨HM6.out.trans hm7,HK6.out.call hm7.keep,rfl⟩⟩
    |ok v4 r4 =>
     rw [h4] at hRES C4
     simp only [bind_okE] at hRES
     clear h4
     go_wp2_with fail
     rw [HWW6.out]
     refine C4.out.mono ?_
     rintro e w7 ⟨hm7,vv4,rfl,rfl,hp7⟩
     have HX7:=Lib.hid (hm7.keep.row HX6.out (by omega))
     have HQ7:=Lib.hid (hm7.keep.row HQ6.out (by omega))
     have HM7:=Lib.hid (HM6.out.trans hm7)
     have HP7:=Lib.hid hp7
     have HK7:=Lib.hid (HK6.out.call hm7.keep)
     have hs7:=hm7.keep.1
     clear hm7 hp7
     obtain ⟨xz,x0⟩:=rk1 HX7.out
     have qz:=lt_of_block HQ7.out
     have q0:=cell_of_row w7 _ 0 _ _ _ HQ7.out
     have q1:=cell_of_row w7 _ 1 _ _ _ HQ7.out
     have q2:=cell_of_row w7 _ 2 _ _ _ HQ7.out
     have q3:=cell_of_row w7 _ 3 _ _ _ HQ7.out
     have q4:=cell_of_row w7 _ 4 _ _ _ HQ7.out
     have q5:=cell_of_row w7 _ 5 _ _ _ HQ7.out
     have q6:=cell_of_row w7 _ 6 _ _ _ HQ7.out
     have q7:=cell_of_row w7 _ 7 _ _ _ HQ7.out
     have q8:=cell_of_row w7 _ 8 _ _ _ HQ7.out
     have q9:=cell_of_row w7 _ 9 _ _ _ HQ7.out
     have q10:=cell_of_row w7 _ 10 _ _ _ HQ7.out
     have q11:=cell_of_row w7 _ 11 _ _ _ HQ7.out
     have q12:=cell_of_row w7 _ 12 _ _ _ HQ7.out
     have q13:=cell_of_row w7 _ 13 _ _ _ HQ7.out
     have qf0:=frozen_of_row w7 _ 0 _ _ HQ7.out
     have qf1:=frozen_of_row w7 _ 1 _ _ HQ7.out
     have qf2:=frozen_of_row w7 _ 2 _ _ HQ7.out
     have qf3:=frozen_of_row w7 _ 3 _ _ HQ7.out
     have qf4:=frozen_of_row w7 _ 4 _ _ HQ7.out
     have qf5:=frozen_of_row w7 _ 5 _ _ HQ7.out
     have qf6:=frozen_of_row w7 _ 6 _ _ HQ7.out
     have qf7:=frozen_of_row w7 _ 7 _ _ HQ7.out
     have qf8:=frozen_of_row w7 _ 8 _ _ HQ7.out
     have qf9:=frozen_of_row w7 _ 9 _ _ HQ7.out
     have qf10:=frozen_of_row w7 _ 10 _ _ HQ7.out
     have qf11:=frozen_of_row w7 _ 11 _ _ HQ7.out
     have qf12:=frozen_of_row w7 _ 12 _ _ HQ7.out
     have qf13:=frozen_of_row w7 _ 13 _ _ HQ7.out
     simp only [List.getElem?_toArray,List.getElem?_cons_zero,List.getElem?_cons_succ] at q0 q1 q2 q3 q4 q5 q6 q7 q8 q9 q10 q11 q12 q13
     have HOK:=Lib.hid (show RES=.ok { zeroQ with ask:=4,n:=v1,x:=v3,y:=v4 } r4 from hRES.symm)
     clear hRES
     go_wp2
     generalize hw8:w7.setCell ⟨qb,10,none⟩ (.int .i64 v4)=w8
     have HX8:=Lib.hid (show w8.heap[bx]?=some (.cells #[.pointer (some ⟨pb,0,none⟩)] 78 (0,0)) by rw [←hw8];exact row_set_other HX7.out (by simp only;omega))
     have HQ8:=Lib.hid (show w8.heap[qb]?=some (.cells #[.int .i64 4,.int .i64 0,.int .i64 0,.string ⟨#[]⟩,.string ⟨#[]⟩,.int .i64 0,.slice none 0 0,.string ⟨#[]⟩,.int .i64 v1,.int .i64 v3,.int .i64 v4,.string ⟨#[]⟩,.string ⟨#[]⟩,.int .i64 0] 28 (0,0)) by rw [←hw8];exact row_set (i:=10) HQ7.out)
     have HK8:=Lib.hid (show Keep2 pb qb w1 w8 by rw [←hw8];exact HK7.out.set _ _)
     have hos8:=one_set (i:=10) (u:=(.int .i64 v4)) HM7.out HP7.out hq0 hB0 hpb
     rw [hw8] at hos8
     have HM8:=Lib.hid hos8.1
     have HP8:=Lib.hid hos8.2
     have hs8:w7.heap.size≤w8.heap.size:=by rw [←hw8];simp
     clear hos8 hw8
     go_end0
     rw [HOK.out]
     exact ⟨HM8.out,HK8.out,rfl,HQ8.out,HP8.out⟩
set_option maxRecDepth 100000 in
set_option maxHeartbeats 4000000 in
theorem ask5_any (B pb:Nat) (hB:B≤pb) (fin bx qb:Nat) (w0 w1:World) (hB0:B≤w0.heap.size) (hpb:pb<w0.heap.size) (hx0:w0.heap.size≤bx) (hq0:w0.heap.size≤qb) (hne:bx≠qb) (ts:List TokD) (hm:PMem B pb w0 w1) (hp:PAt B w1 pb ts fin) (hx:w1.heap[bx]?=some (.cells #[.pointer (some ⟨pb,0,none⟩)] 78 (0,0))) (hq:w1.heap[qb]?=some (.cells (askC zeroQ) 28 (0,0))) :
  Calls Tryz.prog 97 #[.pointer (some ⟨bx,0,none⟩),.pointer (some ⟨qb,0,none⟩)] w1 (AskR B pb fin qb (askR fin 5 ts) w0 w1):=by
 have HX1:=Lib.hid hx
 have HQ1:=Lib.hid (show w1.heap[qb]?=some (.cells #[.int .i64 0,.int .i64 0,.int .i64 0,.string ⟨#[]⟩,.string ⟨#[]⟩,.int .i64 0,.slice none 0 0,.string ⟨#[]⟩,.int .i64 0,.int .i64 0,.int .i64 0,.string ⟨#[]⟩,.string ⟨#[]⟩,.int .i64 0] 28 (0,0)) from hq)
 have HM1:=Lib.hid hm
 have HP1:=Lib.hid hp
 have HK1:=Lib.hid (Keep2.refl pb qb w1)
 have hs0:=hm.keep.1
 obtain ⟨RES,hRES⟩:∃z,askR fin 5 ts=z:=⟨_,rfl⟩
 rw [hRES]
 have hRES:((nameP fin ts).bind fun v1 r1=>(wantP fin wIn r1).bind fun _ r2=>(numP fin 0 10080 r2).bind fun v3 r3=>(wantP fin wBy r3).bind fun _ r4=>(nameP fin r4).bind fun v5 r5=>(wantP fin wAt r5).bind fun _ r6=>(numP fin 0 9999999 r6).bind fun v7 r7=>.ok { zeroQ with ask:=5,id:=v1,n:=v3,prof:=v5,minute:=v7 } r7)=RES:=hRES
 clear hx hq hm hp
 go_enter Tryz.func97,Tryz.ntmps97
 obtain ⟨xz,x0⟩:=rk1 HX1.out
 have C1:=Lib.hid (pname_any B pb hB (ts) fin w1 (by omega) HP1.out)
 cases h1:nameP fin (ts) with
 |bad er off =>
  rw [h1] at hRES C1
  have HOK:=Lib.hid (show RES=.bad er off from hRES.symm)
  clear hRES h1
  go_wp2_with fail
  refine C1.out.mono ?_
  rintro e w2 ⟨hm2,rfl⟩
  exact ⟨rfl,by rw [HOK.out];exact ⟨HM1.out.trans hm2,HK1.out.call hm2.keep,rfl⟩⟩
 |ok v1 r1 =>
  rw [h1] at hRES C1
  simp only [bind_okE] at hRES
  clear h1
  go_wp2_with fail
  refine C1.out.mono ?_
  rintro e w2 ⟨hm2,vv1,rfl,rfl,hp2⟩
  have HX2:=Lib.hid (hm2.keep.row HX1.out (by omega))
  have HQ2:=Lib.hid (hm2.keep.row HQ1.out (by omega))
  have HM2:=Lib.hid (HM1.out.trans hm2)
  have HP2:=Lib.hid hp2
  have HK2:=Lib.hid (HK1.out.call hm2.keep)
  have hs2:=hm2.keep.1
  clear hm2 hp2
  obtain ⟨xz,x0⟩:=rk1 HX2.out
  have qz:=lt_of_block HQ2.out
  have q0:=cell_of_row w2 _ 0 _ _ _ HQ2.out
  have q1:=cell_of_row w2 _ 1 _ _ _ HQ2.out
  have q2:=cell_of_row w2 _ 2 _ _ _ HQ2.out
  have q3:=cell_of_row w2 _ 3 _ _ _ HQ2.out
  have q4:=cell_of_row w2 _ 4 _ _ _ HQ2.out
  have q5:=cell_of_row w2 _ 5 _ _ _ HQ2.out
  have q6:=cell_of_row w2 _ 6 _ _ _ HQ2.out
  have q7:=cell_of_row w2 _ 7 _ _ _ HQ2.out
  have q8:=cell_of_row w2 _ 8 _ _ _ HQ2.out
  have q9:=cell_of_row w2 _ 9 _ _ _ HQ2.out
  have q10:=cell_of_row w2 _ 10 _ _ _ HQ2.out
  have q11:=cell_of_row w2 _ 11 _ _ _ HQ2.out
  have q12:=cell_of_row w2 _ 12 _ _ _ HQ2.out
  have q13:=cell_of_row w2 _ 13 _ _ _ HQ2.out
  have qf0:=frozen_of_row w2 _ 0 _ _ HQ2.out
  have qf1:=frozen_of_row w2 _ 1 _ _ HQ2.out
  have qf2:=frozen_of_row w2 _ 2 _ _ HQ2.out
  have qf3:=frozen_of_row w2 _ 3 _ _ HQ2.out
  have qf4:=frozen_of_row w2 _ 4 _ _ HQ2.out
  have qf5:=frozen_of_row w2 _ 5 _ _ HQ2.out
  have qf6:=frozen_of_row w2 _ 6 _ _ HQ2.out
  have qf7:=frozen_of_row w2 _ 7 _ _ HQ2.out
  have qf8:=frozen_of_row w2 _ 8 _ _ HQ2.out
  have qf9:=frozen_of_row w2 _ 9 _ _ HQ2.out
  have qf10:=frozen_of_row w2 _ 10 _ _ HQ2.out
  have qf11:=frozen_of_row w2 _ 11 _ _ HQ2.out
  have qf12:=frozen_of_row w2 _ 12 _ _ HQ2.out
  have qf13:=frozen_of_row w2 _ 13 _ _ HQ2.out
  simp only [List.getElem?_toArray,List.getElem?_cons_zero,List.getElem?_cons_succ] at q0 q1 q2 q3 q4 q5 q6 q7 q8 q9 q10 q11 q12 q13
  obtain ⟨w3,hw3⟩:∃z,(w2.setCell ⟨qb,0,none⟩ (.int .i64 5)).setCell ⟨qb,7,none⟩ (.string v1)=z:=⟨_,rfl⟩
  have HWW3:=Lib.hid hw3
  have HX3:=Lib.hid (show w3.heap[bx]?=some (.cells #[.pointer (some ⟨pb,0,none⟩)] 78 (0,0)) by rw [←hw3];exact row_set_other (row_set_other HX2.out (by simp only;omega)) (by simp only;omega))
  have HQ3:=Lib.hid (show w3.heap[qb]?=some (.cells #[.int .i64 5,.int .i64 0,.int .i64 0,.string ⟨#[]⟩,.string ⟨#[]⟩,.int .i64 0,.slice none 0 0,.string v1,.int .i64 0,.int .i64 0,.int .i64 0,.string ⟨#[]⟩,.string ⟨#[]⟩,.int .i64 0] 28 (0,0)) by rw [←hw3];exact row_set (i:=7) (row_set (i:=0) HQ2.out))
  have HK3:=Lib.hid (show Keep2 pb qb w1 w3 by rw [←hw3];exact (HK2.out.set _ _).set _ _)
  have hos3:=one_set (i:=7) (u:=(.string v1)) (one_set (i:=0) (u:=(.int .i64 5)) HM2.out HP2.out hq0 hB0 hpb).1 (one_set (i:=0) (u:=(.int .i64 5)) HM2.out HP2.out hq0 hB0 hpb).2 hq0 hB0 hpb
  rw [hw3] at hos3
  have HM3:=Lib.hid hos3.1
  have HP3:=Lib.hid hos3.2
  have hs3:w2.heap.size≤w3.heap.size:=by rw [←hw3];simp
  clear hos3 hw3
  have C2:=Lib.hid (want_any B pb hB (r1) fin wIn w3 HP3.out)
  cases h2:wantP fin wIn (r1) with
  |bad er off =>
   rw [h2] at hRES C2
   have HOK:=Lib.hid (show RES=.bad er off from hRES.symm)
   clear hRES h2
   go_wp2_with fail
   rw [HWW3.out]
   refine C2.out.mono ?_
   rintro e w4 ⟨hm4,rfl⟩
   exact ⟨rfl,by rw [HOK.out];exact ⟨HM3.out.trans hm4,HK3.out.call hm4.keep,rfl⟩⟩
  |ok u2 r2 =>
   rw [h2] at hRES C2
   simp only [bind_okE] at hRES
   clear h2
   go_wp2_with fail
   rw [HWW3.out]
   refine C2.out.mono ?_
   rintro e w4 ⟨hm4,vv2,rfl,rfl,hp4⟩
   have HX4:=Lib.hid (hm4.keep.row HX3.out (by omega))
   have HQ4:=Lib.hid (hm4.keep.row HQ3.out (by omega))
   have HM4:=Lib.hid (HM3.out.trans hm4)
   have HP4:=Lib.hid hp4
   have HK4:=Lib.hid (HK3.out.call hm4.keep)
   have hs4:=hm4.keep.1
   clear hm4 hp4
   obtain ⟨xz,x0⟩:=rk1 HX4.out
   have C3:=Lib.hid (number_any B pb hB (r2) fin 0 10080 w4 (by omega) HP4.out)
   cases h3:numP fin 0 10080 (r2) with
   |bad er off =>
    rw [h3] at hRES C3
    have HOK:=Lib.hid (show RES=.bad er off from hRES.symm)
    clear hRES h3
    go_wp2_with fail
    refine C3.out.mono ?_
    rintro e w5 ⟨hm5,rfl⟩
    exact ⟨rfl,by rw [HOK.out];exact ⟨HM4.out.trans hm5,HK4.out.call hm5.keep,rfl⟩⟩
   |ok v3 r3 =>
    rw [h3] at hRES C3
    simp only [bind_okE] at hRES
    clear h3
    go_wp2_with fail
    refine C3.out.mono ?_
    rintro e w5 ⟨hm5,vv3,rfl,rfl,hp5⟩
    have HX5:=Lib.hid (hm5.keep.row HX4.out (by omega))
    have HQ5:=Lib.hid (hm5.keep.row HQ4.out (by omega))
    have HM5:=Lib.hid (HM4.out.trans hm5)
    have HP5:=Lib.hid hp5
    have HK5:=Lib.hid (HK4.out.call hm5.keep)
    have hs5:=hm5.keep.1
    clear hm5 hp5
    obtain ⟨xz,x0⟩:=rk1 HX5.out
    have qz:=lt_of_block HQ5.out
    have q0:=cell_of_row w5 _ 0 _ _ _ HQ5.out
    have q1:=cell_of_row w5 _ 1 _ _ _ HQ5.out
    have q2:=cell_of_row w5 _ 2 _ _ _ HQ5.out
    have q3:=cell_of_row w5 _ 3 _ _ _ HQ5.out
    have q4:=cell_of_row w5 _ 4 _ _ _ HQ5.out
    have q5:=cell_of_row w5 _ 5 _ _ _ HQ5.out
    have q6:=cell_of_row w5 _ 6 _ _ _ HQ5.out
    have q7:=cell_of_row w5 _ 7 _ _ _ HQ5.out
    have q8:=cell_of_row w5 _ 8 _ _ _ HQ5.out
    have q9:=cell_of_row w5 _ 9 _ _ _ HQ5.out
    have q10:=cell_of_row w5 _ 10 _ _ _ HQ5.out
    have q11:=cell_of_row w5 _ 11 _ _ _ HQ5.out
    have q12:=cell_of_row w5 _ 12 _ _ _ HQ5.out
    have q13:=cell_of_row w5 _ 13 _ _ _ HQ5.out
    have qf0:=frozen_of_row w5 _ 0 _ _ HQ5.out
    have qf1:=frozen_of_row w5 _ 1 _ _ HQ5.out
    have qf2:=frozen_of_row w5 _ 2 _ _ HQ5.out
    have qf3:=frozen_of_row w5 _ 3 _ _ HQ5.out
    have qf4:=frozen_of_row w5 _ 4 _ _ HQ5.out
    have qf5:=frozen_of_row w5 _ 5 _ _ HQ5.out
    have qf6:=frozen_of_row w5 _ 6 _ _ HQ5.out
    have qf7:=frozen_of_row w5 _ 7 _ _ HQ5.out
    have qf8:=frozen_of_row w5 _ 8 _ _ HQ5.out
    have qf9:=frozen_of_row w5 _ 9 _ _ HQ5.out
    have qf10:=frozen_of_row w5 _ 10 _ _ HQ5.out
    have qf11:=frozen_of_row w5 _ 11 _ _ HQ5.out
    have qf12:=frozen_of_row w5 _ 12 _ _ HQ5.out
    have qf13:=frozen_of_row w5 _ 13 _ _ HQ5.out
    simp only [List.getElem?_toArray,List.getElem?_cons_zero,List.getElem?_cons_succ] at q0 q1 q2 q3 q4 q5 q6 q7 q8 q9 q10 q11 q12 q13
    obtain ⟨w6,hw6⟩:∃z,w5.setCell ⟨qb,8,none⟩ (.int .i64 v3)=z:=⟨_,rfl⟩
    have HWW6:=Lib.hid hw6
    have HX6:=Lib.hid (show w6.heap[bx]?=some (.cells #[.pointer (some ⟨pb,0,none⟩)] 78 (0,0)) by rw [←hw6];exact row_set_other HX5.out (by simp only;omega))
    have HQ6:=Lib.hid (show w6.heap[qb]?=some (.cells #[.int .i64 5,.int .i64 0,.int .i64 0,.string ⟨#[]⟩,.string ⟨#[]⟩,.int .i64 0,.slice none 0 0,.string v1,.int .i64 v3,.int .i64 0,.int .i64 0,.string ⟨#[]⟩,.string ⟨#[]⟩,.int .i64 0] 28 (0,0)) by rw [←hw6];exact row_set (i:=8) HQ5.out)
    have HK6:=Lib.hid (show Keep2 pb qb w1 w6 by rw [←hw6];exact HK5.out.set _ _)
    have hos6:=one_set (i:=8) (u:=(.int .i64 v3)) HM5.out HP5.out hq0 hB0 hpb
    rw [hw6] at hos6
    have HM6:=Lib.hid hos6.1
    have HP6:=Lib.hid hos6.2
    have hs6:w5.heap.size≤w6.heap.size:=by rw [←hw6];simp
    clear hos6 hw6
    have C4:=Lib.hid (want_any B pb hB (r3) fin wBy w6 HP6.out)
    cases h4:wantP fin wBy (r3) with
    |bad er off =>
     rw [h4] at hRES C4
     have HOK:=Lib.hid (show RES=.bad er off from hRES.symm)
     clear hRES h4
     go_wp2_with fail
     rw [HWW6.out]
     refine C4.out.mono ?_
     rintro e w7 ⟨hm7,rfl⟩
     exact ⟨rfl,by rw [HOK.out];exact ⟨HM6.out.trans hm7,HK6.out.call hm7.keep,rfl⟩⟩
    |ok u4 r4 =>
     rw [h4] at hRES C4
     simp only [bind_okE] at hRES
     clear h4
     go_wp2_with fail
     rw [HWW6.out]
     refine C4.out.mono ?_
     rintro e w7 ⟨hm7,vv4,rfl,rfl,hp7⟩
     have HX7:=Lib.hid (hm7.keep.row HX6.out (by omega))
     have HQ7:=Lib.hid (hm7.keep.row HQ6.out (by omega))
     have HM7:=Lib.hid (HM6.out.trans hm7)
     have HP7:=Lib.hid hp7
     have HK7:=Lib.hid (HK6.out.call hm7.keep)
     have hs7:=hm7.keep.1
     clear hm7 hp7
     obtain ⟨xz,x0⟩:=rk1 HX7.out
     have C5:=Lib.hid (pname_any B pb hB (r4) fin w7 (by omega) HP7.out)
     cases h5:nameP fin (r4) with
     |bad er off =>
      rw [h5] at hRES C5
      have HOK:=Lib.hid (show RES=.bad er off from hRES.symm)
      clear hRES h5
      go_wp2_with fail
      refine C5.out.mono ?_
      rintro e w8 ⟨hm8,rfl⟩
      exact ⟨rfl,by rw [HOK.out];exact ⟨HM7.out.trans hm8,HK7.out.call hm8.keep,rfl⟩⟩
     |ok v5 r5 =>
      rw [h5] at hRES C5
      simp only [bind_okE] at hRES
      clear h5
      go_wp2_with fail
      refine C5.out.mono ?_
      rintro e w8 ⟨hm8,vv5,rfl,rfl,hp8⟩
      have HX8:=Lib.hid (hm8.keep.row HX7.out (by omega))
      have HQ8:=Lib.hid (hm8.keep.row HQ7.out (by omega))
      have HM8:=Lib.hid (HM7.out.trans hm8)
      have HP8:=Lib.hid hp8
      have HK8:=Lib.hid (HK7.out.call hm8.keep)
      have hs8:=hm8.keep.1
      clear hm8 hp8
      obtain ⟨xz,x0⟩:=rk1 HX8.out
      have qz:=lt_of_block HQ8.out
      have q0:=cell_of_row w8 _ 0 _ _ _ HQ8.out
      have q1:=cell_of_row w8 _ 1 _ _ _ HQ8.out
      have q2:=cell_of_row w8 _ 2 _ _ _ HQ8.out
      have q3:=cell_of_row w8 _ 3 _ _ _ HQ8.out
      have q4:=cell_of_row w8 _ 4 _ _ _ HQ8.out
      have q5:=cell_of_row w8 _ 5 _ _ _ HQ8.out
      have q6:=cell_of_row w8 _ 6 _ _ _ HQ8.out
      have q7:=cell_of_row w8 _ 7 _ _ _ HQ8.out
      have q8:=cell_of_row w8 _ 8 _ _ _ HQ8.out
      have q9:=cell_of_row w8 _ 9 _ _ _ HQ8.out
      have q10:=cell_of_row w8 _ 10 _ _ _ HQ8.out
      have q11:=cell_of_row w8 _ 11 _ _ _ HQ8.out
      have q12:=cell_of_row w8 _ 12 _ _ _ HQ8.out
      have q13:=cell_of_row w8 _ 13 _ _ _ HQ8.out
      have qf0:=frozen_of_row w8 _ 0 _ _ HQ8.out
      have qf1:=frozen_of_row w8 _ 1 _ _ HQ8.out
      have qf2:=frozen_of_row w8 _ 2 _ _ HQ8.out
      have qf3:=frozen_of_row w8 _ 3 _ _ HQ8.out
      have qf4:=frozen_of_row w8 _ 4 _ _ HQ8.out
      have qf5:=frozen_of_row w8 _ 5 _ _ HQ8.out
      have qf6:=frozen_of_row w8 _ 6 _ _ HQ8.out
      have qf7:=frozen_of_row w8 _ 7 _ _ HQ8.out
      have qf8:=frozen_of_row w8 _ 8 _ _ HQ8.out
      have qf9:=frozen_of_row w8 _ 9 _ _ HQ8.out
      have qf10:=frozen_of_row w8 _ 10 _ _ HQ8.out
      have qf11:=frozen_of_row w8 _ 11 _ _ HQ8.out
      have qf12:=frozen_of_row w8 _ 12 _ _ HQ8.out
      have qf13:=frozen_of_row w8 _ 13 _ _ HQ8.out
      simp only [List.getElem?_toArray,List.getElem?_cons_zero,List.getElem?_cons_succ] at q0 q1 q2 q3 q4 q5 q6 q7 q8 q9 q10 q11 q12 q13
      obtain ⟨w9,hw9⟩:∃z,w8.setCell ⟨qb,12,none⟩ (.string v5)=z:=⟨_,rfl⟩
      have HWW9:=Lib.hid hw9
      have HX9:=Lib.hid (show w9.heap[bx]?=some (.cells #[.pointer (some ⟨pb,0,none⟩)] 78 (0,0)) by rw [←hw9];exact row_set_other HX8.out (by simp only;omega))
      have HQ9:=Lib.hid (show w9.heap[qb]?=some (.cells #[.int .i64 5,.int .i64 0,.int .i64 0,.string ⟨#[]⟩,.string ⟨#[]⟩,.int .i64 0,.slice none 0 0,.string v1,.int .i64 v3,.int .i64 0,.int .i64 0,.string ⟨#[]⟩,.string v5,.int .i64 0] 28 (0,0)) by rw [←hw9];exact row_set (i:=12) HQ8.out)
      have HK9:=Lib.hid (show Keep2 pb qb w1 w9 by rw [←hw9];exact HK8.out.set _ _)
      have hos9:=one_set (i:=12) (u:=(.string v5)) HM8.out HP8.out hq0 hB0 hpb
      rw [hw9] at hos9
      have HM9:=Lib.hid hos9.1
      have HP9:=Lib.hid hos9.2
      have hs9:w8.heap.size≤w9.heap.size:=by rw [←hw9];simp
      clear hos9 hw9
      have C6:=Lib.hid (want_any B pb hB (r5) fin wAt w9 HP9.out)
      cases h6:wantP fin wAt (r5) with
      |bad er off =>
       rw [h6] at hRES C6
       have HOK:=Lib.hid (show RES=.bad er off from hRES.symm)
       clear hRES h6
       go_wp2_with fail
       rw [HWW9.out]
       refine C6.out.mono ?_
       rintro e w10 ⟨hm10,rfl⟩
       exact ⟨rfl,by rw [HOK.out];exact ⟨HM9.out.trans hm10,HK9.out.call hm10.keep,rfl⟩⟩
      |ok u6 r6 =>
       rw [h6] at hRES C6
       simp only [bind_okE] at hRES
       clear h6
       go_wp2_with fail
       rw [HWW9.out]
       refine C6.out.mono ?_
       rintro e w10 ⟨hm10,vv6,rfl,rfl,hp10⟩
       have HX10:=Lib.hid (hm10.keep.row HX9.out (by omega))
       have HQ10:=Lib.hid (hm10.keep.row HQ9.out (by omega))
       have HM10:=Lib.hid (HM9.out.trans hm10)
       have HP10:=Lib.hid hp10
       have HK10:=Lib.hid (HK9.out.call hm10.keep)
       have hs10:=hm10.keep.1
       clear hm10 hp10
       obtain ⟨xz,x0⟩:=rk1 HX10.out
       have C7:=Lib.hid (number_any B pb hB (r6) fin 0 9999999 w10 (by omega) HP10.out)
       cases h7:numP fin 0 9999999 (r6) with
       |bad er off =>
        rw [h7] at hRES C7
        have HOK:=Lib.hid (show RES=.bad er off from hRES.symm)
        clear hRES h7
        go_wp2_with fail
        refine C7.out.mono ?_
        rintro e w11 ⟨hm11,rfl⟩
        exact ⟨rfl,by rw [HOK.out];exact ⟨HM10.out.trans hm11,HK10.out.call hm11.keep,rfl⟩⟩
       |ok v7 r7 =>
        rw [h7] at hRES C7
        simp only [bind_okE] at hRES
        clear h7
        go_wp2_with fail
        refine C7.out.mono ?_
        rintro e w11 ⟨hm11,vv7,rfl,rfl,hp11⟩
        have HX11:=Lib.hid (hm11.keep.row HX10.out (by omega))
        have HQ11:=Lib.hid (hm11.keep.row HQ10.out (by omega))
        have HM11:=Lib.hid (HM10.out.trans hm11)
        have HP11:=Lib.hid hp11
        have HK11:=Lib.hid (HK10.out.call hm11.keep)
        have hs11:=hm11.keep.1
        clear hm11 hp11
        obtain ⟨xz,x0⟩:=rk1 HX11.out
        have qz:=lt_of_block HQ11.out
        have q0:=cell_of_row w11 _ 0 _ _ _ HQ11.out
        have q1:=cell_of_row w11 _ 1 _ _ _ HQ11.out
        have q2:=cell_of_row w11 _ 2 _ _ _ HQ11.out
        have q3:=cell_of_row w11 _ 3 _ _ _ HQ11.out
        have q4:=cell_of_row w11 _ 4 _ _ _ HQ11.out
        have q5:=cell_of_row w11 _ 5 _ _ _ HQ11.out
        have q6:=cell_of_row w11 _ 6 _ _ _ HQ11.out
        have q7:=cell_of_row w11 _ 7 _ _ _ HQ11.out
        have q8:=cell_of_row w11 _ 8 _ _ _ HQ11.out
        have q9:=cell_of_row w11 _ 9 _ _ _ HQ11.out
        have q10:=cell_of_row w11 _ 10 _ _ _ HQ11.out
        have q11:=cell_of_row w11 _ 11 _ _ _ HQ11.out
        have q12:=cell_of_row w11 _ 12 _ _ _ HQ11.out
        have q13:=cell_of_row w11 _ 13 _ _ _ HQ11.out
        have qf0:=frozen_of_row w11 _ 0 _ _ HQ11.out
        have qf1:=frozen_of_row w11 _ 1 _ _ HQ11.out
        have qf2:=frozen_of_row w11 _ 2 _ _ HQ11.out
        have qf3:=frozen_of_row w11 _ 3 _ _ HQ11.out
        have qf4:=frozen_of_row w11 _ 4 _ _ HQ11.out
        have qf5:=frozen_of_row w11 _ 5 _ _ HQ11.out
        have qf6:=frozen_of_row w11 _ 6 _ _ HQ11.out
        have qf7:=frozen_of_row w11 _ 7 _ _ HQ11.out
        have qf8:=frozen_of_row w11 _ 8 _ _ HQ11.out
        have qf9:=frozen_of_row w11 _ 9 _ _ HQ11.out
        have qf10:=frozen_of_row w11 _ 10 _ _ HQ11.out
        have qf11:=frozen_of_row w11 _ 11 _ _ HQ11.out
        have qf12:=frozen_of_row w11 _ 12 _ _ HQ11.out
        have qf13:=frozen_of_row w11 _ 13 _ _ HQ11.out
        simp only [List.getElem?_toArray,List.getElem?_cons_zero,List.getElem?_cons_succ] at q0 q1 q2 q3 q4 q5 q6 q7 q8 q9 q10 q11 q12 q13
        have HOK:=Lib.hid (show RES=.ok { zeroQ with ask:=5,id:=v1,n:=v3,prof:=v5,minute:=v7 } r7 from hRES.symm)
        clear hRES
        go_wp2
        generalize hw12:w11.setCell ⟨qb,13,none⟩ (.int .i64 v7)=w12
        have HX12:=Lib.hid (show w12.heap[bx]?=some (.cells #[.pointer (some ⟨pb,0,none⟩)] 78 (0,0)) by rw [←hw12];exact row_set_other HX11.out (by simp only;omega))
        have HQ12:=Lib.hid (show w12.heap[qb]?=some (.cells #[.int .i64 5,.int .i64 0,.int .i64 0,.string ⟨#[]⟩,.string ⟨#[]⟩,.int .i64 0,.slice none 0 0,.string v1,.int .i64 v3,.int .i64 0,.int .i64 0,.string ⟨#[]⟩,.string v5,.int .i64 v7] 28 (0,0)) by rw [←hw12];exact row_set (i:=13) HQ11.out)
        have HK12:=Lib.hid (show Keep2 pb qb w1 w12 by rw [←hw12];exact HK11.out.set _ _)
        have hos12:=one_set (i:=13) (u:=(.int .i64 v7)) HM11.out HP11.out hq0 hB0 hpb
        rw [hw12] at hos12
        have HM12:=Lib.hid hos12.1
        have HP12:=Lib.hid hos12.2
        have hs12:w11.heap.size≤w12.heap.size:=by rw [←hw12];simp
        clear hos12 hw12
        go_end0
        rw [HOK.out]
        exact ⟨HM12.out,HK12.out,rfl,HQ12.out,HP12.out⟩
set_option maxRecDepth 100000 in
set_option maxHeartbeats 4000000 in
theorem ask6_any (B pb:Nat) (hB:B≤pb) (fin bx qb:Nat) (w0 w1:World) (hB0:B≤w0.heap.size) (hpb:pb<w0.heap.size) (hx0:w0.heap.size≤bx) (hq0:w0.heap.size≤qb) (hne:bx≠qb) (ts:List TokD) (hm:PMem B pb w0 w1) (hp:PAt B w1 pb ts fin) (hx:w1.heap[bx]?=some (.cells #[.pointer (some ⟨pb,0,none⟩)] 78 (0,0))) (hq:w1.heap[qb]?=some (.cells (askC zeroQ) 28 (0,0))) :
  Calls Tryz.prog 98 #[.pointer (some ⟨bx,0,none⟩),.pointer (some ⟨qb,0,none⟩)] w1 (AskR B pb fin qb (askR fin 6 ts) w0 w1):=by
 have HX1:=Lib.hid hx
 have HQ1:=Lib.hid (show w1.heap[qb]?=some (.cells #[.int .i64 0,.int .i64 0,.int .i64 0,.string ⟨#[]⟩,.string ⟨#[]⟩,.int .i64 0,.slice none 0 0,.string ⟨#[]⟩,.int .i64 0,.int .i64 0,.int .i64 0,.string ⟨#[]⟩,.string ⟨#[]⟩,.int .i64 0] 28 (0,0)) from hq)
 have HM1:=Lib.hid hm
 have HP1:=Lib.hid hp
 have HK1:=Lib.hid (Keep2.refl pb qb w1)
 have hs0:=hm.keep.1
 obtain ⟨RES,hRES⟩:∃z,askR fin 6 ts=z:=⟨_,rfl⟩
 rw [hRES]
 have hRES:((nameP fin ts).bind fun v1 r1=>.ok { zeroQ with ask:=6,key:=v1 } r1)=RES:=hRES
 clear hx hq hm hp
 go_enter Tryz.func98,Tryz.ntmps98
 obtain ⟨xz,x0⟩:=rk1 HX1.out
 have C1:=Lib.hid (pname_any B pb hB (ts) fin w1 (by omega) HP1.out)
 cases h1:nameP fin (ts) with
 |bad er off =>
  rw [h1] at hRES C1
  have HOK:=Lib.hid (show RES=.bad er off from hRES.symm)
  clear hRES h1
  go_wp2_with fail
  refine C1.out.mono ?_
  rintro e w2 ⟨hm2,rfl⟩
  exact ⟨rfl,by rw [HOK.out];exact ⟨HM1.out.trans hm2,HK1.out.call hm2.keep,rfl⟩⟩
 |ok v1 r1 =>
  rw [h1] at hRES C1
  simp only [bind_okE] at hRES
  clear h1
  go_wp2_with fail
  refine C1.out.mono ?_
  rintro e w2 ⟨hm2,vv1,rfl,rfl,hp2⟩
  have HX2:=Lib.hid (hm2.keep.row HX1.out (by omega))
  have HQ2:=Lib.hid (hm2.keep.row HQ1.out (by omega))
  have HM2:=Lib.hid (HM1.out.trans hm2)
  have HP2:=Lib.hid hp2
  have HK2:=Lib.hid (HK1.out.call hm2.keep)
  have hs2:=hm2.keep.1
  clear hm2 hp2
  obtain ⟨xz,x0⟩:=rk1 HX2.out
  have qz:=lt_of_block HQ2.out
  have q0:=cell_of_row w2 _ 0 _ _ _ HQ2.out
  have q1:=cell_of_row w2 _ 1 _ _ _ HQ2.out
  have q2:=cell_of_row w2 _ 2 _ _ _ HQ2.out
  have q3:=cell_of_row w2 _ 3 _ _ _ HQ2.out
  have q4:=cell_of_row w2 _ 4 _ _ _ HQ2.out
  have q5:=cell_of_row w2 _ 5 _ _ _ HQ2.out
  have q6:=cell_of_row w2 _ 6 _ _ _ HQ2.out
  have q7:=cell_of_row w2 _ 7 _ _ _ HQ2.out
  have q8:=cell_of_row w2 _ 8 _ _ _ HQ2.out
  have q9:=cell_of_row w2 _ 9 _ _ _ HQ2.out
  have q10:=cell_of_row w2 _ 10 _ _ _ HQ2.out
  have q11:=cell_of_row w2 _ 11 _ _ _ HQ2.out
  have q12:=cell_of_row w2 _ 12 _ _ _ HQ2.out
  have q13:=cell_of_row w2 _ 13 _ _ _ HQ2.out
  have qf0:=frozen_of_row w2 _ 0 _ _ HQ2.out
  have qf1:=frozen_of_row w2 _ 1 _ _ HQ2.out
  have qf2:=frozen_of_row w2 _ 2 _ _ HQ2.out
  have qf3:=frozen_of_row w2 _ 3 _ _ HQ2.out
  have qf4:=frozen_of_row w2 _ 4 _ _ HQ2.out
  have qf5:=frozen_of_row w2 _ 5 _ _ HQ2.out
  have qf6:=frozen_of_row w2 _ 6 _ _ HQ2.out
  have qf7:=frozen_of_row w2 _ 7 _ _ HQ2.out
  have qf8:=frozen_of_row w2 _ 8 _ _ HQ2.out
  have qf9:=frozen_of_row w2 _ 9 _ _ HQ2.out
  have qf10:=frozen_of_row w2 _ 10 _ _ HQ2.out
  have qf11:=frozen_of_row w2 _ 11 _ _ HQ2.out
  have qf12:=frozen_of_row w2 _ 12 _ _ HQ2.out
  have qf13:=frozen_of_row w2 _ 13 _ _ HQ2.out
  simp only [List.getElem?_toArray,List.getElem?_cons_zero,List.getElem?_cons_succ] at q0 q1 q2 q3 q4 q5 q6 q7 q8 q9 q10 q11 q12 q13
  have HOK:=Lib.hid (show RES=.ok { zeroQ with ask:=6,key:=v1 } r1 from hRES.symm)
  clear hRES
  go_wp2
  generalize hw3:(w2.setCell ⟨qb,0,none⟩ (.int .i64 6)).setCell ⟨qb,11,none⟩ (.string v1)=w3
  have HX3:=Lib.hid (show w3.heap[bx]?=some (.cells #[.pointer (some ⟨pb,0,none⟩)] 78 (0,0)) by rw [←hw3];exact row_set_other (row_set_other HX2.out (by simp only;omega)) (by simp only;omega))
  have HQ3:=Lib.hid (show w3.heap[qb]?=some (.cells #[.int .i64 6,.int .i64 0,.int .i64 0,.string ⟨#[]⟩,.string ⟨#[]⟩,.int .i64 0,.slice none 0 0,.string ⟨#[]⟩,.int .i64 0,.int .i64 0,.int .i64 0,.string v1,.string ⟨#[]⟩,.int .i64 0] 28 (0,0)) by rw [←hw3];exact row_set (i:=11) (row_set (i:=0) HQ2.out))
  have HK3:=Lib.hid (show Keep2 pb qb w1 w3 by rw [←hw3];exact (HK2.out.set _ _).set _ _)
  have hos3:=one_set (i:=11) (u:=(.string v1)) (one_set (i:=0) (u:=(.int .i64 6)) HM2.out HP2.out hq0 hB0 hpb).1 (one_set (i:=0) (u:=(.int .i64 6)) HM2.out HP2.out hq0 hB0 hpb).2 hq0 hB0 hpb
  rw [hw3] at hos3
  have HM3:=Lib.hid hos3.1
  have HP3:=Lib.hid hos3.2
  have hs3:w2.heap.size≤w3.heap.size:=by rw [←hw3];simp
  clear hos3 hw3
  go_end0
  rw [HOK.out]
  exact ⟨HM3.out,HK3.out,rfl,HQ3.out,HP3.out⟩
end Go.Proofs.YtdfenhjibnfdeaaGreatDoor
