/-    -/
import Derived.Test.YtdfenhjibnfdeaaGreatDoorQyAy
import Derived.Test.YtdfenhjibnfdeaaGreatDoorQyAz
import Derived.Test.YtdfenhjibnfdeaaGreatDoorQyAg
import Derived.Test.YtdfenhjibnfdeaaGreatDoorQyAi
import Derived.Test.YtdfenhjibnfdeaaGreatDoorQyAo
namespace Go.Proofs.YtdfenhjibnfdeaaGreatDoor
open Go.RowKit Go.Shelf
def ParseR (n0:Nat) (r:QryD × Int × Int) (w:World) (e:Ending) (w':World):Prop :=
 ∃a cap,e=.returned (.tuple #[qryV r.1 a cap,.int .i64 r.2.1,.int .i64 r.2.2])∧CondP (fun b=>n0≤b) w' r.1.wher a∧Below w.heap.size w w'
theorem PAt.first {w:World} {v:Value} {T:List TokD} (fin:Nat) (h:w.ownsRow 0 43 3 v T.length (T.flatMap encTk)) (hl:T.length≤5000) (hT:∀t∈T,TokOK t) :
  PAt w.heap.size (w.alloc (.cells #[v,.int .i64 fin] 80)) w.heap.size T fin:=by
 have ht:=TkR.of_own h
 refine ⟨v,row_new _ _,ht.later ((Below.refl _ _).alloc (Nat.le_refl _) _),hl,hT,fun a n c e=>?_⟩
 rcases h.2 with ⟨h1,_⟩ | ⟨g,cap,cur,h1,_,h3,_⟩
 ·rw [e] at h1;cases h1
 ·rw [e] at h1
  injection h1 with h1 _ _
  injection h1 with h1
  subst h1
  exact lt_of_block h3
theorem own_zero {w:World} {B e size n:Nat} {v:Value} {xs:List Value} (h:w.ownsRow B e size v n xs):w.ownsRow 0 e size v n xs:=by
 refine ⟨h.1,?_⟩
 rcases h.2 with h | ⟨g,cap,cur,h1,_,h3⟩
 ·exact .inl h
 ·exact .inr ⟨g,cap,cur,h1,Nat.zero_le _,h3⟩
set_option maxRecDepth 100000 in
set_option maxHeartbeats 4000000 in
theorem parse_bad (s:ByteArray) (hs:s.size≤1000000) (T:List TokD) (er:Int) (off:Nat) (hT:lexP s=(T,0,0)) (hTl:T.length≤5000) (hTK:∀t∈T,TokOK t) (hr:queryP s.size T=.bad er off) (w:World) :
  Calls Tryz.prog 13 #[.string s] w (ParseR w.heap.size (zeroQ,er,(off:Int)) w):=by
 have HEE:=Lib.hid (show (lexP s).2.1=0 by rw [hT])
 have HAA:=Lib.hid (show (lexP s).2.2=0 by rw [hT])
 have HTT:=Lib.hid (show (lexP s).1=T by rw [hT])
 have LX:=Lib.hid (fun W=>lex_any s (by omega) W)
 have b3:=(((Below.refl w.heap.size w).alloc (Nat.le_refl _) (.cells nilQ 28)).alloc (by simp) (.cells #[.int .i64 0] 31)).alloc (by simp;omega) (.cells #[.int .i64 0] 3)
 have rq:=row_past (o':=.cells #[.int .i64 0] 3) (row_past (o':=.cells #[.int .i64 0] 31) (row_new w (.cells nilQ 28)))
 have re:=row_past (o':=.cells #[.int .i64 0] 3) (row_new (w.alloc (.cells nilQ 28)) (.cells #[.int .i64 0] 31))
 have ra:=row_new ((w.alloc (.cells nilQ 28)).alloc (.cells #[.int .i64 0] 31)) (.cells #[.int .i64 0] 3)
 simp only [World.size_alloc] at re ra
 have RQ:=Lib.hid rq
 have RE:=Lib.hid re
 have RA:=Lib.hid ra
 have B3:=Lib.hid b3
 clear rq re ra b3
 have hmf:∀(fn:Fn) (first cap:Array Value) (w:World),(Instr.makeFunc fn first cap).run Tryz.prog w=.ok (.func fn first cap) w:=fun _ _ _ _=>rfl
 have hmx:Tryz.prog.follows .mixedOrders=true:=by kernel_rfl
 go_enter_defers Tryz.func13,Tryz.ntmps13
 go_wp2_with fail
 refine (LX.out _).mono ?_
 rintro e w1 ⟨v,rfl,hown,hb1⟩
 obtain ⟨va,vn,vc,rfl⟩:∃a n c,v=.slice a n c:=by
  rcases hown.2 with ⟨h,_⟩ | ⟨g,cap,cur,h,_⟩
  ·exact ⟨_,_,_,h⟩
  ·exact ⟨_,_,_,h⟩
 rw [HEE.out,HAA.out]
 have RQ1:=Lib.hid (row_later hb1 RQ.out)
 have RE1:=Lib.hid (row_later hb1 RE.out)
 have RA1:=Lib.hid (row_later hb1 RA.out)
 have B1:=Lib.hid (below_step B3.out (Nat.le_refl _) hb1)
 have OW:=Lib.hid (own_zero hown)
 have hs1:w.heap.size+3≤w1.heap.size:=by have:=hb1.size;simp at this;omega
 clear hown hb1
 have qz:=lt_of_block RQ1.out
 have q0:=cell_of_row w1 _ 0 _ _ _ RQ1.out
 have q1:=cell_of_row w1 _ 1 _ _ _ RQ1.out
 have q2:=cell_of_row w1 _ 2 _ _ _ RQ1.out
 have q3:=cell_of_row w1 _ 3 _ _ _ RQ1.out
 have q4:=cell_of_row w1 _ 4 _ _ _ RQ1.out
 have q5:=cell_of_row w1 _ 5 _ _ _ RQ1.out
 have q6:=cell_of_row w1 _ 6 _ _ _ RQ1.out
 have q7:=cell_of_row w1 _ 7 _ _ _ RQ1.out
 have q8:=cell_of_row w1 _ 8 _ _ _ RQ1.out
 have q9:=cell_of_row w1 _ 9 _ _ _ RQ1.out
 have q10:=cell_of_row w1 _ 10 _ _ _ RQ1.out
 have q11:=cell_of_row w1 _ 11 _ _ _ RQ1.out
 have q12:=cell_of_row w1 _ 12 _ _ _ RQ1.out
 have q13:=cell_of_row w1 _ 13 _ _ _ RQ1.out
 have qf0:=frozen_of_row w1 _ 0 _ _ RQ1.out
 have qf1:=frozen_of_row w1 _ 1 _ _ RQ1.out
 have qf2:=frozen_of_row w1 _ 2 _ _ RQ1.out
 have qf3:=frozen_of_row w1 _ 3 _ _ RQ1.out
 have qf4:=frozen_of_row w1 _ 4 _ _ RQ1.out
 have qf5:=frozen_of_row w1 _ 5 _ _ RQ1.out
 have qf6:=frozen_of_row w1 _ 6 _ _ RQ1.out
 have qf7:=frozen_of_row w1 _ 7 _ _ RQ1.out
 have qf8:=frozen_of_row w1 _ 8 _ _ RQ1.out
 have qf9:=frozen_of_row w1 _ 9 _ _ RQ1.out
 have qf10:=frozen_of_row w1 _ 10 _ _ RQ1.out
 have qf11:=frozen_of_row w1 _ 11 _ _ RQ1.out
 have qf12:=frozen_of_row w1 _ 12 _ _ RQ1.out
 have qf13:=frozen_of_row w1 _ 13 _ _ RQ1.out
 simp only [List.getElem?_toArray,List.getElem?_cons_zero,List.getElem?_cons_succ] at q0 q1 q2 q3 q4 q5 q6 q7 q8 q9 q10 q11 q12 q13
 obtain ⟨ez,e0⟩:=rk1 RE1.out
 have ef0:=frozen_of_row w1 _ 0 _ _ RE1.out
 obtain ⟨az,a0⟩:=rk1 RA1.out
 have af0:=frozen_of_row w1 _ 0 _ _ RA1.out
 obtain ⟨w2,hw2⟩:∃z,(w1.setCell ⟨w.heap.size+1,0,none⟩ (.int .i64 0)).setCell ⟨w.heap.size+1+1,0,none⟩ (.int .i64 0)=z:=⟨_,rfl⟩
 have rq2:w2.heap[w.heap.size]?=some (.cells nilQ 28 (0,0)):=by rw [←hw2];exact row_set_other (row_set_other RQ1.out (by simp only;omega)) (by simp only;omega)
 have re2:w2.heap[w.heap.size+1]?=some (.cells #[.int .i64 0] 31 (0,0)):=by rw [←hw2];exact row_set_other (row_set (i:=0) RE1.out) (by simp only;omega)
 have ra2:w2.heap[w.heap.size+1+1]?=some (.cells #[.int .i64 0] 3 (0,0)):=by rw [←hw2];exact row_set (i:=0) (row_set_other RA1.out (by simp only;omega))
 have ow2:w2.ownsRow 0 43 3 (.slice va vn vc) T.length (T.flatMap encTk):=by
  rw [←hw2]
  have hT3:=OW.out
  rw [HTT.out] at hT3
  rcases hT3 with ⟨h0,h1 | ⟨g,cap,cur,h1,h2,h3,h4⟩⟩
  ·exact ⟨h0,.inl h1⟩
  ·refine ⟨h0,.inr ⟨g,cap,cur,h1,h2,row_set_other (row_set_other h3 ?_) ?_,h4⟩⟩
   ·rintro rfl
    have:=RE1.out.symm.trans h3
    injection this with this;injection this with _ this;exact absurd this (by decide)
   ·rintro rfl
    have:=RA1.out.symm.trans h3
    injection this with this;injection this with _ this;exact absurd this (by decide)
 have b2:Below w.heap.size w w2:=by rw [←hw2];exact (B1.out.setCell (by simp only;omega) _).setCell (by simp only;omega) _
 have hs2:w1.heap.size=w2.heap.size:=by rw [←hw2];simp
 have QY:=Lib.hid (query_any w2.heap.size w2.heap.size (Nat.le_refl _) T s.size _ (by simp) (PAt.first s.size ow2 hTl hTK))
 have bp:=(Below.refl w2.heap.size w2).alloc (Nat.le_refl _) (.cells #[.slice va vn vc,.int .i64 s.size] 80)
 have RQ2:=Lib.hid (row_later bp rq2)
 have RE2:=Lib.hid (row_later bp re2)
 have RA2:=Lib.hid (row_later bp ra2)
 have BP:=Lib.hid bp
 have B2:=Lib.hid (below_step b2 (Nat.le_refl _) bp)
 have HW2:=Lib.hid hw2
 clear rq2 re2 ra2 ow2 b2 bp hw2
 rw [hr] at QY
 clear hr
 go_wp2_with fail
 rw [HW2.out]
 refine QY.out.mono ?_
 rintro e w3 ⟨hm3,rfl⟩
 have hl3:=hm3.low
 have e3:∀b,b<w2.heap.size→w3.heap[b]?=(w2.alloc (.cells #[.slice va vn vc,.int .i64 s.size] 80)).heap[b]?:=fun b hb=>hl3.block b hb
 have rq3:=(e3 _ (by omega)).trans RQ2.out
 have re3:=(e3 _ (by omega)).trans RE2.out
 have ra3:=(e3 _ (by omega)).trans RA2.out
 have B3:=Lib.hid (B2.out.trans (hl3.mono (by omega)))
 have CF:=Lib.hid (catch_fail w.heap.size (w.heap.size+1) (w.heap.size+1+1) 0 off er _ _ _ _ _ _ _ _ _ _ _ _ _ _ _ _ w3 (by omega) (by omega) (by omega) rq3 re3 ra3)
 have hs3:w2.heap.size≤w3.heap.size:=by have:=hm3.keep.1;simp at this;omega
 clear hm3 hl3 e3 rq3 re3 ra3
 show bodyPostD Tryz.prog _ _ (Exit.panic _) _ _
 refine leaves_cons (f:=37) (args:=#[.pointer (some ⟨w.heap.size,0,none⟩),.pointer (some ⟨w.heap.size+1,0,none⟩),.pointer (some ⟨w.heap.size+1+1,0,none⟩)]) (by simp) (by simp [go_sem]) ?_
 refine CF.out.mono ?_
 rintro e u' w4 ⟨rfl,rfl,rq4,re4,ra4,hb4⟩
 have RQ4:=Lib.hid rq4
 have RE4:=Lib.hid re4
 have RA4:=Lib.hid ra4
 have hbl:=hb4 w.heap.size (Nat.le_refl _) (by omega) (by omega) (by omega)
 have B4:=Lib.hid (B3.out.trans hbl)
 clear rq4 re4 ra4 hb4 hbl
 have qz:=lt_of_block RQ4.out
 have q0:=cell_of_row w4 _ 0 _ _ _ RQ4.out
 have q1:=cell_of_row w4 _ 1 _ _ _ RQ4.out
 have q2:=cell_of_row w4 _ 2 _ _ _ RQ4.out
 have q3:=cell_of_row w4 _ 3 _ _ _ RQ4.out
 have q4:=cell_of_row w4 _ 4 _ _ _ RQ4.out
 have q5:=cell_of_row w4 _ 5 _ _ _ RQ4.out
 have q6:=cell_of_row w4 _ 6 _ _ _ RQ4.out
 have q7:=cell_of_row w4 _ 7 _ _ _ RQ4.out
 have q8:=cell_of_row w4 _ 8 _ _ _ RQ4.out
 have q9:=cell_of_row w4 _ 9 _ _ _ RQ4.out
 have q10:=cell_of_row w4 _ 10 _ _ _ RQ4.out
 have q11:=cell_of_row w4 _ 11 _ _ _ RQ4.out
 have q12:=cell_of_row w4 _ 12 _ _ _ RQ4.out
 have q13:=cell_of_row w4 _ 13 _ _ _ RQ4.out
 simp only [List.getElem?_toArray,List.getElem?_cons_zero,List.getElem?_cons_succ] at q0 q1 q2 q3 q4 q5 q6 q7 q8 q9 q10 q11 q12 q13
 obtain ⟨ez,e0⟩:=rk1 RE4.out
 obtain ⟨az,a0⟩:=rk1 RA4.out
 simp [Leaves,settle,results,Tryz.results13,go_sem,q0,q1,q2,q3,q4,q5,q6,q7,q8,q9,q10,q11,q12,q13,e0,a0]
 exact ⟨none,0,rfl,leafP _ _ _ _ _ _ (by decide) (by decide),B4.out⟩
set_option maxRecDepth 100000 in
set_option maxHeartbeats 8000000 in
theorem parse_ok (s:ByteArray) (hs:s.size≤1000000) (T:List TokD) (q:QryD) (r:List TokD) (hT:lexP s=(T,0,0)) (hTl:T.length≤5000) (hTK:∀t∈T,TokOK t) (hr:queryP s.size T=.ok q r) (hz:sizeC q.wher≤60) (w:World) :
  Calls Tryz.prog 13 #[.string s] w (ParseR w.heap.size (q,0,0) w):=by
 have HEE:=Lib.hid (show (lexP s).2.1=0 by rw [hT])
 have HAA:=Lib.hid (show (lexP s).2.2=0 by rw [hT])
 have HTT:=Lib.hid (show (lexP s).1=T by rw [hT])
 have dz:decide ((60:Int)<(sizeC q.wher:Int))=false:=by rw [decide_eq_false_iff_not];omega
 have LX:=Lib.hid (fun W=>lex_any s (by omega) W)
 have b3:=(((Below.refl w.heap.size w).alloc (Nat.le_refl _) (.cells nilQ 28)).alloc (by simp) (.cells #[.int .i64 0] 31)).alloc (by simp;omega) (.cells #[.int .i64 0] 3)
 have rq:=row_past (o':=.cells #[.int .i64 0] 3) (row_past (o':=.cells #[.int .i64 0] 31) (row_new w (.cells nilQ 28)))
 have re:=row_past (o':=.cells #[.int .i64 0] 3) (row_new (w.alloc (.cells nilQ 28)) (.cells #[.int .i64 0] 31))
 have ra:=row_new ((w.alloc (.cells nilQ 28)).alloc (.cells #[.int .i64 0] 31)) (.cells #[.int .i64 0] 3)
 simp only [World.size_alloc] at re ra
 have RQ:=Lib.hid rq
 have RE:=Lib.hid re
 have RA:=Lib.hid ra
 have B3:=Lib.hid b3
 clear rq re ra b3
 have hmf:∀(fn:Fn) (first cap:Array Value) (w:World),(Instr.makeFunc fn first cap).run Tryz.prog w=.ok (.func fn first cap) w:=fun _ _ _ _=>rfl
 have hmx:Tryz.prog.follows .mixedOrders=true:=by kernel_rfl
 go_enter_defers Tryz.func13,Tryz.ntmps13
 go_wp2_with fail
 refine (LX.out _).mono ?_
 rintro e w1 ⟨v,rfl,hown,hb1⟩
 obtain ⟨va,vn,vc,rfl⟩:∃a n c,v=.slice a n c:=by
  rcases hown.2 with ⟨h,_⟩ | ⟨g,cap,cur,h,_⟩
  ·exact ⟨_,_,_,h⟩
  ·exact ⟨_,_,_,h⟩
 rw [HEE.out,HAA.out]
 have RQ1:=Lib.hid (row_later hb1 RQ.out)
 have RE1:=Lib.hid (row_later hb1 RE.out)
 have RA1:=Lib.hid (row_later hb1 RA.out)
 have B1:=Lib.hid (below_step B3.out (Nat.le_refl _) hb1)
 have OW:=Lib.hid (own_zero hown)
 have hs1:w.heap.size+3≤w1.heap.size:=by have:=hb1.size;simp at this;omega
 clear hown hb1
 have qz:=lt_of_block RQ1.out
 have q0:=cell_of_row w1 _ 0 _ _ _ RQ1.out
 have q1:=cell_of_row w1 _ 1 _ _ _ RQ1.out
 have q2:=cell_of_row w1 _ 2 _ _ _ RQ1.out
 have q3:=cell_of_row w1 _ 3 _ _ _ RQ1.out
 have q4:=cell_of_row w1 _ 4 _ _ _ RQ1.out
 have q5:=cell_of_row w1 _ 5 _ _ _ RQ1.out
 have q6:=cell_of_row w1 _ 6 _ _ _ RQ1.out
 have q7:=cell_of_row w1 _ 7 _ _ _ RQ1.out
 have q8:=cell_of_row w1 _ 8 _ _ _ RQ1.out
 have q9:=cell_of_row w1 _ 9 _ _ _ RQ1.out
 have q10:=cell_of_row w1 _ 10 _ _ _ RQ1.out
 have q11:=cell_of_row w1 _ 11 _ _ _ RQ1.out
 have q12:=cell_of_row w1 _ 12 _ _ _ RQ1.out
 have q13:=cell_of_row w1 _ 13 _ _ _ RQ1.out
 have qf0:=frozen_of_row w1 _ 0 _ _ RQ1.out
 have qf1:=frozen_of_row w1 _ 1 _ _ RQ1.out
 have qf2:=frozen_of_row w1 _ 2 _ _ RQ1.out
 have qf3:=frozen_of_row w1 _ 3 _ _ RQ1.out
 have qf4:=frozen_of_row w1 _ 4 _ _ RQ1.out
 have qf5:=frozen_of_row w1 _ 5 _ _ RQ1.out
 have qf6:=frozen_of_row w1 _ 6 _ _ RQ1.out
 have qf7:=frozen_of_row w1 _ 7 _ _ RQ1.out
 have qf8:=frozen_of_row w1 _ 8 _ _ RQ1.out
 have qf9:=frozen_of_row w1 _ 9 _ _ RQ1.out
 have qf10:=frozen_of_row w1 _ 10 _ _ RQ1.out
 have qf11:=frozen_of_row w1 _ 11 _ _ RQ1.out
 have qf12:=frozen_of_row w1 _ 12 _ _ RQ1.out
 have qf13:=frozen_of_row w1 _ 13 _ _ RQ1.out
 simp only [List.getElem?_toArray,List.getElem?_cons_zero,List.getElem?_cons_succ] at q0 q1 q2 q3 q4 q5 q6 q7 q8 q9 q10 q11 q12 q13
 obtain ⟨ez,e0⟩:=rk1 RE1.out
 have ef0:=frozen_of_row w1 _ 0 _ _ RE1.out
 obtain ⟨az,a0⟩:=rk1 RA1.out
 have af0:=frozen_of_row w1 _ 0 _ _ RA1.out
 obtain ⟨w2,hw2⟩:∃z,(w1.setCell ⟨w.heap.size+1,0,none⟩ (.int .i64 0)).setCell ⟨w.heap.size+1+1,0,none⟩ (.int .i64 0)=z:=⟨_,rfl⟩
 have rq2:w2.heap[w.heap.size]?=some (.cells nilQ 28 (0,0)):=by rw [←hw2];exact row_set_other (row_set_other RQ1.out (by simp only;omega)) (by simp only;omega)
 have re2:w2.heap[w.heap.size+1]?=some (.cells #[.int .i64 0] 31 (0,0)):=by rw [←hw2];exact row_set_other (row_set (i:=0) RE1.out) (by simp only;omega)
 have ra2:w2.heap[w.heap.size+1+1]?=some (.cells #[.int .i64 0] 3 (0,0)):=by rw [←hw2];exact row_set (i:=0) (row_set_other RA1.out (by simp only;omega))
 have ow2:w2.ownsRow 0 43 3 (.slice va vn vc) T.length (T.flatMap encTk):=by
  rw [←hw2]
  have hT3:=OW.out
  rw [HTT.out] at hT3
  rcases hT3 with ⟨h0,h1 | ⟨g,cap,cur,h1,h2,h3,h4⟩⟩
  ·exact ⟨h0,.inl h1⟩
  ·refine ⟨h0,.inr ⟨g,cap,cur,h1,h2,row_set_other (row_set_other h3 ?_) ?_,h4⟩⟩
   ·rintro rfl
    have:=RE1.out.symm.trans h3
    injection this with this;injection this with _ this;exact absurd this (by decide)
   ·rintro rfl
    have:=RA1.out.symm.trans h3
    injection this with this;injection this with _ this;exact absurd this (by decide)
 have b2:Below w.heap.size w w2:=by rw [←hw2];exact (B1.out.setCell (by simp only;omega) _).setCell (by simp only;omega) _
 have hs2:w1.heap.size=w2.heap.size:=by rw [←hw2];simp
 have QY:=Lib.hid (query_any w2.heap.size w2.heap.size (Nat.le_refl _) T s.size _ (by simp) (PAt.first s.size ow2 hTl hTK))
 have bp:=(Below.refl w2.heap.size w2).alloc (Nat.le_refl _) (.cells #[.slice va vn vc,.int .i64 s.size] 80)
 have RQ2:=Lib.hid (row_later bp rq2)
 have RE2:=Lib.hid (row_later bp re2)
 have RA2:=Lib.hid (row_later bp ra2)
 have BP:=Lib.hid bp
 have B2:=Lib.hid (below_step b2 (Nat.le_refl _) bp)
 have HW2:=Lib.hid hw2
 clear rq2 re2 ra2 ow2 b2 bp hw2
 rw [hr] at QY
 clear hr
 go_wp2_with fail
 rw [HW2.out]
 refine QY.out.mono ?_
 rintro e w3 ⟨hm3,v,rfl,⟨aq,capq,rfl,hc3⟩,hp3⟩
 have hl3:=hm3.low
 have e3:∀b,b<w2.heap.size→w3.heap[b]?=(w2.alloc (.cells #[.slice va vn vc,.int .i64 s.size] 80)).heap[b]?:=fun b hb=>hl3.block b hb
 have rq3:=(e3 _ (by omega)).trans RQ2.out
 have re3:=(e3 _ (by omega)).trans RE2.out
 have ra3:=(e3 _ (by omega)).trans RA2.out
 have B3:=Lib.hid (B2.out.trans (hl3.mono (by omega)))
 have hs3:w2.heap.size≤w3.heap.size:=by have:=hm3.keep.1;simp at this;omega
 simp only [World.size_alloc] at hc3
 have HC3:=Lib.hid hc3
 have RQ3:=Lib.hid rq3
 have RE3:=Lib.hid re3
 have RA3:=Lib.hid ra3
 clear hm3 hl3 e3 rq3 re3 ra3 hp3 hc3
 clear q0 q1 q2 q3 q4 q5 q6 q7 q8 q9 q10 q11 q12 q13 qz qf0 qf1 qf2 qf3 qf4 qf5 qf6 qf7 qf8 qf9 qf10 qf11 qf12 qf13
 clear e0 ez ef0
 clear a0 az af0
 have qz:=lt_of_block RQ3.out
 have q0:=cell_of_row w3 _ 0 _ _ _ RQ3.out
 have q1:=cell_of_row w3 _ 1 _ _ _ RQ3.out
 have q2:=cell_of_row w3 _ 2 _ _ _ RQ3.out
 have q3:=cell_of_row w3 _ 3 _ _ _ RQ3.out
 have q4:=cell_of_row w3 _ 4 _ _ _ RQ3.out
 have q5:=cell_of_row w3 _ 5 _ _ _ RQ3.out
 have q6:=cell_of_row w3 _ 6 _ _ _ RQ3.out
 have q7:=cell_of_row w3 _ 7 _ _ _ RQ3.out
 have q8:=cell_of_row w3 _ 8 _ _ _ RQ3.out
 have q9:=cell_of_row w3 _ 9 _ _ _ RQ3.out
 have q10:=cell_of_row w3 _ 10 _ _ _ RQ3.out
 have q11:=cell_of_row w3 _ 11 _ _ _ RQ3.out
 have q12:=cell_of_row w3 _ 12 _ _ _ RQ3.out
 have q13:=cell_of_row w3 _ 13 _ _ _ RQ3.out
 have qf0:=frozen_of_row w3 _ 0 _ _ RQ3.out
 have qf1:=frozen_of_row w3 _ 1 _ _ RQ3.out
 have qf2:=frozen_of_row w3 _ 2 _ _ RQ3.out
 have qf3:=frozen_of_row w3 _ 3 _ _ RQ3.out
 have qf4:=frozen_of_row w3 _ 4 _ _ RQ3.out
 have qf5:=frozen_of_row w3 _ 5 _ _ RQ3.out
 have qf6:=frozen_of_row w3 _ 6 _ _ RQ3.out
 have qf7:=frozen_of_row w3 _ 7 _ _ RQ3.out
 have qf8:=frozen_of_row w3 _ 8 _ _ RQ3.out
 have qf9:=frozen_of_row w3 _ 9 _ _ RQ3.out
 have qf10:=frozen_of_row w3 _ 10 _ _ RQ3.out
 have qf11:=frozen_of_row w3 _ 11 _ _ RQ3.out
 have qf12:=frozen_of_row w3 _ 12 _ _ RQ3.out
 have qf13:=frozen_of_row w3 _ 13 _ _ RQ3.out
 simp only [List.getElem?_toArray,List.getElem?_cons_zero,List.getElem?_cons_succ] at q0 q1 q2 q3 q4 q5 q6 q7 q8 q9 q10 q11 q12 q13
 have SZ:=Lib.hid (fun W h=>size_any q.wher aq capq W h)
 go_wp2_with fail
 generalize hw4:((((((((((((((w3).setCell ⟨w.heap.size,0,none⟩ (.int .i64 q.ask)).setCell ⟨w.heap.size,1,none⟩ (.int .i64 q.kind)).setCell ⟨w.heap.size,2,none⟩ (.int .i64 q.wher.op)).setCell ⟨w.heap.size,3,none⟩ (.string q.wher.key)).setCell ⟨w.heap.size,4,none⟩ (.string q.wher.val)).setCell ⟨w.heap.size,5,none⟩ (.int .i64 q.wher.n)).setCell ⟨w.heap.size,6,none⟩ (.slice aq q.wher.kids.length capq)).setCell ⟨w.heap.size,7,none⟩ (.string q.id)).setCell ⟨w.heap.size,8,none⟩ (.int .i64 q.n)).setCell ⟨w.heap.size,9,none⟩ (.int .i64 q.x)).setCell ⟨w.heap.size,10,none⟩ (.int .i64 q.y)).setCell ⟨w.heap.size,11,none⟩ (.string q.key)).setCell ⟨w.heap.size,12,none⟩ (.string q.prof)).setCell ⟨w.heap.size,13,none⟩ (.int .i64 q.minute)=w4
 have rq4:w4.heap[w.heap.size]?=some (.cells #[.int .i64 q.ask,.int .i64 q.kind,.int .i64 q.wher.op,.string q.wher.key,.string q.wher.val,.int .i64 q.wher.n,.slice aq q.wher.kids.length capq,.string q.id,.int .i64 q.n,.int .i64 q.x,.int .i64 q.y,.string q.key,.string q.prof,.int .i64 q.minute] 28 (0,0)):=by rw [←hw4];exact set14_row RQ3.out _ _ _ _ _ _ _ _ _ _ _ _ _ _
 have e4:∀b,b≠w.heap.size→w4.heap[b]?=w3.heap[b]?:=fun b hb=>by rw [←hw4];exact set14_heap _ _ _ _ _ _ _ _ _ _ _ _ _ _ hb
 have B4:=Lib.hid (show Below w.heap.size w w4 by rw [←hw4];exact set14_low B3.out (Nat.le_refl _) _ _ _ _ _ _ _ _ _ _ _ _ _ _)
 have hs4:w3.heap.size=w4.heap.size:=by rw [←hw4];exact (set14_size _ _ _ _ _ _ _ _ _ _ _ _ _ _).symm
 have HC4:=Lib.hid (HC3.out.to (w':=w4) (Q:=fun b=>w2.heap.size+1≤b) (fun b h _=>h) fun b h1 _=>e4 b (by omega))
 have RE4:=Lib.hid ((e4 _ (by omega)).trans RE3.out)
 have RA4:=Lib.hid ((e4 _ (by omega)).trans RA3.out)
 have RQ4:=Lib.hid rq4
 clear rq4 e4 hw4
 clear q0 q1 q2 q3 q4 q5 q6 q7 q8 q9 q10 q11 q12 q13 qz qf0 qf1 qf2 qf3 qf4 qf5 qf6 qf7 qf8 qf9 qf10 qf11 qf12 qf13
 refine (SZ.out w4 (CondP.is _ _ HC4.out)).mono ?_
 rintro e w5 ⟨rfl,hb5⟩
 have RQ5:=Lib.hid (row_later hb5 RQ4.out)
 have RE5:=Lib.hid (row_later hb5 RE4.out)
 have RA5:=Lib.hid (row_later hb5 RA4.out)
 have B5:=Lib.hid (below_step B4.out (Nat.le_refl _) hb5)
 have HC5:=Lib.hid (HC4.out.to (w':=w5) (Q:=fun b=>w2.heap.size+1≤b) (fun b h _=>h) fun b _ h2=>hb5.block b h2)
 clear hb5
 have qz:=lt_of_block RQ5.out
 have q0:=cell_of_row w5 _ 0 _ _ _ RQ5.out
 have q1:=cell_of_row w5 _ 1 _ _ _ RQ5.out
 have q2:=cell_of_row w5 _ 2 _ _ _ RQ5.out
 have q3:=cell_of_row w5 _ 3 _ _ _ RQ5.out
 have q4:=cell_of_row w5 _ 4 _ _ _ RQ5.out
 have q5:=cell_of_row w5 _ 5 _ _ _ RQ5.out
 have q6:=cell_of_row w5 _ 6 _ _ _ RQ5.out
 have q7:=cell_of_row w5 _ 7 _ _ _ RQ5.out
 have q8:=cell_of_row w5 _ 8 _ _ _ RQ5.out
 have q9:=cell_of_row w5 _ 9 _ _ _ RQ5.out
 have q10:=cell_of_row w5 _ 10 _ _ _ RQ5.out
 have q11:=cell_of_row w5 _ 11 _ _ _ RQ5.out
 have q12:=cell_of_row w5 _ 12 _ _ _ RQ5.out
 have q13:=cell_of_row w5 _ 13 _ _ _ RQ5.out
 have qf0:=frozen_of_row w5 _ 0 _ _ RQ5.out
 have qf1:=frozen_of_row w5 _ 1 _ _ RQ5.out
 have qf2:=frozen_of_row w5 _ 2 _ _ RQ5.out
 have qf3:=frozen_of_row w5 _ 3 _ _ RQ5.out
 have qf4:=frozen_of_row w5 _ 4 _ _ RQ5.out
 have qf5:=frozen_of_row w5 _ 5 _ _ RQ5.out
 have qf6:=frozen_of_row w5 _ 6 _ _ RQ5.out
 have qf7:=frozen_of_row w5 _ 7 _ _ RQ5.out
 have qf8:=frozen_of_row w5 _ 8 _ _ RQ5.out
 have qf9:=frozen_of_row w5 _ 9 _ _ RQ5.out
 have qf10:=frozen_of_row w5 _ 10 _ _ RQ5.out
 have qf11:=frozen_of_row w5 _ 11 _ _ RQ5.out
 have qf12:=frozen_of_row w5 _ 12 _ _ RQ5.out
 have qf13:=frozen_of_row w5 _ 13 _ _ RQ5.out
 simp only [List.getElem?_toArray,List.getElem?_cons_zero,List.getElem?_cons_succ] at q0 q1 q2 q3 q4 q5 q6 q7 q8 q9 q10 q11 q12 q13
 obtain ⟨ez,e0⟩:=rk1 RE5.out
 have ef0:=frozen_of_row w5 _ 0 _ _ RE5.out
 obtain ⟨az,a0⟩:=rk1 RA5.out
 have af0:=frozen_of_row w5 _ 0 _ _ RA5.out
 go_wp2
 generalize hw6:(((((((((((((((((w5).setCell ⟨w.heap.size,0,none⟩ (.int .i64 q.ask)).setCell ⟨w.heap.size,1,none⟩ (.int .i64 q.kind)).setCell ⟨w.heap.size,2,none⟩ (.int .i64 q.wher.op)).setCell ⟨w.heap.size,3,none⟩ (.string q.wher.key)).setCell ⟨w.heap.size,4,none⟩ (.string q.wher.val)).setCell ⟨w.heap.size,5,none⟩ (.int .i64 q.wher.n)).setCell ⟨w.heap.size,6,none⟩ (.slice aq q.wher.kids.length capq)).setCell ⟨w.heap.size,7,none⟩ (.string q.id)).setCell ⟨w.heap.size,8,none⟩ (.int .i64 q.n)).setCell ⟨w.heap.size,9,none⟩ (.int .i64 q.x)).setCell ⟨w.heap.size,10,none⟩ (.int .i64 q.y)).setCell ⟨w.heap.size,11,none⟩ (.string q.key)).setCell ⟨w.heap.size,12,none⟩ (.string q.prof)).setCell ⟨w.heap.size,13,none⟩ (.int .i64 q.minute)).setCell ⟨w.heap.size+1,0,none⟩ (.int .i64 0)).setCell ⟨w.heap.size+1+1,0,none⟩ (.int .i64 0))=w6
 have rq6:w6.heap[w.heap.size]?=some (.cells #[.int .i64 q.ask,.int .i64 q.kind,.int .i64 q.wher.op,.string q.wher.key,.string q.wher.val,.int .i64 q.wher.n,.slice aq q.wher.kids.length capq,.string q.id,.int .i64 q.n,.int .i64 q.x,.int .i64 q.y,.string q.key,.string q.prof,.int .i64 q.minute] 28 (0,0)):=by rw [←hw6];exact row_set_other (row_set_other (set14_row RQ5.out _ _ _ _ _ _ _ _ _ _ _ _ _ _) (by simp only;omega)) (by simp only;omega)
 have re6:w6.heap[w.heap.size+1]?=some (.cells #[.int .i64 0] 31 (0,0)):=by rw [←hw6];exact row_set_other (row_set (i:=0) ((set14_heap _ _ _ _ _ _ _ _ _ _ _ _ _ _ (by omega)).trans RE5.out)) (by simp only;omega)
 have ra6:w6.heap[w.heap.size+1+1]?=some (.cells #[.int .i64 0] 3 (0,0)):=by rw [←hw6];exact row_set (i:=0) (row_set_other ((set14_heap _ _ _ _ _ _ _ _ _ _ _ _ _ _ (by omega)).trans RA5.out) (by simp only;omega))
 have B6:=Lib.hid (show Below w.heap.size w w6 by rw [←hw6];exact ((set14_low B5.out (Nat.le_refl _) _ _ _ _ _ _ _ _ _ _ _ _ _ _).setCell (by simp only;omega) _).setCell (by simp only;omega) _)
 have HC6:=Lib.hid (HC5.out.to (w':=w6) (Q:=fun b=>w.heap.size≤b) (fun b h _=>by omega) fun b h1 _=>by rw [←hw6,Below.heap_setCell _ _ _ _ (by simp only;omega),Below.heap_setCell _ _ _ _ (by simp only;omega)];exact set14_heap _ _ _ _ _ _ _ _ _ _ _ _ _ _ (by omega))
 have RQ6:=Lib.hid rq6
 have RE6:=Lib.hid re6
 have RA6:=Lib.hid ra6
 clear rq6 re6 ra6 hw6
 clear q0 q1 q2 q3 q4 q5 q6 q7 q8 q9 q10 q11 q12 q13 qz qf0 qf1 qf2 qf3 qf4 qf5 qf6 qf7 qf8 qf9 qf10 qf11 qf12 qf13
 clear e0 ez ef0
 clear a0 az af0
 refine leaves_cons (f:=37) (args:=#[.pointer (some ⟨w.heap.size,0,none⟩),.pointer (some ⟨w.heap.size+1,0,none⟩),.pointer (some ⟨w.heap.size+1+1,0,none⟩)]) (by simp) (by simp [go_sem]) ?_
 refine (catch_idle _ _ _ w6).mono ?_
 rintro e u' w'' ⟨rfl,rfl,hw⟩
 subst w''
 have qz:=lt_of_block RQ6.out
 have q0:=cell_of_row w6 _ 0 _ _ _ RQ6.out
 have q1:=cell_of_row w6 _ 1 _ _ _ RQ6.out
 have q2:=cell_of_row w6 _ 2 _ _ _ RQ6.out
 have q3:=cell_of_row w6 _ 3 _ _ _ RQ6.out
 have q4:=cell_of_row w6 _ 4 _ _ _ RQ6.out
 have q5:=cell_of_row w6 _ 5 _ _ _ RQ6.out
 have q6:=cell_of_row w6 _ 6 _ _ _ RQ6.out
 have q7:=cell_of_row w6 _ 7 _ _ _ RQ6.out
 have q8:=cell_of_row w6 _ 8 _ _ _ RQ6.out
 have q9:=cell_of_row w6 _ 9 _ _ _ RQ6.out
 have q10:=cell_of_row w6 _ 10 _ _ _ RQ6.out
 have q11:=cell_of_row w6 _ 11 _ _ _ RQ6.out
 have q12:=cell_of_row w6 _ 12 _ _ _ RQ6.out
 have q13:=cell_of_row w6 _ 13 _ _ _ RQ6.out
 simp only [List.getElem?_toArray,List.getElem?_cons_zero,List.getElem?_cons_succ] at q0 q1 q2 q3 q4 q5 q6 q7 q8 q9 q10 q11 q12 q13
 obtain ⟨ez,e0⟩:=rk1 RE6.out
 obtain ⟨az,a0⟩:=rk1 RA6.out
 simp [Leaves,settle,results,Tryz.results13,go_sem,q0,q1,q2,q3,q4,q5,q6,q7,q8,q9,q10,q11,q12,q13,e0,a0]
 exact ⟨aq,capq,rfl,HC6.out,B6.out⟩
end Go.Proofs.YtdfenhjibnfdeaaGreatDoor

namespace Go.Proofs.YtdfenhjibnfdeaaGreatDoor
open Go.RowKit Go.Shelf
def joinB (l:List ByteArray) (sep:ByteArray):ByteArray:=⟨(Lib.join (l.map (·.data.toList)) sep.data.toList).toArray⟩
def parT (o:Int) (s:ByteArray):ByteArray:=if o=5∨o=6 then (⟨#[40]⟩++s)++⟨#[41]⟩ else s
mutual
def textC:CondD→ByteArray
 |.mk o k v n ks =>
  if o=2 then k
  else if o=3 then (k++⟨#[32,61,32]⟩)++quoteB v
  else if o=7 then (k++⟨#[32,62,32]⟩)++itoaB n
  else if o=4 then ⟨#[110,111,116,32]⟩++(textK ks).headD ⟨#[]⟩
  else if o=5 then joinB (textK ks) ⟨#[32,97,110,100,32]⟩
  else if o=6 then joinB (textK ks) ⟨#[32,111,114,32]⟩
  else wAlways
def textK:List CondD→List ByteArray
 |[]=>[]
 |c :: r=>parT c.op (textC c) :: textK r
end
def kidT (c:CondD):ByteArray:=parT c.op (textC c)
theorem textK_map:∀ks:List CondD,textK ks=ks.map kidT
 |[]=>by rw [textK];rfl
 |c :: r=>by rw [textK,textK_map r];rfl
theorem textC_eq (o:Int) (k v:ByteArray) (n:Int) (ks:List CondD):textC (.mk o k v n ks)=if o=2 then k
  else if o=3 then (k++⟨#[32,61,32]⟩)++quoteB v
  else if o=7 then (k++⟨#[32,62,32]⟩)++itoaB n
  else if o=4 then ⟨#[110,111,116,32]⟩++(ks.map kidT).headD ⟨#[]⟩
  else if o=5 then joinB (ks.map kidT) ⟨#[32,97,110,100,32]⟩
  else if o=6 then joinB (ks.map kidT) ⟨#[32,111,114,32]⟩
  else wAlways:=by rw [textC,textK_map]
theorem join_ge (sep:List UInt8):∀(l:List ByteArray) (s:ByteArray),s∈l→s.size≤(Lib.join (l.map (·.data.toList)) sep).length
 |[],_,h=>by cases h
 |[a],s,h=>by
  rw [List.mem_singleton.1 h]
  have e:a.data.size=a.size:=rfl
  simp [Lib.join,e]
 |a :: b :: r,s,h=>by
  have e:a.data.size=a.size:=rfl
  have ih:=join_ge sep (b :: r)
  simp only [Lib.join,List.map_cons,List.intercalate_cons_cons,List.length_append,Array.length_toList] at ih ⊢
  rcases List.mem_cons.1 h with rfl | h
  ·omega
  ·have:=ih s h;omega
theorem joinB_size (l:List ByteArray) (sep:ByteArray):(joinB l sep).size=(Lib.join (l.map (·.data.toList)) sep.data.toList).length:=List.size_toArray ..
theorem kidT_size (c:CondD):(textC c).size≤(kidT c).size:=by
 unfold kidT parT
 split
 ·simp only [ByteArray.size_append];omega
 ·exact Nat.le_refl _
theorem kid_size {o:Int} {k v:ByteArray} {n:Int} {ks:List CondD} (hok:nodeOK (.mk o k v n ks)=true) {c:CondD} (h:c∈ks):(kidT c).size≤(textC (.mk o k v n ks)).size:=by
 have hm:kidT c∈ks.map kidT:=List.mem_map.2 ⟨c,h,rfl⟩
 have hk:0<ks.length:=List.length_pos_of_mem h
 have hok:nodeB o k v n ks.length=true:=hok
 rw [textC_eq]
 unfold nodeB at hok
 by_cases h1:o=1
 ·rw [if_pos h1] at hok;simp only [Bool.and_eq_true,decide_eq_true_eq] at hok;omega
 by_cases h2:o=2
 ·rw [if_neg h1,if_pos h2] at hok;simp only [Bool.and_eq_true,decide_eq_true_eq] at hok;omega
 by_cases h3:o=3
 ·rw [if_neg h1,if_neg h2,if_pos h3] at hok;simp only [Bool.and_eq_true,decide_eq_true_eq] at hok;omega
 by_cases h7:o=7
 ·rw [if_neg h1,if_neg h2,if_neg h3,if_pos h7] at hok;simp only [Bool.and_eq_true,decide_eq_true_eq] at hok;omega
 rw [if_neg h2,if_neg h3,if_neg h7]
 by_cases h4:o=4
 ·rw [if_neg h1,if_neg h2,if_neg h3,if_neg h7,if_pos h4] at hok
  rw [if_pos h4]
  simp at hok
  obtain ⟨x,rfl⟩:=List.length_eq_one_iff.1 hok.2
  rw [List.mem_singleton.1 h]
  simp only [List.map_cons,List.map_nil,List.headD_cons,ByteArray.size_append];omega
 rw [if_neg h4]
 by_cases h5:o=5
 ·rw [if_pos h5,joinB_size];exact join_ge _ _ _ hm
 rw [if_neg h5]
 by_cases h6:o=6
 ·rw [if_pos h6,joinB_size];exact join_ge _ _ _ hm
 rw [if_neg h1,if_neg h2,if_neg h3,if_neg h7,if_neg h4,if_neg (by omega)] at hok
 cases hok
theorem callC_kid {p:CondD→Bool}:∀{ks:List CondD},callL p ks=true→∀c∈ks,callC p c=true
 |[],_,_,h=>by cases h
 |x :: r,h,c,hc=>by
  rw [callL,Bool.and_eq_true] at h
  rcases List.mem_cons.1 hc with rfl | hc
  ·exact h.1
  ·exact callC_kid h.2 c hc
end Go.Proofs.YtdfenhjibnfdeaaGreatDoor

namespace Go.Proofs.YtdfenhjibnfdeaaGreatDoor
open Go.RowKit Go.Shelf
def tokB (t:TokD):Bool:=decide (t.text.size≤20000) && (decide (t.kind≠2) || (decide (t.text.size≤18) && match Lib.atoi t.text.data.toList,numS t.text with | some a,some b=>decide (a=b) | _,_=>false))
theorem tok_of {l:List TokD} (h:l.all tokB=true):∀t∈l,TokOK t:=by
 intro t ht
 have h1:=List.all_eq_true.1 h t ht
 unfold tokB at h1
 rw [Bool.and_eq_true,decide_eq_true_eq] at h1
 refine ⟨h1.1,fun hk=>?_⟩
 have h2:=h1.2
 rw [decide_eq_false (by simpa using hk),Bool.false_or,Bool.and_eq_true,decide_eq_true_eq] at h2
 refine ⟨h2.1,?_⟩
 have h3:=h2.2
 split at h3
 ·rename_i a b e1 e2
  rw [decide_eq_true_eq] at h3
  exact ⟨a,e1,by rw [h3];exact e2⟩
 ·cases h3
def sQ:ByteArray:=⟨#[105,110,115,105,100,101,32,97,49,32,110,111,100,101,32,119,104,101,114,101,32,99,108,97,115,115,32,61,32,34,99,97,102,101,34,32,97,110,100,32,110,111,116,32,40,104,111,117,114,115,32,111,114,32,108,101,118,101,108,32,62,32,50,41]⟩
def sF:ByteArray:=⟨#[110,101,97,114,101,115,116,32,48,32,116,111,32,49,32,49,32,97,110,121]⟩
def sG:ByteArray:=⟨#[97,108,108,32,110,111,100,101,32,119,104,101,114,101,32,110,111,116]⟩
def sRq:ByteArray:=⟨#[114,101,97,99,104,32,110,49,32,105,110,32,51,48,32,98,121,32,99,97,114,32,97,116,32,54,48,48,32,119,97,121]⟩
def wClass:ByteArray:=⟨#[99,108,97,115,115]⟩
def wCafe:ByteArray:=⟨#[99,97,102,101]⟩
def wHours:ByteArray:=⟨#[104,111,117,114,115]⟩
def wLevel:ByteArray:=⟨#[108,101,118,101,108]⟩
def a1Q:ByteArray:=⟨#[97,49]⟩
def cQ:CondD:=.mk 5 emptyB emptyB 0 [.mk 3 wClass wCafe 0 [],.mk 4 emptyB emptyB 0 [.mk 6 emptyB emptyB 0 [.mk 2 wHours emptyB 0 [],.mk 7 wLevel emptyB 2 []]]]
def qQ:QryD:=⟨2,1,cQ,a1Q,0,0,0,emptyB,emptyB,0⟩
def qR:QryD:=⟨5,2,allW,⟨#[110,49]⟩,30,0,0,emptyB,⟨#[99,97,114]⟩,600⟩
set_option maxRecDepth 100000 in
theorem lxQ:lexP sQ=((lexP sQ).1,0,0):=by
 have h:(lexP sQ).2=(0,0):=by decide +kernel
 rw [←h]
set_option maxRecDepth 100000 in
theorem tlQ:(lexP sQ).1.length≤5000:=by decide +kernel
set_option maxRecDepth 100000 in
theorem tokQ:∀t∈(lexP sQ).1,TokOK t:=tok_of (by decide +kernel)
set_option maxRecDepth 100000 in
theorem lxF:lexP sF=((lexP sF).1,0,0):=by
 have h:(lexP sF).2=(0,0):=by decide +kernel
 rw [←h]
set_option maxRecDepth 100000 in
theorem tlF:(lexP sF).1.length≤5000:=by decide +kernel
set_option maxRecDepth 100000 in
theorem tokF:∀t∈(lexP sF).1,TokOK t:=tok_of (by decide +kernel)
set_option maxRecDepth 100000 in
theorem lxG:lexP sG=((lexP sG).1,0,0):=by
 have h:(lexP sG).2=(0,0):=by decide +kernel
 rw [←h]
set_option maxRecDepth 100000 in
theorem tlG:(lexP sG).1.length≤5000:=by decide +kernel
set_option maxRecDepth 100000 in
theorem tokG:∀t∈(lexP sG).1,TokOK t:=tok_of (by decide +kernel)
set_option maxRecDepth 100000 in
theorem lxRq:lexP sRq=((lexP sRq).1,0,0):=by
 have h:(lexP sRq).2=(0,0):=by decide +kernel
 rw [←h]
set_option maxRecDepth 100000 in
theorem tlRq:(lexP sRq).1.length≤5000:=by decide +kernel
set_option maxRecDepth 100000 in
theorem tokRq:∀t∈(lexP sRq).1,TokOK t:=tok_of (by decide +kernel)
set_option maxRecDepth 100000 in
theorem pQ:queryP sQ.size (lexP sQ).1=.ok qQ []:=by kernel_rfl
set_option maxRecDepth 100000 in
theorem pF:queryP sF.size (lexP sF).1=.bad 10 8:=by kernel_rfl
set_option maxRecDepth 100000 in
theorem pG:queryP sG.size (lexP sG).1=.bad 6 18:=by kernel_rfl
set_option maxRecDepth 100000 in
theorem pR:queryP sRq.size (lexP sRq).1=.ok qR []:=by kernel_rfl
theorem zQ:sizeC qQ.wher≤60:=by decide +kernel
theorem zR:sizeC qR.wher≤60:=by decide +kernel
theorem vcQ:validC cQ=true:=by decide +kernel
theorem vQ:validQ qQ=true:=by decide +kernel
theorem tcQ:(textC cQ).size≤10000:=by decide +kernel
theorem hQ1:holdsC [⟨wClass,wCafe⟩,⟨wLevel,⟨#[50]⟩⟩] cQ=true:=by decide +kernel
theorem hQ2:holdsC [⟨wClass,wCafe⟩,⟨wLevel,⟨#[51]⟩⟩] cQ=false:=by decide +kernel
theorem txQ:joinB [wInside,a1Q,wNode,wWhere,textC cQ] ⟨#[32]⟩=sQ:=by kernel_rfl
end Go.Proofs.YtdfenhjibnfdeaaGreatDoor
