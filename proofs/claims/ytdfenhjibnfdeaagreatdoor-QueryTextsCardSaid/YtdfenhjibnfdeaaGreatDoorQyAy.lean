/-   -/
import Derived.Test.YtdfenhjibnfdeaaGreatDoorQyAx
import Derived.Test.YtdfenhjibnfdeaaGreatDoorQyAm
import Derived.Recover
import Derived.Tactics2
import Derived.Test.YtdfenhjibnfdeaaGreatDoorQyAw
namespace Go.Proofs.YtdfenhjibnfdeaaGreatDoor
open Go.RowKit Go.Shelf
set_option maxRecDepth 100000 in
set_option maxHeartbeats 2000000 in
theorem catch_idle (a b c:Value) (w:World) :
  CallsD Tryz.prog 37 #[a,b,c] .returning w fun e u' w'=>e=.returned (.tuple #[])∧u'=.returning∧w'=w:=by
 refine callsD_of_wpS Tryz.func37 rfl fun c₀ cs hu=>?_
 simp only [Tryz.ntmps37,List.size_toArray,List.length_cons,List.length_nil,Nat.reduceAdd,Nat.reduceSub,Array.replicate_succ,Array.replicate_zero,List.push_toArray,List.append_toArray,List.nil_append,List.cons_append]
 apply wpS_seq
 apply wpS_region
 simp [wpOpsS,go_sem,recoverD,hu,Exit.thenS]
 refine wpS_of_wp ?_
 go_wp2
 cases c₀
 simp_all [bodyPostS,results,Tryz.results37]
theorem run_assert (v:Value) (w:World):(Instr.typeAssert (.iface 77 v) 20 77 true).run Tryz.prog w=.ok (.tuple #[v,.bool true]) w:=by kernel_rfl
def BBd (w:World) (qb eb ab:Nat) (W:World):Prop:=w.heap.size≤W.heap.size∧∀B,B≤qb→B≤eb→B≤ab→B≤w.heap.size→Below B w W
theorem BBd.stable (w:World) (qb eb ab:Nat):StableW (BBd w qb eb ab):=fun _W _W' h hb=>⟨Nat.le_trans h.1 hb.size,fun B h1 h2 h3 h4=>(h.2 B h1 h2 h3 h4).trans (hb.mono (Nat.le_trans h4 h.1))⟩
abbrev nilQ:Array Value:=#[.int .i64 0,.int .i64 0,.int .i64 0,.string ⟨#[]⟩,.string ⟨#[]⟩,.int .i64 0,.slice none 0 0,.string ⟨#[]⟩,.int .i64 0,.int .i64 0,.int .i64 0,.string ⟨#[]⟩,.string ⟨#[]⟩,.int .i64 0]
set_option maxRecDepth 100000 in
set_option maxHeartbeats 4000000 in
theorem catch_fail (qb eb ab _er:Nat) (off:Int) (er':Int) (u0 u1 u2 u3 u4 u5 u6 u7 u8 u9 u10 u11 u12 u13 ev av:Value) (w:World) (n1:qb≠eb) (n2:qb≠ab) (n3:eb≠ab)
  (hq:w.heap[qb]?=some (.cells #[u0,u1,u2,u3,u4,u5,u6,u7,u8,u9,u10,u11,u12,u13] 28 (0,0))) (he:w.heap[eb]?=some (.cells #[ev] 31 (0,0))) (ha:w.heap[ab]?=some (.cells #[av] 3 (0,0))) :
  CallsD Tryz.prog 37 #[.pointer (some ⟨qb,0,none⟩),.pointer (some ⟨eb,0,none⟩),.pointer (some ⟨ab,0,none⟩)] (.panicking ({ v:=.iface 77 (.agg #[.int .i64 er',.int .i64 off]),recovered:=false } :: [])) w fun e u' w' =>
   e=.returned (.tuple #[])∧u'=.panicking ({ v:=.iface 77 (.agg #[.int .i64 er',.int .i64 off]),recovered:=true } :: [])∧w'.heap[qb]?=some (.cells nilQ 28 (0,0))∧w'.heap[eb]?=some (.cells #[.int .i64 er'] 31 (0,0))∧w'.heap[ab]?=some (.cells #[.int .i64 off] 3 (0,0)) ∧
    ∀B,B≤qb→B≤eb→B≤ab→B≤w.heap.size→Below B w w':=by
 have HQ:=Lib.hid hq
 have HE:=Lib.hid he
 have HA:=Lib.hid ha
 have hta:=run_assert
 clear hq he ha
 refine callsD_of_wpS Tryz.func37 rfl fun c₀ cs hu=>?_
 simp only [Tryz.ntmps37,List.size_toArray,List.length_cons,List.length_nil,Nat.reduceAdd,Nat.reduceSub,Array.replicate_succ,Array.replicate_zero,List.push_toArray,List.append_toArray,List.nil_append,List.cons_append]
 apply wpS_seq
 apply wpS_region
 simp [wpOpsS,go_sem,recoverD,hu,Exit.thenS]
 refine wpS_of_wp ?_
 have qz:=lt_of_block HQ.out
 have q0:=cell_of_row w _ 0 _ _ _ HQ.out
 have q1:=cell_of_row w _ 1 _ _ _ HQ.out
 have q2:=cell_of_row w _ 2 _ _ _ HQ.out
 have q3:=cell_of_row w _ 3 _ _ _ HQ.out
 have q4:=cell_of_row w _ 4 _ _ _ HQ.out
 have q5:=cell_of_row w _ 5 _ _ _ HQ.out
 have q6:=cell_of_row w _ 6 _ _ _ HQ.out
 have q7:=cell_of_row w _ 7 _ _ _ HQ.out
 have q8:=cell_of_row w _ 8 _ _ _ HQ.out
 have q9:=cell_of_row w _ 9 _ _ _ HQ.out
 have q10:=cell_of_row w _ 10 _ _ _ HQ.out
 have q11:=cell_of_row w _ 11 _ _ _ HQ.out
 have q12:=cell_of_row w _ 12 _ _ _ HQ.out
 have q13:=cell_of_row w _ 13 _ _ _ HQ.out
 have qf0:=frozen_of_row w _ 0 _ _ HQ.out
 have qf1:=frozen_of_row w _ 1 _ _ HQ.out
 have qf2:=frozen_of_row w _ 2 _ _ HQ.out
 have qf3:=frozen_of_row w _ 3 _ _ HQ.out
 have qf4:=frozen_of_row w _ 4 _ _ HQ.out
 have qf5:=frozen_of_row w _ 5 _ _ HQ.out
 have qf6:=frozen_of_row w _ 6 _ _ HQ.out
 have qf7:=frozen_of_row w _ 7 _ _ HQ.out
 have qf8:=frozen_of_row w _ 8 _ _ HQ.out
 have qf9:=frozen_of_row w _ 9 _ _ HQ.out
 have qf10:=frozen_of_row w _ 10 _ _ HQ.out
 have qf11:=frozen_of_row w _ 11 _ _ HQ.out
 have qf12:=frozen_of_row w _ 12 _ _ HQ.out
 have qf13:=frozen_of_row w _ 13 _ _ HQ.out
 simp only [List.getElem?_toArray,List.getElem?_cons_zero,List.getElem?_cons_succ] at q0 q1 q2 q3 q4 q5 q6 q7 q8 q9 q10 q11 q12 q13
 obtain ⟨ez,e0⟩:=rk1 HE.out
 have ef0:=frozen_of_row w _ 0 _ _ HE.out
 obtain ⟨az,a0⟩:=rk1 HA.out
 have af0:=frozen_of_row w _ 0 _ _ HA.out
 have hmx:Tryz.prog.follows .mixedOrders=true:=by kernel_rfl
 have hF1:=row_new w (.cells #[.int .i64 er',.int .i64 off] 77)
 go_wp2
 have N1:¬w.heap.size=qb:=by omega
 have N2:¬w.heap.size=eb:=by omega
 have N3:¬w.heap.size=ab:=by omega
 refine wp_region_mix 5 (fun W=>W.heap[w.heap.size]?=some (.cells #[.int .i64 er',.int .i64 off] 77 (0,0))) (fun W=>W.heap[w.heap.size]?=some (.cells #[.int .i64 er',.int .i64 off] 77 (0,0))∧W.heap[qb]?=some (.cells #[u0,u1,u2,u3,u4,u5,u6,u7,u8,u9,u10,u11,u12,u13] 28 (0,0))∧W.heap[eb]?=some (.cells #[ev] 31 (0,0))∧W.heap[ab]?=some (.cells #[av] 3 (0,0))∧BBd w qb eb ab W) hmx (by kernel_rfl) (by kernel_rfl) (by kernel_rfl) ((StableW.row _ _).and ((StableW.row _ _).and ((StableW.row _ _).and ((StableW.row _ _).and (BBd.stable _ _ _ _))))) (fun W hW=>hW.1)
  ⟨hF1,row_past HQ.out,row_past HE.out,row_past HA.out,by simp [World.drew],fun B _ _ _ h4=>((Below.refl B w).alloc h4 _).drew⟩ ?_
 apply Exists.intro
 refine ⟨fun W hW=>?_,?_⟩
 ·have z0:=cell_of_row W _ 0 _ _ _ hW
  have z1:=cell_of_row W _ 1 _ _ _ hW
  simp only [List.getElem?_toArray,List.getElem?_cons_zero,List.getElem?_cons_succ] at z0 z1
  have d0:=cell_belowBy z0
  have d1:=cell_belowBy z1
  clear z0 z1
  simp only [List.take_succ_cons,List.take_zero]
  repeat (go_big_quiet_step (fail))
  exact wpQuiet_nil rfl
 ·simp only [List.drop_succ_cons,List.drop_zero]
  refine tailM_step (ι:=Unit) (fun _=>undef) (fun _=>fun W=>W.heap[w.heap.size]?=some (.cells #[.int .i64 er',.int .i64 off] 77 (0,0))∧W.heap[qb]?=some (.cells #[.int .i64 0,.int .i64 0,.int .i64 0,.string ⟨#[]⟩,.string ⟨#[]⟩,.int .i64 0,.slice none 0 0,.string ⟨#[]⟩,.int .i64 0,.int .i64 0,.int .i64 0,.string ⟨#[]⟩,.string ⟨#[]⟩,.int .i64 0] 28 (0,0))∧W.heap[eb]?=some (.cells #[ev] 31 (0,0))∧W.heap[ab]?=some (.cells #[av] 3 (0,0))∧BBd w qb eb ab W) rfl (fun _=>(StableW.row _ _).and ((StableW.row _ _).and ((StableW.row _ _).and ((StableW.row _ _).and (BBd.stable _ _ _ _))))) (fun _ W hW=>hW.1) (fun W hS K hK=>?_) (fun _=>?_)
  ·obtain ⟨hS1,hS2,hS3,hS4,hS5⟩:=hS
   have c0:=cell_of_row W _ 0 _ _ _ hS2
   have f0:=frozen_of_row W _ 0 _ _ hS2
   have c1:=cell_of_row W _ 1 _ _ _ hS2
   have f1:=frozen_of_row W _ 1 _ _ hS2
   have c2:=cell_of_row W _ 2 _ _ _ hS2
   have f2:=frozen_of_row W _ 2 _ _ hS2
   have c3:=cell_of_row W _ 3 _ _ _ hS2
   have f3:=frozen_of_row W _ 3 _ _ hS2
   have c4:=cell_of_row W _ 4 _ _ _ hS2
   have f4:=frozen_of_row W _ 4 _ _ hS2
   have c5:=cell_of_row W _ 5 _ _ _ hS2
   have f5:=frozen_of_row W _ 5 _ _ hS2
   have c6:=cell_of_row W _ 6 _ _ _ hS2
   have f6:=frozen_of_row W _ 6 _ _ hS2
   have c7:=cell_of_row W _ 7 _ _ _ hS2
   have f7:=frozen_of_row W _ 7 _ _ hS2
   have c8:=cell_of_row W _ 8 _ _ _ hS2
   have f8:=frozen_of_row W _ 8 _ _ hS2
   have c9:=cell_of_row W _ 9 _ _ _ hS2
   have f9:=frozen_of_row W _ 9 _ _ hS2
   have c10:=cell_of_row W _ 10 _ _ _ hS2
   have f10:=frozen_of_row W _ 10 _ _ hS2
   have c11:=cell_of_row W _ 11 _ _ _ hS2
   have f11:=frozen_of_row W _ 11 _ _ hS2
   have c12:=cell_of_row W _ 12 _ _ _ hS2
   have f12:=frozen_of_row W _ 12 _ _ hS2
   have c13:=cell_of_row W _ 13 _ _ _ hS2
   have f13:=frozen_of_row W _ 13 _ _ hS2
   simp only [List.getElem?_toArray,List.getElem?_cons_zero,List.getElem?_cons_succ] at c0 c1 c2 c3 c4 c5 c6 c7 c8 c9 c10 c11 c12 c13
   have hz:=lt_of_block hS2
   go_simp
   have e:∀b,b≠qb→(set14 W qb (.int .i64 0) (.int .i64 0) (.int .i64 0) (.string ⟨#[]⟩) (.string ⟨#[]⟩) (.int .i64 0) (.slice none 0 0) (.string ⟨#[]⟩) (.int .i64 0) (.int .i64 0) (.int .i64 0) (.string ⟨#[]⟩) (.string ⟨#[]⟩) (.int .i64 0)).heap[b]?=W.heap[b]?:=fun b hb=>set14_heap _ _ _ _ _ _ _ _ _ _ _ _ _ _ hb
   exact hK () _ ⟨(e _ (by omega)).trans hS1,set14_row hS2 _ _ _ _ _ _ _ _ _ _ _ _ _ _,(e _ (by omega)).trans hS3,(e _ (by omega)).trans hS4,by rw [set14_size];exact hS5.1,fun B h1 h2 h3 h4=>set14_low (hS5.2 B h1 h2 h3 h4) h1 _ _ _ _ _ _ _ _ _ _ _ _ _ _⟩
  simp only [Act.put]
  refine tailM_step (ι:=Unit) (fun _=>undef) (fun _=>fun W=>W.heap[w.heap.size]?=some (.cells #[.int .i64 er',.int .i64 off] 77 (0,0))∧W.heap[qb]?=some (.cells #[.int .i64 0,.int .i64 0,.int .i64 0,.string ⟨#[]⟩,.string ⟨#[]⟩,.int .i64 0,.slice none 0 0,.string ⟨#[]⟩,.int .i64 0,.int .i64 0,.int .i64 0,.string ⟨#[]⟩,.string ⟨#[]⟩,.int .i64 0] 28 (0,0))∧W.heap[eb]?=some (.cells #[.int .i64 er'] 31 (0,0))∧W.heap[ab]?=some (.cells #[av] 3 (0,0))∧BBd w qb eb ab W) rfl (fun _=>(StableW.row _ _).and ((StableW.row _ _).and ((StableW.row _ _).and ((StableW.row _ _).and (BBd.stable _ _ _ _))))) (fun _ W hW=>hW.1) (fun W hS K hK=>?_) (fun _=>?_)
  ·obtain ⟨hS1,hS2,hS3,hS4,hS5⟩:=hS
   have c0:=cell_of_row W _ 0 _ _ _ hS3
   have f0:=frozen_of_row W _ 0 _ _ hS3
   simp only [List.getElem?_toArray,List.getElem?_cons_zero] at c0
   have hz:=lt_of_block hS3
   go_simp
   exact hK () _ ⟨row_set_other hS1 (by simp only;omega),row_set_other hS2 (by simp only;omega),row_set (i:=0) hS3,row_set_other hS4 (by simp only;omega),by simpa using hS5.1,fun B h1 h2 h3 h4=>(hS5.2 B h1 h2 h3 h4).setCell h2 _⟩
  simp only [Act.put]
  refine tailM_step (ι:=Unit) (fun _=>undef) (fun _=>fun W=>W.heap[w.heap.size]?=some (.cells #[.int .i64 er',.int .i64 off] 77 (0,0))∧W.heap[qb]?=some (.cells #[.int .i64 0,.int .i64 0,.int .i64 0,.string ⟨#[]⟩,.string ⟨#[]⟩,.int .i64 0,.slice none 0 0,.string ⟨#[]⟩,.int .i64 0,.int .i64 0,.int .i64 0,.string ⟨#[]⟩,.string ⟨#[]⟩,.int .i64 0] 28 (0,0))∧W.heap[eb]?=some (.cells #[.int .i64 er'] 31 (0,0))∧W.heap[ab]?=some (.cells #[.int .i64 off] 3 (0,0))∧BBd w qb eb ab W) rfl (fun _=>(StableW.row _ _).and ((StableW.row _ _).and ((StableW.row _ _).and ((StableW.row _ _).and (BBd.stable _ _ _ _))))) (fun _ W hW=>hW.1) (fun W hS K hK=>?_) (fun _=>?_)
  ·obtain ⟨hS1,hS2,hS3,hS4,hS5⟩:=hS
   have c0:=cell_of_row W _ 0 _ _ _ hS4
   have f0:=frozen_of_row W _ 0 _ _ hS4
   simp only [List.getElem?_toArray,List.getElem?_cons_zero] at c0
   have hz:=lt_of_block hS4
   go_simp
   exact hK () _ ⟨row_set_other hS1 (by simp only;omega),row_set_other hS2 (by simp only;omega),row_set_other hS3 (by simp only;omega),row_set (i:=0) hS4,by simpa using hS5.1,fun B h1 h2 h3 h4=>(hS5.2 B h1 h2 h3 h4).setCell h3 _⟩
  simp only [Act.put]
  refine tailM_nil fun W hW=>?_
  obtain ⟨-,hW2,hW3,hW4,hW5⟩:=hW
  clear HQ HE HA hF1
  go_wp2
  cases c₀
  simp_all [bodyPostS,results,Tryz.results37]
  exact hW5.2
end Go.Proofs.YtdfenhjibnfdeaaGreatDoor

namespace Go.Proofs.YtdfenhjibnfdeaaGreatDoor
open Go.RowKit Go.Shelf
theorem wordP_at (ts:List TokD):∀(l:List ByteArray) (j:Nat) (s:ByteArray),l[j]?=some s→(∀(i:Nat) (u:ByteArray),i<j→l[i]?=some u→isP u ts=false)→isP s ts=true→wordP l ts=some j
 |[],_,_,h,_,_=>by cases h
 |x :: l,j,s,h,hno,hs=>by
  cases j with
  |zero=>injection h with h;subst h;rw [wordP,if_pos hs]
  |succ j =>
   rw [wordP,if_neg (by rw [hno 0 x (by omega) rfl];decide),wordP_at ts l j s h (fun i u hi hu=>hno (i+1) u (by omega) hu) hs];rfl
theorem wordP_no (ts:List TokD):∀(l:List ByteArray),(∀(i:Nat) (u:ByteArray),l[i]?=some u→isP u ts=false)→wordP l ts=none
 |[],_=>rfl
 |x :: l,h=>by rw [wordP,if_neg (by rw [h 0 x rfl];decide),wordP_no ts l (fun i u hu=>h (i+1) u hu)];rfl
theorem str_ne {w:World} {pb b off fin n c:Nat} {a:Option Addr} {T:TypeId} {s:ByteArray} (h:w.heap[pb]?=some (.cells #[.slice a n c,.int .i64 fin] T (0,0))) (hc:w.cell? ⟨b,off,none⟩=some (.string s)):b≠pb:=by
 rintro rfl
 have:=cell_of_row w b off _ _ _ h
 rw [hc] at this
 match off with
 |0=>simp at this
 |1=>simp at this
 |off+2=>simp at this
def idxW (r:Option Nat):Int:=match r with
 |some k=>(k:Int)
 |none=>-1
def restW (r:Option Nat) (ts:List TokD):List TokD:=match r with
 |some _=>ts.tail
 |none=>ts
set_option maxRecDepth 100000 in
set_option maxHeartbeats 2000000 in
theorem idxW_any (B pb:Nat) (hB:B≤pb) (ts:List TokD) (fin:Nat) (v:Value) (l:List ByteArray) (hl:l.length≤100) (w:World) (hv:StrRow w v l) (h:PAt B w pb ts fin) :
  Calls Tryz.prog 63 #[v,.func (.func 64) #[.pointer (some ⟨pb,0,none⟩)] #[]] w fun e w'=>e=.returned (.int .i64 (idxW (wordP l ts)))∧PAt B w' pb (restW (wordP l ts) ts) fin∧PMem B pb w w':=by
 obtain ⟨a,cap,rfl,hn,hz,hc⟩:=hv
 obtain ⟨N,hN⟩:∃N,l.length=N:=⟨_,rfl⟩
 rw [hN] at hl hc ⊢
 have HN:=Lib.hid hN
 have HC:=Lib.hid hc
 have HH:=Lib.hid h
 obtain ⟨tv,hp1,⟨pa,pc,rfl,_⟩,_⟩:=h
 have HP:=Lib.hid hp1
 obtain ⟨R,hR⟩:∃R,wordP l ts=R:=⟨_,rfl⟩
 have HR:=Lib.hid hR
 rw [hR]
 clear hN hc hp1 hR hz
 go_enter Tryz.func63,Tryz.ntmps63
 go_wp2
 go_loopw [8] (fun i wr=>∃j:Nat,j≤N∧i=.int .i64 j∧Hid (∀(i:Nat) (u:ByteArray),i<j→l[i]?=some u→isP u ts=false)∧Hid (PAt B wr pb ts fin)∧Hid (PMem B pb w wr)) (fun i _=>N - (intOf i).toNat)
 case atStart=>exact ⟨0,by omega,rfl,Lib.hid (fun i u hi=>by omega),HH,Lib.hid (PMem.refl _ _ _)⟩
 case round =>
  obtain ⟨j,hj,rfl,HT,HA,HM⟩:=hrel
  by_cases hlt:j<N
  ·obtain ⟨s,hs⟩:∃s,l[j]?=some s:=⟨l[j]'(by rw [HN.out];exact hlt),List.getElem?_eq_getElem _⟩
   obtain ⟨b,off,ha,hrow⟩:=HC.out (by omega)
   subst ha
   have q0:=hrow j s hs
   have c0:=HM.out.keep.cell (str_ne HP.out q0) q0
   have SK:=Lib.hid (skip_any B pb hB ts fin s wr HA.out)
   have HS:=Lib.hid hs
   clear hrow q0 hs
   cases hw:isP s ts
   ·rw [hw] at SK
    have HT2:Hid (∀(i:Nat) (u:ByteArray),i<j+1→l[i]?=some u→isP u ts=false):=Lib.hid (fun i u hi hu=>by
     by_cases e:i=j
     ·subst e
      have:=HS.out.symm.trans hu
      injection this with this;subst this;exact hw
     ·exact HT.out i u (by omega) hu)
    clear hw
    go_wp2_with fail
    refine SK.out.mono ?_
    rintro e w2 ⟨rfl,hp2,hm2⟩
    have HA2:=Lib.hid hp2
    have HM2:=Lib.hid (HM.out.trans hm2)
    clear hp2 hm2
    go_wp2
    go_roundw
    case rel=>exact ⟨j+1,by omega,by go_num,HT2,HA2,HM2⟩
    case measure=>simp [intOf];omega
   ·rw [hw] at SK
    have HE:=Lib.hid (show R=some j by rw [←HR.out];exact wordP_at ts l j s HS.out HT.out hw)
    clear hw
    go_wp2_with fail
    refine SK.out.mono ?_
    rintro e w2 ⟨rfl,hp2,hm2⟩
    have HA2:=Lib.hid hp2
    have HM2:=Lib.hid (HM.out.trans hm2)
    clear hp2 hm2
    go_wp2
    go_ret
    rw [HE.out]
    exact ⟨rfl,HA2.out,HM2.out⟩
  ·obtain rfl:j=N:=by omega
   have HE:=Lib.hid (show R=none by rw [←HR.out];exact wordP_no ts l fun i u hu=>HT.out i u (by rw [←HN.out];exact (List.getElem?_eq_some_iff.1 hu).1) hu)
   go_wp2
   go_ret
   rw [HE.out]
   exact ⟨rfl,HA.out,HM.out⟩
end Go.Proofs.YtdfenhjibnfdeaaGreatDoor
