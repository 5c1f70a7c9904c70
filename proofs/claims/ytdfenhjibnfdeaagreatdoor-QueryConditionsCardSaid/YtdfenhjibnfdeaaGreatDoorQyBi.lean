/-  -/
import Derived.Test.YtdfenhjibnfdeaaGreatDoorQyAi
import Derived.Test.YtdfenhjibnfdeaaGreatDoorQyAl
import Derived.Test.YtdfenhjibnfdeaaGreatDoorQyAm
import Derived.Laws.EntriesVeiled
namespace Go.Proofs.YtdfenhjibnfdeaaGreatDoor
open Go.RowKit Go.Shelf
abbrev c5 (c:CondD) (a:Option Addr) (cap:Nat):List Value:=[.int .i64 c.op,.string c.key,.string c.val,.int .i64 c.n,.slice a c.kids.length cap]
theorem QuietB.atK {P:Program} {S0:World→Prop} {o:Oper} {a:Act} {v:Value} (h:∀w,S0 w→(execOp a.eval o).run P w=.ok (.value v) w):QuietB P S0 o a v:=fun w hS=>by
 show Oper.quietUpon P (ByW w) w v _
 rw [h w hS]
 exact ⟨rfl,rfl⟩
theorem kids_one {w:World} {g:Nat} {c:CondD} {a:Option Addr} {cap:Nat} (hr:w.heap[g]?=some (.cells #[.int .i64 c.op,.string c.key,.string c.val,.int .i64 c.n,.slice a c.kids.length cap] 24 (0,0))) (hc:CondIs w c a):KidsIs w g [c] 0:=by
 rw [KidsIs,KidsIs]
 refine ⟨⟨a,cap,⟨?_,?_,?_,?_,?_⟩,hc⟩,trivial⟩
 ·rw [cell_of_row _ _ 0 _ _ _ hr];rfl
 ·rw [cell_of_row _ _ 1 _ _ _ hr];rfl
 ·rw [cell_of_row _ _ 2 _ _ _ hr];rfl
 ·rw [cell_of_row _ _ 3 _ _ _ hr];rfl
 ·rw [cell_of_row _ _ 4 _ _ _ hr];rfl
theorem kids_two {w:World} {g:Nat} {c d:CondD} {a b:Option Addr} {cap cbp:Nat} (hr:w.heap[g]?=some (.cells #[.int .i64 c.op,.string c.key,.string c.val,.int .i64 c.n,.slice a c.kids.length cap,.int .i64 d.op,.string d.key,.string d.val,.int .i64 d.n,.slice b d.kids.length cbp] 24 (0,0))) (hc:CondIs w c a) (hd:CondIs w d b):KidsIs w g [c,d] 0:=by
 rw [KidsIs,KidsIs,KidsIs]
 refine ⟨⟨a,cap,⟨?_,?_,?_,?_,?_⟩,hc⟩,⟨b,cbp,⟨?_,?_,?_,?_,?_⟩,hd⟩,trivial⟩
 ·rw [cell_of_row _ _ 0 _ _ _ hr];rfl
 ·rw [cell_of_row _ _ 1 _ _ _ hr];rfl
 ·rw [cell_of_row _ _ 2 _ _ _ hr];rfl
 ·rw [cell_of_row _ _ 3 _ _ _ hr];rfl
 ·rw [cell_of_row _ _ 4 _ _ _ hr];rfl
 ·rw [cell_of_row _ _ 5 _ _ _ hr];rfl
 ·rw [cell_of_row _ _ 6 _ _ _ hr];rfl
 ·rw [cell_of_row _ _ 7 _ _ _ hr];rfl
 ·rw [cell_of_row _ _ 8 _ _ _ hr];rfl
 ·rw [cell_of_row _ _ 9 _ _ _ hr];rfl
theorem cond_two {w:World} {g:Nat} {c d:CondD} (op:Int) (h:KidsIs w g [c,d] 0):CondIs w (.mk op emptyB emptyB 0 [c,d]) (some ⟨g,0,none⟩):=by
 refine CondIs.mk ⟨?_,?_,?_,fun _=>⟨g,0,rfl,h⟩⟩
 ·show emptyB.size≤140737488355328;decide
 ·show emptyB.size≤140737488355328;decide
 ·show 2≤140737488355328;omega
theorem cond_not {w:World} {g:Nat} {c:CondD} (h:KidsIs w g [c] 0):CondIs w (notC c) (some ⟨g,0,none⟩):=by
 refine CondIs.mk ⟨?_,?_,?_,fun _=>⟨g,0,rfl,h⟩⟩
 ·show emptyB.size≤140737488355328;decide
 ·show emptyB.size≤140737488355328;decide
 ·show 1≤140737488355328;omega
theorem set5_rowC {w:World} {b:Nat} {v0 v1 v2 v3 v4:Value} {t:TypeId} (h:w.heap[b]?=some (.cells #[v0,v1,v2,v3,v4] t (0,0))) (u0 u1 u2 u3 u4:Value) :
  (((((w.setCell ⟨b,0,none⟩ u0).setCell ⟨b,1,none⟩ u1).setCell ⟨b,2,none⟩ u2).setCell ⟨b,3,none⟩ u3).setCell ⟨b,4,none⟩ u4).heap[b]?=some (.cells #[u0,u1,u2,u3,u4] t (0,0)) :=
 row_set (i:=4) (row_set (i:=3) (row_set (i:=2) (row_set (i:=1) (row_set (i:=0) h))))
set_option maxRecDepth 100000 in
set_option maxHeartbeats 2000000 in
theorem notK_any (c:CondD) (a:Option Addr) (cap:Nat) (w:World) :
  Calls Tryz.prog 20 #[.agg #[.int .i64 c.op,.string c.key,.string c.val,.int .i64 c.n,.slice a c.kids.length cap]] w fun e w'=>∃g,e=.returned (.agg #[.int .i64 4,.string ⟨#[]⟩,.string ⟨#[]⟩,.int .i64 0,.slice (some ⟨g,0,none⟩) 1 1])∧w.heap.size≤g∧w'.heap[g]?=some (.cells #[.int .i64 c.op,.string c.key,.string c.val,.int .i64 c.n,.slice a c.kids.length cap] 24 (0,0))∧Below w.heap.size w w':=by
 go_enter Tryz.func20,Tryz.ntmps20
 go_wp2
 have B1:=(((Below.refl w.heap.size w).alloc (Nat.le_refl _) (.cells #[.int .i64 c.op,.string c.key,.string c.val,.int .i64 c.n,.slice a c.kids.length cap] 24)).alloc (by simp) (.cells #[.int .i64 4,.string ⟨#[]⟩,.string ⟨#[]⟩,.int .i64 0,.slice (some ⟨w.heap.size+1+1,0,none⟩) 1 1] 24)).alloc (by simp;omega) (.cells #[.int .i64 c.op,.string c.key,.string c.val,.int .i64 c.n,.slice a c.kids.length cap] 24)
 have R1:=row_new2 w (.cells #[.int .i64 c.op,.string c.key,.string c.val,.int .i64 c.n,.slice a c.kids.length cap] 24) (.cells #[.int .i64 4,.string ⟨#[]⟩,.string ⟨#[]⟩,.int .i64 0,.slice (some ⟨w.heap.size+1+1,0,none⟩) 1 1] 24) (.cells #[.int .i64 c.op,.string c.key,.string c.val,.int .i64 c.n,.slice a c.kids.length cap] 24)
 have RN:=Lib.hid (row_past (o':=.cells #[.int .i64 c.op,.string c.key,.string c.val,.int .i64 c.n,.slice a c.kids.length cap] 24) (row_new1 w (.cells #[.int .i64 c.op,.string c.key,.string c.val,.int .i64 c.n,.slice a c.kids.length cap] 24) (.cells #[.int .i64 4,.string ⟨#[]⟩,.string ⟨#[]⟩,.int .i64 0,.slice (some ⟨w.heap.size+1+1,0,none⟩) 1 1] 24)))
 generalize hwF:((w.alloc (.cells #[.int .i64 c.op,.string c.key,.string c.val,.int .i64 c.n,.slice a c.kids.length cap] 24)).alloc (.cells #[.int .i64 4,.string ⟨#[]⟩,.string ⟨#[]⟩,.int .i64 0,.slice (some ⟨w.heap.size+1+1,0,none⟩) 1 1] 24)).alloc (.cells #[.int .i64 c.op,.string c.key,.string c.val,.int .i64 c.n,.slice a c.kids.length cap] 24)=wF
 rw [hwF] at RN B1 R1
 clear hwF
 obtain ⟨sz,s0,s1,s2,s3,s4⟩:=rk5 RN.out
 refine bodyPost_ret (v:=.agg #[.int .i64 4,.string ⟨#[]⟩,.string ⟨#[]⟩,.int .i64 0,.slice (some ⟨w.heap.size+1+1,0,none⟩) 1 1]) (by simp [results,Tryz.results20,go_sem,s0,s1,s2,s3,s4]) rfl ⟨_,rfl,by omega,R1,B1⟩
def noC:CondD:=.mk 0 ⟨#[]⟩ ⟨#[]⟩ 0 []
theorem notE_any (k:Nat) (w:World) :
  Calls Tryz.prog 20 #[.agg #[.int .i64 6,.string ⟨#[]⟩,.string ⟨#[]⟩,.int .i64 0,.slice (some ⟨k,0,none⟩) 2 2]] w fun e w'=>∃g,e=.returned (.agg #[.int .i64 4,.string ⟨#[]⟩,.string ⟨#[]⟩,.int .i64 0,.slice (some ⟨g,0,none⟩) 1 1])∧w.heap.size≤g∧w'.heap[g]?=some (.cells #[.int .i64 6,.string ⟨#[]⟩,.string ⟨#[]⟩,.int .i64 0,.slice (some ⟨k,0,none⟩) 2 2] 24 (0,0))∧Below w.heap.size w w' :=
 notK_any (.mk 6 ⟨#[]⟩ ⟨#[]⟩ 0 [noC,noC]) (some ⟨k,0,none⟩) 2 w
theorem notN_any (k:Nat) (w:World) :
  Calls Tryz.prog 20 #[.agg #[.int .i64 4,.string ⟨#[]⟩,.string ⟨#[]⟩,.int .i64 0,.slice (some ⟨k,0,none⟩) 1 1]] w fun e w'=>∃g,e=.returned (.agg #[.int .i64 4,.string ⟨#[]⟩,.string ⟨#[]⟩,.int .i64 0,.slice (some ⟨g,0,none⟩) 1 1])∧w.heap.size≤g∧w'.heap[g]?=some (.cells #[.int .i64 4,.string ⟨#[]⟩,.string ⟨#[]⟩,.int .i64 0,.slice (some ⟨k,0,none⟩) 1 1] 24 (0,0))∧Below w.heap.size w w' :=
 notK_any (.mk 4 ⟨#[]⟩ ⟨#[]⟩ 0 [noC]) (some ⟨k,0,none⟩) 1 w
theorem cond_not2 {w:World} {g h:Nat} {c:CondD} {a:Option Addr} {cap:Nat} (hr:w.heap[g]?=some (.cells #[.int .i64 c.op,.string c.key,.string c.val,.int .i64 c.n,.slice a c.kids.length cap] 24 (0,0))) (hr2:w.heap[h]?=some (.cells #[.int .i64 4,.string ⟨#[]⟩,.string ⟨#[]⟩,.int .i64 0,.slice (some ⟨g,0,none⟩) 1 1] 24 (0,0))) (hc:CondIs w c a):CondIs w (notC (notC c)) (some ⟨h,0,none⟩) :=
 cond_not (kids_one (c:=notC c) hr2 (cond_not (kids_one hr hc)))
theorem four_rows (ca cb:CondD) (aa ab:Option Addr) (pa pb:Nat) (w:World) (ha:CondIs w ca aa) (hb:CondIs w cb ab) :
  Below w.heap.size w ((((w.alloc (.cells #[.int .i64 ca.op,.string ca.key,.string ca.val,.int .i64 ca.n,.slice aa ca.kids.length pa,.int .i64 cb.op,.string cb.key,.string cb.val,.int .i64 cb.n,.slice ab cb.kids.length pb] 24)).alloc (.cells #[.int .i64 5,.string ⟨#[]⟩,.string ⟨#[]⟩,.int .i64 0,.slice (some ⟨w.heap.size,0,none⟩) 2 2] 24)).alloc (.cells #[.int .i64 cb.op,.string cb.key,.string cb.val,.int .i64 cb.n,.slice ab cb.kids.length pb,.int .i64 ca.op,.string ca.key,.string ca.val,.int .i64 ca.n,.slice aa ca.kids.length pa] 24)).alloc (.cells #[.int .i64 5,.string ⟨#[]⟩,.string ⟨#[]⟩,.int .i64 0,.slice (some ⟨w.heap.size+1+1,0,none⟩) 2 2] 24)) ∧
  ((((w.alloc (.cells #[.int .i64 ca.op,.string ca.key,.string ca.val,.int .i64 ca.n,.slice aa ca.kids.length pa,.int .i64 cb.op,.string cb.key,.string cb.val,.int .i64 cb.n,.slice ab cb.kids.length pb] 24)).alloc (.cells #[.int .i64 5,.string ⟨#[]⟩,.string ⟨#[]⟩,.int .i64 0,.slice (some ⟨w.heap.size,0,none⟩) 2 2] 24)).alloc (.cells #[.int .i64 cb.op,.string cb.key,.string cb.val,.int .i64 cb.n,.slice ab cb.kids.length pb,.int .i64 ca.op,.string ca.key,.string ca.val,.int .i64 ca.n,.slice aa ca.kids.length pa] 24)).alloc (.cells #[.int .i64 5,.string ⟨#[]⟩,.string ⟨#[]⟩,.int .i64 0,.slice (some ⟨w.heap.size+1+1,0,none⟩) 2 2] 24)).heap[w.heap.size+1]?=some (.cells #[.int .i64 5,.string ⟨#[]⟩,.string ⟨#[]⟩,.int .i64 0,.slice (some ⟨w.heap.size,0,none⟩) 2 2] 24 (0,0)) ∧
  ((((w.alloc (.cells #[.int .i64 ca.op,.string ca.key,.string ca.val,.int .i64 ca.n,.slice aa ca.kids.length pa,.int .i64 cb.op,.string cb.key,.string cb.val,.int .i64 cb.n,.slice ab cb.kids.length pb] 24)).alloc (.cells #[.int .i64 5,.string ⟨#[]⟩,.string ⟨#[]⟩,.int .i64 0,.slice (some ⟨w.heap.size,0,none⟩) 2 2] 24)).alloc (.cells #[.int .i64 cb.op,.string cb.key,.string cb.val,.int .i64 cb.n,.slice ab cb.kids.length pb,.int .i64 ca.op,.string ca.key,.string ca.val,.int .i64 ca.n,.slice aa ca.kids.length pa] 24)).alloc (.cells #[.int .i64 5,.string ⟨#[]⟩,.string ⟨#[]⟩,.int .i64 0,.slice (some ⟨w.heap.size+1+1,0,none⟩) 2 2] 24)).heap[w.heap.size+1+1+1]?=some (.cells #[.int .i64 5,.string ⟨#[]⟩,.string ⟨#[]⟩,.int .i64 0,.slice (some ⟨w.heap.size+1+1,0,none⟩) 2 2] 24 (0,0)) ∧
  CondIs ((((w.alloc (.cells #[.int .i64 ca.op,.string ca.key,.string ca.val,.int .i64 ca.n,.slice aa ca.kids.length pa,.int .i64 cb.op,.string cb.key,.string cb.val,.int .i64 cb.n,.slice ab cb.kids.length pb] 24)).alloc (.cells #[.int .i64 5,.string ⟨#[]⟩,.string ⟨#[]⟩,.int .i64 0,.slice (some ⟨w.heap.size,0,none⟩) 2 2] 24)).alloc (.cells #[.int .i64 cb.op,.string cb.key,.string cb.val,.int .i64 cb.n,.slice ab cb.kids.length pb,.int .i64 ca.op,.string ca.key,.string ca.val,.int .i64 ca.n,.slice aa ca.kids.length pa] 24)).alloc (.cells #[.int .i64 5,.string ⟨#[]⟩,.string ⟨#[]⟩,.int .i64 0,.slice (some ⟨w.heap.size+1+1,0,none⟩) 2 2] 24)) (bothC ca cb) (some ⟨w.heap.size,0,none⟩)∧CondIs ((((w.alloc (.cells #[.int .i64 ca.op,.string ca.key,.string ca.val,.int .i64 ca.n,.slice aa ca.kids.length pa,.int .i64 cb.op,.string cb.key,.string cb.val,.int .i64 cb.n,.slice ab cb.kids.length pb] 24)).alloc (.cells #[.int .i64 5,.string ⟨#[]⟩,.string ⟨#[]⟩,.int .i64 0,.slice (some ⟨w.heap.size,0,none⟩) 2 2] 24)).alloc (.cells #[.int .i64 cb.op,.string cb.key,.string cb.val,.int .i64 cb.n,.slice ab cb.kids.length pb,.int .i64 ca.op,.string ca.key,.string ca.val,.int .i64 ca.n,.slice aa ca.kids.length pa] 24)).alloc (.cells #[.int .i64 5,.string ⟨#[]⟩,.string ⟨#[]⟩,.int .i64 0,.slice (some ⟨w.heap.size+1+1,0,none⟩) 2 2] 24)) (bothC cb ca) (some ⟨w.heap.size+1+1,0,none⟩):=by
 have B1:=(((Below.refl w.heap.size w).alloc (Nat.le_refl _) (.cells #[.int .i64 ca.op,.string ca.key,.string ca.val,.int .i64 ca.n,.slice aa ca.kids.length pa,.int .i64 cb.op,.string cb.key,.string cb.val,.int .i64 cb.n,.slice ab cb.kids.length pb] 24)).alloc (by simp) (.cells #[.int .i64 5,.string ⟨#[]⟩,.string ⟨#[]⟩,.int .i64 0,.slice (some ⟨w.heap.size,0,none⟩) 2 2] 24)).alloc (by simp;omega) (.cells #[.int .i64 cb.op,.string cb.key,.string cb.val,.int .i64 cb.n,.slice ab cb.kids.length pb,.int .i64 ca.op,.string ca.key,.string ca.val,.int .i64 ca.n,.slice aa ca.kids.length pa] 24)
 have B2:=B1.alloc B1.size (.cells #[.int .i64 5,.string ⟨#[]⟩,.string ⟨#[]⟩,.int .i64 0,.slice (some ⟨w.heap.size+1+1,0,none⟩) 2 2] 24)
 have z3:(((w.alloc (.cells #[.int .i64 ca.op,.string ca.key,.string ca.val,.int .i64 ca.n,.slice aa ca.kids.length pa,.int .i64 cb.op,.string cb.key,.string cb.val,.int .i64 cb.n,.slice ab cb.kids.length pb] 24)).alloc (.cells #[.int .i64 5,.string ⟨#[]⟩,.string ⟨#[]⟩,.int .i64 0,.slice (some ⟨w.heap.size,0,none⟩) 2 2] 24)).alloc (.cells #[.int .i64 cb.op,.string cb.key,.string cb.val,.int .i64 cb.n,.slice ab cb.kids.length pb,.int .i64 ca.op,.string ca.key,.string ca.val,.int .i64 ca.n,.slice aa ca.kids.length pa] 24)).heap.size=w.heap.size+1+1+1:=by simp
 have r0:=row_past (o':=(.cells #[.int .i64 5,.string ⟨#[]⟩,.string ⟨#[]⟩,.int .i64 0,.slice (some ⟨w.heap.size+1+1,0,none⟩) 2 2] 24)) (row_past (o':=(.cells #[.int .i64 cb.op,.string cb.key,.string cb.val,.int .i64 cb.n,.slice ab cb.kids.length pb,.int .i64 ca.op,.string ca.key,.string ca.val,.int .i64 ca.n,.slice aa ca.kids.length pa] 24)) (row_past (o':=(.cells #[.int .i64 5,.string ⟨#[]⟩,.string ⟨#[]⟩,.int .i64 0,.slice (some ⟨w.heap.size,0,none⟩) 2 2] 24)) (row_new w (.cells #[.int .i64 ca.op,.string ca.key,.string ca.val,.int .i64 ca.n,.slice aa ca.kids.length pa,.int .i64 cb.op,.string cb.key,.string cb.val,.int .i64 cb.n,.slice ab cb.kids.length pb] 24))))
 have r1:=row_past (o':=(.cells #[.int .i64 5,.string ⟨#[]⟩,.string ⟨#[]⟩,.int .i64 0,.slice (some ⟨w.heap.size+1+1,0,none⟩) 2 2] 24)) (row_past (o':=(.cells #[.int .i64 cb.op,.string cb.key,.string cb.val,.int .i64 cb.n,.slice ab cb.kids.length pb,.int .i64 ca.op,.string ca.key,.string ca.val,.int .i64 ca.n,.slice aa ca.kids.length pa] 24)) (row_new1 w (.cells #[.int .i64 ca.op,.string ca.key,.string ca.val,.int .i64 ca.n,.slice aa ca.kids.length pa,.int .i64 cb.op,.string cb.key,.string cb.val,.int .i64 cb.n,.slice ab cb.kids.length pb] 24) (.cells #[.int .i64 5,.string ⟨#[]⟩,.string ⟨#[]⟩,.int .i64 0,.slice (some ⟨w.heap.size,0,none⟩) 2 2] 24)))
 have r2:=row_past (o':=(.cells #[.int .i64 5,.string ⟨#[]⟩,.string ⟨#[]⟩,.int .i64 0,.slice (some ⟨w.heap.size+1+1,0,none⟩) 2 2] 24)) (row_new2 w (.cells #[.int .i64 ca.op,.string ca.key,.string ca.val,.int .i64 ca.n,.slice aa ca.kids.length pa,.int .i64 cb.op,.string cb.key,.string cb.val,.int .i64 cb.n,.slice ab cb.kids.length pb] 24) (.cells #[.int .i64 5,.string ⟨#[]⟩,.string ⟨#[]⟩,.int .i64 0,.slice (some ⟨w.heap.size,0,none⟩) 2 2] 24) (.cells #[.int .i64 cb.op,.string cb.key,.string cb.val,.int .i64 cb.n,.slice ab cb.kids.length pb,.int .i64 ca.op,.string ca.key,.string ca.val,.int .i64 ca.n,.slice aa ca.kids.length pa] 24))
 have r3:=row_new (((w.alloc (.cells #[.int .i64 ca.op,.string ca.key,.string ca.val,.int .i64 ca.n,.slice aa ca.kids.length pa,.int .i64 cb.op,.string cb.key,.string cb.val,.int .i64 cb.n,.slice ab cb.kids.length pb] 24)).alloc (.cells #[.int .i64 5,.string ⟨#[]⟩,.string ⟨#[]⟩,.int .i64 0,.slice (some ⟨w.heap.size,0,none⟩) 2 2] 24)).alloc (.cells #[.int .i64 cb.op,.string cb.key,.string cb.val,.int .i64 cb.n,.slice ab cb.kids.length pb,.int .i64 ca.op,.string ca.key,.string ca.val,.int .i64 ca.n,.slice aa ca.kids.length pa] 24)) (.cells #[.int .i64 5,.string ⟨#[]⟩,.string ⟨#[]⟩,.int .i64 0,.slice (some ⟨w.heap.size+1+1,0,none⟩) 2 2] 24)
 rw [z3] at r3
 exact ⟨B2,r1,r3,cond_two 5 (kids_two r0 (ha.later B2) (hb.later B2)),cond_two 5 (kids_two r2 (hb.later B2) (ha.later B2))⟩
structure OthS (w5:World) (ca cb:CondD) (aa ab:Option Addr) (pa pb:Nat) (g h k m z:Option Nat) (W:World):Prop where
 low:Below w5.heap.size w5 W
 rg:∀x,g=some x→W.heap[x]?=some (.cells #[.int .i64 ca.op,.string ca.key,.string ca.val,.int .i64 ca.n,.slice aa ca.kids.length pa] 24 (0,0))
 rh:∀x,h=some x→W.heap[x]?=some (.cells #[.int .i64 cb.op,.string cb.key,.string cb.val,.int .i64 cb.n,.slice ab cb.kids.length pb] 24 (0,0))
 rk:∀x,k=some x→∃y u,g=some y∧h=some u∧W.heap[x]?=some (.cells #[.int .i64 4,.string ⟨#[]⟩,.string ⟨#[]⟩,.int .i64 0,.slice (some ⟨y,0,none⟩) 1 1,.int .i64 4,.string ⟨#[]⟩,.string ⟨#[]⟩,.int .i64 0,.slice (some ⟨u,0,none⟩) 1 1] 24 (0,0))
 rm:∀x,m=some x→∃y,k=some y∧W.heap[x]?=some (.cells #[.int .i64 6,.string ⟨#[]⟩,.string ⟨#[]⟩,.int .i64 0,.slice (some ⟨y,0,none⟩) 2 2] 24 (0,0))
 rz:∀x,z=some x→W.heap[x]?=some (.cells #[.int .i64 0,.string ⟨#[]⟩,.string ⟨#[]⟩,.int .i64 0,.slice none 0 0] 24 (0,0))∧w5.heap.size≤x∧g≠some x∧h≠some x∧k≠some x∧m≠some x
section
variable {w5:World} {ca cb:CondD} {aa ab:Option Addr} {pa pb:Nat} {g h k m z:Option Nat} {W W':World}
theorem OthS.stable:StableW (OthS w5 ca cb aa ab pa pb g h k m z):=fun W W' s hb =>
 ⟨below_step s.low (Nat.le_refl _) hb,fun x e=>row_later hb (s.rg x e),fun x e=>row_later hb (s.rh x e),fun x e=>by obtain ⟨y,u,e1,e2,e3⟩:=s.rk x e;exact ⟨y,u,e1,e2,row_later hb e3⟩,
  fun x e=>by obtain ⟨y,e1,e3⟩:=s.rm x e;exact ⟨y,e1,row_later hb e3⟩,fun x e=>by obtain ⟨e1,e2⟩:=s.rz x e;exact ⟨row_later hb e1,e2⟩⟩
theorem OthS.zlt (s:OthS w5 ca cb aa ab pa pb g h k m z W) {x:Nat} (hx:W.heap.size≤x):z≠some x:=fun e=>by have:=lt_of_block (s.rz x e).1;omega
theorem OthS.addg (s:OthS w5 ca cb aa ab pa pb none h none m z W) (hb:Below W.heap.size W W') {x:Nat} (hx:W.heap.size≤x) (hr:W'.heap[x]?=some (.cells #[.int .i64 ca.op,.string ca.key,.string ca.val,.int .i64 ca.n,.slice aa ca.kids.length pa] 24 (0,0))):OthS w5 ca cb aa ab pa pb (some x) h none m z W':=by
 have t:=OthS.stable _ _ s hb
 exact ⟨t.low,fun y e=>by injection e with e;subst e;exact hr,t.rh,fun y e=>(by cases e),t.rm,fun y e=>by obtain ⟨e1,e2,-,e3⟩:=t.rz y e;exact ⟨e1,e2,fun c=>s.zlt hx (by rw [e,←c]),e3⟩⟩
theorem OthS.addh (s:OthS w5 ca cb aa ab pa pb g none none m z W) (hb:Below W.heap.size W W') {x:Nat} (hx:W.heap.size≤x) (hr:W'.heap[x]?=some (.cells #[.int .i64 cb.op,.string cb.key,.string cb.val,.int .i64 cb.n,.slice ab cb.kids.length pb] 24 (0,0))):OthS w5 ca cb aa ab pa pb g (some x) none m z W':=by
 have t:=OthS.stable _ _ s hb
 exact ⟨t.low,t.rg,fun y e=>by injection e with e;subst e;exact hr,fun y e=>(by cases e),t.rm,fun y e=>by obtain ⟨e1,e2,e4,-,e3⟩:=t.rz y e;exact ⟨e1,e2,e4,fun c=>s.zlt hx (by rw [e,←c]),e3⟩⟩
theorem OthS.addk {y u:Nat} (s:OthS w5 ca cb aa ab pa pb (some y) (some u) none none z W) (hb:Below W.heap.size W W') {x:Nat} (hx:W.heap.size≤x) (hr:W'.heap[x]?=some (.cells #[.int .i64 4,.string ⟨#[]⟩,.string ⟨#[]⟩,.int .i64 0,.slice (some ⟨y,0,none⟩) 1 1,.int .i64 4,.string ⟨#[]⟩,.string ⟨#[]⟩,.int .i64 0,.slice (some ⟨u,0,none⟩) 1 1] 24 (0,0))):OthS w5 ca cb aa ab pa pb (some y) (some u) (some x) none z W':=by
 have t:=OthS.stable _ _ s hb
 exact ⟨t.low,t.rg,t.rh,fun j e=>by injection e with e;subst e;exact ⟨y,u,rfl,rfl,hr⟩,fun j e=>(by cases e),fun j e=>by obtain ⟨e1,e2,e3,e4,-,e5⟩:=t.rz j e;exact ⟨e1,e2,e3,e4,fun c=>s.zlt hx (by rw [e,←c]),e5⟩⟩
theorem OthS.addm {y:Nat} (s:OthS w5 ca cb aa ab pa pb g h (some y) none z W) (hb:Below W.heap.size W W') {x:Nat} (hx:W.heap.size≤x) (hr:W'.heap[x]?=some (.cells #[.int .i64 6,.string ⟨#[]⟩,.string ⟨#[]⟩,.int .i64 0,.slice (some ⟨y,0,none⟩) 2 2] 24 (0,0))):OthS w5 ca cb aa ab pa pb g h (some y) (some x) z W':=by
 have t:=OthS.stable _ _ s hb
 exact ⟨t.low,t.rg,t.rh,t.rk,fun j e=>by injection e with e;subst e;exact ⟨y,rfl,hr⟩,fun j e=>by obtain ⟨e1,e2,e3,e4,e5,-⟩:=t.rz j e;exact ⟨e1,e2,e3,e4,e5,fun c=>s.zlt hx (by rw [e,←c])⟩⟩
theorem OthS.addz (s:OthS w5 ca cb aa ab pa pb g h k m none W):OthS w5 ca cb aa ab pa pb g h k m (some W.heap.size) (W.alloc (.cells #[.int .i64 0,.string ⟨#[]⟩,.string ⟨#[]⟩,.int .i64 0,.slice none 0 0] 24)):=by
 have t:=OthS.stable _ _ s ((Below.refl W.heap.size W).alloc (Nat.le_refl _) (.cells #[.int .i64 0,.string ⟨#[]⟩,.string ⟨#[]⟩,.int .i64 0,.slice none 0 0] 24))
 refine ⟨t.low,t.rg,t.rh,t.rk,t.rm,fun j e=>?_⟩
 injection e with e
 subst e
 refine ⟨row_new _ _,s.low.size,fun c=>?_,fun c=>?_,fun c=>?_,fun c=>?_⟩
 ·exact absurd (lt_of_block (s.rg _ c)) (Nat.lt_irrefl _)
 ·exact absurd (lt_of_block (s.rh _ c)) (Nat.lt_irrefl _)
 ·obtain ⟨_,_,_,_,r⟩:=s.rk _ c;exact absurd (lt_of_block r) (Nat.lt_irrefl _)
 ·obtain ⟨_,_,r⟩:=s.rm _ c;exact absurd (lt_of_block r) (Nat.lt_irrefl _)
def OthE (w5:World) (ca cb:CondD) (m z:Nat) (W:World):Prop :=
 Below w5.heap.size w5 W∧CondIs W (otherC ca cb) (some ⟨m,0,none⟩)∧W.heap[z]?=some (.cells #[.int .i64 4,.string ⟨#[]⟩,.string ⟨#[]⟩,.int .i64 0,.slice (some ⟨m,0,none⟩) 1 1] 24 (0,0))
theorem OthE.stable (w5:World) (ca cb:CondD) (m z:Nat):StableW (OthE w5 ca cb m z):=fun _ _ s hb=>⟨below_step s.1 (Nat.le_refl _) hb,s.2.1.later hb,row_later hb s.2.2⟩
theorem OthS.store {x y u v q:Nat} (s:OthS w5 ca cb aa ab pa pb (some y) (some u) (some v) (some x) (some q) W) (ha:∀W,Below w5.heap.size w5 W→CondIs W ca aa) (hb:∀W,Below w5.heap.size w5 W→CondIs W cb ab) :
  OthE w5 ca cb x q (((((W.setCell ⟨q,0,none⟩ (.int .i64 4)).setCell ⟨q,1,none⟩ (.string ⟨#[]⟩)).setCell ⟨q,2,none⟩ (.string ⟨#[]⟩)).setCell ⟨q,3,none⟩ (.int .i64 0)).setCell ⟨q,4,none⟩ (.slice (some ⟨x,0,none⟩) 1 1)):=by
 obtain ⟨z1,z2,n1,n2,n3,n4⟩:=s.rz q rfl
 have L:=((((s.low.setCell (p:=⟨q,0,none⟩) z2 (.int .i64 4)).setCell (p:=⟨q,1,none⟩) z2 (.string ⟨#[]⟩)).setCell (p:=⟨q,2,none⟩) z2 (.string ⟨#[]⟩)).setCell (p:=⟨q,3,none⟩) z2 (.int .i64 0)).setCell (p:=⟨q,4,none⟩) z2 (.slice (some ⟨x,0,none⟩) 1 1)
 have oth:∀{j:Nat} {ob:Obj},W.heap[j]?=some ob→j≠q→(((((W.setCell ⟨q,0,none⟩ (.int .i64 4)).setCell ⟨q,1,none⟩ (.string ⟨#[]⟩)).setCell ⟨q,2,none⟩ (.string ⟨#[]⟩)).setCell ⟨q,3,none⟩ (.int .i64 0)).setCell ⟨q,4,none⟩ (.slice (some ⟨x,0,none⟩) 1 1)).heap[j]?=some ob:=fun hj hne =>
  row_set_other (row_set_other (row_set_other (row_set_other (row_set_other hj hne) hne) hne) hne) hne
 obtain ⟨y',u',ey,eu,rk⟩:=s.rk v rfl
 obtain ⟨v',ev,rm⟩:=s.rm x rfl
 injection ey with ey
 injection eu with eu
 injection ev with ev
 subst ey eu ev
 have r1:=oth (s.rg y rfl) (fun e=>n1 (by rw [e]))
 have r2:=oth (s.rh u rfl) (fun e=>n2 (by rw [e]))
 have r3:=oth rk (fun e=>n3 (by rw [e]))
 have r4:=oth rm (fun e=>n4 (by rw [e]))
 have c1:=cond_not (kids_one r1 (ha _ L))
 have c2:=cond_not (kids_one r2 (hb _ L))
 have c3:=cond_two 6 (kids_two (c:=notC ca) (d:=notC cb) r3 c1 c2)
 exact ⟨L,cond_not (kids_one (c:=eitherC (notC ca) (notC cb)) r4 c3),set5_rowC z1 _ _ _ _ _⟩
end
end Go.Proofs.YtdfenhjibnfdeaaGreatDoor
