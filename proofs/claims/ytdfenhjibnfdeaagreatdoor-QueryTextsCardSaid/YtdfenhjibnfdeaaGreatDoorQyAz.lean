/-  -/
import Derived.Test.YtdfenhjibnfdeaaGreatDoorQyAy
import Derived.Test.YtdfenhjibnfdeaaGreatDoorQyAx
namespace Go.Proofs.YtdfenhjibnfdeaaGreatDoor
open Go.RowKit Go.Shelf
def qryR (n0:Nat):World→QryD→Value→Prop:=fun W q v=>∃a cap,v=qryV q a cap∧CondP (fun b=>n0≤b) W q.wher a
theorem query_sets {B pb fin D:Nat} {w W W2:World} {r:List TokD} {o:Obj} (hM:PMem B pb w W) (hP:PAt B W pb r fin) (hz:W.heap[w.heap.size]?=some o) (hD:w.heap.size<D) (hB:B≤w.heap.size) (hpb:pb<w.heap.size) (hl:Below D W W2) (hs:W.heap.size=W2.heap.size) (he:∀b,b≠D→W2.heap[b]?=W.heap[b]?) :
  PMem B pb w W2∧PAt B W2 pb r fin∧W2.heap[w.heap.size]?=some o :=
 ⟨⟨hM.low.trans (hl.mono (by omega)),by rw [←hs];exact hM.keep.1,fun i hi hne=>(he i (by omega)).trans (hM.keep.2 i hi hne)⟩,hP.keep (hl.mono (by omega)) (he pb (by omega)),(he _ (by omega)).trans hz⟩
theorem one_setQ {W:World} {D i:Nat} (u:Value):Below D W (W.setCell ⟨D,i,none⟩ u)∧W.heap.size=(W.setCell ⟨D,i,none⟩ u).heap.size∧∀b,b≠D→(W.setCell ⟨D,i,none⟩ u).heap[b]?=W.heap[b]? :=
 ⟨(Below.refl _ _).setCell (p:=⟨D,i,none⟩) (Nat.le_refl _) _,by simp,fun b hb=>Below.heap_setCell _ _ _ _ hb⟩
set_option maxRecDepth 100000 in
set_option maxHeartbeats 8000000 in
theorem query_any (B pb:Nat) (hB:B≤pb) (ts:List TokD) (fin:Nat) (w:World) (hBw:B≤w.heap.size) (h:PAt B w pb ts fin) :
  Calls Tryz.prog 38 #[.pointer (some ⟨pb,0,none⟩)] w (PRes B pb fin (qryR w.heap.size) (queryP fin ts) w):=by
 have hpb:pb<w.heap.size:=by obtain ⟨_,h1,_⟩:=h;exact lt_of_block h1
 have b1:=(Below.refl w.heap.size w).alloc (Nat.le_refl _) (.cells #[.int .i64 0,.int .i64 0,.int .i64 0,.string ⟨#[]⟩,.string ⟨#[]⟩,.int .i64 0,.slice none 0 0,.string ⟨#[]⟩,.int .i64 0,.int .i64 0,.int .i64 0,.string ⟨#[]⟩,.string ⟨#[]⟩,.int .i64 0] 28)
 have HZ0:=Lib.hid (row_new w (.cells #[.int .i64 0,.int .i64 0,.int .i64 0,.string ⟨#[]⟩,.string ⟨#[]⟩,.int .i64 0,.slice none 0 0,.string ⟨#[]⟩,.int .i64 0,.int .i64 0,.int .i64 0,.string ⟨#[]⟩,.string ⟨#[]⟩,.int .i64 0] 28))
 have AK:=Lib.hid (ask_any B pb hB ts fin _ (by simp;omega) (h.low b1))
 have HM1:=Lib.hid (PMem.of_low (pb:=pb) hBw b1)
 obtain ⟨RES,hRES⟩:∃z,queryP fin ts=z:=⟨_,rfl⟩
 rw [hRES]
 rw [queryP] at hRES
 clear h b1
 go_enter Tryz.func38,Tryz.ntmps38
 cases ha:askP fin ts with
 |bad er off =>
  rw [ha] at hRES AK
  have HOK:=Lib.hid (show RES=.bad er off from hRES.symm)
  clear hRES ha
  go_wp2_with fail
  refine AK.out.mono ?_
  rintro e w9 ⟨hm9,rfl⟩
  exact ⟨rfl,by rw [HOK.out];exact ⟨HM1.out.trans hm9,rfl⟩⟩
 |ok q r =>
  rw [ha] at hRES AK
  simp only [bind_okE] at hRES
  clear ha
  go_wp2_with fail
  refine AK.out.mono ?_
  rintro e w2 ⟨hm2,v,rfl,rfl,hp2⟩
  have hz2:=(hm2.keep.2 _ (by simp) (by omega)).trans HZ0.out
  have HZ2:=Lib.hid hz2
  have HM2:=Lib.hid (HM1.out.trans hm2)
  have HP2:=Lib.hid hp2
  have hs2:w.heap.size+1≤w2.heap.size:=by have:=hm2.keep.1;simpa using this
  clear hm2 hp2 hz2
  obtain ⟨w3,hw3⟩:∃z,w2.alloc (.cells #[.int .i64 q.ask,.int .i64 0,.int .i64 0,.string ⟨#[]⟩,.string ⟨#[]⟩,.int .i64 0,.slice none 0 0,.string q.id,.int .i64 q.n,.int .i64 q.x,.int .i64 q.y,.string q.key,.string q.prof,.int .i64 q.minute] 28)=z:=⟨_,rfl⟩
  have ba:=(Below.refl w2.heap.size w2).alloc (Nat.le_refl _) (.cells #[.int .i64 q.ask,.int .i64 0,.int .i64 0,.string ⟨#[]⟩,.string ⟨#[]⟩,.int .i64 0,.slice none 0 0,.string q.id,.int .i64 q.n,.int .i64 q.x,.int .i64 q.y,.string q.key,.string q.prof,.int .i64 q.minute] 28)
  have hr3:=row_new w2 (.cells #[.int .i64 q.ask,.int .i64 0,.int .i64 0,.string ⟨#[]⟩,.string ⟨#[]⟩,.int .i64 0,.slice none 0 0,.string q.id,.int .i64 q.n,.int .i64 q.x,.int .i64 q.y,.string q.key,.string q.prof,.int .i64 q.minute] 28)
  rw [hw3] at ba hr3
  have HW3:=Lib.hid hw3
  have WD:=Lib.hid (words_any w3)
  have hs3:w2.heap.size+1≤w3.heap.size:=by rw [←hw3];simp
  clear hw3
  go_wp2_with fail
  rw [HW3.out]
  refine WD.out.mono ?_
  rintro e w4 ⟨rfl,hrow4,hb4⟩
  have hb24:=below_step ba (Nat.le_refl _) hb4
  have HQ4:=Lib.hid (row_later hb4 hr3)
  have HZ4:=Lib.hid (row_later hb24 HZ2.out)
  have HM4:=Lib.hid (HM2.out.trans (PMem.of_low (pb:=pb) (by omega) hb24))
  have IX:=Lib.hid (idxW_any B pb hB r fin _ kindsW (by decide) w4 hrow4 (HP2.out.low hb24))
  have hs4:=hb4.size
  clear ba hr3 hrow4 hb4 hb24
  cases hwp:wordP kindsW r with
  |none =>
   rw [hwp] at hRES IX
   simp only [idxW,restW] at IX
   have HOK:=Lib.hid (show RES=failP fin 5 r from hRES.symm)
   clear hRES hwp
   go_wp2_with fail
   refine IX.out.mono ?_
   rintro e w5 ⟨rfl,hp5,hm5⟩
   have HQ5:=Lib.hid (hm5.keep.row HQ4.out (by omega))
   have hz5:=hm5.keep.row HZ4.out (by omega)
   have hs5:=hm5.keep.1
   obtain ⟨s1,s2,s3⟩:=one_setQ (W:=w5) (D:=w2.heap.size) (i:=1) (.int .i64 (-1))
   obtain ⟨w6,hw6⟩:∃z,w5.setCell ⟨w2.heap.size,1,none⟩ (.int .i64 (-1))=z:=⟨_,rfl⟩
   rw [hw6] at s1 s2 s3
   obtain ⟨m6,p6,z6⟩:=query_sets (HM4.out.trans hm5) hp5 hz5 (show w.heap.size<w2.heap.size by omega) hBw hpb s1 s2 s3
   have HM6:=Lib.hid m6
   have HP6:=Lib.hid (show PAt B w6 pb r fin from p6)
   have HW6:=Lib.hid hw6
   clear hm5 hp5 hz5 s1 s2 s3 hw6 m6 p6 z6
   have qz:=lt_of_block HQ5.out
   have q0:=cell_of_row w5 _ 0 _ _ _ HQ5.out
   have q1:=cell_of_row w5 _ 1 _ _ _ HQ5.out
   have q2:=cell_of_row w5 _ 2 _ _ _ HQ5.out
   have q3:=cell_of_row w5 _ 3 _ _ _ HQ5.out
   have q4:=cell_of_row w5 _ 4 _ _ _ HQ5.out
   have q5:=cell_of_row w5 _ 5 _ _ _ HQ5.out
   have q6:=cell_of_row w5 _ 6 _ _ _ HQ5.out
   have q7:=cell_of_row w5 _ 7 _ _ _ HQ5.out
   have q8:=cell_of_row w5 _ 8 _ _ _ HQ5.out
   have q9:=cell_of_row w5 _ 9 _ _ _ HQ5.out
   have q10:=cell_of_row w5 _ 10 _ _ _ HQ5.out
   have q11:=cell_of_row w5 _ 11 _ _ _ HQ5.out
   have q12:=cell_of_row w5 _ 12 _ _ _ HQ5.out
   have q13:=cell_of_row w5 _ 13 _ _ _ HQ5.out
   have qf0:=frozen_of_row w5 _ 0 _ _ HQ5.out
   have qf1:=frozen_of_row w5 _ 1 _ _ HQ5.out
   have qf2:=frozen_of_row w5 _ 2 _ _ HQ5.out
   have qf3:=frozen_of_row w5 _ 3 _ _ HQ5.out
   have qf4:=frozen_of_row w5 _ 4 _ _ HQ5.out
   have qf5:=frozen_of_row w5 _ 5 _ _ HQ5.out
   have qf6:=frozen_of_row w5 _ 6 _ _ HQ5.out
   have qf7:=frozen_of_row w5 _ 7 _ _ HQ5.out
   have qf8:=frozen_of_row w5 _ 8 _ _ HQ5.out
   have qf9:=frozen_of_row w5 _ 9 _ _ HQ5.out
   have qf10:=frozen_of_row w5 _ 10 _ _ HQ5.out
   have qf11:=frozen_of_row w5 _ 11 _ _ HQ5.out
   have qf12:=frozen_of_row w5 _ 12 _ _ HQ5.out
   have qf13:=frozen_of_row w5 _ 13 _ _ HQ5.out
   simp only [List.getElem?_toArray,List.getElem?_cons_zero,List.getElem?_cons_succ] at q0 q1 q2 q3 q4 q5 q6 q7 q8 q9 q10 q11 q12 q13
   have FL:=Lib.hid (fail_any pb (r) fin 5 w6 HP6.out)
   go_wp2_with fail
   rw [HW6.out]
   refine FL.out.mono ?_
   rintro e w9 ⟨rfl,hw⟩
   subst w9
   have hpr:=PRes.fail (B:=B) (pb:=pb) (fin:=fin) (val:=qryR w.heap.size) (w:=w) 5 (r) HM6.out
   obtain ⟨x,y,hy⟩:=failA_end fin 5 (r)
   rw [hy] at hpr ⊢
   rw [HOK.out]
   exact ⟨rfl,hpr⟩
  |some k =>
   rw [hwp] at hRES IX
   simp only [idxW,restW] at IX
   have hRES:(if isP wWhere r.tail then (condP fin r.tail.length r.tail.tail).bind fun c r2=>if r2=[] then PR.ok { q with kind:=(k:Int),wher:=c } r2 else failP fin 5 r2 else if r.tail=[] then .ok { q with kind:=(k:Int),wher:=allW } r.tail else failP fin 5 r.tail)=RES:=hRES
   have dk:decide ((k:Int)<0)=false:=by rw [decide_eq_false_iff_not];omega
   clear hwp
   go_wp2_with fail
   refine IX.out.mono ?_
   rintro e w5 ⟨rfl,hp5,hm5⟩
   have HQ5:=Lib.hid (hm5.keep.row HQ4.out (by omega))
   have hz5:=hm5.keep.row HZ4.out (by omega)
   have hs5:=hm5.keep.1
   obtain ⟨s1,s2,s3⟩:=one_setQ (W:=w5) (D:=w2.heap.size) (i:=1) (.int .i64 (k:Int))
   obtain ⟨t1,t2,t3⟩:=one_setQ (W:=w5.setCell ⟨w2.heap.size,1,none⟩ (.int .i64 (k:Int))) (D:=w2.heap.size) (i:=2) (.int .i64 1)
   obtain ⟨w6,hw6⟩:∃z,(w5.setCell ⟨w2.heap.size,1,none⟩ (.int .i64 (k:Int))).setCell ⟨w2.heap.size,2,none⟩ (.int .i64 1)=z:=⟨_,rfl⟩
   have hq6:w6.heap[w2.heap.size]?=some (.cells #[.int .i64 q.ask,.int .i64 (k:Int),.int .i64 1,.string ⟨#[]⟩,.string ⟨#[]⟩,.int .i64 0,.slice none 0 0,.string q.id,.int .i64 q.n,.int .i64 q.x,.int .i64 q.y,.string q.key,.string q.prof,.int .i64 q.minute] 28 (0,0)):=by rw [←hw6];exact row_set (i:=2) (row_set (i:=1) HQ5.out)
   rw [hw6] at t1 t2 t3
   obtain ⟨m6,p6,z6⟩:=query_sets (HM4.out.trans hm5) hp5 hz5 (show w.heap.size<w2.heap.size by omega) hBw hpb (s1.trans t1) (s2.trans t2) (fun b hb=>(t3 b hb).trans (s3 b hb))
   have HM6:=Lib.hid m6
   have HP6:=Lib.hid (show PAt B w6 pb r.tail fin from p6)
   have HZ6:=Lib.hid z6
   have HQ6:=Lib.hid hq6
   have HW6:=Lib.hid hw6
   have hs6:w5.heap.size≤w6.heap.size:=by rw [←t2,←s2];exact Nat.le_refl _
   clear hm5 hp5 hz5 s1 s2 s3 t1 t2 t3 hw6 m6 p6 z6 hq6
   have qz:=lt_of_block HQ5.out
   have q0:=cell_of_row w5 _ 0 _ _ _ HQ5.out
   have q1:=cell_of_row w5 _ 1 _ _ _ HQ5.out
   have q2:=cell_of_row w5 _ 2 _ _ _ HQ5.out
   have q3:=cell_of_row w5 _ 3 _ _ _ HQ5.out
   have q4:=cell_of_row w5 _ 4 _ _ _ HQ5.out
   have q5:=cell_of_row w5 _ 5 _ _ _ HQ5.out
   have q6:=cell_of_row w5 _ 6 _ _ _ HQ5.out
   have q7:=cell_of_row w5 _ 7 _ _ _ HQ5.out
   have q8:=cell_of_row w5 _ 8 _ _ _ HQ5.out
   have q9:=cell_of_row w5 _ 9 _ _ _ HQ5.out
   have q10:=cell_of_row w5 _ 10 _ _ _ HQ5.out
   have q11:=cell_of_row w5 _ 11 _ _ _ HQ5.out
   have q12:=cell_of_row w5 _ 12 _ _ _ HQ5.out
   have q13:=cell_of_row w5 _ 13 _ _ _ HQ5.out
   have qf0:=frozen_of_row w5 _ 0 _ _ HQ5.out
   have qf1:=frozen_of_row w5 _ 1 _ _ HQ5.out
   have qf2:=frozen_of_row w5 _ 2 _ _ HQ5.out
   have qf3:=frozen_of_row w5 _ 3 _ _ HQ5.out
   have qf4:=frozen_of_row w5 _ 4 _ _ HQ5.out
   have qf5:=frozen_of_row w5 _ 5 _ _ HQ5.out
   have qf6:=frozen_of_row w5 _ 6 _ _ HQ5.out
   have qf7:=frozen_of_row w5 _ 7 _ _ HQ5.out
   have qf8:=frozen_of_row w5 _ 8 _ _ HQ5.out
   have qf9:=frozen_of_row w5 _ 9 _ _ HQ5.out
   have qf10:=frozen_of_row w5 _ 10 _ _ HQ5.out
   have qf11:=frozen_of_row w5 _ 11 _ _ HQ5.out
   have qf12:=frozen_of_row w5 _ 12 _ _ HQ5.out
   have qf13:=frozen_of_row w5 _ 13 _ _ HQ5.out
   simp only [List.getElem?_toArray,List.getElem?_cons_zero,List.getElem?_cons_succ] at q0 q1 q2 q3 q4 q5 q6 q7 q8 q9 q10 q11 q12 q13
   obtain ⟨r1,hr1⟩:∃z,z=r.tail:=⟨_,rfl⟩
   rw [←hr1] at hRES HP6
   clear hr1
   cases i1:isP wWhere r1
   case false =>
    rw [i1,if_neg (by decide)] at hRES
    have SK7:=Lib.hid (skip_any B pb hB r1 fin wWhere _ HP6.out)
    rw [i1] at SK7
    go_wp2_with fail
    rw [HW6.out]
    refine SK7.out.mono ?_
    rintro e w7 ⟨rfl,hp7,hm7⟩
    have KP7:=Lib.hid hm7.keep
    have hz7:=(hm7.keep.2 _ (lt_of_block HZ6.out) (by omega)).trans HZ6.out
    have HZ7:=Lib.hid hz7
    have HM7:=Lib.hid (HM6.out.trans hm7)
    have HP7:=Lib.hid hp7
    have hs7:=hm7.keep.1
    clear hz7 hm7 hp7
    have HQ7:=Lib.hid (KP7.out.row HQ6.out (by omega))
    obtain ⟨tv,hq1,hq2,-⟩:=HP7.out
    have HR1:=Lib.hid hq1
    cases r1 with
    |nil =>
     rw [if_pos rfl] at hRES
     have HOK:=Lib.hid hRES.symm
     obtain ⟨a,cap,rfl,-⟩:=hq2
     clear hRES hq1
     obtain ⟨pz,p0,p1⟩:=rk2 HR1.out
     have zz:=lt_of_block HZ7.out
     have z0:=cell_of_row w7 _ 0 _ _ _ HZ7.out
     have z1:=cell_of_row w7 _ 1 _ _ _ HZ7.out
     have z2:=cell_of_row w7 _ 2 _ _ _ HZ7.out
     have z3:=cell_of_row w7 _ 3 _ _ _ HZ7.out
     have z4:=cell_of_row w7 _ 4 _ _ _ HZ7.out
     have z5:=cell_of_row w7 _ 5 _ _ _ HZ7.out
     have z6:=cell_of_row w7 _ 6 _ _ _ HZ7.out
     have z7:=cell_of_row w7 _ 7 _ _ _ HZ7.out
     have z8:=cell_of_row w7 _ 8 _ _ _ HZ7.out
     have z9:=cell_of_row w7 _ 9 _ _ _ HZ7.out
     have z10:=cell_of_row w7 _ 10 _ _ _ HZ7.out
     have z11:=cell_of_row w7 _ 11 _ _ _ HZ7.out
     have z12:=cell_of_row w7 _ 12 _ _ _ HZ7.out
     have z13:=cell_of_row w7 _ 13 _ _ _ HZ7.out
     have zf0:=frozen_of_row w7 _ 0 _ _ HZ7.out
     have zf1:=frozen_of_row w7 _ 1 _ _ HZ7.out
     have zf2:=frozen_of_row w7 _ 2 _ _ HZ7.out
     have zf3:=frozen_of_row w7 _ 3 _ _ HZ7.out
     have zf4:=frozen_of_row w7 _ 4 _ _ HZ7.out
     have zf5:=frozen_of_row w7 _ 5 _ _ HZ7.out
     have zf6:=frozen_of_row w7 _ 6 _ _ HZ7.out
     have zf7:=frozen_of_row w7 _ 7 _ _ HZ7.out
     have zf8:=frozen_of_row w7 _ 8 _ _ HZ7.out
     have zf9:=frozen_of_row w7 _ 9 _ _ HZ7.out
     have zf10:=frozen_of_row w7 _ 10 _ _ HZ7.out
     have zf11:=frozen_of_row w7 _ 11 _ _ HZ7.out
     have zf12:=frozen_of_row w7 _ 12 _ _ HZ7.out
     have zf13:=frozen_of_row w7 _ 13 _ _ HZ7.out
     simp only [List.getElem?_toArray,List.getElem?_cons_zero,List.getElem?_cons_succ] at z0 z1 z2 z3 z4 z5 z6 z7 z8 z9 z10 z11 z12 z13
     have qz:=lt_of_block HQ7.out
     have q0:=cell_of_row w7 _ 0 _ _ _ HQ7.out
     have q1:=cell_of_row w7 _ 1 _ _ _ HQ7.out
     have q2:=cell_of_row w7 _ 2 _ _ _ HQ7.out
     have q3:=cell_of_row w7 _ 3 _ _ _ HQ7.out
     have q4:=cell_of_row w7 _ 4 _ _ _ HQ7.out
     have q5:=cell_of_row w7 _ 5 _ _ _ HQ7.out
     have q6:=cell_of_row w7 _ 6 _ _ _ HQ7.out
     have q7:=cell_of_row w7 _ 7 _ _ _ HQ7.out
     have q8:=cell_of_row w7 _ 8 _ _ _ HQ7.out
     have q9:=cell_of_row w7 _ 9 _ _ _ HQ7.out
     have q10:=cell_of_row w7 _ 10 _ _ _ HQ7.out
     have q11:=cell_of_row w7 _ 11 _ _ _ HQ7.out
     have q12:=cell_of_row w7 _ 12 _ _ _ HQ7.out
     have q13:=cell_of_row w7 _ 13 _ _ _ HQ7.out
     simp only [List.getElem?_toArray,List.getElem?_cons_zero,List.getElem?_cons_succ] at q0 q1 q2 q3 q4 q5 q6 q7 q8 q9 q10 q11 q12 q13
     go_wp2
     generalize hwF:((((((((((((((w7).setCell ⟨w.heap.size,0,none⟩ (.int .i64 q.ask)).setCell ⟨w.heap.size,1,none⟩ (.int .i64 (k:Int))).setCell ⟨w.heap.size,2,none⟩ (.int .i64 1)).setCell ⟨w.heap.size,3,none⟩ (.string ⟨#[]⟩)).setCell ⟨w.heap.size,4,none⟩ (.string ⟨#[]⟩)).setCell ⟨w.heap.size,5,none⟩ (.int .i64 0)).setCell ⟨w.heap.size,6,none⟩ (.slice none 0 0)).setCell ⟨w.heap.size,7,none⟩ (.string q.id)).setCell ⟨w.heap.size,8,none⟩ (.int .i64 q.n)).setCell ⟨w.heap.size,9,none⟩ (.int .i64 q.x)).setCell ⟨w.heap.size,10,none⟩ (.int .i64 q.y)).setCell ⟨w.heap.size,11,none⟩ (.string q.key)).setCell ⟨w.heap.size,12,none⟩ (.string q.prof)).setCell ⟨w.heap.size,13,none⟩ (.int .i64 q.minute)=wF
     have HF:=Lib.hid (show wF.heap[w.heap.size]?=some (.cells #[.int .i64 q.ask,.int .i64 (k:Int),.int .i64 1,.string ⟨#[]⟩,.string ⟨#[]⟩,.int .i64 0,.slice none 0 0,.string q.id,.int .i64 q.n,.int .i64 q.x,.int .i64 q.y,.string q.key,.string q.prof,.int .i64 q.minute] 28 (0,0)) by rw [←hwF];exact set14_row HZ7.out _ _ _ _ _ _ _ _ _ _ _ _ _ _)
     have sz:=lt_of_block HF.out
     have s0:=cell_of_row wF _ 0 _ _ _ HF.out
     have s1:=cell_of_row wF _ 1 _ _ _ HF.out
     have s2:=cell_of_row wF _ 2 _ _ _ HF.out
     have s3:=cell_of_row wF _ 3 _ _ _ HF.out
     have s4:=cell_of_row wF _ 4 _ _ _ HF.out
     have s5:=cell_of_row wF _ 5 _ _ _ HF.out
     have s6:=cell_of_row wF _ 6 _ _ _ HF.out
     have s7:=cell_of_row wF _ 7 _ _ _ HF.out
     have s8:=cell_of_row wF _ 8 _ _ _ HF.out
     have s9:=cell_of_row wF _ 9 _ _ _ HF.out
     have s10:=cell_of_row wF _ 10 _ _ _ HF.out
     have s11:=cell_of_row wF _ 11 _ _ _ HF.out
     have s12:=cell_of_row wF _ 12 _ _ _ HF.out
     have s13:=cell_of_row wF _ 13 _ _ _ HF.out
     simp only [List.getElem?_toArray,List.getElem?_cons_zero,List.getElem?_cons_succ] at s0 s1 s2 s3 s4 s5 s6 s7 s8 s9 s10 s11 s12 s13
     refine bodyPost_ret (v:=.agg #[.int .i64 q.ask,.int .i64 (k:Int),.int .i64 1,.string ⟨#[]⟩,.string ⟨#[]⟩,.int .i64 0,.slice none 0 0,.string q.id,.int .i64 q.n,.int .i64 q.x,.int .i64 q.y,.string q.key,.string q.prof,.int .i64 q.minute]) (by simp [results,Tryz.results38,go_sem,s0,s1,s2,s3,s4,s5,s6,s7,s8,s9,s10,s11,s12,s13]) rfl ?_
     have hres:=res14 hwF hBw hpb (Nat.le_refl _) HM7.out HP7.out
     rw [HOK.out]
     refine ⟨hres.1,_,rfl,?_,hres.2⟩
     exact ⟨none,0,rfl,leafP _ _ _ _ _ _ (by decide) (by decide)⟩
    |cons t2 r2 =>
     rw [if_neg (by simp)] at hRES
     have HOK:=Lib.hid (show RES=failP fin 5 (t2 :: r2) from hRES.symm)
     obtain ⟨b,off,cap,rfl,-,-,c0,c1,c2⟩:=hq2.open
     have dl:decide ((0:Int)<(r2.length:Int)+1)=true:=by rw [decide_eq_true_eq];omega
     clear hRES hq1
     obtain ⟨pz,p0,p1⟩:=rk2 HR1.out
     have FL:=Lib.hid (fail_any pb (t2 :: r2) fin 5 w7 HP7.out)
     go_wp2_with fail
     skip
     refine FL.out.mono ?_
     rintro e w9 ⟨rfl,hw⟩
     subst w9
     have hpr:=PRes.fail (B:=B) (pb:=pb) (fin:=fin) (val:=qryR w.heap.size) (w:=w) 5 (t2 :: r2) HM7.out
     obtain ⟨x,y,hy⟩:=failA_end fin 5 (t2 :: r2)
     rw [hy] at hpr ⊢
     rw [HOK.out]
     exact ⟨rfl,hpr⟩
   case true =>
    rw [i1,if_pos rfl] at hRES
    have hl1:=isP_tail i1
    have SK7:=Lib.hid (skip_any B pb hB r1 fin wWhere _ HP6.out)
    rw [i1] at SK7
    go_wp2_with fail
    rw [HW6.out]
    refine SK7.out.mono ?_
    rintro e w7 ⟨rfl,hp7,hm7⟩
    have KP7:=Lib.hid hm7.keep
    have hz7:=(hm7.keep.2 _ (lt_of_block HZ6.out) (by omega)).trans HZ6.out
    have HZ7:=Lib.hid hz7
    have HM7:=Lib.hid (HM6.out.trans hm7)
    have HP7:=Lib.hid hp7
    have hs7:=hm7.keep.1
    clear hz7 hm7 hp7
    have HQ7:=Lib.hid (KP7.out.row HQ6.out (by omega))
    have CD:=Lib.hid (cnd_all B pb fin r1.length hB r1.tail w7 hl1 (by omega) HP7.out)
    cases hc:condP fin r1.length r1.tail with
    |bad er off =>
     rw [hc] at hRES CD
     have HOK:=Lib.hid (show RES=.bad er off from hRES.symm)
     clear hRES hc
     go_wp2_with fail
     refine CD.out.mono ?_
     rintro e w9 ⟨hm9,rfl⟩
     exact ⟨rfl,by rw [HOK.out];exact ⟨HM7.out.trans hm9,rfl⟩⟩
    |ok c r2 =>
     rw [hc] at hRES CD
     simp only [bind_okE] at hRES
     clear hc
     go_wp2_with fail
     refine CD.out.mono ?_
     rintro e w8 ⟨hm8,v,rfl,⟨a0,cap0,rfl,hc8⟩,hp8⟩
     have HC8:=Lib.hid hc8
     have HQ8:=Lib.hid (hm8.keep.row HQ7.out (by omega))
     clear hc8
     have hz8:=(hm8.keep.2 _ (lt_of_block HZ7.out) (by omega)).trans HZ7.out
     have HZ8:=Lib.hid hz8
     have HM8:=Lib.hid (HM7.out.trans hm8)
     have HP8:=Lib.hid hp8
     have hs8:=hm8.keep.1
     clear hz8 hm8 hp8
     rw [cond_cells c a0 cap0]
     obtain ⟨w9,hw9⟩:∃z,(((((w8).setCell ⟨w2.heap.size,2,none⟩ (.int .i64 c.op)).setCell ⟨w2.heap.size,3,none⟩ (.string c.key)).setCell ⟨w2.heap.size,4,none⟩ (.string c.val)).setCell ⟨w2.heap.size,5,none⟩ (.int .i64 c.n)).setCell ⟨w2.heap.size,6,none⟩ (.slice a0 c.kids.length cap0)=z:=⟨_,rfl⟩
     have hq9:w9.heap[w2.heap.size]?=some (.cells #[.int .i64 q.ask,.int .i64 (k:Int),.int .i64 c.op,.string c.key,.string c.val,.int .i64 c.n,.slice a0 c.kids.length cap0,.string q.id,.int .i64 q.n,.int .i64 q.x,.int .i64 q.y,.string q.key,.string q.prof,.int .i64 q.minute] 28 (0,0)):=by rw [←hw9];exact row_set (i:=6) (row_set (i:=5) (row_set (i:=4) (row_set (i:=3) (row_set (i:=2) HQ8.out))))
     have hl9:Below w2.heap.size w8 w9:=by rw [←hw9];exact (((((Below.refl _ _).setCell (p:=⟨w2.heap.size,2,none⟩) (Nat.le_refl _) _).setCell (p:=⟨w2.heap.size,3,none⟩) (Nat.le_refl _) _).setCell (p:=⟨w2.heap.size,4,none⟩) (Nat.le_refl _) _).setCell (p:=⟨w2.heap.size,5,none⟩) (Nat.le_refl _) _).setCell (p:=⟨w2.heap.size,6,none⟩) (Nat.le_refl _) _
     have hz9:w8.heap.size=w9.heap.size:=by rw [←hw9];simp
     have he9:∀b,b≠w2.heap.size→w9.heap[b]?=w8.heap[b]?:=fun b hb=>by rw [←hw9,Below.heap_setCell _ _ _ _ hb,Below.heap_setCell _ _ _ _ hb,Below.heap_setCell _ _ _ _ hb,Below.heap_setCell _ _ _ _ hb,Below.heap_setCell _ _ _ _ hb]
     obtain ⟨m9,p9,z9⟩:=query_sets HM8.out HP8.out HZ8.out (show w.heap.size<w2.heap.size by omega) hBw hpb hl9 hz9 he9
     have HM9:=Lib.hid m9
     have HP9:=Lib.hid p9
     have HZ9:=Lib.hid z9
     have HQ9:=Lib.hid hq9
     have HW9:=Lib.hid hw9
     have HC9:=Lib.hid (HC8.out.to (Q:=fun b=>w.heap.size+1≤b) (fun b h1 _=>by omega) fun b h1 h2=>he9 b (by omega))
     clear m9 p9 z9 hq9 hw9 hl9 hz9 he9
     have qz:=lt_of_block HQ8.out
     have q0:=cell_of_row w8 _ 0 _ _ _ HQ8.out
     have q1:=cell_of_row w8 _ 1 _ _ _ HQ8.out
     have q2:=cell_of_row w8 _ 2 _ _ _ HQ8.out
     have q3:=cell_of_row w8 _ 3 _ _ _ HQ8.out
     have q4:=cell_of_row w8 _ 4 _ _ _ HQ8.out
     have q5:=cell_of_row w8 _ 5 _ _ _ HQ8.out
     have q6:=cell_of_row w8 _ 6 _ _ _ HQ8.out
     have q7:=cell_of_row w8 _ 7 _ _ _ HQ8.out
     have q8:=cell_of_row w8 _ 8 _ _ _ HQ8.out
     have q9:=cell_of_row w8 _ 9 _ _ _ HQ8.out
     have q10:=cell_of_row w8 _ 10 _ _ _ HQ8.out
     have q11:=cell_of_row w8 _ 11 _ _ _ HQ8.out
     have q12:=cell_of_row w8 _ 12 _ _ _ HQ8.out
     have q13:=cell_of_row w8 _ 13 _ _ _ HQ8.out
     have qf0:=frozen_of_row w8 _ 0 _ _ HQ8.out
     have qf1:=frozen_of_row w8 _ 1 _ _ HQ8.out
     have qf2:=frozen_of_row w8 _ 2 _ _ HQ8.out
     have qf3:=frozen_of_row w8 _ 3 _ _ HQ8.out
     have qf4:=frozen_of_row w8 _ 4 _ _ HQ8.out
     have qf5:=frozen_of_row w8 _ 5 _ _ HQ8.out
     have qf6:=frozen_of_row w8 _ 6 _ _ HQ8.out
     have qf7:=frozen_of_row w8 _ 7 _ _ HQ8.out
     have qf8:=frozen_of_row w8 _ 8 _ _ HQ8.out
     have qf9:=frozen_of_row w8 _ 9 _ _ HQ8.out
     have qf10:=frozen_of_row w8 _ 10 _ _ HQ8.out
     have qf11:=frozen_of_row w8 _ 11 _ _ HQ8.out
     have qf12:=frozen_of_row w8 _ 12 _ _ HQ8.out
     have qf13:=frozen_of_row w8 _ 13 _ _ HQ8.out
     simp only [List.getElem?_toArray,List.getElem?_cons_zero,List.getElem?_cons_succ] at q0 q1 q2 q3 q4 q5 q6 q7 q8 q9 q10 q11 q12 q13
     obtain ⟨tv,hq1,hq2,-⟩:=HP8.out
     have HR1:=Lib.hid hq1
     cases r2 with
     |nil =>
      rw [if_pos rfl] at hRES
      have HOK:=Lib.hid hRES.symm
      obtain ⟨a,cap,rfl,-⟩:=hq2
      clear hRES hq1
      obtain ⟨pz,p0,p1⟩:=rk2 HR1.out
      have zz:=lt_of_block HZ8.out
      have z0:=cell_of_row w8 _ 0 _ _ _ HZ8.out
      have z1:=cell_of_row w8 _ 1 _ _ _ HZ8.out
      have z2:=cell_of_row w8 _ 2 _ _ _ HZ8.out
      have z3:=cell_of_row w8 _ 3 _ _ _ HZ8.out
      have z4:=cell_of_row w8 _ 4 _ _ _ HZ8.out
      have z5:=cell_of_row w8 _ 5 _ _ _ HZ8.out
      have z6:=cell_of_row w8 _ 6 _ _ _ HZ8.out
      have z7:=cell_of_row w8 _ 7 _ _ _ HZ8.out
      have z8:=cell_of_row w8 _ 8 _ _ _ HZ8.out
      have z9:=cell_of_row w8 _ 9 _ _ _ HZ8.out
      have z10:=cell_of_row w8 _ 10 _ _ _ HZ8.out
      have z11:=cell_of_row w8 _ 11 _ _ _ HZ8.out
      have z12:=cell_of_row w8 _ 12 _ _ _ HZ8.out
      have z13:=cell_of_row w8 _ 13 _ _ _ HZ8.out
      have zf0:=frozen_of_row w8 _ 0 _ _ HZ8.out
      have zf1:=frozen_of_row w8 _ 1 _ _ HZ8.out
      have zf2:=frozen_of_row w8 _ 2 _ _ HZ8.out
      have zf3:=frozen_of_row w8 _ 3 _ _ HZ8.out
      have zf4:=frozen_of_row w8 _ 4 _ _ HZ8.out
      have zf5:=frozen_of_row w8 _ 5 _ _ HZ8.out
      have zf6:=frozen_of_row w8 _ 6 _ _ HZ8.out
      have zf7:=frozen_of_row w8 _ 7 _ _ HZ8.out
      have zf8:=frozen_of_row w8 _ 8 _ _ HZ8.out
      have zf9:=frozen_of_row w8 _ 9 _ _ HZ8.out
      have zf10:=frozen_of_row w8 _ 10 _ _ HZ8.out
      have zf11:=frozen_of_row w8 _ 11 _ _ HZ8.out
      have zf12:=frozen_of_row w8 _ 12 _ _ HZ8.out
      have zf13:=frozen_of_row w8 _ 13 _ _ HZ8.out
      simp only [List.getElem?_toArray,List.getElem?_cons_zero,List.getElem?_cons_succ] at z0 z1 z2 z3 z4 z5 z6 z7 z8 z9 z10 z11 z12 z13
      go_wp2
      generalize hwF:((((((((((((((((((((w8).setCell ⟨w2.heap.size,2,none⟩ (.int .i64 c.op)).setCell ⟨w2.heap.size,3,none⟩ (.string c.key)).setCell ⟨w2.heap.size,4,none⟩ (.string c.val)).setCell ⟨w2.heap.size,5,none⟩ (.int .i64 c.n)).setCell ⟨w2.heap.size,6,none⟩ (.slice a0 c.kids.length cap0))).setCell ⟨w.heap.size,0,none⟩ (.int .i64 q.ask)).setCell ⟨w.heap.size,1,none⟩ (.int .i64 (k:Int))).setCell ⟨w.heap.size,2,none⟩ (.int .i64 c.op)).setCell ⟨w.heap.size,3,none⟩ (.string c.key)).setCell ⟨w.heap.size,4,none⟩ (.string c.val)).setCell ⟨w.heap.size,5,none⟩ (.int .i64 c.n)).setCell ⟨w.heap.size,6,none⟩ (.slice a0 c.kids.length cap0)).setCell ⟨w.heap.size,7,none⟩ (.string q.id)).setCell ⟨w.heap.size,8,none⟩ (.int .i64 q.n)).setCell ⟨w.heap.size,9,none⟩ (.int .i64 q.x)).setCell ⟨w.heap.size,10,none⟩ (.int .i64 q.y)).setCell ⟨w.heap.size,11,none⟩ (.string q.key)).setCell ⟨w.heap.size,12,none⟩ (.string q.prof)).setCell ⟨w.heap.size,13,none⟩ (.int .i64 q.minute)=wF
      rw [HW9.out] at hwF
      have HF:=Lib.hid (show wF.heap[w.heap.size]?=some (.cells #[.int .i64 q.ask,.int .i64 (k:Int),.int .i64 c.op,.string c.key,.string c.val,.int .i64 c.n,.slice a0 c.kids.length cap0,.string q.id,.int .i64 q.n,.int .i64 q.x,.int .i64 q.y,.string q.key,.string q.prof,.int .i64 q.minute] 28 (0,0)) by rw [←hwF];exact set14_row HZ9.out _ _ _ _ _ _ _ _ _ _ _ _ _ _)
      have sz:=lt_of_block HF.out
      have s0:=cell_of_row wF _ 0 _ _ _ HF.out
      have s1:=cell_of_row wF _ 1 _ _ _ HF.out
      have s2:=cell_of_row wF _ 2 _ _ _ HF.out
      have s3:=cell_of_row wF _ 3 _ _ _ HF.out
      have s4:=cell_of_row wF _ 4 _ _ _ HF.out
      have s5:=cell_of_row wF _ 5 _ _ _ HF.out
      have s6:=cell_of_row wF _ 6 _ _ _ HF.out
      have s7:=cell_of_row wF _ 7 _ _ _ HF.out
      have s8:=cell_of_row wF _ 8 _ _ _ HF.out
      have s9:=cell_of_row wF _ 9 _ _ _ HF.out
      have s10:=cell_of_row wF _ 10 _ _ _ HF.out
      have s11:=cell_of_row wF _ 11 _ _ _ HF.out
      have s12:=cell_of_row wF _ 12 _ _ _ HF.out
      have s13:=cell_of_row wF _ 13 _ _ _ HF.out
      simp only [List.getElem?_toArray,List.getElem?_cons_zero,List.getElem?_cons_succ] at s0 s1 s2 s3 s4 s5 s6 s7 s8 s9 s10 s11 s12 s13
      refine bodyPost_ret (v:=.agg #[.int .i64 q.ask,.int .i64 (k:Int),.int .i64 c.op,.string c.key,.string c.val,.int .i64 c.n,.slice a0 c.kids.length cap0,.string q.id,.int .i64 q.n,.int .i64 q.x,.int .i64 q.y,.string q.key,.string q.prof,.int .i64 q.minute]) (by simp [results,Tryz.results38,go_sem,s0,s1,s2,s3,s4,s5,s6,s7,s8,s9,s10,s11,s12,s13]) rfl ?_
      have hres:=res14 hwF hBw hpb (Nat.le_refl _) HM9.out HP9.out
      rw [HOK.out]
      refine ⟨hres.1,_,rfl,⟨a0,cap0,rfl,?_⟩,hres.2⟩
      refine HC9.out.to (fun b h1 _=>by omega) fun b h1 _=>?_
      rw [←hwF]
      exact set14_heap _ _ _ _ _ _ _ _ _ _ _ _ _ _ (by omega)
     |cons t2 r2 =>
      rw [if_neg (by simp)] at hRES
      have HOK:=Lib.hid (show RES=failP fin 5 (t2 :: r2) from hRES.symm)
      obtain ⟨b,off,cap,rfl,-,-,c0,c1,c2⟩:=hq2.open
      have dl:decide ((0:Int)<(r2.length:Int)+1)=true:=by rw [decide_eq_true_eq];omega
      clear hRES hq1
      obtain ⟨pz,p0,p1⟩:=rk2 HR1.out
      have FL:=Lib.hid (fail_any pb (t2 :: r2) fin 5 w9 HP9.out)
      go_wp2_with fail
      rw [HW9.out]
      refine FL.out.mono ?_
      rintro e w9 ⟨rfl,hw⟩
      subst w9
      have hpr:=PRes.fail (B:=B) (pb:=pb) (fin:=fin) (val:=qryR w.heap.size) (w:=w) 5 (t2 :: r2) HM9.out
      obtain ⟨x,y,hy⟩:=failA_end fin 5 (t2 :: r2)
      rw [hy] at hpr ⊢
      rw [HOK.out]
      exact ⟨rfl,hpr⟩
end Go.Proofs.YtdfenhjibnfdeaaGreatDoor
