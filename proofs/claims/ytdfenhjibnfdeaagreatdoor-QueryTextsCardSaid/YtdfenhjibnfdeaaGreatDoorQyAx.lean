/-  -/
import Derived.Test.YtdfenhjibnfdeaaGreatDoorQyAw
namespace Go.Proofs.YtdfenhjibnfdeaaGreatDoor
open Go.RowKit Go.Shelf
theorem eq_nn (w:World):(binOp BinOp.eql 1 Value.nilFunc Value.nilFunc).run Tryz.prog w=.ok (.bool true) w:=by kernel_rfl
theorem eq_fn (f:Fn) (a b:Array Value) (w:World):(binOp BinOp.eql 1 (.func f a b) Value.nilFunc).run Tryz.prog w=.ok (.bool false) w:=by kernel_rfl
abbrev set14 (w:World) (b:Nat) (v0 v1 v2 v3 v4 v5 v6 v7 v8 v9 v10 v11 v12 v13:Value):World:=((((((((((((((w).setCell ⟨b,0,none⟩ (v0)).setCell ⟨b,1,none⟩ (v1)).setCell ⟨b,2,none⟩ (v2)).setCell ⟨b,3,none⟩ (v3)).setCell ⟨b,4,none⟩ (v4)).setCell ⟨b,5,none⟩ (v5)).setCell ⟨b,6,none⟩ (v6)).setCell ⟨b,7,none⟩ (v7)).setCell ⟨b,8,none⟩ (v8)).setCell ⟨b,9,none⟩ (v9)).setCell ⟨b,10,none⟩ (v10)).setCell ⟨b,11,none⟩ (v11)).setCell ⟨b,12,none⟩ (v12)).setCell ⟨b,13,none⟩ (v13)
theorem set14_row {w:World} {b:Nat} {u0 u1 u2 u3 u4 u5 u6 u7 u8 u9 u10 u11 u12 u13:Value} {T:TypeId} (h:w.heap[b]?=some (.cells #[u0,u1,u2,u3,u4,u5,u6,u7,u8,u9,u10,u11,u12,u13] T (0,0))) (v0 v1 v2 v3 v4 v5 v6 v7 v8 v9 v10 v11 v12 v13:Value):(set14 w b v0 v1 v2 v3 v4 v5 v6 v7 v8 v9 v10 v11 v12 v13).heap[b]?=some (.cells #[v0,v1,v2,v3,v4,v5,v6,v7,v8,v9,v10,v11,v12,v13] T (0,0)):=by
 have h0:=row_set (i:=0) (v:=v0) h
 simp only [List.setIfInBounds_toArray,List.set_cons_zero] at h0
 have h1:=row_set (i:=1) (v:=v1) h0
 simp only [List.setIfInBounds_toArray,List.set_cons_succ,List.set_cons_zero] at h1
 have h2:=row_set (i:=2) (v:=v2) h1
 simp only [List.setIfInBounds_toArray,List.set_cons_succ,List.set_cons_zero] at h2
 have h3:=row_set (i:=3) (v:=v3) h2
 simp only [List.setIfInBounds_toArray,List.set_cons_succ,List.set_cons_zero] at h3
 have h4:=row_set (i:=4) (v:=v4) h3
 simp only [List.setIfInBounds_toArray,List.set_cons_succ,List.set_cons_zero] at h4
 have h5:=row_set (i:=5) (v:=v5) h4
 simp only [List.setIfInBounds_toArray,List.set_cons_succ,List.set_cons_zero] at h5
 have h6:=row_set (i:=6) (v:=v6) h5
 simp only [List.setIfInBounds_toArray,List.set_cons_succ,List.set_cons_zero] at h6
 have h7:=row_set (i:=7) (v:=v7) h6
 simp only [List.setIfInBounds_toArray,List.set_cons_succ,List.set_cons_zero] at h7
 have h8:=row_set (i:=8) (v:=v8) h7
 simp only [List.setIfInBounds_toArray,List.set_cons_succ,List.set_cons_zero] at h8
 have h9:=row_set (i:=9) (v:=v9) h8
 simp only [List.setIfInBounds_toArray,List.set_cons_succ,List.set_cons_zero] at h9
 have h10:=row_set (i:=10) (v:=v10) h9
 simp only [List.setIfInBounds_toArray,List.set_cons_succ,List.set_cons_zero] at h10
 have h11:=row_set (i:=11) (v:=v11) h10
 simp only [List.setIfInBounds_toArray,List.set_cons_succ,List.set_cons_zero] at h11
 have h12:=row_set (i:=12) (v:=v12) h11
 simp only [List.setIfInBounds_toArray,List.set_cons_succ,List.set_cons_zero] at h12
 have h13:=row_set (i:=13) (v:=v13) h12
 simp only [List.setIfInBounds_toArray,List.set_cons_succ,List.set_cons_zero] at h13
 exact h13
theorem set14_heap {w:World} {b i:Nat} (v0 v1 v2 v3 v4 v5 v6 v7 v8 v9 v10 v11 v12 v13:Value) (h:i≠b):(set14 w b v0 v1 v2 v3 v4 v5 v6 v7 v8 v9 v10 v11 v12 v13).heap[i]?=w.heap[i]?:=by
 rw [Below.heap_setCell _ _ _ _ h,Below.heap_setCell _ _ _ _ h,Below.heap_setCell _ _ _ _ h,Below.heap_setCell _ _ _ _ h,Below.heap_setCell _ _ _ _ h,Below.heap_setCell _ _ _ _ h,Below.heap_setCell _ _ _ _ h,Below.heap_setCell _ _ _ _ h,Below.heap_setCell _ _ _ _ h,Below.heap_setCell _ _ _ _ h,Below.heap_setCell _ _ _ _ h,Below.heap_setCell _ _ _ _ h,Below.heap_setCell _ _ _ _ h,Below.heap_setCell _ _ _ _ h]
theorem set14_low {B:Nat} {w W:World} {b:Nat} (h:Below B w W) (hb:B≤b) (v0 v1 v2 v3 v4 v5 v6 v7 v8 v9 v10 v11 v12 v13:Value):Below B w (set14 W b v0 v1 v2 v3 v4 v5 v6 v7 v8 v9 v10 v11 v12 v13) :=
 (((((((((((((h.setCell hb _).setCell hb _).setCell hb _).setCell hb _).setCell hb _).setCell hb _).setCell hb _).setCell hb _).setCell hb _).setCell hb _).setCell hb _).setCell hb _).setCell hb _).setCell hb _
theorem set14_size {w:World} {b:Nat} (v0 v1 v2 v3 v4 v5 v6 v7 v8 v9 v10 v11 v12 v13:Value):(set14 w b v0 v1 v2 v3 v4 v5 v6 v7 v8 v9 v10 v11 v12 v13).heap.size=w.heap.size:=by simp [set14]
theorem res14 {B pb fin rb:Nat} {w W wF:World} {v0 v1 v2 v3 v4 v5 v6 v7 v8 v9 v10 v11 v12 v13:Value} {ts:List TokD} (hwF:set14 W rb v0 v1 v2 v3 v4 v5 v6 v7 v8 v9 v10 v11 v12 v13=wF) (hB:B≤w.heap.size) (hpb:pb<w.heap.size) (hrb:w.heap.size≤rb) (hm:PMem B pb w W) (hp:PAt B W pb ts fin) :
  PMem B pb w wF∧PAt B wF pb ts fin:=by
 subst hwF
 exact ⟨⟨set14_low hm.low (by omega) _ _ _ _ _ _ _ _ _ _ _ _ _ _,by rw [set14_size];exact hm.keep.1,fun i hi hne=>by rw [set14_heap _ _ _ _ _ _ _ _ _ _ _ _ _ _ (by omega)];exact hm.keep.2 i hi hne⟩,hp.keep (set14_low (Below.refl _ _) (by omega) _ _ _ _ _ _ _ _ _ _ _ _ _ _) (set14_heap _ _ _ _ _ _ _ _ _ _ _ _ _ _ (by omega))⟩
def queryR:World→QryD→Value→Prop:=fun _ q v=>v=.agg (askC q)
set_option maxRecDepth 100000 in
set_option maxHeartbeats 8000000 in
theorem askW1_any (B pb:Nat) (hB:B≤pb) (t:TokD) (r:List TokD) (fin:Nat) (w:World) (hBw:B≤w.heap.size) (hk:t.kind=1) (hwn:wordN t.text=1) (h:PAt B w pb (t :: r) fin) :
  Calls Tryz.prog 62 #[.pointer (some ⟨pb,0,none⟩)] w (PRes B pb fin queryR (askR fin 1 r) w):=by
 obtain ⟨RES,hRES⟩:∃z,askR fin 1 r=z:=⟨_,rfl⟩
 rw [hRES]
 have HRES:=Lib.hid hRES
 clear hRES
 have hnm:=wordN_name (show wordN t.text≠0 by omega)
 have hmm:=@run_makeMap Tryz.prog
 have en:=eq_nn
 have ef:=eq_fn
 have hpb:pb<w.heap.size:=by obtain ⟨_,h1,_⟩:=h;exact lt_of_block h1
 have b3:=(((Below.refl w.heap.size w).alloc (Nat.le_refl _) (.cells #[.pointer (some ⟨pb,0,none⟩)] 78)).alloc (by simp) (.cells #[.int .i64 0,.int .i64 0,.int .i64 0,.string ⟨#[]⟩,.string ⟨#[]⟩,.int .i64 0,.slice none 0 0,.string ⟨#[]⟩,.int .i64 0,.int .i64 0,.int .i64 0,.string ⟨#[]⟩,.string ⟨#[]⟩,.int .i64 0] 28)).alloc (by simp;omega) (.cells #[.int .i64 0,.int .i64 0,.int .i64 0,.string ⟨#[]⟩,.string ⟨#[]⟩,.int .i64 0,.slice none 0 0,.string ⟨#[]⟩,.int .i64 0,.int .i64 0,.int .i64 0,.string ⟨#[]⟩,.string ⟨#[]⟩,.int .i64 0] 28)
 have x3:=row_past (o':=.cells #[.int .i64 0,.int .i64 0,.int .i64 0,.string ⟨#[]⟩,.string ⟨#[]⟩,.int .i64 0,.slice none 0 0,.string ⟨#[]⟩,.int .i64 0,.int .i64 0,.int .i64 0,.string ⟨#[]⟩,.string ⟨#[]⟩,.int .i64 0] 28) (row_past (o':=.cells #[.int .i64 0,.int .i64 0,.int .i64 0,.string ⟨#[]⟩,.string ⟨#[]⟩,.int .i64 0,.slice none 0 0,.string ⟨#[]⟩,.int .i64 0,.int .i64 0,.int .i64 0,.string ⟨#[]⟩,.string ⟨#[]⟩,.int .i64 0] 28) (row_new w (.cells #[.pointer (some ⟨pb,0,none⟩)] 78)))
 have y3:=row_past (o':=.cells #[.int .i64 0,.int .i64 0,.int .i64 0,.string ⟨#[]⟩,.string ⟨#[]⟩,.int .i64 0,.slice none 0 0,.string ⟨#[]⟩,.int .i64 0,.int .i64 0,.int .i64 0,.string ⟨#[]⟩,.string ⟨#[]⟩,.int .i64 0] 28) (row_new (w.alloc (.cells #[.pointer (some ⟨pb,0,none⟩)] 78)) (.cells #[.int .i64 0,.int .i64 0,.int .i64 0,.string ⟨#[]⟩,.string ⟨#[]⟩,.int .i64 0,.slice none 0 0,.string ⟨#[]⟩,.int .i64 0,.int .i64 0,.int .i64 0,.string ⟨#[]⟩,.string ⟨#[]⟩,.int .i64 0] 28))
 have z3:=row_new ((w.alloc (.cells #[.pointer (some ⟨pb,0,none⟩)] 78)).alloc (.cells #[.int .i64 0,.int .i64 0,.int .i64 0,.string ⟨#[]⟩,.string ⟨#[]⟩,.int .i64 0,.slice none 0 0,.string ⟨#[]⟩,.int .i64 0,.int .i64 0,.int .i64 0,.string ⟨#[]⟩,.string ⟨#[]⟩,.int .i64 0] 28)) (.cells #[.int .i64 0,.int .i64 0,.int .i64 0,.string ⟨#[]⟩,.string ⟨#[]⟩,.int .i64 0,.slice none 0 0,.string ⟨#[]⟩,.int .i64 0,.int .i64 0,.int .i64 0,.string ⟨#[]⟩,.string ⟨#[]⟩,.int .i64 0] 28)
 obtain ⟨w1,w2,w3,w4,w5,w6,r1,r2,r3,r4,r5,r6,hM,hb6,hlt6⟩:=parts_made (((w.alloc (.cells #[.pointer (some ⟨pb,0,none⟩)] 78)).alloc (.cells #[.int .i64 0,.int .i64 0,.int .i64 0,.string ⟨#[]⟩,.string ⟨#[]⟩,.int .i64 0,.slice none 0 0,.string ⟨#[]⟩,.int .i64 0,.int .i64 0,.int .i64 0,.string ⟨#[]⟩,.string ⟨#[]⟩,.int .i64 0] 28)).alloc (.cells #[.int .i64 0,.int .i64 0,.int .i64 0,.string ⟨#[]⟩,.string ⟨#[]⟩,.int .i64 0,.slice none 0 0,.string ⟨#[]⟩,.int .i64 0,.int .i64 0,.int .i64 0,.string ⟨#[]⟩,.string ⟨#[]⟩,.int .i64 0] 28)) w.heap.size (w.heap.size+1+1)
 simp only [World.size_alloc] at y3 z3 r1 r2 r3 r4 r5 r6 hM hlt6
 simp only [askF] at r1 r2 r3 r4 r5 r6
 have HX:=Lib.hid (row_later hb6 x3)
 have HY:=Lib.hid (row_later hb6 y3)
 have HZ:=Lib.hid (row_later hb6 z3)
 have b6:=below_step b3 (Nat.le_refl _) hb6
 have HM6:=Lib.hid (PMem.of_low (pb:=pb) hBw b6)
 have HP6:=Lib.hid (h.low b6)
 have HMP:=Lib.hid hM
 have hs6:=b6.size
 clear b3 x3 y3 z3 hM hb6 h b6
 go_enter Tryz.func62,Tryz.ntmps62
 obtain ⟨xz,x0⟩:=rk1 HX.out
 obtain ⟨tv,hq1,hq2,hq3⟩:=HP6.out
 have HQ1:=Lib.hid hq1
 obtain ⟨b,off,cap,rfl,hc1,hc2,c0,c1,c2⟩:=hq2.open
 have hts:=(hq3.2.1 t (List.mem_cons_self ..)).1
 have dl:((r.length:Int)+1==0)=false:=by rw [beq_eq_false_iff_ne];omega
 clear hq1 hq2 hq3 hc1 hc2
 have k1:(t.kind != 1)=false:=by rw [hk];rfl
 have k2:(t.kind==1)=true:=by rw [hk];rfl
 have L6:=HMP.out.look t.text (by omega)
 have PN:=Lib.hid (pname_any B pb hB (t :: r) fin w6 (by omega) HP6.out)
 rw [show nameP fin (t :: r)=.ok t.text r by rw [nameP,nextP,if_pos hk,hnm,if_pos rfl]] at PN
 clear hk hnm
 rw [hwn] at L6
 simp only [askF] at L6
 cases RES with
 |bad er off2 =>
  obtain ⟨pz,p0,p1⟩:=rk2 HQ1.out
  go_wp2_with fail
  refine PN.out.mono ?_
  rintro e w7 ⟨hm7,v7,rfl,rfl,hp7⟩
  have HX7:=Lib.hid (hm7.keep.row HX.out (by omega))
  have HY7:=Lib.hid (hm7.keep.row HY.out (by omega))
  have HZ7:=Lib.hid (hm7.keep.row HZ.out (by omega))
  have HM7:=Lib.hid (HM6.out.trans hm7)
  have HP7:=Lib.hid hp7
  have hs7:=hm7.keep.1
  have L7:=PMap.look (MapAt.later HMP.out (hm7.keep.2 _ hlt6 (by omega))) t.text (by omega)
  rw [hwn] at L7
  simp only [askF] at L7
  clear hm7 hp7
  have CL:=Lib.hid (ask1_any B pb hB fin w.heap.size (w.heap.size+1+1) w w7 hBw hpb (by omega) (by omega) (by omega) r HM7.out HP7.out HX7.out HZ7.out)
  go_wp2_with fail
  rw [HRES.out] at CL
  go_wp2_with fail
  refine CL.out.mono ?_
  rintro e w8 ⟨hm8,-,rfl⟩
  exact ⟨rfl,hm8,rfl⟩
 |ok q rest =>
  obtain ⟨pz,p0,p1⟩:=rk2 HQ1.out
  go_wp2_with fail
  refine PN.out.mono ?_
  rintro e w7 ⟨hm7,v7,rfl,rfl,hp7⟩
  have HX7:=Lib.hid (hm7.keep.row HX.out (by omega))
  have HY7:=Lib.hid (hm7.keep.row HY.out (by omega))
  have HZ7:=Lib.hid (hm7.keep.row HZ.out (by omega))
  have HM7:=Lib.hid (HM6.out.trans hm7)
  have HP7:=Lib.hid hp7
  have hs7:=hm7.keep.1
  have L7:=PMap.look (MapAt.later HMP.out (hm7.keep.2 _ hlt6 (by omega))) t.text (by omega)
  rw [hwn] at L7
  simp only [askF] at L7
  clear hm7 hp7
  have CL:=Lib.hid (ask1_any B pb hB fin w.heap.size (w.heap.size+1+1) w w7 hBw hpb (by omega) (by omega) (by omega) r HM7.out HP7.out HX7.out HZ7.out)
  go_wp2_with fail
  rw [HRES.out] at CL
  go_wp2_with fail
  refine CL.out.mono ?_
  rintro e w8 ⟨hm8,hk8,rfl,hq8,hp8⟩
  have HQ8:=Lib.hid hq8
  have HY8:=Lib.hid ((hk8.2 _ (lt_of_block HY7.out) (by omega) (by omega)).trans HY7.out)
  have HM8:=Lib.hid hm8
  have HP8:=Lib.hid hp8
  clear hm8 hq8 hp8
  have qz:=lt_of_block HQ8.out
  have q0:=cell_of_row w8 _ 0 _ _ _ HQ8.out
  have q1:=cell_of_row w8 _ 1 _ _ _ HQ8.out
  have q2:=cell_of_row w8 _ 2 _ _ _ HQ8.out
  have q3:=cell_of_row w8 _ 3 _ _ _ HQ8.out
  have q4:=cell_of_row w8 _ 4 _ _ _ HQ8.out
  have q5:=cell_of_row w8 _ 5 _ _ _ HQ8.out
  have q6:=cell_of_row w8 _ 6 _ _ _ HQ8.out
  have q7:=cell_of_row w8 _ 7 _ _ _ HQ8.out
  have q8:=cell_of_row w8 _ 8 _ _ _ HQ8.out
  have q9:=cell_of_row w8 _ 9 _ _ _ HQ8.out
  have q10:=cell_of_row w8 _ 10 _ _ _ HQ8.out
  have q11:=cell_of_row w8 _ 11 _ _ _ HQ8.out
  have q12:=cell_of_row w8 _ 12 _ _ _ HQ8.out
  have q13:=cell_of_row w8 _ 13 _ _ _ HQ8.out
  simp only [List.getElem?_toArray,List.getElem?_cons_zero,List.getElem?_cons_succ] at q0 q1 q2 q3 q4 q5 q6 q7 q8 q9 q10 q11 q12 q13
  have yz:=lt_of_block HY8.out
  have y0:=cell_of_row w8 _ 0 _ _ _ HY8.out
  have y1:=cell_of_row w8 _ 1 _ _ _ HY8.out
  have y2:=cell_of_row w8 _ 2 _ _ _ HY8.out
  have y3:=cell_of_row w8 _ 3 _ _ _ HY8.out
  have y4:=cell_of_row w8 _ 4 _ _ _ HY8.out
  have y5:=cell_of_row w8 _ 5 _ _ _ HY8.out
  have y6:=cell_of_row w8 _ 6 _ _ _ HY8.out
  have y7:=cell_of_row w8 _ 7 _ _ _ HY8.out
  have y8:=cell_of_row w8 _ 8 _ _ _ HY8.out
  have y9:=cell_of_row w8 _ 9 _ _ _ HY8.out
  have y10:=cell_of_row w8 _ 10 _ _ _ HY8.out
  have y11:=cell_of_row w8 _ 11 _ _ _ HY8.out
  have y12:=cell_of_row w8 _ 12 _ _ _ HY8.out
  have y13:=cell_of_row w8 _ 13 _ _ _ HY8.out
  have yf0:=frozen_of_row w8 _ 0 _ _ HY8.out
  have yf1:=frozen_of_row w8 _ 1 _ _ HY8.out
  have yf2:=frozen_of_row w8 _ 2 _ _ HY8.out
  have yf3:=frozen_of_row w8 _ 3 _ _ HY8.out
  have yf4:=frozen_of_row w8 _ 4 _ _ HY8.out
  have yf5:=frozen_of_row w8 _ 5 _ _ HY8.out
  have yf6:=frozen_of_row w8 _ 6 _ _ HY8.out
  have yf7:=frozen_of_row w8 _ 7 _ _ HY8.out
  have yf8:=frozen_of_row w8 _ 8 _ _ HY8.out
  have yf9:=frozen_of_row w8 _ 9 _ _ HY8.out
  have yf10:=frozen_of_row w8 _ 10 _ _ HY8.out
  have yf11:=frozen_of_row w8 _ 11 _ _ HY8.out
  have yf12:=frozen_of_row w8 _ 12 _ _ HY8.out
  have yf13:=frozen_of_row w8 _ 13 _ _ HY8.out
  simp only [List.getElem?_toArray,List.getElem?_cons_zero,List.getElem?_cons_succ] at y0 y1 y2 y3 y4 y5 y6 y7 y8 y9 y10 y11 y12 y13
  go_wp2
  generalize hwF:((((((((((((((w8).setCell ⟨w.heap.size+1,0,none⟩ (.int .i64 q.ask)).setCell ⟨w.heap.size+1,1,none⟩ (.int .i64 0)).setCell ⟨w.heap.size+1,2,none⟩ (.int .i64 0)).setCell ⟨w.heap.size+1,3,none⟩ (.string ⟨#[]⟩)).setCell ⟨w.heap.size+1,4,none⟩ (.string ⟨#[]⟩)).setCell ⟨w.heap.size+1,5,none⟩ (.int .i64 0)).setCell ⟨w.heap.size+1,6,none⟩ (.slice none 0 0)).setCell ⟨w.heap.size+1,7,none⟩ (.string q.id)).setCell ⟨w.heap.size+1,8,none⟩ (.int .i64 q.n)).setCell ⟨w.heap.size+1,9,none⟩ (.int .i64 q.x)).setCell ⟨w.heap.size+1,10,none⟩ (.int .i64 q.y)).setCell ⟨w.heap.size+1,11,none⟩ (.string q.key)).setCell ⟨w.heap.size+1,12,none⟩ (.string q.prof)).setCell ⟨w.heap.size+1,13,none⟩ (.int .i64 q.minute)=wF
  have HF:=Lib.hid (show wF.heap[w.heap.size+1]?=some (.cells #[.int .i64 q.ask,.int .i64 0,.int .i64 0,.string ⟨#[]⟩,.string ⟨#[]⟩,.int .i64 0,.slice none 0 0,.string q.id,.int .i64 q.n,.int .i64 q.x,.int .i64 q.y,.string q.key,.string q.prof,.int .i64 q.minute] 28 (0,0)) by rw [←hwF];exact set14_row HY8.out _ _ _ _ _ _ _ _ _ _ _ _ _ _)
  have sz:=lt_of_block HF.out
  have s0:=cell_of_row wF _ 0 _ _ _ HF.out
  have s1:=cell_of_row wF _ 1 _ _ _ HF.out
  have s2:=cell_of_row wF _ 2 _ _ _ HF.out
  have s3:=cell_of_row wF _ 3 _ _ _ HF.out
  have s4:=cell_of_row wF _ 4 _ _ _ HF.out
  have s5:=cell_of_row wF _ 5 _ _ _ HF.out
  have s6:=cell_of_row wF _ 6 _ _ _ HF.out
  have s7:=cell_of_row wF _ 7 _ _ _ HF.out
  have s8:=cell_of_row wF _ 8 _ _ _ HF.out
  have s9:=cell_of_row wF _ 9 _ _ _ HF.out
  have s10:=cell_of_row wF _ 10 _ _ _ HF.out
  have s11:=cell_of_row wF _ 11 _ _ _ HF.out
  have s12:=cell_of_row wF _ 12 _ _ _ HF.out
  have s13:=cell_of_row wF _ 13 _ _ _ HF.out
  simp only [List.getElem?_toArray,List.getElem?_cons_zero,List.getElem?_cons_succ] at s0 s1 s2 s3 s4 s5 s6 s7 s8 s9 s10 s11 s12 s13
  refine bodyPost_ret (v:=.agg #[.int .i64 q.ask,.int .i64 0,.int .i64 0,.string ⟨#[]⟩,.string ⟨#[]⟩,.int .i64 0,.slice none 0 0,.string q.id,.int .i64 q.n,.int .i64 q.x,.int .i64 q.y,.string q.key,.string q.prof,.int .i64 q.minute]) (by simp [results,Tryz.results62,go_sem,s0,s1,s2,s3,s4,s5,s6,s7,s8,s9,s10,s11,s12,s13]) rfl ?_
  have hres:=res14 hwF hBw hpb (by omega) HM8.out HP8.out
  exact ⟨hres.1,_,rfl,rfl,hres.2⟩
set_option maxRecDepth 100000 in
set_option maxHeartbeats 8000000 in
theorem askW2_any (B pb:Nat) (hB:B≤pb) (t:TokD) (r:List TokD) (fin:Nat) (w:World) (hBw:B≤w.heap.size) (hk:t.kind=1) (hwn:wordN t.text=2) (h:PAt B w pb (t :: r) fin) :
  Calls Tryz.prog 62 #[.pointer (some ⟨pb,0,none⟩)] w (PRes B pb fin queryR (askR fin 2 r) w):=by
 obtain ⟨RES,hRES⟩:∃z,askR fin 2 r=z:=⟨_,rfl⟩
 rw [hRES]
 have HRES:=Lib.hid hRES
 clear hRES
 have hnm:=wordN_name (show wordN t.text≠0 by omega)
 have hmm:=@run_makeMap Tryz.prog
 have en:=eq_nn
 have ef:=eq_fn
 have hpb:pb<w.heap.size:=by obtain ⟨_,h1,_⟩:=h;exact lt_of_block h1
 have b3:=(((Below.refl w.heap.size w).alloc (Nat.le_refl _) (.cells #[.pointer (some ⟨pb,0,none⟩)] 78)).alloc (by simp) (.cells #[.int .i64 0,.int .i64 0,.int .i64 0,.string ⟨#[]⟩,.string ⟨#[]⟩,.int .i64 0,.slice none 0 0,.string ⟨#[]⟩,.int .i64 0,.int .i64 0,.int .i64 0,.string ⟨#[]⟩,.string ⟨#[]⟩,.int .i64 0] 28)).alloc (by simp;omega) (.cells #[.int .i64 0,.int .i64 0,.int .i64 0,.string ⟨#[]⟩,.string ⟨#[]⟩,.int .i64 0,.slice none 0 0,.string ⟨#[]⟩,.int .i64 0,.int .i64 0,.int .i64 0,.string ⟨#[]⟩,.string ⟨#[]⟩,.int .i64 0] 28)
 have x3:=row_past (o':=.cells #[.int .i64 0,.int .i64 0,.int .i64 0,.string ⟨#[]⟩,.string ⟨#[]⟩,.int .i64 0,.slice none 0 0,.string ⟨#[]⟩,.int .i64 0,.int .i64 0,.int .i64 0,.string ⟨#[]⟩,.string ⟨#[]⟩,.int .i64 0] 28) (row_past (o':=.cells #[.int .i64 0,.int .i64 0,.int .i64 0,.string ⟨#[]⟩,.string ⟨#[]⟩,.int .i64 0,.slice none 0 0,.string ⟨#[]⟩,.int .i64 0,.int .i64 0,.int .i64 0,.string ⟨#[]⟩,.string ⟨#[]⟩,.int .i64 0] 28) (row_new w (.cells #[.pointer (some ⟨pb,0,none⟩)] 78)))
 have y3:=row_past (o':=.cells #[.int .i64 0,.int .i64 0,.int .i64 0,.string ⟨#[]⟩,.string ⟨#[]⟩,.int .i64 0,.slice none 0 0,.string ⟨#[]⟩,.int .i64 0,.int .i64 0,.int .i64 0,.string ⟨#[]⟩,.string ⟨#[]⟩,.int .i64 0] 28) (row_new (w.alloc (.cells #[.pointer (some ⟨pb,0,none⟩)] 78)) (.cells #[.int .i64 0,.int .i64 0,.int .i64 0,.string ⟨#[]⟩,.string ⟨#[]⟩,.int .i64 0,.slice none 0 0,.string ⟨#[]⟩,.int .i64 0,.int .i64 0,.int .i64 0,.string ⟨#[]⟩,.string ⟨#[]⟩,.int .i64 0] 28))
 have z3:=row_new ((w.alloc (.cells #[.pointer (some ⟨pb,0,none⟩)] 78)).alloc (.cells #[.int .i64 0,.int .i64 0,.int .i64 0,.string ⟨#[]⟩,.string ⟨#[]⟩,.int .i64 0,.slice none 0 0,.string ⟨#[]⟩,.int .i64 0,.int .i64 0,.int .i64 0,.string ⟨#[]⟩,.string ⟨#[]⟩,.int .i64 0] 28)) (.cells #[.int .i64 0,.int .i64 0,.int .i64 0,.string ⟨#[]⟩,.string ⟨#[]⟩,.int .i64 0,.slice none 0 0,.string ⟨#[]⟩,.int .i64 0,.int .i64 0,.int .i64 0,.string ⟨#[]⟩,.string ⟨#[]⟩,.int .i64 0] 28)
 obtain ⟨w1,w2,w3,w4,w5,w6,r1,r2,r3,r4,r5,r6,hM,hb6,hlt6⟩:=parts_made (((w.alloc (.cells #[.pointer (some ⟨pb,0,none⟩)] 78)).alloc (.cells #[.int .i64 0,.int .i64 0,.int .i64 0,.string ⟨#[]⟩,.string ⟨#[]⟩,.int .i64 0,.slice none 0 0,.string ⟨#[]⟩,.int .i64 0,.int .i64 0,.int .i64 0,.string ⟨#[]⟩,.string ⟨#[]⟩,.int .i64 0] 28)).alloc (.cells #[.int .i64 0,.int .i64 0,.int .i64 0,.string ⟨#[]⟩,.string ⟨#[]⟩,.int .i64 0,.slice none 0 0,.string ⟨#[]⟩,.int .i64 0,.int .i64 0,.int .i64 0,.string ⟨#[]⟩,.string ⟨#[]⟩,.int .i64 0] 28)) w.heap.size (w.heap.size+1+1)
 simp only [World.size_alloc] at y3 z3 r1 r2 r3 r4 r5 r6 hM hlt6
 simp only [askF] at r1 r2 r3 r4 r5 r6
 have HX:=Lib.hid (row_later hb6 x3)
 have HY:=Lib.hid (row_later hb6 y3)
 have HZ:=Lib.hid (row_later hb6 z3)
 have b6:=below_step b3 (Nat.le_refl _) hb6
 have HM6:=Lib.hid (PMem.of_low (pb:=pb) hBw b6)
 have HP6:=Lib.hid (h.low b6)
 have HMP:=Lib.hid hM
 have hs6:=b6.size
 clear b3 x3 y3 z3 hM hb6 h b6
 go_enter Tryz.func62,Tryz.ntmps62
 obtain ⟨xz,x0⟩:=rk1 HX.out
 obtain ⟨tv,hq1,hq2,hq3⟩:=HP6.out
 have HQ1:=Lib.hid hq1
 obtain ⟨b,off,cap,rfl,hc1,hc2,c0,c1,c2⟩:=hq2.open
 have hts:=(hq3.2.1 t (List.mem_cons_self ..)).1
 have dl:((r.length:Int)+1==0)=false:=by rw [beq_eq_false_iff_ne];omega
 clear hq1 hq2 hq3 hc1 hc2
 have k1:(t.kind != 1)=false:=by rw [hk];rfl
 have k2:(t.kind==1)=true:=by rw [hk];rfl
 have L6:=HMP.out.look t.text (by omega)
 have PN:=Lib.hid (pname_any B pb hB (t :: r) fin w6 (by omega) HP6.out)
 rw [show nameP fin (t :: r)=.ok t.text r by rw [nameP,nextP,if_pos hk,hnm,if_pos rfl]] at PN
 clear hk hnm
 rw [hwn] at L6
 simp only [askF] at L6
 cases RES with
 |bad er off2 =>
  obtain ⟨pz,p0,p1⟩:=rk2 HQ1.out
  go_wp2_with fail
  refine PN.out.mono ?_
  rintro e w7 ⟨hm7,v7,rfl,rfl,hp7⟩
  have HX7:=Lib.hid (hm7.keep.row HX.out (by omega))
  have HY7:=Lib.hid (hm7.keep.row HY.out (by omega))
  have HZ7:=Lib.hid (hm7.keep.row HZ.out (by omega))
  have HM7:=Lib.hid (HM6.out.trans hm7)
  have HP7:=Lib.hid hp7
  have hs7:=hm7.keep.1
  have L7:=PMap.look (MapAt.later HMP.out (hm7.keep.2 _ hlt6 (by omega))) t.text (by omega)
  rw [hwn] at L7
  simp only [askF] at L7
  clear hm7 hp7
  have CL:=Lib.hid (ask2_any B pb hB fin w.heap.size (w.heap.size+1+1) w w7 hBw hpb (by omega) (by omega) (by omega) r HM7.out HP7.out HX7.out HZ7.out)
  go_wp2_with fail
  rw [HRES.out] at CL
  go_wp2_with fail
  refine CL.out.mono ?_
  rintro e w8 ⟨hm8,-,rfl⟩
  exact ⟨rfl,hm8,rfl⟩
 |ok q rest =>
  obtain ⟨pz,p0,p1⟩:=rk2 HQ1.out
  go_wp2_with fail
  refine PN.out.mono ?_
  rintro e w7 ⟨hm7,v7,rfl,rfl,hp7⟩
  have HX7:=Lib.hid (hm7.keep.row HX.out (by omega))
  have HY7:=Lib.hid (hm7.keep.row HY.out (by omega))
  have HZ7:=Lib.hid (hm7.keep.row HZ.out (by omega))
  have HM7:=Lib.hid (HM6.out.trans hm7)
  have HP7:=Lib.hid hp7
  have hs7:=hm7.keep.1
  have L7:=PMap.look (MapAt.later HMP.out (hm7.keep.2 _ hlt6 (by omega))) t.text (by omega)
  rw [hwn] at L7
  simp only [askF] at L7
  clear hm7 hp7
  have CL:=Lib.hid (ask2_any B pb hB fin w.heap.size (w.heap.size+1+1) w w7 hBw hpb (by omega) (by omega) (by omega) r HM7.out HP7.out HX7.out HZ7.out)
  go_wp2_with fail
  rw [HRES.out] at CL
  go_wp2_with fail
  refine CL.out.mono ?_
  rintro e w8 ⟨hm8,hk8,rfl,hq8,hp8⟩
  have HQ8:=Lib.hid hq8
  have HY8:=Lib.hid ((hk8.2 _ (lt_of_block HY7.out) (by omega) (by omega)).trans HY7.out)
  have HM8:=Lib.hid hm8
  have HP8:=Lib.hid hp8
  clear hm8 hq8 hp8
  have qz:=lt_of_block HQ8.out
  have q0:=cell_of_row w8 _ 0 _ _ _ HQ8.out
  have q1:=cell_of_row w8 _ 1 _ _ _ HQ8.out
  have q2:=cell_of_row w8 _ 2 _ _ _ HQ8.out
  have q3:=cell_of_row w8 _ 3 _ _ _ HQ8.out
  have q4:=cell_of_row w8 _ 4 _ _ _ HQ8.out
  have q5:=cell_of_row w8 _ 5 _ _ _ HQ8.out
  have q6:=cell_of_row w8 _ 6 _ _ _ HQ8.out
  have q7:=cell_of_row w8 _ 7 _ _ _ HQ8.out
  have q8:=cell_of_row w8 _ 8 _ _ _ HQ8.out
  have q9:=cell_of_row w8 _ 9 _ _ _ HQ8.out
  have q10:=cell_of_row w8 _ 10 _ _ _ HQ8.out
  have q11:=cell_of_row w8 _ 11 _ _ _ HQ8.out
  have q12:=cell_of_row w8 _ 12 _ _ _ HQ8.out
  have q13:=cell_of_row w8 _ 13 _ _ _ HQ8.out
  simp only [List.getElem?_toArray,List.getElem?_cons_zero,List.getElem?_cons_succ] at q0 q1 q2 q3 q4 q5 q6 q7 q8 q9 q10 q11 q12 q13
  have yz:=lt_of_block HY8.out
  have y0:=cell_of_row w8 _ 0 _ _ _ HY8.out
  have y1:=cell_of_row w8 _ 1 _ _ _ HY8.out
  have y2:=cell_of_row w8 _ 2 _ _ _ HY8.out
  have y3:=cell_of_row w8 _ 3 _ _ _ HY8.out
  have y4:=cell_of_row w8 _ 4 _ _ _ HY8.out
  have y5:=cell_of_row w8 _ 5 _ _ _ HY8.out
  have y6:=cell_of_row w8 _ 6 _ _ _ HY8.out
  have y7:=cell_of_row w8 _ 7 _ _ _ HY8.out
  have y8:=cell_of_row w8 _ 8 _ _ _ HY8.out
  have y9:=cell_of_row w8 _ 9 _ _ _ HY8.out
  have y10:=cell_of_row w8 _ 10 _ _ _ HY8.out
  have y11:=cell_of_row w8 _ 11 _ _ _ HY8.out
  have y12:=cell_of_row w8 _ 12 _ _ _ HY8.out
  have y13:=cell_of_row w8 _ 13 _ _ _ HY8.out
  have yf0:=frozen_of_row w8 _ 0 _ _ HY8.out
  have yf1:=frozen_of_row w8 _ 1 _ _ HY8.out
  have yf2:=frozen_of_row w8 _ 2 _ _ HY8.out
  have yf3:=frozen_of_row w8 _ 3 _ _ HY8.out
  have yf4:=frozen_of_row w8 _ 4 _ _ HY8.out
  have yf5:=frozen_of_row w8 _ 5 _ _ HY8.out
  have yf6:=frozen_of_row w8 _ 6 _ _ HY8.out
  have yf7:=frozen_of_row w8 _ 7 _ _ HY8.out
  have yf8:=frozen_of_row w8 _ 8 _ _ HY8.out
  have yf9:=frozen_of_row w8 _ 9 _ _ HY8.out
  have yf10:=frozen_of_row w8 _ 10 _ _ HY8.out
  have yf11:=frozen_of_row w8 _ 11 _ _ HY8.out
  have yf12:=frozen_of_row w8 _ 12 _ _ HY8.out
  have yf13:=frozen_of_row w8 _ 13 _ _ HY8.out
  simp only [List.getElem?_toArray,List.getElem?_cons_zero,List.getElem?_cons_succ] at y0 y1 y2 y3 y4 y5 y6 y7 y8 y9 y10 y11 y12 y13
  go_wp2
  generalize hwF:((((((((((((((w8).setCell ⟨w.heap.size+1,0,none⟩ (.int .i64 q.ask)).setCell ⟨w.heap.size+1,1,none⟩ (.int .i64 0)).setCell ⟨w.heap.size+1,2,none⟩ (.int .i64 0)).setCell ⟨w.heap.size+1,3,none⟩ (.string ⟨#[]⟩)).setCell ⟨w.heap.size+1,4,none⟩ (.string ⟨#[]⟩)).setCell ⟨w.heap.size+1,5,none⟩ (.int .i64 0)).setCell ⟨w.heap.size+1,6,none⟩ (.slice none 0 0)).setCell ⟨w.heap.size+1,7,none⟩ (.string q.id)).setCell ⟨w.heap.size+1,8,none⟩ (.int .i64 q.n)).setCell ⟨w.heap.size+1,9,none⟩ (.int .i64 q.x)).setCell ⟨w.heap.size+1,10,none⟩ (.int .i64 q.y)).setCell ⟨w.heap.size+1,11,none⟩ (.string q.key)).setCell ⟨w.heap.size+1,12,none⟩ (.string q.prof)).setCell ⟨w.heap.size+1,13,none⟩ (.int .i64 q.minute)=wF
  have HF:=Lib.hid (show wF.heap[w.heap.size+1]?=some (.cells #[.int .i64 q.ask,.int .i64 0,.int .i64 0,.string ⟨#[]⟩,.string ⟨#[]⟩,.int .i64 0,.slice none 0 0,.string q.id,.int .i64 q.n,.int .i64 q.x,.int .i64 q.y,.string q.key,.string q.prof,.int .i64 q.minute] 28 (0,0)) by rw [←hwF];exact set14_row HY8.out _ _ _ _ _ _ _ _ _ _ _ _ _ _)
  have sz:=lt_of_block HF.out
  have s0:=cell_of_row wF _ 0 _ _ _ HF.out
  have s1:=cell_of_row wF _ 1 _ _ _ HF.out
  have s2:=cell_of_row wF _ 2 _ _ _ HF.out
  have s3:=cell_of_row wF _ 3 _ _ _ HF.out
  have s4:=cell_of_row wF _ 4 _ _ _ HF.out
  have s5:=cell_of_row wF _ 5 _ _ _ HF.out
  have s6:=cell_of_row wF _ 6 _ _ _ HF.out
  have s7:=cell_of_row wF _ 7 _ _ _ HF.out
  have s8:=cell_of_row wF _ 8 _ _ _ HF.out
  have s9:=cell_of_row wF _ 9 _ _ _ HF.out
  have s10:=cell_of_row wF _ 10 _ _ _ HF.out
  have s11:=cell_of_row wF _ 11 _ _ _ HF.out
  have s12:=cell_of_row wF _ 12 _ _ _ HF.out
  have s13:=cell_of_row wF _ 13 _ _ _ HF.out
  simp only [List.getElem?_toArray,List.getElem?_cons_zero,List.getElem?_cons_succ] at s0 s1 s2 s3 s4 s5 s6 s7 s8 s9 s10 s11 s12 s13
  refine bodyPost_ret (v:=.agg #[.int .i64 q.ask,.int .i64 0,.int .i64 0,.string ⟨#[]⟩,.string ⟨#[]⟩,.int .i64 0,.slice none 0 0,.string q.id,.int .i64 q.n,.int .i64 q.x,.int .i64 q.y,.string q.key,.string q.prof,.int .i64 q.minute]) (by simp [results,Tryz.results62,go_sem,s0,s1,s2,s3,s4,s5,s6,s7,s8,s9,s10,s11,s12,s13]) rfl ?_
  have hres:=res14 hwF hBw hpb (by omega) HM8.out HP8.out
  exact ⟨hres.1,_,rfl,rfl,hres.2⟩
set_option maxRecDepth 100000 in
set_option maxHeartbeats 8000000 in
theorem askW3_any (B pb:Nat) (hB:B≤pb) (t:TokD) (r:List TokD) (fin:Nat) (w:World) (hBw:B≤w.heap.size) (hk:t.kind=1) (hwn:wordN t.text=3) (h:PAt B w pb (t :: r) fin) :
  Calls Tryz.prog 62 #[.pointer (some ⟨pb,0,none⟩)] w (PRes B pb fin queryR (askR fin 3 r) w):=by
 obtain ⟨RES,hRES⟩:∃z,askR fin 3 r=z:=⟨_,rfl⟩
 rw [hRES]
 have HRES:=Lib.hid hRES
 clear hRES
 have hnm:=wordN_name (show wordN t.text≠0 by omega)
 have hmm:=@run_makeMap Tryz.prog
 have en:=eq_nn
 have ef:=eq_fn
 have hpb:pb<w.heap.size:=by obtain ⟨_,h1,_⟩:=h;exact lt_of_block h1
 have b3:=(((Below.refl w.heap.size w).alloc (Nat.le_refl _) (.cells #[.pointer (some ⟨pb,0,none⟩)] 78)).alloc (by simp) (.cells #[.int .i64 0,.int .i64 0,.int .i64 0,.string ⟨#[]⟩,.string ⟨#[]⟩,.int .i64 0,.slice none 0 0,.string ⟨#[]⟩,.int .i64 0,.int .i64 0,.int .i64 0,.string ⟨#[]⟩,.string ⟨#[]⟩,.int .i64 0] 28)).alloc (by simp;omega) (.cells #[.int .i64 0,.int .i64 0,.int .i64 0,.string ⟨#[]⟩,.string ⟨#[]⟩,.int .i64 0,.slice none 0 0,.string ⟨#[]⟩,.int .i64 0,.int .i64 0,.int .i64 0,.string ⟨#[]⟩,.string ⟨#[]⟩,.int .i64 0] 28)
 have x3:=row_past (o':=.cells #[.int .i64 0,.int .i64 0,.int .i64 0,.string ⟨#[]⟩,.string ⟨#[]⟩,.int .i64 0,.slice none 0 0,.string ⟨#[]⟩,.int .i64 0,.int .i64 0,.int .i64 0,.string ⟨#[]⟩,.string ⟨#[]⟩,.int .i64 0] 28) (row_past (o':=.cells #[.int .i64 0,.int .i64 0,.int .i64 0,.string ⟨#[]⟩,.string ⟨#[]⟩,.int .i64 0,.slice none 0 0,.string ⟨#[]⟩,.int .i64 0,.int .i64 0,.int .i64 0,.string ⟨#[]⟩,.string ⟨#[]⟩,.int .i64 0] 28) (row_new w (.cells #[.pointer (some ⟨pb,0,none⟩)] 78)))
 have y3:=row_past (o':=.cells #[.int .i64 0,.int .i64 0,.int .i64 0,.string ⟨#[]⟩,.string ⟨#[]⟩,.int .i64 0,.slice none 0 0,.string ⟨#[]⟩,.int .i64 0,.int .i64 0,.int .i64 0,.string ⟨#[]⟩,.string ⟨#[]⟩,.int .i64 0] 28) (row_new (w.alloc (.cells #[.pointer (some ⟨pb,0,none⟩)] 78)) (.cells #[.int .i64 0,.int .i64 0,.int .i64 0,.string ⟨#[]⟩,.string ⟨#[]⟩,.int .i64 0,.slice none 0 0,.string ⟨#[]⟩,.int .i64 0,.int .i64 0,.int .i64 0,.string ⟨#[]⟩,.string ⟨#[]⟩,.int .i64 0] 28))
 have z3:=row_new ((w.alloc (.cells #[.pointer (some ⟨pb,0,none⟩)] 78)).alloc (.cells #[.int .i64 0,.int .i64 0,.int .i64 0,.string ⟨#[]⟩,.string ⟨#[]⟩,.int .i64 0,.slice none 0 0,.string ⟨#[]⟩,.int .i64 0,.int .i64 0,.int .i64 0,.string ⟨#[]⟩,.string ⟨#[]⟩,.int .i64 0] 28)) (.cells #[.int .i64 0,.int .i64 0,.int .i64 0,.string ⟨#[]⟩,.string ⟨#[]⟩,.int .i64 0,.slice none 0 0,.string ⟨#[]⟩,.int .i64 0,.int .i64 0,.int .i64 0,.string ⟨#[]⟩,.string ⟨#[]⟩,.int .i64 0] 28)
 obtain ⟨w1,w2,w3,w4,w5,w6,r1,r2,r3,r4,r5,r6,hM,hb6,hlt6⟩:=parts_made (((w.alloc (.cells #[.pointer (some ⟨pb,0,none⟩)] 78)).alloc (.cells #[.int .i64 0,.int .i64 0,.int .i64 0,.string ⟨#[]⟩,.string ⟨#[]⟩,.int .i64 0,.slice none 0 0,.string ⟨#[]⟩,.int .i64 0,.int .i64 0,.int .i64 0,.string ⟨#[]⟩,.string ⟨#[]⟩,.int .i64 0] 28)).alloc (.cells #[.int .i64 0,.int .i64 0,.int .i64 0,.string ⟨#[]⟩,.string ⟨#[]⟩,.int .i64 0,.slice none 0 0,.string ⟨#[]⟩,.int .i64 0,.int .i64 0,.int .i64 0,.string ⟨#[]⟩,.string ⟨#[]⟩,.int .i64 0] 28)) w.heap.size (w.heap.size+1+1)
 simp only [World.size_alloc] at y3 z3 r1 r2 r3 r4 r5 r6 hM hlt6
 simp only [askF] at r1 r2 r3 r4 r5 r6
 have HX:=Lib.hid (row_later hb6 x3)
 have HY:=Lib.hid (row_later hb6 y3)
 have HZ:=Lib.hid (row_later hb6 z3)
 have b6:=below_step b3 (Nat.le_refl _) hb6
 have HM6:=Lib.hid (PMem.of_low (pb:=pb) hBw b6)
 have HP6:=Lib.hid (h.low b6)
 have HMP:=Lib.hid hM
 have hs6:=b6.size
 clear b3 x3 y3 z3 hM hb6 h b6
 go_enter Tryz.func62,Tryz.ntmps62
 obtain ⟨xz,x0⟩:=rk1 HX.out
 obtain ⟨tv,hq1,hq2,hq3⟩:=HP6.out
 have HQ1:=Lib.hid hq1
 obtain ⟨b,off,cap,rfl,hc1,hc2,c0,c1,c2⟩:=hq2.open
 have hts:=(hq3.2.1 t (List.mem_cons_self ..)).1
 have dl:((r.length:Int)+1==0)=false:=by rw [beq_eq_false_iff_ne];omega
 clear hq1 hq2 hq3 hc1 hc2
 have k1:(t.kind != 1)=false:=by rw [hk];rfl
 have k2:(t.kind==1)=true:=by rw [hk];rfl
 have L6:=HMP.out.look t.text (by omega)
 have PN:=Lib.hid (pname_any B pb hB (t :: r) fin w6 (by omega) HP6.out)
 rw [show nameP fin (t :: r)=.ok t.text r by rw [nameP,nextP,if_pos hk,hnm,if_pos rfl]] at PN
 clear hk hnm
 rw [hwn] at L6
 simp only [askF] at L6
 cases RES with
 |bad er off2 =>
  obtain ⟨pz,p0,p1⟩:=rk2 HQ1.out
  go_wp2_with fail
  refine PN.out.mono ?_
  rintro e w7 ⟨hm7,v7,rfl,rfl,hp7⟩
  have HX7:=Lib.hid (hm7.keep.row HX.out (by omega))
  have HY7:=Lib.hid (hm7.keep.row HY.out (by omega))
  have HZ7:=Lib.hid (hm7.keep.row HZ.out (by omega))
  have HM7:=Lib.hid (HM6.out.trans hm7)
  have HP7:=Lib.hid hp7
  have hs7:=hm7.keep.1
  have L7:=PMap.look (MapAt.later HMP.out (hm7.keep.2 _ hlt6 (by omega))) t.text (by omega)
  rw [hwn] at L7
  simp only [askF] at L7
  clear hm7 hp7
  have CL:=Lib.hid (ask3_any B pb hB fin w.heap.size (w.heap.size+1+1) w w7 hBw hpb (by omega) (by omega) (by omega) r HM7.out HP7.out HX7.out HZ7.out)
  go_wp2_with fail
  rw [HRES.out] at CL
  go_wp2_with fail
  refine CL.out.mono ?_
  rintro e w8 ⟨hm8,-,rfl⟩
  exact ⟨rfl,hm8,rfl⟩
 |ok q rest =>
  obtain ⟨pz,p0,p1⟩:=rk2 HQ1.out
  go_wp2_with fail
  refine PN.out.mono ?_
  rintro e w7 ⟨hm7,v7,rfl,rfl,hp7⟩
  have HX7:=Lib.hid (hm7.keep.row HX.out (by omega))
  have HY7:=Lib.hid (hm7.keep.row HY.out (by omega))
  have HZ7:=Lib.hid (hm7.keep.row HZ.out (by omega))
  have HM7:=Lib.hid (HM6.out.trans hm7)
  have HP7:=Lib.hid hp7
  have hs7:=hm7.keep.1
  have L7:=PMap.look (MapAt.later HMP.out (hm7.keep.2 _ hlt6 (by omega))) t.text (by omega)
  rw [hwn] at L7
  simp only [askF] at L7
  clear hm7 hp7
  have CL:=Lib.hid (ask3_any B pb hB fin w.heap.size (w.heap.size+1+1) w w7 hBw hpb (by omega) (by omega) (by omega) r HM7.out HP7.out HX7.out HZ7.out)
  go_wp2_with fail
  rw [HRES.out] at CL
  go_wp2_with fail
  refine CL.out.mono ?_
  rintro e w8 ⟨hm8,hk8,rfl,hq8,hp8⟩
  have HQ8:=Lib.hid hq8
  have HY8:=Lib.hid ((hk8.2 _ (lt_of_block HY7.out) (by omega) (by omega)).trans HY7.out)
  have HM8:=Lib.hid hm8
  have HP8:=Lib.hid hp8
  clear hm8 hq8 hp8
  have qz:=lt_of_block HQ8.out
  have q0:=cell_of_row w8 _ 0 _ _ _ HQ8.out
  have q1:=cell_of_row w8 _ 1 _ _ _ HQ8.out
  have q2:=cell_of_row w8 _ 2 _ _ _ HQ8.out
  have q3:=cell_of_row w8 _ 3 _ _ _ HQ8.out
  have q4:=cell_of_row w8 _ 4 _ _ _ HQ8.out
  have q5:=cell_of_row w8 _ 5 _ _ _ HQ8.out
  have q6:=cell_of_row w8 _ 6 _ _ _ HQ8.out
  have q7:=cell_of_row w8 _ 7 _ _ _ HQ8.out
  have q8:=cell_of_row w8 _ 8 _ _ _ HQ8.out
  have q9:=cell_of_row w8 _ 9 _ _ _ HQ8.out
  have q10:=cell_of_row w8 _ 10 _ _ _ HQ8.out
  have q11:=cell_of_row w8 _ 11 _ _ _ HQ8.out
  have q12:=cell_of_row w8 _ 12 _ _ _ HQ8.out
  have q13:=cell_of_row w8 _ 13 _ _ _ HQ8.out
  simp only [List.getElem?_toArray,List.getElem?_cons_zero,List.getElem?_cons_succ] at q0 q1 q2 q3 q4 q5 q6 q7 q8 q9 q10 q11 q12 q13
  have yz:=lt_of_block HY8.out
  have y0:=cell_of_row w8 _ 0 _ _ _ HY8.out
  have y1:=cell_of_row w8 _ 1 _ _ _ HY8.out
  have y2:=cell_of_row w8 _ 2 _ _ _ HY8.out
  have y3:=cell_of_row w8 _ 3 _ _ _ HY8.out
  have y4:=cell_of_row w8 _ 4 _ _ _ HY8.out
  have y5:=cell_of_row w8 _ 5 _ _ _ HY8.out
  have y6:=cell_of_row w8 _ 6 _ _ _ HY8.out
  have y7:=cell_of_row w8 _ 7 _ _ _ HY8.out
  have y8:=cell_of_row w8 _ 8 _ _ _ HY8.out
  have y9:=cell_of_row w8 _ 9 _ _ _ HY8.out
  have y10:=cell_of_row w8 _ 10 _ _ _ HY8.out
  have y11:=cell_of_row w8 _ 11 _ _ _ HY8.out
  have y12:=cell_of_row w8 _ 12 _ _ _ HY8.out
  have y13:=cell_of_row w8 _ 13 _ _ _ HY8.out
  have yf0:=frozen_of_row w8 _ 0 _ _ HY8.out
  have yf1:=frozen_of_row w8 _ 1 _ _ HY8.out
  have yf2:=frozen_of_row w8 _ 2 _ _ HY8.out
  have yf3:=frozen_of_row w8 _ 3 _ _ HY8.out
  have yf4:=frozen_of_row w8 _ 4 _ _ HY8.out
  have yf5:=frozen_of_row w8 _ 5 _ _ HY8.out
  have yf6:=frozen_of_row w8 _ 6 _ _ HY8.out
  have yf7:=frozen_of_row w8 _ 7 _ _ HY8.out
  have yf8:=frozen_of_row w8 _ 8 _ _ HY8.out
  have yf9:=frozen_of_row w8 _ 9 _ _ HY8.out
  have yf10:=frozen_of_row w8 _ 10 _ _ HY8.out
  have yf11:=frozen_of_row w8 _ 11 _ _ HY8.out
  have yf12:=frozen_of_row w8 _ 12 _ _ HY8.out
  have yf13:=frozen_of_row w8 _ 13 _ _ HY8.out
  simp only [List.getElem?_toArray,List.getElem?_cons_zero,List.getElem?_cons_succ] at y0 y1 y2 y3 y4 y5 y6 y7 y8 y9 y10 y11 y12 y13
  go_wp2
  generalize hwF:((((((((((((((w8).setCell ⟨w.heap.size+1,0,none⟩ (.int .i64 q.ask)).setCell ⟨w.heap.size+1,1,none⟩ (.int .i64 0)).setCell ⟨w.heap.size+1,2,none⟩ (.int .i64 0)).setCell ⟨w.heap.size+1,3,none⟩ (.string ⟨#[]⟩)).setCell ⟨w.heap.size+1,4,none⟩ (.string ⟨#[]⟩)).setCell ⟨w.heap.size+1,5,none⟩ (.int .i64 0)).setCell ⟨w.heap.size+1,6,none⟩ (.slice none 0 0)).setCell ⟨w.heap.size+1,7,none⟩ (.string q.id)).setCell ⟨w.heap.size+1,8,none⟩ (.int .i64 q.n)).setCell ⟨w.heap.size+1,9,none⟩ (.int .i64 q.x)).setCell ⟨w.heap.size+1,10,none⟩ (.int .i64 q.y)).setCell ⟨w.heap.size+1,11,none⟩ (.string q.key)).setCell ⟨w.heap.size+1,12,none⟩ (.string q.prof)).setCell ⟨w.heap.size+1,13,none⟩ (.int .i64 q.minute)=wF
  have HF:=Lib.hid (show wF.heap[w.heap.size+1]?=some (.cells #[.int .i64 q.ask,.int .i64 0,.int .i64 0,.string ⟨#[]⟩,.string ⟨#[]⟩,.int .i64 0,.slice none 0 0,.string q.id,.int .i64 q.n,.int .i64 q.x,.int .i64 q.y,.string q.key,.string q.prof,.int .i64 q.minute] 28 (0,0)) by rw [←hwF];exact set14_row HY8.out _ _ _ _ _ _ _ _ _ _ _ _ _ _)
  have sz:=lt_of_block HF.out
  have s0:=cell_of_row wF _ 0 _ _ _ HF.out
  have s1:=cell_of_row wF _ 1 _ _ _ HF.out
  have s2:=cell_of_row wF _ 2 _ _ _ HF.out
  have s3:=cell_of_row wF _ 3 _ _ _ HF.out
  have s4:=cell_of_row wF _ 4 _ _ _ HF.out
  have s5:=cell_of_row wF _ 5 _ _ _ HF.out
  have s6:=cell_of_row wF _ 6 _ _ _ HF.out
  have s7:=cell_of_row wF _ 7 _ _ _ HF.out
  have s8:=cell_of_row wF _ 8 _ _ _ HF.out
  have s9:=cell_of_row wF _ 9 _ _ _ HF.out
  have s10:=cell_of_row wF _ 10 _ _ _ HF.out
  have s11:=cell_of_row wF _ 11 _ _ _ HF.out
  have s12:=cell_of_row wF _ 12 _ _ _ HF.out
  have s13:=cell_of_row wF _ 13 _ _ _ HF.out
  simp only [List.getElem?_toArray,List.getElem?_cons_zero,List.getElem?_cons_succ] at s0 s1 s2 s3 s4 s5 s6 s7 s8 s9 s10 s11 s12 s13
  refine bodyPost_ret (v:=.agg #[.int .i64 q.ask,.int .i64 0,.int .i64 0,.string ⟨#[]⟩,.string ⟨#[]⟩,.int .i64 0,.slice none 0 0,.string q.id,.int .i64 q.n,.int .i64 q.x,.int .i64 q.y,.string q.key,.string q.prof,.int .i64 q.minute]) (by simp [results,Tryz.results62,go_sem,s0,s1,s2,s3,s4,s5,s6,s7,s8,s9,s10,s11,s12,s13]) rfl ?_
  have hres:=res14 hwF hBw hpb (by omega) HM8.out HP8.out
  exact ⟨hres.1,_,rfl,rfl,hres.2⟩
set_option maxRecDepth 100000 in
set_option maxHeartbeats 8000000 in
theorem askW4_any (B pb:Nat) (hB:B≤pb) (t:TokD) (r:List TokD) (fin:Nat) (w:World) (hBw:B≤w.heap.size) (hk:t.kind=1) (hwn:wordN t.text=4) (h:PAt B w pb (t :: r) fin) :
  Calls Tryz.prog 62 #[.pointer (some ⟨pb,0,none⟩)] w (PRes B pb fin queryR (askR fin 4 r) w):=by
 obtain ⟨RES,hRES⟩:∃z,askR fin 4 r=z:=⟨_,rfl⟩
 rw [hRES]
 have HRES:=Lib.hid hRES
 clear hRES
 have hnm:=wordN_name (show wordN t.text≠0 by omega)
 have hmm:=@run_makeMap Tryz.prog
 have en:=eq_nn
 have ef:=eq_fn
 have hpb:pb<w.heap.size:=by obtain ⟨_,h1,_⟩:=h;exact lt_of_block h1
 have b3:=(((Below.refl w.heap.size w).alloc (Nat.le_refl _) (.cells #[.pointer (some ⟨pb,0,none⟩)] 78)).alloc (by simp) (.cells #[.int .i64 0,.int .i64 0,.int .i64 0,.string ⟨#[]⟩,.string ⟨#[]⟩,.int .i64 0,.slice none 0 0,.string ⟨#[]⟩,.int .i64 0,.int .i64 0,.int .i64 0,.string ⟨#[]⟩,.string ⟨#[]⟩,.int .i64 0] 28)).alloc (by simp;omega) (.cells #[.int .i64 0,.int .i64 0,.int .i64 0,.string ⟨#[]⟩,.string ⟨#[]⟩,.int .i64 0,.slice none 0 0,.string ⟨#[]⟩,.int .i64 0,.int .i64 0,.int .i64 0,.string ⟨#[]⟩,.string ⟨#[]⟩,.int .i64 0] 28)
 have x3:=row_past (o':=.cells #[.int .i64 0,.int .i64 0,.int .i64 0,.string ⟨#[]⟩,.string ⟨#[]⟩,.int .i64 0,.slice none 0 0,.string ⟨#[]⟩,.int .i64 0,.int .i64 0,.int .i64 0,.string ⟨#[]⟩,.string ⟨#[]⟩,.int .i64 0] 28) (row_past (o':=.cells #[.int .i64 0,.int .i64 0,.int .i64 0,.string ⟨#[]⟩,.string ⟨#[]⟩,.int .i64 0,.slice none 0 0,.string ⟨#[]⟩,.int .i64 0,.int .i64 0,.int .i64 0,.string ⟨#[]⟩,.string ⟨#[]⟩,.int .i64 0] 28) (row_new w (.cells #[.pointer (some ⟨pb,0,none⟩)] 78)))
 have y3:=row_past (o':=.cells #[.int .i64 0,.int .i64 0,.int .i64 0,.string ⟨#[]⟩,.string ⟨#[]⟩,.int .i64 0,.slice none 0 0,.string ⟨#[]⟩,.int .i64 0,.int .i64 0,.int .i64 0,.string ⟨#[]⟩,.string ⟨#[]⟩,.int .i64 0] 28) (row_new (w.alloc (.cells #[.pointer (some ⟨pb,0,none⟩)] 78)) (.cells #[.int .i64 0,.int .i64 0,.int .i64 0,.string ⟨#[]⟩,.string ⟨#[]⟩,.int .i64 0,.slice none 0 0,.string ⟨#[]⟩,.int .i64 0,.int .i64 0,.int .i64 0,.string ⟨#[]⟩,.string ⟨#[]⟩,.int .i64 0] 28))
 have z3:=row_new ((w.alloc (.cells #[.pointer (some ⟨pb,0,none⟩)] 78)).alloc (.cells #[.int .i64 0,.int .i64 0,.int .i64 0,.string ⟨#[]⟩,.string ⟨#[]⟩,.int .i64 0,.slice none 0 0,.string ⟨#[]⟩,.int .i64 0,.int .i64 0,.int .i64 0,.string ⟨#[]⟩,.string ⟨#[]⟩,.int .i64 0] 28)) (.cells #[.int .i64 0,.int .i64 0,.int .i64 0,.string ⟨#[]⟩,.string ⟨#[]⟩,.int .i64 0,.slice none 0 0,.string ⟨#[]⟩,.int .i64 0,.int .i64 0,.int .i64 0,.string ⟨#[]⟩,.string ⟨#[]⟩,.int .i64 0] 28)
 obtain ⟨w1,w2,w3,w4,w5,w6,r1,r2,r3,r4,r5,r6,hM,hb6,hlt6⟩:=parts_made (((w.alloc (.cells #[.pointer (some ⟨pb,0,none⟩)] 78)).alloc (.cells #[.int .i64 0,.int .i64 0,.int .i64 0,.string ⟨#[]⟩,.string ⟨#[]⟩,.int .i64 0,.slice none 0 0,.string ⟨#[]⟩,.int .i64 0,.int .i64 0,.int .i64 0,.string ⟨#[]⟩,.string ⟨#[]⟩,.int .i64 0] 28)).alloc (.cells #[.int .i64 0,.int .i64 0,.int .i64 0,.string ⟨#[]⟩,.string ⟨#[]⟩,.int .i64 0,.slice none 0 0,.string ⟨#[]⟩,.int .i64 0,.int .i64 0,.int .i64 0,.string ⟨#[]⟩,.string ⟨#[]⟩,.int .i64 0] 28)) w.heap.size (w.heap.size+1+1)
 simp only [World.size_alloc] at y3 z3 r1 r2 r3 r4 r5 r6 hM hlt6
 simp only [askF] at r1 r2 r3 r4 r5 r6
 have HX:=Lib.hid (row_later hb6 x3)
 have HY:=Lib.hid (row_later hb6 y3)
 have HZ:=Lib.hid (row_later hb6 z3)
 have b6:=below_step b3 (Nat.le_refl _) hb6
 have HM6:=Lib.hid (PMem.of_low (pb:=pb) hBw b6)
 have HP6:=Lib.hid (h.low b6)
 have HMP:=Lib.hid hM
 have hs6:=b6.size
 clear b3 x3 y3 z3 hM hb6 h b6
 go_enter Tryz.func62,Tryz.ntmps62
 obtain ⟨xz,x0⟩:=rk1 HX.out
 obtain ⟨tv,hq1,hq2,hq3⟩:=HP6.out
 have HQ1:=Lib.hid hq1
 obtain ⟨b,off,cap,rfl,hc1,hc2,c0,c1,c2⟩:=hq2.open
 have hts:=(hq3.2.1 t (List.mem_cons_self ..)).1
 have dl:((r.length:Int)+1==0)=false:=by rw [beq_eq_false_iff_ne];omega
 clear hq1 hq2 hq3 hc1 hc2
 have k1:(t.kind != 1)=false:=by rw [hk];rfl
 have k2:(t.kind==1)=true:=by rw [hk];rfl
 have L6:=HMP.out.look t.text (by omega)
 have PN:=Lib.hid (pname_any B pb hB (t :: r) fin w6 (by omega) HP6.out)
 rw [show nameP fin (t :: r)=.ok t.text r by rw [nameP,nextP,if_pos hk,hnm,if_pos rfl]] at PN
 clear hk hnm
 rw [hwn] at L6
 simp only [askF] at L6
 cases RES with
 |bad er off2 =>
  obtain ⟨pz,p0,p1⟩:=rk2 HQ1.out
  go_wp2_with fail
  refine PN.out.mono ?_
  rintro e w7 ⟨hm7,v7,rfl,rfl,hp7⟩
  have HX7:=Lib.hid (hm7.keep.row HX.out (by omega))
  have HY7:=Lib.hid (hm7.keep.row HY.out (by omega))
  have HZ7:=Lib.hid (hm7.keep.row HZ.out (by omega))
  have HM7:=Lib.hid (HM6.out.trans hm7)
  have HP7:=Lib.hid hp7
  have hs7:=hm7.keep.1
  have L7:=PMap.look (MapAt.later HMP.out (hm7.keep.2 _ hlt6 (by omega))) t.text (by omega)
  rw [hwn] at L7
  simp only [askF] at L7
  clear hm7 hp7
  have CL:=Lib.hid (ask4_any B pb hB fin w.heap.size (w.heap.size+1+1) w w7 hBw hpb (by omega) (by omega) (by omega) r HM7.out HP7.out HX7.out HZ7.out)
  go_wp2_with fail
  rw [HRES.out] at CL
  go_wp2_with fail
  refine CL.out.mono ?_
  rintro e w8 ⟨hm8,-,rfl⟩
  exact ⟨rfl,hm8,rfl⟩
 |ok q rest =>
  obtain ⟨pz,p0,p1⟩:=rk2 HQ1.out
  go_wp2_with fail
  refine PN.out.mono ?_
  rintro e w7 ⟨hm7,v7,rfl,rfl,hp7⟩
  have HX7:=Lib.hid (hm7.keep.row HX.out (by omega))
  have HY7:=Lib.hid (hm7.keep.row HY.out (by omega))
  have HZ7:=Lib.hid (hm7.keep.row HZ.out (by omega))
  have HM7:=Lib.hid (HM6.out.trans hm7)
  have HP7:=Lib.hid hp7
  have hs7:=hm7.keep.1
  have L7:=PMap.look (MapAt.later HMP.out (hm7.keep.2 _ hlt6 (by omega))) t.text (by omega)
  rw [hwn] at L7
  simp only [askF] at L7
  clear hm7 hp7
  have CL:=Lib.hid (ask4_any B pb hB fin w.heap.size (w.heap.size+1+1) w w7 hBw hpb (by omega) (by omega) (by omega) r HM7.out HP7.out HX7.out HZ7.out)
  go_wp2_with fail
  rw [HRES.out] at CL
  go_wp2_with fail
  refine CL.out.mono ?_
  rintro e w8 ⟨hm8,hk8,rfl,hq8,hp8⟩
  have HQ8:=Lib.hid hq8
  have HY8:=Lib.hid ((hk8.2 _ (lt_of_block HY7.out) (by omega) (by omega)).trans HY7.out)
  have HM8:=Lib.hid hm8
  have HP8:=Lib.hid hp8
  clear hm8 hq8 hp8
  have qz:=lt_of_block HQ8.out
  have q0:=cell_of_row w8 _ 0 _ _ _ HQ8.out
  have q1:=cell_of_row w8 _ 1 _ _ _ HQ8.out
  have q2:=cell_of_row w8 _ 2 _ _ _ HQ8.out
  have q3:=cell_of_row w8 _ 3 _ _ _ HQ8.out
  have q4:=cell_of_row w8 _ 4 _ _ _ HQ8.out
  have q5:=cell_of_row w8 _ 5 _ _ _ HQ8.out
  have q6:=cell_of_row w8 _ 6 _ _ _ HQ8.out
  have q7:=cell_of_row w8 _ 7 _ _ _ HQ8.out
  have q8:=cell_of_row w8 _ 8 _ _ _ HQ8.out
  have q9:=cell_of_row w8 _ 9 _ _ _ HQ8.out
  have q10:=cell_of_row w8 _ 10 _ _ _ HQ8.out
  have q11:=cell_of_row w8 _ 11 _ _ _ HQ8.out
  have q12:=cell_of_row w8 _ 12 _ _ _ HQ8.out
  have q13:=cell_of_row w8 _ 13 _ _ _ HQ8.out
  simp only [List.getElem?_toArray,List.getElem?_cons_zero,List.getElem?_cons_succ] at q0 q1 q2 q3 q4 q5 q6 q7 q8 q9 q10 q11 q12 q13
  have yz:=lt_of_block HY8.out
  have y0:=cell_of_row w8 _ 0 _ _ _ HY8.out
  have y1:=cell_of_row w8 _ 1 _ _ _ HY8.out
  have y2:=cell_of_row w8 _ 2 _ _ _ HY8.out
  have y3:=cell_of_row w8 _ 3 _ _ _ HY8.out
  have y4:=cell_of_row w8 _ 4 _ _ _ HY8.out
  have y5:=cell_of_row w8 _ 5 _ _ _ HY8.out
  have y6:=cell_of_row w8 _ 6 _ _ _ HY8.out
  have y7:=cell_of_row w8 _ 7 _ _ _ HY8.out
  have y8:=cell_of_row w8 _ 8 _ _ _ HY8.out
  have y9:=cell_of_row w8 _ 9 _ _ _ HY8.out
  have y10:=cell_of_row w8 _ 10 _ _ _ HY8.out
  have y11:=cell_of_row w8 _ 11 _ _ _ HY8.out
  have y12:=cell_of_row w8 _ 12 _ _ _ HY8.out
  have y13:=cell_of_row w8 _ 13 _ _ _ HY8.out
  have yf0:=frozen_of_row w8 _ 0 _ _ HY8.out
  have yf1:=frozen_of_row w8 _ 1 _ _ HY8.out
  have yf2:=frozen_of_row w8 _ 2 _ _ HY8.out
  have yf3:=frozen_of_row w8 _ 3 _ _ HY8.out
  have yf4:=frozen_of_row w8 _ 4 _ _ HY8.out
  have yf5:=frozen_of_row w8 _ 5 _ _ HY8.out
  have yf6:=frozen_of_row w8 _ 6 _ _ HY8.out
  have yf7:=frozen_of_row w8 _ 7 _ _ HY8.out
  have yf8:=frozen_of_row w8 _ 8 _ _ HY8.out
  have yf9:=frozen_of_row w8 _ 9 _ _ HY8.out
  have yf10:=frozen_of_row w8 _ 10 _ _ HY8.out
  have yf11:=frozen_of_row w8 _ 11 _ _ HY8.out
  have yf12:=frozen_of_row w8 _ 12 _ _ HY8.out
  have yf13:=frozen_of_row w8 _ 13 _ _ HY8.out
  simp only [List.getElem?_toArray,List.getElem?_cons_zero,List.getElem?_cons_succ] at y0 y1 y2 y3 y4 y5 y6 y7 y8 y9 y10 y11 y12 y13
  go_wp2
  generalize hwF:((((((((((((((w8).setCell ⟨w.heap.size+1,0,none⟩ (.int .i64 q.ask)).setCell ⟨w.heap.size+1,1,none⟩ (.int .i64 0)).setCell ⟨w.heap.size+1,2,none⟩ (.int .i64 0)).setCell ⟨w.heap.size+1,3,none⟩ (.string ⟨#[]⟩)).setCell ⟨w.heap.size+1,4,none⟩ (.string ⟨#[]⟩)).setCell ⟨w.heap.size+1,5,none⟩ (.int .i64 0)).setCell ⟨w.heap.size+1,6,none⟩ (.slice none 0 0)).setCell ⟨w.heap.size+1,7,none⟩ (.string q.id)).setCell ⟨w.heap.size+1,8,none⟩ (.int .i64 q.n)).setCell ⟨w.heap.size+1,9,none⟩ (.int .i64 q.x)).setCell ⟨w.heap.size+1,10,none⟩ (.int .i64 q.y)).setCell ⟨w.heap.size+1,11,none⟩ (.string q.key)).setCell ⟨w.heap.size+1,12,none⟩ (.string q.prof)).setCell ⟨w.heap.size+1,13,none⟩ (.int .i64 q.minute)=wF
  have HF:=Lib.hid (show wF.heap[w.heap.size+1]?=some (.cells #[.int .i64 q.ask,.int .i64 0,.int .i64 0,.string ⟨#[]⟩,.string ⟨#[]⟩,.int .i64 0,.slice none 0 0,.string q.id,.int .i64 q.n,.int .i64 q.x,.int .i64 q.y,.string q.key,.string q.prof,.int .i64 q.minute] 28 (0,0)) by rw [←hwF];exact set14_row HY8.out _ _ _ _ _ _ _ _ _ _ _ _ _ _)
  have sz:=lt_of_block HF.out
  have s0:=cell_of_row wF _ 0 _ _ _ HF.out
  have s1:=cell_of_row wF _ 1 _ _ _ HF.out
  have s2:=cell_of_row wF _ 2 _ _ _ HF.out
  have s3:=cell_of_row wF _ 3 _ _ _ HF.out
  have s4:=cell_of_row wF _ 4 _ _ _ HF.out
  have s5:=cell_of_row wF _ 5 _ _ _ HF.out
  have s6:=cell_of_row wF _ 6 _ _ _ HF.out
  have s7:=cell_of_row wF _ 7 _ _ _ HF.out
  have s8:=cell_of_row wF _ 8 _ _ _ HF.out
  have s9:=cell_of_row wF _ 9 _ _ _ HF.out
  have s10:=cell_of_row wF _ 10 _ _ _ HF.out
  have s11:=cell_of_row wF _ 11 _ _ _ HF.out
  have s12:=cell_of_row wF _ 12 _ _ _ HF.out
  have s13:=cell_of_row wF _ 13 _ _ _ HF.out
  simp only [List.getElem?_toArray,List.getElem?_cons_zero,List.getElem?_cons_succ] at s0 s1 s2 s3 s4 s5 s6 s7 s8 s9 s10 s11 s12 s13
  refine bodyPost_ret (v:=.agg #[.int .i64 q.ask,.int .i64 0,.int .i64 0,.string ⟨#[]⟩,.string ⟨#[]⟩,.int .i64 0,.slice none 0 0,.string q.id,.int .i64 q.n,.int .i64 q.x,.int .i64 q.y,.string q.key,.string q.prof,.int .i64 q.minute]) (by simp [results,Tryz.results62,go_sem,s0,s1,s2,s3,s4,s5,s6,s7,s8,s9,s10,s11,s12,s13]) rfl ?_
  have hres:=res14 hwF hBw hpb (by omega) HM8.out HP8.out
  exact ⟨hres.1,_,rfl,rfl,hres.2⟩
set_option maxRecDepth 100000 in
set_option maxHeartbeats 8000000 in
theorem askW5_any (B pb:Nat) (hB:B≤pb) (t:TokD) (r:List TokD) (fin:Nat) (w:World) (hBw:B≤w.heap.size) (hk:t.kind=1) (hwn:wordN t.text=5) (h:PAt B w pb (t :: r) fin) :
  Calls Tryz.prog 62 #[.pointer (some ⟨pb,0,none⟩)] w (PRes B pb fin queryR (askR fin 5 r) w):=by
 obtain ⟨RES,hRES⟩:∃z,askR fin 5 r=z:=⟨_,rfl⟩
 rw [hRES]
 have HRES:=Lib.hid hRES
 clear hRES
 have hnm:=wordN_name (show wordN t.text≠0 by omega)
 have hmm:=@run_makeMap Tryz.prog
 have en:=eq_nn
 have ef:=eq_fn
 have hpb:pb<w.heap.size:=by obtain ⟨_,h1,_⟩:=h;exact lt_of_block h1
 have b3:=(((Below.refl w.heap.size w).alloc (Nat.le_refl _) (.cells #[.pointer (some ⟨pb,0,none⟩)] 78)).alloc (by simp) (.cells #[.int .i64 0,.int .i64 0,.int .i64 0,.string ⟨#[]⟩,.string ⟨#[]⟩,.int .i64 0,.slice none 0 0,.string ⟨#[]⟩,.int .i64 0,.int .i64 0,.int .i64 0,.string ⟨#[]⟩,.string ⟨#[]⟩,.int .i64 0] 28)).alloc (by simp;omega) (.cells #[.int .i64 0,.int .i64 0,.int .i64 0,.string ⟨#[]⟩,.string ⟨#[]⟩,.int .i64 0,.slice none 0 0,.string ⟨#[]⟩,.int .i64 0,.int .i64 0,.int .i64 0,.string ⟨#[]⟩,.string ⟨#[]⟩,.int .i64 0] 28)
 have x3:=row_past (o':=.cells #[.int .i64 0,.int .i64 0,.int .i64 0,.string ⟨#[]⟩,.string ⟨#[]⟩,.int .i64 0,.slice none 0 0,.string ⟨#[]⟩,.int .i64 0,.int .i64 0,.int .i64 0,.string ⟨#[]⟩,.string ⟨#[]⟩,.int .i64 0] 28) (row_past (o':=.cells #[.int .i64 0,.int .i64 0,.int .i64 0,.string ⟨#[]⟩,.string ⟨#[]⟩,.int .i64 0,.slice none 0 0,.string ⟨#[]⟩,.int .i64 0,.int .i64 0,.int .i64 0,.string ⟨#[]⟩,.string ⟨#[]⟩,.int .i64 0] 28) (row_new w (.cells #[.pointer (some ⟨pb,0,none⟩)] 78)))
 have y3:=row_past (o':=.cells #[.int .i64 0,.int .i64 0,.int .i64 0,.string ⟨#[]⟩,.string ⟨#[]⟩,.int .i64 0,.slice none 0 0,.string ⟨#[]⟩,.int .i64 0,.int .i64 0,.int .i64 0,.string ⟨#[]⟩,.string ⟨#[]⟩,.int .i64 0] 28) (row_new (w.alloc (.cells #[.pointer (some ⟨pb,0,none⟩)] 78)) (.cells #[.int .i64 0,.int .i64 0,.int .i64 0,.string ⟨#[]⟩,.string ⟨#[]⟩,.int .i64 0,.slice none 0 0,.string ⟨#[]⟩,.int .i64 0,.int .i64 0,.int .i64 0,.string ⟨#[]⟩,.string ⟨#[]⟩,.int .i64 0] 28))
 have z3:=row_new ((w.alloc (.cells #[.pointer (some ⟨pb,0,none⟩)] 78)).alloc (.cells #[.int .i64 0,.int .i64 0,.int .i64 0,.string ⟨#[]⟩,.string ⟨#[]⟩,.int .i64 0,.slice none 0 0,.string ⟨#[]⟩,.int .i64 0,.int .i64 0,.int .i64 0,.string ⟨#[]⟩,.string ⟨#[]⟩,.int .i64 0] 28)) (.cells #[.int .i64 0,.int .i64 0,.int .i64 0,.string ⟨#[]⟩,.string ⟨#[]⟩,.int .i64 0,.slice none 0 0,.string ⟨#[]⟩,.int .i64 0,.int .i64 0,.int .i64 0,.string ⟨#[]⟩,.string ⟨#[]⟩,.int .i64 0] 28)
 obtain ⟨w1,w2,w3,w4,w5,w6,r1,r2,r3,r4,r5,r6,hM,hb6,hlt6⟩:=parts_made (((w.alloc (.cells #[.pointer (some ⟨pb,0,none⟩)] 78)).alloc (.cells #[.int .i64 0,.int .i64 0,.int .i64 0,.string ⟨#[]⟩,.string ⟨#[]⟩,.int .i64 0,.slice none 0 0,.string ⟨#[]⟩,.int .i64 0,.int .i64 0,.int .i64 0,.string ⟨#[]⟩,.string ⟨#[]⟩,.int .i64 0] 28)).alloc (.cells #[.int .i64 0,.int .i64 0,.int .i64 0,.string ⟨#[]⟩,.string ⟨#[]⟩,.int .i64 0,.slice none 0 0,.string ⟨#[]⟩,.int .i64 0,.int .i64 0,.int .i64 0,.string ⟨#[]⟩,.string ⟨#[]⟩,.int .i64 0] 28)) w.heap.size (w.heap.size+1+1)
 simp only [World.size_alloc] at y3 z3 r1 r2 r3 r4 r5 r6 hM hlt6
 simp only [askF] at r1 r2 r3 r4 r5 r6
 have HX:=Lib.hid (row_later hb6 x3)
 have HY:=Lib.hid (row_later hb6 y3)
 have HZ:=Lib.hid (row_later hb6 z3)
 have b6:=below_step b3 (Nat.le_refl _) hb6
 have HM6:=Lib.hid (PMem.of_low (pb:=pb) hBw b6)
 have HP6:=Lib.hid (h.low b6)
 have HMP:=Lib.hid hM
 have hs6:=b6.size
 clear b3 x3 y3 z3 hM hb6 h b6
 go_enter Tryz.func62,Tryz.ntmps62
 obtain ⟨xz,x0⟩:=rk1 HX.out
 obtain ⟨tv,hq1,hq2,hq3⟩:=HP6.out
 have HQ1:=Lib.hid hq1
 obtain ⟨b,off,cap,rfl,hc1,hc2,c0,c1,c2⟩:=hq2.open
 have hts:=(hq3.2.1 t (List.mem_cons_self ..)).1
 have dl:((r.length:Int)+1==0)=false:=by rw [beq_eq_false_iff_ne];omega
 clear hq1 hq2 hq3 hc1 hc2
 have k1:(t.kind != 1)=false:=by rw [hk];rfl
 have k2:(t.kind==1)=true:=by rw [hk];rfl
 have L6:=HMP.out.look t.text (by omega)
 have PN:=Lib.hid (pname_any B pb hB (t :: r) fin w6 (by omega) HP6.out)
 rw [show nameP fin (t :: r)=.ok t.text r by rw [nameP,nextP,if_pos hk,hnm,if_pos rfl]] at PN
 clear hk hnm
 rw [hwn] at L6
 simp only [askF] at L6
 cases RES with
 |bad er off2 =>
  obtain ⟨pz,p0,p1⟩:=rk2 HQ1.out
  go_wp2_with fail
  refine PN.out.mono ?_
  rintro e w7 ⟨hm7,v7,rfl,rfl,hp7⟩
  have HX7:=Lib.hid (hm7.keep.row HX.out (by omega))
  have HY7:=Lib.hid (hm7.keep.row HY.out (by omega))
  have HZ7:=Lib.hid (hm7.keep.row HZ.out (by omega))
  have HM7:=Lib.hid (HM6.out.trans hm7)
  have HP7:=Lib.hid hp7
  have hs7:=hm7.keep.1
  have L7:=PMap.look (MapAt.later HMP.out (hm7.keep.2 _ hlt6 (by omega))) t.text (by omega)
  rw [hwn] at L7
  simp only [askF] at L7
  clear hm7 hp7
  have CL:=Lib.hid (ask5_any B pb hB fin w.heap.size (w.heap.size+1+1) w w7 hBw hpb (by omega) (by omega) (by omega) r HM7.out HP7.out HX7.out HZ7.out)
  go_wp2_with fail
  rw [HRES.out] at CL
  go_wp2_with fail
  refine CL.out.mono ?_
  rintro e w8 ⟨hm8,-,rfl⟩
  exact ⟨rfl,hm8,rfl⟩
 |ok q rest =>
  obtain ⟨pz,p0,p1⟩:=rk2 HQ1.out
  go_wp2_with fail
  refine PN.out.mono ?_
  rintro e w7 ⟨hm7,v7,rfl,rfl,hp7⟩
  have HX7:=Lib.hid (hm7.keep.row HX.out (by omega))
  have HY7:=Lib.hid (hm7.keep.row HY.out (by omega))
  have HZ7:=Lib.hid (hm7.keep.row HZ.out (by omega))
  have HM7:=Lib.hid (HM6.out.trans hm7)
  have HP7:=Lib.hid hp7
  have hs7:=hm7.keep.1
  have L7:=PMap.look (MapAt.later HMP.out (hm7.keep.2 _ hlt6 (by omega))) t.text (by omega)
  rw [hwn] at L7
  simp only [askF] at L7
  clear hm7 hp7
  have CL:=Lib.hid (ask5_any B pb hB fin w.heap.size (w.heap.size+1+1) w w7 hBw hpb (by omega) (by omega) (by omega) r HM7.out HP7.out HX7.out HZ7.out)
  go_wp2_with fail
  rw [HRES.out] at CL
  go_wp2_with fail
  refine CL.out.mono ?_
  rintro e w8 ⟨hm8,hk8,rfl,hq8,hp8⟩
  have HQ8:=Lib.hid hq8
  have HY8:=Lib.hid ((hk8.2 _ (lt_of_block HY7.out) (by omega) (by omega)).trans HY7.out)
  have HM8:=Lib.hid hm8
  have HP8:=Lib.hid hp8
  clear hm8 hq8 hp8
  have qz:=lt_of_block HQ8.out
  have q0:=cell_of_row w8 _ 0 _ _ _ HQ8.out
  have q1:=cell_of_row w8 _ 1 _ _ _ HQ8.out
  have q2:=cell_of_row w8 _ 2 _ _ _ HQ8.out
  have q3:=cell_of_row w8 _ 3 _ _ _ HQ8.out
  have q4:=cell_of_row w8 _ 4 _ _ _ HQ8.out
  have q5:=cell_of_row w8 _ 5 _ _ _ HQ8.out
  have q6:=cell_of_row w8 _ 6 _ _ _ HQ8.out
  have q7:=cell_of_row w8 _ 7 _ _ _ HQ8.out
  have q8:=cell_of_row w8 _ 8 _ _ _ HQ8.out
  have q9:=cell_of_row w8 _ 9 _ _ _ HQ8.out
  have q10:=cell_of_row w8 _ 10 _ _ _ HQ8.out
  have q11:=cell_of_row w8 _ 11 _ _ _ HQ8.out
  have q12:=cell_of_row w8 _ 12 _ _ _ HQ8.out
  have q13:=cell_of_row w8 _ 13 _ _ _ HQ8.out
  simp only [List.getElem?_toArray,List.getElem?_cons_zero,List.getElem?_cons_succ] at q0 q1 q2 q3 q4 q5 q6 q7 q8 q9 q10 q11 q12 q13
  have yz:=lt_of_block HY8.out
  have y0:=cell_of_row w8 _ 0 _ _ _ HY8.out
  have y1:=cell_of_row w8 _ 1 _ _ _ HY8.out
  have y2:=cell_of_row w8 _ 2 _ _ _ HY8.out
  have y3:=cell_of_row w8 _ 3 _ _ _ HY8.out
  have y4:=cell_of_row w8 _ 4 _ _ _ HY8.out
  have y5:=cell_of_row w8 _ 5 _ _ _ HY8.out
  have y6:=cell_of_row w8 _ 6 _ _ _ HY8.out
  have y7:=cell_of_row w8 _ 7 _ _ _ HY8.out
  have y8:=cell_of_row w8 _ 8 _ _ _ HY8.out
  have y9:=cell_of_row w8 _ 9 _ _ _ HY8.out
  have y10:=cell_of_row w8 _ 10 _ _ _ HY8.out
  have y11:=cell_of_row w8 _ 11 _ _ _ HY8.out
  have y12:=cell_of_row w8 _ 12 _ _ _ HY8.out
  have y13:=cell_of_row w8 _ 13 _ _ _ HY8.out
  have yf0:=frozen_of_row w8 _ 0 _ _ HY8.out
  have yf1:=frozen_of_row w8 _ 1 _ _ HY8.out
  have yf2:=frozen_of_row w8 _ 2 _ _ HY8.out
  have yf3:=frozen_of_row w8 _ 3 _ _ HY8.out
  have yf4:=frozen_of_row w8 _ 4 _ _ HY8.out
  have yf5:=frozen_of_row w8 _ 5 _ _ HY8.out
  have yf6:=frozen_of_row w8 _ 6 _ _ HY8.out
  have yf7:=frozen_of_row w8 _ 7 _ _ HY8.out
  have yf8:=frozen_of_row w8 _ 8 _ _ HY8.out
  have yf9:=frozen_of_row w8 _ 9 _ _ HY8.out
  have yf10:=frozen_of_row w8 _ 10 _ _ HY8.out
  have yf11:=frozen_of_row w8 _ 11 _ _ HY8.out
  have yf12:=frozen_of_row w8 _ 12 _ _ HY8.out
  have yf13:=frozen_of_row w8 _ 13 _ _ HY8.out
  simp only [List.getElem?_toArray,List.getElem?_cons_zero,List.getElem?_cons_succ] at y0 y1 y2 y3 y4 y5 y6 y7 y8 y9 y10 y11 y12 y13
  go_wp2
  generalize hwF:((((((((((((((w8).setCell ⟨w.heap.size+1,0,none⟩ (.int .i64 q.ask)).setCell ⟨w.heap.size+1,1,none⟩ (.int .i64 0)).setCell ⟨w.heap.size+1,2,none⟩ (.int .i64 0)).setCell ⟨w.heap.size+1,3,none⟩ (.string ⟨#[]⟩)).setCell ⟨w.heap.size+1,4,none⟩ (.string ⟨#[]⟩)).setCell ⟨w.heap.size+1,5,none⟩ (.int .i64 0)).setCell ⟨w.heap.size+1,6,none⟩ (.slice none 0 0)).setCell ⟨w.heap.size+1,7,none⟩ (.string q.id)).setCell ⟨w.heap.size+1,8,none⟩ (.int .i64 q.n)).setCell ⟨w.heap.size+1,9,none⟩ (.int .i64 q.x)).setCell ⟨w.heap.size+1,10,none⟩ (.int .i64 q.y)).setCell ⟨w.heap.size+1,11,none⟩ (.string q.key)).setCell ⟨w.heap.size+1,12,none⟩ (.string q.prof)).setCell ⟨w.heap.size+1,13,none⟩ (.int .i64 q.minute)=wF
  have HF:=Lib.hid (show wF.heap[w.heap.size+1]?=some (.cells #[.int .i64 q.ask,.int .i64 0,.int .i64 0,.string ⟨#[]⟩,.string ⟨#[]⟩,.int .i64 0,.slice none 0 0,.string q.id,.int .i64 q.n,.int .i64 q.x,.int .i64 q.y,.string q.key,.string q.prof,.int .i64 q.minute] 28 (0,0)) by rw [←hwF];exact set14_row HY8.out _ _ _ _ _ _ _ _ _ _ _ _ _ _)
  have sz:=lt_of_block HF.out
  have s0:=cell_of_row wF _ 0 _ _ _ HF.out
  have s1:=cell_of_row wF _ 1 _ _ _ HF.out
  have s2:=cell_of_row wF _ 2 _ _ _ HF.out
  have s3:=cell_of_row wF _ 3 _ _ _ HF.out
  have s4:=cell_of_row wF _ 4 _ _ _ HF.out
  have s5:=cell_of_row wF _ 5 _ _ _ HF.out
  have s6:=cell_of_row wF _ 6 _ _ _ HF.out
  have s7:=cell_of_row wF _ 7 _ _ _ HF.out
  have s8:=cell_of_row wF _ 8 _ _ _ HF.out
  have s9:=cell_of_row wF _ 9 _ _ _ HF.out
  have s10:=cell_of_row wF _ 10 _ _ _ HF.out
  have s11:=cell_of_row wF _ 11 _ _ _ HF.out
  have s12:=cell_of_row wF _ 12 _ _ _ HF.out
  have s13:=cell_of_row wF _ 13 _ _ _ HF.out
  simp only [List.getElem?_toArray,List.getElem?_cons_zero,List.getElem?_cons_succ] at s0 s1 s2 s3 s4 s5 s6 s7 s8 s9 s10 s11 s12 s13
  refine bodyPost_ret (v:=.agg #[.int .i64 q.ask,.int .i64 0,.int .i64 0,.string ⟨#[]⟩,.string ⟨#[]⟩,.int .i64 0,.slice none 0 0,.string q.id,.int .i64 q.n,.int .i64 q.x,.int .i64 q.y,.string q.key,.string q.prof,.int .i64 q.minute]) (by simp [results,Tryz.results62,go_sem,s0,s1,s2,s3,s4,s5,s6,s7,s8,s9,s10,s11,s12,s13]) rfl ?_
  have hres:=res14 hwF hBw hpb (by omega) HM8.out HP8.out
  exact ⟨hres.1,_,rfl,rfl,hres.2⟩
set_option maxRecDepth 100000 in
set_option maxHeartbeats 8000000 in
theorem askW6_any (B pb:Nat) (hB:B≤pb) (t:TokD) (r:List TokD) (fin:Nat) (w:World) (hBw:B≤w.heap.size) (hk:t.kind=1) (hwn:wordN t.text=6) (h:PAt B w pb (t :: r) fin) :
  Calls Tryz.prog 62 #[.pointer (some ⟨pb,0,none⟩)] w (PRes B pb fin queryR (askR fin 6 r) w):=by
 obtain ⟨RES,hRES⟩:∃z,askR fin 6 r=z:=⟨_,rfl⟩
 rw [hRES]
 have HRES:=Lib.hid hRES
 clear hRES
 have hnm:=wordN_name (show wordN t.text≠0 by omega)
 have hmm:=@run_makeMap Tryz.prog
 have en:=eq_nn
 have ef:=eq_fn
 have hpb:pb<w.heap.size:=by obtain ⟨_,h1,_⟩:=h;exact lt_of_block h1
 have b3:=(((Below.refl w.heap.size w).alloc (Nat.le_refl _) (.cells #[.pointer (some ⟨pb,0,none⟩)] 78)).alloc (by simp) (.cells #[.int .i64 0,.int .i64 0,.int .i64 0,.string ⟨#[]⟩,.string ⟨#[]⟩,.int .i64 0,.slice none 0 0,.string ⟨#[]⟩,.int .i64 0,.int .i64 0,.int .i64 0,.string ⟨#[]⟩,.string ⟨#[]⟩,.int .i64 0] 28)).alloc (by simp;omega) (.cells #[.int .i64 0,.int .i64 0,.int .i64 0,.string ⟨#[]⟩,.string ⟨#[]⟩,.int .i64 0,.slice none 0 0,.string ⟨#[]⟩,.int .i64 0,.int .i64 0,.int .i64 0,.string ⟨#[]⟩,.string ⟨#[]⟩,.int .i64 0] 28)
 have x3:=row_past (o':=.cells #[.int .i64 0,.int .i64 0,.int .i64 0,.string ⟨#[]⟩,.string ⟨#[]⟩,.int .i64 0,.slice none 0 0,.string ⟨#[]⟩,.int .i64 0,.int .i64 0,.int .i64 0,.string ⟨#[]⟩,.string ⟨#[]⟩,.int .i64 0] 28) (row_past (o':=.cells #[.int .i64 0,.int .i64 0,.int .i64 0,.string ⟨#[]⟩,.string ⟨#[]⟩,.int .i64 0,.slice none 0 0,.string ⟨#[]⟩,.int .i64 0,.int .i64 0,.int .i64 0,.string ⟨#[]⟩,.string ⟨#[]⟩,.int .i64 0] 28) (row_new w (.cells #[.pointer (some ⟨pb,0,none⟩)] 78)))
 have y3:=row_past (o':=.cells #[.int .i64 0,.int .i64 0,.int .i64 0,.string ⟨#[]⟩,.string ⟨#[]⟩,.int .i64 0,.slice none 0 0,.string ⟨#[]⟩,.int .i64 0,.int .i64 0,.int .i64 0,.string ⟨#[]⟩,.string ⟨#[]⟩,.int .i64 0] 28) (row_new (w.alloc (.cells #[.pointer (some ⟨pb,0,none⟩)] 78)) (.cells #[.int .i64 0,.int .i64 0,.int .i64 0,.string ⟨#[]⟩,.string ⟨#[]⟩,.int .i64 0,.slice none 0 0,.string ⟨#[]⟩,.int .i64 0,.int .i64 0,.int .i64 0,.string ⟨#[]⟩,.string ⟨#[]⟩,.int .i64 0] 28))
 have z3:=row_new ((w.alloc (.cells #[.pointer (some ⟨pb,0,none⟩)] 78)).alloc (.cells #[.int .i64 0,.int .i64 0,.int .i64 0,.string ⟨#[]⟩,.string ⟨#[]⟩,.int .i64 0,.slice none 0 0,.string ⟨#[]⟩,.int .i64 0,.int .i64 0,.int .i64 0,.string ⟨#[]⟩,.string ⟨#[]⟩,.int .i64 0] 28)) (.cells #[.int .i64 0,.int .i64 0,.int .i64 0,.string ⟨#[]⟩,.string ⟨#[]⟩,.int .i64 0,.slice none 0 0,.string ⟨#[]⟩,.int .i64 0,.int .i64 0,.int .i64 0,.string ⟨#[]⟩,.string ⟨#[]⟩,.int .i64 0] 28)
 obtain ⟨w1,w2,w3,w4,w5,w6,r1,r2,r3,r4,r5,r6,hM,hb6,hlt6⟩:=parts_made (((w.alloc (.cells #[.pointer (some ⟨pb,0,none⟩)] 78)).alloc (.cells #[.int .i64 0,.int .i64 0,.int .i64 0,.string ⟨#[]⟩,.string ⟨#[]⟩,.int .i64 0,.slice none 0 0,.string ⟨#[]⟩,.int .i64 0,.int .i64 0,.int .i64 0,.string ⟨#[]⟩,.string ⟨#[]⟩,.int .i64 0] 28)).alloc (.cells #[.int .i64 0,.int .i64 0,.int .i64 0,.string ⟨#[]⟩,.string ⟨#[]⟩,.int .i64 0,.slice none 0 0,.string ⟨#[]⟩,.int .i64 0,.int .i64 0,.int .i64 0,.string ⟨#[]⟩,.string ⟨#[]⟩,.int .i64 0] 28)) w.heap.size (w.heap.size+1+1)
 simp only [World.size_alloc] at y3 z3 r1 r2 r3 r4 r5 r6 hM hlt6
 simp only [askF] at r1 r2 r3 r4 r5 r6
 have HX:=Lib.hid (row_later hb6 x3)
 have HY:=Lib.hid (row_later hb6 y3)
 have HZ:=Lib.hid (row_later hb6 z3)
 have b6:=below_step b3 (Nat.le_refl _) hb6
 have HM6:=Lib.hid (PMem.of_low (pb:=pb) hBw b6)
 have HP6:=Lib.hid (h.low b6)
 have HMP:=Lib.hid hM
 have hs6:=b6.size
 clear b3 x3 y3 z3 hM hb6 h b6
 go_enter Tryz.func62,Tryz.ntmps62
 obtain ⟨xz,x0⟩:=rk1 HX.out
 obtain ⟨tv,hq1,hq2,hq3⟩:=HP6.out
 have HQ1:=Lib.hid hq1
 obtain ⟨b,off,cap,rfl,hc1,hc2,c0,c1,c2⟩:=hq2.open
 have hts:=(hq3.2.1 t (List.mem_cons_self ..)).1
 have dl:((r.length:Int)+1==0)=false:=by rw [beq_eq_false_iff_ne];omega
 clear hq1 hq2 hq3 hc1 hc2
 have k1:(t.kind != 1)=false:=by rw [hk];rfl
 have k2:(t.kind==1)=true:=by rw [hk];rfl
 have L6:=HMP.out.look t.text (by omega)
 have PN:=Lib.hid (pname_any B pb hB (t :: r) fin w6 (by omega) HP6.out)
 rw [show nameP fin (t :: r)=.ok t.text r by rw [nameP,nextP,if_pos hk,hnm,if_pos rfl]] at PN
 clear hk hnm
 rw [hwn] at L6
 simp only [askF] at L6
 cases RES with
 |bad er off2 =>
  obtain ⟨pz,p0,p1⟩:=rk2 HQ1.out
  go_wp2_with fail
  refine PN.out.mono ?_
  rintro e w7 ⟨hm7,v7,rfl,rfl,hp7⟩
  have HX7:=Lib.hid (hm7.keep.row HX.out (by omega))
  have HY7:=Lib.hid (hm7.keep.row HY.out (by omega))
  have HZ7:=Lib.hid (hm7.keep.row HZ.out (by omega))
  have HM7:=Lib.hid (HM6.out.trans hm7)
  have HP7:=Lib.hid hp7
  have hs7:=hm7.keep.1
  have L7:=PMap.look (MapAt.later HMP.out (hm7.keep.2 _ hlt6 (by omega))) t.text (by omega)
  rw [hwn] at L7
  simp only [askF] at L7
  clear hm7 hp7
  have CL:=Lib.hid (ask6_any B pb hB fin w.heap.size (w.heap.size+1+1) w w7 hBw hpb (by omega) (by omega) (by omega) r HM7.out HP7.out HX7.out HZ7.out)
  go_wp2_with fail
  rw [HRES.out] at CL
  go_wp2_with fail
  refine CL.out.mono ?_
  rintro e w8 ⟨hm8,-,rfl⟩
  exact ⟨rfl,hm8,rfl⟩
 |ok q rest =>
  obtain ⟨pz,p0,p1⟩:=rk2 HQ1.out
  go_wp2_with fail
  refine PN.out.mono ?_
  rintro e w7 ⟨hm7,v7,rfl,rfl,hp7⟩
  have HX7:=Lib.hid (hm7.keep.row HX.out (by omega))
  have HY7:=Lib.hid (hm7.keep.row HY.out (by omega))
  have HZ7:=Lib.hid (hm7.keep.row HZ.out (by omega))
  have HM7:=Lib.hid (HM6.out.trans hm7)
  have HP7:=Lib.hid hp7
  have hs7:=hm7.keep.1
  have L7:=PMap.look (MapAt.later HMP.out (hm7.keep.2 _ hlt6 (by omega))) t.text (by omega)
  rw [hwn] at L7
  simp only [askF] at L7
  clear hm7 hp7
  have CL:=Lib.hid (ask6_any B pb hB fin w.heap.size (w.heap.size+1+1) w w7 hBw hpb (by omega) (by omega) (by omega) r HM7.out HP7.out HX7.out HZ7.out)
  go_wp2_with fail
  rw [HRES.out] at CL
  go_wp2_with fail
  refine CL.out.mono ?_
  rintro e w8 ⟨hm8,hk8,rfl,hq8,hp8⟩
  have HQ8:=Lib.hid hq8
  have HY8:=Lib.hid ((hk8.2 _ (lt_of_block HY7.out) (by omega) (by omega)).trans HY7.out)
  have HM8:=Lib.hid hm8
  have HP8:=Lib.hid hp8
  clear hm8 hq8 hp8
  have qz:=lt_of_block HQ8.out
  have q0:=cell_of_row w8 _ 0 _ _ _ HQ8.out
  have q1:=cell_of_row w8 _ 1 _ _ _ HQ8.out
  have q2:=cell_of_row w8 _ 2 _ _ _ HQ8.out
  have q3:=cell_of_row w8 _ 3 _ _ _ HQ8.out
  have q4:=cell_of_row w8 _ 4 _ _ _ HQ8.out
  have q5:=cell_of_row w8 _ 5 _ _ _ HQ8.out
  have q6:=cell_of_row w8 _ 6 _ _ _ HQ8.out
  have q7:=cell_of_row w8 _ 7 _ _ _ HQ8.out
  have q8:=cell_of_row w8 _ 8 _ _ _ HQ8.out
  have q9:=cell_of_row w8 _ 9 _ _ _ HQ8.out
  have q10:=cell_of_row w8 _ 10 _ _ _ HQ8.out
  have q11:=cell_of_row w8 _ 11 _ _ _ HQ8.out
  have q12:=cell_of_row w8 _ 12 _ _ _ HQ8.out
  have q13:=cell_of_row w8 _ 13 _ _ _ HQ8.out
  simp only [List.getElem?_toArray,List.getElem?_cons_zero,List.getElem?_cons_succ] at q0 q1 q2 q3 q4 q5 q6 q7 q8 q9 q10 q11 q12 q13
  have yz:=lt_of_block HY8.out
  have y0:=cell_of_row w8 _ 0 _ _ _ HY8.out
  have y1:=cell_of_row w8 _ 1 _ _ _ HY8.out
  have y2:=cell_of_row w8 _ 2 _ _ _ HY8.out
  have y3:=cell_of_row w8 _ 3 _ _ _ HY8.out
  have y4:=cell_of_row w8 _ 4 _ _ _ HY8.out
  have y5:=cell_of_row w8 _ 5 _ _ _ HY8.out
  have y6:=cell_of_row w8 _ 6 _ _ _ HY8.out
  have y7:=cell_of_row w8 _ 7 _ _ _ HY8.out
  have y8:=cell_of_row w8 _ 8 _ _ _ HY8.out
  have y9:=cell_of_row w8 _ 9 _ _ _ HY8.out
  have y10:=cell_of_row w8 _ 10 _ _ _ HY8.out
  have y11:=cell_of_row w8 _ 11 _ _ _ HY8.out
  have y12:=cell_of_row w8 _ 12 _ _ _ HY8.out
  have y13:=cell_of_row w8 _ 13 _ _ _ HY8.out
  have yf0:=frozen_of_row w8 _ 0 _ _ HY8.out
  have yf1:=frozen_of_row w8 _ 1 _ _ HY8.out
  have yf2:=frozen_of_row w8 _ 2 _ _ HY8.out
  have yf3:=frozen_of_row w8 _ 3 _ _ HY8.out
  have yf4:=frozen_of_row w8 _ 4 _ _ HY8.out
  have yf5:=frozen_of_row w8 _ 5 _ _ HY8.out
  have yf6:=frozen_of_row w8 _ 6 _ _ HY8.out
  have yf7:=frozen_of_row w8 _ 7 _ _ HY8.out
  have yf8:=frozen_of_row w8 _ 8 _ _ HY8.out
  have yf9:=frozen_of_row w8 _ 9 _ _ HY8.out
  have yf10:=frozen_of_row w8 _ 10 _ _ HY8.out
  have yf11:=frozen_of_row w8 _ 11 _ _ HY8.out
  have yf12:=frozen_of_row w8 _ 12 _ _ HY8.out
  have yf13:=frozen_of_row w8 _ 13 _ _ HY8.out
  simp only [List.getElem?_toArray,List.getElem?_cons_zero,List.getElem?_cons_succ] at y0 y1 y2 y3 y4 y5 y6 y7 y8 y9 y10 y11 y12 y13
  go_wp2
  generalize hwF:((((((((((((((w8).setCell ⟨w.heap.size+1,0,none⟩ (.int .i64 q.ask)).setCell ⟨w.heap.size+1,1,none⟩ (.int .i64 0)).setCell ⟨w.heap.size+1,2,none⟩ (.int .i64 0)).setCell ⟨w.heap.size+1,3,none⟩ (.string ⟨#[]⟩)).setCell ⟨w.heap.size+1,4,none⟩ (.string ⟨#[]⟩)).setCell ⟨w.heap.size+1,5,none⟩ (.int .i64 0)).setCell ⟨w.heap.size+1,6,none⟩ (.slice none 0 0)).setCell ⟨w.heap.size+1,7,none⟩ (.string q.id)).setCell ⟨w.heap.size+1,8,none⟩ (.int .i64 q.n)).setCell ⟨w.heap.size+1,9,none⟩ (.int .i64 q.x)).setCell ⟨w.heap.size+1,10,none⟩ (.int .i64 q.y)).setCell ⟨w.heap.size+1,11,none⟩ (.string q.key)).setCell ⟨w.heap.size+1,12,none⟩ (.string q.prof)).setCell ⟨w.heap.size+1,13,none⟩ (.int .i64 q.minute)=wF
  have HF:=Lib.hid (show wF.heap[w.heap.size+1]?=some (.cells #[.int .i64 q.ask,.int .i64 0,.int .i64 0,.string ⟨#[]⟩,.string ⟨#[]⟩,.int .i64 0,.slice none 0 0,.string q.id,.int .i64 q.n,.int .i64 q.x,.int .i64 q.y,.string q.key,.string q.prof,.int .i64 q.minute] 28 (0,0)) by rw [←hwF];exact set14_row HY8.out _ _ _ _ _ _ _ _ _ _ _ _ _ _)
  have sz:=lt_of_block HF.out
  have s0:=cell_of_row wF _ 0 _ _ _ HF.out
  have s1:=cell_of_row wF _ 1 _ _ _ HF.out
  have s2:=cell_of_row wF _ 2 _ _ _ HF.out
  have s3:=cell_of_row wF _ 3 _ _ _ HF.out
  have s4:=cell_of_row wF _ 4 _ _ _ HF.out
  have s5:=cell_of_row wF _ 5 _ _ _ HF.out
  have s6:=cell_of_row wF _ 6 _ _ _ HF.out
  have s7:=cell_of_row wF _ 7 _ _ _ HF.out
  have s8:=cell_of_row wF _ 8 _ _ _ HF.out
  have s9:=cell_of_row wF _ 9 _ _ _ HF.out
  have s10:=cell_of_row wF _ 10 _ _ _ HF.out
  have s11:=cell_of_row wF _ 11 _ _ _ HF.out
  have s12:=cell_of_row wF _ 12 _ _ _ HF.out
  have s13:=cell_of_row wF _ 13 _ _ _ HF.out
  simp only [List.getElem?_toArray,List.getElem?_cons_zero,List.getElem?_cons_succ] at s0 s1 s2 s3 s4 s5 s6 s7 s8 s9 s10 s11 s12 s13
  refine bodyPost_ret (v:=.agg #[.int .i64 q.ask,.int .i64 0,.int .i64 0,.string ⟨#[]⟩,.string ⟨#[]⟩,.int .i64 0,.slice none 0 0,.string q.id,.int .i64 q.n,.int .i64 q.x,.int .i64 q.y,.string q.key,.string q.prof,.int .i64 q.minute]) (by simp [results,Tryz.results62,go_sem,s0,s1,s2,s3,s4,s5,s6,s7,s8,s9,s10,s11,s12,s13]) rfl ?_
  have hres:=res14 hwF hBw hpb (by omega) HM8.out HP8.out
  exact ⟨hres.1,_,rfl,rfl,hres.2⟩
set_option maxRecDepth 100000 in
set_option maxHeartbeats 8000000 in
theorem askN_any (B pb:Nat) (_hB:B≤pb) (ts:List TokD) (fin:Nat) (w:World) (hBw:B≤w.heap.size) (hno:∀t r,ts=t :: r→t.kind=1→wordN t.text=0) (h:PAt B w pb ts fin) :
  Calls Tryz.prog 62 #[.pointer (some ⟨pb,0,none⟩)] w (PRes B pb fin queryR (askP fin ts) w):=by
 have hmm:=@run_makeMap Tryz.prog
 have en:=eq_nn
 have ef:=eq_fn
 have hpb:pb<w.heap.size:=by obtain ⟨_,h1,_⟩:=h;exact lt_of_block h1
 have b3:=(((Below.refl w.heap.size w).alloc (Nat.le_refl _) (.cells #[.pointer (some ⟨pb,0,none⟩)] 78)).alloc (by simp) (.cells #[.int .i64 0,.int .i64 0,.int .i64 0,.string ⟨#[]⟩,.string ⟨#[]⟩,.int .i64 0,.slice none 0 0,.string ⟨#[]⟩,.int .i64 0,.int .i64 0,.int .i64 0,.string ⟨#[]⟩,.string ⟨#[]⟩,.int .i64 0] 28)).alloc (by simp;omega) (.cells #[.int .i64 0,.int .i64 0,.int .i64 0,.string ⟨#[]⟩,.string ⟨#[]⟩,.int .i64 0,.slice none 0 0,.string ⟨#[]⟩,.int .i64 0,.int .i64 0,.int .i64 0,.string ⟨#[]⟩,.string ⟨#[]⟩,.int .i64 0] 28)
 have x3:=row_past (o':=.cells #[.int .i64 0,.int .i64 0,.int .i64 0,.string ⟨#[]⟩,.string ⟨#[]⟩,.int .i64 0,.slice none 0 0,.string ⟨#[]⟩,.int .i64 0,.int .i64 0,.int .i64 0,.string ⟨#[]⟩,.string ⟨#[]⟩,.int .i64 0] 28) (row_past (o':=.cells #[.int .i64 0,.int .i64 0,.int .i64 0,.string ⟨#[]⟩,.string ⟨#[]⟩,.int .i64 0,.slice none 0 0,.string ⟨#[]⟩,.int .i64 0,.int .i64 0,.int .i64 0,.string ⟨#[]⟩,.string ⟨#[]⟩,.int .i64 0] 28) (row_new w (.cells #[.pointer (some ⟨pb,0,none⟩)] 78)))
 have y3:=row_past (o':=.cells #[.int .i64 0,.int .i64 0,.int .i64 0,.string ⟨#[]⟩,.string ⟨#[]⟩,.int .i64 0,.slice none 0 0,.string ⟨#[]⟩,.int .i64 0,.int .i64 0,.int .i64 0,.string ⟨#[]⟩,.string ⟨#[]⟩,.int .i64 0] 28) (row_new (w.alloc (.cells #[.pointer (some ⟨pb,0,none⟩)] 78)) (.cells #[.int .i64 0,.int .i64 0,.int .i64 0,.string ⟨#[]⟩,.string ⟨#[]⟩,.int .i64 0,.slice none 0 0,.string ⟨#[]⟩,.int .i64 0,.int .i64 0,.int .i64 0,.string ⟨#[]⟩,.string ⟨#[]⟩,.int .i64 0] 28))
 have z3:=row_new ((w.alloc (.cells #[.pointer (some ⟨pb,0,none⟩)] 78)).alloc (.cells #[.int .i64 0,.int .i64 0,.int .i64 0,.string ⟨#[]⟩,.string ⟨#[]⟩,.int .i64 0,.slice none 0 0,.string ⟨#[]⟩,.int .i64 0,.int .i64 0,.int .i64 0,.string ⟨#[]⟩,.string ⟨#[]⟩,.int .i64 0] 28)) (.cells #[.int .i64 0,.int .i64 0,.int .i64 0,.string ⟨#[]⟩,.string ⟨#[]⟩,.int .i64 0,.slice none 0 0,.string ⟨#[]⟩,.int .i64 0,.int .i64 0,.int .i64 0,.string ⟨#[]⟩,.string ⟨#[]⟩,.int .i64 0] 28)
 obtain ⟨w1,w2,w3,w4,w5,w6,r1,r2,r3,r4,r5,r6,hM,hb6,hlt6⟩:=parts_made (((w.alloc (.cells #[.pointer (some ⟨pb,0,none⟩)] 78)).alloc (.cells #[.int .i64 0,.int .i64 0,.int .i64 0,.string ⟨#[]⟩,.string ⟨#[]⟩,.int .i64 0,.slice none 0 0,.string ⟨#[]⟩,.int .i64 0,.int .i64 0,.int .i64 0,.string ⟨#[]⟩,.string ⟨#[]⟩,.int .i64 0] 28)).alloc (.cells #[.int .i64 0,.int .i64 0,.int .i64 0,.string ⟨#[]⟩,.string ⟨#[]⟩,.int .i64 0,.slice none 0 0,.string ⟨#[]⟩,.int .i64 0,.int .i64 0,.int .i64 0,.string ⟨#[]⟩,.string ⟨#[]⟩,.int .i64 0] 28)) w.heap.size (w.heap.size+1+1)
 simp only [World.size_alloc] at y3 z3 r1 r2 r3 r4 r5 r6 hM hlt6
 simp only [askF] at r1 r2 r3 r4 r5 r6
 have HX:=Lib.hid (row_later hb6 x3)
 have HY:=Lib.hid (row_later hb6 y3)
 have HZ:=Lib.hid (row_later hb6 z3)
 have b6:=below_step b3 (Nat.le_refl _) hb6
 have HM6:=Lib.hid (PMem.of_low (pb:=pb) hBw b6)
 have HP6:=Lib.hid (h.low b6)
 have HMP:=Lib.hid hM
 have hs6:=b6.size
 clear b3 x3 y3 z3 hM hb6 h b6
 go_enter Tryz.func62,Tryz.ntmps62
 obtain ⟨xz,x0⟩:=rk1 HX.out
 obtain ⟨tv,hq1,hq2,hq3⟩:=HP6.out
 have HQ1:=Lib.hid hq1
 cases ts with
 |nil =>
  obtain ⟨a,cap,rfl,-⟩:=hq2
  clear hq1 hq3
  have FL:=Lib.hid (fail_any pb [] fin 5 w6 HP6.out)
  obtain ⟨pz,p0,p1⟩:=rk2 HQ1.out
  go_wp2_with fail
  refine FL.out.mono ?_
  rintro e w7 ⟨rfl,hw⟩
  subst w7
  exact ⟨rfl,HM6.out,rfl⟩
 |cons t r =>
  obtain ⟨b,off,cap,rfl,hc1,hc2,c0,c1,c2⟩:=hq2.open
  have hts:=(hq3.2.1 t (List.mem_cons_self ..)).1
  have dl:((r.length:Int)+1==0)=false:=by rw [beq_eq_false_iff_ne];omega
  clear hq1 hq2 hq3 hc1 hc2
  by_cases hk:t.kind=1
  ·have k1:(t.kind != 1)=false:=by rw [hk];rfl
   have k2:(t.kind==1)=true:=by rw [hk];rfl
   have L6:=HMP.out.look t.text (by omega)
   have hw0:=hno t r rfl hk
   ·rw [askP_none fin t r hk hw0]
    rw [hw0] at L6
    simp only [askF] at L6
    have FL:=Lib.hid (fail_any pb (t :: r) fin 5 w6 HP6.out)
    clear hk
    obtain ⟨pz,p0,p1⟩:=rk2 HQ1.out
    go_wp2_with fail
    refine FL.out.mono ?_
    rintro e w7 ⟨rfl,hw⟩
    subst w7
    exact ⟨rfl,HM6.out,rfl⟩
  ·have k1:(t.kind != 1)=true:=by rw [bne_iff_ne];exact hk
   have k2:(t.kind==1)=false:=by rw [beq_eq_false_iff_ne];exact hk
   rw [show askP fin (t :: r)=.bad 5 t.off by unfold askP;simp only [if_neg hk]]
   have FL:=Lib.hid (fail_any pb (t :: r) fin 5 w6 HP6.out)
   clear hk
   obtain ⟨pz,p0,p1⟩:=rk2 HQ1.out
   go_wp2_with fail
   refine FL.out.mono ?_
   rintro e w7 ⟨rfl,hw⟩
   subst w7
   exact ⟨rfl,HM6.out,rfl⟩
theorem ask_any (B pb:Nat) (hB:B≤pb) (ts:List TokD) (fin:Nat) (w:World) (hBw:B≤w.heap.size) (h:PAt B w pb ts fin) :
  Calls Tryz.prog 62 #[.pointer (some ⟨pb,0,none⟩)] w (PRes B pb fin queryR (askP fin ts) w):=by
 cases ts with
 |nil=>exact askN_any B pb hB [] fin w hBw (fun _ _ e=>by cases e) h
 |cons t r =>
  by_cases hk:t.kind=1
  ·by_cases hw0:wordN t.text=0
   ·exact askN_any B pb hB _ fin w hBw (fun _ _ e _=>by injection e with e _;rw [←e];exact hw0) h
   ·rw [askP_word fin t r hk hw0]
    have hwr:wordN t.text=1∨wordN t.text=2∨wordN t.text=3∨wordN t.text=4∨wordN t.text=5∨wordN t.text=6:=by
     revert hw0;unfold wordN;repeat' split
     all_goals simp
    rcases hwr with hwn | hwn | hwn | hwn | hwn | hwn
    ·rw [hwn];exact askW1_any B pb hB t r fin w hBw hk hwn h
    ·rw [hwn];exact askW2_any B pb hB t r fin w hBw hk hwn h
    ·rw [hwn];exact askW3_any B pb hB t r fin w hBw hk hwn h
    ·rw [hwn];exact askW4_any B pb hB t r fin w hBw hk hwn h
    ·rw [hwn];exact askW5_any B pb hB t r fin w hBw hk hwn h
    ·rw [hwn];exact askW6_any B pb hB t r fin w hBw hk hwn h
  ·exact askN_any B pb hB _ fin w hBw (fun _ _ e h1=>by injection e with e _;rw [←e] at h1;exact absurd h1 hk) h
end Go.Proofs.YtdfenhjibnfdeaaGreatDoor
