/-  -/
import Derived.Test.YtdfenhjibnfdeaaGreatDoorQyAl
import Derived.Test.YtdfenhjibnfdeaaGreatDoorQyBf
import Derived.Test.YtdfenhjibnfdeaaGreatDoorQyBi
namespace Go.Proofs.YtdfenhjibnfdeaaGreatDoor
open Go.RowKit Go.Shelf
set_option maxRecDepth 100000 in
set_option maxHeartbeats 8000000 in
theorem qconds_any (ca cb:CondD) (aa ab:Option Addr) (pa pb:Nat) (o:ObjD) (vr vt:Value) (w:World) (ha:CondIs w ca aa) (hb:CondIs w cb ab) (hr:StrRow w vr o.refs) (ht:TagRow w vt o.tags) (he:Env w) :
  Calls Tryz.prog 5 #[condV ca aa pa,condV cb ab pb,obV o vr vt] w fun e w'=>e=.returned (.bool true)∧Below w.heap.size w w':=by
 have b3:=(((Below.refl w.heap.size w).alloc (Nat.le_refl _) (.cells #[.int .i64 ca.op,.string ca.key,.string ca.val,.int .i64 ca.n,.slice aa ca.kids.length pa] 24)).alloc (by simp) (.cells #[.int .i64 cb.op,.string cb.key,.string cb.val,.int .i64 cb.n,.slice ab cb.kids.length pb] 24)).alloc (by simp;omega) (.cells #[.string o.id,.int .i64 o.kind,.int .i64 o.x,.int .i64 o.y,vr,vt] 50)
 have rc:=row_past (o':=.cells #[.string o.id,.int .i64 o.kind,.int .i64 o.x,.int .i64 o.y,vr,vt] 50) (row_past (o':=.cells #[.int .i64 cb.op,.string cb.key,.string cb.val,.int .i64 cb.n,.slice ab cb.kids.length pb] 24) (row_new w (.cells #[.int .i64 ca.op,.string ca.key,.string ca.val,.int .i64 ca.n,.slice aa ca.kids.length pa] 24)))
 have ro:=row_past (o':=.cells #[.string o.id,.int .i64 o.kind,.int .i64 o.x,.int .i64 o.y,vr,vt] 50) (row_new1 w (.cells #[.int .i64 ca.op,.string ca.key,.string ca.val,.int .i64 ca.n,.slice aa ca.kids.length pa] 24) (.cells #[.int .i64 cb.op,.string cb.key,.string cb.val,.int .i64 cb.n,.slice ab cb.kids.length pb] 24))
 have rp:=row_new2 w (.cells #[.int .i64 ca.op,.string ca.key,.string ca.val,.int .i64 ca.n,.slice aa ca.kids.length pa] 24) (.cells #[.int .i64 cb.op,.string cb.key,.string cb.val,.int .i64 cb.n,.slice ab cb.kids.length pb] 24) (.cells #[.string o.id,.int .i64 o.kind,.int .i64 o.x,.int .i64 o.y,vr,vt] 50)
 have RA0:=Lib.hid rc
 have RB0:=Lib.hid ro
 have RO0:=Lib.hid rp
 have B0:=Lib.hid b3
 have HD:=Lib.hid (head_any _ (he.later b3))
 have FA:=Lib.hid (fun W (hb:Below w.heap.size w W)=>fewc_any ca aa pa W (ha.later hb))
 have FB:=Lib.hid (fun W (h:Below w.heap.size w W)=>fewc_any cb ab pb W (hb.later h))
 have FO:=Lib.hid (fun W (hb:Below w.heap.size w W)=>fewO_any o vr vt W (hr.later hb) (ht.later hb))
 have NK:=Lib.hid (fun c a p W=>notK_any c a p W)
 have NE:=Lib.hid (fun k W=>notE_any k W)
 have NN:=Lib.hid (fun k W=>notN_any k W)
 have RK:=Lib.hid (fun c a p W (h:CondIs W c a)=>rcond_any c a p W h)
 have HH:=Lib.hid (fun c a p W (hb:Below w.heap.size w W) (h:CondIs W c a)=>Holds_any c a p o vr vt W h (ht.later hb) (he.later hb))
 have HCA:=Lib.hid ha
 have HCB:=Lib.hid hb
 rw [cond_cells] at FA FB
 rw [cond_cells,cond_cells]
 have hmx:Tryz.prog.follows .mixedOrders=true:=by kernel_rfl
 clear b3 rc ro rp ha hb he hr ht
 go_enter Tryz.func5,Tryz.ntmps5
 go_wp2_with fail
 refine HD.out.mono ?_
 rintro e w1 ⟨rfl,hb⟩
 have RA1:=Lib.hid (row_later hb RA0.out)
 have RB1:=Lib.hid (row_later hb RB0.out)
 have RO1:=Lib.hid (row_later hb RO0.out)
 have B1:=Lib.hid (below_step B0.out (Nat.le_refl _) hb)
 clear hb RA0 RB0 RO0 B0
 clear HD
 obtain ⟨xz,x0,x1,x2,x3,x4⟩:=rk5 RA1.out
 go_wp2_with fail
 refine (FA.out _ B1.out).mono ?_
 rintro e w2 ⟨fa,rfl,hb⟩
 have RA2:=Lib.hid (row_later hb RA1.out)
 have RB2:=Lib.hid (row_later hb RB1.out)
 have RO2:=Lib.hid (row_later hb RO1.out)
 have B2:=Lib.hid (below_step B1.out (Nat.le_refl _) hb)
 clear hb RA1 RB1 RO1 B1
 clear FA
 clear x0 x1 x2 x3 x4 xz
 cases fa
 case false =>
  go_wp2
  go_ret
  exact ⟨rfl,B2.out⟩
 obtain ⟨xz,x0,x1,x2,x3,x4⟩:=rk5 RB2.out
 go_wp2_with fail
 refine (FB.out _ B2.out).mono ?_
 rintro e w3 ⟨fb,rfl,hb⟩
 have RA3:=Lib.hid (row_later hb RA2.out)
 have RB3:=Lib.hid (row_later hb RB2.out)
 have RO3:=Lib.hid (row_later hb RO2.out)
 have B3:=Lib.hid (below_step B2.out (Nat.le_refl _) hb)
 clear hb RA2 RB2 RO2 B2
 clear FB
 clear x0 x1 x2 x3 x4 xz
 cases fb
 case false =>
  go_wp2
  go_ret
  exact ⟨rfl,B3.out⟩
 obtain ⟨xz,x0,x1,x2,x3,x4,x5⟩:=rk6 RO3.out
 go_wp2_with fail
 refine (FO.out _ B3.out).mono ?_
 rintro e w4 ⟨⟨fo,rfl,-⟩,hb⟩
 have RA4:=Lib.hid (row_later hb RA3.out)
 have RB4:=Lib.hid (row_later hb RB3.out)
 have RO4:=Lib.hid (row_later hb RO3.out)
 have B4:=Lib.hid (below_step B3.out (Nat.le_refl _) hb)
 clear hb RA3 RB3 RO3 B3
 clear FO
 clear x0 x1 x2 x3 x4 x5 xz
 cases fo
 case false =>
  go_wp2
  go_ret
  exact ⟨rfl,B4.out⟩
 obtain ⟨xz,x0,x1,x2,x3,x4⟩:=rk5 RA4.out
 obtain ⟨yz,y0,y1,y2,y3,y4⟩:=rk5 RB4.out
 go_wp2
 have FR:=four_rows ca cb aa ab pa pb w4 (HCA.out.later B4.out) (HCB.out.later B4.out)
 generalize hw5:(((w4.alloc (.cells #[.int .i64 ca.op,.string ca.key,.string ca.val,.int .i64 ca.n,.slice aa ca.kids.length pa,.int .i64 cb.op,.string cb.key,.string cb.val,.int .i64 cb.n,.slice ab cb.kids.length pb] 24)).alloc (.cells #[.int .i64 5,.string ⟨#[]⟩,.string ⟨#[]⟩,.int .i64 0,.slice (some ⟨w4.heap.size,0,none⟩) 2 2] 24)).alloc (.cells #[.int .i64 cb.op,.string cb.key,.string cb.val,.int .i64 cb.n,.slice ab cb.kids.length pb,.int .i64 ca.op,.string ca.key,.string ca.val,.int .i64 ca.n,.slice aa ca.kids.length pa] 24)).alloc (.cells #[.int .i64 5,.string ⟨#[]⟩,.string ⟨#[]⟩,.int .i64 0,.slice (some ⟨w4.heap.size+1+1,0,none⟩) 2 2] 24)=w5
 rw [hw5] at FR
 obtain ⟨hb,rp1,rp2,cp1,cp2⟩:=FR
 have RP:=Lib.hid rp1
 have RQ:=Lib.hid rp2
 have CP:=Lib.hid cp1
 have CQ:=Lib.hid cp2
 have RA5:=Lib.hid (row_later hb RA4.out)
 have RB5:=Lib.hid (row_later hb RB4.out)
 have RO5:=Lib.hid (row_later hb RO4.out)
 have B5:=Lib.hid (below_step B4.out (Nat.le_refl _) hb)
 clear hb RA4 RB4 RO4 B4
 clear hw5 rp1 rp2 cp1 cp2
 clear x0 x1 x2 x3 x4 xz
 clear y0 y1 y2 y3 y4 yz
 rename_i Q' K hK
 have TAIL:∀(u0 u1 u2 u14 u15 u16 u17 u18 u19 u20 u21 u22 u23 u24 u25 u26 u27 u28 u29 u30 u31 u32 u33 u34 u35 u36 u37 u38 u39 u40 u41 u42 u43 u44 u45 u46:Value) (m x:Nat) (w6:World),OthE w5 ca cb m x w6→Exit.then K Q' .normal ⟨#[u0,u1,u2,.pointer (some ⟨w.heap.size,0,none⟩),.pointer (some ⟨w.heap.size+1,0,none⟩),.pointer (some ⟨w.heap.size+1+1,0,none⟩),.bool false,.bool true,.func (.func 20) #[] #[],.pointer (some ⟨w4.heap.size+1,0,none⟩),.pointer (some ⟨w4.heap.size+1+1+1,0,none⟩),.pointer (some ⟨x,0,none⟩),undef,undef,u14,u15,u16,u17,u18,u19,u20,u21,u22,u23,u24,u25,u26,u27,u28,u29,u30,u31,u32,u33,u34,u35,u36,u37,u38,u39,u40,u41,u42,u43,u44,u45,u46,undef,undef,undef,undef,undef,undef,undef,undef,undef,undef,undef,undef,undef,undef,undef,undef,undef,undef,undef,undef,undef,undef,undef,undef,undef,undef,undef,undef,undef,undef,undef,undef,undef,undef,undef,undef,undef,undef,undef,undef,undef,undef,undef,undef,undef,undef,undef,undef,undef,undef,undef,undef,undef,undef,undef,undef,undef,undef,undef,undef,undef,undef,undef,undef,undef],[]⟩ w6:=by
  intro u0 u1 u2 u14 u15 u16 u17 u18 u19 u20 u21 u22 u23 u24 u25 u26 u27 u28 u29 u30 u31 u32 u33 u34 u35 u36 u37 u38 u39 u40 u41 u42 u43 u44 u45 u46 m x w6 hE
  obtain ⟨hb,hco,hrz⟩:=hE
  have CO6:=Lib.hid hco
  have RZ6:=Lib.hid hrz
  have RP6:=Lib.hid (row_later hb RP.out)
  have RQ6:=Lib.hid (row_later hb RQ.out)
  have CP6:=Lib.hid (CP.out.later hb)
  have CQ6:=Lib.hid (CQ.out.later hb)
  have RA6:=Lib.hid (row_later hb RA5.out)
  have RB6:=Lib.hid (row_later hb RB5.out)
  have RO6:=Lib.hid (row_later hb RO5.out)
  have B6:=Lib.hid (below_step B5.out (Nat.le_refl _) hb)
  clear hb RA5 RB5 RO5 B5
  clear hco hrz RP RQ CP CQ
  have RC:=Lib.hid (show ∀W,CondIs W (otherC ca cb) (some ⟨m,0,none⟩)→Calls Tryz.prog 21 #[.agg #[.int .i64 4,.string ⟨#[]⟩,.string ⟨#[]⟩,.int .i64 0,.slice (some ⟨m,0,none⟩) 1 1]] W fun e w'=>∃b,e=.returned (.bool b)∧(b=true→validC (otherC ca cb)=true)∧Below W.heap.size W w' from fun W h=>RK.out (otherC ca cb) _ 1 W h)
  clear RK NE
  obtain ⟨xz,x0,x1,x2,x3,x4⟩:=rk5 RZ6.out
  go_wp2_with fail
  refine (RC.out _ CO6.out).mono ?_
  rintro e w7 ⟨b,rfl,hv,hb⟩
  have CO7:=Lib.hid (CO6.out.later hb)
  have RZ7:=Lib.hid (row_later hb RZ6.out)
  have RP7:=Lib.hid (row_later hb RP6.out)
  have RQ7:=Lib.hid (row_later hb RQ6.out)
  have CP7:=Lib.hid (CP6.out.later hb)
  have CQ7:=Lib.hid (CQ6.out.later hb)
  have RA7:=Lib.hid (row_later hb RA6.out)
  have RB7:=Lib.hid (row_later hb RB6.out)
  have RO7:=Lib.hid (row_later hb RO6.out)
  have B7:=Lib.hid (below_step B6.out (Nat.le_refl _) hb)
  clear hb RA6 RB6 RO6 B6
  clear CO6 RZ6 RP6 RQ6 CP6 CQ6 RC
  clear x0 x1 x2 x3 x4 xz
  cases b
  case false =>
   clear hv
   go_wp2
   go_ret
   exact ⟨rfl,B7.out⟩
  have LAW:=cond_law o.tags (hv rfl)
  clear hv
  obtain ⟨⟨l1,l2,l3,l4,l5⟩,l6,l7⟩:=LAW
  have HA:=Lib.hid (show ∀W,Below w7.heap.size w7 W→Calls Tryz.prog 22 #[.agg #[.int .i64 ca.op,.string ca.key,.string ca.val,.int .i64 ca.n,.slice aa ca.kids.length pa],.agg #[.string o.id,.int .i64 o.kind,.int .i64 o.x,.int .i64 o.y,vr,vt]] W (fun e w'=>e=.returned (.bool (validC ca && holdsC o.tags ca))∧Below W.heap.size W w') from fun W h=>HH.out ca aa pa W (below_step B7.out (Nat.le_refl _) h) (HCA.out.later (below_step B7.out (Nat.le_refl _) h)))
  have HB:=Lib.hid (show ∀W,Below w7.heap.size w7 W→Calls Tryz.prog 22 #[.agg #[.int .i64 cb.op,.string cb.key,.string cb.val,.int .i64 cb.n,.slice ab cb.kids.length pb],.agg #[.string o.id,.int .i64 o.kind,.int .i64 o.x,.int .i64 o.y,vr,vt]] W (fun e w'=>e=.returned (.bool (validC cb && holdsC o.tags cb))∧Below W.heap.size W w') from fun W h=>HH.out cb ab pb W (below_step B7.out (Nat.le_refl _) h) (HCB.out.later (below_step B7.out (Nat.le_refl _) h)))
  have HP:=Lib.hid (show ∀W,Below w7.heap.size w7 W→Calls Tryz.prog 22 #[.agg #[.int .i64 5,.string ⟨#[]⟩,.string ⟨#[]⟩,.int .i64 0,.slice (some ⟨w4.heap.size,0,none⟩) 2 2],.agg #[.string o.id,.int .i64 o.kind,.int .i64 o.x,.int .i64 o.y,vr,vt]] W (fun e w'=>e=.returned (.bool (validC (bothC ca cb) && holdsC o.tags (bothC ca cb)))∧Below W.heap.size W w') from fun W h=>HH.out (bothC ca cb) _ 2 W (below_step B7.out (Nat.le_refl _) h) (CP7.out.later h))
  have HQ:=Lib.hid (show ∀W,Below w7.heap.size w7 W→Calls Tryz.prog 22 #[.agg #[.int .i64 5,.string ⟨#[]⟩,.string ⟨#[]⟩,.int .i64 0,.slice (some ⟨w4.heap.size+1+1,0,none⟩) 2 2],.agg #[.string o.id,.int .i64 o.kind,.int .i64 o.x,.int .i64 o.y,vr,vt]] W (fun e w'=>e=.returned (.bool (validC (bothC cb ca) && holdsC o.tags (bothC cb ca)))∧Below W.heap.size W w') from fun W h=>HH.out (bothC cb ca) _ 2 W (below_step B7.out (Nat.le_refl _) h) (CQ7.out.later h))
  have HO:=Lib.hid (show ∀W,Below w7.heap.size w7 W→Calls Tryz.prog 22 #[.agg #[.int .i64 4,.string ⟨#[]⟩,.string ⟨#[]⟩,.int .i64 0,.slice (some ⟨m,0,none⟩) 1 1],.agg #[.string o.id,.int .i64 o.kind,.int .i64 o.x,.int .i64 o.y,vr,vt]] W (fun e w'=>e=.returned (.bool (validC (otherC ca cb) && holdsC o.tags (otherC ca cb)))∧Below W.heap.size W w') from fun W h=>HH.out (otherC ca cb) _ 1 W (below_step B7.out (Nat.le_refl _) h) (CO7.out.later h))
  have HN:=Lib.hid (show ∀g W,Below w7.heap.size w7 W→CondIs W (notC (notC ca)) (some ⟨g,0,none⟩)→Calls Tryz.prog 22 #[.agg #[.int .i64 4,.string ⟨#[]⟩,.string ⟨#[]⟩,.int .i64 0,.slice (some ⟨g,0,none⟩) 1 1],.agg #[.string o.id,.int .i64 o.kind,.int .i64 o.x,.int .i64 o.y,vr,vt]] W (fun e w'=>e=.returned (.bool (validC (notC (notC ca)) && holdsC o.tags (notC (notC ca))))∧Below W.heap.size W w') from fun g W h hc=>HH.out (notC (notC ca)) _ 1 W (below_step B7.out (Nat.le_refl _) h) hc)
  have HE:=Lib.hid (show ∀g W,Below w7.heap.size w7 W→CondIs W (eitherC cb ca) (some ⟨g,0,none⟩)→Calls Tryz.prog 22 #[.agg #[.int .i64 6,.string ⟨#[]⟩,.string ⟨#[]⟩,.int .i64 0,.slice (some ⟨g,0,none⟩) 2 2],.agg #[.string o.id,.int .i64 o.kind,.int .i64 o.x,.int .i64 o.y,vr,vt]] W (fun e w'=>e=.returned (.bool (validC (eitherC cb ca) && holdsC o.tags (eitherC cb ca)))∧Below W.heap.size W w') from fun g W h hc=>HH.out (eitherC cb ca) _ 2 W (below_step B7.out (Nat.le_refl _) h) hc)
  obtain ⟨X,hX⟩:∃X,holdsC o.tags ca=X:=⟨_,rfl⟩
  obtain ⟨Y,hY⟩:∃Y,holdsC o.tags cb=Y:=⟨_,rfl⟩
  simp only [l6] at HA
  simp only [hX] at HA
  simp only [l7] at HB
  simp only [hY] at HB
  simp only [l2] at HP
  simp only [hX,hY] at HP
  simp only [l3] at HQ
  simp only [hX,hY] at HQ
  simp only [l4] at HO
  simp only [hX,hY] at HO
  simp only [l1] at HN
  simp only [hX] at HN
  simp only [l5] at HE
  simp only [hX,hY] at HE
  clear l1 l2 l3 l4 l5 l6 l7 HH hX hY CP7 CQ7 CO7
  obtain ⟨xz,x0,x1,x2,x3,x4⟩:=rk5 RA7.out
  obtain ⟨yz,y0,y1,y2,y3,y4⟩:=rk5 RB7.out
  obtain ⟨zz,z0,z1,z2,z3,z4,z5⟩:=rk6 RO7.out
  go_wp2
  have kx0:=cell_belowBy x0
  have kx1:=cell_belowBy x1
  have kx2:=cell_belowBy x2
  have kx3:=cell_belowBy x3
  have kx4:=cell_belowBy x4
  have ky0:=cell_belowBy y0
  have ky1:=cell_belowBy y1
  have ky2:=cell_belowBy y2
  have ky3:=cell_belowBy y3
  have ky4:=cell_belowBy y4
  have kz0:=cell_belowBy z0
  have kz1:=cell_belowBy z1
  have kz2:=cell_belowBy z2
  have kz3:=cell_belowBy z3
  have kz4:=cell_belowBy z4
  have kz5:=cell_belowBy z5
  clear x0 x1 x2 x3 x4 y0 y1 y2 y3 y4 z0 z1 z2 z3 z4 z5
  refine wp_region_quiet_below (by assumption) (by kernel_rfl) ?_
  repeat (go_big_quiet_step (first | (go_at_call 22;first | with_reducible exact calls_belowBy (HA.out _ (BelowBy.below _)) | with_reducible exact calls_belowBy (HB.out _ (BelowBy.below _)))))
  refine wpQuiet_nil ?_
  intro w8 hw'
  obtain ⟨⟨w9,hb⟩,hw''⟩:=hw'
  subst hw''
  have B78:=Lib.hid hb
  have RZ8:=Lib.hid (row_later hb RZ7.out)
  have RP8:=Lib.hid (row_later hb RP7.out)
  have RQ8:=Lib.hid (row_later hb RQ7.out)
  have RA8:=Lib.hid (row_later hb RA7.out)
  have RB8:=Lib.hid (row_later hb RB7.out)
  have RO8:=Lib.hid (row_later hb RO7.out)
  have B8:=Lib.hid (below_step B7.out (Nat.le_refl _) hb)
  clear hb RA7 RB7 RO7 B7
  clear RZ7 RP7 RQ7 HA HB
  clear kx0 ky0 kx1 ky1 kx2 ky2 kx3 ky3 kx4 ky4 kz0 kz1 kz2 kz3 kz4 kz5
  have hst:=StableW.below w8.heap.size w8 (Nat.le_refl _)
  have h10:∀W,Below w8.heap.size w8 W→Below w8.heap.size w8 W:=fun _ h=>h
  have h10':=h10
  cases X
  ·cases Y
   ·simp only [Bool.and_false,Bool.or_false] at HP HQ HO HE
    go_wp2
    refine wp_region_nodes 5 51 (fun W=>Below w8.heap.size w8 W) (fun W=>Below w8.heap.size w8 W) hmx (by kernel_rfl) (by kernel_rfl) (by kernel_rfl) hst (fun _ h=>h) (Below.refl _ _).drew (by kernel_rfl) ?_
    apply Exists.intro
    refine ⟨fun W hW=>?_,?_⟩
    ·have HWo:=Lib.hid (row_later hW RO8.out)
     have HWp:=Lib.hid (row_later hW RP8.out)
     have HWq:=Lib.hid (row_later hW RQ8.out)
     have HWz:=Lib.hid (row_later hW RZ8.out)
     have HWa:=Lib.hid (row_later hW RA8.out)
     have HWb:=Lib.hid (row_later hW RB8.out)
     have HWB:=Lib.hid (below_step B78.out (Nat.le_refl _) hW)
     clear hW
     obtain ⟨yz,y0,y1,y2,y3,y4,y5⟩:=rk6 HWo.out
     obtain ⟨pz,p0,p1,p2,p3,p4⟩:=rk5 HWp.out
     obtain ⟨qz,q0,q1,q2,q3,q4⟩:=rk5 HWq.out
     obtain ⟨zz,z0,z1,z2,z3,z4⟩:=rk5 HWz.out
     obtain ⟨az,a0,a1,a2,a3,a4⟩:=rk5 HWa.out
     obtain ⟨bz,b0,b1,b2,b3,b4⟩:=rk5 HWb.out
     have ky0:=cell_belowBy y0
     have ky1:=cell_belowBy y1
     have ky2:=cell_belowBy y2
     have ky3:=cell_belowBy y3
     have ky4:=cell_belowBy y4
     have ky5:=cell_belowBy y5
     have kp0:=cell_belowBy p0
     have kp1:=cell_belowBy p1
     have kp2:=cell_belowBy p2
     have kp3:=cell_belowBy p3
     have kp4:=cell_belowBy p4
     have kq0:=cell_belowBy q0
     have kq1:=cell_belowBy q1
     have kq2:=cell_belowBy q2
     have kq3:=cell_belowBy q3
     have kq4:=cell_belowBy q4
     have kz0:=cell_belowBy z0
     have kz1:=cell_belowBy z1
     have kz2:=cell_belowBy z2
     have kz3:=cell_belowBy z3
     have kz4:=cell_belowBy z4
     have ka0:=cell_belowBy a0
     have ka1:=cell_belowBy a1
     have ka2:=cell_belowBy a2
     have ka3:=cell_belowBy a3
     have ka4:=cell_belowBy a4
     have kb0:=cell_belowBy b0
     have kb1:=cell_belowBy b1
     have kb2:=cell_belowBy b2
     have kb3:=cell_belowBy b3
     have kb4:=cell_belowBy b4
     clear y0 y1 y2 y3 y4 y5 p0 p1 p2 p3 p4 q0 q1 q2 q3 q4 z0 z1 z2 z3 z4 a0 a1 a2 a3 a4 b0 b1 b2 b3 b4
     simp only [List.take_succ_cons,List.take_zero]
     repeat (go_big_quiet_step (first | (go_at_call 22;first | with_reducible exact calls_belowBy (HP.out _ (below_step HWB.out (Nat.le_refl _) (BelowBy.below _))) | with_reducible exact calls_belowBy (HQ.out _ (below_step HWB.out (Nat.le_refl _) (BelowBy.below _))) | with_reducible exact calls_belowBy (HO.out _ (below_step HWB.out (Nat.le_refl _) (BelowBy.below _))))))
     exact wpQuiet_nil rfl
    refine node_quiet 7 (some 64) (.agg #[.string o.id,.int .i64 o.kind,.int .i64 o.x,.int .i64 o.y,vr,vt]) rfl rfl hst h10 (by kernel_rfl) (by kernel_rfl) (by kernel_rfl) rfl (QuietB.atK fun W hW=>(by
     have HW:=Lib.hid (row_later (h10' W hW) RO8.out)
     clear hW
     obtain ⟨yz,y0,y1,y2,y3,y4,y5⟩:=rk6 HW.out
     go_simp)) ?_
    simp only [Act.put,List.setIfInBounds_toArray,List.set_cons_succ,List.set_cons_zero]
    refine node_quiet 9 (some 66) (.bool false) rfl rfl hst h10 (by kernel_rfl) (by kernel_rfl) (by kernel_rfl) rfl (QuietB.pure fun w=>(by go_simp)) ?_
    simp only [Act.put,List.setIfInBounds_toArray,List.set_cons_succ,List.set_cons_zero]
    refine any_one 5 (by kernel_rfl) rfl rfl ?_
    refine LoudB.mkD (some 62) (ι:=Nat) (fun g=>.agg #[.int .i64 4,.string ⟨#[]⟩,.string ⟨#[]⟩,.int .i64 0,.slice (some ⟨g,0,none⟩) 1 1]) (fun g=>fun W=>Below w8.heap.size w8 W∧W.heap[g]?=some (.cells #[.int .i64 ca.op,.string ca.key,.string ca.val,.int .i64 ca.n,.slice aa ca.kids.length pa] 24 (0,0))) rfl (fun g=>hst.and (StableW.row _ _)) (fun _ W d=>d.1) (fun W hS K' hK'=>?_) (fun g=>?_)
    ·go_simp
     refine (NK.out ca aa pa W).mono ?_
     rintro e w' ⟨g,rfl,hg,hrow,hb'⟩
     exact hK' g _ ⟨below_step hS (Nat.le_refl _) hb',hrow⟩
    simp only [Act.put,List.setIfInBounds_toArray,List.set_cons_succ,List.set_cons_zero]
    refine any_one 6 (by kernel_rfl) rfl rfl ?_
    refine LoudB.mkD (some 63) (ι:=Nat) (fun g=>.agg #[.int .i64 4,.string ⟨#[]⟩,.string ⟨#[]⟩,.int .i64 0,.slice (some ⟨g,0,none⟩) 1 1]) (fun h=>fun W=>Below w8.heap.size w8 W∧CondIs W (notC (notC ca)) (some ⟨h,0,none⟩)) rfl (fun h=>hst.and (fun _ _ s hb=>s.later hb)) (fun _ W d=>d.1) (fun W hS K' hK'=>?_) (fun h=>?_)
    ·go_simp
     refine (NN.out g W).mono ?_
     rintro e w' ⟨h,rfl,hg,hrow,hb'⟩
     have hB':=below_step hS.1 (Nat.le_refl _) hb'
     exact hK' h _ ⟨hB',cond_not2 (row_later hb' hS.2) hrow (HCA.out.later (below_step B8.out (Nat.le_refl _) hB'))⟩
    simp only [Act.put,List.setIfInBounds_toArray,List.set_cons_succ,List.set_cons_zero]
    refine any_one 8 (by kernel_rfl) rfl rfl ?_
    refine LoudB.mkD (some 65) (ι:=Unit) (fun _=>.bool false) (fun _=>fun W=>Below w8.heap.size w8 W) rfl (fun _=>hst) (fun _ W d=>d) (fun W hS K' hK'=>?_) (fun _=>?_)
    ·go_simp
     refine (HN.out h W (below_step B78.out (Nat.le_refl _) hS.1) hS.2).mono ?_
     rintro e w' ⟨rfl,hb'⟩
     exact hK' () _ (below_step hS.1 (Nat.le_refl _) hb')
    simp only [Act.put,List.setIfInBounds_toArray,List.set_cons_succ,List.set_cons_zero]
    refine nodes_quiet 10 35 11 (by kernel_rfl) (by kernel_rfl) (by kernel_rfl) hst h10 ⟨w8,Below.refl _ _⟩ (by kernel_rfl) (by kernel_rfl) ?_
    apply Exists.intro
    refine ⟨fun W hW=>?_,?_⟩
    ·have HWo:=Lib.hid (row_later hW RO8.out)
     have HWp:=Lib.hid (row_later hW RP8.out)
     have HWq:=Lib.hid (row_later hW RQ8.out)
     have HWz:=Lib.hid (row_later hW RZ8.out)
     have HWa:=Lib.hid (row_later hW RA8.out)
     have HWb:=Lib.hid (row_later hW RB8.out)
     have HWB:=Lib.hid (below_step B78.out (Nat.le_refl _) hW)
     clear hW
     obtain ⟨yz,y0,y1,y2,y3,y4,y5⟩:=rk6 HWo.out
     obtain ⟨pz,p0,p1,p2,p3,p4⟩:=rk5 HWp.out
     obtain ⟨qz,q0,q1,q2,q3,q4⟩:=rk5 HWq.out
     obtain ⟨zz,z0,z1,z2,z3,z4⟩:=rk5 HWz.out
     obtain ⟨az,a0,a1,a2,a3,a4⟩:=rk5 HWa.out
     obtain ⟨bz,b0,b1,b2,b3,b4⟩:=rk5 HWb.out
     have ky0:=cell_belowBy y0
     have ky1:=cell_belowBy y1
     have ky2:=cell_belowBy y2
     have ky3:=cell_belowBy y3
     have ky4:=cell_belowBy y4
     have ky5:=cell_belowBy y5
     have kp0:=cell_belowBy p0
     have kp1:=cell_belowBy p1
     have kp2:=cell_belowBy p2
     have kp3:=cell_belowBy p3
     have kp4:=cell_belowBy p4
     have kq0:=cell_belowBy q0
     have kq1:=cell_belowBy q1
     have kq2:=cell_belowBy q2
     have kq3:=cell_belowBy q3
     have kq4:=cell_belowBy q4
     have kz0:=cell_belowBy z0
     have kz1:=cell_belowBy z1
     have kz2:=cell_belowBy z2
     have kz3:=cell_belowBy z3
     have kz4:=cell_belowBy z4
     have ka0:=cell_belowBy a0
     have ka1:=cell_belowBy a1
     have ka2:=cell_belowBy a2
     have ka3:=cell_belowBy a3
     have ka4:=cell_belowBy a4
     have kb0:=cell_belowBy b0
     have kb1:=cell_belowBy b1
     have kb2:=cell_belowBy b2
     have kb3:=cell_belowBy b3
     have kb4:=cell_belowBy b4
     clear y0 y1 y2 y3 y4 y5 p0 p1 p2 p3 p4 q0 q1 q2 q3 q4 z0 z1 z2 z3 z4 a0 a1 a2 a3 a4 b0 b1 b2 b3 b4
     simp only [List.drop_succ_cons,List.drop_zero,List.take_succ_cons,List.take_zero]
     repeat (go_big_quiet_step (first | (go_at_call 22;first | with_reducible exact calls_belowBy (HP.out _ (below_step HWB.out (Nat.le_refl _) (BelowBy.below _))) | with_reducible exact calls_belowBy (HQ.out _ (below_step HWB.out (Nat.le_refl _) (BelowBy.below _))) | with_reducible exact calls_belowBy (HO.out _ (below_step HWB.out (Nat.le_refl _) (BelowBy.below _))))))
     exact wpQuiet_nil rfl
    refine node_quiet 47 (some 104) (.agg #[.string o.id,.int .i64 o.kind,.int .i64 o.x,.int .i64 o.y,vr,vt]) rfl rfl hst h10 (by kernel_rfl) (by kernel_rfl) (by kernel_rfl) rfl (QuietB.atK fun W hW=>(by
     have HW:=Lib.hid (row_later (h10' W hW) RO8.out)
     clear hW
     obtain ⟨yz,y0,y1,y2,y3,y4,y5⟩:=rk6 HW.out
     go_simp)) ?_
    simp only [Act.put,List.setIfInBounds_toArray,List.set_cons_succ,List.set_cons_zero]
    refine node_quiet 49 (some 106) (.bool false) rfl rfl hst h10 (by kernel_rfl) (by kernel_rfl) (by kernel_rfl) rfl (QuietB.pure fun w=>(by go_simp)) ?_
    simp only [Act.put,List.setIfInBounds_toArray,List.set_cons_succ,List.set_cons_zero]
    refine any_one 45 (by kernel_rfl) rfl rfl ?_
    refine LoudB.mkD (some 102) (ι:=Nat) (fun g=>.slice (some ⟨g,0,none⟩) 2 2) (fun g=>fun W=>Below w8.heap.size w8 W∧CondIs W (eitherC cb ca) (some ⟨g,0,none⟩)) rfl (fun h=>hst.and (fun _ _ s hb=>s.later hb)) (fun _ W d=>d.1) (fun W hS K' hK'=>?_) (fun g=>?_)
    ·go_simp
     have hB':=hS.alloc hS.size (.cells #[.int .i64 cb.op,.string cb.key,.string cb.val,.int .i64 cb.n,.slice ab cb.kids.length pb,.int .i64 ca.op,.string ca.key,.string ca.val,.int .i64 ca.n,.slice aa ca.kids.length pa] 24)
     have hB2:=below_step B8.out (Nat.le_refl _) hB'
     exact hK' W.heap.size _ ⟨hB',cond_two 6 (kids_two (row_new _ _) (HCB.out.later hB2) (HCA.out.later hB2))⟩
    simp only [Act.put,List.setIfInBounds_toArray,List.set_cons_succ,List.set_cons_zero]
    refine node_quiet 46 (some 103) (.agg #[.int .i64 6,.string ⟨#[]⟩,.string ⟨#[]⟩,.int .i64 0,.slice (some ⟨g,0,none⟩) 2 2]) rfl rfl (hst.and (fun _ _ s hb=>s.later hb)) (fun _ d=>d.1) (by kernel_rfl) (by kernel_rfl) (by kernel_rfl) rfl (QuietB.pure fun w=>(by go_simp)) ?_
    simp only [Act.put,List.setIfInBounds_toArray,List.set_cons_succ,List.set_cons_zero]
    refine any_one 48 (by kernel_rfl) rfl rfl ?_
    refine LoudB.mkD (some 105) (ι:=Unit) (fun _=>.bool false) (fun _=>fun W=>Below w8.heap.size w8 W) rfl (fun _=>hst) (fun _ W d=>d) (fun W hS K' hK'=>?_) (fun _=>?_)
    ·go_simp
     refine (HE.out g W (below_step B78.out (Nat.le_refl _) hS.1) hS.2).mono ?_
     rintro e w' ⟨rfl,hb'⟩
     exact hK' () _ (below_step hS.1 (Nat.le_refl _) hb')
    simp only [Act.put,List.setIfInBounds_toArray,List.set_cons_succ,List.set_cons_zero]
    refine nodes_quiet 50 6 0 (by kernel_rfl) (by kernel_rfl) (by kernel_rfl) hst h10 ⟨w8,Below.refl _ _⟩ (by kernel_rfl) (by kernel_rfl) ?_
    apply Exists.intro
    refine ⟨fun W hW=>?_,?_⟩
    ·have HWo:=Lib.hid (row_later hW RO8.out)
     have HWp:=Lib.hid (row_later hW RP8.out)
     have HWq:=Lib.hid (row_later hW RQ8.out)
     have HWz:=Lib.hid (row_later hW RZ8.out)
     have HWa:=Lib.hid (row_later hW RA8.out)
     have HWb:=Lib.hid (row_later hW RB8.out)
     have HWB:=Lib.hid (below_step B78.out (Nat.le_refl _) hW)
     clear hW
     obtain ⟨yz,y0,y1,y2,y3,y4,y5⟩:=rk6 HWo.out
     obtain ⟨pz,p0,p1,p2,p3,p4⟩:=rk5 HWp.out
     obtain ⟨qz,q0,q1,q2,q3,q4⟩:=rk5 HWq.out
     obtain ⟨zz,z0,z1,z2,z3,z4⟩:=rk5 HWz.out
     obtain ⟨az,a0,a1,a2,a3,a4⟩:=rk5 HWa.out
     obtain ⟨bz,b0,b1,b2,b3,b4⟩:=rk5 HWb.out
     have ky0:=cell_belowBy y0
     have ky1:=cell_belowBy y1
     have ky2:=cell_belowBy y2
     have ky3:=cell_belowBy y3
     have ky4:=cell_belowBy y4
     have ky5:=cell_belowBy y5
     have kp0:=cell_belowBy p0
     have kp1:=cell_belowBy p1
     have kp2:=cell_belowBy p2
     have kp3:=cell_belowBy p3
     have kp4:=cell_belowBy p4
     have kq0:=cell_belowBy q0
     have kq1:=cell_belowBy q1
     have kq2:=cell_belowBy q2
     have kq3:=cell_belowBy q3
     have kq4:=cell_belowBy q4
     have kz0:=cell_belowBy z0
     have kz1:=cell_belowBy z1
     have kz2:=cell_belowBy z2
     have kz3:=cell_belowBy z3
     have kz4:=cell_belowBy z4
     have ka0:=cell_belowBy a0
     have ka1:=cell_belowBy a1
     have ka2:=cell_belowBy a2
     have ka3:=cell_belowBy a3
     have ka4:=cell_belowBy a4
     have kb0:=cell_belowBy b0
     have kb1:=cell_belowBy b1
     have kb2:=cell_belowBy b2
     have kb3:=cell_belowBy b3
     have kb4:=cell_belowBy b4
     clear y0 y1 y2 y3 y4 y5 p0 p1 p2 p3 p4 q0 q1 q2 q3 q4 z0 z1 z2 z3 z4 a0 a1 a2 a3 a4 b0 b1 b2 b3 b4
     simp only [List.drop_succ_cons,List.drop_zero,List.take_succ_cons,List.take_zero]
     repeat (go_big_quiet_step (first | (go_at_call 22;first | with_reducible exact calls_belowBy (HP.out _ (below_step HWB.out (Nat.le_refl _) (BelowBy.below _))) | with_reducible exact calls_belowBy (HQ.out _ (below_step HWB.out (Nat.le_refl _) (BelowBy.below _))) | with_reducible exact calls_belowBy (HO.out _ (below_step HWB.out (Nat.le_refl _) (BelowBy.below _))))))
     exact wpQuiet_nil rfl
    refine any_end (by kernel_rfl) fun w9 hw9=>?_
    go_wp2
    go_ret
    exact ⟨rfl,below_step B8.out (Nat.le_refl _) hw9⟩
   ·simp only [Bool.and_true,Bool.or_true] at HP HQ HO HE
    go_wp2
    refine wp_region_nodes 5 51 (fun W=>Below w8.heap.size w8 W) (fun W=>Below w8.heap.size w8 W) hmx (by kernel_rfl) (by kernel_rfl) (by kernel_rfl) hst (fun _ h=>h) (Below.refl _ _).drew (by kernel_rfl) ?_
    apply Exists.intro
    refine ⟨fun W hW=>?_,?_⟩
    ·have HWo:=Lib.hid (row_later hW RO8.out)
     have HWp:=Lib.hid (row_later hW RP8.out)
     have HWq:=Lib.hid (row_later hW RQ8.out)
     have HWz:=Lib.hid (row_later hW RZ8.out)
     have HWa:=Lib.hid (row_later hW RA8.out)
     have HWb:=Lib.hid (row_later hW RB8.out)
     have HWB:=Lib.hid (below_step B78.out (Nat.le_refl _) hW)
     clear hW
     obtain ⟨yz,y0,y1,y2,y3,y4,y5⟩:=rk6 HWo.out
     obtain ⟨pz,p0,p1,p2,p3,p4⟩:=rk5 HWp.out
     obtain ⟨qz,q0,q1,q2,q3,q4⟩:=rk5 HWq.out
     obtain ⟨zz,z0,z1,z2,z3,z4⟩:=rk5 HWz.out
     obtain ⟨az,a0,a1,a2,a3,a4⟩:=rk5 HWa.out
     obtain ⟨bz,b0,b1,b2,b3,b4⟩:=rk5 HWb.out
     have ky0:=cell_belowBy y0
     have ky1:=cell_belowBy y1
     have ky2:=cell_belowBy y2
     have ky3:=cell_belowBy y3
     have ky4:=cell_belowBy y4
     have ky5:=cell_belowBy y5
     have kp0:=cell_belowBy p0
     have kp1:=cell_belowBy p1
     have kp2:=cell_belowBy p2
     have kp3:=cell_belowBy p3
     have kp4:=cell_belowBy p4
     have kq0:=cell_belowBy q0
     have kq1:=cell_belowBy q1
     have kq2:=cell_belowBy q2
     have kq3:=cell_belowBy q3
     have kq4:=cell_belowBy q4
     have kz0:=cell_belowBy z0
     have kz1:=cell_belowBy z1
     have kz2:=cell_belowBy z2
     have kz3:=cell_belowBy z3
     have kz4:=cell_belowBy z4
     have ka0:=cell_belowBy a0
     have ka1:=cell_belowBy a1
     have ka2:=cell_belowBy a2
     have ka3:=cell_belowBy a3
     have ka4:=cell_belowBy a4
     have kb0:=cell_belowBy b0
     have kb1:=cell_belowBy b1
     have kb2:=cell_belowBy b2
     have kb3:=cell_belowBy b3
     have kb4:=cell_belowBy b4
     clear y0 y1 y2 y3 y4 y5 p0 p1 p2 p3 p4 q0 q1 q2 q3 q4 z0 z1 z2 z3 z4 a0 a1 a2 a3 a4 b0 b1 b2 b3 b4
     simp only [List.take_succ_cons,List.take_zero]
     repeat (go_big_quiet_step (first | (go_at_call 22;first | with_reducible exact calls_belowBy (HP.out _ (below_step HWB.out (Nat.le_refl _) (BelowBy.below _))) | with_reducible exact calls_belowBy (HQ.out _ (below_step HWB.out (Nat.le_refl _) (BelowBy.below _))) | with_reducible exact calls_belowBy (HO.out _ (below_step HWB.out (Nat.le_refl _) (BelowBy.below _))))))
     exact wpQuiet_nil rfl
    refine node_quiet 7 (some 64) (.agg #[.string o.id,.int .i64 o.kind,.int .i64 o.x,.int .i64 o.y,vr,vt]) rfl rfl hst h10 (by kernel_rfl) (by kernel_rfl) (by kernel_rfl) rfl (QuietB.atK fun W hW=>(by
     have HW:=Lib.hid (row_later (h10' W hW) RO8.out)
     clear hW
     obtain ⟨yz,y0,y1,y2,y3,y4,y5⟩:=rk6 HW.out
     go_simp)) ?_
    simp only [Act.put,List.setIfInBounds_toArray,List.set_cons_succ,List.set_cons_zero]
    refine node_quiet 9 (some 66) (.bool false) rfl rfl hst h10 (by kernel_rfl) (by kernel_rfl) (by kernel_rfl) rfl (QuietB.pure fun w=>(by go_simp)) ?_
    simp only [Act.put,List.setIfInBounds_toArray,List.set_cons_succ,List.set_cons_zero]
    refine any_one 5 (by kernel_rfl) rfl rfl ?_
    refine LoudB.mkD (some 62) (ι:=Nat) (fun g=>.agg #[.int .i64 4,.string ⟨#[]⟩,.string ⟨#[]⟩,.int .i64 0,.slice (some ⟨g,0,none⟩) 1 1]) (fun g=>fun W=>Below w8.heap.size w8 W∧W.heap[g]?=some (.cells #[.int .i64 ca.op,.string ca.key,.string ca.val,.int .i64 ca.n,.slice aa ca.kids.length pa] 24 (0,0))) rfl (fun g=>hst.and (StableW.row _ _)) (fun _ W d=>d.1) (fun W hS K' hK'=>?_) (fun g=>?_)
    ·go_simp
     refine (NK.out ca aa pa W).mono ?_
     rintro e w' ⟨g,rfl,hg,hrow,hb'⟩
     exact hK' g _ ⟨below_step hS (Nat.le_refl _) hb',hrow⟩
    simp only [Act.put,List.setIfInBounds_toArray,List.set_cons_succ,List.set_cons_zero]
    refine any_one 6 (by kernel_rfl) rfl rfl ?_
    refine LoudB.mkD (some 63) (ι:=Nat) (fun g=>.agg #[.int .i64 4,.string ⟨#[]⟩,.string ⟨#[]⟩,.int .i64 0,.slice (some ⟨g,0,none⟩) 1 1]) (fun h=>fun W=>Below w8.heap.size w8 W∧CondIs W (notC (notC ca)) (some ⟨h,0,none⟩)) rfl (fun h=>hst.and (fun _ _ s hb=>s.later hb)) (fun _ W d=>d.1) (fun W hS K' hK'=>?_) (fun h=>?_)
    ·go_simp
     refine (NN.out g W).mono ?_
     rintro e w' ⟨h,rfl,hg,hrow,hb'⟩
     have hB':=below_step hS.1 (Nat.le_refl _) hb'
     exact hK' h _ ⟨hB',cond_not2 (row_later hb' hS.2) hrow (HCA.out.later (below_step B8.out (Nat.le_refl _) hB'))⟩
    simp only [Act.put,List.setIfInBounds_toArray,List.set_cons_succ,List.set_cons_zero]
    refine any_one 8 (by kernel_rfl) rfl rfl ?_
    refine LoudB.mkD (some 65) (ι:=Unit) (fun _=>.bool false) (fun _=>fun W=>Below w8.heap.size w8 W) rfl (fun _=>hst) (fun _ W d=>d) (fun W hS K' hK'=>?_) (fun _=>?_)
    ·go_simp
     refine (HN.out h W (below_step B78.out (Nat.le_refl _) hS.1) hS.2).mono ?_
     rintro e w' ⟨rfl,hb'⟩
     exact hK' () _ (below_step hS.1 (Nat.le_refl _) hb')
    simp only [Act.put,List.setIfInBounds_toArray,List.set_cons_succ,List.set_cons_zero]
    refine nodes_quiet 10 35 11 (by kernel_rfl) (by kernel_rfl) (by kernel_rfl) hst h10 ⟨w8,Below.refl _ _⟩ (by kernel_rfl) (by kernel_rfl) ?_
    apply Exists.intro
    refine ⟨fun W hW=>?_,?_⟩
    ·have HWo:=Lib.hid (row_later hW RO8.out)
     have HWp:=Lib.hid (row_later hW RP8.out)
     have HWq:=Lib.hid (row_later hW RQ8.out)
     have HWz:=Lib.hid (row_later hW RZ8.out)
     have HWa:=Lib.hid (row_later hW RA8.out)
     have HWb:=Lib.hid (row_later hW RB8.out)
     have HWB:=Lib.hid (below_step B78.out (Nat.le_refl _) hW)
     clear hW
     obtain ⟨yz,y0,y1,y2,y3,y4,y5⟩:=rk6 HWo.out
     obtain ⟨pz,p0,p1,p2,p3,p4⟩:=rk5 HWp.out
     obtain ⟨qz,q0,q1,q2,q3,q4⟩:=rk5 HWq.out
     obtain ⟨zz,z0,z1,z2,z3,z4⟩:=rk5 HWz.out
     obtain ⟨az,a0,a1,a2,a3,a4⟩:=rk5 HWa.out
     obtain ⟨bz,b0,b1,b2,b3,b4⟩:=rk5 HWb.out
     have ky0:=cell_belowBy y0
     have ky1:=cell_belowBy y1
     have ky2:=cell_belowBy y2
     have ky3:=cell_belowBy y3
     have ky4:=cell_belowBy y4
     have ky5:=cell_belowBy y5
     have kp0:=cell_belowBy p0
     have kp1:=cell_belowBy p1
     have kp2:=cell_belowBy p2
     have kp3:=cell_belowBy p3
     have kp4:=cell_belowBy p4
     have kq0:=cell_belowBy q0
     have kq1:=cell_belowBy q1
     have kq2:=cell_belowBy q2
     have kq3:=cell_belowBy q3
     have kq4:=cell_belowBy q4
     have kz0:=cell_belowBy z0
     have kz1:=cell_belowBy z1
     have kz2:=cell_belowBy z2
     have kz3:=cell_belowBy z3
     have kz4:=cell_belowBy z4
     have ka0:=cell_belowBy a0
     have ka1:=cell_belowBy a1
     have ka2:=cell_belowBy a2
     have ka3:=cell_belowBy a3
     have ka4:=cell_belowBy a4
     have kb0:=cell_belowBy b0
     have kb1:=cell_belowBy b1
     have kb2:=cell_belowBy b2
     have kb3:=cell_belowBy b3
     have kb4:=cell_belowBy b4
     clear y0 y1 y2 y3 y4 y5 p0 p1 p2 p3 p4 q0 q1 q2 q3 q4 z0 z1 z2 z3 z4 a0 a1 a2 a3 a4 b0 b1 b2 b3 b4
     simp only [List.drop_succ_cons,List.drop_zero,List.take_succ_cons,List.take_zero]
     repeat (go_big_quiet_step (first | (go_at_call 22;first | with_reducible exact calls_belowBy (HP.out _ (below_step HWB.out (Nat.le_refl _) (BelowBy.below _))) | with_reducible exact calls_belowBy (HQ.out _ (below_step HWB.out (Nat.le_refl _) (BelowBy.below _))) | with_reducible exact calls_belowBy (HO.out _ (below_step HWB.out (Nat.le_refl _) (BelowBy.below _))))))
     exact wpQuiet_nil rfl
    refine node_quiet 47 (some 104) (.agg #[.string o.id,.int .i64 o.kind,.int .i64 o.x,.int .i64 o.y,vr,vt]) rfl rfl hst h10 (by kernel_rfl) (by kernel_rfl) (by kernel_rfl) rfl (QuietB.atK fun W hW=>(by
     have HW:=Lib.hid (row_later (h10' W hW) RO8.out)
     clear hW
     obtain ⟨yz,y0,y1,y2,y3,y4,y5⟩:=rk6 HW.out
     go_simp)) ?_
    simp only [Act.put,List.setIfInBounds_toArray,List.set_cons_succ,List.set_cons_zero]
    refine node_quiet 49 (some 106) (.bool false) rfl rfl hst h10 (by kernel_rfl) (by kernel_rfl) (by kernel_rfl) rfl (QuietB.pure fun w=>(by go_simp)) ?_
    simp only [Act.put,List.setIfInBounds_toArray,List.set_cons_succ,List.set_cons_zero]
    refine any_one 45 (by kernel_rfl) rfl rfl ?_
    refine LoudB.mkD (some 102) (ι:=Nat) (fun g=>.slice (some ⟨g,0,none⟩) 2 2) (fun g=>fun W=>Below w8.heap.size w8 W∧CondIs W (eitherC cb ca) (some ⟨g,0,none⟩)) rfl (fun h=>hst.and (fun _ _ s hb=>s.later hb)) (fun _ W d=>d.1) (fun W hS K' hK'=>?_) (fun g=>?_)
    ·go_simp
     have hB':=hS.alloc hS.size (.cells #[.int .i64 cb.op,.string cb.key,.string cb.val,.int .i64 cb.n,.slice ab cb.kids.length pb,.int .i64 ca.op,.string ca.key,.string ca.val,.int .i64 ca.n,.slice aa ca.kids.length pa] 24)
     have hB2:=below_step B8.out (Nat.le_refl _) hB'
     exact hK' W.heap.size _ ⟨hB',cond_two 6 (kids_two (row_new _ _) (HCB.out.later hB2) (HCA.out.later hB2))⟩
    simp only [Act.put,List.setIfInBounds_toArray,List.set_cons_succ,List.set_cons_zero]
    refine node_quiet 46 (some 103) (.agg #[.int .i64 6,.string ⟨#[]⟩,.string ⟨#[]⟩,.int .i64 0,.slice (some ⟨g,0,none⟩) 2 2]) rfl rfl (hst.and (fun _ _ s hb=>s.later hb)) (fun _ d=>d.1) (by kernel_rfl) (by kernel_rfl) (by kernel_rfl) rfl (QuietB.pure fun w=>(by go_simp)) ?_
    simp only [Act.put,List.setIfInBounds_toArray,List.set_cons_succ,List.set_cons_zero]
    refine any_one 48 (by kernel_rfl) rfl rfl ?_
    refine LoudB.mkD (some 105) (ι:=Unit) (fun _=>.bool true) (fun _=>fun W=>Below w8.heap.size w8 W) rfl (fun _=>hst) (fun _ W d=>d) (fun W hS K' hK'=>?_) (fun _=>?_)
    ·go_simp
     refine (HE.out g W (below_step B78.out (Nat.le_refl _) hS.1) hS.2).mono ?_
     rintro e w' ⟨rfl,hb'⟩
     exact hK' () _ (below_step hS.1 (Nat.le_refl _) hb')
    simp only [Act.put,List.setIfInBounds_toArray,List.set_cons_succ,List.set_cons_zero]
    refine nodes_quiet 50 6 0 (by kernel_rfl) (by kernel_rfl) (by kernel_rfl) hst h10 ⟨w8,Below.refl _ _⟩ (by kernel_rfl) (by kernel_rfl) ?_
    apply Exists.intro
    refine ⟨fun W hW=>?_,?_⟩
    ·have HWo:=Lib.hid (row_later hW RO8.out)
     have HWp:=Lib.hid (row_later hW RP8.out)
     have HWq:=Lib.hid (row_later hW RQ8.out)
     have HWz:=Lib.hid (row_later hW RZ8.out)
     have HWa:=Lib.hid (row_later hW RA8.out)
     have HWb:=Lib.hid (row_later hW RB8.out)
     have HWB:=Lib.hid (below_step B78.out (Nat.le_refl _) hW)
     clear hW
     obtain ⟨yz,y0,y1,y2,y3,y4,y5⟩:=rk6 HWo.out
     obtain ⟨pz,p0,p1,p2,p3,p4⟩:=rk5 HWp.out
     obtain ⟨qz,q0,q1,q2,q3,q4⟩:=rk5 HWq.out
     obtain ⟨zz,z0,z1,z2,z3,z4⟩:=rk5 HWz.out
     obtain ⟨az,a0,a1,a2,a3,a4⟩:=rk5 HWa.out
     obtain ⟨bz,b0,b1,b2,b3,b4⟩:=rk5 HWb.out
     have ky0:=cell_belowBy y0
     have ky1:=cell_belowBy y1
     have ky2:=cell_belowBy y2
     have ky3:=cell_belowBy y3
     have ky4:=cell_belowBy y4
     have ky5:=cell_belowBy y5
     have kp0:=cell_belowBy p0
     have kp1:=cell_belowBy p1
     have kp2:=cell_belowBy p2
     have kp3:=cell_belowBy p3
     have kp4:=cell_belowBy p4
     have kq0:=cell_belowBy q0
     have kq1:=cell_belowBy q1
     have kq2:=cell_belowBy q2
     have kq3:=cell_belowBy q3
     have kq4:=cell_belowBy q4
     have kz0:=cell_belowBy z0
     have kz1:=cell_belowBy z1
     have kz2:=cell_belowBy z2
     have kz3:=cell_belowBy z3
     have kz4:=cell_belowBy z4
     have ka0:=cell_belowBy a0
     have ka1:=cell_belowBy a1
     have ka2:=cell_belowBy a2
     have ka3:=cell_belowBy a3
     have ka4:=cell_belowBy a4
     have kb0:=cell_belowBy b0
     have kb1:=cell_belowBy b1
     have kb2:=cell_belowBy b2
     have kb3:=cell_belowBy b3
     have kb4:=cell_belowBy b4
     clear y0 y1 y2 y3 y4 y5 p0 p1 p2 p3 p4 q0 q1 q2 q3 q4 z0 z1 z2 z3 z4 a0 a1 a2 a3 a4 b0 b1 b2 b3 b4
     simp only [List.drop_succ_cons,List.drop_zero,List.take_succ_cons,List.take_zero]
     repeat (go_big_quiet_step (first | (go_at_call 22;first | with_reducible exact calls_belowBy (HP.out _ (below_step HWB.out (Nat.le_refl _) (BelowBy.below _))) | with_reducible exact calls_belowBy (HQ.out _ (below_step HWB.out (Nat.le_refl _) (BelowBy.below _))) | with_reducible exact calls_belowBy (HO.out _ (below_step HWB.out (Nat.le_refl _) (BelowBy.below _))))))
     exact wpQuiet_nil rfl
    refine any_end (by kernel_rfl) fun w9 hw9=>?_
    go_wp2
    go_ret
    exact ⟨rfl,below_step B8.out (Nat.le_refl _) hw9⟩
  ·cases Y
   ·simp only [Bool.and_false,Bool.or_false] at HP HQ HO HE
    go_wp2
    refine wp_region_nodes 5 51 (fun W=>Below w8.heap.size w8 W) (fun W=>Below w8.heap.size w8 W) hmx (by kernel_rfl) (by kernel_rfl) (by kernel_rfl) hst (fun _ h=>h) (Below.refl _ _).drew (by kernel_rfl) ?_
    apply Exists.intro
    refine ⟨fun W hW=>?_,?_⟩
    ·have HWo:=Lib.hid (row_later hW RO8.out)
     have HWp:=Lib.hid (row_later hW RP8.out)
     have HWq:=Lib.hid (row_later hW RQ8.out)
     have HWz:=Lib.hid (row_later hW RZ8.out)
     have HWa:=Lib.hid (row_later hW RA8.out)
     have HWb:=Lib.hid (row_later hW RB8.out)
     have HWB:=Lib.hid (below_step B78.out (Nat.le_refl _) hW)
     clear hW
     obtain ⟨yz,y0,y1,y2,y3,y4,y5⟩:=rk6 HWo.out
     obtain ⟨pz,p0,p1,p2,p3,p4⟩:=rk5 HWp.out
     obtain ⟨qz,q0,q1,q2,q3,q4⟩:=rk5 HWq.out
     obtain ⟨zz,z0,z1,z2,z3,z4⟩:=rk5 HWz.out
     obtain ⟨az,a0,a1,a2,a3,a4⟩:=rk5 HWa.out
     obtain ⟨bz,b0,b1,b2,b3,b4⟩:=rk5 HWb.out
     have ky0:=cell_belowBy y0
     have ky1:=cell_belowBy y1
     have ky2:=cell_belowBy y2
     have ky3:=cell_belowBy y3
     have ky4:=cell_belowBy y4
     have ky5:=cell_belowBy y5
     have kp0:=cell_belowBy p0
     have kp1:=cell_belowBy p1
     have kp2:=cell_belowBy p2
     have kp3:=cell_belowBy p3
     have kp4:=cell_belowBy p4
     have kq0:=cell_belowBy q0
     have kq1:=cell_belowBy q1
     have kq2:=cell_belowBy q2
     have kq3:=cell_belowBy q3
     have kq4:=cell_belowBy q4
     have kz0:=cell_belowBy z0
     have kz1:=cell_belowBy z1
     have kz2:=cell_belowBy z2
     have kz3:=cell_belowBy z3
     have kz4:=cell_belowBy z4
     have ka0:=cell_belowBy a0
     have ka1:=cell_belowBy a1
     have ka2:=cell_belowBy a2
     have ka3:=cell_belowBy a3
     have ka4:=cell_belowBy a4
     have kb0:=cell_belowBy b0
     have kb1:=cell_belowBy b1
     have kb2:=cell_belowBy b2
     have kb3:=cell_belowBy b3
     have kb4:=cell_belowBy b4
     clear y0 y1 y2 y3 y4 y5 p0 p1 p2 p3 p4 q0 q1 q2 q3 q4 z0 z1 z2 z3 z4 a0 a1 a2 a3 a4 b0 b1 b2 b3 b4
     simp only [List.take_succ_cons,List.take_zero]
     repeat (go_big_quiet_step (first | (go_at_call 22;first | with_reducible exact calls_belowBy (HP.out _ (below_step HWB.out (Nat.le_refl _) (BelowBy.below _))) | with_reducible exact calls_belowBy (HQ.out _ (below_step HWB.out (Nat.le_refl _) (BelowBy.below _))) | with_reducible exact calls_belowBy (HO.out _ (below_step HWB.out (Nat.le_refl _) (BelowBy.below _))))))
     exact wpQuiet_nil rfl
    refine node_quiet 7 (some 64) (.agg #[.string o.id,.int .i64 o.kind,.int .i64 o.x,.int .i64 o.y,vr,vt]) rfl rfl hst h10 (by kernel_rfl) (by kernel_rfl) (by kernel_rfl) rfl (QuietB.atK fun W hW=>(by
     have HW:=Lib.hid (row_later (h10' W hW) RO8.out)
     clear hW
     obtain ⟨yz,y0,y1,y2,y3,y4,y5⟩:=rk6 HW.out
     go_simp)) ?_
    simp only [Act.put,List.setIfInBounds_toArray,List.set_cons_succ,List.set_cons_zero]
    refine node_quiet 9 (some 66) (.bool true) rfl rfl hst h10 (by kernel_rfl) (by kernel_rfl) (by kernel_rfl) rfl (QuietB.pure fun w=>(by go_simp)) ?_
    simp only [Act.put,List.setIfInBounds_toArray,List.set_cons_succ,List.set_cons_zero]
    refine any_one 5 (by kernel_rfl) rfl rfl ?_
    refine LoudB.mkD (some 62) (ι:=Nat) (fun g=>.agg #[.int .i64 4,.string ⟨#[]⟩,.string ⟨#[]⟩,.int .i64 0,.slice (some ⟨g,0,none⟩) 1 1]) (fun g=>fun W=>Below w8.heap.size w8 W∧W.heap[g]?=some (.cells #[.int .i64 ca.op,.string ca.key,.string ca.val,.int .i64 ca.n,.slice aa ca.kids.length pa] 24 (0,0))) rfl (fun g=>hst.and (StableW.row _ _)) (fun _ W d=>d.1) (fun W hS K' hK'=>?_) (fun g=>?_)
    ·go_simp
     refine (NK.out ca aa pa W).mono ?_
     rintro e w' ⟨g,rfl,hg,hrow,hb'⟩
     exact hK' g _ ⟨below_step hS (Nat.le_refl _) hb',hrow⟩
    simp only [Act.put,List.setIfInBounds_toArray,List.set_cons_succ,List.set_cons_zero]
    refine any_one 6 (by kernel_rfl) rfl rfl ?_
    refine LoudB.mkD (some 63) (ι:=Nat) (fun g=>.agg #[.int .i64 4,.string ⟨#[]⟩,.string ⟨#[]⟩,.int .i64 0,.slice (some ⟨g,0,none⟩) 1 1]) (fun h=>fun W=>Below w8.heap.size w8 W∧CondIs W (notC (notC ca)) (some ⟨h,0,none⟩)) rfl (fun h=>hst.and (fun _ _ s hb=>s.later hb)) (fun _ W d=>d.1) (fun W hS K' hK'=>?_) (fun h=>?_)
    ·go_simp
     refine (NN.out g W).mono ?_
     rintro e w' ⟨h,rfl,hg,hrow,hb'⟩
     have hB':=below_step hS.1 (Nat.le_refl _) hb'
     exact hK' h _ ⟨hB',cond_not2 (row_later hb' hS.2) hrow (HCA.out.later (below_step B8.out (Nat.le_refl _) hB'))⟩
    simp only [Act.put,List.setIfInBounds_toArray,List.set_cons_succ,List.set_cons_zero]
    refine any_one 8 (by kernel_rfl) rfl rfl ?_
    refine LoudB.mkD (some 65) (ι:=Unit) (fun _=>.bool true) (fun _=>fun W=>Below w8.heap.size w8 W) rfl (fun _=>hst) (fun _ W d=>d) (fun W hS K' hK'=>?_) (fun _=>?_)
    ·go_simp
     refine (HN.out h W (below_step B78.out (Nat.le_refl _) hS.1) hS.2).mono ?_
     rintro e w' ⟨rfl,hb'⟩
     exact hK' () _ (below_step hS.1 (Nat.le_refl _) hb')
    simp only [Act.put,List.setIfInBounds_toArray,List.set_cons_succ,List.set_cons_zero]
    refine nodes_quiet 10 35 11 (by kernel_rfl) (by kernel_rfl) (by kernel_rfl) hst h10 ⟨w8,Below.refl _ _⟩ (by kernel_rfl) (by kernel_rfl) ?_
    apply Exists.intro
    refine ⟨fun W hW=>?_,?_⟩
    ·have HWo:=Lib.hid (row_later hW RO8.out)
     have HWp:=Lib.hid (row_later hW RP8.out)
     have HWq:=Lib.hid (row_later hW RQ8.out)
     have HWz:=Lib.hid (row_later hW RZ8.out)
     have HWa:=Lib.hid (row_later hW RA8.out)
     have HWb:=Lib.hid (row_later hW RB8.out)
     have HWB:=Lib.hid (below_step B78.out (Nat.le_refl _) hW)
     clear hW
     obtain ⟨yz,y0,y1,y2,y3,y4,y5⟩:=rk6 HWo.out
     obtain ⟨pz,p0,p1,p2,p3,p4⟩:=rk5 HWp.out
     obtain ⟨qz,q0,q1,q2,q3,q4⟩:=rk5 HWq.out
     obtain ⟨zz,z0,z1,z2,z3,z4⟩:=rk5 HWz.out
     obtain ⟨az,a0,a1,a2,a3,a4⟩:=rk5 HWa.out
     obtain ⟨bz,b0,b1,b2,b3,b4⟩:=rk5 HWb.out
     have ky0:=cell_belowBy y0
     have ky1:=cell_belowBy y1
     have ky2:=cell_belowBy y2
     have ky3:=cell_belowBy y3
     have ky4:=cell_belowBy y4
     have ky5:=cell_belowBy y5
     have kp0:=cell_belowBy p0
     have kp1:=cell_belowBy p1
     have kp2:=cell_belowBy p2
     have kp3:=cell_belowBy p3
     have kp4:=cell_belowBy p4
     have kq0:=cell_belowBy q0
     have kq1:=cell_belowBy q1
     have kq2:=cell_belowBy q2
     have kq3:=cell_belowBy q3
     have kq4:=cell_belowBy q4
     have kz0:=cell_belowBy z0
     have kz1:=cell_belowBy z1
     have kz2:=cell_belowBy z2
     have kz3:=cell_belowBy z3
     have kz4:=cell_belowBy z4
     have ka0:=cell_belowBy a0
     have ka1:=cell_belowBy a1
     have ka2:=cell_belowBy a2
     have ka3:=cell_belowBy a3
     have ka4:=cell_belowBy a4
     have kb0:=cell_belowBy b0
     have kb1:=cell_belowBy b1
     have kb2:=cell_belowBy b2
     have kb3:=cell_belowBy b3
     have kb4:=cell_belowBy b4
     clear y0 y1 y2 y3 y4 y5 p0 p1 p2 p3 p4 q0 q1 q2 q3 q4 z0 z1 z2 z3 z4 a0 a1 a2 a3 a4 b0 b1 b2 b3 b4
     simp only [List.drop_succ_cons,List.drop_zero,List.take_succ_cons,List.take_zero]
     repeat (go_big_quiet_step (first | (go_at_call 22;first | with_reducible exact calls_belowBy (HP.out _ (below_step HWB.out (Nat.le_refl _) (BelowBy.below _))) | with_reducible exact calls_belowBy (HQ.out _ (below_step HWB.out (Nat.le_refl _) (BelowBy.below _))) | with_reducible exact calls_belowBy (HO.out _ (below_step HWB.out (Nat.le_refl _) (BelowBy.below _))))))
     exact wpQuiet_nil rfl
    refine node_quiet 47 (some 104) (.agg #[.string o.id,.int .i64 o.kind,.int .i64 o.x,.int .i64 o.y,vr,vt]) rfl rfl hst h10 (by kernel_rfl) (by kernel_rfl) (by kernel_rfl) rfl (QuietB.atK fun W hW=>(by
     have HW:=Lib.hid (row_later (h10' W hW) RO8.out)
     clear hW
     obtain ⟨yz,y0,y1,y2,y3,y4,y5⟩:=rk6 HW.out
     go_simp)) ?_
    simp only [Act.put,List.setIfInBounds_toArray,List.set_cons_succ,List.set_cons_zero]
    refine node_quiet 49 (some 106) (.bool true) rfl rfl hst h10 (by kernel_rfl) (by kernel_rfl) (by kernel_rfl) rfl (QuietB.pure fun w=>(by go_simp)) ?_
    simp only [Act.put,List.setIfInBounds_toArray,List.set_cons_succ,List.set_cons_zero]
    refine any_one 45 (by kernel_rfl) rfl rfl ?_
    refine LoudB.mkD (some 102) (ι:=Nat) (fun g=>.slice (some ⟨g,0,none⟩) 2 2) (fun g=>fun W=>Below w8.heap.size w8 W∧CondIs W (eitherC cb ca) (some ⟨g,0,none⟩)) rfl (fun h=>hst.and (fun _ _ s hb=>s.later hb)) (fun _ W d=>d.1) (fun W hS K' hK'=>?_) (fun g=>?_)
    ·go_simp
     have hB':=hS.alloc hS.size (.cells #[.int .i64 cb.op,.string cb.key,.string cb.val,.int .i64 cb.n,.slice ab cb.kids.length pb,.int .i64 ca.op,.string ca.key,.string ca.val,.int .i64 ca.n,.slice aa ca.kids.length pa] 24)
     have hB2:=below_step B8.out (Nat.le_refl _) hB'
     exact hK' W.heap.size _ ⟨hB',cond_two 6 (kids_two (row_new _ _) (HCB.out.later hB2) (HCA.out.later hB2))⟩
    simp only [Act.put,List.setIfInBounds_toArray,List.set_cons_succ,List.set_cons_zero]
    refine node_quiet 46 (some 103) (.agg #[.int .i64 6,.string ⟨#[]⟩,.string ⟨#[]⟩,.int .i64 0,.slice (some ⟨g,0,none⟩) 2 2]) rfl rfl (hst.and (fun _ _ s hb=>s.later hb)) (fun _ d=>d.1) (by kernel_rfl) (by kernel_rfl) (by kernel_rfl) rfl (QuietB.pure fun w=>(by go_simp)) ?_
    simp only [Act.put,List.setIfInBounds_toArray,List.set_cons_succ,List.set_cons_zero]
    refine any_one 48 (by kernel_rfl) rfl rfl ?_
    refine LoudB.mkD (some 105) (ι:=Unit) (fun _=>.bool true) (fun _=>fun W=>Below w8.heap.size w8 W) rfl (fun _=>hst) (fun _ W d=>d) (fun W hS K' hK'=>?_) (fun _=>?_)
    ·go_simp
     refine (HE.out g W (below_step B78.out (Nat.le_refl _) hS.1) hS.2).mono ?_
     rintro e w' ⟨rfl,hb'⟩
     exact hK' () _ (below_step hS.1 (Nat.le_refl _) hb')
    simp only [Act.put,List.setIfInBounds_toArray,List.set_cons_succ,List.set_cons_zero]
    refine nodes_quiet 50 6 0 (by kernel_rfl) (by kernel_rfl) (by kernel_rfl) hst h10 ⟨w8,Below.refl _ _⟩ (by kernel_rfl) (by kernel_rfl) ?_
    apply Exists.intro
    refine ⟨fun W hW=>?_,?_⟩
    ·have HWo:=Lib.hid (row_later hW RO8.out)
     have HWp:=Lib.hid (row_later hW RP8.out)
     have HWq:=Lib.hid (row_later hW RQ8.out)
     have HWz:=Lib.hid (row_later hW RZ8.out)
     have HWa:=Lib.hid (row_later hW RA8.out)
     have HWb:=Lib.hid (row_later hW RB8.out)
     have HWB:=Lib.hid (below_step B78.out (Nat.le_refl _) hW)
     clear hW
     obtain ⟨yz,y0,y1,y2,y3,y4,y5⟩:=rk6 HWo.out
     obtain ⟨pz,p0,p1,p2,p3,p4⟩:=rk5 HWp.out
     obtain ⟨qz,q0,q1,q2,q3,q4⟩:=rk5 HWq.out
     obtain ⟨zz,z0,z1,z2,z3,z4⟩:=rk5 HWz.out
     obtain ⟨az,a0,a1,a2,a3,a4⟩:=rk5 HWa.out
     obtain ⟨bz,b0,b1,b2,b3,b4⟩:=rk5 HWb.out
     have ky0:=cell_belowBy y0
     have ky1:=cell_belowBy y1
     have ky2:=cell_belowBy y2
     have ky3:=cell_belowBy y3
     have ky4:=cell_belowBy y4
     have ky5:=cell_belowBy y5
     have kp0:=cell_belowBy p0
     have kp1:=cell_belowBy p1
     have kp2:=cell_belowBy p2
     have kp3:=cell_belowBy p3
     have kp4:=cell_belowBy p4
     have kq0:=cell_belowBy q0
     have kq1:=cell_belowBy q1
     have kq2:=cell_belowBy q2
     have kq3:=cell_belowBy q3
     have kq4:=cell_belowBy q4
     have kz0:=cell_belowBy z0
     have kz1:=cell_belowBy z1
     have kz2:=cell_belowBy z2
     have kz3:=cell_belowBy z3
     have kz4:=cell_belowBy z4
     have ka0:=cell_belowBy a0
     have ka1:=cell_belowBy a1
     have ka2:=cell_belowBy a2
     have ka3:=cell_belowBy a3
     have ka4:=cell_belowBy a4
     have kb0:=cell_belowBy b0
     have kb1:=cell_belowBy b1
     have kb2:=cell_belowBy b2
     have kb3:=cell_belowBy b3
     have kb4:=cell_belowBy b4
     clear y0 y1 y2 y3 y4 y5 p0 p1 p2 p3 p4 q0 q1 q2 q3 q4 z0 z1 z2 z3 z4 a0 a1 a2 a3 a4 b0 b1 b2 b3 b4
     simp only [List.drop_succ_cons,List.drop_zero,List.take_succ_cons,List.take_zero]
     repeat (go_big_quiet_step (first | (go_at_call 22;first | with_reducible exact calls_belowBy (HP.out _ (below_step HWB.out (Nat.le_refl _) (BelowBy.below _))) | with_reducible exact calls_belowBy (HQ.out _ (below_step HWB.out (Nat.le_refl _) (BelowBy.below _))) | with_reducible exact calls_belowBy (HO.out _ (below_step HWB.out (Nat.le_refl _) (BelowBy.below _))))))
     exact wpQuiet_nil rfl
    refine any_end (by kernel_rfl) fun w9 hw9=>?_
    go_wp2
    go_ret
    exact ⟨rfl,below_step B8.out (Nat.le_refl _) hw9⟩
   ·simp only [Bool.and_true,Bool.or_true] at HP HQ HO HE
    go_wp2
    refine wp_region_nodes 5 51 (fun W=>Below w8.heap.size w8 W) (fun W=>Below w8.heap.size w8 W) hmx (by kernel_rfl) (by kernel_rfl) (by kernel_rfl) hst (fun _ h=>h) (Below.refl _ _).drew (by kernel_rfl) ?_
    apply Exists.intro
    refine ⟨fun W hW=>?_,?_⟩
    ·have HWo:=Lib.hid (row_later hW RO8.out)
     have HWp:=Lib.hid (row_later hW RP8.out)
     have HWq:=Lib.hid (row_later hW RQ8.out)
     have HWz:=Lib.hid (row_later hW RZ8.out)
     have HWa:=Lib.hid (row_later hW RA8.out)
     have HWb:=Lib.hid (row_later hW RB8.out)
     have HWB:=Lib.hid (below_step B78.out (Nat.le_refl _) hW)
     clear hW
     obtain ⟨yz,y0,y1,y2,y3,y4,y5⟩:=rk6 HWo.out
     obtain ⟨pz,p0,p1,p2,p3,p4⟩:=rk5 HWp.out
     obtain ⟨qz,q0,q1,q2,q3,q4⟩:=rk5 HWq.out
     obtain ⟨zz,z0,z1,z2,z3,z4⟩:=rk5 HWz.out
     obtain ⟨az,a0,a1,a2,a3,a4⟩:=rk5 HWa.out
     obtain ⟨bz,b0,b1,b2,b3,b4⟩:=rk5 HWb.out
     have ky0:=cell_belowBy y0
     have ky1:=cell_belowBy y1
     have ky2:=cell_belowBy y2
     have ky3:=cell_belowBy y3
     have ky4:=cell_belowBy y4
     have ky5:=cell_belowBy y5
     have kp0:=cell_belowBy p0
     have kp1:=cell_belowBy p1
     have kp2:=cell_belowBy p2
     have kp3:=cell_belowBy p3
     have kp4:=cell_belowBy p4
     have kq0:=cell_belowBy q0
     have kq1:=cell_belowBy q1
     have kq2:=cell_belowBy q2
     have kq3:=cell_belowBy q3
     have kq4:=cell_belowBy q4
     have kz0:=cell_belowBy z0
     have kz1:=cell_belowBy z1
     have kz2:=cell_belowBy z2
     have kz3:=cell_belowBy z3
     have kz4:=cell_belowBy z4
     have ka0:=cell_belowBy a0
     have ka1:=cell_belowBy a1
     have ka2:=cell_belowBy a2
     have ka3:=cell_belowBy a3
     have ka4:=cell_belowBy a4
     have kb0:=cell_belowBy b0
     have kb1:=cell_belowBy b1
     have kb2:=cell_belowBy b2
     have kb3:=cell_belowBy b3
     have kb4:=cell_belowBy b4
     clear y0 y1 y2 y3 y4 y5 p0 p1 p2 p3 p4 q0 q1 q2 q3 q4 z0 z1 z2 z3 z4 a0 a1 a2 a3 a4 b0 b1 b2 b3 b4
     simp only [List.take_succ_cons,List.take_zero]
     repeat (go_big_quiet_step (first | (go_at_call 22;first | with_reducible exact calls_belowBy (HP.out _ (below_step HWB.out (Nat.le_refl _) (BelowBy.below _))) | with_reducible exact calls_belowBy (HQ.out _ (below_step HWB.out (Nat.le_refl _) (BelowBy.below _))) | with_reducible exact calls_belowBy (HO.out _ (below_step HWB.out (Nat.le_refl _) (BelowBy.below _))))))
     exact wpQuiet_nil rfl
    refine node_quiet 7 (some 64) (.agg #[.string o.id,.int .i64 o.kind,.int .i64 o.x,.int .i64 o.y,vr,vt]) rfl rfl hst h10 (by kernel_rfl) (by kernel_rfl) (by kernel_rfl) rfl (QuietB.atK fun W hW=>(by
     have HW:=Lib.hid (row_later (h10' W hW) RO8.out)
     clear hW
     obtain ⟨yz,y0,y1,y2,y3,y4,y5⟩:=rk6 HW.out
     go_simp)) ?_
    simp only [Act.put,List.setIfInBounds_toArray,List.set_cons_succ,List.set_cons_zero]
    refine node_quiet 9 (some 66) (.bool true) rfl rfl hst h10 (by kernel_rfl) (by kernel_rfl) (by kernel_rfl) rfl (QuietB.pure fun w=>(by go_simp)) ?_
    simp only [Act.put,List.setIfInBounds_toArray,List.set_cons_succ,List.set_cons_zero]
    refine any_one 5 (by kernel_rfl) rfl rfl ?_
    refine LoudB.mkD (some 62) (ι:=Nat) (fun g=>.agg #[.int .i64 4,.string ⟨#[]⟩,.string ⟨#[]⟩,.int .i64 0,.slice (some ⟨g,0,none⟩) 1 1]) (fun g=>fun W=>Below w8.heap.size w8 W∧W.heap[g]?=some (.cells #[.int .i64 ca.op,.string ca.key,.string ca.val,.int .i64 ca.n,.slice aa ca.kids.length pa] 24 (0,0))) rfl (fun g=>hst.and (StableW.row _ _)) (fun _ W d=>d.1) (fun W hS K' hK'=>?_) (fun g=>?_)
    ·go_simp
     refine (NK.out ca aa pa W).mono ?_
     rintro e w' ⟨g,rfl,hg,hrow,hb'⟩
     exact hK' g _ ⟨below_step hS (Nat.le_refl _) hb',hrow⟩
    simp only [Act.put,List.setIfInBounds_toArray,List.set_cons_succ,List.set_cons_zero]
    refine any_one 6 (by kernel_rfl) rfl rfl ?_
    refine LoudB.mkD (some 63) (ι:=Nat) (fun g=>.agg #[.int .i64 4,.string ⟨#[]⟩,.string ⟨#[]⟩,.int .i64 0,.slice (some ⟨g,0,none⟩) 1 1]) (fun h=>fun W=>Below w8.heap.size w8 W∧CondIs W (notC (notC ca)) (some ⟨h,0,none⟩)) rfl (fun h=>hst.and (fun _ _ s hb=>s.later hb)) (fun _ W d=>d.1) (fun W hS K' hK'=>?_) (fun h=>?_)
    ·go_simp
     refine (NN.out g W).mono ?_
     rintro e w' ⟨h,rfl,hg,hrow,hb'⟩
     have hB':=below_step hS.1 (Nat.le_refl _) hb'
     exact hK' h _ ⟨hB',cond_not2 (row_later hb' hS.2) hrow (HCA.out.later (below_step B8.out (Nat.le_refl _) hB'))⟩
    simp only [Act.put,List.setIfInBounds_toArray,List.set_cons_succ,List.set_cons_zero]
    refine any_one 8 (by kernel_rfl) rfl rfl ?_
    refine LoudB.mkD (some 65) (ι:=Unit) (fun _=>.bool true) (fun _=>fun W=>Below w8.heap.size w8 W) rfl (fun _=>hst) (fun _ W d=>d) (fun W hS K' hK'=>?_) (fun _=>?_)
    ·go_simp
     refine (HN.out h W (below_step B78.out (Nat.le_refl _) hS.1) hS.2).mono ?_
     rintro e w' ⟨rfl,hb'⟩
     exact hK' () _ (below_step hS.1 (Nat.le_refl _) hb')
    simp only [Act.put,List.setIfInBounds_toArray,List.set_cons_succ,List.set_cons_zero]
    refine nodes_quiet 10 35 11 (by kernel_rfl) (by kernel_rfl) (by kernel_rfl) hst h10 ⟨w8,Below.refl _ _⟩ (by kernel_rfl) (by kernel_rfl) ?_
    apply Exists.intro
    refine ⟨fun W hW=>?_,?_⟩
    ·have HWo:=Lib.hid (row_later hW RO8.out)
     have HWp:=Lib.hid (row_later hW RP8.out)
     have HWq:=Lib.hid (row_later hW RQ8.out)
     have HWz:=Lib.hid (row_later hW RZ8.out)
     have HWa:=Lib.hid (row_later hW RA8.out)
     have HWb:=Lib.hid (row_later hW RB8.out)
     have HWB:=Lib.hid (below_step B78.out (Nat.le_refl _) hW)
     clear hW
     obtain ⟨yz,y0,y1,y2,y3,y4,y5⟩:=rk6 HWo.out
     obtain ⟨pz,p0,p1,p2,p3,p4⟩:=rk5 HWp.out
     obtain ⟨qz,q0,q1,q2,q3,q4⟩:=rk5 HWq.out
     obtain ⟨zz,z0,z1,z2,z3,z4⟩:=rk5 HWz.out
     obtain ⟨az,a0,a1,a2,a3,a4⟩:=rk5 HWa.out
     obtain ⟨bz,b0,b1,b2,b3,b4⟩:=rk5 HWb.out
     have ky0:=cell_belowBy y0
     have ky1:=cell_belowBy y1
     have ky2:=cell_belowBy y2
     have ky3:=cell_belowBy y3
     have ky4:=cell_belowBy y4
     have ky5:=cell_belowBy y5
     have kp0:=cell_belowBy p0
     have kp1:=cell_belowBy p1
     have kp2:=cell_belowBy p2
     have kp3:=cell_belowBy p3
     have kp4:=cell_belowBy p4
     have kq0:=cell_belowBy q0
     have kq1:=cell_belowBy q1
     have kq2:=cell_belowBy q2
     have kq3:=cell_belowBy q3
     have kq4:=cell_belowBy q4
     have kz0:=cell_belowBy z0
     have kz1:=cell_belowBy z1
     have kz2:=cell_belowBy z2
     have kz3:=cell_belowBy z3
     have kz4:=cell_belowBy z4
     have ka0:=cell_belowBy a0
     have ka1:=cell_belowBy a1
     have ka2:=cell_belowBy a2
     have ka3:=cell_belowBy a3
     have ka4:=cell_belowBy a4
     have kb0:=cell_belowBy b0
     have kb1:=cell_belowBy b1
     have kb2:=cell_belowBy b2
     have kb3:=cell_belowBy b3
     have kb4:=cell_belowBy b4
     clear y0 y1 y2 y3 y4 y5 p0 p1 p2 p3 p4 q0 q1 q2 q3 q4 z0 z1 z2 z3 z4 a0 a1 a2 a3 a4 b0 b1 b2 b3 b4
     simp only [List.drop_succ_cons,List.drop_zero,List.take_succ_cons,List.take_zero]
     repeat (go_big_quiet_step (first | (go_at_call 22;first | with_reducible exact calls_belowBy (HP.out _ (below_step HWB.out (Nat.le_refl _) (BelowBy.below _))) | with_reducible exact calls_belowBy (HQ.out _ (below_step HWB.out (Nat.le_refl _) (BelowBy.below _))) | with_reducible exact calls_belowBy (HO.out _ (below_step HWB.out (Nat.le_refl _) (BelowBy.below _))))))
     exact wpQuiet_nil rfl
    refine node_quiet 47 (some 104) (.agg #[.string o.id,.int .i64 o.kind,.int .i64 o.x,.int .i64 o.y,vr,vt]) rfl rfl hst h10 (by kernel_rfl) (by kernel_rfl) (by kernel_rfl) rfl (QuietB.atK fun W hW=>(by
     have HW:=Lib.hid (row_later (h10' W hW) RO8.out)
     clear hW
     obtain ⟨yz,y0,y1,y2,y3,y4,y5⟩:=rk6 HW.out
     go_simp)) ?_
    simp only [Act.put,List.setIfInBounds_toArray,List.set_cons_succ,List.set_cons_zero]
    refine node_quiet 49 (some 106) (.bool true) rfl rfl hst h10 (by kernel_rfl) (by kernel_rfl) (by kernel_rfl) rfl (QuietB.pure fun w=>(by go_simp)) ?_
    simp only [Act.put,List.setIfInBounds_toArray,List.set_cons_succ,List.set_cons_zero]
    refine any_one 45 (by kernel_rfl) rfl rfl ?_
    refine LoudB.mkD (some 102) (ι:=Nat) (fun g=>.slice (some ⟨g,0,none⟩) 2 2) (fun g=>fun W=>Below w8.heap.size w8 W∧CondIs W (eitherC cb ca) (some ⟨g,0,none⟩)) rfl (fun h=>hst.and (fun _ _ s hb=>s.later hb)) (fun _ W d=>d.1) (fun W hS K' hK'=>?_) (fun g=>?_)
    ·go_simp
     have hB':=hS.alloc hS.size (.cells #[.int .i64 cb.op,.string cb.key,.string cb.val,.int .i64 cb.n,.slice ab cb.kids.length pb,.int .i64 ca.op,.string ca.key,.string ca.val,.int .i64 ca.n,.slice aa ca.kids.length pa] 24)
     have hB2:=below_step B8.out (Nat.le_refl _) hB'
     exact hK' W.heap.size _ ⟨hB',cond_two 6 (kids_two (row_new _ _) (HCB.out.later hB2) (HCA.out.later hB2))⟩
    simp only [Act.put,List.setIfInBounds_toArray,List.set_cons_succ,List.set_cons_zero]
    refine node_quiet 46 (some 103) (.agg #[.int .i64 6,.string ⟨#[]⟩,.string ⟨#[]⟩,.int .i64 0,.slice (some ⟨g,0,none⟩) 2 2]) rfl rfl (hst.and (fun _ _ s hb=>s.later hb)) (fun _ d=>d.1) (by kernel_rfl) (by kernel_rfl) (by kernel_rfl) rfl (QuietB.pure fun w=>(by go_simp)) ?_
    simp only [Act.put,List.setIfInBounds_toArray,List.set_cons_succ,List.set_cons_zero]
    refine any_one 48 (by kernel_rfl) rfl rfl ?_
    refine LoudB.mkD (some 105) (ι:=Unit) (fun _=>.bool true) (fun _=>fun W=>Below w8.heap.size w8 W) rfl (fun _=>hst) (fun _ W d=>d) (fun W hS K' hK'=>?_) (fun _=>?_)
    ·go_simp
     refine (HE.out g W (below_step B78.out (Nat.le_refl _) hS.1) hS.2).mono ?_
     rintro e w' ⟨rfl,hb'⟩
     exact hK' () _ (below_step hS.1 (Nat.le_refl _) hb')
    simp only [Act.put,List.setIfInBounds_toArray,List.set_cons_succ,List.set_cons_zero]
    refine nodes_quiet 50 6 0 (by kernel_rfl) (by kernel_rfl) (by kernel_rfl) hst h10 ⟨w8,Below.refl _ _⟩ (by kernel_rfl) (by kernel_rfl) ?_
    apply Exists.intro
    refine ⟨fun W hW=>?_,?_⟩
    ·have HWo:=Lib.hid (row_later hW RO8.out)
     have HWp:=Lib.hid (row_later hW RP8.out)
     have HWq:=Lib.hid (row_later hW RQ8.out)
     have HWz:=Lib.hid (row_later hW RZ8.out)
     have HWa:=Lib.hid (row_later hW RA8.out)
     have HWb:=Lib.hid (row_later hW RB8.out)
     have HWB:=Lib.hid (below_step B78.out (Nat.le_refl _) hW)
     clear hW
     obtain ⟨yz,y0,y1,y2,y3,y4,y5⟩:=rk6 HWo.out
     obtain ⟨pz,p0,p1,p2,p3,p4⟩:=rk5 HWp.out
     obtain ⟨qz,q0,q1,q2,q3,q4⟩:=rk5 HWq.out
     obtain ⟨zz,z0,z1,z2,z3,z4⟩:=rk5 HWz.out
     obtain ⟨az,a0,a1,a2,a3,a4⟩:=rk5 HWa.out
     obtain ⟨bz,b0,b1,b2,b3,b4⟩:=rk5 HWb.out
     have ky0:=cell_belowBy y0
     have ky1:=cell_belowBy y1
     have ky2:=cell_belowBy y2
     have ky3:=cell_belowBy y3
     have ky4:=cell_belowBy y4
     have ky5:=cell_belowBy y5
     have kp0:=cell_belowBy p0
     have kp1:=cell_belowBy p1
     have kp2:=cell_belowBy p2
     have kp3:=cell_belowBy p3
     have kp4:=cell_belowBy p4
     have kq0:=cell_belowBy q0
     have kq1:=cell_belowBy q1
     have kq2:=cell_belowBy q2
     have kq3:=cell_belowBy q3
     have kq4:=cell_belowBy q4
     have kz0:=cell_belowBy z0
     have kz1:=cell_belowBy z1
     have kz2:=cell_belowBy z2
     have kz3:=cell_belowBy z3
     have kz4:=cell_belowBy z4
     have ka0:=cell_belowBy a0
     have ka1:=cell_belowBy a1
     have ka2:=cell_belowBy a2
     have ka3:=cell_belowBy a3
     have ka4:=cell_belowBy a4
     have kb0:=cell_belowBy b0
     have kb1:=cell_belowBy b1
     have kb2:=cell_belowBy b2
     have kb3:=cell_belowBy b3
     have kb4:=cell_belowBy b4
     clear y0 y1 y2 y3 y4 y5 p0 p1 p2 p3 p4 q0 q1 q2 q3 q4 z0 z1 z2 z3 z4 a0 a1 a2 a3 a4 b0 b1 b2 b3 b4
     simp only [List.drop_succ_cons,List.drop_zero,List.take_succ_cons,List.take_zero]
     repeat (go_big_quiet_step (first | (go_at_call 22;first | with_reducible exact calls_belowBy (HP.out _ (below_step HWB.out (Nat.le_refl _) (BelowBy.below _))) | with_reducible exact calls_belowBy (HQ.out _ (below_step HWB.out (Nat.le_refl _) (BelowBy.below _))) | with_reducible exact calls_belowBy (HO.out _ (below_step HWB.out (Nat.le_refl _) (BelowBy.below _))))))
     exact wpQuiet_nil rfl
    refine any_end (by kernel_rfl) fun w9 hw9=>?_
    go_wp2
    go_ret
    exact ⟨rfl,below_step B8.out (Nat.le_refl _) hw9⟩
 refine wp_region_nodes 2 10 (fun W=>Below w5.heap.size w5 W) (OthS w5 ca cb aa ab pa pb none none none none none) hmx (by kernel_rfl) (by kernel_rfl) (by kernel_rfl) OthS.stable (fun _ h=>h.low) ⟨(Below.refl _ _).drew,fun _ e=>(by cases e),fun _ e=>(by cases e),fun _ e=>(by cases e),fun _ e=>(by cases e),fun _ e=>(by cases e)⟩ (by kernel_rfl) ?_
 apply Exists.intro
 refine ⟨fun W hW=>?_,?_⟩
 ·clear hW
  simp only [List.take_succ_cons,List.take_zero]
  repeat (go_big_quiet_step (fail))
  exact wpQuiet_nil rfl
 refine node_quiet 2 (some 39) (.agg #[.int .i64 ca.op,.string ca.key,.string ca.val,.int .i64 ca.n,.slice aa ca.kids.length pa]) rfl rfl OthS.stable (fun _ h=>h.low) (by kernel_rfl) (by kernel_rfl) (by kernel_rfl) rfl (QuietB.atK fun W hW=>(by
  have HW:=Lib.hid (row_later hW RA5.out)
  clear hW
  obtain ⟨yz,y0,y1,y2,y3,y4⟩:=rk5 HW.out
  go_simp)) ?_
 simp only [Act.put,List.setIfInBounds_toArray,List.set_cons_succ,List.set_cons_zero]
 refine node_quiet 4 (some 41) (.func (.func 20) #[] #[]) rfl rfl OthS.stable (fun _ h=>h.low) (by kernel_rfl) (by kernel_rfl) (by kernel_rfl) rfl (QuietB.pure fun w=>(by go_simp)) ?_
 simp only [Act.put,List.setIfInBounds_toArray,List.set_cons_succ,List.set_cons_zero]
 refine node_quiet 5 (some 42) (.agg #[.int .i64 cb.op,.string cb.key,.string cb.val,.int .i64 cb.n,.slice ab cb.kids.length pb]) rfl rfl OthS.stable (fun _ h=>h.low) (by kernel_rfl) (by kernel_rfl) (by kernel_rfl) rfl (QuietB.atK fun W hW=>(by
  have HW:=Lib.hid (row_later hW RB5.out)
  clear hW
  obtain ⟨yz,y0,y1,y2,y3,y4⟩:=rk5 HW.out
  go_simp)) ?_
 simp only [Act.put,List.setIfInBounds_toArray,List.set_cons_succ,List.set_cons_zero]
 refine any_two 3 10 (by kernel_rfl) rfl rfl rfl rfl ?_ ?_
 ·refine LoudB.mkD (some 40) (ι:=Nat) (fun g=>.agg #[.int .i64 4,.string ⟨#[]⟩,.string ⟨#[]⟩,.int .i64 0,.slice (some ⟨g,0,none⟩) 1 1]) (fun g=>OthS w5 ca cb aa ab pa pb (some g) none none none none) rfl (fun g=>OthS.stable) (fun _ W d=>d.low) (fun W hS K' hK'=>?_) (fun g=>?_)
  ·go_simp
   refine (NK.out ca aa pa W).mono ?_
   rintro e w' ⟨g,rfl,hg,hrow,hb'⟩
   exact hK' g _ (hS.addg hb' hg hrow)
  simp only [Act.put,List.setIfInBounds_toArray,List.set_cons_succ,List.set_cons_zero]
  refine any_two 6 10 (by kernel_rfl) rfl rfl rfl rfl ?_ ?_
  ·refine LoudB.mkD (some 43) (ι:=Nat) (fun h=>.agg #[.int .i64 4,.string ⟨#[]⟩,.string ⟨#[]⟩,.int .i64 0,.slice (some ⟨h,0,none⟩) 1 1]) (fun h=>OthS w5 ca cb aa ab pa pb (some g) (some h) none none none) rfl (fun h=>OthS.stable) (fun _ W d=>d.low) (fun W hS K' hK'=>?_) (fun h=>?_)
   ·go_simp
    refine (NK.out cb ab pb W).mono ?_
    rintro e w' ⟨g,rfl,hg,hrow,hb'⟩
    exact hK' g _ (hS.addh hb' hg hrow)
   simp only [Act.put,List.setIfInBounds_toArray,List.set_cons_succ,List.set_cons_zero]
   refine any_two 7 10 (by kernel_rfl) rfl rfl rfl rfl ?_ ?_
   ·refine LoudB.mkD (some 44) (ι:=Nat) (fun k=>.slice (some ⟨k,0,none⟩) 2 2) (fun k=>OthS w5 ca cb aa ab pa pb (some g) (some h) (some k) none none) rfl (fun k=>OthS.stable) (fun _ W d=>d.low) (fun W hS K' hK'=>?_) (fun k=>?_)
    ·go_simp
     exact hK' W.heap.size _ (hS.addk ((Below.refl W.heap.size W).alloc (Nat.le_refl _) _) (Nat.le_refl _) (row_new _ _))
    simp only [Act.put,List.setIfInBounds_toArray,List.set_cons_succ,List.set_cons_zero]
    refine node_quiet 8 (some 45) (.agg #[.int .i64 6,.string ⟨#[]⟩,.string ⟨#[]⟩,.int .i64 0,.slice (some ⟨k,0,none⟩) 2 2]) rfl rfl OthS.stable (fun _ h=>h.low) (by kernel_rfl) (by kernel_rfl) (by kernel_rfl) rfl (QuietB.pure fun w=>(by go_simp)) ?_
    simp only [Act.put,List.setIfInBounds_toArray,List.set_cons_succ,List.set_cons_zero]
    refine any_two 9 10 (by kernel_rfl) rfl rfl rfl rfl ?_ ?_
    ·refine LoudB.mkD (some 46) (ι:=Nat) (fun m=>.agg #[.int .i64 4,.string ⟨#[]⟩,.string ⟨#[]⟩,.int .i64 0,.slice (some ⟨m,0,none⟩) 1 1]) (fun m=>OthS w5 ca cb aa ab pa pb (some g) (some h) (some k) (some m) none) rfl (fun m=>OthS.stable) (fun _ W d=>d.low) (fun W hS K' hK'=>?_) (fun m=>?_)
     ·go_simp
      refine (NE.out k W).mono ?_
      rintro e w' ⟨g,rfl,hg,hrow,hb'⟩
      exact hK' g _ (hS.addm hb' hg hrow)
     simp only [Act.put,List.setIfInBounds_toArray,List.set_cons_succ,List.set_cons_zero]
     refine any_one 10 (by kernel_rfl) rfl rfl ?_
     refine LoudB.mkD (some 11) (ι:=Nat) (fun x=>.pointer (some ⟨x,0,none⟩)) (fun x=>OthS w5 ca cb aa ab pa pb (some g) (some h) (some k) (some m) (some x)) rfl (fun x=>OthS.stable) (fun _ W d=>d.low) (fun W hS K' hK'=>?_) (fun x=>?_)
     ·go_simp
      exact hK' W.heap.size _ hS.addz
     simp only [Act.put,List.setIfInBounds_toArray,List.set_cons_succ,List.set_cons_zero]
     refine any_one 11 (by kernel_rfl) rfl rfl ?_
     refine LoudB.mkD none (ι:=Unit) (fun _=>undef) (fun _=>OthE w5 ca cb m x) rfl (fun _=>OthE.stable w5 ca cb m x) (fun _ W d=>d.1) (fun W hS K' hK'=>?_) (fun _=>?_)
     ·have hK2:=hK' () _ (hS.store (fun W h=>HCA.out.later (below_step B5.out (Nat.le_refl _) h)) (fun W h=>HCB.out.later (below_step B5.out (Nat.le_refl _) h)))
      have HZ:=Lib.hid (hS.rz x rfl).1
      clear hS hK'
      obtain ⟨yz,y0,y1,y2,y3,y4⟩:=rk5 HZ.out
      have yf0:=frozen_of_row W _ 0 _ _ HZ.out
      have yf1:=frozen_of_row W _ 1 _ _ HZ.out
      have yf2:=frozen_of_row W _ 2 _ _ HZ.out
      have yf3:=frozen_of_row W _ 3 _ _ HZ.out
      have yf4:=frozen_of_row W _ 4 _ _ HZ.out
      go_simp
      exact hK2
     simp only [Act.put]
     refine any_end (by kernel_rfl) fun w6 hw6=>?_
     exact TAIL _ _ _ _ _ _ _ _ _ _ _ _ _ _ _ _ _ _ _ _ _ _ _ _ _ _ _ _ _ _ _ _ _ _ _ _ m x w6 hw6
    ·refine LoudB.mkD (some 11) (ι:=Nat) (fun x=>.pointer (some ⟨x,0,none⟩)) (fun x=>OthS w5 ca cb aa ab pa pb (some g) (some h) (some k) none (some x)) rfl (fun x=>OthS.stable) (fun _ W d=>d.low) (fun W hS K' hK'=>?_) (fun x=>?_)
     ·go_simp
      exact hK' W.heap.size _ hS.addz
     simp only [Act.put,List.setIfInBounds_toArray,List.set_cons_succ,List.set_cons_zero]
     refine any_one 9 (by kernel_rfl) rfl rfl ?_
     refine LoudB.mkD (some 46) (ι:=Nat) (fun m=>.agg #[.int .i64 4,.string ⟨#[]⟩,.string ⟨#[]⟩,.int .i64 0,.slice (some ⟨m,0,none⟩) 1 1]) (fun m=>OthS w5 ca cb aa ab pa pb (some g) (some h) (some k) (some m) (some x)) rfl (fun m=>OthS.stable) (fun _ W d=>d.low) (fun W hS K' hK'=>?_) (fun m=>?_)
     ·go_simp
      refine (NE.out k W).mono ?_
      rintro e w' ⟨g,rfl,hg,hrow,hb'⟩
      exact hK' g _ (hS.addm hb' hg hrow)
     simp only [Act.put,List.setIfInBounds_toArray,List.set_cons_succ,List.set_cons_zero]
     refine any_one 11 (by kernel_rfl) rfl rfl ?_
     refine LoudB.mkD none (ι:=Unit) (fun _=>undef) (fun _=>OthE w5 ca cb m x) rfl (fun _=>OthE.stable w5 ca cb m x) (fun _ W d=>d.1) (fun W hS K' hK'=>?_) (fun _=>?_)
     ·have hK2:=hK' () _ (hS.store (fun W h=>HCA.out.later (below_step B5.out (Nat.le_refl _) h)) (fun W h=>HCB.out.later (below_step B5.out (Nat.le_refl _) h)))
      have HZ:=Lib.hid (hS.rz x rfl).1
      clear hS hK'
      obtain ⟨yz,y0,y1,y2,y3,y4⟩:=rk5 HZ.out
      have yf0:=frozen_of_row W _ 0 _ _ HZ.out
      have yf1:=frozen_of_row W _ 1 _ _ HZ.out
      have yf2:=frozen_of_row W _ 2 _ _ HZ.out
      have yf3:=frozen_of_row W _ 3 _ _ HZ.out
      have yf4:=frozen_of_row W _ 4 _ _ HZ.out
      go_simp
      exact hK2
     simp only [Act.put]
     refine any_end (by kernel_rfl) fun w6 hw6=>?_
     exact TAIL _ _ _ _ _ _ _ _ _ _ _ _ _ _ _ _ _ _ _ _ _ _ _ _ _ _ _ _ _ _ _ _ _ _ _ _ m x w6 hw6
   ·refine LoudB.mkD (some 11) (ι:=Nat) (fun x=>.pointer (some ⟨x,0,none⟩)) (fun x=>OthS w5 ca cb aa ab pa pb (some g) (some h) none none (some x)) rfl (fun x=>OthS.stable) (fun _ W d=>d.low) (fun W hS K' hK'=>?_) (fun x=>?_)
    ·go_simp
     exact hK' W.heap.size _ hS.addz
    simp only [Act.put,List.setIfInBounds_toArray,List.set_cons_succ,List.set_cons_zero]
    refine any_one 7 (by kernel_rfl) rfl rfl ?_
    refine LoudB.mkD (some 44) (ι:=Nat) (fun k=>.slice (some ⟨k,0,none⟩) 2 2) (fun k=>OthS w5 ca cb aa ab pa pb (some g) (some h) (some k) none (some x)) rfl (fun k=>OthS.stable) (fun _ W d=>d.low) (fun W hS K' hK'=>?_) (fun k=>?_)
    ·go_simp
     exact hK' W.heap.size _ (hS.addk ((Below.refl W.heap.size W).alloc (Nat.le_refl _) _) (Nat.le_refl _) (row_new _ _))
    simp only [Act.put,List.setIfInBounds_toArray,List.set_cons_succ,List.set_cons_zero]
    refine node_quiet 8 (some 45) (.agg #[.int .i64 6,.string ⟨#[]⟩,.string ⟨#[]⟩,.int .i64 0,.slice (some ⟨k,0,none⟩) 2 2]) rfl rfl OthS.stable (fun _ h=>h.low) (by kernel_rfl) (by kernel_rfl) (by kernel_rfl) rfl (QuietB.pure fun w=>(by go_simp)) ?_
    simp only [Act.put,List.setIfInBounds_toArray,List.set_cons_succ,List.set_cons_zero]
    refine any_one 9 (by kernel_rfl) rfl rfl ?_
    refine LoudB.mkD (some 46) (ι:=Nat) (fun m=>.agg #[.int .i64 4,.string ⟨#[]⟩,.string ⟨#[]⟩,.int .i64 0,.slice (some ⟨m,0,none⟩) 1 1]) (fun m=>OthS w5 ca cb aa ab pa pb (some g) (some h) (some k) (some m) (some x)) rfl (fun m=>OthS.stable) (fun _ W d=>d.low) (fun W hS K' hK'=>?_) (fun m=>?_)
    ·go_simp
     refine (NE.out k W).mono ?_
     rintro e w' ⟨g,rfl,hg,hrow,hb'⟩
     exact hK' g _ (hS.addm hb' hg hrow)
    simp only [Act.put,List.setIfInBounds_toArray,List.set_cons_succ,List.set_cons_zero]
    refine any_one 11 (by kernel_rfl) rfl rfl ?_
    refine LoudB.mkD none (ι:=Unit) (fun _=>undef) (fun _=>OthE w5 ca cb m x) rfl (fun _=>OthE.stable w5 ca cb m x) (fun _ W d=>d.1) (fun W hS K' hK'=>?_) (fun _=>?_)
    ·have hK2:=hK' () _ (hS.store (fun W h=>HCA.out.later (below_step B5.out (Nat.le_refl _) h)) (fun W h=>HCB.out.later (below_step B5.out (Nat.le_refl _) h)))
     have HZ:=Lib.hid (hS.rz x rfl).1
     clear hS hK'
     obtain ⟨yz,y0,y1,y2,y3,y4⟩:=rk5 HZ.out
     have yf0:=frozen_of_row W _ 0 _ _ HZ.out
     have yf1:=frozen_of_row W _ 1 _ _ HZ.out
     have yf2:=frozen_of_row W _ 2 _ _ HZ.out
     have yf3:=frozen_of_row W _ 3 _ _ HZ.out
     have yf4:=frozen_of_row W _ 4 _ _ HZ.out
     go_simp
     exact hK2
    simp only [Act.put]
    refine any_end (by kernel_rfl) fun w6 hw6=>?_
    exact TAIL _ _ _ _ _ _ _ _ _ _ _ _ _ _ _ _ _ _ _ _ _ _ _ _ _ _ _ _ _ _ _ _ _ _ _ _ m x w6 hw6
  ·refine LoudB.mkD (some 11) (ι:=Nat) (fun x=>.pointer (some ⟨x,0,none⟩)) (fun x=>OthS w5 ca cb aa ab pa pb (some g) none none none (some x)) rfl (fun x=>OthS.stable) (fun _ W d=>d.low) (fun W hS K' hK'=>?_) (fun x=>?_)
   ·go_simp
    exact hK' W.heap.size _ hS.addz
   simp only [Act.put,List.setIfInBounds_toArray,List.set_cons_succ,List.set_cons_zero]
   refine any_one 6 (by kernel_rfl) rfl rfl ?_
   refine LoudB.mkD (some 43) (ι:=Nat) (fun h=>.agg #[.int .i64 4,.string ⟨#[]⟩,.string ⟨#[]⟩,.int .i64 0,.slice (some ⟨h,0,none⟩) 1 1]) (fun h=>OthS w5 ca cb aa ab pa pb (some g) (some h) none none (some x)) rfl (fun h=>OthS.stable) (fun _ W d=>d.low) (fun W hS K' hK'=>?_) (fun h=>?_)
   ·go_simp
    refine (NK.out cb ab pb W).mono ?_
    rintro e w' ⟨g,rfl,hg,hrow,hb'⟩
    exact hK' g _ (hS.addh hb' hg hrow)
   simp only [Act.put,List.setIfInBounds_toArray,List.set_cons_succ,List.set_cons_zero]
   refine any_one 7 (by kernel_rfl) rfl rfl ?_
   refine LoudB.mkD (some 44) (ι:=Nat) (fun k=>.slice (some ⟨k,0,none⟩) 2 2) (fun k=>OthS w5 ca cb aa ab pa pb (some g) (some h) (some k) none (some x)) rfl (fun k=>OthS.stable) (fun _ W d=>d.low) (fun W hS K' hK'=>?_) (fun k=>?_)
   ·go_simp
    exact hK' W.heap.size _ (hS.addk ((Below.refl W.heap.size W).alloc (Nat.le_refl _) _) (Nat.le_refl _) (row_new _ _))
   simp only [Act.put,List.setIfInBounds_toArray,List.set_cons_succ,List.set_cons_zero]
   refine node_quiet 8 (some 45) (.agg #[.int .i64 6,.string ⟨#[]⟩,.string ⟨#[]⟩,.int .i64 0,.slice (some ⟨k,0,none⟩) 2 2]) rfl rfl OthS.stable (fun _ h=>h.low) (by kernel_rfl) (by kernel_rfl) (by kernel_rfl) rfl (QuietB.pure fun w=>(by go_simp)) ?_
   simp only [Act.put,List.setIfInBounds_toArray,List.set_cons_succ,List.set_cons_zero]
   refine any_one 9 (by kernel_rfl) rfl rfl ?_
   refine LoudB.mkD (some 46) (ι:=Nat) (fun m=>.agg #[.int .i64 4,.string ⟨#[]⟩,.string ⟨#[]⟩,.int .i64 0,.slice (some ⟨m,0,none⟩) 1 1]) (fun m=>OthS w5 ca cb aa ab pa pb (some g) (some h) (some k) (some m) (some x)) rfl (fun m=>OthS.stable) (fun _ W d=>d.low) (fun W hS K' hK'=>?_) (fun m=>?_)
   ·go_simp
    refine (NE.out k W).mono ?_
    rintro e w' ⟨g,rfl,hg,hrow,hb'⟩
    exact hK' g _ (hS.addm hb' hg hrow)
   simp only [Act.put,List.setIfInBounds_toArray,List.set_cons_succ,List.set_cons_zero]
   refine any_one 11 (by kernel_rfl) rfl rfl ?_
   refine LoudB.mkD none (ι:=Unit) (fun _=>undef) (fun _=>OthE w5 ca cb m x) rfl (fun _=>OthE.stable w5 ca cb m x) (fun _ W d=>d.1) (fun W hS K' hK'=>?_) (fun _=>?_)
   ·have hK2:=hK' () _ (hS.store (fun W h=>HCA.out.later (below_step B5.out (Nat.le_refl _) h)) (fun W h=>HCB.out.later (below_step B5.out (Nat.le_refl _) h)))
    have HZ:=Lib.hid (hS.rz x rfl).1
    clear hS hK'
    obtain ⟨yz,y0,y1,y2,y3,y4⟩:=rk5 HZ.out
    have yf0:=frozen_of_row W _ 0 _ _ HZ.out
    have yf1:=frozen_of_row W _ 1 _ _ HZ.out
    have yf2:=frozen_of_row W _ 2 _ _ HZ.out
    have yf3:=frozen_of_row W _ 3 _ _ HZ.out
    have yf4:=frozen_of_row W _ 4 _ _ HZ.out
    go_simp
    exact hK2
   simp only [Act.put]
   refine any_end (by kernel_rfl) fun w6 hw6=>?_
   exact TAIL _ _ _ _ _ _ _ _ _ _ _ _ _ _ _ _ _ _ _ _ _ _ _ _ _ _ _ _ _ _ _ _ _ _ _ _ m x w6 hw6
 ·refine LoudB.mkD (some 11) (ι:=Nat) (fun x=>.pointer (some ⟨x,0,none⟩)) (fun x=>OthS w5 ca cb aa ab pa pb none none none none (some x)) rfl (fun x=>OthS.stable) (fun _ W d=>d.low) (fun W hS K' hK'=>?_) (fun x=>?_)
  ·go_simp
   exact hK' W.heap.size _ hS.addz
  simp only [Act.put,List.setIfInBounds_toArray,List.set_cons_succ,List.set_cons_zero]
  refine any_one 3 (by kernel_rfl) rfl rfl ?_
  refine LoudB.mkD (some 40) (ι:=Nat) (fun g=>.agg #[.int .i64 4,.string ⟨#[]⟩,.string ⟨#[]⟩,.int .i64 0,.slice (some ⟨g,0,none⟩) 1 1]) (fun g=>OthS w5 ca cb aa ab pa pb (some g) none none none (some x)) rfl (fun g=>OthS.stable) (fun _ W d=>d.low) (fun W hS K' hK'=>?_) (fun g=>?_)
  ·go_simp
   refine (NK.out ca aa pa W).mono ?_
   rintro e w' ⟨g,rfl,hg,hrow,hb'⟩
   exact hK' g _ (hS.addg hb' hg hrow)
  simp only [Act.put,List.setIfInBounds_toArray,List.set_cons_succ,List.set_cons_zero]
  refine any_one 6 (by kernel_rfl) rfl rfl ?_
  refine LoudB.mkD (some 43) (ι:=Nat) (fun h=>.agg #[.int .i64 4,.string ⟨#[]⟩,.string ⟨#[]⟩,.int .i64 0,.slice (some ⟨h,0,none⟩) 1 1]) (fun h=>OthS w5 ca cb aa ab pa pb (some g) (some h) none none (some x)) rfl (fun h=>OthS.stable) (fun _ W d=>d.low) (fun W hS K' hK'=>?_) (fun h=>?_)
  ·go_simp
   refine (NK.out cb ab pb W).mono ?_
   rintro e w' ⟨g,rfl,hg,hrow,hb'⟩
   exact hK' g _ (hS.addh hb' hg hrow)
  simp only [Act.put,List.setIfInBounds_toArray,List.set_cons_succ,List.set_cons_zero]
  refine any_one 7 (by kernel_rfl) rfl rfl ?_
  refine LoudB.mkD (some 44) (ι:=Nat) (fun k=>.slice (some ⟨k,0,none⟩) 2 2) (fun k=>OthS w5 ca cb aa ab pa pb (some g) (some h) (some k) none (some x)) rfl (fun k=>OthS.stable) (fun _ W d=>d.low) (fun W hS K' hK'=>?_) (fun k=>?_)
  ·go_simp
   exact hK' W.heap.size _ (hS.addk ((Below.refl W.heap.size W).alloc (Nat.le_refl _) _) (Nat.le_refl _) (row_new _ _))
  simp only [Act.put,List.setIfInBounds_toArray,List.set_cons_succ,List.set_cons_zero]
  refine node_quiet 8 (some 45) (.agg #[.int .i64 6,.string ⟨#[]⟩,.string ⟨#[]⟩,.int .i64 0,.slice (some ⟨k,0,none⟩) 2 2]) rfl rfl OthS.stable (fun _ h=>h.low) (by kernel_rfl) (by kernel_rfl) (by kernel_rfl) rfl (QuietB.pure fun w=>(by go_simp)) ?_
  simp only [Act.put,List.setIfInBounds_toArray,List.set_cons_succ,List.set_cons_zero]
  refine any_one 9 (by kernel_rfl) rfl rfl ?_
  refine LoudB.mkD (some 46) (ι:=Nat) (fun m=>.agg #[.int .i64 4,.string ⟨#[]⟩,.string ⟨#[]⟩,.int .i64 0,.slice (some ⟨m,0,none⟩) 1 1]) (fun m=>OthS w5 ca cb aa ab pa pb (some g) (some h) (some k) (some m) (some x)) rfl (fun m=>OthS.stable) (fun _ W d=>d.low) (fun W hS K' hK'=>?_) (fun m=>?_)
  ·go_simp
   refine (NE.out k W).mono ?_
   rintro e w' ⟨g,rfl,hg,hrow,hb'⟩
   exact hK' g _ (hS.addm hb' hg hrow)
  simp only [Act.put,List.setIfInBounds_toArray,List.set_cons_succ,List.set_cons_zero]
  refine any_one 11 (by kernel_rfl) rfl rfl ?_
  refine LoudB.mkD none (ι:=Unit) (fun _=>undef) (fun _=>OthE w5 ca cb m x) rfl (fun _=>OthE.stable w5 ca cb m x) (fun _ W d=>d.1) (fun W hS K' hK'=>?_) (fun _=>?_)
  ·have hK2:=hK' () _ (hS.store (fun W h=>HCA.out.later (below_step B5.out (Nat.le_refl _) h)) (fun W h=>HCB.out.later (below_step B5.out (Nat.le_refl _) h)))
   have HZ:=Lib.hid (hS.rz x rfl).1
   clear hS hK'
   obtain ⟨yz,y0,y1,y2,y3,y4⟩:=rk5 HZ.out
   have yf0:=frozen_of_row W _ 0 _ _ HZ.out
   have yf1:=frozen_of_row W _ 1 _ _ HZ.out
   have yf2:=frozen_of_row W _ 2 _ _ HZ.out
   have yf3:=frozen_of_row W _ 3 _ _ HZ.out
   have yf4:=frozen_of_row W _ 4 _ _ HZ.out
   go_simp
   exact hK2
  simp only [Act.put]
  refine any_end (by kernel_rfl) fun w6 hw6=>?_
  exact TAIL _ _ _ _ _ _ _ _ _ _ _ _ _ _ _ _ _ _ _ _ _ _ _ _ _ _ _ _ _ _ _ _ _ _ _ _ m x w6 hw6
end Go.Proofs.YtdfenhjibnfdeaaGreatDoor
