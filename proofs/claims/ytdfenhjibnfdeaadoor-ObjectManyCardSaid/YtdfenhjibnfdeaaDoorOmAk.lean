/-  -/
import Derived.Test.YtdfenhjibnfdeaaDoorOmAj
namespace Go.Proofs.YtdfenhjibnfdeaaDoor
open Go.RowKit
theorem least_below (k:Int) (h0:1≤k) (h5:k≤5) (w:World) :
  Calls Tryd.prog 22 #[.int .i64 k] w fun e w'=>e=.returned (.int .i64 (leastK k))∧Below w.heap.size w w' :=
 (least_any k h0 h5 w).mono fun _ _ h=>⟨h.1,by obtain ⟨_,rfl⟩:=h;exact Below.refl _ _⟩
theorem wordK_in (k:Int) (h0:1≤k) (h5:k≤5):0<(wordK k).size:=by
 obtain rfl | rfl | rfl | rfl | rfl:k=1∨k=2∨k=3∨k=4∨k=5:=by omega
 all_goals decide
theorem wordK_out (k:Int) (h:¬(1≤k∧k≤5)):wordK k=⟨#[]⟩:=by
 simp only [wordK];rw [if_neg (by omega),if_neg (by omega),if_neg (by omega),if_neg (by omega),if_neg (by omega)]
set_option maxRecDepth 100000 in
set_option maxHeartbeats 2000000 in
theorem valid_kind (id:ByteArray) (kind x y:Int) (refs:List ByteArray) (tags:List TagD) (a:Option Addr) (N cap:Nat) (vt:Value) (w:World) (hk:¬(1≤kind∧kind≤5)) :
  Calls Tryd.prog 7 #[.agg #[.string id,.int .i64 kind,.int .i64 x,.int .i64 y,.slice a N cap,vt]] w fun e w'=>e=.returned (.bool (objOK ⟨id,kind,x,y,refs,tags⟩))∧Below w.heap.size w w':=by
 have HB:=Lib.hid (show objOK ⟨id,kind,x,y,refs,tags⟩=false by simp only [objOK];rw [decide_eq_false hk];simp)
 have WD:=Lib.hid (fun w=>by have:=word_any kind w;rw [wordK_out kind hk] at this;exact this)
 have ND:=Lib.hid True.intro
 have TD:=Lib.hid True.intro
 have LD:=Lib.hid True.intro
 clear hk
 have mixed:Tryd.prog.follows .mixedOrders=true:=by kernel_rfl
 go_enter Tryd.func7,Tryd.ntmps7
 go_wp2_with fail
 have B1:Below w.heap.size w (w.alloc (.cells #[.string id,.int .i64 kind,.int .i64 x,.int .i64 y,.slice a N cap,vt] 29)):=(Below.refl _ w).alloc (Nat.le_refl _) _
 have HO:=row_new w (.cells #[.string id,.int .i64 kind,.int .i64 x,.int .i64 y,.slice a N cap,vt] 29)
 generalize hw1:w.alloc (.cells #[.string id,.int .i64 kind,.int .i64 x,.int .i64 y,.slice a N cap,vt] 29)=w1
 rw [hw1] at B1 HO
 clear hw1
 have HO1:=Lib.hid HO
 obtain ⟨pz,p0,p1,p2,p3,p4,p5⟩:=rk6 HO
 have HO':=Lib.hid HO
 clear HO
 have q0:=cell_belowBy p0
 have q1:=cell_belowBy p1
 have q3:=cell_belowBy p4
 have q5:=cell_belowBy p5
 clear p0 p1 p2 p3 p4 p5
 refine wp_region_quiet_below (by assumption) (by kernel_rfl) ?_
 repeat (quiet_step (first | (go_at_call 14;exact calls_belowBy (WD.out _)) | (go_at_call 20;exact calls_belowBy (ND.out _)) | (go_at_call 21;exact calls_belowBy (TD.out _ (below_step B1 (Nat.le_refl _) (BelowBy.below _)))) | (go_at_call 22;exact calls_belowBy (LD.out _))))
 refine wpQuiet_nil ?_
 intro w2 hw'
 obtain ⟨⟨w3,hb2⟩,hw''⟩:=hw'
 subst hw''
 go_wp2
 go_ret
 exact ⟨by rw [HB.out];rfl,below_step B1 (Nat.le_refl _) hb2⟩
set_option maxRecDepth 100000 in
set_option maxHeartbeats 2000000 in
theorem valid_name (id:ByteArray) (kind x y:Int) (refs:List ByteArray) (tags:List TagD) (a:Option Addr) (N cap:Nat) (vt:Value) (w:World) (hz:id.size≤140737488355328) (hk:1≤kind∧kind≤5) (hn:nameB id=false) :
  Calls Tryd.prog 7 #[.agg #[.string id,.int .i64 kind,.int .i64 x,.int .i64 y,.slice a N cap,vt]] w fun e w'=>e=.returned (.bool (objOK ⟨id,kind,x,y,refs,tags⟩))∧Below w.heap.size w w':=by
 have HB:=Lib.hid (show objOK ⟨id,kind,x,y,refs,tags⟩=false by simp only [objOK];rw [hn];simp)
 have WD:=Lib.hid (fun w=>word_any kind w)
 have hwz:=wordK_in kind hk.1 hk.2
 generalize wordK kind=wd at WD hwz
 have ew1:wd.toList.isEmpty=false:=str_not_empty hwz
 have ew0:¬wd.toList=[]:=by
  intro e;rw [e] at ew1;simp at ew1
 have ND:=Lib.hid (fun w=>by have:=name_any id hz w;rw [hn] at this;exact this)
 have TD:=Lib.hid True.intro
 have LD:=Lib.hid True.intro
 clear hk hn
 have mixed:Tryd.prog.follows .mixedOrders=true:=by kernel_rfl
 go_enter Tryd.func7,Tryd.ntmps7
 go_wp2_with fail
 have B1:Below w.heap.size w (w.alloc (.cells #[.string id,.int .i64 kind,.int .i64 x,.int .i64 y,.slice a N cap,vt] 29)):=(Below.refl _ w).alloc (Nat.le_refl _) _
 have HO:=row_new w (.cells #[.string id,.int .i64 kind,.int .i64 x,.int .i64 y,.slice a N cap,vt] 29)
 generalize hw1:w.alloc (.cells #[.string id,.int .i64 kind,.int .i64 x,.int .i64 y,.slice a N cap,vt] 29)=w1
 rw [hw1] at B1 HO
 clear hw1
 have HO1:=Lib.hid HO
 obtain ⟨pz,p0,p1,p2,p3,p4,p5⟩:=rk6 HO
 have HO':=Lib.hid HO
 clear HO
 have q0:=cell_belowBy p0
 have q1:=cell_belowBy p1
 have q3:=cell_belowBy p4
 have q5:=cell_belowBy p5
 clear p0 p1 p2 p3 p4 p5
 refine wp_region_quiet_below (by assumption) (by kernel_rfl) ?_
 repeat (quiet_step (first | (go_at_call 14;exact calls_belowBy (WD.out _)) | (go_at_call 20;exact calls_belowBy (ND.out _)) | (go_at_call 21;exact calls_belowBy (TD.out _ (below_step B1 (Nat.le_refl _) (BelowBy.below _)))) | (go_at_call 22;exact calls_belowBy (LD.out _))))
 refine wpQuiet_nil ?_
 intro w2 hw'
 obtain ⟨⟨w3,hb2⟩,hw''⟩:=hw'
 subst hw''
 go_wp2
 go_ret
 exact ⟨by rw [HB.out];rfl,below_step B1 (Nat.le_refl _) hb2⟩
set_option maxRecDepth 100000 in
set_option maxHeartbeats 2000000 in
theorem valid_tags (id:ByteArray) (kind x y:Int) (refs:List ByteArray) (tags:List TagD) (a:Option Addr) (N cap:Nat) (vt:Value) (w:World) (hz:id.size≤140737488355328) (ht:TagRow w vt tags) (hk:1≤kind∧kind≤5) (hn:nameB id=true) (htg:tagsOK tags=false) :
  Calls Tryd.prog 7 #[.agg #[.string id,.int .i64 kind,.int .i64 x,.int .i64 y,.slice a N cap,vt]] w fun e w'=>e=.returned (.bool (objOK ⟨id,kind,x,y,refs,tags⟩))∧Below w.heap.size w w':=by
 have HB:=Lib.hid (show objOK ⟨id,kind,x,y,refs,tags⟩=false by simp only [objOK];rw [htg];simp)
 have WD:=Lib.hid (fun w=>word_any kind w)
 have hwz:=wordK_in kind hk.1 hk.2
 generalize wordK kind=wd at WD hwz
 have ew1:wd.toList.isEmpty=false:=str_not_empty hwz
 have ew0:¬wd.toList=[]:=by
  intro e;rw [e] at ew1;simp at ew1
 have ND:=Lib.hid (fun w=>by have:=name_any id hz w;rw [hn] at this;exact this)
 have TD:=Lib.hid (fun (w':World) (hb:Below w.heap.size w w')=>by have:=tags_any vt tags w' (ht.later hb);rw [htg] at this;exact this)
 have LD:=Lib.hid True.intro
 clear hk hn ht htg
 have mixed:Tryd.prog.follows .mixedOrders=true:=by kernel_rfl
 go_enter Tryd.func7,Tryd.ntmps7
 go_wp2_with fail
 have B1:Below w.heap.size w (w.alloc (.cells #[.string id,.int .i64 kind,.int .i64 x,.int .i64 y,.slice a N cap,vt] 29)):=(Below.refl _ w).alloc (Nat.le_refl _) _
 have HO:=row_new w (.cells #[.string id,.int .i64 kind,.int .i64 x,.int .i64 y,.slice a N cap,vt] 29)
 generalize hw1:w.alloc (.cells #[.string id,.int .i64 kind,.int .i64 x,.int .i64 y,.slice a N cap,vt] 29)=w1
 rw [hw1] at B1 HO
 clear hw1
 have HO1:=Lib.hid HO
 obtain ⟨pz,p0,p1,p2,p3,p4,p5⟩:=rk6 HO
 have HO':=Lib.hid HO
 clear HO
 have q0:=cell_belowBy p0
 have q1:=cell_belowBy p1
 have q3:=cell_belowBy p4
 have q5:=cell_belowBy p5
 clear p0 p1 p2 p3 p4 p5
 refine wp_region_quiet_below (by assumption) (by kernel_rfl) ?_
 repeat (quiet_step (first | (go_at_call 14;exact calls_belowBy (WD.out _)) | (go_at_call 20;exact calls_belowBy (ND.out _)) | (go_at_call 21;exact calls_belowBy (TD.out _ (below_step B1 (Nat.le_refl _) (BelowBy.below _)))) | (go_at_call 22;exact calls_belowBy (LD.out _))))
 refine wpQuiet_nil ?_
 intro w2 hw'
 obtain ⟨⟨w3,hb2⟩,hw''⟩:=hw'
 subst hw''
 go_wp2
 go_ret
 exact ⟨by rw [HB.out];rfl,below_step B1 (Nat.le_refl _) hb2⟩
set_option maxRecDepth 100000 in
set_option maxHeartbeats 2000000 in
theorem valid_least (id:ByteArray) (kind x y:Int) (refs:List ByteArray) (tags:List TagD) (a:Option Addr) (N cap:Nat) (vt:Value) (w:World) (hz:id.size≤140737488355328) (ht:TagRow w vt tags) (hk:1≤kind∧kind≤5) (hn:nameB id=true) (htg:tagsOK tags=true) (hN:N=refs.length) (hl:(N:Int)<leastK kind) :
  Calls Tryd.prog 7 #[.agg #[.string id,.int .i64 kind,.int .i64 x,.int .i64 y,.slice a N cap,vt]] w fun e w'=>e=.returned (.bool (objOK ⟨id,kind,x,y,refs,tags⟩))∧Below w.heap.size w w':=by
 have HB:=Lib.hid (show objOK ⟨id,kind,x,y,refs,tags⟩=false by simp only [objOK];rw [←hN,show decide (leastK kind≤(N:Int))=false from decide_eq_false (by omega)];simp)
 have WD:=Lib.hid (fun w=>word_any kind w)
 have hwz:=wordK_in kind hk.1 hk.2
 generalize wordK kind=wd at WD hwz
 have ew1:wd.toList.isEmpty=false:=str_not_empty hwz
 have ew0:¬wd.toList=[]:=by
  intro e;rw [e] at ew1;simp at ew1
 have ND:=Lib.hid (fun w=>by have:=name_any id hz w;rw [hn] at this;exact this)
 have TD:=Lib.hid (fun (w':World) (hb:Below w.heap.size w w')=>by have:=tags_any vt tags w' (ht.later hb);rw [htg] at this;exact this)
 have LD:=Lib.hid (fun w=>least_below kind hk.1 hk.2 w)
 generalize leastK kind=m at LD hl
 have hld:decide ((N:Int)<m)=true:=decide_eq_true hl
 clear hk hn ht htg hN
 have mixed:Tryd.prog.follows .mixedOrders=true:=by kernel_rfl
 go_enter Tryd.func7,Tryd.ntmps7
 go_wp2_with fail
 have B1:Below w.heap.size w (w.alloc (.cells #[.string id,.int .i64 kind,.int .i64 x,.int .i64 y,.slice a N cap,vt] 29)):=(Below.refl _ w).alloc (Nat.le_refl _) _
 have HO:=row_new w (.cells #[.string id,.int .i64 kind,.int .i64 x,.int .i64 y,.slice a N cap,vt] 29)
 generalize hw1:w.alloc (.cells #[.string id,.int .i64 kind,.int .i64 x,.int .i64 y,.slice a N cap,vt] 29)=w1
 rw [hw1] at B1 HO
 clear hw1
 have HO1:=Lib.hid HO
 obtain ⟨pz,p0,p1,p2,p3,p4,p5⟩:=rk6 HO
 have HO':=Lib.hid HO
 clear HO
 have q0:=cell_belowBy p0
 have q1:=cell_belowBy p1
 have q3:=cell_belowBy p4
 have q5:=cell_belowBy p5
 clear p0 p1 p2 p3 p4 p5
 refine wp_region_quiet_below (by assumption) (by kernel_rfl) ?_
 repeat (quiet_step (first | (go_at_call 14;exact calls_belowBy (WD.out _)) | (go_at_call 20;exact calls_belowBy (ND.out _)) | (go_at_call 21;exact calls_belowBy (TD.out _ (below_step B1 (Nat.le_refl _) (BelowBy.below _)))) | (go_at_call 22;exact calls_belowBy (LD.out _))))
 refine wpQuiet_nil ?_
 intro w2 hw'
 obtain ⟨⟨w3,hb2⟩,hw''⟩:=hw'
 subst hw''
 go_wp2
 go_ret
 exact ⟨by rw [HB.out];rfl,below_step B1 (Nat.le_refl _) hb2⟩
set_option maxRecDepth 100000 in
set_option maxHeartbeats 2000000 in
theorem valid_many (id:ByteArray) (kind x y:Int) (refs:List ByteArray) (tags:List TagD) (a:Option Addr) (N cap:Nat) (vt:Value) (w:World) (hz:id.size≤140737488355328) (ht:TagRow w vt tags) (hk:1≤kind∧kind≤5) (hn:nameB id=true) (htg:tagsOK tags=true) (hN:N=refs.length) (hl:¬(N:Int)<leastK kind) (hm:2000<N) :
  Calls Tryd.prog 7 #[.agg #[.string id,.int .i64 kind,.int .i64 x,.int .i64 y,.slice a N cap,vt]] w fun e w'=>e=.returned (.bool (objOK ⟨id,kind,x,y,refs,tags⟩))∧Below w.heap.size w w':=by
 have HB:=Lib.hid (show objOK ⟨id,kind,x,y,refs,tags⟩=false by simp only [objOK];rw [←hN,show decide (N≤2000)=false from decide_eq_false (by omega)];simp)
 have WD:=Lib.hid (fun w=>word_any kind w)
 have hwz:=wordK_in kind hk.1 hk.2
 generalize wordK kind=wd at WD hwz
 have ew1:wd.toList.isEmpty=false:=str_not_empty hwz
 have ew0:¬wd.toList=[]:=by
  intro e;rw [e] at ew1;simp at ew1
 have ND:=Lib.hid (fun w=>by have:=name_any id hz w;rw [hn] at this;exact this)
 have TD:=Lib.hid (fun (w':World) (hb:Below w.heap.size w w')=>by have:=tags_any vt tags w' (ht.later hb);rw [htg] at this;exact this)
 have LD:=Lib.hid (fun w=>least_below kind hk.1 hk.2 w)
 generalize leastK kind=m at LD hl
 have hld:decide ((N:Int)<m)=false:=decide_eq_false hl
 have hmz:(2000:Int)<(N:Int):=by omega
 have hmd:decide ((2000:Int)<(N:Int))=true:=decide_eq_true hmz
 clear hk hn ht htg hN
 have mixed:Tryd.prog.follows .mixedOrders=true:=by kernel_rfl
 go_enter Tryd.func7,Tryd.ntmps7
 go_wp2_with fail
 have B1:Below w.heap.size w (w.alloc (.cells #[.string id,.int .i64 kind,.int .i64 x,.int .i64 y,.slice a N cap,vt] 29)):=(Below.refl _ w).alloc (Nat.le_refl _) _
 have HO:=row_new w (.cells #[.string id,.int .i64 kind,.int .i64 x,.int .i64 y,.slice a N cap,vt] 29)
 generalize hw1:w.alloc (.cells #[.string id,.int .i64 kind,.int .i64 x,.int .i64 y,.slice a N cap,vt] 29)=w1
 rw [hw1] at B1 HO
 clear hw1
 have HO1:=Lib.hid HO
 obtain ⟨pz,p0,p1,p2,p3,p4,p5⟩:=rk6 HO
 have HO':=Lib.hid HO
 clear HO
 have q0:=cell_belowBy p0
 have q1:=cell_belowBy p1
 have q3:=cell_belowBy p4
 have q5:=cell_belowBy p5
 clear p0 p1 p2 p3 p4 p5
 refine wp_region_quiet_below (by assumption) (by kernel_rfl) ?_
 repeat (quiet_step (first | (go_at_call 14;exact calls_belowBy (WD.out _)) | (go_at_call 20;exact calls_belowBy (ND.out _)) | (go_at_call 21;exact calls_belowBy (TD.out _ (below_step B1 (Nat.le_refl _) (BelowBy.below _)))) | (go_at_call 22;exact calls_belowBy (LD.out _))))
 refine wpQuiet_nil ?_
 intro w2 hw'
 obtain ⟨⟨w3,hb2⟩,hw''⟩:=hw'
 subst hw''
 go_wp2
 go_ret
 exact ⟨by rw [HB.out];rfl,below_step B1 (Nat.le_refl _) hb2⟩
end Go.Proofs.YtdfenhjibnfdeaaDoor
