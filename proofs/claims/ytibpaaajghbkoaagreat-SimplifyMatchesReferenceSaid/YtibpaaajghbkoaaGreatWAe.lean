/-  -/
import Derived.Test.YtibpaaajghbkoaaGreatWAd
namespace Go.Proofs.YtibpaaajghbkoaaGreat
open Go.RowKit
theorem zmd (k:Int) (h0:1≤k) (h5:k≤5) (w:World) :
  Calls Tryz.prog 131 #[.int .i64 k] w fun e w'=>e=.returned (.int .i64 (zff k))∧Below w.heap.size w w' :=
 (zaih k h0 h5 w).mono fun _ _ h=>⟨h.1,by obtain ⟨_,rfl⟩:=h;exact Below.refl _ _⟩
theorem zmo (k:Int) (h0:1≤k) (h5:k≤5):0<(zig k).size:=by
 obtain rfl | rfl | rfl | rfl | rfl:k=1∨k=2∨k=3∨k=4∨k=5:=by omega
 all_goals decide
theorem zho (k:Int) (h:¬(1≤k∧k≤5)):zig k=⟨#[]⟩:=by simp only [zig];rw [if_neg (by omega),if_neg (by omega),if_neg (by omega),if_neg (by omega),if_neg (by omega)]
set_option maxRecDepth 100000 in
set_option maxHeartbeats 2000000 in
theorem zacs (id:ByteArray) (kind x y:Int) (refs:List ByteArray) (tags:List TagD) (a:Option Addr) (N cap:Nat) (vt:Value) (w:World) (hk:¬(1≤kind∧kind≤5)) :
  Calls Tryz.prog 73 #[.agg #[.string id,.int .i64 kind,.int .i64 x,.int .i64 y,.slice a N cap,vt]] w fun e w'=>e=.returned (.bool (zay ⟨id,kind,x,y,refs,tags⟩))∧Below w.heap.size w w':=by
 have HB:=zH (show zay ⟨id,kind,x,y,refs,tags⟩=false by simp only [zay];rw [decide_eq_false hk];simp);have WD:=zH (fun w=>by have:=zlf kind w;rw [zho kind hk] at this;exact this);have ND:=zH True.intro;have TD:=zH True.intro;have LD:=zH True.intro;clear hk;have mixed:Tryz.prog.follows .mixedOrders=true:=by kernel_rfl
 go_enter Tryz.func73,Tryz.ntmps73;go_wp2_with fail;generalize hw1:w.alloc _=w1;have B1:=gB1 hw1;have HO:=gA11 hw1;clear hw1;have HO1:=zH HO;obtain ⟨pz,p0,p1,p2,p3,p4,p5⟩:=rk6 HO;have HO':=zH HO;clear HO;have q0:=zaa p0;have q1:=zaa p1;have q3:=zaa p4;have q5:=zaa p5;clear p0 p1 p2 p3 p4 p5;refine zae (by assumption) (by kernel_rfl) ?_;repeat (quiet_step (first | (go_at_call 128;exact zad (WD.out _)) | (go_at_call 129;exact zad (ND.out _)) | (go_at_call 130;exact zad (TD.out _ (zac B1 zR (zam.below _)))) | (go_at_call 131;exact zad (LD.out _))))
 refine wpQuiet_nil ?_;intro w2 hw';obtain ⟨⟨w3,hb2⟩,hw''⟩:=hw';subst hw'';go_wp2;go_ret;exact ⟨by rw [HB.out];rfl,zac B1 zR hb2⟩
set_option maxRecDepth 100000 in
set_option maxHeartbeats 2000000 in
theorem zacq (id:ByteArray) (kind x y:Int) (refs:List ByteArray) (tags:List TagD) (a:Option Addr) (N cap:Nat) (vt:Value) (w:World) (hz:id.size≤140737488355328) (hk:1≤kind∧kind≤5) (hn:zcw id=false) :
  Calls Tryz.prog 73 #[.agg #[.string id,.int .i64 kind,.int .i64 x,.int .i64 y,.slice a N cap,vt]] w fun e w'=>e=.returned (.bool (zay ⟨id,kind,x,y,refs,tags⟩))∧Below w.heap.size w w':=by
 have HB:=zH (show zay ⟨id,kind,x,y,refs,tags⟩=false by simp only [zay];rw [hn];simp);have WD:=zH (fun w=>zlf kind w);have hwz:=zmo kind hk.1 hk.2;generalize zig kind=wd at WD hwz;have ew1:wd.toList.isEmpty=false:=zbo hwz;have ew0:¬wd.toList=[]:=by intro e;rw [e] at ew1;simp at ew1
 have ND:=zH (fun w=>by have:=zgb id hz w;rw [hn] at this;exact this);have TD:=zH True.intro;have LD:=zH True.intro;clear hk hn;have mixed:Tryz.prog.follows .mixedOrders=true:=by kernel_rfl
 go_enter Tryz.func73,Tryz.ntmps73;go_wp2_with fail;generalize hw1:w.alloc _=w1;have B1:=gB1 hw1;have HO:=gA11 hw1;clear hw1;have HO1:=zH HO;obtain ⟨pz,p0,p1,p2,p3,p4,p5⟩:=rk6 HO;have HO':=zH HO;clear HO;have q0:=zaa p0;have q1:=zaa p1;have q3:=zaa p4;have q5:=zaa p5;clear p0 p1 p2 p3 p4 p5;refine zae (by assumption) (by kernel_rfl) ?_;repeat (quiet_step (first | (go_at_call 128;exact zad (WD.out _)) | (go_at_call 129;exact zad (ND.out _)) | (go_at_call 130;exact zad (TD.out _ (zac B1 zR (zam.below _)))) | (go_at_call 131;exact zad (LD.out _))))
 refine wpQuiet_nil ?_;intro w2 hw';obtain ⟨⟨w3,hb2⟩,hw''⟩:=hw';subst hw'';go_wp2;go_ret;exact ⟨by rw [HB.out];rfl,zac B1 zR hb2⟩
set_option maxRecDepth 100000 in
set_option maxHeartbeats 2000000 in
theorem zacp (id:ByteArray) (kind x y:Int) (refs:List ByteArray) (tags:List TagD) (a:Option Addr) (N cap:Nat) (vt:Value) (w:World) (hz:id.size≤140737488355328) (ht:zba w vt tags) (hk:1≤kind∧kind≤5) (hn:zcw id=true) (htg:zdq tags=false) :
  Calls Tryz.prog 73 #[.agg #[.string id,.int .i64 kind,.int .i64 x,.int .i64 y,.slice a N cap,vt]] w fun e w'=>e=.returned (.bool (zay ⟨id,kind,x,y,refs,tags⟩))∧Below w.heap.size w w':=by
 have HB:=zH (show zay ⟨id,kind,x,y,refs,tags⟩=false by simp only [zay];rw [htg];simp);have WD:=zH (fun w=>zlf kind w);have hwz:=zmo kind hk.1 hk.2;generalize zig kind=wd at WD hwz;have ew1:wd.toList.isEmpty=false:=zbo hwz;have ew0:¬wd.toList=[]:=by intro e;rw [e] at ew1;simp at ew1
 have ND:=zH (fun w=>by have:=zgb id hz w;rw [hn] at this;exact this);have TD:=zH (fun (w':World) (hb:Below w.heap.size w w')=>by have:=zpa vt tags w' (ht.later hb);rw [htg] at this;exact this);have LD:=zH True.intro;clear hk hn ht htg;have mixed:Tryz.prog.follows .mixedOrders=true:=by kernel_rfl
 go_enter Tryz.func73,Tryz.ntmps73;go_wp2_with fail;generalize hw1:w.alloc _=w1;have B1:=gB1 hw1;have HO:=gA11 hw1;clear hw1;have HO1:=zH HO;obtain ⟨pz,p0,p1,p2,p3,p4,p5⟩:=rk6 HO;have HO':=zH HO;clear HO;have q0:=zaa p0;have q1:=zaa p1;have q3:=zaa p4;have q5:=zaa p5;clear p0 p1 p2 p3 p4 p5;refine zae (by assumption) (by kernel_rfl) ?_;repeat (quiet_step (first | (go_at_call 128;exact zad (WD.out _)) | (go_at_call 129;exact zad (ND.out _)) | (go_at_call 130;exact zad (TD.out _ (zac B1 zR (zam.below _)))) | (go_at_call 131;exact zad (LD.out _))))
 refine wpQuiet_nil ?_;intro w2 hw';obtain ⟨⟨w3,hb2⟩,hw''⟩:=hw';subst hw'';go_wp2;go_ret;exact ⟨by rw [HB.out];rfl,zac B1 zR hb2⟩
set_option maxRecDepth 100000 in
set_option maxHeartbeats 2000000 in
theorem zxw (id:ByteArray) (kind x y:Int) (refs:List ByteArray) (tags:List TagD) (a:Option Addr) (N cap:Nat) (vt:Value) (w:World) (hz:id.size≤140737488355328) (ht:zba w vt tags) (hk:1≤kind∧kind≤5) (hn:zcw id=true) (htg:zdq tags=true) (hN:N=refs.length) (hl:(N:Int)<zff kind) :
  Calls Tryz.prog 73 #[.agg #[.string id,.int .i64 kind,.int .i64 x,.int .i64 y,.slice a N cap,vt]] w fun e w'=>e=.returned (.bool (zay ⟨id,kind,x,y,refs,tags⟩))∧Below w.heap.size w w':=by
 have HB:=zH (show zay ⟨id,kind,x,y,refs,tags⟩=false by simp only [zay];rw [←hN,show decide (zff kind≤(N:Int))=false from decide_eq_false (by omega)];simp);have WD:=zH (fun w=>zlf kind w);have hwz:=zmo kind hk.1 hk.2;generalize zig kind=wd at WD hwz;have ew1:wd.toList.isEmpty=false:=zbo hwz;have ew0:¬wd.toList=[]:=by intro e;rw [e] at ew1;simp at ew1
 have ND:=zH (fun w=>by have:=zgb id hz w;rw [hn] at this;exact this);have TD:=zH (fun (w':World) (hb:Below w.heap.size w w')=>by have:=zpa vt tags w' (ht.later hb);rw [htg] at this;exact this);have LD:=zH (fun w=>zmd kind hk.1 hk.2 w);generalize zff kind=m at LD hl;have hld:decide ((N:Int)<m)=true:=decide_eq_true hl;clear hk hn ht htg hN;have mixed:Tryz.prog.follows .mixedOrders=true:=by kernel_rfl
 go_enter Tryz.func73,Tryz.ntmps73;go_wp2_with fail;generalize hw1:w.alloc _=w1;have B1:=gB1 hw1;have HO:=gA11 hw1;clear hw1;have HO1:=zH HO;obtain ⟨pz,p0,p1,p2,p3,p4,p5⟩:=rk6 HO;have HO':=zH HO;clear HO;have q0:=zaa p0;have q1:=zaa p1;have q3:=zaa p4;have q5:=zaa p5;clear p0 p1 p2 p3 p4 p5;refine zae (by assumption) (by kernel_rfl) ?_;repeat (quiet_step (first | (go_at_call 128;exact zad (WD.out _)) | (go_at_call 129;exact zad (ND.out _)) | (go_at_call 130;exact zad (TD.out _ (zac B1 zR (zam.below _)))) | (go_at_call 131;exact zad (LD.out _))))
 refine wpQuiet_nil ?_;intro w2 hw';obtain ⟨⟨w3,hb2⟩,hw''⟩:=hw';subst hw'';go_wp2;go_ret;exact ⟨by rw [HB.out];rfl,zac B1 zR hb2⟩
set_option maxRecDepth 100000 in
set_option maxHeartbeats 2000000 in
theorem zacr (id:ByteArray) (kind x y:Int) (refs:List ByteArray) (tags:List TagD) (a:Option Addr) (N cap:Nat) (vt:Value) (w:World) (hz:id.size≤140737488355328) (ht:zba w vt tags) (hk:1≤kind∧kind≤5) (hn:zcw id=true) (htg:zdq tags=true) (hN:N=refs.length) (hl:¬(N:Int)<zff kind) (hm:2000<N) :
  Calls Tryz.prog 73 #[.agg #[.string id,.int .i64 kind,.int .i64 x,.int .i64 y,.slice a N cap,vt]] w fun e w'=>e=.returned (.bool (zay ⟨id,kind,x,y,refs,tags⟩))∧Below w.heap.size w w':=by
 have HB:=zH (show zay ⟨id,kind,x,y,refs,tags⟩=false by simp only [zay];rw [←hN,show decide (N≤2000)=false from decide_eq_false (by omega)];simp);have WD:=zH (fun w=>zlf kind w);have hwz:=zmo kind hk.1 hk.2;generalize zig kind=wd at WD hwz;have ew1:wd.toList.isEmpty=false:=zbo hwz;have ew0:¬wd.toList=[]:=by intro e;rw [e] at ew1;simp at ew1
 have ND:=zH (fun w=>by have:=zgb id hz w;rw [hn] at this;exact this);have TD:=zH (fun (w':World) (hb:Below w.heap.size w w')=>by have:=zpa vt tags w' (ht.later hb);rw [htg] at this;exact this);have LD:=zH (fun w=>zmd kind hk.1 hk.2 w);generalize zff kind=m at LD hl;have hld:decide ((N:Int)<m)=false:=decide_eq_false hl;have hmz:(2000:Int)<(N:Int):=by omega
 have hmd:decide ((2000:Int)<(N:Int))=true:=decide_eq_true hmz;clear hk hn ht htg hN;have mixed:Tryz.prog.follows .mixedOrders=true:=by kernel_rfl
 go_enter Tryz.func73,Tryz.ntmps73;go_wp2_with fail;generalize hw1:w.alloc _=w1;have B1:=gB1 hw1;have HO:=gA11 hw1;clear hw1;have HO1:=zH HO;obtain ⟨pz,p0,p1,p2,p3,p4,p5⟩:=rk6 HO;have HO':=zH HO;clear HO;have q0:=zaa p0;have q1:=zaa p1;have q3:=zaa p4;have q5:=zaa p5;clear p0 p1 p2 p3 p4 p5;refine zae (by assumption) (by kernel_rfl) ?_;repeat (quiet_step (first | (go_at_call 128;exact zad (WD.out _)) | (go_at_call 129;exact zad (ND.out _)) | (go_at_call 130;exact zad (TD.out _ (zac B1 zR (zam.below _)))) | (go_at_call 131;exact zad (LD.out _))))
 refine wpQuiet_nil ?_;intro w2 hw';obtain ⟨⟨w3,hb2⟩,hw''⟩:=hw';subst hw'';go_wp2;go_ret;exact ⟨by rw [HB.out];rfl,zac B1 zR hb2⟩
end Go.Proofs.YtibpaaajghbkoaaGreat
