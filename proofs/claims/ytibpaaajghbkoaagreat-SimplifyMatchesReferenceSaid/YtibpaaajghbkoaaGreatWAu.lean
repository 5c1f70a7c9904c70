/-  -/
import Derived.Test.YtibpaaajghbkoaaGreatWAs
import Derived.Test.YtibpaaajghbkoaaGreatWAt
import Derived.Test.YtibpaaajghbkoaaGreatWAm
import Derived.BigQuiet
namespace Go.Proofs.YtibpaaajghbkoaaGreat
open Go.RowKit Go.Maps Go.Sort Go.ChangeMaps
theorem zhn {P:Program} {o:Oper} {a:Act} {w w':World} {K:Act→World→Prop} {Q:Exit→Act→World→Prop} (t:TypeId) (m x v:Operand) (hop:o.op=.mapUpdate t m x v) {vm vx vv:Value} (hm:a.eval m=vm) (hx:a.eval x=vx) (hv:a.eval v=vv)
  (hrun:(Instr.mapUpdate t vm vx vv).run P w=.ok () w') (h:K (a.put o.dst undef) w'):o.wp P a w K Q:=by
 unfold Oper.wp;simp [execOp,hop,hm,hx,hv,hrun,Result.andThen];exact h
theorem zjo {P:Program} {o:Oper} {a:Act} {w w':World} {K:Act→World→Prop} {Q:Exit→Act→World→Prop} (m k:Operand) (t t':TypeId) (hop:o.op=.call { callee:=.builtin .delete,args:=#[m,k],argTypes:=#[t,t'] }) {vm vk v':Value} (hm:a.eval m=vm) (hk:a.eval k=vk)
  (hrun:(Builtin.delete_ #[t,t'] o.type #[vm,vk]).run P w=.ok v' w') (h:K (a.put o.dst v') w'):o.wp P a w K Q:=by
 unfold Oper.wp execOp;simp only [hop,resolve,invoke,builtin,Sem.run_bind,Sem.run_pure,Result.andThen_ok,List.map_toArray,List.map_cons,List.map_nil,hm,hk,hrun];exact h
theorem zdh {a b:Nat} (h:a≠b):some a≠some b:=fun e=>h (by injection e)
def zed (bo bn br:Nat) (w W:World):Prop:=Below 0 w W∧∀k,k<w.heap.size→k≠bo→k≠bn→k≠br→W.heap[k]?=w.heap[k]?
theorem zed.of_below {bo bn br:Nat} {w W:World} (h:Below w.heap.size w W):zed bo bn br w W:=⟨h.mono (Nat.zero_le _),fun k hk _ _ _=>h.block k hk⟩
theorem zed.trans {bo bn br:Nat} {a b c:World} (h:zed bo bn br a b) (h2:zed bo bn br b c):zed bo bn br a c:=⟨h.1.trans h2.1,fun k hk e1 e2 e3=>(h2.2 k (Nat.lt_of_lt_of_le hk h.1.size) e1 e2 e3).trans (h.2 k hk e1 e2 e3)⟩
theorem zed.row {bo bn br b:Nat} {w W:World} (hg:w.grownBy W (some b)) (hb:b=bo∨b=bn∨b=br):zed bo bn br w W:=⟨(Below.refl 0 w).grown hg (Nat.zero_le _) (fun _ _=>Nat.zero_le _),fun k hk e1 e2 e3=>hg.block k hk (fun e=>by injection e with e;rcases hb with h | h | h<;>omega)⟩
theorem zed.below {bo bn br B:Nat} {w W:World} (h:zed bo bn br w W) (h1:B≤bo) (h2:B≤bn) (h3:B≤br) (h4:B≤w.heap.size):Below B w W:=⟨h.1.os,h.1.tape,h.1.output,h.1.size,fun k hk=>h.2 k (Nat.lt_of_lt_of_le hk h4) (by omega) (by omega) (by omega)⟩
structure zco (w0:World) (bp:Nat) (ord:List ByteArray) (l:List ObjD) (bo bn br:Nat) (vo:Value) (id:ByteArray) (b3:Nat) (vi:Value) (f:ByteArray→Option ObjD) (g:ByteArray→Option Pt) (h:ByteArray→List ByteArray) (W:World):Prop where
 row:W.heap[bp]?=some (.cells #[.map (some bo),vo,.map (some bn),.map (some br)] 65)
 h3:W.heap[b3]?=some (.cells #[.string id] 9)
 ord:zaj W vo ord
 ids:zaj W vi (refF l id)
 objs:zcu W bo f
 nods:zej W bn g
 refs:zfi W br h
 low:zed bo bn br w0 W
section
variable {w0:World} {bp:Nat} {ord:List ByteArray} {l:List ObjD} {bo bn br:Nat} {vo:Value} {id:ByteArray} {b3:Nat} {vi:Value} {f:ByteArray→Option ObjD} {g:ByteArray→Option Pt} {h:ByteArray→List ByteArray} {W W':World}
theorem zco.on (d:zco w0 bp ord l bo bn br vo id b3 vi f g h W) (hb:Below W.heap.size W W'):zco w0 bp ord l bo bn br vo id b3 vi f g h W' :=
 ⟨zab hb d.row,zab hb d.h3,d.ord.later hb,d.ids.later hb,d.objs.on hb,d.nods.on hb,d.refs.on hb,d.low.trans (zed.of_below hb)⟩
theorem zco.rest (d:zco w0 bp ord l bo bn br vo id b3 vi f g h W) {b:Nat} (hg:W.grownBy W' (some b)) (hb:b=bo∨b=bn∨b=br) (hn:zbg W (some b)) :
  W'.heap[bp]?=some (.cells #[.map (some bo),vo,.map (some bn),.map (some br)] 65)∧W'.heap[b3]?=some (.cells #[.string id] 9)∧zaj W' vo ord∧zaj W' vi (refF l id)∧zed bo bn br w0 W' :=
 ⟨zcm rfl hg hn d.row,zcm rfl hg hn d.h3,d.ord.grown hg hn,d.ids.grown hg hn,d.low.trans (zed.row hg hb)⟩
theorem zco.put (d:zco w0 bp ord l bo bn br vo id b3 vi f g h W) (ne1:bo≠bn) (ne2:bo≠br) (k:ByteArray) (hz:k.size≤140737488355328) (x:ObM) (hx:zgh W x) {o:ObjD} (hf:f k=some o) {f':ByteArray→Option ObjD} (hf':∀r,f' r=if r=k then some x.1 else f r) :
  ∃W',(Instr.mapUpdate 61 (.map (some bo)) (.string k) (objV x)).run Tryz.prog W=.ok () W'∧zco w0 bp ord l bo bn br vo id b3 vi f' g h W'∧W.grownBy W' (some bo):=by
 obtain ⟨W',hrun,ho,hg⟩:=d.objs.put k hz x hx (fun O hl ha=>by
  have:=ha k
  rw [hf] at this
  cases hq:aget k O with
  |none=>rw [hq] at this;cases this
  |some u=>rw [znq hq];exact hl) hf'
 have hn:=d.objs.noCells;obtain ⟨a1,a2,a3,a4,a5⟩:=d.rest hg (Or.inl rfl) hn;exact ⟨W',hrun,⟨a1,a2,a3,a4,ho,d.nods.grown hg (zdh (Ne.symm ne1)),d.refs.grown hg hn (zdh (Ne.symm ne2)),a5⟩,hg⟩
theorem zco.delO (d:zco w0 bp ord l bo bn br vo id b3 vi f g h W) (ne1:bo≠bn) (ne2:bo≠br) (hz:id.size≤140737488355328) (ty:TypeId) {f':ByteArray→Option ObjD} (hf':∀r,f' r=if r=id then none else f r) :
  ∃W',(Builtin.delete_ #[61,9] ty #[.map (some bo),.string id]).run Tryz.prog W=.ok (.tuple #[]) W'∧zco w0 bp ord l bo bn br vo id b3 vi f' g h W':=by
 obtain ⟨W',hrun,ho,hg⟩:=d.objs.del id hz ty hf';have hn:=d.objs.noCells;obtain ⟨a1,a2,a3,a4,a5⟩:=d.rest hg (Or.inl rfl) hn;exact ⟨W',hrun,⟨a1,a2,a3,a4,ho,d.nods.grown hg (zdh (Ne.symm ne1)),d.refs.grown hg hn (zdh (Ne.symm ne2)),a5⟩⟩
theorem zco.delN (d:zco w0 bp ord l bo bn br vo id b3 vi f g h W) (ne1:bo≠bn) (ne3:bn≠br) (hz:id.size≤140737488355328) (ty:TypeId) {g':ByteArray→Option Pt} (hg':∀r,g' r=if r=id then none else g r) :
  ∃W',(Builtin.delete_ #[62,9] ty #[.map (some bn),.string id]).run Tryz.prog W=.ok (.tuple #[]) W'∧zco w0 bp ord l bo bn br vo id b3 vi f g' h W':=by
 obtain ⟨W',hrun,ho,hg⟩:=d.nods.del id hz ty hg';have hn:=d.nods.noCells;obtain ⟨a1,a2,a3,a4,a5⟩:=d.rest hg (Or.inr (Or.inl rfl)) hn;exact ⟨W',hrun,⟨a1,a2,a3,a4,d.objs.grown hg hn (zdh ne1),ho,d.refs.grown hg hn (zdh (Ne.symm ne3)),a5⟩⟩
theorem zco.delR (d:zco w0 bp ord l bo bn br vo id b3 vi f g h W) (ne2:bo≠br) (ne3:bn≠br) (hz:id.size≤140737488355328) (ty:TypeId) {h':ByteArray→List ByteArray} (hh':∀r,h' r=if r=id then [] else h r) :
  ∃W',(Builtin.delete_ #[63,9] ty #[.map (some br),.string id]).run Tryz.prog W=.ok (.tuple #[]) W'∧zco w0 bp ord l bo bn br vo id b3 vi f g h' W':=by
 obtain ⟨W',hrun,ho,hg⟩:=d.refs.del id hz ty hh';have hn:=d.refs.noCells;obtain ⟨a1,a2,a3,a4,a5⟩:=d.rest hg (Or.inr (Or.inr rfl)) hn;exact ⟨W',hrun,⟨a1,a2,a3,a4,d.objs.grown hg hn (zdh ne2),d.nods.grown hg (zdh ne3),ho,a5⟩⟩
end
theorem zaid (id:ByteArray) (o:ObjD):zbz id (zbz id o)=zbz id o:=by unfold zbz zbq;simp [List.filter_filter]
theorem zwy (id:ByteArray) (ids:List ByteArray) (o:ObjD):zbz id (zez id ids o)=zbz id o:=by
 unfold zez;split
 ·exact zaid id o
 ·rfl
theorem zahm {l:List ObjD} {n:ByteArray} (h:zas l=true) (h2:zas (zaz l n)=true) (hn:zxp l n) (r:ByteArray):nodF (zaz l n) r=if r=n then none else nodF l r:=by
 unfold nodF;by_cases e:r=n
 ·rw [if_pos e,if_neg (fun c=>((zrl hn).1 c).2 e)]
 ·rw [if_neg e];by_cases hb:r∈zgp l
  ·rw [if_pos hb,if_pos ((zrl hn).2 ⟨hb,e⟩),zaop h h2 e]
  ·rw [if_neg hb,if_neg (fun c=>hb ((zrl hn).1 c).1)]
theorem zagi {l:List ObjD} {n:ByteArray} (hn:zxp l n) (r:ByteArray):refF (zaz l n) r=if r=n then [] else refF l r:=by
 unfold refF;by_cases e:r=n
 ·rw [if_pos e,e,zys];rfl
 ·rw [if_neg e,zyt hn e]
theorem zaes {l:List ObjD} (h:zas l=true) {n:ByteArray} {k:Nat} {o:ObjD} (ho:(zax l n)[k]?=some o) (r:ByteArray) :
  (atO l r).map (zez n ((refF l n).take (k+1)))=if r=o.id then some (zbz n o) else (atO l r).map (zez n ((refF l n).take k)):=by
 have hom:=zM ho;have hol:o∈l:=(List.mem_filter.1 hom).1;have hk:(refF l n)[k]?=some o.id:=by unfold refF;rw [List.getElem?_map,ho];rfl
 have ht:=zbn hk;by_cases e:r=o.id
 ·rw [if_pos e,e,zla h hol,Option.map_some];congr 1;unfold zez;rw [if_pos (by rw [ht];simp)]
 ·rw [if_neg e];cases hx:atO l r with
  |none=>rfl
  |some x =>
   rw [Option.map_some,Option.map_some];congr 1;unfold zez;have hxr:x.id=r:=zaro hx;by_cases hm:x.id∈(refF l n).take k
   ·rw [if_pos hm,if_pos (by rw [ht];exact List.mem_append_left _ hm)]
   ·rw [if_neg hm,if_neg];rw [ht,List.mem_append];rintro (c | c)
    ·exact hm c
    ·exact e (hxr ▸ List.mem_singleton.1 c)
def zanj (bp:Nat) (ord:List ByteArray) (l:List ObjD) (bo bn br:Nat) (vo:Value) (w:World) (e:Ending) (w':World):Prop :=
 e=.returned (.tuple #[])∧zdl w' bp ord l bo bn br vo∧zed bo bn br w w'
set_option maxRecDepth 100000 in
set_option maxHeartbeats 4000000 in
theorem zams (bp:Nat) (ord:List ByteArray) (l:List ObjD) (bo bn br:Nat) (vo:Value) (id:ByteArray) (w:World) (hp:zdl w bp ord l bo bn br vo) (hok:zas l=true) (hok2:zas (zaz l id)=true) (hnl:zxp l id) (hz:id.size≤140737488355328) :
  Calls Tryz.prog 64 #[.pointer (some ⟨bp,0,none⟩),.string id] w (zanj bp ord (zaz l id) bo bn br vo w):=by
 have mixed:Tryz.prog.follows .mixedOrders=true:=by kernel_rfl
 obtain ⟨v,hlk,hrow⟩:=hp.refs.look id hz;have HPL:=zH hp;have HOK:=zH hok;have HOK2:=zH hok2;have HNL:=zH hnl;have HPR:=zH hp.row;have ne1:=hp.ne1;have ne2:=hp.ne2;have ne3:=hp.ne3;obtain ⟨N,hN⟩:∃N,(zax l id).length=N:=⟨_,rfl⟩;have hNl:(refF l id).length=N:=by unfold refF;rw [List.length_map,hN]
 have HROW:=zH hrow;obtain ⟨ar,capr,rfl,hN0,_,hcell⟩:=hrow;rw [hNl] at hlk hcell hN0 HROW;have hNb:N≤1000000:=by rw [←hN];exact Nat.le_trans (List.length_filter_le _ _) (zcs hok).1
 have HN:=zH hN;have B1:Below w.heap.size w (w.alloc (.cells #[.string id] 9)):=(Below.refl _ _).alloc zR _;have hlq:=fun n:Nat=>hlk ((w.alloc (.cells #[.string id] 9)).drewN n) B1.drewN';clear hp hok hok2 hnl hN hNl hcell hlk;go_enter Tryz.func64,Tryz.ntmps64;go_wp2_with fail;generalize hw1:w.alloc _=w1;have H3:=gA11 hw1;rw [hw1] at B1;simp only [hw1] at hlq;have H3:=zH H3;have HPR1:=zH (zab B1 HPR.out);obtain ⟨pz,p0,p1,p2,p3⟩:=rk4 HPR1.out;obtain ⟨qz,q0⟩:=rk1 H3.out;go_quiet (fail);clear p0 p1 p2 p3 pz;clear q0 qz;have BQ:Below w1.heap.size w1 (w1.drewN nq):=(Below.refl _ _).drewN';have B2:=B1.drewN' (n:=nq);have H3:=zH (zab BQ H3.out);obtain ⟨vi,hvi⟩:∃z,z=Value.slice ar N capr:=⟨_,rfl⟩;have HVI:=zH hvi;have HD0:=zH (show zco w bp ord l bo bn br vo id w.heap.size vi (fun r=>(atO l r).map (zez id ((refF l id).take 0))) (nodF l) (refF l) (w1.drewN nq) from
  ⟨zab B2 HPR.out,H3.out,HPL.out.ord.later B2,by rw [hvi];exact HROW.out.later B2,(HPL.out.objs.on B2).congr (fun r=>by rw [List.take_zero];cases atO l r with | none=>rfl | some o=>simp [zzr]),HPL.out.nods.on B2,HPL.out.refs.on B2,zed.of_below B2⟩)
 generalize hw2:w1.drewN nq=w2;rw [hw2] at HD0;clear hw2 hw1 hlq BQ B1 B2 H3 HPR1 HROW hvi;go_wp2_with fail;go_loopw [14] (fun i wr=>∃k:Nat,i=.int .i64 k∧k≤N∧zco w bp ord l bo bn br vo id w.heap.size vi (fun r=>(atO l r).map (zez id ((refF l id).take k))) (nodF l) (refF l) wr) (fun i _=>N - (intOf i).toNat);case atStart=>exact ⟨0,rfl,Nat.zero_le _,HD0.out⟩
 case round =>
  obtain ⟨k,rfl,hk,hd⟩:=hrel;have HD:=zH hd;clear hd;by_cases hlt:k<N
  ·obtain ⟨o,ho⟩:∃o,(zax l id)[k]?=some o:=⟨(zax l id)[k]'(by rw [HN.out];exact hlt),List.getElem?_eq_getElem _⟩;have hom:=zM ho;have hol:o∈l:=(List.mem_filter.1 hom).1;have hids:=HD.out.ids;rw [HVI.out] at hids;obtain ⟨a',cap',e',_,_,hc⟩:=hids;injection e' with e1 e2 e3;subst e1 e3;obtain ⟨b,off,ha,hcell⟩:=hc (by rw [←e2];omega);clear e2;subst ha;have c0:=hcell k o.id (by unfold refF;rw [List.getElem?_map,ho];rfl);have hsz:=HPL.out.size HOK.out hol;have HST:=zH (fun r=>zaes (n:=id) HOK.out ho r);have hf0:(fun r=>(atO l r).map (zez id ((refF l id).take k))) o.id=some (zez id ((refF l id).take k) o):=(by simp only [zla HOK.out hol,Option.map_some]);have HF0:=zH hf0;obtain ⟨vr,vt,hcap,hlo,_⟩:=HD.out.objs.look hf0 hsz.1;have hlo1:=hlo wr (Below.refl _ _);have hrl:(zez id ((refF l id).take k) o).refs.length≤2000:=by
    have:=zda HOK.out hol;simp only [zay,Bool.and_eq_true,decide_eq_true_eq] at this;have h2:=this.1.1.2;unfold zez;split
    ·exact Nat.le_trans (List.length_filter_le _ _) (by omega)
    ·omega
   have HLE:=zH (zwy id ((refF l id).take k) o);have HID:=zH (zaeq id ((refF l id).take k) o);generalize zez id ((refF l id).take k) o=q at hf0 HF0 hcap hlo1 hrl HLE HID;have HCAP:=zH hcap;have HSZ:=zH hsz.1;have hr:zaj wr vr q.refs:=hcap.1.1;have ht:zba wr vt q.tags:=hcap.1.2.1;obtain ⟨at1,capt,evt,_⟩:=ht;have hr':=hr;obtain ⟨aq,capq,evq,_⟩:=hr';have HR:=zH hr;subst evt evq;have CL:=zH (fun W (hb:Below wr.heap.size wr W)=>zaex _ q.refs W (by omega) (HR.out.later hb));have HROW:=zH HD.out.row;clear hcell hc ho hom hol hsz hlo hcap hr hf0;obtain ⟨pz,p0,p1,p2,p3⟩:=rk4 HROW.out;go_wp2_with fail;generalize hwx:wr.alloc _=wx;have BX:=gB1 hwx;have HX:=gA11 hwx;clear hwx hlo1;clear p0 p1 p2 p3 pz;refine (CL.out _ BX).mono ?_;rintro e w5 ⟨v5,rfl,hown5,hb5⟩;have hzx:=BX.size;have B5:=zac BX zR hb5;have HX5:=zH (zab hb5 HX);have H35:=zH (zab B5 HD.out.h3);have hlx:=zaf HX;have DE:=zH (zamt v5 q.refs id w.heap.size wx.heap.size w5 hown5 (by omega) H35.out (fun c=>by
    have h1:=(zap hown5 _ c).1
    have h2:=zaf HD.out.h3
    omega))
   have HO5:=zH hown5;clear CL hown5 hb5 BX;go_wp2_with fail;refine DE.out.mono ?_;rintro e w6 ⟨v6,rfl,hown6,hg6,hvb⟩;have B6:=B5.grown hg6 B5.size (fun j hj=>by have:=(zap HO5.out j hj).1;omega);have HX6:=zH (zak hg6 HX5.out (fun c=>by have:=(zap HO5.out _ c.symm).1;omega));have HRL:=zH (show (zbq id q.refs).length≤2000 from Nat.le_trans (List.length_filter_le _ _) hrl);have hnb:v6.ownBlock≠some wr.heap.size:=fun c=>(by have:=(zap hown6 _ c).1;omega);have HO7:=zH (show ∀u,(w6.setCell ⟨wr.heap.size,4,none⟩ u).ownsRow wx.heap.size 9 1 v6 (zbq id q.refs).length ((zbq id q.refs).map Value.string) from fun u=>hown6.kept (zal (g:=wr.heap.size) [u] 4 w6) (Or.inr hnb));have HS6:=zH (show ∀u,zaj (w6.setCell ⟨wr.heap.size,4,none⟩ u) v6 (zbq id q.refs) from fun u=>zaj.of_own (HO7.out u) (by have:=HRL.out;omega) (fun s hs=>by
    obtain ⟨a9,c9,_,_,hz9,_⟩:=HR.out
    exact hz9 s (zio.1 hs).1))
   have HC6:=zH (CapV.own hown6);obtain ⟨a6,c6,hv6,_⟩:=HS6.out (.int .i64 0);subst hv6;clear hown6 hg6 hvb hnb DE HO5 HO7;obtain ⟨xz,x0,x1,x2,x3,x4,x5⟩:=rk6 HX6.out;have xf0:=frozen_of_row w6 _ 0 _ _ HX6.out;have xf1:=frozen_of_row w6 _ 1 _ _ HX6.out;have xf2:=frozen_of_row w6 _ 2 _ _ HX6.out;have xf3:=frozen_of_row w6 _ 3 _ _ HX6.out;have xf4:=frozen_of_row w6 _ 4 _ _ HX6.out;have xf5:=frozen_of_row w6 _ 5 _ _ HX6.out;go_upto_region 6 with fail;clear x0 x1 x2 x3 x4 x5 xz xf0 xf1 xf2 xf3 xf4 xf5;have HX7:=zbl (i:=4) (v:=(.slice a6 (zbq id q.refs).length c6)) HX6.out;have B7:=B6.setCell (p:=⟨wr.heap.size,4,none⟩) zR (.slice a6 (zbq id q.refs).length c6);have HX7:=zH (show (w6.setCell ⟨wr.heap.size,4,none⟩ (.slice a6 (zbq id q.refs).length c6)).heap[wr.heap.size]?=some (.cells #[.string q.id,.int .i64 q.kind,.int .i64 q.x,.int .i64 q.y,(.slice a6 (zbq id q.refs).length c6),.slice at1 q.tags.length capt] 36) by simpa using HX7);have HS7:=zH (HS6.out (.slice a6 (zbq id q.refs).length c6));obtain ⟨w7,hw7⟩:∃z,w6.setCell ⟨wr.heap.size,4,none⟩ (.slice a6 (zbq id q.refs).length c6)=z:=⟨_,rfl⟩;rw [hw7] at B7 HX7 HS7 ⊢;have HCX:=zH (show zgh w7 ({ q with refs:=zbq id q.refs },(.slice a6 (zbq id q.refs).length c6),.slice at1 q.tags.length capt) from ⟨⟨HS7.out,HCAP.out.1.2.1.later B7,HCAP.out.1.2.2⟩,HC6.out⟩);have HD7:=zH (HD.out.on B7);clear hw7 B6 B5 HS6 HS7 HX6 HX5 H35 HX;refine wp_region_mix 6 (fun W=>(∃f,zco w bp ord l bo bn br vo id w.heap.size vi f (nodF l) (refF l) W)∧W.heap[wr.heap.size]?=some (.cells #[.string q.id,.int .i64 q.kind,.int .i64 q.x,.int .i64 q.y,(.slice a6 (zbq id q.refs).length c6),.slice at1 q.tags.length capt] 36))
    (fun W=>(zco w bp ord l bo bn br vo id w.heap.size vi (fun r=>(atO l r).map (zez id ((refF l id).take k))) (nodF l) (refF l) W∧zgh W ({ q with refs:=zbq id q.refs },(.slice a6 (zbq id q.refs).length c6),.slice at1 q.tags.length capt))∧W.heap[wr.heap.size]?=some (.cells #[.string q.id,.int .i64 q.kind,.int .i64 q.x,.int .i64 q.y,(.slice a6 (zbq id q.refs).length c6),.slice at1 q.tags.length capt] 36)) mixed (by kernel_rfl) (by kernel_rfl) (by kernel_rfl)
    (fun W W' d hb=>⟨⟨zco.on d.1.1 hb,d.1.2.later hb⟩,zab hb d.2⟩) (fun W d=>⟨⟨_,d.1.1⟩,d.2⟩) ⟨⟨zco.on HD7.out (Below.refl _ _).drew,HCX.out.later (Below.refl _ _).drew⟩,zab (Below.refl _ _).drew HX7.out⟩ ?_
   apply Exists.intro;refine ⟨fun W hW=>?_,?_⟩
   ·obtain ⟨⟨f,d⟩,hx⟩:=hW;have HA:=zH d.row;have HB:=zH hx;clear d hx;obtain ⟨pz,p0,p1,p2,p3⟩:=rk4 HA.out;have qp0:=zaa p0;have qp1:=zaa p1;have qp2:=zaa p2;have qp3:=zaa p3;clear p0 p1 p2 p3;obtain ⟨xz,x0,x1,x2,x3,x4,x5⟩:=rk6 HB.out;have qx0:=zaa x0;have qx1:=zaa x1;have qx2:=zaa x2;have qx3:=zaa x3;have qx4:=zaa x4;have qx5:=zaa x5;clear x0 x1 x2 x3 x4 x5;simp only [List.take_succ_cons,List.take_zero];repeat (go_big_quiet_step (fail))
    exact wpQuiet_nil rfl
   ·simp only [List.drop_succ_cons,List.drop_zero];refine tailM_step (ι:=Unit) (fun _=>undef) (fun _ W=>(zco w bp ord l bo bn br vo id w.heap.size vi (fun r=>(atO l r).map (zez id ((refF l id).take (k+1)))) (nodF l) (refF l) W)∧W.heap[wr.heap.size]?=some (.cells #[.string q.id,.int .i64 q.kind,.int .i64 q.x,.int .i64 q.y,(.slice a6 (zbq id q.refs).length c6),.slice at1 q.tags.length capt] 36)) rfl (fun _ W W' d hb=>⟨zco.on d.1 hb,zab hb d.2⟩) (fun _ W d=>⟨⟨_,d.1⟩,d.2⟩) (fun W hS K hK=>?_) (fun _=>?_)
    ·obtain ⟨⟨d,hc⟩,hx⟩:=hS;obtain ⟨W',hrun,d',hg'⟩:=d.put ne1 ne2 o.id HSZ.out _ hc HF0.out (f':=fun r=>(atO l r).map (zez id ((refF l id).take (k+1)))) (fun r=>by
      rw [HST.out r]
      by_cases e:r=o.id
      ·rw [if_pos e,if_pos e]
       congr 1
       exact HLE.out.symm
      ·rw [if_neg e,if_neg e])
     have HDD:=zH d';have HXX:=zH (zcm rfl hg' d.objs.noCells hx);clear hg' d hc hx;refine zhn _ _ _ _ rfl rfl rfl rfl hrun ?_;exact hK () _ ⟨HDD.out,HXX.out⟩
    simp only [Act.put];refine tailM_nil fun W hW=>?_;have HDW:=zH hW.1;clear hW;go_wp2;go_roundw;case rel=>exact ⟨k+1,by go_num,by omega,HDW.out⟩
    case measure=>simp [intOf];omega
  ·obtain rfl:k=N:=(by omega);go_wp2_with fail;have HF1:=zH (fun r=>zaqb (n:=id) HOK.out HOK2.out r);have HD:=zH (show zco w bp ord l bo bn br vo id w.heap.size vi (fun r=>(atO l r).map (zbz id)) (nodF l) (refF l) wr from
    ⟨HD.out.row,HD.out.h3,HD.out.ord,HD.out.ids,HD.out.objs.congr (fun r=>by
     have e:(refF l id).take k=(zax l id).map (·.id):=List.take_of_length_le (by unfold refF;rw [List.length_map,HN.out];exact Nat.le_refl _)
     rw [e]
     exact zzs),HD.out.nods,HD.out.refs,HD.out.low⟩)
   refine wp_region_mix 5 (fun W=>∃f g h,zco w bp ord l bo bn br vo id w.heap.size vi f g h W) (fun W=>zco w bp ord l bo bn br vo id w.heap.size vi (fun r=>(atO l r).map (zbz id)) (nodF l) (refF l) W) mixed (by kernel_rfl) (by kernel_rfl) (by kernel_rfl) (fun W W' d hb=>zco.on d hb) (fun W d=>⟨_,_,_,d⟩) (zco.on HD.out (Below.refl _ _).drew) ?_;apply Exists.intro;refine ⟨fun W hW=>?_,?_⟩
   ·obtain ⟨f,g,h,d⟩:=hW;have HA:=zH d.row;have HB:=zH d.h3;clear d;obtain ⟨pz,p0,p1,p2,p3⟩:=rk4 HA.out;have qp0:=zaa p0;have qp1:=zaa p1;have qp2:=zaa p2;have qp3:=zaa p3;clear p0 p1 p2 p3;obtain ⟨qz,q0⟩:=rk1 HB.out;have qq0:=zaa q0;clear q0;simp only [List.take_succ_cons,List.take_zero];repeat (go_big_quiet_step (fail))
    exact wpQuiet_nil rfl
   ·simp only [List.drop_succ_cons,List.drop_zero];refine tailM_step (ι:=Unit) (fun _=>.tuple #[]) (fun _ W=>zco w bp ord l bo bn br vo id w.heap.size vi (atO (zaz l id)) (nodF l) (refF l) W) rfl (fun _ W W' d hb=>zco.on d hb) (fun _ W d=>⟨_,_,_,d⟩) (fun W hS K hK=>?_) (fun _=>?_)
    ·obtain ⟨W',hrun,d⟩:=hS.delO ne1 ne2 hz _ (f':=atO (zaz l id)) (fun r=>HF1.out r);have HDD:=zH d;clear d;refine zjo _ _ _ _ rfl rfl rfl hrun ?_;exact hK () _ HDD.out
    simp only [Act.put];refine tailM_nil fun W hW=>?_;have HD:=zH hW;clear hW;have HF2:=zH (fun r=>zahm (n:=id) HOK.out HOK2.out HNL.out r);have HF3:=zH (fun r=>zagi (n:=id) HNL.out r);go_wp2_with fail;refine wp_region_mix 5 (fun W=>∃f g h,zco w bp ord l bo bn br vo id w.heap.size vi f g h W) (fun W=>zco w bp ord l bo bn br vo id w.heap.size vi (atO (zaz l id)) (nodF l) (refF l) W) mixed (by kernel_rfl) (by kernel_rfl) (by kernel_rfl) (fun W W' d hb=>zco.on d hb) (fun W d=>⟨_,_,_,d⟩) (zco.on HD.out (Below.refl _ _).drew) ?_;apply Exists.intro;refine ⟨fun W hW=>?_,?_⟩
    ·obtain ⟨f,g,h,d⟩:=hW;have HA:=zH d.row;have HB:=zH d.h3;clear d;obtain ⟨pz,p0,p1,p2,p3⟩:=rk4 HA.out;have qp0:=zaa p0;have qp1:=zaa p1;have qp2:=zaa p2;have qp3:=zaa p3;clear p0 p1 p2 p3;obtain ⟨qz,q0⟩:=rk1 HB.out;have qq0:=zaa q0;clear q0;simp only [List.take_succ_cons,List.take_zero];repeat (go_big_quiet_step (fail))
     exact wpQuiet_nil rfl
    ·simp only [List.drop_succ_cons,List.drop_zero];refine tailM_step (ι:=Unit) (fun _=>.tuple #[]) (fun _ W=>zco w bp ord l bo bn br vo id w.heap.size vi (atO (zaz l id)) (nodF (zaz l id)) (refF l) W) rfl (fun _ W W' d hb=>zco.on d hb) (fun _ W d=>⟨_,_,_,d⟩) (fun W hS K hK=>?_) (fun _=>?_)
     ·obtain ⟨W',hrun,d⟩:=hS.delN ne1 ne3 hz _ (g':=nodF (zaz l id)) (fun r=>HF2.out r);have HDD:=zH d;clear d;refine zjo _ _ _ _ rfl rfl rfl hrun ?_;exact hK () _ HDD.out
     simp only [Act.put];refine tailM_nil fun W hW=>?_;have HD:=zH hW;clear hW;go_wp2_with fail;refine wp_region_mix 5 (fun W=>∃f g h,zco w bp ord l bo bn br vo id w.heap.size vi f g h W) (fun W=>zco w bp ord l bo bn br vo id w.heap.size vi (atO (zaz l id)) (nodF (zaz l id)) (refF l) W) mixed (by kernel_rfl) (by kernel_rfl) (by kernel_rfl) (fun W W' d hb=>zco.on d hb) (fun W d=>⟨_,_,_,d⟩) (zco.on HD.out (Below.refl _ _).drew) ?_;apply Exists.intro;refine ⟨fun W hW=>?_,?_⟩
     ·obtain ⟨f,g,h,d⟩:=hW;have HA:=zH d.row;have HB:=zH d.h3;clear d;obtain ⟨pz,p0,p1,p2,p3⟩:=rk4 HA.out;have qp0:=zaa p0;have qp1:=zaa p1;have qp2:=zaa p2;have qp3:=zaa p3;clear p0 p1 p2 p3;obtain ⟨qz,q0⟩:=rk1 HB.out;have qq0:=zaa q0;clear q0;simp only [List.take_succ_cons,List.take_zero];repeat (go_big_quiet_step (fail))
      exact wpQuiet_nil rfl
     ·simp only [List.drop_succ_cons,List.drop_zero];refine tailM_step (ι:=Unit) (fun _=>.tuple #[]) (fun _ W=>zco w bp ord l bo bn br vo id w.heap.size vi (atO (zaz l id)) (nodF (zaz l id)) (refF (zaz l id)) W) rfl (fun _ W W' d hb=>zco.on d hb) (fun _ W d=>⟨_,_,_,d⟩) (fun W hS K hK=>?_) (fun _=>?_)
      ·obtain ⟨W',hrun,d⟩:=hS.delR ne2 ne3 hz _ (h':=refF (zaz l id)) (fun r=>HF3.out r);have HDD:=zH d;clear d;refine zjo _ _ _ _ rfl rfl rfl hrun ?_;exact hK () _ HDD.out
      simp only [Act.put];refine tailM_nil fun W hW=>?_;have HD:=zH hW;clear hW;go_wp2;refine bodyPost_ret (results_none rfl _ _ _) rfl ?_;exact ⟨rfl,⟨HD.out.row,HD.out.ord,HD.out.objs,HD.out.nods,HD.out.refs,ne1,ne2,ne3⟩,HD.out.low⟩
end Go.Proofs.YtibpaaajghbkoaaGreat
