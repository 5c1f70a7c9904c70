/-   -/
import Derived.Test.YtibpaaajghbkoaaGreatWAr
import Derived.Test.YtibpaaajghbkoaaGreatWBn
import Derived.Test.YtibpaaajghbkoaaGreatWAm
import Derived.Test.YtibpaaajghbkoaaGreatWAf
import Derived.StillTail
import Derived.StillTailTactics
import Derived.Deep.CutBlock
import Derived.Deep.CutRange
import Derived.Test.YtibpaaajghbkoaaGreatWAd
import Derived.BigQuiet
namespace Go.Proofs.YtibpaaajghbkoaaGreat
open Go.RowKit Go.Sort
set_option maxRecDepth 100000 in
set_option maxHeartbeats 4000000 in
theorem zvi (v:Value) (l:List ObjD) (w:World) (hv:zbb w v l) :
  Calls Tryz.prog 172 #[.agg #[v]] w fun e w'=>e=.returned (.bool (zas l))∧Below w.heap.size w w':=by
 have mixed:Tryz.prog.follows .mixedOrders=true:=by kernel_rfl
 have HV:=zH hv;obtain ⟨a,cap,rfl,hn,hc⟩:=hv;obtain ⟨N,hN⟩:∃N,l.length=N:=⟨_,rfl⟩;rw [hN] at hn hc HV ⊢;have HN:=zH hN;have HC:=zH hc;clear hN hc;by_cases h6:1000000<N
 ·have HE:=zH (show zas l=false by rw [zas,HN.out];simp;omega);go_enter Tryz.func172,Tryz.ntmps172;go_wp2;go_ret;exact ⟨zah HE.out.symm,(Below.refl _ _).alloc zR _⟩
 have HL:=zH (show decide (N≤1000000)=true by rw [decide_eq_true_eq];omega);go_enter Tryz.func172,Tryz.ntmps172;go_wp2_with fail;generalize hw1:w.alloc _=w1;have B1:=gB1 hw1;have HM:=gA11 hw1;clear hw1;have HMh:=zH HM;obtain ⟨mz,m0⟩:=rk1 HM;have HM':=zH HM;clear HM;go_wp2;clear m0 mz HM';go_loopw [3] (fun i wr=>∃k:Nat,k≤N∧i=.int .i64 k∧zbc ⟨#[]⟩ l=zbc (zkh l k) (l.drop k)∧Below w1.heap.size w1 wr) (fun i _=>N - (intOf i).toNat);case atStart=>exact ⟨0,by omega,rfl,rfl,Below.refl _ _⟩
 case round =>
  obtain ⟨k,hk,rfl,hT,hbr⟩:=hrel;have HT:=zH hT;clear hT;have HM2:=zab hbr HMh.out;obtain ⟨mz,m0⟩:=rk1 HM2;have HM2':=zH HM2;clear HM2;by_cases hlt:k<N
  ·obtain ⟨o,ho⟩:∃o,l[k]?=some o:=⟨l[k]'(by rw [HN.out];exact hlt),List.getElem?_eq_getElem _⟩;obtain ⟨b,off,ha,hcell⟩:=HC.out (by omega);subst ha;have HCL:=zH (fun i o hi=>((hcell i o hi).later B1).later hbr);obtain ⟨vr,vt,c0,c1,c2,c3,c4,c5,hr,ht,hz⟩:=HCL.out k o ho;have HD:=zH (zjz (zkh l k) l k o ho);have HK:=zH (show zkh l (k+1)=o.id by simp [zkh,ho]);have RV:=zH (fun w' (hb:Below wr.heap.size wr w')=>zpx o.id o.kind o.x o.y vr vt o.refs o.tags w' hz (hr.later hb) (ht.later hb));obtain ⟨ok,hok⟩:∃z,z=zay o:=⟨_,rfl⟩;have RV:=zH (show ∀w' (hb:Below wr.heap.size wr w'),Calls Tryz.prog 118 #[.agg #[.string o.id,.int .i64 o.kind,.int .i64 o.x,.int .i64 o.y,vr,vt]] w' fun e w''=>e=.returned (.bool ok)∧Below w'.heap.size w' w'' by rw [hok];exact RV.out);obtain ⟨ar,capr,evr,_⟩:=hr;obtain ⟨at1,capt,evt,_⟩:=ht;subst evr evt;have d0:=zaa c0;have d1:=zaa c1;have d2:=zaa c2;have d3:=zaa c3;have d4:=zaa c4;have d5:=zaa c5;have dm:=zaa m0;clear hcell ho c0 c1 c2 c3 c4 c5 hz;cases ok with
   |false =>
    have HE:=zH (show zas l=false by unfold zas;rw [HT.out,HD.out,←hok];simp);clear hok;go_wp2_with fail;refine zae (by assumption) (by kernel_rfl) ?_;repeat (go_big_quiet_step (first | (go_at_call 118;exact zad (RV.out _ (zam.below _)))))
    refine wpQuiet_nil ?_;intro w6 hw';obtain ⟨⟨w7,hb7⟩,hw''⟩:=hw';subst hw'';have B7:=zac hbr zR hb7;go_wp2;go_ret;exact ⟨zah HE.out.symm,zac B1 zR B7⟩
   |true =>
    have HO:=zH hok.symm;clear hok;rcases k with _ | m
    ·have HG:=zH (show zbc ⟨#[]⟩ l=zbc (zkh l (0+1)) (l.drop (0+1)) by
      rw [HT.out,HD.out,HO.out,HK.out]
      have:ltB (zkh l 0) o.id=true:=ztz (zabh HO.out)
      rw [this];simp)
     simp only [Nat.zero_mul,Nat.add_zero] at d0 d1 d2 d3 d4 d5;go_wp2_with fail;refine zae (by assumption) (by kernel_rfl) ?_;repeat (go_big_quiet_step (first | (go_at_call 118;exact zad (RV.out _ (zam.below _)))))
     refine wpQuiet_nil ?_;intro w6 hw';obtain ⟨⟨w7,hb7⟩,hw''⟩:=hw';subst hw'';have B7:=zac hbr zR hb7;go_wp2;go_roundw;case rel=>exact ⟨0+1,by omega,by go_num,HG.out,B7⟩
     case measure=>simp [intOf];omega
    ·obtain ⟨p,hp⟩:∃p,l[m]?=some p:=⟨l[m]'(by rw [HN.out];omega),List.getElem?_eq_getElem _⟩;obtain ⟨vr',vt',p0,-,-,-,-,-,-,-,-⟩:=HCL.out m p hp;have q0:=zaa p0;have HKP:=zH (show zkh l (m+1)=p.id by simp [zkh,hp]);have WM:IntKind.i64.wrap (((m+1:Nat):Int) - 1)=(m:Int):=(IntWalk.i64_in _ (by omega)).trans (by omega);have WG:decide ((0:Int)<((m+1:Nat):Int))=true:=(by rw [decide_eq_true_eq];omega);clear hp p0;cases hlt2:ltB p.id o.id with
     |false =>
      have HE:=zH (show zas l=false by unfold zas;rw [HT.out,HD.out,HKP.out,hlt2];simp);have LQ:Op.bytesLess p.id.toList o.id.toList=false:=hlt2;clear hlt2;go_wp2_with fail;refine zae (by assumption) (by kernel_rfl) ?_;repeat (go_big_quiet_step (first | (go_at_call 118;exact zad (RV.out _ (zam.below _)))))
      refine wpQuiet_nil ?_;intro w6 hw';obtain ⟨⟨w7,hb7⟩,hw''⟩:=hw';subst hw'';have B7:=zac hbr zR hb7;go_wp2;go_ret;exact ⟨zah HE.out.symm,zac B1 zR B7⟩
     |true =>
      have LQ:Op.bytesLess p.id.toList o.id.toList=true:=hlt2;have HG:=zH (show zbc ⟨#[]⟩ l=zbc (zkh l (m+1+1)) (l.drop (m+1+1)) by rw [HT.out,HD.out,HO.out,HK.out,HKP.out,hlt2];simp)
      clear hlt2;go_wp2_with fail;refine zae (by assumption) (by kernel_rfl) ?_;repeat (go_big_quiet_step (first | (go_at_call 118;exact zad (RV.out _ (zam.below _)))))
      refine wpQuiet_nil ?_;intro w6 hw';obtain ⟨⟨w7,hb7⟩,hw''⟩:=hw';subst hw'';have B7:=zac hbr zR hb7;go_wp2;go_roundw;case rel=>exact ⟨m+1+1,by omega,by go_num,HG.out,B7⟩
      case measure=>simp [intOf];omega
  ·obtain rfl:k=N:=(by omega);have HE:=zH (show zas l=true by
    rw [zas,HT.out,HN.out,HL.out,List.drop_of_length_le (by rw [HN.out];exact Nat.le_refl _)]
    simp [zbc])
   go_wp2;go_ret;exact ⟨zah HE.out.symm,zac B1 zR hbr⟩
def zhf (k:KeyD):List Value:=[.string k.1,.string k.2]
theorem zrd (k:KeyD):(zhf k).length=2:=rfl
theorem zws (k:KeyD):∀v∈zhf k,v.oneCell'=true:=by intro v hv;simp only [zhf,List.mem_cons,List.not_mem_nil,or_false] at hv;rcases hv with rfl | rfl<;>rfl
theorem zaqx:(Tryz.prog.info? 83).map (fun i=>(i.zero,i.size,i.bytes))=some (some (.agg #[.string ⟨#[]⟩,.string ⟨#[]⟩]),2,32):=by kernel_rfl
def zads (o:ObjD) (i:Nat):KeyD:=(zcc o i,zcc o ((i+1) % o.refs.length))
def rawP (o:ObjD) (n:Nat):List KeyD:=(List.range n).map (zads o)
def srtK (k:KeyD):KeyD:=key2 k.1 k.2
theorem zagl (o:ObjD):(rawP o (zdp o)).map srtK=zbh o:=by unfold rawP zbh;rw [List.map_map];rfl
theorem zagm (o:ObjD) (n:Nat):rawP o (n+1)=rawP o n++[zads o n]:=by unfold rawP;rw [List.range_succ,List.map_append];rfl
theorem zall (o:ObjD) (n:Nat):(rawP o n).length=n:=by unfold rawP;simp
def zhq (R:List KeyD) (j:Nat):List KeyD:=(R.take j).map srtK++R.drop j
theorem zry (R:List KeyD):zhq R 0=R:=by unfold zhq;simp
theorem zve (R:List KeyD):zhq R R.length=R.map srtK:=by unfold zhq;simp
theorem zvc (R:List KeyD) (j:Nat) (h:j≤R.length):(zhq R j).length=R.length:=by unfold zhq;simp;omega
theorem zvd {R:List KeyD} {j:Nat} {x:KeyD} (h:R[j]?=some x):(zhq R j)[j]?=some x:=by have hl:=(List.getElem?_eq_some_iff.1 h).1;unfold zhq;rw [List.getElem?_append_right (by simp;omega),List.getElem?_drop];simp only [List.length_map,List.length_take];rw [show j+(j - min j R.length)=j by omega];exact h
theorem zvb {R:List KeyD} {j:Nat} {x:KeyD} (h:R[j]?=some x):(zhq R j).set j (srtK x)=zhq R (j+1):=by obtain ⟨hl,rfl⟩:=List.getElem?_eq_some_iff.1 h;unfold zhq;rw [List.take_succ_eq_append_getElem hl,List.map_append,List.set_append_right _ _ (by simp;omega)];simp only [List.length_map,List.length_take];rw [show j - min j R.length=0 by omega,List.drop_eq_getElem_cons hl,List.set_cons_zero,List.append_assoc];rfl
set_option maxRecDepth 100000 in
set_option maxHeartbeats 4000000 in
theorem zyl (o:ObjD) (vr vt:Value) (w:World) (hr:zaj w vr o.refs) (ht:zba w vt o.tags) (hk:o.kind≠2∧o.kind≠3) :
  Calls Tryz.prog 173 #[.agg #[.string o.id,.int .i64 o.kind,.int .i64 o.x,.int .i64 o.y,vr,vt]] w fun e w'=>e=.returned (.slice none 0 0)∧Below w.heap.size w w':=by
 obtain ⟨ar,cr,rfl,_⟩:=hr;obtain ⟨at1,ct,rfl,_⟩:=ht;obtain ⟨id,kd,ox,oy,refs,tags⟩:=o;simp only [] at hk ⊢;have n2:(kd==2)=false:=beq_false_of_ne hk.1;have n3:(kd==3)=false:=beq_false_of_ne hk.2;have m2:¬kd=2:=hk.1;have m3:¬kd=3:=hk.2;have c2:(kd != 2)=true:=by simp [m2]
 have c3:(kd != 3)=true:=by simp [m3]
 clear hk;go_enter Tryz.func173,Tryz.ntmps173;go_wp2;go_ret;exact ⟨rfl,(by repeat' (first | exact Below.refl _ _ | refine Below.drew ?_ | refine Below.drewN' ?_ | refine Below.setCell ?_ (by first | omega | (simp;done) | exact Below.size (by assumption) | (simp;omega)) _ | refine Below.alloc ?_ (by first | omega | (simp;done) | exact Below.size (by assumption) | (simp;omega)) _ | refine Below.trans ?_ (Below.mono (by assumption) ?_) | (first | omega | (simp;done) | exact Below.size (by assumption) | (simp;omega))))⟩
theorem ztk {w:World} {base m:Nat} {e:TypeId} {av:Option Addr} {cv:Nat} {T:List KeyD} (h:w.ownsRow base e 2 (.slice av m cv) m (T.flatMap zhf)) (hm:m=T.length) {j:Nat} {x:KeyD} (hx:T[j]?=some x) :
  ∃g cur,av=some ⟨g,0,none⟩∧w.heap[g]?=some (.cells cur e)∧w.cell? ⟨g,j * 2,none⟩=some (.string x.1)∧w.cell? ⟨g,j * 2+1,none⟩=some (.string x.2):=by
 have hr:=RowE.of_own zrd hm h;have hl:=(List.getElem?_eq_some_iff.1 hx).1;rcases h.2 with ⟨hv,h0⟩ | ⟨g,cap,cur,hv,hb,hc,_⟩
 ·omega
 ·injection hv with e1 e2 e3;subst e1;refine ⟨g,cur,rfl,hc,?_⟩;obtain ⟨a,c,hv2,hcell⟩:=hr;injection hv2 with f1 f2 f3;obtain ⟨b,off,hb2,hcl⟩:=hcell (by omega);rw [←f1] at hb2;injection hb2 with hb2;injection hb2 with b1 b2;subst b1 b2;have c0:=hcl j x hx 0 _ rfl;have c1:=hcl j x hx 1 _ rfl;rw [Nat.zero_add] at c0 c1;exact ⟨c0,c1⟩
set_option maxRecDepth 100000 in
set_option maxHeartbeats 4000000 in
theorem zade (o:ObjD) (vr vt:Value) (w:World) (hr:zaj w vr o.refs) (ht:zba w vt o.tags) (hk:o.kind=2∨(o.kind=3∧1≤o.refs.length)) (hl:o.refs.length≤100000) :
  Calls Tryz.prog 173 #[.agg #[.string o.id,.int .i64 o.kind,.int .i64 o.x,.int .i64 o.y,vr,vt]] w fun e w'=>∃v',e=.returned v'∧w'.ownsRow w.heap.size 83 2 v' (zbh o).length ((zbh o).flatMap zhf)∧Below w.heap.size w w':=by
 have mixed:Tryz.prog.follows .mixedOrders=true:=by kernel_rfl
 have hmin:=zlj Tryz.prog;have hmax':=zlk Tryz.prog;obtain ⟨i0,hi,hi0,hi1,hi2⟩:=info_parts zaqx;obtain ⟨ar,cr,rfl,_,_,hrc⟩:=hr;obtain ⟨at1,ct,rfl,_⟩:=ht;have HRC:=zH hrc;have HRA:=zH (fun i (h:i<o.refs.length)=>zfb o i h);have HRS:=zH (zagl o);have HSU:=zH (fun n=>zagm o n);have HRL:=zH (fun n=>zall o n);have HRW:=zH (fun n (h:n+1<o.refs.length)=>(show zads o n=(zcc o n,zcc o (n+1)) by unfold zads;rw [Nat.mod_eq_of_lt h]));have HRZ:=zH (show o.refs.length=0→rawP o (0 - 1)=[] from fun _=>rfl);obtain ⟨n,hn⟩:∃n,n=o.refs.length:=⟨_,rfl⟩;rw [←hn] at HRC HRA HRW hl hk ⊢;have HSN:=zH (show zdp o=if o.kind=2 then n - 1 else n by unfold zdp;rw [hn]);obtain ⟨R,hR⟩:∃R:Nat→List KeyD,R=rawP o:=⟨_,rfl⟩;rw [←hR] at HRS HSU HRL;have HR0:=zH (show R 0=[] by rw [hR];rfl);have HLW:=zH (show 0<n→zads o (n - 1)=(zcc o (n - 1),zcc o 0) from fun h=>by unfold zads;rw [←hn,show n - 1+1=n by omega,Nat.mod_self]);obtain ⟨id,kd,ox,oy,refs,tags⟩:=o;obtain ⟨ra,hra⟩:∃f:Nat→ByteArray,f=zcc ⟨id,kd,ox,oy,refs,tags⟩:=⟨_,rfl⟩;rw [←hra] at HRA HRW HLW;simp only [] at HRC HRA hk hn HSN ⊢;clear hrc hR hra hn;go_enter Tryz.func173,Tryz.ntmps173;go_upto_region 2 with fail;have BX:=(Below.refl w.heap.size w).alloc zR (.cells #[.string id,.int .i64 kd,.int .i64 ox,.int .i64 oy,.slice ar n cr,.slice at1 tags.length ct] 36);generalize hw1:w.alloc _=w1;have HX:=gA11 hw1;rw [hw1] at BX;have HX1:=zH HX;have hz1:w.heap.size<w1.heap.size:=zaf HX;clear hw1 HX;go_cut [13] from 6 to 14 (fun v13 wx=>v13=.bool false∧wx=w1)
 case first =>
  obtain ⟨pz,p0,p1,p2,p3,p4,p5⟩:=rk6 HX1.out;rcases hk with hk | ⟨hk,_⟩
  ·subst hk;go_wp2;go_meet;case rel=>exact ⟨rfl,rfl⟩
  ·subst hk;go_wp2;go_meet;case rel=>exact ⟨rfl,rfl⟩
 case rest =>
  obtain ⟨rfl,hw⟩:=hcut;rw [hw];clear hw;go_wp2_with fail;go_loopw [3,4] (fun v3 i wr=>∃k:Nat,i=.int .i64 k∧k≤n - 1∧wr.ownsRow w1.heap.size 83 2 v3 k ((R k).flatMap zhf)∧Below w1.heap.size w1 wr) (fun _ i _=>n - (intOf i).toNat);case atStart=>exact ⟨0,rfl,by omega,by rw [HR0.out];exact World.ownsRow_nil _ _ _ _,Below.refl _ _⟩
  case round =>
   obtain ⟨k,rfl,hk1,hown,hbr⟩:=hrel;have HOWN:=zH hown;have HX:=zH (zab hbr HX1.out);have hzr:=hbr.size;have BR:=zac BX (by omega) hbr;clear hown;by_cases hlt:k+1<n
   ·have r0:=HRA.out k (by omega);have r1:=HRA.out (k+1) (by omega);obtain ⟨br,offr,har,hcr⟩:=HRC.out (by omega);subst har;have V0:=zH (fun (W:World) (hb:Below w.heap.size w W)=>cell_later hb (hcr k _ r0));have V1:=zH (fun (W:World) (hb:Below w.heap.size w W)=>(show W.cell? ⟨br,offr+(k+1),none⟩=some (.string (ra (k+1))) from cell_later hb (hcr (k+1) _ r1)));have wk:IntKind.i64.wrap ((k:Int)+1)=((k+1:Nat):Int):=(IntWalk.i64_in _ (by omega)).trans (by omega);have hlt1:((k+1:Nat):Int)<(n:Int):=(by omega);have hlt2:decide (((k+1:Nat):Int)<(n:Int))=true:=decide_eq_true hlt1;have HT:=zH (show R (k+1)=R k++[(ra k,ra (k+1))] by rw [HSU.out,HRW.out k hlt]);clear r0 r1 hcr;obtain ⟨pz,p0,p1,p2,p3,p4,p5⟩:=rk6 HX.out;go_wp2_with fail;clear p0 p1 p2 p3 p4 p5 pz;have O3:=zH (HOWN.out);have HLT:=zH hlt;clear hlt1 hlt2 wk hlt;generalize decide ((k:Int)+1<(n:Int))=bb;obtain ⟨wo,rfl⟩:∃z:World,z=wr:=⟨_,rfl⟩;refine wp_region_mix 13 (fun W=>Below w1.heap.size w1 W) (fun W=>Below wo.heap.size wo W) mixed (by kernel_rfl) (by kernel_rfl) (by kernel_rfl) (StableW.below _ _ zR) (fun W hW=>hbr.trans (hW.mono hzr)) (Below.refl _ _).drew ?_;apply Exists.intro;refine ⟨fun W hW=>?_,?_⟩
    ·have BW:=zac BX zR hW;have HXh:=zH (zab hW HX1.out);obtain ⟨xz,x0,x1,x2,x3,x4,x5⟩:=rk6 HXh.out;have qx0:=zaa x0;have qx1:=zaa x1;have qx2:=zaa x2;have qx3:=zaa x3;have qx4:=zaa x4;have qx5:=zaa x5;clear x0 x1 x2 x3 x4 x5;have y0:=zaa (V0.out W BW);have y1:=zaa (V1.out W BW);have yz:=zag (V0.out W BW);simp only [List.take_succ_cons,List.take_zero];repeat (go_big_quiet_step (fail))
     exact wpQuiet_nil rfl
    ·simp only [List.drop_succ_cons,List.drop_zero];refine tailM_step (ι:=Nat) (fun g=>.slice (some ⟨g,0,none⟩) 1 1) (fun g W=>Below w1.heap.size w1 W∧(W.ownsRow w1.heap.size 83 2 u3 k ((R k).flatMap zhf)∧W.heap[g]?=some (.cells #[.string (ra k),.string (ra (k+1))] 83))) rfl (fun g=>(StableW.below _ _ zR).and ((StableW.owns _ _ _ _ _ _).and (StableW.row _ _))) (fun _ _ h=>h.1) (fun W hS K hK=>?_) (fun g=>?_)
     ·have O:=zaq O3.out hS;have BB:=hbr.trans (hS.mono hzr);go_simp;exact hK W.heap.size _ ⟨BB.alloc BB.size _,O.alloc _,zan _ _⟩
     simp only [Act.put,List.setIfInBounds_toArray,List.set_cons_succ,List.set_cons_zero];refine tailM_step (ι:=Value) (fun v=>v) (fun v' W=>Below w1.heap.size w1 W∧W.ownsRow w1.heap.size 83 2 v' (k+1) ((R (k+1)).flatMap zhf)) rfl (fun _=>(StableW.below _ _ zR).and (StableW.owns _ _ _ _ _ _)) (fun _ _ h=>h.1) (fun W hS K hK=>?_) (fun v'=>?_)
     ·obtain ⟨hS1,hSO,hSG⟩:=hS;refine wp_append_own _ _ _ 217 rfl w1.heap.size 83 i0 (.agg #[.string ⟨#[]⟩,.string ⟨#[]⟩]) 2 32 Tryz.underlying217 hi hi0 hi1 hi2 rfl (by decide) _ _ _ rfl hSO ⟨g,0,none⟩ 1 1 (zhf (ra k,ra (k+1))) rfl rfl (zdv hSG) (zws _) (by unfold maxLen;omega) (by omega) hS1.size ?_;intro v' w9 hown2 hgrow _;exact hK v' w9 ⟨hS1.grown hgrow hS1.size (fun j ej=>(hSO.lt j ej).1),by rw [HT.out,List.flatMap_append];simpa using hown2⟩
     simp only [Act.put,List.setIfInBounds_toArray,List.set_cons_succ,List.set_cons_zero];refine tailM_pure v' rfl ((StableW.below _ _ zR).and (StableW.owns _ _ _ _ _ _)) (fun _ h=>h.1) (fun W hS K hK=>?_) (tailM_nil fun W hW=>?_)
     ·go_simp;exact hK
     obtain ⟨hW1,hWO⟩:=hW;have HWO:=zH hWO;clear hWO;simp only [Act.put,List.setIfInBounds_toArray,List.set_cons_succ,List.set_cons_zero];have hlt:=HLT.out;go_wp2;go_roundw;case rel=>exact ⟨k+1,by go_num,by omega,HWO.out,hW1⟩
     case measure=>simp [intOf];omega
   ·obtain rfl:k=n - 1:=(by omega);clear hlt;obtain ⟨wo,rfl⟩:∃z:World,z=wr:=⟨_,rfl⟩;rcases hk with hk | ⟨hk,hn1⟩
    ·subst hk;have HTS:=zH (show (R (n - 1)).map srtK=zbh ⟨id,2,ox,oy,refs,tags⟩ by have h:=HRS.out;rw [HSN.out,if_pos rfl] at h;exact h)
     have HTL:=zH (HRL.out (n - 1));obtain ⟨T,hT⟩:∃z,z=R (n - 1):=⟨_,rfl⟩;rw [←hT] at HTS HTL HOWN;obtain ⟨m,hm⟩:∃z,z=n - 1:=⟨_,rfl⟩;rw [←hm] at HTL HOWN;have hmb:m≤100000:=(by omega);clear hT hm;obtain ⟨pz,p0,p1,p2,p3,p4,p5⟩:=rk6 HX.out;go_wp2_with fail;clear p0 p1 p2 p3 p4 p5 pz;obtain ⟨av,cv,hav⟩:=zjy HOWN.out;subst hav;go_loopw [5] (fun i wx=>∃j:Nat,i=.int .i64 j∧j≤m∧wx.ownsRow w1.heap.size 83 2 (.slice av m cv) m ((zhq T j).flatMap zhf)∧Below w1.heap.size w1 wx) (fun i _=>m - (intOf i).toNat);case atStart=>exact ⟨0,rfl,by omega,by rw [zry];exact HOWN.out,hbr⟩
     case round =>
      clear hbr BR hzr;obtain ⟨j,rfl,hj,hown,hbr⟩:=hrel;have O3:=zH hown;have hzr:=hbr.size;have BR:=zac BX (by omega) hbr;clear hown;by_cases hlj:j<m
      ·obtain ⟨x,hx⟩:∃x,T[j]?=some x:=⟨T[j]'(by rw [HTL.out];exact hlj),List.getElem?_eq_getElem _⟩;have hsx:=zvd hx;have hsl:=zvc T j (by rw [HTL.out];exact hj);rw [HTL.out] at hsl;have HST:=zH (zvb hx);have CEL:=zH (fun (W:World) (h:W.ownsRow w1.heap.size 83 2 (.slice av m cv) m ((zhq T j).flatMap zhf))=>ztk h hsl.symm hsx);obtain ⟨g,hg⟩:∃g,av=some ⟨g,0,none⟩:=by
        rcases O3.out.2 with ⟨h,h0⟩ | ⟨g,_,_,h,_⟩
        ·omega
        ·injection h with h;exact ⟨g,h⟩
       subst hg;have hgl:=O3.out.lt g rfl;have hslj:j<(zhq T j).length:=(by rw [hsl];exact hlj);have OST:=zH (fun (W:World) (h:W.ownsRow w1.heap.size 83 2 (.slice (some ⟨g,0,none⟩) m cv) m ((zhq T j).flatMap zhf))=>zagq zrd h hsl.symm hslj (srtK x));have HLJ:=zH hlj;clear hx hsx hsl hslj;go_wp2_with fail;generalize decide ((j:Int)<(m:Int))=bb;obtain ⟨wp,rfl⟩:∃z:World,z=wr:=⟨_,rfl⟩;clear hlj;obtain ⟨x1,x2⟩:=x;refine wp_region_still_tail 26 (by kernel_rfl) (by kernel_rfl) ?_;generalize hW:World.mk _ _ _ _ _=w3;have hW3:w3=wp.drew:=hW.symm;have BW:Below wp.heap.size wp w3:=(by rw [hW3];exact (Below.refl _ _).drew);clear hW hW3;have O:=zaq O3.out BW;have BB:=hbr.trans (BW.mono hzr);obtain ⟨g',cur,hg',hh,c0,c1⟩:=CEL.out w3 O;injection hg' with hg';injection hg' with hg';subst hg';have cz:=zag c0;have f0:=frozen_of_row w3 _ (j * 2) _ _ hh;have f1:=frozen_of_row w3 _ (j * 2+1) _ _ hh;obtain ⟨hset,hgs⟩:=OST.out w3 O;rw [HST.out] at hset;have hset':((w3.setCell ⟨g,j * 2,none⟩ (.string (minB x1 x2))).setCell ⟨g,j * 2+1,none⟩ (.string (maxB x1 x2))).ownsRow w1.heap.size 83 2 (.slice (some ⟨g,0,none⟩) m cv) m ((zhq T (j+1)).flatMap zhf):=hset;have B2:=BB.grown hgs BB.size (fun j' hj'=>by injection hj' with hj';omega);have B2':Below w1.heap.size w1 ((w3.setCell ⟨g,j * 2,none⟩ (.string (minB x1 x2))).setCell ⟨g,j * 2+1,none⟩ (.string (maxB x1 x2))):=B2;have HS':=zH hset';have HB':=zH B2';have hlj:=HLJ.out;clear hset hset' B2 B2' hgs hh BB O;simp only [List.take_succ_cons,List.take_zero,List.drop_succ_cons,List.drop_zero];repeat still_step
       refine wpStill_nil ?_;go_wp2;go_roundw;case rel=>exact ⟨j+1,by go_num,by omega,HS'.out,HB'.out⟩
       case measure=>simp [intOf];omega
      ·obtain rfl:j=m:=(by omega);have HF:=zH (show wr.ownsRow w.heap.size 83 2 (.slice av j cv) (T.map srtK).length ((T.map srtK).flatMap zhf) by
        have h:=zpg O3.out (Nat.le_of_lt hz1)
        rw [show zhq T j=T.map srtK by have:=zve T;rw [HTL.out] at this;exact this] at h
        rw [List.length_map,HTL.out];exact h)
       rw [HTS.out] at HF;go_wp2;go_ret;exact ⟨_,rfl,HF.out,BR⟩
    ·subst hk;obtain ⟨q,rfl⟩:∃q,n=q+1:=⟨n - 1,by omega⟩;rw [Nat.add_sub_cancel] at HOWN HLW;have HRN:=zH (show R (q+1)=R q++[(ra q,ra 0)] by rw [HSU.out,HLW.out (by omega)]);have HTS:=zH (show (R (q+1)).map srtK=zbh ⟨id,3,ox,oy,refs,tags⟩ by have h:=HRS.out;rw [HSN.out,if_neg (by decide)] at h;exact h)
     have HTL:=zH (HRL.out (q+1));have r0:=HRA.out q (by omega);have r1:=HRA.out 0 (by omega);obtain ⟨br,offr,har,hcr⟩:=HRC.out (by omega);subst har;have V0:=zH (fun (W:World) (hb:Below w.heap.size w W)=>cell_later hb (hcr q _ r0));have V1:=zH (fun (W:World) (hb:Below w.heap.size w W)=>(show W.cell? ⟨br,offr,none⟩=some (.string (ra 0)) from cell_later hb (hcr 0 _ r1)));have wk:IntKind.i64.wrap (((q+1:Nat):Int) - 1)=(q:Int):=(IntWalk.i64_in _ (by omega)).trans (by omega);clear r0 r1 hcr;obtain ⟨pz,p0,p1,p2,p3,p4,p5⟩:=rk6 HX.out;go_wp2_with fail;clear p0 p1 p2 p3 p4 p5 pz;have O3:=zH HOWN.out;refine wp_region_mix 14 (fun W=>Below w1.heap.size w1 W) (fun W=>Below wo.heap.size wo W) mixed (by kernel_rfl) (by kernel_rfl) (by kernel_rfl) (StableW.below _ _ zR) (fun W hW=>hbr.trans (hW.mono hzr)) (Below.refl _ _).drew ?_;apply Exists.intro;refine ⟨fun W hW=>?_,?_⟩
     ·have BW:=zac BX zR hW;have HXh:=zH (zab hW HX1.out);obtain ⟨xz,x0,x1,x2,x3,x4,x5⟩:=rk6 HXh.out;have qx0:=zaa x0;have qx1:=zaa x1;have qx2:=zaa x2;have qx3:=zaa x3;have qx4:=zaa x4;have qx5:=zaa x5;clear x0 x1 x2 x3 x4 x5;have y0:=zaa (V0.out W BW);have y1:=zaa (V1.out W BW);have yz:=zag (V0.out W BW);simp only [List.take_succ_cons,List.take_zero];repeat (go_big_quiet_step (fail))
      exact wpQuiet_nil rfl
     ·simp only [List.drop_succ_cons,List.drop_zero];refine tailM_step (ι:=Nat) (fun g=>.slice (some ⟨g,0,none⟩) 1 1) (fun g W=>Below w1.heap.size w1 W∧(W.ownsRow w1.heap.size 83 2 u3 q ((R q).flatMap zhf)∧W.heap[g]?=some (.cells #[.string (ra q),.string (ra 0)] 83))) rfl (fun g=>(StableW.below _ _ zR).and ((StableW.owns _ _ _ _ _ _).and (StableW.row _ _))) (fun _ _ h=>h.1) (fun W hS K hK=>?_) (fun g=>?_)
      ·have O:=zaq O3.out hS;have BB:=hbr.trans (hS.mono hzr);go_simp;exact hK W.heap.size _ ⟨BB.alloc BB.size _,O.alloc _,zan _ _⟩
      simp only [Act.put,List.setIfInBounds_toArray,List.set_cons_succ,List.set_cons_zero];refine tailM_step (ι:=Value) (fun v=>v) (fun v' W=>Below w1.heap.size w1 W∧W.ownsRow w1.heap.size 83 2 v' (q+1) ((R (q+1)).flatMap zhf)) rfl (fun _=>(StableW.below _ _ zR).and (StableW.owns _ _ _ _ _ _)) (fun _ _ h=>h.1) (fun W hS K hK=>?_) (fun v'=>?_)
      ·obtain ⟨hS1,hSO,hSG⟩:=hS;refine wp_append_own _ _ _ 217 rfl w1.heap.size 83 i0 (.agg #[.string ⟨#[]⟩,.string ⟨#[]⟩]) 2 32 Tryz.underlying217 hi hi0 hi1 hi2 rfl (by decide) _ _ _ rfl hSO ⟨g,0,none⟩ 1 1 (zhf (ra q,ra 0)) rfl rfl (zdv hSG) (zws _) (by unfold maxLen;omega) (by omega) hS1.size ?_;intro v' w9 hown2 hgrow _;exact hK v' w9 ⟨hS1.grown hgrow hS1.size (fun j ej=>(hSO.lt j ej).1),by rw [HRN.out,List.flatMap_append];simpa using hown2⟩
      simp only [Act.put,List.setIfInBounds_toArray,List.set_cons_succ,List.set_cons_zero];refine tailM_pure v' rfl ((StableW.below _ _ zR).and (StableW.owns _ _ _ _ _ _)) (fun _ h=>h.1) (fun W hS K hK=>?_) (tailM_nil fun W hW=>?_)
      ·go_simp;exact hK
      obtain ⟨hW1,hWO⟩:=hW;clear HOWN O3 hbr hzr BR;have HOWN:=zH hWO;have hbr:=hW1;have hzr:=hbr.size;have BR:=zac BX (by omega) hbr;simp only [Act.put,List.setIfInBounds_toArray,List.set_cons_succ,List.set_cons_zero];obtain ⟨T,hT⟩:∃z,z=R (q+1):=⟨_,rfl⟩;rw [←hT] at HTS HTL HOWN;obtain ⟨m,hm⟩:∃z,z=q+1:=⟨_,rfl⟩;rw [←hm] at HTL HOWN;have hmb:m≤100000:=(by omega);clear hT hm hWO;go_wp2_with fail;obtain ⟨av,cv,hav⟩:=zjy HOWN.out;subst hav;go_loopw [5] (fun i wx=>∃j:Nat,i=.int .i64 j∧j≤m∧wx.ownsRow w1.heap.size 83 2 (.slice av m cv) m ((zhq T j).flatMap zhf)∧Below w1.heap.size w1 wx) (fun i _=>m - (intOf i).toNat);case atStart=>exact ⟨0,rfl,by omega,by rw [zry];exact HOWN.out,hbr⟩
      case round =>
       clear hbr BR hzr;obtain ⟨j,rfl,hj,hown,hbr⟩:=hrel;have O3:=zH hown;have hzr:=hbr.size;have BR:=zac BX (by omega) hbr;clear hown;by_cases hlj:j<m
       ·obtain ⟨x,hx⟩:∃x,T[j]?=some x:=⟨T[j]'(by rw [HTL.out];exact hlj),List.getElem?_eq_getElem _⟩;have hsx:=zvd hx;have hsl:=zvc T j (by rw [HTL.out];exact hj);rw [HTL.out] at hsl;have HST:=zH (zvb hx);have CEL:=zH (fun (W:World) (h:W.ownsRow w1.heap.size 83 2 (.slice av m cv) m ((zhq T j).flatMap zhf))=>ztk h hsl.symm hsx);obtain ⟨g,hg⟩:∃g,av=some ⟨g,0,none⟩:=by
         rcases O3.out.2 with ⟨h,h0⟩ | ⟨g,_,_,h,_⟩
         ·omega
         ·injection h with h;exact ⟨g,h⟩
        subst hg;have hgl:=O3.out.lt g rfl;have hslj:j<(zhq T j).length:=(by rw [hsl];exact hlj);have OST:=zH (fun (W:World) (h:W.ownsRow w1.heap.size 83 2 (.slice (some ⟨g,0,none⟩) m cv) m ((zhq T j).flatMap zhf))=>zagq zrd h hsl.symm hslj (srtK x));have HLJ:=zH hlj;clear hx hsx hsl hslj;go_wp2_with fail;generalize decide ((j:Int)<(m:Int))=bb;obtain ⟨wp,rfl⟩:∃z:World,z=wr:=⟨_,rfl⟩;clear hlj;obtain ⟨x1,x2⟩:=x;refine wp_region_still_tail 26 (by kernel_rfl) (by kernel_rfl) ?_;generalize hW:World.mk _ _ _ _ _=w3;have hW3:w3=wp.drew:=hW.symm;have BW:Below wp.heap.size wp w3:=(by rw [hW3];exact (Below.refl _ _).drew);clear hW hW3;have O:=zaq O3.out BW;have BB:=hbr.trans (BW.mono hzr);obtain ⟨g',cur,hg',hh,c0,c1⟩:=CEL.out w3 O;injection hg' with hg';injection hg' with hg';subst hg';have cz:=zag c0;have f0:=frozen_of_row w3 _ (j * 2) _ _ hh;have f1:=frozen_of_row w3 _ (j * 2+1) _ _ hh;obtain ⟨hset,hgs⟩:=OST.out w3 O;rw [HST.out] at hset;have hset':((w3.setCell ⟨g,j * 2,none⟩ (.string (minB x1 x2))).setCell ⟨g,j * 2+1,none⟩ (.string (maxB x1 x2))).ownsRow w1.heap.size 83 2 (.slice (some ⟨g,0,none⟩) m cv) m ((zhq T (j+1)).flatMap zhf):=hset;have B2:=BB.grown hgs BB.size (fun j' hj'=>by injection hj' with hj';omega);have B2':Below w1.heap.size w1 ((w3.setCell ⟨g,j * 2,none⟩ (.string (minB x1 x2))).setCell ⟨g,j * 2+1,none⟩ (.string (maxB x1 x2))):=B2;have HS':=zH hset';have HB':=zH B2';have hlj:=HLJ.out;clear hset hset' B2 B2' hgs hh BB O;simp only [List.take_succ_cons,List.take_zero,List.drop_succ_cons,List.drop_zero];repeat still_step
        refine wpStill_nil ?_;go_wp2;go_roundw;case rel=>exact ⟨j+1,by go_num,by omega,HS'.out,HB'.out⟩
        case measure=>simp [intOf];omega
       ·obtain rfl:j=m:=(by omega);have HF:=zH (show wr.ownsRow w.heap.size 83 2 (.slice av j cv) (T.map srtK).length ((T.map srtK).flatMap zhf) by
         have h:=zpg O3.out (Nat.le_of_lt hz1)
         rw [show zhq T j=T.map srtK by have:=zve T;rw [HTL.out] at this;exact this] at h
         rw [List.length_map,HTL.out];exact h)
        rw [HTS.out] at HF;go_wp2;go_ret;exact ⟨_,rfl,HF.out,BR⟩
end Go.Proofs.YtibpaaajghbkoaaGreat

namespace Go.Proofs.YtibpaaajghbkoaaGreat
open Go.RowKit
set_option maxRecDepth 100000 in
set_option maxHeartbeats 2000000 in
theorem zqc (v:Value) (l:List ObjD) (id:ByteArray) (w:World) (hv:zbb w v l) (hok:zas l=true) :
  Calls Tryz.prog 119 #[.agg #[v],.string id] w fun e w'=>e=.returned (.int .i64 (idxO id l))∧Below w.heap.size w w':=by
 obtain ⟨a,cap,rfl,hn,hc⟩:=hv;obtain ⟨N,hN⟩:∃N,l.length=N:=⟨_,rfl⟩;rw [hN] at hn hc ⊢;have HN:=zH hN;have HC:=zH hc;obtain ⟨res,hres⟩:∃r,r=idxO id l:=⟨_,rfl⟩;rw [←hres];have HR:=zH hres;have HS:=zH (by
  have h:=hok
  simp only [zas,Bool.and_eq_true] at h
  exact (zht l _ h.2).2)
 clear hN hc hres hok;go_enter Tryz.func119,Tryz.ntmps119;go_wp2_with fail;generalize hw1:w.alloc _=w1;have B1:=gB1 hw1;have HM:=gA11 hw1;clear hw1;have HMh:=zH HM;clear HM;go_loopw [5,6] (fun v5 v6 wr=>∃lo hi:Nat,lo≤hi∧hi≤N∧v5=.int .i64 lo∧v6=.int .i64 hi∧(∀(t:Nat) (o:ObjD),t<lo→l[t]?=some o→ltB o.id id=true)∧(∀(t:Nat) (o:ObjD),hi≤t→l[t]?=some o→ltB o.id id=false)∧Below w1.heap.size w1 wr) (fun v5 v6 _=>(intOf v6 - intOf v5).toNat);case atStart=>exact ⟨0,N,by omega,Nat.le_refl _,rfl,rfl,(fun t o h _=>by omega),(fun t o h ho=>by have:=(List.getElem?_eq_some_iff.1 ho).1;rw [HN.out] at this;omega),Below.refl _ _⟩
 case round =>
  obtain ⟨lo,hi,hlh,hhN,rfl,rfl,hL,hH,hbr⟩:=hrel;have HL:=zH hL;have HH:=zH hH;clear hL hH;have HM2:=zab hbr HMh.out;obtain ⟨mz,m0⟩:=rk1 HM2;have HM2':=zH HM2;clear HM2;by_cases hlt:lo<hi
  ·obtain ⟨c,hcdef⟩:∃c,(lo+hi) / 2=c:=⟨_,rfl⟩;have hcl:lo≤c:=(by omega);have hch:c<hi:=(by omega);have q1:IntKind.i64.wrap ((lo:Int)+hi)=(lo:Int)+hi:=IntWalk.i64_in _ (by omega);have q2:((lo:Int)+hi).tdiv 2=(c:Int):=(by rw [Int.tdiv_eq_ediv_of_nonneg (by omega)];omega);have q2':((lo:Int)+hi) / 2=(c:Int):=(by omega);have q3:IntKind.i64.wrap (c:Int)=(c:Int):=IntWalk.i64_in _ (by omega);have q4:IntKind.i64.wrap ((c:Int)+1)=(c:Int)+1:=IntWalk.i64_in _ (by omega);obtain ⟨o,ho⟩:∃o,l[c]?=some o:=⟨l[c]'(by rw [HN.out];omega),List.getElem?_eq_getElem _⟩;obtain ⟨b,off,ha,hcell⟩:=HC.out (by omega);subst ha;obtain ⟨vr,vt,c0,-,-,-,-,-,-,-,-⟩:=((hcell c o ho).later B1).later hbr;have HO:=zH ho;have hcN:c<N:=(by omega);clear hcell ho hcdef;cases hlo:ltB o.id id with
   |true =>
    have LQ:Op.bytesLess o.id.toList id.toList=true:=hlo;have HG:Hid (∀(t:Nat) (y:ObjD),t<c+1→l[t]?=some y→ltB y.id id=true):=zH (fun t y ht hy=>by
     by_cases htc:t=c
     ·subst htc;rw [HO.out] at hy;cases hy;exact hlo
     ·exact zdz (HS.out t c y o (by omega) hy HO.out) hlo)
    clear hlo;go_wp2;go_roundw;case rel=>exact ⟨c+1,hi,by omega,hhN,by go_num,rfl,HG.out,HH.out,hbr⟩
    case measure=>simp [intOf];omega
   |false =>
    have LQ:Op.bytesLess o.id.toList id.toList=false:=hlo;have HG:Hid (∀(t:Nat) (y:ObjD),c≤t→l[t]?=some y→ltB y.id id=false):=zH (fun t y ht hy=>by
     by_cases htc:t=c
     ·subst htc;rw [HO.out] at hy;cases hy;exact hlo
     ·cases h:ltB y.id id with
      |false=>rfl
      |true=>have:=zdz (HS.out c t o y (by omega) HO.out hy) h;rw [hlo] at this;cases this)
    clear hlo;go_wp2;go_roundw;case rel=>exact ⟨lo,c,by omega,by omega,rfl,rfl,HL.out,HG.out,hbr⟩
    case measure=>simp [intOf];omega
  ·obtain rfl:lo=hi:=(by omega);have HF:=zH (zxh HS.out HL.out HH.out);have BF:=zac B1 zR hbr;have hnl:¬(lo:Int)<lo:=(by omega);by_cases hlN:lo<N
   ·obtain ⟨o,ho⟩:∃o,l[lo]?=some o:=⟨l[lo]'(by rw [HN.out];omega),List.getElem?_eq_getElem _⟩;obtain ⟨b,off,ha,hcell⟩:=HC.out (by omega);subst ha;obtain ⟨vr,vt,c0,-,-,-,-,-,-,-,-⟩:=((hcell lo o ho).later B1).later hbr;by_cases hs:o.id=id
    ·have e1:(o.id.toList==id.toList)=true:=zcx hs;have HE:=zH (show res=lo by rw [HR.out];unfold idxO;rw [HF.out.1 o ho hs]);clear hcell ho hs;go_wp2;go_ret;exact ⟨by rw [HE.out]<;>rfl,BF⟩
    ·have e1:(o.id.toList==id.toList)=false:=zck hs;have HE:=zH (show res=-1 by
      rw [HR.out];unfold idxO
      cases hp:posO id l with
      |none=>rfl
      |some j =>
       obtain ⟨rfl,o',ho',he⟩:=HF.out.2 j hp
       rw [ho] at ho';cases ho';exact absurd he hs)
     clear hcell ho hs;go_wp2;go_ret;exact ⟨by rw [HE.out]<;>rfl,BF⟩
   ·have HE:=zH (show res=-1 by
     rw [HR.out];unfold idxO
     cases hp:posO id l with
     |none=>rfl
     |some j =>
      obtain ⟨rfl,o',ho',he⟩:=HF.out.2 j hp
      have:=(List.getElem?_eq_some_iff.1 ho').1
      rw [HN.out] at this
      omega)
    go_wp2;go_ret;exact ⟨by rw [HE.out]<;>rfl,BF⟩
theorem zage (id:ByteArray) (kind x y i:Int) (vr vt:Value) (refs:List ByteArray) (tags:List TagD) (w:World) (hr:zaj w vr refs) (ht:zba w vt tags) (h4:kind≠4) (h5:kind≠5) :
  Calls Tryz.prog 120 #[.agg #[.string id,.int .i64 kind,.int .i64 x,.int .i64 y,vr,vt],.int .i64 i] w fun e w'=>e=.returned (.int .i64 1)∧Below w.heap.size w w':=by
 obtain ⟨ar,capr,rfl,_⟩:=hr;obtain ⟨at1,capt,rfl,_⟩:=ht;have g4:(kind==4)=false:=by rw [beq_eq_false_iff_ne];exact h4
 have g5:(kind==5)=false:=by rw [beq_eq_false_iff_ne];exact h5
 go_enter Tryz.func120,Tryz.ntmps120;go_wp2;go_ret;exact ⟨rfl,(Below.refl _ _).alloc zR _⟩
theorem zyi (v:Value) (l:List ObjD) (id:ByteArray) (kind x y:Int) (vr vt:Value) (tags:List TagD) (w:World) (hv:zbb w v l) (hr:zaj w vr []) (ht:zba w vt tags) :
  Calls Tryz.prog 66 #[.agg #[v],.agg #[.string id,.int .i64 kind,.int .i64 x,.int .i64 y,vr,vt]] w fun e w'=>e=.returned (.bool true)∧Below w.heap.size w w':=by
 obtain ⟨a,cap,rfl,_⟩:=hv;obtain ⟨ar,capr,rfl,_⟩:=hr;obtain ⟨at1,capt,rfl,_⟩:=ht;go_enter Tryz.func66,Tryz.ntmps66;go_wp2_with fail;generalize hw1:(w.alloc _).alloc _=w1;have B1:=gB2 hw1;have HO:=gA22 hw1;clear hw1;have HOh:=zH HO;clear HO;go_loopw [5] (fun i wr=>i=.int .i64 0∧Below w1.heap.size w1 wr) (fun _ _=>0);case atStart=>exact ⟨rfl,Below.refl _ _⟩
 case round =>obtain ⟨rfl,hbr⟩:=hrel;have HO2:=zab hbr HOh.out;obtain ⟨oz,o0,o1,o2,o3,o4,o5⟩:=rk6 HO2;have HO2':=zH HO2;clear HO2;go_wp2;go_ret;exact ⟨rfl,zac B1 zR hbr⟩
set_option maxRecDepth 100000 in
set_option maxHeartbeats 4000000 in
theorem zsb (v vr vt:Value) (l:List ObjD) (o:ObjD) (w:World) (hv:zbb w v l) (hr:zaj w vr o.refs) (ht:zba w vt o.tags) (hok:zas l=true) (h4:o.kind≠4) (h5:o.kind≠5) :
  Calls Tryz.prog 66 #[.agg #[v],.agg #[.string o.id,.int .i64 o.kind,.int .i64 o.x,.int .i64 o.y,vr,vt]] w fun e w'=>e=.returned (.bool (zfn l o))∧Below w.heap.size w w':=by
 have mixed:Tryz.prog.follows .mixedOrders=true:=by kernel_rfl
 have HV:=zH (fun w' hb=>hv.later (w':=w') hb);have HRR:=zH (fun w' hb=>hr.later (w':=w') hb);have HTT:=zH (fun w' hb=>ht.later (w':=w') hb);have FD:=zH (fun (v:Value) id w' (h:zbb w' v l)=>zqc v l id w' h hok);have KD:=zH (fun i vr vt refs tags w' hr' ht'=>zage o.id o.kind o.x o.y i vr vt refs tags w' hr' ht' h4 h5);have ND:=zH (fun (v:Value) id kind x y vr vt tags w' h1 h2 h3=>zyi v l id kind x y vr vt tags w' h1 h2 h3);have MO:=zH (fun (o':ObjD) (h:o'∈l)=>zda hok h);have HSB:=zH (show zfn l o=o.refs.all fun r=>(zbi l r).isSome from rfl);obtain ⟨res,hres⟩:∃r,zfn l o=r:=⟨_,rfl⟩;rw [hres] at HSB ⊢;obtain ⟨a,cap,rfl,hln,hc⟩:=hv;obtain ⟨ar,capr,rfl,hrl,hrz,hrc⟩:=hr;obtain ⟨at1,capt,rfl,_⟩:=ht;obtain ⟨N,hN⟩:∃N,l.length=N:=⟨_,rfl⟩;obtain ⟨M,hM⟩:∃M,o.refs.length=M:=⟨_,rfl⟩;rw [hN] at hln hc HV ⊢;rw [hM] at hrl hrc HRR ⊢;have HN:=zH hN;have HM:=zH hM;have HC:=zH hc;have HRC:=zH hrc;clear hN hM hc hrc hrz hres hok h4 h5;obtain ⟨oid,ok,ox,oy,orefs,otags⟩:=o;simp only [] at HRR HTT KD HM HRC HSB hrl ⊢;go_enter Tryz.func66,Tryz.ntmps66;go_wp2_with fail;generalize hw1:(w.alloc _).alloc _=w1;have B1:=gB2 hw1;have HO:=gA22 hw1;have HA:=gA21 hw1;clear hw1;have HOh:=zH HO;have HAh:=zH HA;clear HO HA;go_loopw [5] (fun i wr=>∃k:Nat,k≤M∧i=.int .i64 k∧(∀s∈orefs.take k,(zbi l s).isSome=true)∧Below w1.heap.size w1 wr) (fun i _=>M - (intOf i).toNat);case atStart=>exact ⟨0,by omega,rfl,by simp,Below.refl _ _⟩
 case round =>
  obtain ⟨k,hk,rfl,hT,hbr⟩:=hrel;have HT:=zH hT;clear hT;have BR:=zac B1 zR hbr;have HO2:=zab hbr HOh.out;have HA2:=zab hbr HAh.out;obtain ⟨oz,o0,o1,o2,o3,o4,o5⟩:=rk6 HO2;have HO2':=zH HO2;clear HO2;obtain ⟨mz,m0⟩:=rk1 HA2;have HA2':=zH HA2;clear HA2;by_cases hlt:k<M
  ·obtain ⟨r,hr⟩:∃r,orefs[k]?=some r:=⟨orefs[k]'(by rw [HM.out];exact hlt),List.getElem?_eq_getElem _⟩;obtain ⟨br,offr,har,hcell⟩:=HRC.out (by omega);subst har;have d0:wr.cell? ⟨br,offr+k,none⟩=some (.string r):=cell_later BR (hcell k r hr);have HRK:=zH hr;clear hcell hr;go_wp2_with fail;have p3:=zaa o4;have pm:=zaa m0;have pd:=zaa d0;clear o0 o1 o2 o3 o4 o5 m0 d0;refine zae (by assumption) (by kernel_rfl) ?_;repeat (go_big_quiet_step (first | (go_at_call 119;exact zad (FD.out _ _ _ (HV.out _ (zac BR zR (zam.below _)))))))
   refine wpQuiet_nil ?_;intro w6 hw';obtain ⟨⟨w7,hb7⟩,hw''⟩:=hw';subst hw'';have B7:=zac hbr zR hb7;have BW:=zac B1 zR B7;obtain ⟨idx,hidx⟩:∃i,i=idxO r l:=⟨_,rfl⟩;rw [←hidx];have HO3:=zab B7 HOh.out;have HA3:=zab B7 HAh.out;clear p3 pm pd oz mz HO2' HA2' hb7 hbr BR;obtain ⟨wo,rfl⟩:∃wo:World,wo=wr:=⟨_,rfl⟩;cases hp:posO r l with
   |none =>have hi:idx=-1:=(by rw [hidx];unfold idxO;rw [hp]);subst hi;have HE:=zH (show res=false by rw [HSB.out];exact zabc l orefs k r HRK.out (zel l r hp));clear hidx hp HO3 HA3;go_wp2_with fail;go_quiet (fail);go_wp2;go_ret;exact ⟨by rw [HE.out]<;>rfl,BW.drewN'⟩
   |some j =>
    have hi:idx=(j:Nat):=(by rw [hidx];unfold idxO;rw [hp]);subst hi;obtain ⟨o',ho',hid'⟩:=zdt r l j hp;have hjN:j<N:=(by rw [←HN.out];exact (List.getElem?_eq_some_iff.1 ho').1);obtain ⟨b,off,ha,hcell⟩:=HC.out (by omega);subst ha;obtain ⟨vr',vt',c0,c1,c2,c3,c4,c5,hr',ht',-⟩:=(hcell j o' ho').later BW;have HR':=zH hr';have HT':=zH ht';obtain ⟨ar',capr',evr,_⟩:=hr';obtain ⟨at',capt',evt,_⟩:=ht';subst evr evt;have HNA:=zH (zfl l r j hp o' ho');have HMO:=zH (MO.out o' (zM ho'));have jz:¬(j:Int)<0:=(by omega);have jzd:decide ((j:Int)<0)=false:=decide_eq_false jz;obtain ⟨oz,o0,o1,o2,o3,o4,o5⟩:=rk6 HO3;have HO3':=zH HO3;clear HO3;obtain ⟨mz,m0⟩:=rk1 HA3;have HA3':=zH HA3;clear HA3;have a0:=zaa o0;have a1:=zaa o1;have a2:=zaa o2;have a3:=zaa o3;have a4:=zaa o4;have a5:=zaa o5;have am:=zaa m0;obtain ⟨okk,hokk⟩:∃z,z=o'.kind:=⟨_,rfl⟩;rw [←hokk] at c1;have b0:=zaa c0;have b1:=zaa c1;have b2:=zaa c2;have b3:=zaa c3;have b4:=zaa c4;have b5:=zaa c5;clear o0 o1 o2 o3 o4 o5 m0 c0 c1 c2 c3 c4 c5 hidx hp ho' hid' hcell;by_cases hk1:okk=1
    ·have hok1:o'.kind=1:=(by rw [←hokk];exact hk1);have hrefs:=zna HMO.out hok1;subst hk1;have hl0:o'.refs.length=0:=(by rw [hrefs];rfl);have HRE:=zH (show Hid (zaj w6 (.slice ar' 0 capr') []) by
      have:=HR'.out
      rw [hrefs] at this
      exact zH this)
     have HG:=zH (zvr l orefs k r HRK.out HT.out (by rw [HNA.out,if_pos hok1];rfl));rw [hl0] at b4;clear hokk hok1 hrefs hl0 HR';go_wp2_with fail;refine zae (by assumption) (by kernel_rfl) ?_;repeat (go_big_quiet_step (first | (go_at_call 120;exact zad (KD.out _ _ _ _ _ _ (HRR.out _ (zac BW zR (zam.below _))) (HTT.out _ (zac BW zR (zam.below _))))) | (go_at_call 66;exact zad (ND.out _ _ _ _ _ _ _ _ _ (HV.out _ (zac BW zR (zam.below _))) (HRE.out.out.later (zam.below _)) (HT'.out.later (zam.below _))))))
     refine wpQuiet_nil ?_;intro w8 hw';obtain ⟨⟨w9,hb9⟩,hw''⟩:=hw';subst hw'';have B9:=zac B7 zR hb9;go_wp2;go_roundw;case rel=>exact ⟨k+1,by omega,by go_num,HG.out,B9⟩
     case measure=>simp [intOf];omega
    ·have HE:=zH (show res=false by rw [HSB.out];exact zabc l orefs k r HRK.out (by rw [HNA.out,if_neg (by rw [←hokk];exact hk1)]));have hkk:okk=2∨okk=3∨okk=4∨okk=5:=by have h:=HMO.out;simp only [zay,Bool.and_eq_true,decide_eq_true_eq] at h;have:=h.1.1.1.1.1.1;omega
     clear hokk hk1;rcases hkk with rfl | rfl | rfl | rfl;all_goals (
      go_wp2_with fail
      refine zae (by assumption) (by kernel_rfl) ?_
      repeat (go_big_quiet_step (first | (go_at_call 120;exact zad (KD.out _ _ _ _ _ _ (HRR.out _ (zac BW zR (zam.below _))) (HTT.out _ (zac BW zR (zam.below _)))))))
      refine wpQuiet_nil ?_
      intro w8 hw'
      obtain ⟨⟨w9,hb9⟩,hw''⟩:=hw'
      subst hw''
      have B9:=zac BW zR hb9
      go_wp2
      go_ret
      exact ⟨by rw [HE.out]<;>rfl,B9⟩)
  ·obtain rfl:k=M:=(by omega);have HE:=zH (show res=true by
    rw [HSB.out,List.all_eq_true]
    have:=HT.out
    rw [List.take_of_length_le (by rw [HM.out];exact Nat.le_refl _)] at this
    exact this)
   go_wp2;go_ret;exact ⟨by rw [HE.out]<;>rfl,BR⟩
end Go.Proofs.YtibpaaajghbkoaaGreat
