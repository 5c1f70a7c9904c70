/-     -/
import Derived.Test.YtibpaaajghbkoaaGreatWAc
import Derived.Deep.Quiet
import Derived.Deep.QuietTactic
namespace Go.Proofs.YtibpaaajghbkoaaGreat
open Go.RowKit
theorem zvs (kind:Int) (l:List ByteArray) (k:Nat) (s:ByteArray) (hs:l[k]?=some s) :
  zar kind (l.take k) (l.drop k)=(okR kind (l.take k) s && zar kind (l.take (k+1)) (l.drop (k+1))):=by
 obtain ⟨hk,rfl⟩:=List.getElem?_eq_some_iff.1 hs;rw [List.drop_eq_getElem_cons hk,List.take_succ_eq_append_getElem hk];rfl
def zaqf (r:Bool) (Bl Bm:Nat) (w0 w:World) (e:Ending) (w':World):Prop :=
 (∃n:Int,e=.returned (.int .i64 n)∧(0≤n↔r=false))∧Below w0.heap.size w0 w'∧zml Bl Bm w w'
set_option maxRecDepth 100000 in
set_option maxHeartbeats 1000000 in
theorem zapq (v:Value) (l:List ByteArray) (kind:Int) (Bo Bl Bs Bm:Nat) (w0 w:World) (hl:l.length≤4000) (hv:zaj w0 v l) (hb:Below w0.heap.size w0 w)
  (h:VSt w Bo Bl Bs Bm kind []) (m1:w0.heap.size≤Bl) (m2:w0.heap.size≤Bm) (n1:Bo≠Bm) (n2:Bl≠Bm) (n3:Bs≠Bm) (n4:Bo≠Bl) (n5:Bs≠Bl) :
  Calls Tryz.prog 166 #[v,.func (.func 132) #[] #[.pointer (some ⟨Bo,0,none⟩),.pointer (some ⟨Bl,0,none⟩),.pointer (some ⟨Bs,0,none⟩)]] w (zaqf (zar kind [] l) Bl Bm w0 w):=by
 obtain ⟨a,cap,rfl,hn,hsz,hc⟩:=hv;generalize hN:l.length=N at *;have HN:=zH hN;have HZ:=zH hsz;have HC:=zH hc;have HV:=zH h;clear hN hsz hc h;go_enter Tryz.func166,Tryz.ntmps166;go_wp2;go_loopw [8] (fun i wr=>∃k:Nat,k≤N∧i=.int .i64 k∧zar kind [] l=zar kind (l.take k) (l.drop k)∧VSt wr Bo Bl Bs Bm kind (l.take k)∧Below w0.heap.size w0 wr∧w.heap.size≤wr.heap.size∧zml Bl Bm w wr) (fun i _=>N - (intOf i).toNat);case atStart=>exact ⟨0,by omega,rfl,rfl,HV.out,hb,Nat.le_refl _,zml.refl _ _ _⟩
 case round =>
  obtain ⟨k,hk,rfl,hT,hV,hbr,hsw,hx⟩:=hrel;have HXX:=zH hx;clear hx;have HT:=zH hT;have HVK:=zH hV;clear hT hV;by_cases hlt:k<N
  ·obtain ⟨s,hs⟩:∃s,l[k]?=some s:=⟨l[k]'(by rw [HN.out];exact hlt),List.getElem?_eq_getElem _⟩;obtain ⟨b,off,ha,hcell⟩:=HC.out (by omega);subst ha;have z1:=HZ.out s (zM hs);have c0:=cell_later hbr (hcell k s hs);have bz:=zag c0;have HD:=zH (zvs kind l k s hs);have HK:=zH (show l.take (k+1)=l.take k++[s] by obtain ⟨hk,rfl⟩:=List.getElem?_eq_some_iff.1 hs;rw [List.take_succ_eq_append_getElem hk]);have hlen:(l.take k).length≤4000:=(by rw [List.length_take,HN.out];omega);clear hcell hs;go_wp2_with fail;refine (zafj s z1 kind (l.take k) hlen Bo Bl Bs Bm w0.heap.size _ HVK.out m1 m2 hbr.size n1 n2 n3 n4 n5).mono ?_;rintro e w2 ⟨rfl,hV2,hb2,hx2⟩;have X2:=zH (HXX.out.trans hsw hx2);have SW2:=Nat.le_trans hsw hb2.size;clear hx2;have B2:=hbr.trans hb2;have HV2:=zH hV2;clear hV2 hb2 c0;cases ho:okR kind (l.take k) s
   ·have HR:=zH (show zar kind [] l=false by rw [HT.out,HD.out,ho];rfl);clear ho;go_wp2;go_ret;exact ⟨⟨_,rfl,by rw [HR.out];simp⟩,B2,X2.out⟩
   ·have HG:=zH (show zar kind [] l=zar kind (l.take (k+1)) (l.drop (k+1)) by rw [HT.out,HD.out,ho];rfl);clear ho;go_wp2;go_roundw;case rel=>exact ⟨k+1,by omega,by go_num,HG.out,by rw [HK.out];exact HV2.out,B2,SW2,X2.out⟩
    case measure=>simp [intOf];omega
  ·obtain rfl:k=N:=(by omega);have HR:=zH (show zar kind [] l=true by rw [HT.out,List.drop_of_length_le (by rw [HN.out];exact Nat.le_refl _)];rfl);go_wp2;go_ret;exact ⟨⟨_,rfl,by rw [HR.out];simp⟩,hbr,HXX.out⟩
theorem zaps (v:Value) (l:List ByteArray) (kind:Int) (Bo Bl Bs Bm:Nat) (w0 w:World) (hl:l.length≤4000) (hv:zaj w0 v l) (hb:Below w0.heap.size w0 w)
  (h:VSt w Bo Bl Bs Bm kind []) (m1:w0.heap.size≤Bl) (m2:w0.heap.size≤Bm) (n1:Bo≠Bm) (n2:Bl≠Bm) (n3:Bs≠Bm) (n4:Bo≠Bl) (n5:Bs≠Bl) :
  Calls Tryz.prog 133 #[v,.func (.func 132) #[] #[.pointer (some ⟨Bo,0,none⟩),.pointer (some ⟨Bl,0,none⟩),.pointer (some ⟨Bs,0,none⟩)]] w fun e w'=>e=.returned (.bool (!zar kind [] l))∧Below w0.heap.size w0 w'∧zml Bl Bm w w':=by
 have HI:=zH (zapq v l kind Bo Bl Bs Bm w0 w hl hv hb h m1 m2 n1 n2 n3 n4 n5);clear hv h;go_enter Tryz.func133,Tryz.ntmps133;go_wp2_with fail;refine HI.out.mono ?_;rintro e w2 ⟨⟨n,rfl,hn⟩,hb2,hx2⟩;have X2:=zH hx2;clear hx2;by_cases h0:0≤n
 ·have HR:=zH (hn.1 h0);clear hn;go_wp2;go_ret;exact ⟨zah (by rw [HR.out];first | (simp;done) | (simp;omega)),hb2,X2.out⟩
 ·have HR:=zH (show zar kind [] l=true by
   cases hr:zar kind [] l
   ·exact absurd (hn.2 hr) h0
   ·rfl)
  clear hn;have h0':n<0:=by omega
  go_wp2;go_ret;exact ⟨zah (by rw [HR.out];first | (simp;done) | (simp;omega)),hb2,X2.out⟩
end Go.Proofs.YtibpaaajghbkoaaGreat

namespace Go.Proofs.YtibpaaajghbkoaaGreat
open Go.RowKit
def zgl (kind:Int) (n:Nat):Bool :=
 if kind=1 then decide (n=0) else if kind=2 then decide (2≤n) else if kind=3 then decide (3≤n) else if kind=4 then decide (1≤n) else decide (n=3)
theorem zgu {α:Type} (l:List α) (x:α):(l++[x]).getLast?=some x:=by simp
set_option maxRecDepth 100000 in
set_option maxHeartbeats 2000000 in
theorem zvn (id:ByteArray) (kind x y:Int) (vr vt:Value) (l:List ByteArray) (w:World) (hv:zaj w vr l) :
  Calls Tryz.prog 171 #[.agg #[.string id,.int .i64 kind,.int .i64 x,.int .i64 y,vr,vt]] w fun e w'=>e=.returned (.bool (decide (l.length≤2000) && zar kind [] l && zgl kind l.length))∧Below w.heap.size w w':=by
 obtain ⟨a,cap,rfl,hn,hsz,hc⟩:=hv;generalize hN:l.length=N at *;have HN:=zH hN;have HZ:=zH hsz;have HC:=zH hc;clear hN hsz hc;by_cases h2:2000<N
 ·have HE:=zH (show (decide (N≤2000) && zar kind [] l && zgl kind N)=false by rw [decide_eq_false (by omega)];simp);rw [HE.out];go_enter Tryz.func171,Tryz.ntmps171;go_wp2;go_ret;refine ⟨rfl,?_⟩;repeat' (first | exact Below.refl _ _ | refine Below.drew ?_ | refine Below.drewN' ?_ | refine Below.setCell ?_ (by first | omega | (simp;done) | exact Below.size (by assumption) | (simp;omega)) _ | refine Below.alloc ?_ (by first | omega | (simp;done) | exact Below.size (by assumption) | (simp;omega)) _ | refine Below.trans ?_ (Below.mono (by assumption) ?_) | (first | omega | (simp;done) | exact Below.size (by assumption) | (simp;omega)))
 have hle:decide (N≤2000)=true:=by rw [decide_eq_true_eq];omega
 rw [hle,Bool.true_and];clear hle;have hmm:=@run_makeMap Tryz.prog;go_enter Tryz.func171,Tryz.ntmps171;go_wp2;clear hmm;have HM:=zH (zlc.made (w.alloc (.cells #[.string id,.int .i64 kind,.int .i64 x,.int .i64 y,.slice a N cap,vt] 36)));rw [show (w.alloc (.cells #[.string id,.int .i64 kind,.int .i64 x,.int .i64 y,.slice a N cap,vt] 36)).heap.size=w.heap.size+1 by simp] at HM;generalize hw1:(w.alloc _).alloc _=w1;have GO:=zH (gA21 hw1);have B0:=gB2 hw1;rw [hw1] at HM;clear hw1;go_loopw [5] (fun i wr=>∃k:Nat,k≤N∧i=.int .i64 k∧zar kind [] l=zar kind (l.take k) (l.drop k)∧wr.heap[w.heap.size]?=some (.cells #[.string id,.int .i64 kind,.int .i64 x,.int .i64 y,.slice a N cap,vt] 36 (0,0))∧zlc wr (w.heap.size+1) (l.take k)∧Below w.heap.size w wr) (fun i _=>N - (intOf i).toNat);case atStart=>exact ⟨0,by omega,rfl,rfl,GO.out,HM.out,B0⟩
 case round =>
  obtain ⟨k,hk,rfl,hT,hO,hM,hbr⟩:=hrel;have HT:=zH hT;have HMK:=zH hM;have GOK:=zH hO;clear hT hM;by_cases hlt:k<N
  ·obtain ⟨s,hs⟩:∃s,l[k]?=some s:=⟨l[k]'(by rw [HN.out];exact hlt),List.getElem?_eq_getElem _⟩;obtain ⟨b,off,ha,hcell⟩:=HC.out (by omega);subst ha;have z1:=HZ.out s (zM hs);have c0:=cell_later hbr (hcell k s hs);have bz:=zag c0;have HD:=zH (zvs kind l k s hs);have HK:=zH (show l.take (k+1)=l.take k++[s] by obtain ⟨hk,rfl⟩:=List.getElem?_eq_some_iff.1 hs;rw [List.take_succ_eq_append_getElem hk]);have hlen:(l.take k).length<maxLen:=(by rw [List.length_take,HN.out];unfold maxLen;omega);have HLE:=zH hlen;have HCL:=zH hcell;have hlook:=fun n=>(HMK.out.later (w':=wr.drewN n) rfl).look s (by unfold maxLen;omega);have RN:=zH (fun w=>zpz s z1 w);generalize hI:((l.take k).any fun p=>decide (p=s))=I at *;have HI:=zH hI;clear hcell hs hlen hI;obtain ⟨oz,o0,o1,o2,o3,o4,o5⟩:=rk6 hO;have hO':=zH hO;clear hO;clear hO';cases hnm:zcw s;case false =>
    have HR:=zH (show zar kind [] l=false by rw [HT.out,HD.out,okR,hnm];rfl);rw [hnm] at RN;clear hnm;go_wp2;go_quiet ((go_at_call 168;exact Calls.quiet_of_same (RN.out _)));go_wp2;go_ret;exact ⟨zah (by rw [HR.out];simp),hbr.drewN'⟩
   rw [hnm] at RN;by_cases e3:kind=3
   ·have f2:(kind==2)=false:=(by rw [beq_eq_false_iff_ne];omega);have f3:(kind==3)=true:=(by rw [beq_iff_eq];exact e3);cases I
    ·have HG:=zH (show zar kind [] l=zar kind (l.take (k+1)) (l.drop (k+1)) by rw [HT.out,HD.out,okR,hnm,HI.out,e3];simp);clear hnm e3;go_wp2;go_quiet ((go_at_call 168;exact Calls.quiet_of_same (RN.out _)));obtain ⟨w9,hput,HM9,hg⟩:=(HMK.out.later (w':=wr.drewN nq) rfl).put s (by unfold maxLen;omega) HLE.out;have HP9:=zH HM9;have HG9:=zH hg;clear HM9 hg;go_wp2;go_roundw;case rel=>exact ⟨k+1,by omega,by go_num,HG.out,(HG9.out.block _ (zaf (zgs GOK.out)) (by simp)).trans (zgs GOK.out),by rw [HK.out];exact HP9.out,(hbr.drewN' (n:=nq)).trans (Below.grow1 (w:=wr.drewN nq) hbr.size HG9.out (Nat.le_succ _))⟩
     case measure=>simp [intOf];omega
    ·have HR:=zH (show zar kind [] l=false by rw [HT.out,HD.out,okR,hnm,HI.out,e3];simp);clear hnm e3;go_wp2;go_quiet ((go_at_call 168;exact Calls.quiet_of_same (RN.out _)));go_wp2;go_ret;exact ⟨zah (by rw [HR.out];simp),hbr.drewN'⟩
   have f3:(kind==3)=false:=(by rw [beq_eq_false_iff_ne];exact e3);by_cases e2:kind=2
   ·have f2:(kind==2)=true:=(by rw [beq_iff_eq];exact e2);rcases k with _ | m
    ·have HG:=zH (show zar kind [] l=zar kind (l.take (0+1)) (l.drop (0+1)) by rw [HT.out,HD.out,okR,hnm,e2];simp);simp only [Nat.add_zero] at c0;clear hnm e2 e3;go_wp2;go_quiet ((go_at_call 168;exact Calls.quiet_of_same (RN.out _)));obtain ⟨w9,hput,HM9,hg⟩:=(HMK.out.later (w':=wr.drewN nq) rfl).put s (by unfold maxLen;omega) HLE.out;have HP9:=zH HM9;have HG9:=zH hg;clear HM9 hg;go_wp2;go_roundw;case rel=>exact ⟨0+1,by omega,by go_num,HG.out,(HG9.out.block _ (zaf (zgs GOK.out)) (by simp)).trans (zgs GOK.out),by rw [HK.out];exact HP9.out,(hbr.drewN' (n:=nq)).trans (Below.grow1 (w:=wr.drewN nq) hbr.size HG9.out (Nat.le_succ _))⟩
     case measure=>simp [intOf];omega
    ·obtain ⟨p,hp⟩:∃p,l[m]?=some p:=⟨l[m]'(by rw [HN.out];omega),List.getElem?_eq_getElem _⟩;have p0:=cell_later hbr (HCL.out m p hp);have HLP:=zH (show (l.take (m+1)).getLast?=some p by
      obtain ⟨hm,rfl⟩:=List.getElem?_eq_some_iff.1 hp
      rw [List.take_succ_eq_append_getElem hm];exact zgu _ _)
     have WM:IntKind.i64.wrap (((m+1:Nat):Int) - 1)=(m:Int):=(IntWalk.i64_in _ (by omega)).trans (by omega);have WG:decide ((0:Int)<((m+1:Nat):Int))=true:=(by rw [decide_eq_true_eq];omega);clear hp;by_cases eq:p=s
     ·have SE:(p.toList==s.toList)=true:=zcx eq;have HR:=zH (show zar kind [] l=false by rw [HT.out,HD.out,okR,hnm,HLP.out,e2,eq];simp);clear hnm e2 e3 eq;go_wp2;go_quiet ((go_at_call 168;exact Calls.quiet_of_same (RN.out _)));go_wp2;go_ret;exact ⟨zah (by rw [HR.out];simp),hbr.drewN'⟩
     ·have SE:(p.toList==s.toList)=false:=zck eq;have HG:=zH (show zar kind [] l=zar kind (l.take (m+1+1)) (l.drop (m+1+1)) by rw [HT.out,HD.out,okR,hnm,HLP.out,e2];simp [eq]);clear hnm e2 e3 eq;go_wp2;go_quiet ((go_at_call 168;exact Calls.quiet_of_same (RN.out _)));obtain ⟨w9,hput,HM9,hg⟩:=(HMK.out.later (w':=wr.drewN nq) rfl).put s (by unfold maxLen;omega) HLE.out;have HP9:=zH HM9;have HG9:=zH hg;clear HM9 hg;go_wp2;go_roundw;case rel=>exact ⟨m+1+1,by omega,by go_num,HG.out,(HG9.out.block _ (zaf (zgs GOK.out)) (by simp)).trans (zgs GOK.out),by rw [HK.out];exact HP9.out,(hbr.drewN' (n:=nq)).trans (Below.grow1 (w:=wr.drewN nq) hbr.size HG9.out (Nat.le_succ _))⟩
      case measure=>simp [intOf];omega
   have f2:(kind==2)=false:=(by rw [beq_eq_false_iff_ne];exact e2);have HG:=zH (show zar kind [] l=zar kind (l.take (k+1)) (l.drop (k+1)) by rw [HT.out,HD.out,okR,hnm];simp [e2,e3]);clear hnm e2 e3;go_wp2;go_quiet ((go_at_call 168;exact Calls.quiet_of_same (RN.out _)));obtain ⟨w9,hput,HM9,hg⟩:=(HMK.out.later (w':=wr.drewN nq) rfl).put s (by unfold maxLen;omega) HLE.out;have HP9:=zH HM9;have HG9:=zH hg;clear HM9 hg;go_wp2;go_roundw;case rel=>exact ⟨k+1,by omega,by go_num,HG.out,(HG9.out.block _ (zaf (zgs GOK.out)) (by simp)).trans (zgs GOK.out),by rw [HK.out];exact HP9.out,(hbr.drewN' (n:=nq)).trans (Below.grow1 (w:=wr.drewN nq) hbr.size HG9.out (Nat.le_succ _))⟩
   case measure=>simp [intOf];omega
  ·obtain rfl:k=N:=(by omega);have HR:=zH (show zar kind [] l=true by rw [HT.out,List.drop_of_length_le (by rw [HN.out];exact Nat.le_refl _)];rfl);obtain ⟨oz,o0,o1,o2,o3,o4,o5⟩:=rk6 hO;have hO':=zH hO;clear hO;clear hO';by_cases e1:kind=1
   ·subst e1;go_wp2;go_ret;exact ⟨zah (by rw [HR.out,Bool.true_and];simp only [zgl];rw [Bool.eq_iff_iff];first | (simp;done) | (simp;omega)),hbr⟩
   have f1:(kind==1)=false:=(by rw [beq_eq_false_iff_ne];exact e1);by_cases e2:kind=2
   ·subst e2;go_wp2;go_ret;exact ⟨zah (by rw [HR.out,Bool.true_and];simp only [zgl];rw [Bool.eq_iff_iff];first | (simp;done) | (simp;omega)),hbr⟩
   have f2:(kind==2)=false:=(by rw [beq_eq_false_iff_ne];exact e2);by_cases e3:kind=3
   ·subst e3;go_wp2;go_ret;exact ⟨zah (by rw [HR.out,Bool.true_and];simp only [zgl];rw [Bool.eq_iff_iff];first | (simp;done) | (simp;omega)),hbr⟩
   have f3:(kind==3)=false:=(by rw [beq_eq_false_iff_ne];exact e3);by_cases e4:kind=4
   ·subst e4;go_wp2;go_ret;exact ⟨zah (by rw [HR.out,Bool.true_and];simp only [zgl];rw [Bool.eq_iff_iff];first | (simp;done) | (simp;omega)),hbr⟩
   have f4:(kind==4)=false:=(by rw [beq_eq_false_iff_ne];exact e4);have HE:=zH (show zgl kind k=decide (k=3) by rw [zgl,if_neg e1,if_neg e2,if_neg e3,if_neg e4]);clear e1 e2 e3 e4;go_wp2;go_ret;exact ⟨zah (by rw [HR.out,Bool.true_and,HE.out,Bool.eq_iff_iff];first | (simp;done) | (simp;omega)),hbr⟩
end Go.Proofs.YtibpaaajghbkoaaGreat

namespace Go.Proofs.YtibpaaajghbkoaaGreat
open Go.RowKit
def zay (o:ObjD):Bool :=
 decide (1≤o.kind∧o.kind≤5) && zcw o.id && zdq o.tags && decide (zff o.kind≤o.refs.length) && decide (o.refs.length≤2000) && zar o.kind [] o.refs &&
  (if o.kind=1 then decide (o.refs.length=0) && onB o.x o.y else if o.kind=5 then decide (o.refs.length=3) && decide (o.x=0∧o.y=0) else decide (o.x=0∧o.y=0))
theorem zahc (o:ObjD):zay o=(zcw o.id && decide (1≤o.kind∧o.kind≤5) && (if o.kind=1 then onB o.x o.y else decide (o.x=0∧o.y=0)) && zdq o.tags && (decide (o.refs.length≤2000) && zar o.kind [] o.refs && zgl o.kind o.refs.length)):=by
 unfold zay zgl zff;by_cases hk:1≤o.kind∧o.kind≤5
 ·cases zcw o.id<;>cases zdq o.tags<;>cases zar o.kind [] o.refs<;>simp only [Bool.and_false,Bool.false_and,Bool.and_true,Bool.true_and,hk,and_self,decide_true];obtain h | h | h | h | h:o.kind=1∨o.kind=2∨o.kind=3∨o.kind=4∨o.kind=5:=by omega
  all_goals
   simp only [h];rw [Bool.eq_iff_iff];cases onB o.x o.y<;>first | (simp;done) | (simp;omega)
 ·simp [hk]
end Go.Proofs.YtibpaaajghbkoaaGreat

namespace Go.Proofs.YtibpaaajghbkoaaGreat
open Go.RowKit
structure zam (w:World) where
 at':World
 below:Below w.heap.size w at'
instance (w:World):Inhabited (zam w):=⟨⟨w,Below.refl _ _⟩⟩
theorem zae {P:Program} {id:Nat} {Q:Exit→Act→World→Prop} {a:Act} {w:World} {l:List Oper} (hm:P.follows .mixedOrders=true) (hB:Region.lexB .any l.toArray=true)
  (h:wpQuiet P l.toArray (fun w'=>∃p:zam w,w'=p.at') (fun a'=>∀w',(∃p:zam w,w'=p.at')→Q .normal a' w') l a):(Code.region id l.toArray true).wp P Q a w :=
 wp_region_quiet (C:=fun w'=>∃p:zam w,w'=p.at') hm hB ⟨⟨w.drew,(Below.refl _ w).drew⟩,rfl⟩ (by simpa using h)
theorem zaa {w:World} {a:Addr} {v:Value} (h:w.cell? a=some v) (p:zam w):p.at'.cell? a=some v:=cell_later p.below h
theorem zad {P:Program} {f:FuncId} {args:Array Value} {w:World} {p:zam w} {v:Value}
  (h:Calls P f args p.at' fun e w'=>e=.returned v∧Below p.at'.heap.size p.at' w'):Calls P f args p.at' fun e w''=>e=.returned v∧∃q:zam w,w''=q.at' :=
 h.mono fun _ w' ⟨he,hb⟩=>⟨he,⟨w',zac p.below zR hb⟩,rfl⟩
end Go.Proofs.YtibpaaajghbkoaaGreat
