/-     -/
import Derived.Test.YtibpaaajghbkoaaGreatWAe
import Derived.Test.YtibpaaajghbkoaaGreatWAc
import Derived.LoopN
import Derived.Test.YtibpaaajghbkoaaGreatWAb
import Derived.Lib.OwnBridge
import Derived.Lib.SmallJoins
import Derived.Lib.SliceRun
import Derived.Lib.Walk
import Derived.Below
import Derived.Sort.Walk0
import Derived.Sort.LotA
namespace Go.Proofs.YtibpaaajghbkoaaGreat
open Go.RowKit
set_option maxRecDepth 100000 in
set_option maxHeartbeats 4000000 in
theorem zact (id:ByteArray) (kind x y:Int) (refs:List ByteArray) (tags:List TagD) (a:Option Addr) (N cap:Nat) (vt:Value) (w:World) (hz:id.size≤140737488355328) (ht:zba w vt tags) (hv:zaj w (.slice a N cap) refs) (hk:1≤kind∧kind≤5) (hn:zcw id=true) (htg:zdq tags=true) (hN:N=refs.length) (hl:¬(N:Int)<zff kind) (hm:¬2000<N) :
  Calls Tryz.prog 73 #[.agg #[.string id,.int .i64 kind,.int .i64 x,.int .i64 y,.slice a N cap,vt]] w fun e w'=>e=.returned (.bool (zay ⟨id,kind,x,y,refs,tags⟩))∧Below w.heap.size w w':=by
 have HB:=zH (show zay ⟨id,kind,x,y,refs,tags⟩=(zar kind [] refs && (if kind=1 then decide (N=0) && onB x y else if kind=5 then decide (N=3) && decide (x=0∧y=0) else decide (x=0∧y=0))) by simp only [zay];rw [←hN,decide_eq_true hk,hn,htg,show decide (zff kind≤(N:Int))=true from decide_eq_true (by omega),show decide (N≤2000)=true from decide_eq_true (by omega)];simp)
 have WD:=zH (fun w=>zlf kind w);have hwz:=zmo kind hk.1 hk.2;generalize zig kind=wd at WD hwz;have ew1:wd.toList.isEmpty=false:=zbo hwz;have ew0:¬wd.toList=[]:=by intro e;rw [e] at ew1;simp at ew1
 have ND:=zH (fun w=>by have:=zgb id hz w;rw [hn] at this;exact this);have TD:=zH (fun (w':World) (hb:Below w.heap.size w w')=>by have:=zpa vt tags w' (ht.later hb);rw [htg] at this;exact this);have LD:=zH (fun w=>zmd kind hk.1 hk.2 w);generalize zff kind=m at LD hl;have hld:decide ((N:Int)<m)=false:=decide_eq_false hl;have hmz:¬(2000:Int)<(N:Int):=by omega
 have hmd:decide ((2000:Int)<(N:Int))=false:=decide_eq_false hmz;have HV:=zH hv;have HK:=zH hk;have HLE:=zH (show refs.length≤4000 by omega);clear hk hn ht htg hN hv;have mixed:Tryz.prog.follows .mixedOrders=true:=by kernel_rfl
 go_enter Tryz.func73,Tryz.ntmps73;go_wp2_with fail;generalize hw1:w.alloc _=w1;have B1:=gB1 hw1;have HO:=gA11 hw1;clear hw1;have HO1:=zH HO;obtain ⟨pz,p0,p1,p2,p3,p4,p5⟩:=rk6 HO;have HO':=zH HO;clear HO;have q0:=zaa p0;have q1:=zaa p1;have q3:=zaa p4;have q5:=zaa p5;clear p0 p1 p2 p3 p4 p5;refine zae (by assumption) (by kernel_rfl) ?_;repeat (quiet_step (first | (go_at_call 128;exact zad (WD.out _)) | (go_at_call 129;exact zad (ND.out _)) | (go_at_call 130;exact zad (TD.out _ (zac B1 zR (zam.below _)))) | (go_at_call 131;exact zad (LD.out _))))
 refine wpQuiet_nil ?_;intro w2 hw';obtain ⟨⟨w3,hb2⟩,hw''⟩:=hw';subst hw'';have hmm:=@run_makeMap Tryz.prog;have HO2:=zab hb2 HO1.out;have B2:=zac B1 zR hb2;clear HO1 HO' WD ND TD LD hl hld hmz hmd hm;have HO2h:=zH HO2;obtain ⟨cz,c0,c1,c2,c3,c4,c5⟩:=rk6 HO2;have HO2':=zH HO2;clear HO2;have B5:Below w2.heap.size w2 (((w2.alloc (.map #[] 0)).alloc (.cells #[.map (some w2.heap.size)] 182)).alloc (.cells #[.string ⟨#[]⟩] 9)):=(((Below.refl _ w2).alloc zR _).alloc (by simp) _).alloc (by simp;omega) _;have d4:=cell_later B5 c4;have HS:=zao (o':=.cells #[.string ⟨#[]⟩] 9) (zan (w2.alloc (.map #[] 0)) (.cells #[.map (some w2.heap.size)] 182));have HL:=zan ((w2.alloc (.map #[] 0)).alloc (.cells #[.map (some w2.heap.size)] 182)) (.cells #[.string ⟨#[]⟩] 9);have HMs:zlc (((w2.alloc (.map #[] 0)).alloc (.cells #[.map (some w2.heap.size)] 182)).alloc (.cells #[.string ⟨#[]⟩] 9)) w2.heap.size [] :=
  (zlc.made w2).later ((((Below.refl _ (w2.alloc (.map #[] 0))).alloc zR _).alloc (by simp) _).block _ (by simp))
 have HOb:=zab B5 HO2h.out;clear c0 c1 c2 c3 c4 c5;go_wp2_with fail;generalize hw5:((w2.alloc _).alloc _).alloc _=w5;rw [hw5] at B5 HS HL HMs HOb;have hs5:w5.heap.size=w2.heap.size+3:=by rw [←hw5];simp
 clear hw5 hmm d4;have HS':w5.heap[w2.heap.size+1]?=some (.cells #[.map (some w2.heap.size)] 182):=by simpa using HS
 have HL':w5.heap[w2.heap.size+1+1]?=some (.cells #[.string ⟨#[]⟩] 9):=by simpa using HL
 have V:VSt w5 w.heap.size (w2.heap.size+1+1) (w2.heap.size+1) w2.heap.size kind []:=⟨by have:=cell_of_row w5 _ 1 _ _ _ HOb;simpa using this,HL',HS',HMs⟩;refine (zaps (.slice a N cap) refs kind w.heap.size (w2.heap.size+1+1) (w2.heap.size+1) w2.heap.size w2 w5 HLE.out (HV.out.later B2) B5 V (by omega) zR (by omega) (by omega) (by omega) (by omega) (by omega)).mono ?_;rintro e w6 ⟨rfl,hb6,hx6⟩;have B6:=B2.trans (hb6.mono (Nat.le_of_lt cz));have HO6:w6.heap[w.heap.size]?=some (.cells #[.string id,.int .i64 kind,.int .i64 x,.int .i64 y,.slice a N cap,vt] 36):=(hx6 _ (by omega) (by omega) (by omega)).trans HOb;clear V HS HS' HL HL' HMs HOb hb6 hx6 B5 B2 B1 hb2 pz hs5 cz HO2' HO2h HLE HV;obtain ⟨oz,o0,o1,o2,o3,o4,o5⟩:=rk6 HO6;have HO6':=zH HO6;clear HO6;cases hrf:zar kind [] refs;case false =>
  have HE:=zH (show zay ⟨id,kind,x,y,refs,tags⟩=false by rw [HB.out,hrf];rfl);clear hrf;go_wp2;go_ret;exact ⟨zah HE.out.symm,B6⟩
 case true =>
  have HE:=zH (show zay ⟨id,kind,x,y,refs,tags⟩=(if kind=1 then decide (N=0) && onB x y else if kind=5 then decide (N=3) && decide (x=0∧y=0) else decide (x=0∧y=0)) by rw [HB.out,hrf];rfl);clear hrf HB;by_cases k1:kind=1
  ·have HE1:=zH (show zay ⟨id,kind,x,y,refs,tags⟩=(decide (N=0) && onB x y) by rw [HE.out,if_pos k1]);have f1:(kind==1)=true:=(by rw [k1];rfl);clear HE k1 HK;by_cases n0:N=0
   ·have HE2:=zH (show zay ⟨id,kind,x,y,refs,tags⟩=onB x y by rw [HE1.out,n0];rfl);have n0b:((N:Int)==0)=true:=(by rw [n0];rfl);clear HE1 n0;go_wp2_with fail;refine (zaqo x y _).mono ?_;rintro e w7 ⟨rfl,hb7⟩;have B7:=zac B6 zR hb7;clear o0 o1 o2 o3 o4 o5 oz HO6' hb7;rw [←HE2.out];go_wp2;go_ret;exact ⟨rfl,B7⟩
   ·have HE2:=zH (show zay ⟨id,kind,x,y,refs,tags⟩=false by rw [HE1.out,decide_eq_false n0];rfl);have n0b:((N:Int)==0)=false:=(by rw [beq_eq_false_iff_ne];omega);clear HE1;go_wp2;go_ret;exact ⟨zah HE2.out.symm,B6⟩
  ·have f1:(kind==1)=false:=(by rw [beq_eq_false_iff_ne];exact k1);by_cases k5:kind=5
   ·have HE1:=zH (show zay ⟨id,kind,x,y,refs,tags⟩=(decide (N=3) && decide (x=0∧y=0)) by rw [HE.out,if_neg k1,if_pos k5]);have f5:(kind==5)=true:=(by rw [k5];rfl);clear HE k1 k5 HK;by_cases n0:N=3
    ·have HE2:=zH (show zay ⟨id,kind,x,y,refs,tags⟩=decide (x=0∧y=0) by rw [HE1.out,n0];rfl);have n0b:((N:Int)==3)=true:=(by rw [n0];rfl);clear HE1 n0;by_cases kz:x=0∧y=0
     ·have HE3:=zH (show zay ⟨id,kind,x,y,refs,tags⟩=true by rw [HE2.out,decide_eq_true kz]);obtain ⟨rfl,rfl⟩:=kz;clear HE2;go_wp2;go_ret;exact ⟨zah HE3.out.symm,B6⟩
     ·have HE3:=zH (show zay ⟨id,kind,x,y,refs,tags⟩=false by rw [HE2.out,decide_eq_false kz]);have hz:x≠0∨y≠0:=(by omega);clear HE2 kz;rcases hz with hz | hz
      ·have z0:(x==0)=false:=(by rw [beq_eq_false_iff_ne];exact hz);go_wp2;go_ret;exact ⟨zah HE3.out.symm,B6⟩
      ·have z0:(y==0)=false:=(by rw [beq_eq_false_iff_ne];exact hz);by_cases hx:x=0
       ·subst hx;go_wp2;go_ret;exact ⟨zah HE3.out.symm,B6⟩
       ·have z1:(x==0)=false:=(by rw [beq_eq_false_iff_ne];exact hx);go_wp2;go_ret;exact ⟨zah HE3.out.symm,B6⟩
    ·have HE2:=zH (show zay ⟨id,kind,x,y,refs,tags⟩=false by rw [HE1.out,decide_eq_false n0];rfl);have n0b:((N:Int)==3)=false:=(by rw [beq_eq_false_iff_ne];omega);clear HE1;go_wp2;go_ret;exact ⟨zah HE2.out.symm,B6⟩
   ·have HE2:=zH (show zay ⟨id,kind,x,y,refs,tags⟩=decide (x=0∧y=0) by rw [HE.out,if_neg k1,if_neg k5]);have f5:(kind==5)=false:=(by rw [beq_eq_false_iff_ne];exact k5);clear HE k1 k5 HK;by_cases kz:x=0∧y=0
    ·have HE3:=zH (show zay ⟨id,kind,x,y,refs,tags⟩=true by rw [HE2.out,decide_eq_true kz]);obtain ⟨rfl,rfl⟩:=kz;clear HE2;go_wp2;go_ret;exact ⟨zah HE3.out.symm,B6⟩
    ·have HE3:=zH (show zay ⟨id,kind,x,y,refs,tags⟩=false by rw [HE2.out,decide_eq_false kz]);have hz:x≠0∨y≠0:=(by omega);clear HE2 kz;rcases hz with hz | hz
     ·have z0:(x==0)=false:=(by rw [beq_eq_false_iff_ne];exact hz);go_wp2;go_ret;exact ⟨zah HE3.out.symm,B6⟩
     ·have z0:(y==0)=false:=(by rw [beq_eq_false_iff_ne];exact hz);by_cases hx:x=0
      ·subst hx;go_wp2;go_ret;exact ⟨zah HE3.out.symm,B6⟩
      ·have z1:(x==0)=false:=(by rw [beq_eq_false_iff_ne];exact hx);go_wp2;go_ret;exact ⟨zah HE3.out.symm,B6⟩
theorem zacu (id:ByteArray) (kind x y:Int) (vr vt:Value) (refs:List ByteArray) (tags:List TagD) (w:World) (hz:id.size≤140737488355328) (hv:zaj w vr refs) (ht:zba w vt tags) :
  Calls Tryz.prog 73 #[.agg #[.string id,.int .i64 kind,.int .i64 x,.int .i64 y,vr,vt]] w fun e w'=>e=.returned (.bool (zay ⟨id,kind,x,y,refs,tags⟩))∧Below w.heap.size w w':=by
 have hv0:=hv;obtain ⟨a,cap,rfl,_⟩:=hv;by_cases hk:1≤kind∧kind≤5
 ·cases hn:zcw id
  ·exact zacq id kind x y refs tags a _ cap vt w hz hk hn
  ·cases htg:zdq tags
   ·exact zacp id kind x y refs tags a _ cap vt w hz ht hk hn htg
   ·by_cases hl:(refs.length:Int)<zff kind
    ·exact zxw id kind x y refs tags a _ cap vt w hz ht hk hn htg rfl hl
    ·by_cases hm:2000<refs.length
     ·exact zacr id kind x y refs tags a _ cap vt w hz ht hk hn htg rfl hl hm
     ·exact zact id kind x y refs tags a _ cap vt w hz ht hv0 hk hn htg rfl hl hm
 ·exact zacs id kind x y refs tags a _ cap vt w hk
end Go.Proofs.YtibpaaajghbkoaaGreat

namespace Go.Proofs.YtibpaaajghbkoaaGreat
open Go.RowKit
def zbc:ByteArray→List ObjD→Bool
 |_,[]=>true
 |last,o :: l=>zay o && ltB last o.id && zbc o.id l
def zas (l:List ObjD):Bool:=decide (l.length≤1000000) && zbc ⟨#[]⟩ l
theorem zjz (ls:ByteArray) (l:List ObjD) (k:Nat) (o:ObjD) (ho:l[k]?=some o):zbc ls (l.drop k)=(zay o && ltB ls o.id && zbc o.id (l.drop (k+1))):=by obtain ⟨hk,rfl⟩:=List.getElem?_eq_some_iff.1 ho;rw [List.drop_eq_getElem_cons hk];rfl
set_option maxRecDepth 100000 in
set_option maxHeartbeats 2000000 in
theorem zrv (v:Value) (l:List ObjD) (w:World) (hv:zbb w v l) :
  Calls Tryz.prog 37 #[.agg #[v]] w fun e w'=>e=.returned (.bool (zas l))∧Below w.heap.size w w':=by
 obtain ⟨a,cap,rfl,hn,hc⟩:=hv;generalize hN:l.length=N at *;have HN:=zH hN;have HC:=zH hc;have VD:=zH (fun (o:ObjD) (vr vt:Value) w h1 h2 h3=>zacu o.id o.kind o.x o.y vr vt o.refs o.tags w h1 h2 h3);clear hN hc;go_enter Tryz.func37,Tryz.ntmps37;go_wp2_with fail;generalize hw1:w.alloc _=w1;have B1:=gB1 hw1;have HM:=gA11 hw1;clear hw1;have HMh:=zH HM;obtain ⟨mz,m0⟩:=rk1 HM;have HM':=zH HM;clear HM;go_wp2;clear m0;go_loopw [3,9] (fun s i wr=>∃(k:Nat) (ls:ByteArray),s=.string ls∧k≤N∧i=.int .i64 k∧zbc ⟨#[]⟩ l=zbc ls (l.drop k)∧Below w1.heap.size w1 wr) (fun _ i _=>N - (intOf i).toNat);case atStart=>exact ⟨0,⟨#[]⟩,rfl,by omega,rfl,rfl,Below.refl _ _⟩
 case round =>
  obtain ⟨k,ls,rfl,hk,rfl,hT,hbr⟩:=hrel;have HT:=zH hT;clear hT;by_cases hlt:k<N
  ·obtain ⟨o,ho⟩:∃o,l[k]?=some o:=⟨l[k]'(by rw [HN.out];exact hlt),List.getElem?_eq_getElem _⟩;obtain ⟨b,off,ha,hcell⟩:=HC.out (by omega);subst ha;obtain ⟨vr,vt,c0,c1,c2,c3,c4,c5,hr,ht,hz⟩:=((hcell k o ho).later B1).later hbr;have HR:=zH hr;have HTG:=zH ht;obtain ⟨ar,capr,evr,_⟩:=hr;obtain ⟨at1,capt,evt,_⟩:=ht;subst evr evt;have HD:=zH (zjz ls l k o ho);have bz:=zag c0;clear hcell ho;go_wp2_with fail;have BA:Below w1.heap.size w1 (wr.alloc (.cells #[.string o.id,.int .i64 o.kind,.int .i64 o.x,.int .i64 o.y,.slice ar o.refs.length capr,.slice at1 o.tags.length capt] 36)):=hbr.alloc hbr.size _;generalize hwa:wr.alloc _=wa;have BA':=gB1 hwa;have HX:=gA11 hwa;rw [hwa] at BA;clear hwa c0 c1 c2 c3 c4 c5;refine (VD.out o _ _ _ hz (HR.out.later BA') (HTG.out.later BA')).mono ?_;rintro e w2 ⟨rfl,hb2⟩;have B2:=zac BA zR hb2;have HX2:=zab hb2 HX;clear HX BA BA' hb2;obtain ⟨xz,x0,x1,x2,x3,x4,x5⟩:=rk6 HX2;have HX2':=zH HX2;clear HX2;cases hok:zay o;case false =>
    have HE:=zH (show zas l=false by unfold zas;rw [HT.out,HD.out,hok];simp);clear hok;go_wp2;go_ret;exact ⟨zah HE.out.symm,zac B1 zR B2⟩
   have LQ:=leqB o.id ls;cases hlt2:ltB ls o.id;case false =>
    have HE:=zH (show zas l=false by unfold zas;rw [HT.out,HD.out,hlt2];simp);rw [hlt2] at LQ;clear hok hlt2;go_wp2;go_ret;exact ⟨zah HE.out.symm,zac B1 zR B2⟩
   have HG:=zH (show zbc ⟨#[]⟩ l=zbc o.id (l.drop (k+1)) by rw [HT.out,HD.out,hlt2,hok];simp);rw [hlt2] at LQ;clear hok hlt2;go_wp2;go_roundw;case rel=>exact ⟨k+1,o.id,rfl,by omega,by go_num,HG.out,B2⟩
   case measure=>simp [intOf];omega
  ·obtain rfl:k=N:=(by omega);have HE:=zH (show zas l=decide (k≤1000000) by unfold zas;rw [HT.out,List.drop_of_length_le (by rw [HN.out];exact Nat.le_refl _),HN.out];simp [zbc]);have HM2:=zab hbr HMh.out;have BF:=zac B1 zR hbr;clear B1 hbr HMh;obtain ⟨mz,m0⟩:=rk1 HM2;have HM2':=zH HM2;clear HM2;go_wp2;go_ret;exact ⟨zah (by rw [HE.out,Bool.eq_iff_iff];simp;omega),BF⟩
end Go.Proofs.YtibpaaajghbkoaaGreat

namespace Go.Proofs.YtibpaaajghbkoaaGreat
open Go.RowKit Go.Lib
def RowE {α:Type} (enc:α→List Value) (k:Nat) (w:World) (v:Value) (l:List α):Prop :=
 ∃(a:Option Addr) (cap:Nat),v=.slice a l.length cap∧(0<l.length→∃b off,a=some ⟨b,off,none⟩∧∀(j:Nat) (x:α),l[j]?=some x→∀(i:Nat) (u:Value),(enc x)[i]?=some u→w.cell? ⟨b,off+j * k+i,none⟩=some u)
theorem RowE.later {α:Type} {enc:α→List Value} {k:Nat} {w w':World} {v:Value} {l:List α} (h:RowE enc k w v l) (hb:Below w.heap.size w w'):RowE enc k w' v l:=by obtain ⟨a,cap,h1,h2⟩:=h;refine ⟨a,cap,h1,fun hl=>?_⟩;obtain ⟨b,off,h3,h4⟩:=h2 hl;exact ⟨b,off,h3,fun k x hk i u hu=>cell_later hb (h4 k x hk i u hu)⟩
theorem zbs {α:Type} (enc:α→List Value) (k:Nat) (hk:∀x,(enc x).length=k):∀l:List α,(l.flatMap enc).length=l.length * k
 |[]=>by simp
 |x :: l=>by rw [List.flatMap_cons,List.length_append,zbs enc k hk l,hk,List.length_cons,Nat.add_mul,Nat.one_mul,Nat.add_comm]
theorem zey {α:Type} (enc:α→List Value) (k:Nat) (hk:∀x,(enc x).length=k):∀(l:List α) (j i:Nat) (x:α),l[j]?=some x→i<k→(l.flatMap enc)[j * k+i]?=(enc x)[i]?
 |[],j,i,x,h,_=>by simp at h
 |y :: l,0,i,x,h,hi=>by
  have hx:y=x:=by simpa using h
  subst hx;rw [List.flatMap_cons,List.getElem?_append_left (by rw [hk];omega),Nat.zero_mul,Nat.zero_add]
 |y :: l,j+1,i,x,h,hi=>by
  have hx:l[j]?=some x:=by simpa using h
  have ih:=zey enc k hk l j i x hx hi;rw [List.flatMap_cons,List.getElem?_append_right (by rw [hk,Nat.add_mul];omega),hk,←ih];congr 1;rw [Nat.add_mul];omega
theorem RowE.of_own {α:Type} {enc:α→List Value} {k:Nat} (hk:∀x,(enc x).length=k) {w:World} {base n:Nat} {e:TypeId} {v:Value} {l:List α} (hn:n=l.length) (h:w.ownsRow base e k v n (l.flatMap enc)):RowE enc k w v l:=by
 subst hn;rcases h.2 with ⟨rfl,h0⟩ | ⟨g,cap,cur,rfl,hb,hc,h1,h2,h3,h4⟩
 ·exact ⟨none,0,by rw [h0],fun hp=>by omega⟩
 ·refine ⟨some ⟨g,0,none⟩,cap,rfl,fun _=>⟨g,0,rfl,fun j x hx i u hu=>?_⟩⟩;have hi:i<k:=by rw [←hk x];exact (List.getElem?_eq_some_iff.1 hu).1
  have hj:j<l.length:=(List.getElem?_eq_some_iff.1 hx).1;have hlt:j * k+i<l.length * k:=by have:=Nat.mul_le_mul_right k (show j+1≤l.length from hj);rw [Nat.add_mul,Nat.one_mul] at this;omega
  have a:=zey enc k hk l j i x hx hi;rw [←h4,List.getElem?_take,if_pos hlt,Array.getElem?_toList,hu] at a;simp only [World.cell?,hc,Nat.zero_add,Option.isSome_none,Bool.false_eq_true,if_false];exact a
theorem zaq {w w':World} {B e size n:Nat} {v:Value} {xs:List Value} (h:w.ownsRow B e size v n xs) (hb:Below w.heap.size w w'):w'.ownsRow B e size v n xs:=by
 refine ⟨h.1,?_⟩;rcases h.2 with h0 | ⟨g,cap,cur,h1,h2,h3,h4⟩
 ·exact Or.inl h0
 ·exact Or.inr ⟨g,cap,cur,h1,h2,zab hb h3,h4⟩
theorem zec (w:World) (cs:List Value) (t:TypeId):∀(j:Nat) (u:Value),cs[j]?=some u→(w.alloc (.cells cs.toArray t)).cell? ((⟨w.heap.size,0,none⟩:Addr).add j)=some u:=by
 intro j u hj;have hadd:(⟨w.heap.size,0,none⟩:Addr).add j=⟨w.heap.size,j,none⟩:=by unfold Addr.add;split<;>simp_all
 rw [hadd,cell_of_row _ _ j _ _ _ (zan w _)];simpa using hj
theorem appended {W w1:World} {n₀:Nat} {e:TypeId} {size:Nat} {v:Value} {k:Nat} {xs:List Value} {tmp:Obj}
  (hrow:W.ownsRow n₀ e size v k xs) (hn₀:n₀≤W.heap.size) (hgrow:(W.alloc tmp).grownBy w1 v.ownBlock):Below n₀ W w1:=by
 refine ((Below.refl n₀ W).alloc hn₀ tmp).grown hgrow (by simp;omega) fun j ej=>?_;rcases hrow.2 with ⟨rfl,_⟩ | ⟨g,cap,cur,rfl,hb,_,_⟩
 ·simp [Value.ownBlock] at ej
 ·obtain rfl:g=j:=by simpa [Value.ownBlock] using ej
  exact hb
theorem zdv {w:World} {g:Nat} {cs:List Value} {t:TypeId} (h:w.heap[g]?=some (.cells cs.toArray t (0,0))):∀(j:Nat) (u:Value),cs[j]?=some u→w.cell? ((⟨g,0,none⟩:Addr).add j)=some u:=by
 intro j u hu;have hadd:(⟨g,0,none⟩:Addr).add j=⟨g,j,none⟩:=by unfold Addr.add;split<;>simp_all
 rw [hadd,cell_of_row _ _ j _ _ _ h];simpa using hu
theorem zak {w w':World} {row:Option Nat} (h:w.grownBy w' row) {b:Nat} {o:Obj} (hb:w.heap[b]?=some o) (hne:some b≠row):w'.heap[b]?=some o:=(h.block b (zaf hb) hne).trans hb
theorem zer {w:World} {a:Addr} {v:Value} {o:Obj} (h:w.cell? a=some v):(w.alloc o).cell? a=some v:=cell_later ((Below.refl _ w).alloc zR o) h
theorem RowE.of_block {α:Type} {enc:α→List Value} {k:Nat} (hk:∀x,(enc x).length=k) {w:World} {g cap:Nat} {t:TypeId} {l:List α} {cs:Array Value} (hcs:cs=(l.flatMap enc).toArray) (h:w.heap[g]?=some (.cells cs t)) (n:Nat) (hn:n=l.length):RowE enc k w (.slice (some ⟨g,0,none⟩) n cap) l:=by
 subst hn hcs;refine ⟨some ⟨g,0,none⟩,cap,rfl,fun _=>⟨g,0,rfl,fun j x hx i u hu=>?_⟩⟩;have hi:i<k:=by rw [←hk x];exact (List.getElem?_eq_some_iff.1 hu).1
 have:=cell_of_row w _ (j * k+i) _ _ _ h;rw [Nat.zero_add,this,List.getElem?_toArray,zey enc k hk l j i x hx hi,hu]
theorem zfs (w:World) (o:Obj) (cs:List Value) (t:TypeId):∀(j:Nat) (u:Value),cs[j]?=some u→((w.alloc o).alloc (.cells cs.toArray t)).cell? ((⟨w.heap.size+1,0,none⟩:Addr).add j)=some u:=by intro j u hj;have:=zec (w.alloc o) cs t j u hj;simpa using this
end Go.Proofs.YtibpaaajghbkoaaGreat

namespace Go.Proofs.YtibpaaajghbkoaaGreat
open Go.RowKit Go.Sort
theorem zri:∀(a b:List UInt8),Op.bytesLess a b=false→Op.bytesLess b a=false→a=b
 |[],[],_,_=>rfl
 |[],_ :: _,h,_=>by simp [Op.bytesLess] at h
 |_ :: _,[],_,h=>by simp [Op.bytesLess] at h
 |x :: a,y :: b,h1,h2=>by
  simp only [Op.bytesLess] at h1 h2;by_cases hxy:x=y
  ·subst hxy;simp at h1 h2;rw [zri a b h1 h2]
  ·have hlt:x<y∨y<x:=by
    rcases Nat.lt_trichotomy x.toNat y.toNat with h | h | h
    ·exact Or.inl h
    ·exact absurd (UInt8.toNat_inj.1 h) hxy
    ·exact Or.inr h
   rcases hlt with h | h<;>simp_all
theorem zep {a b:ByteArray} (h1:ltB a b=false) (h2:ltB b a=false):a=b:=by have:=zri a.toList b.toList h1 h2;rw [ByteArray.toList_eq,ByteArray.toList_eq] at this;exact ByteArray.ext (Array.toList_inj.mp this)
theorem zans (a b:ByteArray):ltB a b=ltStr a.toList b.toList:=bytesLess_eq _ _
def cmpS (a b:ByteArray):Int:=if ltB a b then -1 else if ltB b a then 1 else 0
def posO (id:ByteArray):List ObjD→Option Nat
 |[]=>none
 |o :: l=>if o.id=id then some 0 else (posO id l).map (·+1)
theorem zdt (id:ByteArray):∀(l:List ObjD) (i:Nat),posO id l=some i→∃o,l[i]?=some o∧o.id=id
 |[],i,h=>by cases h
 |o :: l,i,h=>by
  rw [posO] at h;split at h
  ·rename_i e;injection h with h;subst h;exact ⟨o,rfl,e⟩
  ·cases hp:posO id l with
   |none=>rw [hp] at h;cases h
   |some j =>rw [hp] at h;simp only [Option.map_some] at h;injection h with h;subst h;simpa using zdt id l j hp
theorem zvw (id:ByteArray):∀(l:List ObjD),posO id l=none→∀o∈l,o.id≠id
 |[],_,o,ho=>by cases ho
 |x :: l,h,o,ho=>by
  rw [posO] at h;split at h
  ·cases h
  ·rename_i e;cases hp:posO id l with
   |some j=>rw [hp] at h;cases h
   |none =>
    rcases List.mem_cons.1 ho with rfl | ho
    ·exact e
    ·exact zvw id l hp o ho
theorem zdz {a b c:ByteArray} (h1:ltB a b=true) (h2:ltB b c=true):ltB a c=true:=by rw [zans] at *;exact Sort.swo_ltStr.trans _ _ _ h1 h2
theorem zbp (a:ByteArray):ltB a a=false:=by rw [zans];exact Sort.swo_ltStr.irrefl _
theorem zht:∀(l:List ObjD) (last:ByteArray),zbc last l=true→(∀o∈l,ltB last o.id=true)∧∀(i j:Nat) (x y:ObjD),i<j→l[i]?=some x→l[j]?=some y→ltB x.id y.id=true
 |[],_,_=>⟨fun o h=>(by cases h),fun i j x y _ h _=>(by simp at h)⟩
 |o :: l,last,h=>by
  simp only [zbc,Bool.and_eq_true] at h;obtain ⟨⟨_,h1⟩,h2⟩:=h;obtain ⟨ha,hb⟩:=zht l o.id h2;refine ⟨fun x hx=>?_,fun i j x y hij hx hy=>?_⟩
  ·rcases List.mem_cons.1 hx with rfl | hx
   ·exact h1
   ·exact zdz h1 (ha x hx)
  ·cases j with
   |zero=>omega
   |succ j =>
    have hy':l[j]?=some y:=(by simpa using hy);cases i with
    |zero =>have:o=x:=(by simpa using hx);subst this;exact ha y (zM hy')
    |succ i=>exact hb i j x y (by omega) (by simpa using hx) hy'
theorem zxh {l:List ObjD} (hs:∀(i j:Nat) (x y:ObjD),i<j→l[i]?=some x→l[j]?=some y→ltB x.id y.id=true) {id:ByteArray} {lo:Nat} (h1:∀t o,t<lo→l[t]?=some o→ltB o.id id=true) (h2:∀t o,lo≤t→l[t]?=some o→ltB o.id id=false) :
  (∀o,l[lo]?=some o→o.id=id→posO id l=some lo)∧(∀j,posO id l=some j→j=lo∧∃o,l[lo]?=some o∧o.id=id):=by
 have hb:∀j,posO id l=some j→j=lo∧∃o,l[lo]?=some o∧o.id=id:=by
  intro j hj;obtain ⟨o,ho,e⟩:=zdt id l j hj;have hge:lo≤j:=by
   rcases Nat.lt_or_ge j lo with h | h
   ·have:=h1 j o h ho;rw [e,zbp] at this;cases this
   ·exact h
  rcases Nat.lt_or_eq_of_le hge with h | h
  ·have hjl:=(List.getElem?_eq_some_iff.1 ho).1;have hlo:l[lo]?=some (l[lo]'(by omega)):=List.getElem?_eq_getElem _;have a:=hs lo j _ o h hlo ho;have b:=h2 lo _ zR hlo;rw [e] at a;rw [a] at b;cases b
  ·subst h;exact ⟨rfl,o,ho,e⟩
 refine ⟨fun o ho e=>?_,hb⟩;cases hp:posO id l with
 |none=>exact absurd e (zvw id l hp o (zM ho))
 |some j=>rw [(hb j hp).1]
def zbi (l:List ObjD) (r:ByteArray):Option (Int × Int) :=
 match posO r l with
 |some k=>match l[k]? with
  |some o=>if o.kind=1 then some (o.x,o.y) else none
  |none=>none
 |none=>none
theorem zabc (l:List ObjD) (refs:List ByteArray) (k:Nat) (r:ByteArray) (hr:refs[k]?=some r) (hp:zbi l r=none):refs.all (fun r=>(zbi l r).isSome)=false:=by rw [List.all_eq_false];exact ⟨r,zM hr,by simp [hp]⟩
theorem zaha:∀(l:List ObjD) (last:ByteArray),zbc last l=true→∀o∈l,zay o=true
 |[],_,_,o,ho=>by cases ho
 |x :: l,last,h,o,ho=>by
  simp only [zbc,Bool.and_eq_true] at h;rcases List.mem_cons.1 ho with rfl | ho
  ·exact h.1.1
  ·exact zaha l x.id h.2 o ho
theorem zda {l:List ObjD} (h:zas l=true) {o:ObjD} (ho:o∈l):zay o=true:=by simp only [zas,Bool.and_eq_true] at h;exact zaha l _ h.2 o ho
theorem ztq {o:ObjD} (h:zay o=true):o.refs.length≤2000:=by simp only [zay,Bool.and_eq_true,decide_eq_true_eq] at h;exact h.1.1.2
theorem zel (l:List ObjD) (r:ByteArray) (h:posO r l=none):zbi l r=none:=by unfold zbi;rw [h]
theorem zfl (l:List ObjD) (r:ByteArray) (k:Nat) (h:posO r l=some k) (o:ObjD) (ho:l[k]?=some o):zbi l r=if o.kind=1 then some (o.x,o.y) else none:=by unfold zbi;rw [h];simp only [ho]
theorem zcs {l:List ObjD} (h:zas l=true):l.length≤1000000∧∀(i j:Nat) (x y:ObjD),i<j→l[i]?=some x→l[j]?=some y→ltB x.id y.id=true:=by simp only [zas,Bool.and_eq_true,decide_eq_true_eq] at h;exact ⟨h.1,(zht l _ h.2).2⟩
def idxO (id:ByteArray) (l:List ObjD):Int:=match posO id l with
 |some i=>i
 |none=>-1
theorem zago (id:ByteArray):∀(l:List ObjD) (k:Nat) (o:ObjD),l[k]?=some o→(∀(j:Nat) (y:ObjD),j<k→l[j]?=some y→y.id≠id)→o.id=id→posO id l=some k
 |x :: l,0,o,hk,_,he=>by
  have:x=o:=by simpa using hk
  subst this;rw [posO,if_pos he]
 |x :: l,k+1,o,hk,hn,he=>by have h0:x.id≠id:=hn 0 x (by omega) rfl;rw [posO,if_neg h0,zago id l k o (by simpa using hk) (fun j y hj hy=>hn (j+1) y (by omega) (by simpa using hy)) he];rfl
theorem zanq (id:ByteArray):∀(l:List ObjD),(∀(j:Nat) (y:ObjD),l[j]?=some y→y.id≠id)→posO id l=none
 |[],_=>rfl
 |x :: l,hn=>by rw [posO,if_neg (hn 0 x rfl),zanq id l (fun j y hy=>hn (j+1) y (by simpa using hy))];rfl
theorem zpe {l:List ObjD} (h:zas l=true) {k:Nat} {o:ObjD} (ho:l[k]?=some o):posO o.id l=some k:=by
 refine zago o.id l k o ho (fun j y hj hy=>?_) rfl;intro e;have h2:zbc ⟨#[]⟩ l=true:=by unfold zas at h;rw [Bool.and_eq_true] at h;exact h.2
 have:=(zht l _ h2).2 j k y o hj hy ho;rw [e,zbp] at this;cases this
def zfn (l:List ObjD) (o:ObjD):Bool:=o.refs.all fun r=>(zbi l r).isSome
theorem zna {o:ObjD} (h:zay o=true) (hk:o.kind=1):o.refs=[]:=by simp only [zay,Bool.and_eq_true] at h;have h2:=h.2;rw [if_pos hk,Bool.and_eq_true,decide_eq_true_eq] at h2;exact List.length_eq_zero_iff.1 h2.1
theorem zvr (l:List ObjD) (refs:List ByteArray) (k:Nat) (r:ByteArray) (hr:refs[k]?=some r) (h:∀s∈refs.take k,(zbi l s).isSome=true) (hp:(zbi l r).isSome=true):∀s∈refs.take (k+1),(zbi l s).isSome=true:=by
 obtain ⟨hk,rfl⟩:=List.getElem?_eq_some_iff.1 hr;rw [List.take_succ_eq_append_getElem hk];intro s hs;rcases List.mem_append.1 hs with hs | hs
 ·exact h s hs
 ·rw [List.mem_singleton.1 hs];exact hp
theorem zaj.of_block {w:World} {g cap:Nat} {t:TypeId} {l:List ByteArray} {cs:Array Value} (hcs:cs=(l.map Value.string).toArray) (h:w.heap[g]?=some (.cells cs t)) (hl:l.length≤140737488355328) (hz:∀s∈l,s.size≤140737488355328) (n:Nat) (hn:n=l.length):zaj w (.slice (some ⟨g,0,none⟩) n cap) l:=by subst hn hcs;refine ⟨some ⟨g,0,none⟩,cap,rfl,hl,hz,fun _=>⟨g,0,rfl,fun i s hs=>?_⟩⟩;have:=cell_of_row w _ i _ _ _ h;rw [Nat.zero_add,this,List.getElem?_toArray,List.getElem?_map,hs];rfl
theorem zaj.nil (w:World):zaj w (.slice none 0 0) []:=⟨none,0,rfl,by simp,by simp,fun h=>by simp at h⟩
theorem zba.nil (w:World):zba w (.slice none 0 0) []:=⟨none,0,rfl,by simp,by simp,fun h=>by simp at h⟩
theorem zba.of_block {w:World} {g cap:Nat} {t:TypeId} {l:List TagD} {cs:Array Value} (hcs:cs=(l.flatMap fun t=>[Value.string t.key,Value.string t.val]).toArray) (h:w.heap[g]?=some (.cells cs t)) (hl:l.length≤140737488355328) (hz:∀t∈l,t.key.size≤140737488355328∧t.val.size≤140737488355328) (n:Nat) (hn:n=l.length):zba w (.slice (some ⟨g,0,none⟩) n cap) l:=by subst hn hcs;refine ⟨some ⟨g,0,none⟩,cap,rfl,hl,hz,fun _=>⟨g,0,rfl,fun i s hs=>?_⟩⟩;have c0:=cell_of_row w _ (i * 2) _ _ _ h;have c1:=cell_of_row w _ (i * 2+1) _ _ _ h;have f0:=zey (fun t:TagD=>[Value.string t.key,Value.string t.val]) 2 (fun _=>rfl) l i 0 s hs (by omega);have f1:=zey (fun t:TagD=>[Value.string t.key,Value.string t.val]) 2 (fun _=>rfl) l i 1 s hs (by omega);rw [Nat.zero_add];rw [List.getElem?_toArray] at c0 c1;exact ⟨c0.trans f0,c1.trans f1⟩
def zkh (l:List ObjD):Nat→ByteArray
 |0=>⟨#[]⟩
 |m+1=>((l[m]?).map (·.id)).getD ⟨#[]⟩
theorem zabh {o:ObjD} (h:zay o=true):zcw o.id=true:=by simp only [zay,Bool.and_eq_true,decide_eq_true_eq] at h;exact h.1.1.1.1.1.2
end Go.Proofs.YtibpaaajghbkoaaGreat
