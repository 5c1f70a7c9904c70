/-       -/
import Derived.Test.YtibpaaajghbkoaaGreatWAb
import Derived.ProofKit
import Derived.OpenShut
import Derived.SizedLaws
import Derived.Deep.SlicePairs
import Derived.Lib.SmallJoins
import Derived.Test.YtibpaaajghbkoaaGreatChecked
import Derived.Test.YtibpaaajghbkoaaGreatRows
import Derived.Maps.OwnSet
import Derived.Maps.OwnOps
import Derived.Maps.Views
import Derived.StringKeys
namespace Go.Proofs.YtibpaaajghbkoaaGreat
open Go.RowKit
def zaj (w:World) (v:Value) (l:List ByteArray):Prop :=
 ∃(a:Option Addr) (cap:Nat),v=.slice a l.length cap∧l.length≤140737488355328∧(∀s∈l,s.size≤140737488355328) ∧
  (0<l.length→∃b off,a=some ⟨b,off,none⟩∧∀(i:Nat) (s:ByteArray),l[i]?=some s→w.cell? ⟨b,off+i,none⟩=some (.string s))
theorem zaj.later {w w':World} {v:Value} {l:List ByteArray} (h:zaj w v l) (hb:Below w.heap.size w w'):zaj w' v l:=by obtain ⟨a,cap,h1,h2,h3,h4⟩:=h;refine ⟨a,cap,h1,h2,h3,fun h0=>?_⟩;obtain ⟨b,off,e,hc⟩:=h4 h0;exact ⟨b,off,e,fun i s hi=>cell_later hb (hc i s hi)⟩
def zba (w:World) (v:Value) (l:List TagD):Prop :=
 ∃(a:Option Addr) (cap:Nat),v=.slice a l.length cap∧l.length≤140737488355328∧(∀t∈l,t.key.size≤140737488355328∧t.val.size≤140737488355328) ∧
  (0<l.length→∃b off,a=some ⟨b,off,none⟩∧∀(i:Nat) (t:TagD),l[i]?=some t→w.cell? ⟨b,off+i * 2,none⟩=some (.string t.key)∧w.cell? ⟨b,off+i * 2+1,none⟩=some (.string t.val))
theorem zba.later {w w':World} {v:Value} {l:List TagD} (h:zba w v l) (hb:Below w.heap.size w w'):zba w' v l:=by obtain ⟨a,cap,h1,h2,h3,h4⟩:=h;refine ⟨a,cap,h1,h2,h3,fun h0=>?_⟩;obtain ⟨b,off,e,hc⟩:=h4 h0;exact ⟨b,off,e,fun i s hi=>⟨cell_later hb (hc i s hi).1,cell_later hb (hc i s hi).2⟩⟩
theorem zag {w:World} {b o:Nat} {v:Value} (h:w.cell? ⟨b,o,none⟩=some v):b<w.heap.size:=by
 rcases Nat.lt_or_ge b w.heap.size with h' | h'
 ·exact h'
 ·simp [World.cell?,Array.getElem?_eq_none h'] at h
theorem zmp (ls:ByteArray) (l:List TagD) (k:Nat) (t:TagD) (ht:l[k]?=some t):zbv ls (l.drop k)=(zcw t.key && ltB ls t.key && decide (0<t.val.size∧t.val.size≤200) && zbv t.key (l.drop (k+1))):=by obtain ⟨hk,rfl⟩:=List.getElem?_eq_some_iff.1 ht;rw [List.drop_eq_getElem_cons hk];rfl
set_option maxRecDepth 100000 in
set_option maxHeartbeats 1000000 in
theorem zpa (v:Value) (l:List TagD) (w:World) (h:zba w v l) :
  Calls Tryz.prog 130 #[v] w fun e w'=>e=.returned (.bool (zdq l))∧Below w.heap.size w w':=by
 obtain ⟨a,cap,rfl,hn,hsz,hc⟩:=h;generalize hN:l.length=N at *;have HN:=zH hN;have HZ:=zH hsz;have HC:=zH hc;clear hN hsz hc;go_enter Tryz.func130,Tryz.ntmps130;go_wp2;go_loopw [3,8] (fun s i wr=>∃(k:Nat) (ls:ByteArray),k≤N∧i=.int .i64 k∧s=.string ls∧zbv ⟨#[]⟩ l=zbv ls (l.drop k)∧Below w.heap.size w wr) (fun _ i _=>N - (intOf i).toNat);case atStart=>exact ⟨0,⟨#[]⟩,by omega,rfl,rfl,rfl,Below.refl _ _⟩
 case round =>
  obtain ⟨k,ls,hk,rfl,rfl,hT,hbr⟩:=hrel;have HT:=zH hT;clear hT;by_cases hlt:k<N
  ·obtain ⟨t,ht⟩:∃t,l[k]?=some t:=⟨l[k]'(by rw [HN.out];exact hlt),List.getElem?_eq_getElem _⟩;obtain ⟨b,off,ha,hcell⟩:=HC.out (by omega);subst ha;have hz:=HZ.out t (zM ht);obtain ⟨z1,z2⟩:=hz;have c0:=cell_later hbr (hcell k t ht).1;have c1:=cell_later hbr (hcell k t ht).2;have bz:=zag c0;have HD:=zH (zmp ls l k t ht);clear hcell ht;go_wp2_with fail;refine (zgb t.key z1 _).mono ?_;rintro e w2 ⟨rfl,hb2⟩;have B2:=zac (hbr.alloc hbr.size (.cells #[.string t.key,.string t.val] 74)) zR hb2;have HB:=zab hb2 (zan wr (.cells #[.string t.key,.string t.val] 74));clear c0 c1;obtain ⟨cz,c0,c1⟩:=rk2 HB;have HB':=zH HB;clear HB;clear hb2 HB';cases hnm:zcw t.key;case false =>
    have HR:=zH (show zbv ⟨#[]⟩ l=false by rw [HT.out,HD.out,hnm];rfl);clear hnm;go_wp2;go_ret;exact ⟨zah (by rw [zdq,HR.out];simp),B2⟩
   have LQ:=leqB t.key ls;cases hlt2:ltB ls t.key;case false =>
    have HR:=zH (show zbv ⟨#[]⟩ l=false by rw [HT.out,HD.out,hlt2];simp);rw [hlt2] at LQ;clear hnm hlt2;go_wp2;go_ret;exact ⟨zah (by rw [zdq,HR.out];simp),B2⟩
   rw [hlt2] at LQ;by_cases v0:0<t.val.size;case neg =>
    have e0:t.val.toList=[]:=zafo (by omega);have e1:t.val.toList.isEmpty=true:=(by rw [e0];rfl);have HR:=zH (show zbv ⟨#[]⟩ l=false by rw [HT.out,HD.out];simp [v0]);clear hnm hlt2 e0;go_wp2;go_ret;exact ⟨zah (by rw [zdq,HR.out];simp),B2⟩
   have e1:t.val.toList.isEmpty=false:=zbo v0;have e0:¬t.val.toList=[]:=by intro e;rw [e] at e1;simp at e1
   by_cases v1:t.val.size≤200;case neg =>
    have HR:=zH (show zbv ⟨#[]⟩ l=false by rw [HT.out,HD.out];simp [v1]);clear hnm hlt2;go_wp2;go_ret;exact ⟨zah (by rw [zdq,HR.out];simp),B2⟩
   have HG:=zH (show zbv ⟨#[]⟩ l=zbv t.key (l.drop (k+1)) by rw [HT.out,HD.out,hnm,hlt2];simp [v0,v1]);clear hnm hlt2;go_wp2;go_roundw;case rel=>exact ⟨k+1,t.key,by omega,by go_num,rfl,HG.out,B2⟩
   case measure=>simp [intOf];omega
  ·obtain rfl:k=N:=(by omega);have HE:=zH (show zdq l=decide (k≤60) by
    rw [zdq,HT.out,HN.out,List.drop_of_length_le (by rw [HN.out];exact Nat.le_refl _)]
    simp [zbv])
   by_cases h6:k≤60
   ·go_wp2;go_ret;exact ⟨zah (by rw [HE.out];simp;omega),hbr⟩
   ·go_wp2;go_ret;exact ⟨zah (by rw [HE.out];simp;omega),hbr⟩
theorem zpz (s:ByteArray) (hs:s.size≤140737488355328) (w:World) :
  Calls Tryz.prog 168 #[.string s] w fun e w'=>e=.returned (.bool (zcw s))∧w'=w :=
 (zix s hs w).mono fun _ _ h=>⟨h.1,h.2.symm⟩
def zub (l:List TagD):Nat→ByteArray
 |0=>⟨#[]⟩
 |m+1=>((l[m]?).map (·.key)).getD ⟨#[]⟩
theorem ztz {s:ByteArray} (h:zcw s=true):ltB ⟨#[]⟩ s=true:=by
 have h0:0<s.data.toList.length:=by simp only [zcw,ztv,Bool.and_eq_true,decide_eq_true_eq] at h;exact h.1.1
 rw [ltB,ByteArray.toList_eq,ByteArray.toList_eq];cases hs:s.data.toList with
 |nil=>rw [hs] at h0;simp at h0
 |cons c r=>simp [Op.bytesLess]
set_option maxRecDepth 100000 in
set_option maxHeartbeats 1000000 in
theorem zvl (v:Value) (l:List TagD) (w:World) (h:zba w v l) :
  Calls Tryz.prog 170 #[v] w fun e w'=>e=.returned (.bool (zdq l))∧Below w.heap.size w w':=by
 obtain ⟨a,cap,rfl,hn,hsz,hc⟩:=h;generalize hN:l.length=N at *;have HN:=zH hN;have HZ:=zH hsz;have HC:=zH hc;clear hN hsz hc;by_cases h6:60<N
 ·have HE:=zH (show zdq l=false by rw [zdq,HN.out];simp;omega);go_enter Tryz.func170,Tryz.ntmps170;go_wp2;go_ret;exact ⟨zah HE.out.symm,Below.refl _ _⟩
 have HL:=zH (show decide (N≤60)=true by rw [decide_eq_true_eq];omega);go_enter Tryz.func170,Tryz.ntmps170;go_wp2;go_loopw [3] (fun i wr=>∃k:Nat,k≤N∧i=.int .i64 k∧zbv ⟨#[]⟩ l=zbv (zub l k) (l.drop k)∧Below w.heap.size w wr) (fun i _=>N - (intOf i).toNat);case atStart=>exact ⟨0,by omega,rfl,rfl,Below.refl _ _⟩
 case round =>
  obtain ⟨k,hk,rfl,hT,hbr⟩:=hrel;have HT:=zH hT;clear hT;by_cases hlt:k<N
  ·obtain ⟨t,ht⟩:∃t,l[k]?=some t:=⟨l[k]'(by rw [HN.out];exact hlt),List.getElem?_eq_getElem _⟩;obtain ⟨b,off,ha,hcell⟩:=HC.out (by omega);subst ha;obtain ⟨z1,z2⟩:=HZ.out t (zM ht);have c0:=cell_later hbr (hcell k t ht).1;have c1:=cell_later hbr (hcell k t ht).2;have bz:=zag c0;have HD:=zH (zmp (zub l k) l k t ht);have HK:=zH (show zub l (k+1)=t.key by simp [zub,ht]);have RN:=zH (fun w=>zpz t.key z1 w);have HCL:=zH hcell;clear hcell ht;cases hnm:zcw t.key;case false =>
    have HR:=zH (show zbv ⟨#[]⟩ l=false by rw [HT.out,HD.out,hnm];rfl);rw [hnm] at RN;clear hnm;go_wp2;go_quiet ((go_at_call 168;exact Calls.quiet_of_same (RN.out _)));go_wp2;go_ret;exact ⟨zah (by rw [zdq,HR.out];simp),hbr.drewN'⟩
   rw [hnm] at RN;by_cases v0:0<t.val.size;case neg =>
    have HR:=zH (show zbv ⟨#[]⟩ l=false by rw [HT.out,HD.out];simp [v0]);have D1:decide ((t.val.size:Int)<1)=true:=(by rw [decide_eq_true_eq];omega);clear hnm;go_wp2;go_quiet ((go_at_call 168;exact Calls.quiet_of_same (RN.out _)));go_wp2;go_ret;exact ⟨zah (by rw [zdq,HR.out];simp),hbr.drewN'⟩
   have D1:decide ((t.val.size:Int)<1)=false:=(by rw [decide_eq_false_iff_not];omega);by_cases v1:t.val.size≤200;case neg =>
    have HR:=zH (show zbv ⟨#[]⟩ l=false by rw [HT.out,HD.out];simp [v1]);have D2:decide ((200:Int)<t.val.size)=true:=(by rw [decide_eq_true_eq];omega);clear hnm;go_wp2;go_quiet ((go_at_call 168;exact Calls.quiet_of_same (RN.out _)));go_wp2;go_ret;exact ⟨zah (by rw [zdq,HR.out];simp),hbr.drewN'⟩
   have D2:decide ((200:Int)<t.val.size)=false:=(by rw [decide_eq_false_iff_not];omega);rcases k with _ | m
   ·have HG:=zH (show zbv ⟨#[]⟩ l=zbv (zub l (0+1)) (l.drop (0+1)) by
     rw [HT.out,HD.out,hnm,HK.out]
     have:ltB (zub l 0) t.key=true:=ztz hnm
     rw [this];simp [v0,v1])
    clear hnm;simp only [Nat.zero_mul,Nat.add_zero] at c0 c1;go_wp2;go_quiet ((go_at_call 168;exact Calls.quiet_of_same (RN.out _)));go_wp2;go_roundw;case rel=>exact ⟨0+1,by omega,by go_num,HG.out,hbr.drewN'⟩
    case measure=>simp [intOf];try omega
   ·obtain ⟨p,hp⟩:∃p,l[m]?=some p:=⟨l[m]'(by rw [HN.out];omega),List.getElem?_eq_getElem _⟩;have p0:=cell_later hbr (HCL.out m p hp).1;have HKP:=zH (show zub l (m+1)=p.key by simp [zub,hp]);have WM:IntKind.i64.wrap (((m+1:Nat):Int) - 1)=(m:Int):=(IntWalk.i64_in _ (by omega)).trans (by omega);have WG:decide ((0:Int)<((m+1:Nat):Int))=true:=(by rw [decide_eq_true_eq];omega);clear hp;cases hlt2:ltB p.key t.key;case false =>
     have HR:=zH (show zbv ⟨#[]⟩ l=false by rw [HT.out,HD.out,HKP.out,hlt2];simp);have LQ:Op.bytesLess p.key.toList t.key.toList=false:=hlt2;clear hnm hlt2;go_wp2;go_quiet ((go_at_call 168;exact Calls.quiet_of_same (RN.out _)));go_wp2;go_ret;exact ⟨zah (by rw [zdq,HR.out];simp),hbr.drewN'⟩
    have LQ:Op.bytesLess p.key.toList t.key.toList=true:=hlt2;have HG:=zH (show zbv ⟨#[]⟩ l=zbv (zub l (m+1+1)) (l.drop (m+1+1)) by rw [HT.out,HD.out,hnm,HK.out,HKP.out,hlt2];simp [v0,v1])
    clear hnm hlt2;go_wp2;go_quiet ((go_at_call 168;exact Calls.quiet_of_same (RN.out _)));go_wp2;go_roundw;case rel=>exact ⟨m+1+1,by omega,by go_num,HG.out,hbr.drewN'⟩
    case measure=>simp [intOf];try omega
  ·obtain rfl:k=N:=(by omega);have HE:=zH (show zdq l=true by
    rw [zdq,HT.out,HN.out,HL.out,List.drop_of_length_le (by rw [HN.out];exact Nat.le_refl _)]
    simp [zbv])
   go_wp2;go_ret;exact ⟨zah HE.out.symm,hbr⟩
end Go.Proofs.YtibpaaajghbkoaaGreat

namespace Go.Proofs.YtibpaaajghbkoaaGreat
open Go.RowKit
def zxo (w:World) (b off:Nat) (o:ObjD):Prop :=
 ∃(vr vt:Value),w.cell? ⟨b,off,none⟩=some (.string o.id)∧w.cell? ⟨b,off+1,none⟩=some (.int .i64 o.kind)∧w.cell? ⟨b,off+2,none⟩=some (.int .i64 o.x) ∧
  w.cell? ⟨b,off+3,none⟩=some (.int .i64 o.y)∧w.cell? ⟨b,off+4,none⟩=some vr∧w.cell? ⟨b,off+5,none⟩=some vt ∧
  zaj w vr o.refs∧zba w vt o.tags∧o.id.size≤140737488355328
theorem zxo.later {w w':World} {b off:Nat} {o:ObjD} (h:zxo w b off o) (hb:Below w.heap.size w w'):zxo w' b off o:=by obtain ⟨vr,vt,h0,h1,h2,h3,h4,h5,hr,ht,hz⟩:=h;exact ⟨vr,vt,cell_later hb h0,cell_later hb h1,cell_later hb h2,cell_later hb h3,cell_later hb h4,cell_later hb h5,hr.later hb,ht.later hb,hz⟩
def zbb (w:World) (v:Value) (l:List ObjD):Prop :=
 ∃(a:Option Addr) (cap:Nat),v=.slice a l.length cap∧l.length≤140737488355328 ∧
  (0<l.length→∃b off,a=some ⟨b,off,none⟩∧∀(i:Nat) (o:ObjD),l[i]?=some o→zxo w b (off+i * 6) o)
theorem zbb.later {w w':World} {v:Value} {l:List ObjD} (h:zbb w v l) (hb:Below w.heap.size w w'):zbb w' v l:=by obtain ⟨a,cap,h1,h2,h3⟩:=h;refine ⟨a,cap,h1,h2,fun h0=>?_⟩;obtain ⟨b,off,e,hc⟩:=h3 h0;exact ⟨b,off,e,fun i o hi=>(hc i o hi).later hb⟩
end Go.Proofs.YtibpaaajghbkoaaGreat

namespace Go.Proofs.YtibpaaajghbkoaaGreat
open Go.ChangeShapes Go.WideShapes Go.ChangeAt Go.RowKit Go.Joins
theorem own:ownKnob Tryz.prog.godebug=none:=by kernel_rfl
theorem laidOut:laidOutB Tryz.prog=true:=by kernel_rfl
theorem zaey:Tryz.prog.cellsOf 33=2:=by kernel_rfl
theorem zace:Tryz.prog.cellsOf 3=1:=by kernel_rfl
theorem znl:Tryz.prog.cellsOf 9=1:=by kernel_rfl
theorem zhm {W:World} {a:Addr} {v:Value} (h:W.cell? a=some v):a=⟨a.block,a.off,none⟩:=by
 obtain ⟨b,o,sp⟩:=a;cases sp with
 |none=>rfl
 |some x =>unfold World.cell? at h;simp at h;split at h<;>simp at h
instance:Inhabited TagD:=⟨⟨⟨#[]⟩,⟨#[]⟩⟩⟩
instance:Inhabited ObjD:=⟨⟨⟨#[]⟩,0,0,0,[],[]⟩⟩
def zmk {H:Type} (t:TypeId) (d:DataW H):Prop:=∀n∈d.weights Tryz.prog t,n≤reachBytes
theorem light_of {H:Type} {ts:List TypeId} {ds:List (DataW H)} (h:(DataW.weightsEach Tryz.prog ts ds).all (·≤reachBytes)=true) {j:Nat} {t:TypeId} {d:DataW H} (ht:ts[j]?=some t) (hd:ds[j]?=some d):zmk t d:=by intro n hn;simpa using List.all_eq_true.1 h n (DataW.weights_mem_each ht hd n hn)
theorem zlw {H:Type} {P:Program} {e:TypeId}:∀{l:List (DataW H)} {d:DataW H},d∈l→∀n∈d.weights P e,n∈DataW.weightsAll P e l
 |x :: l,d,hd,n,hn=>by
  simp only [DataW.weightsAll,List.mem_append];rcases List.mem_cons.1 hd with rfl | hd
  ·exact Or.inl hn
  ·exact Or.inr (zlw hd n hn)
theorem zoj {H:Type} {t e:TypeId} {el sp:List (DataW H)} (hu:Tryz.prog.underlying t=some (.slice e)) (h:zmk t (.slice el sp)) {d:DataW H} (hd:d∈el):zmk e d:=by intro n hn;refine h n ?_;simp only [DataW.weights,hu,List.mem_cons,List.mem_append];exact Or.inr (Or.inl (zlw hd n hn))
theorem zqs {H:Type} {t e:TypeId} {el sp:List (DataW H)} (hu:Tryz.prog.underlying t=some (.slice e)) (hb:1≤Tryz.prog.bytesOf e) (h:zmk t (.slice el sp)):el.length≤140737488355328:=by have:=h ((el.length+sp.length) * Tryz.prog.bytesOf e) (by simp [DataW.weights,hu]);have h2:el.length * 1≤(el.length+sp.length) * Tryz.prog.bytesOf e:=Nat.mul_le_mul (by omega) hb;have h3:reachBytes<2 ^ 47:=reachBytes_lt;omega
theorem zhj {H:Type} {t:TypeId} {fs:Array Field} {ps:List (DataW H)} (hu:Tryz.prog.underlying t=some (.struct fs)) (h:zmk t (.agg ps)) {j:Nat} {e:TypeId} {d:DataW H} (he:(fs.toList.map (·.type))[j]?=some e) (hd:ps[j]?=some d):zmk e d:=by intro n hn;refine h n ?_;simp only [DataW.weights,hu];exact DataW.weights_mem_each he hd n hn
theorem zahz {H:Type} {t:TypeId} {bs:List UInt8} (h:zmk (H:=H) t (.lit (.string bs))):bs.length≤140737488355328:=by have:=h bs.length (by simp [DataW.weights]);have h3:reachBytes<2 ^ 47:=reachBytes_lt;omega
section
variable {H:Type} {enc:TypeId × Value→H} {W:World}
abbrev zafg (enc:TypeId × Value→H) (W:World) (n:Nat) (t:TypeId) (cs:List Value) (y:DataW H × List MemPlace):Prop:=DataW.trod enc Tryz.prog W 0 (fun _=>true) true n t cs=some y
theorem zpi {n:Nat} {c:Value} {y:DataW H × List MemPlace} (h:zafg enc W n 9 [c] y) (hl:zmk 9 y.1):∃s:ByteArray,c=.string s∧s.size≤140737488355328:=by obtain ⟨s,e,hx,-⟩:=DataW.trod_string Tryz.underlying9 h;simp at e;rw [hx] at hl;exact ⟨s,e,zahz hl⟩
set_option maxRecDepth 100000 in
theorem zagw {n:Nat} {c:Value} {y:DataW H × List MemPlace} (h:zafg enc W n 31 [c] y) (hl:zmk 31 y.1):∃l:List ByteArray,zaj W c l:=by
 rcases Go.Deep.open_slice1 Tryz.underlying31 znl h with ⟨hcs,-⟩ | ⟨a,len,cap,m,k,V,D,Pl,hcs,-,hle,hm,hmm,hx,hel⟩
 ·simp at hcs;subst hcs;exact ⟨[],none,0,rfl,by simp,by simp,fun h=>by simp at h⟩
 ·simp at hcs;subst hcs;have hlm:len≤m:=by rw [hmm];split<;>omega
  have hx1:y.1=.slice ((List.range len).map D) ((List.range (m - len)).map fun j=>D (len+j)):=by rw [hx]
  rw [hx1] at hl;have each:∀i,i<len→∃s:ByteArray,W.cell? (a.add i)=some (.string s)∧s.size≤140737488355328:=by intro i hi;obtain ⟨h1,h2⟩:=hel i (by omega);obtain ⟨s,hs,hz⟩:=zpi h2 (zoj Tryz.underlying31 hl (List.mem_map.2 ⟨i,List.mem_range.2 hi,rfl⟩));exact ⟨s,by rw [h1,hs],hz⟩
  obtain ⟨f,hf⟩:=Go.Deep.choose_lt each;have hlen:=zqs Tryz.underlying31 (of_decide_eq_true (by kernel_rfl)) hl;refine ⟨(List.range len).map f,some a,cap,by simp,by simpa using hlen,fun s hs=>?_,fun h0=>?_⟩
  ·obtain ⟨i,hi,rfl⟩:=List.mem_map.1 hs;exact (hf i (List.mem_range.1 hi)).2
  ·have hp0:=(hf 0 (by simpa using h0)).1;rw [show a.add 0=a by unfold Addr.add;simp] at hp0;refine ⟨a.block,a.off,by rw [←zhm hp0],fun i s hi=>?_⟩;have hil:i<len:=(by have:=(List.getElem?_eq_some_iff.1 hi).1;simpa using this);have hfs:f i=s:=(by simpa [hil] using hi);have:=(hf i hil).1;rw [zhm hp0,Go.WideShapes.add_plain,hfs] at this;exact this
set_option maxRecDepth 100000 in
theorem zagv {n:Nat} {c:Value} {y:DataW H × List MemPlace} (h:zafg enc W n 34 [c] y) (hl:zmk 34 y.1):∃l:List TagD,zba W c l:=by
 rcases Go.Deep.open_slice_pairs Tryz.underlying34 Tryz.underlying74 (by kernel_rfl) rfl rfl znl znl h with ⟨hcs,-⟩ | ⟨a,len,cap,m,k,V0,V1,D0,D1,P0,P1,hcs,-,hle,hm,hmm,hx,hel⟩
 ·simp at hcs;subst hcs;exact ⟨[],none,0,rfl,by simp,by simp,fun h=>by simp at h⟩
 ·simp at hcs;subst hcs;have hlm:len≤m:=by rw [hmm];split<;>omega
  have hx1:y.1=.slice ((List.range len).map fun i=>.agg [D0 i,D1 i]) ((List.range (m - len)).map fun j=>.agg [D0 (len+j),D1 (len+j)]):=by rw [hx]
  rw [hx1] at hl;have each:∀i,i<len→∃t:TagD,W.cell? (a.add (i * 2))=some (.string t.key)∧W.cell? (a.add (i * 2+1))=some (.string t.val)∧t.key.size≤140737488355328∧t.val.size≤140737488355328:=by intro i hi;obtain ⟨h1,h2,h3,h4⟩:=hel i (by omega);have he:=zoj Tryz.underlying34 hl (List.mem_map.2 ⟨i,List.mem_range.2 hi,rfl⟩);obtain ⟨s,hs,hz⟩:=zpi h3 (zhj Tryz.underlying74 he (j:=0) rfl rfl);obtain ⟨s',hs',hz'⟩:=zpi h4 (zhj Tryz.underlying74 he (j:=1) rfl rfl);exact ⟨⟨s,s'⟩,by rw [h1,hs],by rw [h2,hs'],hz,hz'⟩
  obtain ⟨f,hf⟩:=Go.Deep.choose_lt (α:=TagD) each;have hlen:=zqs Tryz.underlying34 (of_decide_eq_true (by kernel_rfl)) hl;refine ⟨(List.range len).map f,some a,cap,by simp,by simpa using hlen,fun s hs=>?_,fun h0=>?_⟩
  ·obtain ⟨i,hi,rfl⟩:=List.mem_map.1 hs;exact (hf i (List.mem_range.1 hi)).2.2
  ·have hp0:=(hf 0 (by simpa using h0)).1;rw [show a.add (0 * 2)=a by unfold Addr.add;simp] at hp0;refine ⟨a.block,a.off,by rw [←zhm hp0],fun i s hi=>?_⟩;have hil:i<len:=(by have:=(List.getElem?_eq_some_iff.1 hi).1;simpa using this);have hfs:f i=s:=(by simpa [hil] using hi);have h2:=hf i hil;rw [zhm hp0,Go.WideShapes.add_plain,Go.WideShapes.add_plain,hfs] at h2;exact ⟨h2.1,h2.2.1⟩
theorem zacd:Tryz.prog.cellsOf 36=6:=by kernel_rfl
theorem zajr:Tryz.prog.cellsOf 31=1:=by kernel_rfl
theorem zajq:Tryz.prog.cellsOf 34=1:=by kernel_rfl
end
theorem zamz:Tryz.prog.cellsOf 24=1:=by kernel_rfl
theorem zajs:Tryz.prog.cellsOf 22=1:=by kernel_rfl
theorem zarc {α:Type} {cs:Array α} (h:cs.size=1):∃c,cs=#[c]:=by
 obtain ⟨l⟩:=cs
 match l,h with
 |[c],_=>exact ⟨c,rfl⟩
end Go.Proofs.YtibpaaajghbkoaaGreat

namespace Go.Proofs.YtibpaaajghbkoaaGreat
open Go.RowKit
def zig (k:Int):ByteArray :=
 if k=1 then ⟨#[110,111,100,101]⟩ else if k=2 then ⟨#[119,97,121]⟩ else if k=3 then ⟨#[97,114,101,97]⟩ else if k=4 then ⟨#[114,111,117,116,101]⟩ else if k=5 then ⟨#[116,117,114,110]⟩ else ⟨#[]⟩
def zff (k:Int):Int:=if k=1 then 0 else if k=2 then 2 else if k=3 then 3 else if k=4 then 1 else 3
def onB (x y:Int):Bool:=decide (0≤x∧x<1048576∧0≤y∧y<1048576)
set_option maxHeartbeats 1000000 in
theorem zlf (k:Int) (w:World) :
  Calls Tryz.prog 128 #[.int .i64 k] w fun e w'=>e=.returned (.string (zig k))∧Below w.heap.size w w':=by
 by_cases h0:k<0
 ·have e:zig k=⟨#[]⟩:=by simp only [zig];rw [if_neg (by omega),if_neg (by omega),if_neg (by omega),if_neg (by omega),if_neg (by omega)]
  rw [e];go_enter Tryz.func128,Tryz.ntmps128;go_wp2;go_ret;refine ⟨rfl,?_⟩;repeat' (first | exact Below.refl _ _ | refine Below.drew ?_ | refine Below.drewN' ?_ | refine Below.setCell ?_ (by first | omega | (simp;done) | exact Below.size (by assumption) | (simp;omega)) _ | refine Below.alloc ?_ (by first | omega | (simp;done) | exact Below.size (by assumption) | (simp;omega)) _ | refine Below.trans ?_ (Below.mono (by assumption) ?_) | (first | omega | (simp;done) | exact Below.size (by assumption) | (simp;omega)))
 by_cases h5:5<k
 ·have e:zig k=⟨#[]⟩:=by simp only [zig];rw [if_neg (by omega),if_neg (by omega),if_neg (by omega),if_neg (by omega),if_neg (by omega)]
  rw [e];go_enter Tryz.func128,Tryz.ntmps128;go_wp2;go_ret;refine ⟨rfl,?_⟩;repeat' (first | exact Below.refl _ _ | refine Below.drew ?_ | refine Below.drewN' ?_ | refine Below.setCell ?_ (by first | omega | (simp;done) | exact Below.size (by assumption) | (simp;omega)) _ | refine Below.alloc ?_ (by first | omega | (simp;done) | exact Below.size (by assumption) | (simp;omega)) _ | refine Below.trans ?_ (Below.mono (by assumption) ?_) | (first | omega | (simp;done) | exact Below.size (by assumption) | (simp;omega)))
 obtain rfl | rfl | rfl | rfl | rfl | rfl:k=0∨k=1∨k=2∨k=3∨k=4∨k=5:=by omega
 all_goals
  go_enter Tryz.func128,Tryz.ntmps128;go_wp2;go_ret;refine ⟨rfl,?_⟩;repeat' (first | exact Below.refl _ _ | refine Below.drew ?_ | refine Below.drewN' ?_ | refine Below.setCell ?_ (by first | omega | (simp;done) | exact Below.size (by assumption) | (simp;omega)) _ | refine Below.alloc ?_ (by first | omega | (simp;done) | exact Below.size (by assumption) | (simp;omega)) _ | refine Below.trans ?_ (Below.mono (by assumption) ?_) | (first | omega | (simp;done) | exact Below.size (by assumption) | (simp;omega)))
set_option maxHeartbeats 1000000 in
theorem zaih (k:Int) (h0:1≤k) (h5:k≤5) (w:World) :
  Calls Tryz.prog 131 #[.int .i64 k] w fun e w'=>e=.returned (.int .i64 (zff k))∧w=w':=by
 have i1:∀w,(Instr.index 224 (.agg #[.int .i64 0,.int .i64 0,.int .i64 2,.int .i64 3,.int .i64 1,.int .i64 3]) (.int .i64 1)).run Tryz.prog w=.ok (.int .i64 0) w:=fun _=>by kernel_rfl
 have i2:∀w,(Instr.index 224 (.agg #[.int .i64 0,.int .i64 0,.int .i64 2,.int .i64 3,.int .i64 1,.int .i64 3]) (.int .i64 2)).run Tryz.prog w=.ok (.int .i64 2) w:=fun _=>by kernel_rfl
 have i3:∀w,(Instr.index 224 (.agg #[.int .i64 0,.int .i64 0,.int .i64 2,.int .i64 3,.int .i64 1,.int .i64 3]) (.int .i64 3)).run Tryz.prog w=.ok (.int .i64 3) w:=fun _=>by kernel_rfl
 have i4:∀w,(Instr.index 224 (.agg #[.int .i64 0,.int .i64 0,.int .i64 2,.int .i64 3,.int .i64 1,.int .i64 3]) (.int .i64 4)).run Tryz.prog w=.ok (.int .i64 1) w:=fun _=>by kernel_rfl
 have i5:∀w,(Instr.index 224 (.agg #[.int .i64 0,.int .i64 0,.int .i64 2,.int .i64 3,.int .i64 1,.int .i64 3]) (.int .i64 5)).run Tryz.prog w=.ok (.int .i64 3) w:=fun _=>by kernel_rfl
 obtain rfl | rfl | rfl | rfl | rfl:k=1∨k=2∨k=3∨k=4∨k=5:=by omega
 all_goals
  go_enter Tryz.func131,Tryz.ntmps131;go_wp2;go_ret;exact ⟨rfl,rfl⟩
set_option maxHeartbeats 1000000 in
theorem zaqo (x y:Int) (w:World) :
  Calls Tryz.prog 134 #[.agg #[.int .i64 x,.int .i64 y]] w fun e w'=>e=.returned (.bool (onB x y))∧Below w.heap.size w w':=by
 go_enter Tryz.func134,Tryz.ntmps134;by_cases h1:0≤x;case neg =>
  go_wp2;go_ret;refine ⟨zah (by simp only [onB];symm;rw [decide_eq_false_iff_not];omega),?_⟩;repeat' (first | exact Below.refl _ _ | refine Below.drew ?_ | refine Below.drewN' ?_ | refine Below.setCell ?_ (by first | omega | (simp;done) | exact Below.size (by assumption) | (simp;omega)) _ | refine Below.alloc ?_ (by first | omega | (simp;done) | exact Below.size (by assumption) | (simp;omega)) _ | refine Below.trans ?_ (Below.mono (by assumption) ?_) | (first | omega | (simp;done) | exact Below.size (by assumption) | (simp;omega)))
 by_cases h2:x<1048576;case neg =>
  go_wp2;go_ret;refine ⟨zah (by simp only [onB];symm;rw [decide_eq_false_iff_not];omega),?_⟩;repeat' (first | exact Below.refl _ _ | refine Below.drew ?_ | refine Below.drewN' ?_ | refine Below.setCell ?_ (by first | omega | (simp;done) | exact Below.size (by assumption) | (simp;omega)) _ | refine Below.alloc ?_ (by first | omega | (simp;done) | exact Below.size (by assumption) | (simp;omega)) _ | refine Below.trans ?_ (Below.mono (by assumption) ?_) | (first | omega | (simp;done) | exact Below.size (by assumption) | (simp;omega)))
 by_cases h3:0≤y;case neg =>
  go_wp2;go_ret;refine ⟨zah (by simp only [onB];symm;rw [decide_eq_false_iff_not];omega),?_⟩;repeat' (first | exact Below.refl _ _ | refine Below.drew ?_ | refine Below.drewN' ?_ | refine Below.setCell ?_ (by first | omega | (simp;done) | exact Below.size (by assumption) | (simp;omega)) _ | refine Below.alloc ?_ (by first | omega | (simp;done) | exact Below.size (by assumption) | (simp;omega)) _ | refine Below.trans ?_ (Below.mono (by assumption) ?_) | (first | omega | (simp;done) | exact Below.size (by assumption) | (simp;omega)))
 go_wp2;go_ret;refine ⟨zah (by simp only [onB];rw [decide_eq_decide];omega),?_⟩;repeat' (first | exact Below.refl _ _ | refine Below.drew ?_ | refine Below.drewN' ?_ | refine Below.setCell ?_ (by first | omega | (simp;done) | exact Below.size (by assumption) | (simp;omega)) _ | refine Below.alloc ?_ (by first | omega | (simp;done) | exact Below.size (by assumption) | (simp;omega)) _ | refine Below.trans ?_ (Below.mono (by assumption) ?_) | (first | omega | (simp;done) | exact Below.size (by assumption) | (simp;omega)))
set_option maxHeartbeats 1000000 in
theorem zaom (x y:Int) (w:World) :
  Calls Tryz.prog 167 #[.agg #[.int .i64 x,.int .i64 y]] w fun e w'=>e=.returned (.bool (onB x y))∧Below w.heap.size w w':=by
 go_enter Tryz.func167,Tryz.ntmps167;by_cases h1:0≤x;case neg =>
  go_wp2;go_ret;refine ⟨zah (by simp only [onB];symm;rw [decide_eq_false_iff_not];omega),?_⟩;repeat' (first | exact Below.refl _ _ | refine Below.drew ?_ | refine Below.drewN' ?_ | refine Below.setCell ?_ (by first | omega | (simp;done) | exact Below.size (by assumption) | (simp;omega)) _ | refine Below.alloc ?_ (by first | omega | (simp;done) | exact Below.size (by assumption) | (simp;omega)) _ | refine Below.trans ?_ (Below.mono (by assumption) ?_) | (first | omega | (simp;done) | exact Below.size (by assumption) | (simp;omega)))
 by_cases h2:x<1048576;case neg =>
  go_wp2;go_ret;refine ⟨zah (by simp only [onB];symm;rw [decide_eq_false_iff_not];omega),?_⟩;repeat' (first | exact Below.refl _ _ | refine Below.drew ?_ | refine Below.drewN' ?_ | refine Below.setCell ?_ (by first | omega | (simp;done) | exact Below.size (by assumption) | (simp;omega)) _ | refine Below.alloc ?_ (by first | omega | (simp;done) | exact Below.size (by assumption) | (simp;omega)) _ | refine Below.trans ?_ (Below.mono (by assumption) ?_) | (first | omega | (simp;done) | exact Below.size (by assumption) | (simp;omega)))
 by_cases h3:0≤y;case neg =>
  go_wp2;go_ret;refine ⟨zah (by simp only [onB];symm;rw [decide_eq_false_iff_not];omega),?_⟩;repeat' (first | exact Below.refl _ _ | refine Below.drew ?_ | refine Below.drewN' ?_ | refine Below.setCell ?_ (by first | omega | (simp;done) | exact Below.size (by assumption) | (simp;omega)) _ | refine Below.alloc ?_ (by first | omega | (simp;done) | exact Below.size (by assumption) | (simp;omega)) _ | refine Below.trans ?_ (Below.mono (by assumption) ?_) | (first | omega | (simp;done) | exact Below.size (by assumption) | (simp;omega)))
 go_wp2;go_ret;refine ⟨zah (by simp only [onB];rw [decide_eq_decide];omega),?_⟩;repeat' (first | exact Below.refl _ _ | refine Below.drew ?_ | refine Below.drewN' ?_ | refine Below.setCell ?_ (by first | omega | (simp;done) | exact Below.size (by assumption) | (simp;omega)) _ | refine Below.alloc ?_ (by first | omega | (simp;done) | exact Below.size (by assumption) | (simp;omega)) _ | refine Below.trans ?_ (Below.mono (by assumption) ?_) | (first | omega | (simp;done) | exact Below.size (by assumption) | (simp;omega)))
set_option maxHeartbeats 1000000 in
theorem zhg (k:Int) (w:World) :
  Calls Tryz.prog 169 #[.int .i64 k] w fun e w'=>e=.returned (.string (zig k))∧Below w.heap.size w w':=by
 by_cases h0:k<1
 ·have e:zig k=⟨#[]⟩:=by simp only [zig];rw [if_neg (by omega),if_neg (by omega),if_neg (by omega),if_neg (by omega),if_neg (by omega)]
  rw [e];go_enter Tryz.func169,Tryz.ntmps169;go_wp2;go_ret;refine ⟨rfl,?_⟩;repeat' (first | exact Below.refl _ _ | refine Below.drew ?_ | refine Below.drewN' ?_ | refine Below.setCell ?_ (by first | omega | (simp;done) | exact Below.size (by assumption) | (simp;omega)) _ | refine Below.alloc ?_ (by first | omega | (simp;done) | exact Below.size (by assumption) | (simp;omega)) _ | refine Below.trans ?_ (Below.mono (by assumption) ?_) | (first | omega | (simp;done) | exact Below.size (by assumption) | (simp;omega)))
 by_cases h5:5<k
 ·have e:zig k=⟨#[]⟩:=by simp only [zig];rw [if_neg (by omega),if_neg (by omega),if_neg (by omega),if_neg (by omega),if_neg (by omega)]
  rw [e];go_enter Tryz.func169,Tryz.ntmps169;go_wp2;go_ret;refine ⟨rfl,?_⟩;repeat' (first | exact Below.refl _ _ | refine Below.drew ?_ | refine Below.drewN' ?_ | refine Below.setCell ?_ (by first | omega | (simp;done) | exact Below.size (by assumption) | (simp;omega)) _ | refine Below.alloc ?_ (by first | omega | (simp;done) | exact Below.size (by assumption) | (simp;omega)) _ | refine Below.trans ?_ (Below.mono (by assumption) ?_) | (first | omega | (simp;done) | exact Below.size (by assumption) | (simp;omega)))
 obtain rfl | rfl | rfl | rfl | rfl:k=1∨k=2∨k=3∨k=4∨k=5:=by omega
 all_goals
  go_enter Tryz.func169,Tryz.ntmps169;go_wp2;go_ret;refine ⟨rfl,?_⟩;repeat' (first | exact Below.refl _ _ | refine Below.drew ?_ | refine Below.drewN' ?_ | refine Below.setCell ?_ (by first | omega | (simp;done) | exact Below.size (by assumption) | (simp;omega)) _ | refine Below.alloc ?_ (by first | omega | (simp;done) | exact Below.size (by assumption) | (simp;omega)) _ | refine Below.trans ?_ (Below.mono (by assumption) ?_) | (first | omega | (simp;done) | exact Below.size (by assumption) | (simp;omega)))
end Go.Proofs.YtibpaaajghbkoaaGreat

namespace Go.Proofs.YtibpaaajghbkoaaGreat
open Go.RowKit Go.Maps Go.ChangeMaps
theorem keyS:Keyed Tryz.prog 9:=string_keyed Tryz.underlying9
theorem zare (w:World):(zeroValue 4).run Tryz.prog w=.ok (.bool false) w:=by kernel_rfl
def zlc (w:World) (b:Nat) (pre:List ByteArray):Prop :=
 ∃(n:Nat) (D:DataW Unit),w.ownsMap Tryz.prog 9 (plainElem Tryz.prog 4) b n D∧n≤pre.length ∧
  ∀s:ByteArray,D.atKey (.string s.data.toList) (.lit (.bool false))=.lit (.bool (pre.any fun p=>decide (p=s)))
theorem zlc.made (w:World):zlc (w.alloc (.map #[] 0)) w.heap.size [] :=
 ⟨0,_,World.ownsMap_made _ _ _ _,Nat.le_refl _,fun s=>by simp [DataW.atKey]⟩
theorem zlc.later {w w':World} {b:Nat} {pre:List ByteArray} (h:zlc w b pre) (hb:w'.heap[b]?=w.heap[b]?):zlc w' b pre:=by obtain ⟨n,D,⟨es,clock,h1,h2⟩,h3⟩:=h;exact ⟨n,D,⟨es,clock,hb.trans h1,h2⟩,h3⟩
theorem zlc.lt {w:World} {b:Nat} {pre:List ByteArray} (h:zlc w b pre):b<w.heap.size:=by obtain ⟨n,D,h1,-⟩:=h;exact h1.lt
theorem zti {P:Program} {e:TypeId} (he:P.underlying e=some .bool) {v:Value} {b:Bool} {ps:List MemPlace} (h:plainElem (H:=Unit) P e v=some (.lit (.bool b),ps)):v=.bool b:=by unfold plainElem at h;rw [he] at h;cases v<;>simp at h;rw [h.1]
theorem zaog {a b:ByteArray} (h:Lit.string a.data.toList=Lit.string b.data.toList):a=b:=by injection h with h;exact ByteArray.ext (Array.toList_inj.mp h)
theorem zlc.look {w:World} {b:Nat} {pre:List ByteArray} (h:zlc w b pre) (s:ByteArray) (hs:s.size≤maxLen) :
  (Instr.lookup 182 (.map (some b)) (.string s) false).run Tryz.prog w=.ok (.bool (pre.any fun p=>decide (p=s))) w:=by
 obtain ⟨n,D,h1,h2,h3⟩:=h;obtain ⟨v,ps,hrun,hv⟩:=h1.lookup keyS Tryz.underlying182 (zare w) (plainElem_bool Tryz.underlying4 false) (WideMaps.keyOf_string_mk Tryz.underlying9 hs);rw [h3] at hv;have hv':v=.bool (pre.any fun p=>decide (p=s)):=zti Tryz.underlying4 hv;rw [hrun,hv']
theorem zlc.put {w:World} {b:Nat} {pre:List ByteArray} (h:zlc w b pre) (s:ByteArray) (hs:s.size≤maxLen) (hn:pre.length<maxLen) :
  ∃w',(Instr.mapUpdate 182 (.map (some b)) (.string s) (.bool true)).run Tryz.prog w=.ok () w'∧zlc w' b (pre++[s])∧w.grownBy w' (some b):=by
 obtain ⟨n,D,h1,h2,h3⟩:=h;obtain ⟨w',hrun,h4,h5⟩:=h1.update keyS Tryz.underlying182 (by omega) (WideMaps.keyOf_string_mk Tryz.underlying9 hs) (plainElem_bool Tryz.underlying4 true);refine ⟨w',hrun,⟨n+1,_,h4,by simp;omega,fun t=>?_⟩,h5⟩;by_cases e:t=s
 ·subst e;rw [atKey_put_same h1.isMap (show WideAt.IsKeyLit (.string t.data.toList) from trivial)];simp
 ·rw [atKey_put_other (fun h=>e (zaog h)),h3];simp [Ne.symm e]
end Go.Proofs.YtibpaaajghbkoaaGreat

namespace Go.Proofs.YtibpaaajghbkoaaGreat
open Go.RowKit
def zwh (pre:List ByteArray):ByteArray:=pre.getLast?.getD ⟨#[]⟩
structure VSt (w:World) (Bo Bl Bs Bm:Nat) (kind:Int) (pre:List ByteArray):Prop where
 kindC:w.cell? ⟨Bo,1,none⟩=some (.int .i64 kind)
 lastC:w.heap[Bl]?=some (.cells #[.string (zwh pre)] 9 (0,0))
 seenC:w.heap[Bs]?=some (.cells #[.map (some Bm)] 182 (0,0))
 setC:zlc w Bm pre
def okR (kind:Int) (pre:List ByteArray) (s:ByteArray):Bool :=
 zcw s && !(decide (kind=2) && decide (pre.getLast?=some s)) && !(decide (kind=3) && pre.any fun p=>decide (p=s))
theorem zapa {s:ByteArray} (h:zcw s=true):s≠⟨#[]⟩:=by rintro rfl;exact absurd h (by decide)
theorem zaqp (kind:Int) (pre:List ByteArray) (s:ByteArray) :
  (!okR kind pre s)=(((decide (kind=2) && decide (s=zwh pre)) || (decide (kind=3) && pre.any fun p=>decide (p=s))) || !zcw s):=by
 unfold okR zwh;cases hn:zcw s
 ·simp
 ·have hne:=zapa hn;have e:decide (pre.getLast?=some s)=decide (s=pre.getLast?.getD ⟨#[]⟩):=by
   rw [decide_eq_decide];cases pre.getLast? with
   |none=>simp [hne]
   |some t=>simp [eq_comm]
  rw [e];simp
theorem zaee (pre:List ByteArray) (s:ByteArray):zwh (pre++[s])=s:=by simp [zwh]
theorem Below.grow1 {B:Nat} {w w':World} {g:Nat} (hB:B≤w.heap.size) (hg:w.grownBy w' (some g)) (h:B≤g):Below B w w' :=
 (Below.refl B w).grown hg hB (fun j ej=>by cases ej;exact h)
theorem zajw {w w':World} {b o:Nat} (h:w'.heap[b]?=w.heap[b]?):w'.cell? ⟨b,o,none⟩=w.cell? ⟨b,o,none⟩:=by simp only [World.cell?,h]
theorem VSt.later {w w':World} {Bo Bl Bs Bm:Nat} {kind:Int} {pre:List ByteArray} (h:VSt w Bo Bl Bs Bm kind pre) (hb:Below w.heap.size w w'):VSt w' Bo Bl Bs Bm kind pre :=
 ⟨cell_later hb h.kindC,zab hb h.lastC,zab hb h.seenC,h.setC.later (hb.block _ h.setC.lt)⟩
def zml (Bl Bm:Nat) (w w':World):Prop:=∀b,b<w.heap.size→b≠Bl→b≠Bm→w'.heap[b]?=w.heap[b]?
theorem zml.refl (Bl Bm:Nat) (w:World):zml Bl Bm w w:=fun _ _ _ _=>rfl
theorem zml.trans {Bl Bm:Nat} {a b c:World} (h:zml Bl Bm a b) (hs:a.heap.size≤b.heap.size) (k:zml Bl Bm b c):zml Bl Bm a c :=
 fun i hi h1 h2=>(k i (Nat.lt_of_lt_of_le hi hs) h1 h2).trans (h i hi h1 h2)
theorem zml.later {Bl Bm:Nat} {a b c:World} (h:zml Bl Bm a b) (hs:a.heap.size≤b.heap.size) (k:Below b.heap.size b c):zml Bl Bm a c :=
 h.trans hs fun i hi _ _=>k.block i hi
set_option maxRecDepth 100000 in
set_option maxHeartbeats 1000000 in
theorem zafj (s : ByteArray) (hs : s.size ≤ 140737488355328) (kind : Int) (pre : List ByteArray) (hn : pre.length ≤ 4000) (Bo Bl Bs Bm B : Nat) (w : World)
    (h : VSt w Bo Bl Bs Bm kind pre) (hl : B ≤ Bl) (hm : B ≤ Bm) (hBw : B ≤ w.heap.size) (n1 : Bo ≠ Bm) (n2 : Bl ≠ Bm) (n3 : Bs ≠ Bm) (n4 : Bo ≠ Bl) (n5 : Bs ≠ Bl) :
    Calls Tryz.prog 132 #[.string s, .pointer (some ⟨Bo, 0, none⟩), .pointer (some ⟨Bl, 0, none⟩), .pointer (some ⟨Bs, 0, none⟩)] w fun e w' => e = .returned (.bool (!okR kind pre s)) ∧ VSt w' Bo Bl Bs Bm kind (pre ++ [s]) ∧ Below B w w' ∧ zml Bl Bm w w' := by
  obtain ⟨k0, HL, HS, HM⟩ := h;have hlook := HM.look s (by unfold maxLen; omega);obtain ⟨w1, hput, HM1, hg⟩ := HM.put s (by unfold maxLen; omega) (by unfold maxLen; omega);have HL1 : w1.heap[Bl]? = _ := (hg.block Bl (zaf HL) (by simpa using n2)).trans HL;have HS1 : w1.heap[Bs]? = _ := (hg.block Bs (zaf HS) (by simpa using n3)).trans HS;obtain ⟨lz, l0⟩ := rk1 HL;have HL' := zH HL;clear HL;obtain ⟨mz, m0⟩ := rk1 HS;have HS' := zH HS;clear HS;obtain ⟨qz, q0⟩ := rk1 HL1;have qf0 := frozen_of_row w1 _ 0 _ _ HL1;have HL1' := zH HL1;clear HL1;have V2 := zH (show VSt (w1.setCell ⟨Bl, 0, none⟩ (.string s)) Bo Bl Bs Bm kind (pre ++ [s]) from
    ⟨(zajw ((Below.heap_setCell _ ⟨Bl, 0, none⟩ _ _ (by simpa using n4)).trans (hg.block Bo (zag k0) (by simpa using n1)))).trans k0,
      by rw [zaee]; exact zbl (i := 0) HL1'.out, zai HS1 (by simpa using n5), HM1.later (Below.heap_setCell _ _ _ _ (by simpa using n2.symm))⟩)
  have B2 : Below B w (w1.setCell ⟨Bl, 0, none⟩ (.string s)) := (Below.grow1 hBw hg hm).setCell (p := ⟨Bl, 0, none⟩) hl _;have X2 := zH (show zml Bl Bm w (w1.setCell ⟨Bl, 0, none⟩ (.string s)) from fun b hb e1 e2 => (Below.heap_setCell _ ⟨Bl, 0, none⟩ _ _ (by simpa using e1)).trans (hg.block b hb (by simpa using e2)));have OK := zH (zaqp kind pre s);generalize hI : (pre.any fun p => decide (p = s)) = I at *;clear hI HM HM1 hg HS1 hn;by_cases e2 : kind = 2
  · subst e2
    by_cases e1 : s = zwh pre
    · have q1 : (s.toList == (zwh pre).toList) = true := zcx e1
      have OK2 := zH (show (!okR 2 pre s) = true by rw [OK.out]; simp [e1]);clear e1 OK;go_enter Tryz.func132, Tryz.ntmps132;go_wp2_with (go_at_call 129; refine (zgb s hs _).mono ?_; rintro e w3 ⟨rfl, hb3⟩);go_ret;first | exact ⟨zah OK2.out.symm, V2.out, B2, X2.out⟩ | exact ⟨zah OK2.out.symm, V2.out.later hb3, zac B2 hBw hb3, X2.out.later B2.size hb3⟩
    · have q1 : (s.toList == (zwh pre).toList) = false := zck e1
      have OK2 := zH (show (!okR 2 pre s) = !zcw s by rw [OK.out]; simp [e1]);clear e1 OK;go_enter Tryz.func132, Tryz.ntmps132;go_wp2_with (go_at_call 129; refine (zgb s hs _).mono ?_; rintro e w3 ⟨rfl, hb3⟩);go_ret;first | exact ⟨zah OK2.out.symm, V2.out, B2, X2.out⟩ | exact ⟨zah OK2.out.symm, V2.out.later hb3, zac B2 hBw hb3, X2.out.later B2.size hb3⟩
  · have f2 : (kind == 2) = false := by rw [beq_eq_false_iff_ne]; exact e2
    by_cases e3 : kind = 3
    · subst e3
      cases I
      · have OK2 := zH (show (!okR 3 pre s) = !zcw s by rw [OK.out]; simp)
        clear OK;go_enter Tryz.func132, Tryz.ntmps132;go_wp2_with (go_at_call 129; refine (zgb s hs _).mono ?_; rintro e w3 ⟨rfl, hb3⟩);go_ret;first | exact ⟨zah OK2.out.symm, V2.out, B2, X2.out⟩ | exact ⟨zah OK2.out.symm, V2.out.later hb3, zac B2 hBw hb3, X2.out.later B2.size hb3⟩
      · have OK2 := zH (show (!okR 3 pre s) = true by rw [OK.out]; simp)
        clear OK;go_enter Tryz.func132, Tryz.ntmps132;go_wp2_with (go_at_call 129; refine (zgb s hs _).mono ?_; rintro e w3 ⟨rfl, hb3⟩);go_ret;first | exact ⟨zah OK2.out.symm, V2.out, B2, X2.out⟩ | exact ⟨zah OK2.out.symm, V2.out.later hb3, zac B2 hBw hb3, X2.out.later B2.size hb3⟩
    · have f3 : (kind == 3) = false := by rw [beq_eq_false_iff_ne]; exact e3
      have OK2 := zH (show (!okR kind pre s) = !zcw s by rw [OK.out]; simp [e2, e3]);clear OK;go_enter Tryz.func132, Tryz.ntmps132;go_wp2_with (go_at_call 129; refine (zgb s hs _).mono ?_; rintro e w3 ⟨rfl, hb3⟩);go_ret;first | exact ⟨zah OK2.out.symm, V2.out, B2, X2.out⟩ | exact ⟨zah OK2.out.symm, V2.out.later hb3, zac B2 hBw hb3, X2.out.later B2.size hb3⟩
end Go.Proofs.YtibpaaajghbkoaaGreat
