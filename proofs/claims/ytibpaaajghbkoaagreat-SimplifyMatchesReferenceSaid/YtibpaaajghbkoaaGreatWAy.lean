/-   -/
import Derived.Test.YtibpaaajghbkoaaGreatWAx
namespace Go.Proofs.YtibpaaajghbkoaaGreat
open Go.RowKit Go.Sort
def zqu (y x:ItD):Bool:=decide (xhi x.2<xlo y.2)
def zee (X:Array Value) (l:List ItD) (from':Nat):Prop:=∀(a:Nat) (x:ItD) (t:Nat) (u:Value),from'≤a→l[a]?=some x→(zbw x)[t]?=some u→X[a * 9+t]?=some u
theorem zaji {x:ItD} {t:Nat} {u:Value} (h:(zbw x)[t]?=some u):t<9:=(List.getElem?_eq_some_iff.1 h).1
theorem zee.flat {X:Array Value} {l:List ItD} (h:zee X l 0):X.toList.take (l.length * 9)=l.flatMap zbw:=by
 apply List.ext_getElem?;intro i;rw [List.getElem?_take];by_cases hi:i<l.length * 9
 ·have hk:i / 9<l.length:=by omega
  have e:i / 9 * 9+i % 9=i:=by omega
  have h1:=zey zbw 9 zdd l (i / 9) (i % 9) l[i / 9] (List.getElem?_eq_getElem hk) (by omega);rw [e] at h1;have hu:(zbw l[i / 9])[i % 9]?=some ((zbw l[i / 9])[i % 9]'(by rw [zdd];omega)):=List.getElem?_eq_getElem _;have h2:=h (i / 9) _ (i % 9) _ (Nat.zero_le _) (List.getElem?_eq_getElem hk) hu;rw [e] at h2;rw [if_pos hi,h1,hu,Array.getElem?_toList,h2]
 ·rw [if_neg hi,List.getElem?_eq_none (by rw [zbs zbw 9 zdd];omega)]
theorem zee.of_flat {X:Array Value} {l:List ItD} (h:X.toList.take (l.length * 9)=l.flatMap zbw):zee X l 0:=by intro a x t u _ hx hu;have ht:=zaji hu;have ha:=(List.getElem?_eq_some_iff.1 hx).1;have h1:=zey zbw 9 zdd l a t x hx ht;rw [←h,List.getElem?_take,if_pos (by omega),Array.getElem?_toList,hu] at h1;exact h1
theorem zee.mono {X:Array Value} {l:List ItD} {i j:Nat} (h:zee X l i) (hij:i≤j):zee X l j:=fun a x t u ha=>h a x t u (Nat.le_trans hij ha)
theorem zee.splice_after {X:Array Value} {l:List ItD} {i j:Nat} {x:ItD} (h:zee X l j) (hij:i<j) (hs:i * 9+9≤X.size):zee (zfy X (i * 9) (zbw x)) l j:=by intro a y t u ha hy hu;rw [ziv _ _ _ (by rw [zdd];exact hs),zdd,if_neg (by omega)];exact h a y t u ha hy hu
theorem zee.splice_snoc {X:Array Value} {l:List ItD} {x:ItD} (h:zee X l 0) (hs:l.length * 9+9≤X.size):zee (zfy X (l.length * 9) (zbw x)) (l++[x]) 0:=by
 intro a y t u ha hy hu;have ht:=zaji hu;rw [ziv _ _ _ (by rw [zdd];exact hs),zdd];by_cases hal:a<l.length
 ·rw [if_neg (by omega)];rw [List.getElem?_append_left hal] at hy;exact h a y t u ha hy hu
 ·rw [List.getElem?_append_right (by omega)] at hy;have e:a=l.length:=by have:=(List.getElem?_eq_some_iff.1 hy).1;simp at this;omega
  subst e;simp at hy;subst hy;rw [if_pos ⟨by omega,by omega⟩,show l.length * 9+t - l.length * 9=t by omega];exact hu
def IdxI (A:List ItD) (y:ItD) (w:World) (e:Ending) (w':World):Prop :=
 (∃n:Int,e=.returned (.int .i64 n)∧((n=-1∧∀x∈A,zqu y x=false)∨∃(i:Nat) (x:ItD),n=(i:Int)∧A[i]?=some x∧zqu y x=true∧∀z∈A.take i,zqu y z=false))∧Below w.heap.size w w'
set_option maxRecDepth 100000 in
set_option maxHeartbeats 2000000 in
theorem zami (v:Value) (A:List ItD) (y:ItD) (Ba:Nat) (w:World) (hv:RowE zbw 9 w v A) (hl:A.length≤20000) (hs:w.heap[Ba]?=some (.cells (zbw y).toArray 230)) :
  Calls Tryz.prog 240 #[v,.func (.func 184) #[] #[.pointer (some ⟨Ba,0,none⟩)]] w (IdxI A y w):=by
 have FR:=zH (fun x W (hb:Below w.heap.size w W)=>zaiq x y Ba W (zab hb hs));obtain ⟨a,cap,rfl,hc⟩:=hv;obtain ⟨N,hN⟩:∃N,A.length=N:=⟨_,rfl⟩;rw [hN] at hc hl ⊢;have HN:=zH hN;have HC:=zH hc;clear hN hc hs;go_enter Tryz.func240,Tryz.ntmps240;go_wp2;go_loopw [8] (fun i wr=>∃k:Nat,k≤N∧i=.int .i64 k∧(∀t∈A.take k,zqu y t=false)∧Below w.heap.size w wr) (fun i _=>N - (intOf i).toNat);case atStart=>exact ⟨0,by omega,rfl,by simp,Below.refl _ _⟩
 case round =>
  obtain ⟨k,hk,rfl,hT,hbr⟩:=hrel;have HT:=zH hT;have hzr:=hbr.size;clear hT;by_cases hlt:k<N
  ·obtain ⟨x,hx⟩:∃x,A[k]?=some x:=⟨A[k]'(by rw [HN.out];exact hlt),List.getElem?_eq_getElem _⟩;obtain ⟨b,off,ha,hcell⟩:=HC.out (by omega);subst ha;have d0':=cell_later hbr (hcell k x hx 0 _ rfl);have d0:wr.cell? ⟨b,off+k * 9,none⟩=some (.int .i64 x.1):=d0';have d1:=cell_later hbr (hcell k x hx 1 _ rfl);have d2:=cell_later hbr (hcell k x hx 2 _ rfl);have d3:=cell_later hbr (hcell k x hx 3 _ rfl);have d4:=cell_later hbr (hcell k x hx 4 _ rfl);have d5:=cell_later hbr (hcell k x hx 5 _ rfl);have d6:=cell_later hbr (hcell k x hx 6 _ rfl);have d7:=cell_later hbr (hcell k x hx 7 _ rfl);have d8:=cell_later hbr (hcell k x hx 8 _ rfl);have HX:=zH hx;have F1:=zH (FR.out x wr hbr);have bz:=zag d0;clear hcell d0' hx;have F2:=zH (show Calls Tryz.prog 184 #[.agg (zbw x).toArray,.pointer (some ⟨Ba,0,none⟩)] wr fun e w'=>e=.returned (.bool (zqu y x))∧Below wr.heap.size wr w' from F1.out);obtain ⟨bd,hbd⟩:∃z,z=zqu y x:=⟨_,rfl⟩;rw [←hbd] at F2;have HBD:=zH hbd;clear hbd F1;simp only [zbw] at F2;go_wp2_with fail;refine F2.out.mono ?_;rintro e w2 ⟨rfl,hb2⟩;have B2:=zac hbr zR hb2;clear d0 d1 d2 d3 d4 d5 d6 d7 d8 hb2 F2;cases bd with
   |true =>have HE:=zH (show IdxI A y w (.returned (.int .i64 k)) w2 from ⟨⟨_,rfl,Or.inr ⟨k,x,rfl,HX.out,HBD.out.symm,HT.out⟩⟩,B2⟩);go_wp2;go_ret;exact HE.out
   |false =>
    have HG:=zH (show ∀t∈A.take (k+1),zqu y t=false by
     obtain ⟨hk',e⟩:=List.getElem?_eq_some_iff.1 HX.out
     rw [List.take_succ_eq_append_getElem hk',e]
     intro t ht
     rcases List.mem_append.1 ht with h | h
     ·exact HT.out t h
     ·rw [List.mem_singleton.1 h];exact HBD.out.symm)
    go_wp2;go_roundw;case rel=>exact ⟨k+1,by omega,by go_num,HG.out,B2⟩
    case measure=>simp [intOf];omega
  ·obtain rfl:k=N:=(by omega);have HE:=zH (show IdxI A y w (.returned (.int .i64 (-1))) wr from ⟨⟨_,rfl,Or.inl ⟨rfl,by
    have:=HT.out
    rw [List.take_of_length_le (by rw [HN.out];exact Nat.le_refl _)] at this
    exact this⟩⟩,hbr⟩)
   go_wp2;go_ret;exact HE.out
def zaag (A:List ItD) (y:ItD) (base:Nat) (v:Value) (w:World) (e:Ending) (w':World):Prop :=
 ∃v',e=.returned v'∧w'.ownsRow base 230 9 v' (A.filter fun x=>!zqu y x).length ((A.filter fun x=>!zqu y x).flatMap zbw)∧w.grownBy w' v.ownBlock∧v'.ownBlock=v.ownBlock
theorem zqz {A:List ItD} {p:ItD→Bool} {j:Nat} {x:ItD} (hx:A[j]?=some x):(A.take (j+1)).filter p=(A.take j).filter p++if p x then [x] else []:=by obtain ⟨hk,e⟩:=List.getElem?_eq_some_iff.1 hx;rw [List.take_succ_eq_append_getElem hk,e,List.filter_append];cases h:p x<;>simp [h]
theorem ztd {α:Type} {l:List α} {n i:Nat} {x:α} (h:(l.take n)[i]?=some x):l[i]?=some x:=by
 rw [List.getElem?_take] at h;split at h
 ·exact h
 ·cases h
theorem zarf (n:Nat):∀v∈(Builtin.zeroCells (Value.agg #[.int .i64 0,.int .i64 0,.int .i64 0,.int .i64 0,.int .i64 0,.int .i64 0,.int .i64 0,.int .i64 0,.int .i64 0]).cells n).toList,v.oneCell'=true:=by
 intro v hv;have key:∀k,k<9→((#[.int .i64 0,.int .i64 0,.int .i64 0,.int .i64 0,.int .i64 0,.int .i64 0,.int .i64 0,.int .i64 0,.int .i64 0]:Array Value)[k]!).oneCell'=true:=by
  intro k hk
  match k,hk with
  |0,_ | 1,_ | 2,_ | 3,_ | 4,_ | 5,_ | 6,_ | 7,_ | 8,_=>rfl
 simp only [Builtin.zeroCells,Value.cells,Array.toList_map,List.mem_map] at hv;obtain ⟨i,_,rfl⟩:=hv;exact key _ (Nat.mod_lt _ (by decide))
theorem zaqi (w:World):(zeroValue 230).run Tryz.prog w=.ok (.agg #[.int .i64 0,.int .i64 0,.int .i64 0,.int .i64 0,.int .i64 0,.int .i64 0,.int .i64 0,.int .i64 0,.int .i64 0]) w:=by kernel_rfl
set_option maxRecDepth 100000 in
set_option maxHeartbeats 4000000 in
theorem zamu (v:Value) (A:List ItD) (y:ItD) (Ba base:Nat) (w:World) (hv:w.ownsRow base 230 9 v A.length (A.flatMap zbw)) (hl:A.length≤20000) (hs:w.heap[Ba]?=some (.cells (zbw y).toArray 230)) (hne:v.ownBlock≠some Ba) :
  Calls Tryz.prog 183 #[v,.func (.func 184) #[] #[.pointer (some ⟨Ba,0,none⟩)]] w (zaag A y base v w):=by
 have IX:=zH (zami v A y Ba w (RowE.of_own zdd rfl hv) hl hs);have FR:=zH (fun x W (hb:W.heap[Ba]?=some (.cells (zbw y).toArray 230))=>(show Calls Tryz.prog 184 #[.agg (zbw x).toArray,.pointer (some ⟨Ba,0,none⟩)] W fun e w'=>e=.returned (.bool (zqu y x))∧Below W.heap.size W w' from zaiq x y Ba W hb));have HV:=zH hv;obtain ⟨a,n0,cap,hva⟩:∃a n0 cap,v=.slice a n0 cap:=⟨_,_,_,zcy hv⟩;subst hva;go_enter Tryz.func183,Tryz.ntmps183;go_wp2_with fail;refine IX.out.mono ?_;rintro e w2 ⟨⟨n,rfl,hn⟩,hb⟩;clear IX;rcases hn with ⟨rfl,hall⟩ | ⟨i0,x0,rfl,hx0,hl0,hbef⟩
 ·have HF:=zH (show (A.filter fun x=>!zqu y x)=A from List.filter_eq_self.2 fun x hx=>by rw [hall x hx];rfl);have HE:=zH (show zaag A y base (.slice a n0 cap) w (.returned (.slice a n0 cap)) w2 from ⟨_,rfl,by rw [HF.out];exact zaq HV.out hb,(World.grownBy.refl w none).trans ⟨hb.os,hb.tape,hb.output,hb.size,fun k hk _=>hb.block k hk⟩ |>.but _,rfl⟩);clear hall hb hv hs;go_wp2;go_ret;exact HE.out
 ·rcases HV.out.2 with ⟨h1,h2⟩ | ⟨g,cap',cur,h1,hb0,hc,hn1,hcm,hsz,hfl⟩
  ·have:=(List.getElem?_eq_some_iff.1 hx0).1;omega
  injection h1 with e1 e2 e3;subst e1 e2 e3;obtain ⟨N,hN⟩:∃N,A.length=N:=⟨_,rfl⟩;have hi0:i0<N:=by rw [←hN];exact (List.getElem?_eq_some_iff.1 hx0).1
  have hgB:g≠Ba:=fun e=>hne (by simp [Value.ownBlock,e]);have HA0:=zee.of_flat hfl;have h0:(A.take (i0+1)).filter (fun x=>!zqu y x)=A.take i0:=by rw [zqz hx0,hl0,List.filter_eq_self.2 fun x hx=>by rw [hbef x hx];rfl];simp
  have HS0:=zH (show i0=((A.take (i0+1)).filter fun x=>!zqu y x).length∧zee cur ((A.take (i0+1)).filter fun x=>!zqu y x) 0∧zee cur A (i0+1) from ⟨by rw [h0,List.length_take];omega,by
   rw [h0]
   exact fun a x t u ha hx hu=>HA0 a x t u ha (ztd hx) hu,HA0.mono (Nat.zero_le _)⟩)
  have HC2:=zH (zab hb hc);have HBa:=zH (zab hb (show w.heap[Ba]?=some (.cells (zbw y).toArray 230) from by assumption));have HBB:=zH hb;have HFL:=zH (And.intro hb0 (And.intro hn1 (And.intro hcm hsz)));have HNN:=zH hN;rw [hN] at hl hn1 ⊢;have hm1:((i0:Int)==-1)=false:=by rw [beq_eq_false_iff_ne];omega
  clear hN hfl HA0 h0 hx0 hl0 hbef hc hb hv HV;go_wp2_with fail;go_loopw [5,6] (fun v5 v6 wr=>∃(i j:Nat) (X:Array Value),v5=.int .i64 i∧v6=.int .i64 j∧i<j∧j≤N∧wr.heap[g]?=some (.cells X 230 (0,0))∧X.size=cap * 9∧(i=((A.take j).filter fun x=>!zqu y x).length∧zee X ((A.take j).filter fun x=>!zqu y x) 0∧zee X A j)∧w2.grownBy wr (some g)) (fun _ v6 _=>N - (intOf v6).toNat);case atStart=>exact ⟨i0,i0+1,cur,rfl,by go_num,by omega,by omega,HC2.out,HFL.out.2.2.2,HS0.out,World.grownBy.refl _ _⟩
  case round =>
   obtain ⟨i,j,X,rfl,rfl,hij,hjN,hX,hXs,hst,hgr⟩:=hrel;have HXg:=zH hX;have HST:=zH hst;have HGR:=zH hgr;have hzr:=hgr.size;have HBr:=zH (zak hgr HBa.out (fun e=>hgB (by injection e with e;exact e.symm)));clear hX hst hgr;by_cases hlt:j<N
   ·obtain ⟨x,hx⟩:∃x,A[j]?=some x:=⟨A[j]'(by rw [HNN.out];exact hlt),List.getElem?_eq_getElem _⟩;have x0:=cell_of_row wr _ (j * 9+0) _ _ _ HXg.out;have x1:=cell_of_row wr _ (j * 9+1) _ _ _ HXg.out;have x2:=cell_of_row wr _ (j * 9+2) _ _ _ HXg.out;have x3:=cell_of_row wr _ (j * 9+3) _ _ _ HXg.out;have x4:=cell_of_row wr _ (j * 9+4) _ _ _ HXg.out;have x5:=cell_of_row wr _ (j * 9+5) _ _ _ HXg.out;have x6:=cell_of_row wr _ (j * 9+6) _ _ _ HXg.out;have x7:=cell_of_row wr _ (j * 9+7) _ _ _ HXg.out;have x8:=cell_of_row wr _ (j * 9+8) _ _ _ HXg.out;rw [show X[j * 9+0]?=some (.int .i64 x.1) from HST.out.2.2 j x 0 _ zR hx rfl] at x0;rw [show X[j * 9+1]?=some (.int .i64 x.2.1.1) from HST.out.2.2 j x 1 _ zR hx rfl] at x1;rw [show X[j * 9+2]?=some (.int .i64 x.2.1.2) from HST.out.2.2 j x 2 _ zR hx rfl] at x2;rw [show X[j * 9+3]?=some (.int .i64 x.2.2.1) from HST.out.2.2 j x 3 _ zR hx rfl] at x3;rw [show X[j * 9+4]?=some (.int .i64 x.2.2.2) from HST.out.2.2 j x 4 _ zR hx rfl] at x4;rw [show X[j * 9+5]?=some (.int .i64 (xlo x.2)) from HST.out.2.2 j x 5 _ zR hx rfl] at x5;rw [show X[j * 9+6]?=some (.int .i64 (xhi x.2)) from HST.out.2.2 j x 6 _ zR hx rfl] at x6;rw [show X[j * 9+7]?=some (.int .i64 (ylo x.2)) from HST.out.2.2 j x 7 _ zR hx rfl] at x7;rw [show X[j * 9+8]?=some (.int .i64 (yhi x.2)) from HST.out.2.2 j x 8 _ zR hx rfl] at x8;have x0':wr.cell? ⟨g,j * 9,none⟩=some (.int .i64 x.1):=x0;have gz:=zaf HXg.out;have HJX:=zH hx;have F1:=zH (fun W hb=>FR.out x W hb);have HFS:=zH (zqz (p:=fun x=>!zqu y x) hx);clear hx x0;obtain ⟨bd,hbd⟩:∃z,z=zqu y x:=⟨_,rfl⟩;rw [←hbd] at F1 HFS;clear hbd;have HEN:=zH (show (zbw x).toArray=#[.int .i64 x.1,.int .i64 x.2.1.1,.int .i64 x.2.1.2,.int .i64 x.2.2.1,.int .i64 x.2.2.2,.int .i64 (xlo x.2),.int .i64 (xhi x.2),.int .i64 (ylo x.2),.int .i64 (yhi x.2)] from rfl);rw [HEN.out] at F1;go_wp2_with fail;generalize hw4:wr.alloc _=w4;have BX:=gB1 hw4;have HV4:=gA11 hw4;have hz4:w4.heap.size=wr.heap.size+1:=(by rw [←hw4];simp);clear hw4;refine (F1.out _ (zab BX HBr.out)).mono ?_;rintro e w5 ⟨rfl,hb5⟩;have B5:=zac BX zR hb5;have HX5:=zH (zab B5 HXg.out);have HV5:=zH (zab hb5 HV4);have hz5:=hb5.size;have G5:=zH (HGR.out.trans ⟨B5.os,B5.tape,B5.output,B5.size,fun k hk _=>B5.block k hk⟩);clear hb5 BX HV4 B5 x1 x2 x3 x4 x5 x6 x7 x8 x0';cases bd with
    |true =>
     have HF2:=zH (show ((A.take (j+1)).filter fun x=>!zqu y x)=(A.take j).filter fun x=>!zqu y x by rw [HFS.out];simp);have HS2:=zH (show i=((A.take (j+1)).filter fun x=>!zqu y x).length∧zee X ((A.take (j+1)).filter fun x=>!zqu y x) 0∧zee X A (j+1) from by rw [HF2.out];exact ⟨HST.out.1,HST.out.2.1,HST.out.2.2.mono (Nat.le_succ _)⟩)
     go_wp2;go_roundw;case rel=>exact ⟨i,j+1,X,rfl,by go_num,by omega,by omega,HX5.out,hXs,HS2.out,G5.out⟩
     case measure=>simp [intOf];omega
    |false =>
     have HF2:=zH (show ((A.take (j+1)).filter fun x=>!zqu y x)=((A.take j).filter fun x=>!zqu y x)++[x] by rw [HFS.out];simp);have hcap:N≤cap:=(by have:=HFL.out.2.1;rw [HNN.out] at this;exact this);have hi9:i * 9+9≤X.size:=(by omega);obtain ⟨u0',hu0⟩:∃u,X[i * 9+0]?=some u:=⟨_,Array.getElem?_eq_getElem (by omega)⟩;have s0:=(cell_of_row w5 _ (i * 9+0) _ _ _ HX5.out).trans hu0;obtain ⟨u1',hu1⟩:∃u,X[i * 9+1]?=some u:=⟨_,Array.getElem?_eq_getElem (by omega)⟩;have s1:=(cell_of_row w5 _ (i * 9+1) _ _ _ HX5.out).trans hu1;obtain ⟨u2',hu2⟩:∃u,X[i * 9+2]?=some u:=⟨_,Array.getElem?_eq_getElem (by omega)⟩;have s2:=(cell_of_row w5 _ (i * 9+2) _ _ _ HX5.out).trans hu2;obtain ⟨u3',hu3⟩:∃u,X[i * 9+3]?=some u:=⟨_,Array.getElem?_eq_getElem (by omega)⟩;have s3:=(cell_of_row w5 _ (i * 9+3) _ _ _ HX5.out).trans hu3;obtain ⟨u4',hu4⟩:∃u,X[i * 9+4]?=some u:=⟨_,Array.getElem?_eq_getElem (by omega)⟩;have s4:=(cell_of_row w5 _ (i * 9+4) _ _ _ HX5.out).trans hu4;obtain ⟨u5',hu5⟩:∃u,X[i * 9+5]?=some u:=⟨_,Array.getElem?_eq_getElem (by omega)⟩;have s5:=(cell_of_row w5 _ (i * 9+5) _ _ _ HX5.out).trans hu5;obtain ⟨u6',hu6⟩:∃u,X[i * 9+6]?=some u:=⟨_,Array.getElem?_eq_getElem (by omega)⟩;have s6:=(cell_of_row w5 _ (i * 9+6) _ _ _ HX5.out).trans hu6;obtain ⟨u7',hu7⟩:∃u,X[i * 9+7]?=some u:=⟨_,Array.getElem?_eq_getElem (by omega)⟩;have s7:=(cell_of_row w5 _ (i * 9+7) _ _ _ HX5.out).trans hu7;obtain ⟨u8',hu8⟩:∃u,X[i * 9+8]?=some u:=⟨_,Array.getElem?_eq_getElem (by omega)⟩;have s8:=(cell_of_row w5 _ (i * 9+8) _ _ _ HX5.out).trans hu8;have f0:=frozen_of_row w5 _ (i * 9+0) _ _ HX5.out;have f1:=frozen_of_row w5 _ (i * 9+1) _ _ HX5.out;have f2:=frozen_of_row w5 _ (i * 9+2) _ _ HX5.out;have f3:=frozen_of_row w5 _ (i * 9+3) _ _ HX5.out;have f4:=frozen_of_row w5 _ (i * 9+4) _ _ HX5.out;have f5:=frozen_of_row w5 _ (i * 9+5) _ _ HX5.out;have f6:=frozen_of_row w5 _ (i * 9+6) _ _ HX5.out;have f7:=frozen_of_row w5 _ (i * 9+7) _ _ HX5.out;have f8:=frozen_of_row w5 _ (i * 9+8) _ _ HX5.out;have s0':w5.cell? ⟨g,i * 9,none⟩=some u0':=s0;have f0':w5.frozen? ⟨g,i * 9,none⟩=false:=f0;clear hu0 hu1 hu2 hu3 hu4 hu5 hu6 hu7 hu8 s0 f0 hi9;have bz:=zaf HV5.out;have b0:=cell_of_row w5 _ 0 _ _ _ HV5.out;have b1:=cell_of_row w5 _ 1 _ _ _ HV5.out;have b2:=cell_of_row w5 _ 2 _ _ _ HV5.out;have b3:=cell_of_row w5 _ 3 _ _ _ HV5.out;have b4:=cell_of_row w5 _ 4 _ _ _ HV5.out;have b5:=cell_of_row w5 _ 5 _ _ _ HV5.out;have b6:=cell_of_row w5 _ 6 _ _ _ HV5.out;have b7:=cell_of_row w5 _ 7 _ _ _ HV5.out;have b8:=cell_of_row w5 _ 8 _ _ _ HV5.out;simp only [List.getElem?_toArray,List.getElem?_cons_zero,List.getElem?_cons_succ] at b0 b1 b2 b3 b4 b5 b6 b7 b8;go_wp2_with fail;have hcs:((((((((w5.setCell ⟨g,i * 9,none⟩ (.int .i64 x.1)).setCell ⟨g,i * 9+1,none⟩ (.int .i64 x.2.1.1)).setCell ⟨g,i * 9+2,none⟩ (.int .i64 x.2.1.2)).setCell ⟨g,i * 9+3,none⟩ (.int .i64 x.2.2.1)).setCell ⟨g,i * 9+4,none⟩ (.int .i64 x.2.2.2)).setCell ⟨g,i * 9+5,none⟩ (.int .i64 (xlo x.2))).setCell ⟨g,i * 9+6,none⟩ (.int .i64 (xhi x.2))).setCell ⟨g,i * 9+7,none⟩ (.int .i64 (ylo x.2))).setCell ⟨g,i * 9+8,none⟩ (.int .i64 (yhi x.2))=w5.setCells g (i * 9) (zbw x):=rfl;have HX6:=zH (zbf (zbw x) (i * 9) w5 X HX5.out);have G6:=zH (G5.out.trans (zal (g:=g) (zbw x) (i * 9) w5));have hi9:i * 9+9≤X.size:=(by omega);have HS2:=zH (show i+1=((A.take (j+1)).filter fun x=>!zqu y x).length∧zee (zfy X (i * 9) (zbw x)) ((A.take (j+1)).filter fun x=>!zqu y x) 0∧zee (zfy X (i * 9) (zbw x)) A (j+1) from by
      rw [HF2.out,List.length_append,←HST.out.1]
      refine ⟨rfl,?_,(HST.out.2.2.splice_after hij hi9).mono (Nat.le_succ _)⟩
      have h:=HST.out.2.1.splice_snoc (x:=x) (by rw [←HST.out.1];exact hi9)
      rw [←HST.out.1] at h
      exact h)
     have hss:=zjs (zbw x) X (i * 9);have hsz2:(zfy X (i * 9) (zbw x)).size=cap * 9:=(by rw [hss];exact hXs);go_roundw;case rel =>
      rw [hcs];exact ⟨i+1,j+1,zfy X (i * 9) (zbw x),by go_num,by go_num,by omega,by omega,HX6.out,hsz2,HS2.out,G6.out⟩
     case measure=>simp [intOf];omega
   ·obtain rfl:j=N:=(by omega);have hcl:=fun ty=>zvk (P:=Tryz.prog) (ty:=ty) (c:=cap - i) (n:=j - i) (o:=i * 9) Tryz.underlying225 (zaqi wr) HXg.out (by simp only [Value.cells];show _+_ * 9≤_;have:=HFL.out.2.1;rw [HNN.out] at this;omega) (by omega) (zarf _);obtain ⟨Y,hY⟩:∃Y,Y=(X.toList.take (i * 9)++(Builtin.zeroCells (Value.agg #[.int .i64 0,.int .i64 0,.int .i64 0,.int .i64 0,.int .i64 0,.int .i64 0,.int .i64 0,.int .i64 0,.int .i64 0]).cells (j - i)).toList++X.toList.drop (i * 9+(j - i) * (Value.agg #[.int .i64 0,.int .i64 0,.int .i64 0,.int .i64 0,.int .i64 0,.int .i64 0,.int .i64 0,.int .i64 0,.int .i64 0]).cells.size)).toArray:=⟨_,rfl⟩;rw [←hY] at hcl;have hle:i * 9+(j - i) * 9≤X.size:=(by have:=HFL.out.2.1;rw [HNN.out] at this;omega);have hYs:Y.size=cap * 9:=by rw [hY,List.size_toArray,List.length_append,List.length_append,zgq,List.length_take,List.length_drop];show min (i * 9) _+(j - i) * 9+(_ - (i * 9+(j - i) * 9))=_;rw [Array.length_toList];omega
    have hYt:Y.toList.take (i * 9)=((A.take j).filter fun x=>!zqu y x).flatMap zbw:=by have h2:=HST.out.2.1.flat;rw [←HST.out.1] at h2;rw [hY,List.append_assoc,←h2];have hl9:(X.toList.take (i * 9)).length=i * 9:=(by rw [List.length_take,Array.length_toList];omega);rw [List.take_append_of_le_length (by omega),List.take_of_length_le (by omega)]
    have hA:A.take j=A:=List.take_of_length_le (by rw [HNN.out];exact Nat.le_refl _);have hi:=HST.out.1;rw [hA] at hYt hi;have hg3:(wr.setRow g Y).heap[g]?=some (.cells Y 230 (0,0)):=setRow_heap wr g X _ _ _ HXg.out;have hgr3:wr.grownBy (wr.setRow g Y) (some g):=⟨rfl,rfl,rfl,by simp,fun k hk hne'=>setRow_other _ _ _ _ (fun e=>hne' (by rw [e]))⟩;have HE:=zH (show zaag A y base (.slice (some ⟨g,0,none⟩) j cap) w (.returned (.slice (some ⟨g,0,none⟩) i cap)) (wr.setRow g Y) from ⟨_,rfl,⟨by rw [zbs zbw 9 zdd],Or.inr ⟨g,cap,Y,by rw [←hi],HFL.out.1,hg3,by rw [←hi];have:=HFL.out.2.1;rw [HNN.out] at this;omega,HFL.out.2.2.1,hYs,by rw [←hi];exact hYt⟩⟩,
     ((show w.grownBy w2 (some g) from ⟨HBB.out.os,HBB.out.tape,HBB.out.output,HBB.out.size,fun k hk _=>HBB.out.block k hk⟩).trans HGR.out).trans hgr3,rfl⟩)
    clear hYs hYt hA hi hg3 hgr3 hY hle;go_wp2;go_ret;exact HE.out
end Go.Proofs.YtibpaaajghbkoaaGreat

namespace Go.Proofs.YtibpaaajghbkoaaGreat
open Go.RowKit Go.Sort
def zhz (S:List Sg):List ItD:=(List.range S.length).map fun i=>(i,(S[i]?).getD ((0,0),(0,0)))
theorem zaeh {S:List Sg} {i:Nat} {s:Sg} (h:S[i]?=some s):(zhz S)[i]?=some (i,s):=by have hi:=(List.getElem?_eq_some_iff.1 h).1;unfold zhz;rw [List.getElem?_map,List.getElem?_range hi,Option.map_some,h];rfl
theorem zom {S:List Sg} {x:ItD}:x∈zhz S↔S[x.1]?=some x.2:=by
 unfold zhz;rw [List.mem_map];constructor
 ·rintro ⟨i,hi,rfl⟩;rw [List.mem_range] at hi;rw [List.getElem?_eq_getElem hi];rfl
 ·intro h;exact ⟨x.1,List.mem_range.2 (List.getElem?_eq_some_iff.1 h).1,by rw [h];rfl⟩
def zaco (a b:ItD):Bool:=decide (ylo a.2≤yhi b.2) && decide (ylo b.2≤yhi a.2)
def zyv (a b:ItD):MtD:=(min a.1 b.1,max a.1 b.1,zdo a.2 b.2)
def zea (a b:ItD):Option MtD:=if zaco a b=true then (if zdo a.2 b.2=0 then none else some (zyv a b)) else none
def zrs (a:ItD) (act:List ItD):List ItD:=act.filter fun x=>!zqu a x
def zbr (Q:List ItD):Nat→List ItD × List MtD
 |0=>([],[])
 |k+1=>match Q[k]? with
  |some a=>(zrs a (zbr Q k).1++[a],(zbr Q k).2++(zrs a (zbr Q k).1).filterMap (zea a))
  |none=>zbr Q k
theorem zjq {Q:List ItD} {k:Nat} {a:ItD} (h:Q[k]?=some a):zbr Q (k+1)=(zrs a (zbr Q k).1++[a],(zbr Q k).2++(zrs a (zbr Q k).1).filterMap (zea a)):=by rw [zbr,h]
def zafh (Q:List ItD):Prop:=Q.Pairwise fun x y=>xlo x.2≤xlo y.2
theorem zakl {Q:List ItD} (hs:zafh Q):∀k,(∀x∈(zbr Q k).1,x∈Q.take k)∧∀x∈Q.take k,x ∉ (zbr Q k).1→∃a∈Q.take k,xhi x.2<xlo a.2
 |0=>⟨fun x h=>(by cases h),fun x h=>(by simp at h)⟩
 |k+1=>by
  obtain ⟨h1,h2⟩:=zakl hs k;cases hq:Q[k]? with
  |none =>have hl:Q.length≤k:=List.getElem?_eq_none_iff.1 hq;have e:zbr Q (k+1)=zbr Q k:=(by rw [zbr,hq]);rw [e,List.take_of_length_le (by omega)];rw [List.take_of_length_le hl] at h1 h2;exact ⟨h1,h2⟩
  |some a =>
   obtain ⟨hk,e⟩:=List.getElem?_eq_some_iff.1 hq;rw [zjq hq,List.take_succ_eq_append_getElem hk,e];refine ⟨fun x hx=>?_,fun x hx hn=>?_⟩
   ·rcases List.mem_append.1 hx with h | h
    ·exact List.mem_append_left _ (h1 x (List.mem_filter.1 h).1)
    ·exact List.mem_append_right _ h
   ·simp only [List.mem_append,not_or] at hn;rcases List.mem_append.1 hx with h | h
    ·by_cases hx1:x∈(zbr Q k).1
     ·refine ⟨a,List.mem_append_right _ (List.mem_singleton.2 rfl),?_⟩;have:=hn.1;unfold zrs at this;rw [List.mem_filter] at this;cases hl:zqu a x with
      |true=>exact of_decide_eq_true hl
      |false=>exact absurd ⟨hx1,by rw [hl];rfl⟩ this
     ·obtain ⟨b,hb,hlt⟩:=h2 x h hx1;exact ⟨b,List.mem_append_left _ hb,hlt⟩
    ·exact absurd h hn.2
theorem zabt {Q:List ItD} (hs:zafh Q) {k:Nat} {a:ItD} (ha:Q[k]?=some a) (x:ItD):x∈zrs a (zbr Q k).1↔x∈Q.take k∧xlo a.2≤xhi x.2:=by
 obtain ⟨h1,h2⟩:=zakl hs k;unfold zrs;rw [List.mem_filter];have hl:(!zqu a x)=true↔xlo a.2≤xhi x.2:=by unfold zqu;rw [Bool.not_eq_true',decide_eq_false_iff_not];omega
 rw [hl];refine ⟨fun h=>⟨h1 x h.1,h.2⟩,fun h=>⟨?_,h.2⟩⟩;refine Classical.byContradiction fun hn=>?_;obtain ⟨b,hb,hlt⟩:=h2 x h.1 hn;obtain ⟨j,hj⟩:=List.getElem?_of_mem hb;have hjk:j<k:=by have:=(List.getElem?_eq_some_iff.1 hj).1;rw [List.length_take] at this;omega
 have hbj:Q[j]?=some b:=ztd hj;obtain ⟨j1,j2⟩:=List.getElem?_eq_some_iff.1 hbj;obtain ⟨k1,k2⟩:=List.getElem?_eq_some_iff.1 ha;have:=List.pairwise_iff_getElem.1 hs j k j1 k1 hjk;rw [j2,k2] at this;omega
theorem zacg {a b:ItD} (h:zdo a.2 b.2≠0):xlo a.2≤xhi b.2∧zaco a b=true:=by rw [zhu] at h;have:=zaht h;unfold zaco xlo xhi ylo yhi;rw [Bool.and_eq_true,decide_eq_true_eq,decide_eq_true_eq];omega
theorem zwk {Q:List ItD} (hs:zafh Q):∀k (m:MtD),m∈(zbr Q k).2↔∃j a b,j<k∧Q[j]?=some a∧b∈Q.take j∧zdo a.2 b.2≠0∧m=zyv a b
 |0,m=>by simp [zbr]
 |k+1,m=>by
  have ih:=zwk hs k m;cases hq:Q[k]? with
  |none =>
   have e:zbr Q (k+1)=zbr Q k:=(by rw [zbr,hq]);rw [e,ih];constructor
   ·rintro ⟨j,a,b,hj,h⟩;exact ⟨j,a,b,by omega,h⟩
   ·rintro ⟨j,a,b,hj,h⟩;refine ⟨j,a,b,?_,h⟩;have:j≠k:=fun e=>(by subst e;rw [hq] at h;cases h.1);omega
  |some a =>
   rw [zjq hq];simp only [List.mem_append];rw [ih,List.mem_filterMap];constructor
   ·rintro (⟨j,a',b,hj,h⟩ | ⟨b,hb,hf⟩)
    ·exact ⟨j,a',b,by omega,h⟩
    ·rw [zabt hs hq] at hb;unfold zea at hf;split at hf
     ·split at hf
      ·cases hf
      ·rename_i hne;injection hf with hf;exact ⟨k,a,b,Nat.lt_succ_self _,hq,hb.1,hne,hf.symm⟩
     ·cases hf
   ·rintro ⟨j,a',b,hj,h1,h2,h3,h4⟩;by_cases e:j=k
    ·subst e;rw [hq] at h1;injection h1 with h1;subst h1;right;refine ⟨b,(zabt hs hq b).2 ⟨h2,(zacg h3).1⟩,?_⟩;unfold zea;rw [if_pos (zacg h3).2,if_neg h3,h4]
    ·exact Or.inl ⟨j,a',b,by omega,h1,h2,h3,h4⟩
theorem zmc (s t:Sg):zdo t s=zdo s t:=by rw [zhu,zhu,zch]
theorem zxz {S:List Sg} {Q:List ItD} (hp:Q.Perm (zhz S)) (hs:zafh Q) (m:MtD) :
  m∈(zbr Q Q.length).2↔∃s t,m.1<m.2.1∧S[m.1]?=some s∧S[m.2.1]?=some t∧m.2.2=zdo s t∧m.2.2≠0:=by
 have hnd:Q.Pairwise fun x y=>x.1≠y.1:=by
  have h1:(zhz S).Pairwise fun x y=>x.1≠y.1:=by unfold zhz;rw [List.pairwise_map];exact List.nodup_range.imp fun h=>h
  exact (hp.pairwise_iff (fun h=>Ne.symm h)).2 h1
 have hmem:∀x,x∈Q↔S[x.1]?=some x.2:=fun x=>by rw [hp.mem_iff,zom]
 rw [zwk hs];constructor
 ·rintro ⟨j,a,b,hj,ha,hb,hne,rfl⟩;have hbQ:b∈Q:=List.mem_of_mem_take hb;have haQ:=zM ha;have hab:b.1≠a.1:=by
   obtain ⟨i,hi⟩:=List.getElem?_of_mem hb;have hij:i<j:=by have:=(List.getElem?_eq_some_iff.1 hi).1;rw [List.length_take] at this;omega
   obtain ⟨i1,i2⟩:=List.getElem?_eq_some_iff.1 (ztd hi);obtain ⟨j1,j2⟩:=List.getElem?_eq_some_iff.1 ha;have:=List.pairwise_iff_getElem.1 hnd i j i1 j1 hij;rw [i2,j2] at this;exact this
  have e1:=(hmem a).1 haQ;have e2:=(hmem b).1 hbQ;unfold zyv;simp only;rcases Nat.lt_or_gt_of_ne hab with h | h
  ·rw [Nat.min_eq_right (by omega),Nat.max_eq_left (by omega)];exact ⟨b.2,a.2,h,e2,e1,zmc _ _,hne⟩
  ·rw [Nat.min_eq_left (by omega),Nat.max_eq_right (by omega)];exact ⟨a.2,b.2,h,e1,e2,rfl,hne⟩
 ·rintro ⟨s,t,hlt,h1,h2,h3,h4⟩;obtain ⟨m1,m2,mk⟩:=m;simp only at hlt h1 h2 h3 h4;obtain ⟨i,hi⟩:=List.getElem?_of_mem ((hmem (m1,s)).2 h1);obtain ⟨j,hj⟩:=List.getElem?_of_mem ((hmem (m2,t)).2 h2);obtain ⟨i1,i2⟩:=List.getElem?_eq_some_iff.1 hi;obtain ⟨j1,j2⟩:=List.getElem?_eq_some_iff.1 hj;subst h3;rcases Nat.lt_trichotomy i j with h | h | h
  ·refine ⟨j,(m2,t),(m1,s),j1,hj,?_,by rw [zmc];exact h4,?_⟩
   ·exact zM (show (Q.take j)[i]?=some (m1,s) by rw [List.getElem?_take,if_pos h];exact hi)
   ·unfold zyv;simp only;rw [Nat.min_eq_right (by omega),Nat.max_eq_left (by omega),zmc]
  ·subst h;rw [hi] at hj;injection hj with hj;injection hj with hj _;omega
  ·refine ⟨i,(m1,s),(m2,t),i1,hi,?_,h4,?_⟩
   ·exact zM (show (Q.take i)[j]?=some (m2,t) by rw [List.getElem?_take,if_pos h];exact hj)
   ·unfold zyv;simp only;rw [Nat.min_eq_left (by omega),Nat.max_eq_right (by omega)]
theorem zrx (Q:List ItD):∀k,(zbr Q k).1.length≤k∧(zbr Q k).2.length≤k * k
 |0=>by simp [zbr]
 |k+1=>by
  obtain ⟨h1,h2⟩:=zrx Q k;have hmul:(k+1) * (k+1)=k * k+k+k+1:=by rw [Nat.add_mul,Nat.mul_add];omega
  cases hq:Q[k]? with
  |none =>have e:zbr Q (k+1)=zbr Q k:=(by rw [zbr,hq]);rw [e,hmul];omega
  |some a =>rw [zjq hq,hmul];have h3:(zrs a (zbr Q k).1).length≤(zbr Q k).1.length:=List.length_filter_le _ _;have h4:=List.length_filterMap_le (zea a) (zrs a (zbr Q k).1);simp only [List.length_append,List.length_singleton];omega
end Go.Proofs.YtibpaaajghbkoaaGreat
