/-   -/
import Derived.Test.YtibpaaajghbkoaaGreatWBa
import Derived.Test.YtibpaaajghbkoaaGreatWAm
namespace Go.Proofs.YtibpaaajghbkoaaGreat
open Go.RowKit Go.Sort Go.Maps Go.ChangeMaps
theorem znm {w w':World} {g i:Nat} (h:w'.heap[g]?=w.heap[g]?):w'.cell? ⟨g,i,none⟩=w.cell? ⟨g,i,none⟩:=by simp only [World.cell?,h]
def VR (lo:Nat) (w:World) (v:Value) (x:zeh):Prop :=
 OrdK x.1∧∃g n c,x.2=(some ⟨g,0,none⟩,n,c)∧zaj w (.slice (some ⟨g,0,none⟩) n c) (idsK x.1)∧v.ownBlock≠some g∧lo<g∧g<w.heap.size
theorem zaj.same {w w':World} {g n c:Nat} {ids:List ByteArray} (h:zaj w (.slice (some ⟨g,0,none⟩) n c) ids) (hg:w'.heap[g]?=w.heap[g]?):zaj w' (.slice (some ⟨g,0,none⟩) n c) ids:=by obtain ⟨a,cap,e,h1,h2,h3⟩:=h;injection e with e1 e2 e3;subst e1 e2 e3;refine ⟨_,_,rfl,h1,h2,fun hl=>?_⟩;obtain ⟨b,off,hb,h4⟩:=h3 hl;injection hb with hb;injection hb with e1 e2 e3;subst e1 e2;exact ⟨_,_,rfl,fun i s hs=>by rw [znm hg];exact h4 i s hs⟩
theorem VR.kept {lo:Nat} {w w':World} {v:Value} {x:zeh} {row:Option Nat} (h:VR lo w v x) (hg:w.grownBy w' row) (hr:row=v.ownBlock∨row=none∨row=some lo):VR lo w' v x:=by
 obtain ⟨h0,g,n,c,h1,h2,h3,h4,h5⟩:=h;have hne:some g≠row:=fun e=>by
  rcases hr with hr | hr | hr
  ·exact h3 (hr.symm.trans e.symm)
  ·rw [hr] at e;cases e
  ·rw [hr] at e;injection e with e;omega
 exact ⟨h0,g,n,c,h1,h2.same (hg.block g h5 hne),h3,h4,Nat.lt_of_lt_of_le h5 hg.size⟩
theorem VR.on {lo:Nat} {w w':World} {v:Value} {x:zeh} (h:VR lo w v x) (hb:Below w.heap.size w w'):VR lo w' v x:=by obtain ⟨h0,g,n,c,h1,h2,h3,h4,h5⟩:=h;exact ⟨h0,g,n,c,h1,h2.same (hb.block g h5),h3,h4,Nat.lt_of_lt_of_le h5 hb.size⟩
theorem VR.at {lo:Nat} {w w0:World} {v v':Value} {x:zeh} (h:VR lo w v x) (hs:VR lo w0 v x) (hl:v'.ownBlock=v.ownBlock∨v'.ownBlock=some w0.heap.size):VR lo w v' x:=by
 obtain ⟨h0,g,n,c,h1,h2,h3,h4,h5⟩:=h;obtain ⟨_,g',n',c',h1',_,_,_,h5'⟩:=hs;rw [h1] at h1';injection h1' with e _;injection e with e;injection e with e _;subst e;refine ⟨h0,g,n,c,h1,h2,fun e=>?_,h4,h5⟩;rcases hl with hl | hl
 ·exact h3 (hl.symm.trans e)
 ·rw [hl] at e;injection e with e;omega
theorem VR.row {lo:Nat} {w:World} {v:Value} {x:zeh} (h:VR lo w v x):zaj w (.slice x.2.1 x.2.2.1 x.2.2.2) (idsK x.1):=by obtain ⟨h0,g,n,c,h1,h2,h3,h4,h5⟩:=h;rw [h1];exact h2
theorem zafl {lo:Nat} {w:World} {base n:Nat} {v:Value} {L:List zeh} (hn:n=L.length) (hsz:n<4611686018427387904) (hown:w.ownsRow base 102 3 v n (L.flatMap zeg)) (hv:∀x∈L,VR lo w v x) (h0:L=[]→v=.slice none 0 0) :
  Calls Tryz.prog 78 #[v,.func (.func 79) #[] #[]] w fun e w'=>e=.returned (.tuple #[])∧∃L':List zeh,L'.Perm L∧L'.Pairwise (fun x y=>ltOf cfLn y x=false)∧w'.ownsRow base 102 3 v n (L'.flatMap zeg)∧w.grownBy w' v.ownBlock:=by
 subst hn;cases hL:L with
 |nil =>have hv0:=h0 hL;subst hv0;rw [hL] at hown;refine (AnyF.slices_SortFunc_none Tryz.sort_viol none 0 (.func (.func 79) #[] #[]) w).mono ?_;rintro en w' ⟨rfl,rfl⟩;exact ⟨rfl,[],List.Perm.refl _,List.Pairwise.nil,hown,World.grownBy.refl _ _⟩
 |cons x0 L0 =>
 rw [←hL]
 haveI:Inhabited {x:zeh // VR lo w v x}:=⟨⟨x0,hv x0 (by rw [hL];exact List.mem_cons_self ..)⟩⟩
 clear hL;have hflat:∀M:List {x:zeh // VR lo w v x},M.flatMap (fun x=>zeg x.1)=(M.map (·.1)).flatMap zeg:=fun M=>by rw [List.flatMap_map]
 have hat:(L.attachWith _ hv).map (·.1)=L:=by simp [List.attach_map_subtype_val]
 have hH:w.ownsRow base 102 3 v L.length ((L.attachWith _ hv).flatMap fun x=>zeg x.1):=by rw [hflat,hat];exact hown
 have HS:=zli (α:={x:zeh // VR lo w v x}) Tryz.sort_viol 3 Tryz.isAgg102 Tryz.sizeOf102 (fun x=>zeg x.1) (fun _=>rfl) (fun x=>znj x.1) (fun x y=>cfLn x.1 y.1)
  { irrefl:=fun x=>zaku.irrefl x.1,trans:=fun x y z h h2=>zaku.trans x.1 y.1 z.1 h h2,ntrans:=fun x y z h h2=>zaku.ntrans x.1 y.1 z.1 h h2 }
  79 #[] (enters_of Tryz.func79 (by kernel_rfl) rfl) (by simp) hsz (fun W hg x y=>zaod x.1 y.1 W (x.2.kept hg (Or.inl rfl)).row (y.2.kept hg (Or.inl rfl)).row x.2.1 y.2.1) hH
 refine HS.mono ?_;rintro e w' ⟨rfl,M,hp,hso,ho,hg⟩;refine ⟨rfl,M.map (·.1),?_,?_,by rw [←hflat];exact ho,hg⟩
 ·have:=hp.map (·.1);rwa [hat] at this
 ·rw [List.pairwise_map];exact hso
theorem zxv {l:List ObjD} {N:List KeyD} (hk:∀key,key∈N↔key∈badP l) (hn:N.Nodup) {L:List zeh} (hL:(L.map (·.1)).Perm N) (hso:L.Pairwise (fun x y=>ltOf cfLn y x=false)):L.map (·.1)=zdf l:=by
 refine zkn ?_ (zdm _) fun x=>by rw [hL.mem_iff,hk];exact zlp.symm
 have hn':=hL.nodup_iff.2 hn;unfold zns;rw [List.pairwise_map];rw [List.nodup_iff_pairwise_ne,List.pairwise_map] at hn';refine (hso.and hn').imp fun {a b} h=>?_;have h1:=h.1;rw [zrh] at h1;cases h2:ltK a.1 b.1 with
 |true=>rfl
 |false=>exact absurd (zhw h2 h1) h.2
end Go.Proofs.YtibpaaajghbkoaaGreat

namespace Go.Proofs.YtibpaaajghbkoaaGreat
open Go.RowKit
section
variable {P:Program} {md:Region.Mode} {ops:Array Oper} {S0:World→Prop} {Q:Act→World→Prop}
theorem zdn.mk' {o:Oper} {a:Act} {S:World→Prop} {K':Act→(World→Prop)→Prop} {ι:Type} (val:ι→Value) (T:ι→World→Prop) (hst:∀x,StableW (T x)) (hs0:∀x w,T x w→S0 w)
  (hrun:∀w,S w→∀K:Act→World→Prop,(∀x w',T x w'→K (a.put o.dst (val x)) w')→o.wp P a w K (fun _ _ _=>False)) (hk:∀x,K' (a.put o.dst (val x)) (T x)):zdn P S0 o a K' S :=
 ⟨ι,val,T,hst,hs0,fun w hS=>hrun w hS _ fun x _ hT=>⟨x,rfl,hT⟩,hk⟩
theorem zng {listed:Array Bool} {i:Nat} (h:i<listed.size) (d:Bool):(listed.setIfInBounds i true).getD i d=true:=by simp [h]
theorem zaoe {n:Nat} (hc:Region.chainB md ops (n+1)=true) (hw2:Region.waitsFor md ops (n+2) n=true) (o1 o2:Oper) (rest:List Oper) (listed:Array Bool) (a:Act) (S:World→Prop)
  (hd:zeu ops n listed) (hl:∀j,(o1 :: o2 :: rest)[j]?=ops[n+j]?) (hB:Region.lexFrom md ops (rest.length+2) n listed=true) (hw1a:Region.wanted o1 (yielded ops a.tmps)=true) (hw2a:Region.wanted o2 (yielded ops a.tmps)=true)
  (h1:zdn P S0 o1 a (zft P ops S0 Q (o2 :: rest)) S)
  (h2:zdn P S0 o2 a (fun a' S'=>Region.wanted o1 (yielded ops a'.tmps)=true∧zdn P S0 o1 a' (zft P ops S0 Q rest) S') S):anyM P md ops S0 Q (rest.length+2) listed a S:=by
 have g1:ops[n]?=some o1:=by simpa using (hl 0).symm
 have g2:ops[n+1]?=some o2:=by simpa using (hl 1).symm
 have z1:n<ops.size:=(Array.getElem?_eq_some_iff.1 g1).1;have z2:n+1<ops.size:=(Array.getElem?_eq_some_iff.1 g2).1;simp only [Region.lexFrom,Bool.and_eq_true] at hB;obtain ⟨⟨hr,hf⟩,⟨hr2,hf2⟩,hB2⟩:=hB;have hr':n∈Region.ready md ops listed:=by simpa using hr
 have late:∀(listed':Array Bool) (i:Nat),(∀j,n+2≤j→j<ops.size→listed'.getD j false=false)→i∈Region.ready md ops listed'→n+3≤i→False:=fun listed' i hno hi hge=>by
  obtain ⟨hun,oi,hoi,hall⟩:=mem_ready.1 hi;have hiz:i<ops.size:=(Array.getElem?_eq_some_iff.1 hoi).1;have h4:=List.all_eq_true.1 hc i (List.mem_range.2 hiz);simp only [Bool.or_eq_true,decide_eq_true_eq] at h4;rcases h4 with h4 | h4
  ·omega
  ·obtain ⟨o',ho',e,he,hb,hon⟩:=Region.waitsFor_spec h4;have:o'=oi:=Option.some.inj (ho'.symm.trans hoi);subst this;have h5:=hall e he hb;rw [hon,hno (i - 1) (by omega) (by omega)] at h5;cases h5
 have wait2:∀(listed':Array Bool) ,listed'.getD n false=false→n+2∈Region.ready md ops listed'→False:=fun listed' hno hi=>by obtain ⟨hun,oi,hoi,hall⟩:=mem_ready.1 hi;obtain ⟨o',ho',e,he,hb,hon⟩:=Region.waitsFor_spec hw2;have:o'=oi:=Option.some.inj (ho'.symm.trans hoi);subst this;have h5:=hall e he hb;rw [hon,hno] at h5;cases h5
 have no1:∀j,n≤j→j<ops.size→∀d,listed.getD j d=false:=fun j hj hz d=>by rw [hd.2 j hz d];exact decide_eq_false (by omega)
 refine ⟨fun e=>(by rw [e] at hr';cases hr'),fun i hi=>?_⟩;have hik:i=n∨i=n+1:=by
  obtain ⟨hun,oi,hoi,_⟩:=mem_ready.1 hi;have hiz:i<ops.size:=(Array.getElem?_eq_some_iff.1 hoi).1;have h1:=hd.2 i hiz true;rw [hun] at h1;have h2:¬i<n:=of_decide_eq_false h1.symm;by_cases e2:i=n+2
  ·subst e2;exact (wait2 listed (no1 n zR z1 _) hi).elim
  ·by_cases e3:n+3≤i
   ·exact (late listed i (fun j hj hz=>no1 j (by omega) hz _) hi e3).elim
   ·omega
 rcases hik with rfl | rfl
 ·have step:∀b S',zft P ops S0 Q (o2 :: rest) b S'→anyM P md ops S0 Q (o2 :: rest).length (listed.setIfInBounds i true) b S':=fun b S' hb =>
   zjp hc (o2 :: rest) (i+1) _ b S' zR hd.step (fun j=>by have:=hl (j+1);simpa [Nat.add_assoc,Nat.add_comm 1 j] using this) (by simp only [List.length_cons,Region.lexFrom,Bool.and_eq_true];exact ⟨⟨hr2,hf2⟩,hB2⟩) hb
  unfold opM;simp only [g1,hw1a,if_true];exact Or.inr (h1.mono fun a' S' _ _ hk=>step a' S' hk)
 ·have hsz:n+1<listed.size:=by rw [hd.1];exact z2
  have un:(listed.setIfInBounds (n+1) true).getD n false=false:=by rw [getD_set_ne false (by omega),no1 n zR z1]
  have unt:(listed.setIfInBounds (n+1) true).getD n true=false:=by rw [getD_set_ne true (by omega),no1 n zR z1]
  have comm:(listed.setIfInBounds (n+1) true).setIfInBounds n true=(listed.setIfInBounds n true).setIfInBounds (n+1) true:=by rw [Array.setIfInBounds_comm];omega
  have hrn:n∈Region.ready md ops (listed.setIfInBounds (n+1) true):=by
   obtain ⟨_,oi,hoi,hall⟩:=mem_ready.1 hr';refine mem_ready.2 ⟨unt,oi,hoi,fun e he hb=>?_⟩;have h5:=hall e he hb;by_cases ee:n+1=e.on
   ·rw [←ee];exact zng hsz _
   ·rw [getD_set_ne false ee];exact h5
  unfold opM;simp only [g2,hw2a,if_true];refine Or.inr (h2.mono fun a' S' _ _ hk=>⟨fun e=>(by rw [e] at hrn;cases hrn),fun i hi=>?_⟩);have hin:i=n:=by
   obtain ⟨hun,oi,hoi,_⟩:=mem_ready.1 hi;have hiz:i<ops.size:=(Array.getElem?_eq_some_iff.1 hoi).1;by_cases e1:i=n+1
   ·subst e1;rw [zng hsz] at hun;cases hun
   ·rw [getD_set_ne true (by omega)] at hun;have h1:=hd.2 i hiz true;rw [hun] at h1;have h2:¬i<n:=of_decide_eq_false h1.symm;by_cases e2:i=n+2
    ·subst e2;exact (wait2 _ un hi).elim
    ·by_cases e3:n+3≤i
     ·exact (late _ i (fun j hj hz=>by rw [getD_set_ne false (by omega)];exact no1 j (by omega) hz _) hi e3).elim
     ·omega
  subst hin;unfold opM;simp only [g1,hk.1,if_true];refine Or.inr (hk.2.mono fun b S2 _ _ hk2=>?_);rw [comm];exact zjp hc rest (i+2) _ b S2 (by omega) hd.step.step (fun j=>by have:=hl (j+2);simpa [Nat.add_assoc,Nat.add_comm 2 j] using this) hB2 hk2
theorem zsz {id:Nat} {Q':Exit→Act→World→Prop} {a:Act} {w:World} {l:List Oper} (n:Nat) (S0 S1:World→Prop) (hm:P.follows .mixedOrders=true)
  (hB:Region.lexB .any l.toArray=true) (hc:Region.chainB .any l.toArray (n+1)=true) (hw2:Region.waitsFor .any l.toArray (n+2) n=true) (hd:zre (l.take n) a.tmps.size=true) (hst:StableW S1) (h10:∀W,S1 W→S0 W) (h1:S1 w.drew)
  (o1 o2:Oper) (rest:List Oper) (hl:l.drop n=o1 :: o2 :: rest)
  (hh:∃b,(∀W,S0 W→wpQuiet P l.toArray (ByW W) (fun a'=>a'=b) (l.take n) a)∧Region.wanted o1 (yielded l.toArray b.tmps)=true∧Region.wanted o2 (yielded l.toArray b.tmps)=true ∧
   zdn P S0 o1 b (zft P l.toArray S0 (fun a' w'=>Q' .normal a' w') (o2 :: rest)) S1 ∧
   zdn P S0 o2 b (fun a' S'=>Region.wanted o1 (yielded l.toArray a'.tmps)=true∧zdn P S0 o1 a' (zft P l.toArray S0 (fun a' w'=>Q' .normal a' w') rest) S') S1) :
  (Code.region id l.toArray true).wp P Q' a w:=by
 obtain ⟨b,hq,wa,wb,ht1,ht2⟩:=hh;simp only [Region.lexB,Bool.and_eq_true] at hB;refine wp_region_any hm (zbu (Q:=fun a' w'=>Q' .normal a' w') (S0:=S0) (fun _ _ h=>h) _ _ _ S1 hst h10 ?_ _ h1);have hlen:l.toArray.size=(l.take n).length+(l.drop n).length:=by rw [List.size_toArray,←List.length_append,List.take_append_drop]
 rw [hlen];have hn:n<l.length:=by have:=congrArg List.length hl;rw [List.length_drop] at this;simp at this;omega
 have e:(l.take n).length=n:=by rw [List.length_take];omega
 refine zkb hB.1 hst h10 (l.drop n).length (l.take n) 0 _ a (by rw [←hlen];exact zeu.start) (fun j o hj=>?_) (by rw [←hlen];exact hB.2) (zcp _ _ hd ⟨_,h10 _ h1⟩ hq) (fun listed' hd' hB'=>?_)
 ·rw [List.getElem?_take] at hj;rw [Nat.zero_add,List.getElem?_toArray];split at hj
  ·exact hj
  ·cases hj
 ·rw [e,Nat.zero_add] at hd' hB';rw [hl] at hB' ⊢;exact zaoe hc hw2 o1 o2 rest listed' b S1 hd' (fun j=>by rw [←hl,List.getElem?_drop,List.getElem?_toArray]) hB' wa wb ht1 ht2
end
end Go.Proofs.YtibpaaajghbkoaaGreat
