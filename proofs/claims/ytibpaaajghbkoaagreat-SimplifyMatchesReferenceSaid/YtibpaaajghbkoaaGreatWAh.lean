/-  -/

namespace Go.Proofs.YtibpaaajghbkoaaGreat
theorem zof {x K:Int} (hK:0<K) (h:0≤x * K):0≤x:=by
 rcases Int.lt_or_le x 0 with hx | hx
 ·have:=Int.mul_neg_of_neg_of_pos hx hK;omega
 ·exact hx
theorem znc {x y K:Int} (hK:0<K) (h:x * K≤y * K):x≤y:=by
 have:0≤(y - x) * K:=by rw [Int.sub_mul];omega
 have:=zof hK this;omega
def btw (v w:Int):Prop:=(0≤w∧w≤v)∨(v≤w∧w≤0)
theorem zrk {V W k K:Int} (hK:0<K) (h0:0≤k) (h1:k≤K) (h:V * k=W * K):btw V W:=by
 have key:∀V W:Int,0≤V→V * k=W * K→0≤W∧W≤V:=fun V W hv h=>by
  constructor
  ·refine zof hK ?_;rw [←h];exact Int.mul_nonneg hv h0
  ·refine znc hK ?_;rw [←h];exact Int.mul_le_mul_of_nonneg_left h1 hv
 rcases Int.lt_or_le V 0 with hv | hv
 ·have:=key (-V) (-W) (by omega) (by grind);right;omega
 ·exact Or.inl (key V W hv h)
theorem zrj {V W k K:Int} (hK:0<K) (hV:V≠0) (hb:btw V W) (h:V * k=W * K):0≤k∧k≤K:=by
 have key:∀V W:Int,0<V→0≤W→W≤V→V * k=W * K→0≤k∧k≤K:=fun V W hv h0 h1 h=>by
  constructor
  ·refine zof hv ?_;rw [Int.mul_comm,h];exact Int.mul_nonneg h0 (by omega)
  ·refine znc hv ?_;rw [Int.mul_comm k,h,Int.mul_comm K];exact Int.mul_le_mul_of_nonneg_right h1 (by omega)
 rcases hb with ⟨h0,h1⟩ | ⟨h0,h1⟩
 ·exact key V W (by omega) h0 h1 h
 ·exact key (-V) (-W) (by omega) (by omega) (by omega) (by grind)
theorem zsk (Vx Vy Wx Wy Ux Uy:Int) (h:Vx * Wy - Vy * Wx=0) (hK:0<Ux * Vy - Uy * Vx) :
  (btw Vx Wx∧btw Vy Wy)↔(0≤Ux * Wy - Uy * Wx∧Ux * Wy - Uy * Wx≤Ux * Vy - Uy * Vx):=by
 have e1:Vx * (Ux * Wy - Uy * Wx)=Wx * (Ux * Vy - Uy * Vx):=by grind
 have e2:Vy * (Ux * Wy - Uy * Wx)=Wy * (Ux * Vy - Uy * Vx):=by grind
 generalize Ux * Wy - Uy * Wx=k at *;constructor
 ·rintro ⟨b1,b2⟩;by_cases hx:Vx=0
  ·have hy:Vy≠0:=by intro hy;rw [hx,hy] at hK;simp at hK
   exact zrj hK hy b2 e2
  ·exact zrj hK hx b1 e1
 ·rintro ⟨h0,h1⟩;exact ⟨zrk hK h0 h1 e1,zrk hK h0 h1 e2⟩
theorem zaqn (Vx Vy Wx Wy Ux Uy:Int) (h:Vx * Wy - Vy * Wx=0) (hK:Ux * Vy - Uy * Vx≠0) :
  (btw Vx Wx∧btw Vy Wy)↔(Ux * Wy - Uy * Wx) * ((Ux * Vy - Uy * Vx) - (Ux * Wy - Uy * Wx)) ≥ 0:=by
 have hs:∀k K:Int,0<K→(k * (K - k) ≥ 0↔0≤k∧k≤K):=fun k K hK=>by
  constructor
  ·intro h;rcases Int.lt_or_le k 0 with h1 | h1
   ·have:=Int.mul_neg_of_neg_of_pos h1 (show 0<K - k by omega);omega
   ·rcases Int.lt_or_le K k with h2 | h2
    ·have:=Int.mul_neg_of_pos_of_neg (show 0<k by omega) (show K - k<0 by omega);omega
    ·omega
  ·rintro ⟨h1,h2⟩;exact Int.mul_nonneg h1 (by omega)
 rcases Int.lt_or_gt_of_ne hK with h1 | h1
 ·rw [zsk Vx Vy Wx Wy (-Ux) (-Uy) h (by grind)];have:=hs (-Ux * Wy - -Uy * Wx) (-Ux * Vy - -Uy * Vx) (by grind);rw [←this];have e:(-Ux * Wy - -Uy * Wx) * (-Ux * Vy - -Uy * Vx - (-Ux * Wy - -Uy * Wx))=(Ux * Wy - Uy * Wx) * ((Ux * Vy - Uy * Vx) - (Ux * Wy - Uy * Wx)):=by grind
  rw [e]
 ·rw [zsk Vx Vy Wx Wy Ux Uy h h1,hs _ _ h1]
abbrev Pt:=Int × Int
abbrev Sg:=Pt × Pt
def crs (a b c:Pt):Int:=(b.1 - a.1) * (c.2 - a.2) - (b.2 - a.2) * (c.1 - a.1)
def sgn (n:Int):Int:=if n<0 then -1 else if 0<n then 1 else 0
def lexC (a b:Pt):Int:=if a.1<b.1 then -1 else if b.1<a.1 then 1 else if a.2<b.2 then -1 else if b.2<a.2 then 1 else 0
def zat (p:Pt):Bool:=decide (-2097152≤p.1∧p.1≤2097152∧-2097152≤p.2∧p.2≤2097152)
def zbd (s:Sg):Bool:=zat s.1 && zat s.2
def srtS (s:Sg):Sg:=if 0<lexC s.1 s.2 then (s.2,s.1) else s
def onQ (s:Sg) (p:Pt):Bool :=
 decide (crs (srtS s).1 (srtS s).2 p=0) && decide (lexC (srtS s).1 p≤0) && decide (lexC p (srtS s).2≤0) && (decide ((srtS s).1≠(srtS s).2) || decide (p=(srtS s).1))
def zrr (s t:Sg):Int :=
 let p:=if t.1=t.2 then (t,s) else (s,t)
 if p.1.1=p.1.2 then
  if !onQ p.2 p.1.1 then 0 else if p.1.1=p.2.1∨p.1.1=p.2.2 then 1 else 2
 else
  let low:=if 0<lexC p.2.1 p.1.1 then p.2.1 else p.1.1
  let high:=if lexC p.2.2 p.1.2<0 then p.2.2 else p.1.2
  if lexC low high=-1 then 5 else if lexC low high=0 then 1 else 0
def zdo (s t:Sg):Int :=
 if !(zbd s && zbd t) then 0 else
 let s:=srtS s
 let t:=srtS t
 if s=t then 4
 else if s.1=s.2∨t.1=t.2∨(crs s.1 s.2 t.1=0∧crs s.1 s.2 t.2=0) then zrr s t
 else
  let a:=sgn (crs s.1 s.2 t.1)
  let b:=sgn (crs s.1 s.2 t.2)
  let c:=sgn (crs t.1 t.2 s.1)
  let d:=sgn (crs t.1 t.2 s.2)
  if 0<a * b∨0<c * d then 0 else if a * b<0∧c * d<0 then 3 else if a * b=0∧c * d=0 then 1 else 2
def onR (s:Sg) (p:Pt):Bool :=
 decide (min s.1.1 s.2.1≤p.1∧p.1≤max s.1.1 s.2.1∧min s.1.2 s.2.2≤p.2∧p.2≤max s.1.2 s.2.2) && decide (crs s.1 s.2 p=0)
def addC (s t:Sg) (l:List Pt) (e:Pt):List Pt:=if decide (e∈l) then l else if onR s e && onR t e then l++[e] else l
def zbe (s t:Sg):List Pt:=[s.1,s.2,t.1,t.2].foldl (addC s t) []
def endR (s:Sg) (p:Pt):Bool:=decide (p=s.1∨p=s.2)
def zja (l:List Pt) (A:Int) (f:Pt→Int):Int :=
 match l with
 |[]=>A
 |[e]=>f e
 |_=>5
def zav (s t:Sg):Int :=
 if !(zbd s && zbd t) then 0 else if s=t∨(s.1=t.2∧s.2=t.1) then 4 else
 zja (zbe s t) (if sgn (crs s.1 s.2 t.1) * sgn (crs s.1 s.2 t.2)<0∧sgn (crs t.1 t.2 s.1) * sgn (crs t.1 t.2 s.2)<0 then 3 else 0) (fun e=>if endR s e && endR t e then 1 else 2)
theorem zjt {x y:Int}:sgn x * sgn y<0↔x * y<0:=by
 unfold sgn;rcases Int.lt_trichotomy x 0 with h | h | h<;>rcases Int.lt_trichotomy y 0 with k | k | k
 ·have:=Int.mul_pos_of_neg_of_neg h k;simp [h,k];omega
 ·subst k;simp
 ·have:=Int.mul_neg_of_neg_of_pos h k;simp [h,k,show ¬y<0 by omega];omega
 ·subst h;simp
 ·subst h;simp
 ·subst h;simp
 ·have:=Int.mul_neg_of_pos_of_neg h k;simp [h,k,show ¬x<0 by omega];omega
 ·subst k;simp
 ·have:=Int.mul_pos h k;simp [h,k,show ¬x<0 by omega,show ¬y<0 by omega];omega
theorem zij {x:Int}:sgn x=0↔x=0:=by unfold sgn;split<;>(try split)<;>omega
theorem zafv {x:Int}:0<sgn x↔0<x:=by unfold sgn;split<;>(try split)<;>omega
theorem zann {x:Int}:sgn x<0↔x<0:=by unfold sgn;split<;>(try split)<;>omega
theorem zafx {x:Int} (h:x<0):sgn x=-1:=by unfold sgn;rw [if_pos h]
theorem zafw {x:Int} (h:0<x):sgn x=1:=by unfold sgn;rw [if_neg (by omega),if_pos h]
theorem zvg {x y:Int}:sgn x * sgn y=0↔x=0∨y=0:=by rw [Int.mul_eq_zero,zij,zij]
theorem zqt {a b:Pt}:lexC a b=0↔a=b:=by obtain ⟨a1,a2⟩:=a;obtain ⟨b1,b2⟩:=b;unfold lexC;simp only [Prod.mk.injEq];split<;>(try split)<;>(try split)<;>(try split)<;>omega
def keyP (p:Pt):Int:=p.1 * 8388608+p.2
theorem zem {p:Pt} (h:zat p=true):-2097152≤p.1∧p.1≤2097152∧-2097152≤p.2∧p.2≤2097152:=of_decide_eq_true h
theorem zei {a b:Pt} (ha:zat a=true) (hb:zat b=true):lexC a b=sgn (keyP a - keyP b):=by have h1:=zem ha;have h2:=zem hb;unfold lexC sgn keyP;split<;>(try split)<;>(try split)<;>(try split)<;>(try split)<;>(try split)<;>omega
theorem zip {a b:Pt} (ha:zat a=true) (hb:zat b=true) (h:keyP a=keyP b):a=b:=by rw [←zqt,zei ha hb,zij];omega
theorem zapf {s t:Sg} {l:List Pt} {e x:Pt}:x∈addC s t l e↔x∈l∨(x=e∧onR s e=true∧onR t e=true):=by
 unfold addC;by_cases h:e∈l
 ·simp only [h,decide_true,if_true];constructor
  ·exact Or.inl
  ·rintro (h1 | ⟨rfl,_⟩)
   ·exact h1
   ·exact h
 ·simp only [h,decide_false,Bool.false_eq_true,if_false];cases h1:onR s e<;>cases h2:onR t e<;>simp
theorem zbm {s t:Sg} {x:Pt}:x∈zbe s t↔(x=s.1∨x=s.2∨x=t.1∨x=t.2)∧onR s x=true∧onR t x=true:=by
 unfold zbe;simp only [List.foldl_cons,List.foldl_nil,zapf,List.not_mem_nil,false_or];constructor
 ·rintro (((⟨rfl,h⟩ | ⟨rfl,h⟩) | ⟨rfl,h⟩) | ⟨rfl,h⟩)<;>simp [h]
 ·rintro ⟨rfl | rfl | rfl | rfl,h⟩<;>simp [h]
theorem zmy {s t:Sg} {l:List Pt} {e:Pt} (h:l.Nodup):(addC s t l e).Nodup:=by
 unfold addC;by_cases h1:e∈l
 ·simp [h1,h]
 ·simp only [h1,decide_false,Bool.false_eq_true,if_false];split
  ·rw [List.nodup_append];refine ⟨h,by simp,fun a ha b hb=>?_⟩;rw [List.mem_singleton.1 hb];intro e';exact h1 (e' ▸ ha)
  ·exact h
theorem zkr (s t:Sg):(zbe s t).Nodup:=by unfold zbe;simp only [List.foldl_cons,List.foldl_nil];exact zmy (zmy (zmy (zmy List.nodup_nil)))
theorem zgo {s t:Sg} (h:∀x,x ∉ zbe s t):zbe s t=[]:=List.eq_nil_iff_forall_not_mem.2 h
theorem zlu {s t:Sg} {c:Pt} (h:c∈zbe s t) (h1:∀x∈zbe s t,x=c):zbe s t=[c]:=by
 have hn:=zkr s t;generalize zbe s t=l at *
 match l,hn with
 |[],_=>cases h
 |[x],_=>rw [h1 x (List.mem_cons_self ..)]
 |x :: y :: l,hn =>have e1:=h1 x (List.mem_cons_self ..);have e2:=h1 y (List.mem_cons_of_mem _ (List.mem_cons_self ..));simp [e1,e2] at hn
theorem zss {s t:Sg} {c d:Pt} (h:c∈zbe s t) (h1:d∈zbe s t) (hne:c≠d):∃x y l,zbe s t=x :: y :: l:=by
 generalize zbe s t=l at *
 match l with
 |[]=>cases h
 |[x]=>exact absurd ((List.mem_singleton.1 h).trans (List.mem_singleton.1 h1).symm) hne
 |x :: y :: l=>exact ⟨x,y,l,rfl⟩
theorem zgm (s:Sg) (p:Pt):onR s p=true↔(btw (s.2.1 - s.1.1) (p.1 - s.1.1)∧btw (s.2.2 - s.1.2) (p.2 - s.1.2))∧crs s.1 s.2 p=0:=by
 unfold onR btw;rw [Bool.and_eq_true,decide_eq_true_eq,decide_eq_true_eq];constructor
 ·rintro ⟨h,h2⟩;exact ⟨by omega,h2⟩
 ·rintro ⟨h,h2⟩;exact ⟨by omega,h2⟩
theorem zce (s:Sg):onR s s.1=true∧onR s s.2=true:=by rw [zgm,zgm];unfold btw crs;refine ⟨⟨by omega,by simp⟩,⟨by omega,by rw [Int.mul_comm];omega⟩⟩
theorem zto (s:Sg) (p:Pt):onR (s.2,s.1) p=onR s p:=by
 rw [Bool.eq_iff_iff,zgm,zgm];simp only [btw,crs];constructor
 ·rintro ⟨h,h2⟩;exact ⟨by omega,by grind⟩
 ·rintro ⟨h,h2⟩;exact ⟨by omega,by grind⟩
theorem zbk (a b c:Pt):crs b a c=- crs a b c:=by unfold crs;grind
theorem zaor {l l':List Pt} (hn:l.Nodup) (hn':l'.Nodup) (h:∀x,x∈l↔x∈l') (A:Int) (f:Pt→Int):zja l A f=zja l' A f:=by
 rcases l with _ | ⟨x,_ | ⟨z,l⟩⟩<;>rcases l' with _ | ⟨y,_ | ⟨u,l'⟩⟩
 ·rfl
 ·exact absurd ((h y).2 (List.mem_cons_self ..)) (by simp)
 ·exact absurd ((h y).2 (List.mem_cons_self ..)) (by simp)
 ·exact absurd ((h x).1 (List.mem_cons_self ..)) (by simp)
 ·rw [List.mem_singleton.1 ((h x).1 (List.mem_cons_self ..))]
 ·have e1:=List.mem_singleton.1 ((h y).2 (List.mem_cons_self ..));have e2:=List.mem_singleton.1 ((h u).2 (List.mem_cons_of_mem _ (List.mem_cons_self ..)));rw [e1,e2] at hn';simp at hn'
 ·exact absurd ((h x).1 (List.mem_cons_self ..)) (by simp)
 ·have e1:=List.mem_singleton.1 ((h x).1 (List.mem_cons_self ..));have e2:=List.mem_singleton.1 ((h z).1 (List.mem_cons_of_mem _ (List.mem_cons_self ..)));rw [e1,e2] at hn;simp at hn
 ·rfl
theorem zou {s t s' t':Sg} (hm:∀x,x∈zbe s t↔x∈zbe s' t') (hn:(zbd s && zbd t)=(zbd s' && zbd t')) (hs:(s=t∨(s.1=t.2∧s.2=t.1))↔(s'=t'∨(s'.1=t'.2∧s'.2=t'.1)))
  (he:∀x,(endR s x && endR t x)=(endR s' x && endR t' x))
  (hc:(sgn (crs s.1 s.2 t.1) * sgn (crs s.1 s.2 t.2)<0∧sgn (crs t.1 t.2 s.1) * sgn (crs t.1 t.2 s.2)<0)↔(sgn (crs s'.1 s'.2 t'.1) * sgn (crs s'.1 s'.2 t'.2)<0∧sgn (crs t'.1 t'.2 s'.1) * sgn (crs t'.1 t'.2 s'.2)<0)) :
  zav s t=zav s' t':=by
 unfold zav;rw [hn];split
 ·rfl
 ·by_cases h1:s=t∨(s.1=t.2∧s.2=t.1)
  ·rw [if_pos h1,if_pos (hs.1 h1)]
  ·rw [if_neg h1,if_neg (fun h=>h1 (hs.2 h)),zaor (zkr s t) (zkr s' t') hm];simp only [he,hc]
theorem zch (s t:Sg):zav t s=zav s t:=by
 refine zou (fun x=>?_) (Bool.and_comm ..) ?_ (fun x=>Bool.and_comm ..) ⟨fun h=>⟨h.2,h.1⟩,fun h=>⟨h.2,h.1⟩⟩
 ·rw [zbm,zbm];constructor<;>(rintro ⟨h,h1,h2⟩;exact ⟨by rcases h with h | h | h | h<;>simp [h],h2,h1⟩)
 ·constructor<;>(rintro (rfl | ⟨h1,h2⟩);exact Or.inl rfl;exact Or.inr ⟨h2.symm,h1.symm⟩)
theorem zqp (s t:Sg):zav (s.2,s.1) t=zav s t:=by
 refine zou (fun x=>?_) ?_ ?_ (fun x=>?_) ?_
 ·rw [zbm,zbm,zto];constructor<;>(rintro ⟨h,h1⟩;exact ⟨by rcases h with h | h | h | h<;>simp [h],h1⟩)
 ·simp only [zbd];rw [Bool.and_comm (zat s.2)]
 ·obtain ⟨s1,s2⟩:=s;obtain ⟨t1,t2⟩:=t;simp only [Prod.mk.injEq];constructor<;>(rintro (⟨h1,h2⟩ | ⟨h1,h2⟩);exact Or.inr ⟨h2,h1⟩;exact Or.inl ⟨h2,h1⟩)
 ·congr 1;simp only [endR,decide_eq_decide];exact Or.comm
 ·simp only [zjt];rw [zbk s.1 s.2 t.1,zbk s.1 s.2 t.2,Int.neg_mul_neg,Int.mul_comm (crs t.1 t.2 s.2)]
theorem zsn (s t:Sg):zav (srtS s) t=zav s t:=by
 unfold srtS;split
 ·exact zqp s t
 ·rfl
theorem zze (s t:Sg):zav (srtS s) (srtS t)=zav s t:=by rw [zsn,zch,zsn,zch]
theorem zkm (s:Sg):zbd (srtS s)=zbd s:=by
 unfold srtS;split
 ·simp only [zbd];rw [Bool.and_comm]
 ·rfl
theorem zaia (a b:Pt):lexC b a=- lexC a b:=by unfold lexC;split<;>(try split)<;>(try split)<;>(try split)<;>omega
theorem zte (s:Sg):lexC (srtS s).1 (srtS s).2≤0:=by
 unfold srtS;split
 ·have:=zaia s.1 s.2;show lexC s.2 s.1≤0;omega
 ·omega
theorem zabg {A B p:Pt} (hAB:lexC A B≤0) (hne:A≠B) (hc:crs A B p=0):(btw (B.1 - A.1) (p.1 - A.1)∧btw (B.2 - A.2) (p.2 - A.2))↔(lexC A p≤0∧lexC p B≤0):=by
 obtain ⟨a1,a2⟩:=A;obtain ⟨b1,b2⟩:=B;obtain ⟨p1,p2⟩:=p;unfold crs at hc;simp only [lexC,Prod.mk.injEq,ne_eq] at *;generalize hV:b1 - a1=V at *;generalize hU:b2 - a2=U at *;generalize hW:p1 - a1=W at *;generalize hY:p2 - a2=Y at *;have k1:(if a1<b1 then (-1:Int) else if b1<a1 then 1 else if a2<b2 then -1 else if b2<a2 then 1 else 0)≤0→0<V∨(V=0∧0≤U):=by split<;>(try split)<;>(try split)<;>(try split)<;>omega
 have k2:((if a1<p1 then (-1:Int) else if p1<a1 then 1 else if a2<p2 then -1 else if p2<a2 then 1 else 0)≤0)↔(0<W∨(W=0∧0≤Y)):=by split<;>(try split)<;>(try split)<;>(try split)<;>omega
 have k3:((if p1<b1 then (-1:Int) else if b1<p1 then 1 else if p2<b2 then -1 else if b2<p2 then 1 else 0)≤0)↔(W<V∨(W=V∧Y≤U)):=by split<;>(try split)<;>(try split)<;>(try split)<;>omega
 rw [k2,k3];have hc':U * W=Y * V:=by grind
 rcases k1 hAB with hv | ⟨hv,hu⟩
 ·constructor
  ·rintro ⟨h1,h2⟩;unfold btw at h1;have w0:0≤W∧W≤V:=(by omega);refine ⟨?_,?_⟩
   ·rcases Int.lt_or_eq_of_le w0.1 with h | h
    ·exact Or.inl h
    ·refine Or.inr ⟨h.symm,?_⟩;rw [←h,Int.mul_zero] at hc';have:Y=0:=(Int.mul_eq_zero.1 hc'.symm).resolve_right (by omega);omega
   ·rcases Int.lt_or_eq_of_le w0.2 with h | h
    ·exact Or.inl h
    ·refine Or.inr ⟨h,?_⟩;rw [h] at hc';have:=Int.eq_of_mul_eq_mul_right (show V≠0 by omega) hc';omega
  ·rintro ⟨h1,h2⟩;have w0:0≤W∧W≤V:=(by omega);exact ⟨Or.inl w0,zrk hv w0.1 w0.2 hc'⟩
 ·subst hv;have hU0:U≠0:=by intro h;apply hne;omega
  rw [Int.mul_zero] at hc';have hW0:W=0:=(Int.mul_eq_zero.1 hc').resolve_left hU0;unfold btw;omega
theorem zza {s:Sg} {p:Pt}:onQ s p=onR s p:=by
 have hsw:onR s p=onR (srtS s) p:=by
  unfold srtS;split
  ·exact (zto s p).symm
  ·rfl
 rw [hsw,Bool.eq_iff_iff,zgm];unfold onQ;have hle:=zte s;generalize srtS s=s' at hle ⊢;obtain ⟨A,B⟩:=s';simp only [Bool.and_eq_true,Bool.or_eq_true,decide_eq_true_eq] at hle ⊢;by_cases hne:A=B
 ·subst hne;constructor
  ·rintro ⟨⟨⟨h1,h2⟩,h3⟩,h4⟩;rcases h4 with h4 | h4
   ·exact absurd rfl h4
   ·subst h4;exact ⟨⟨by unfold btw;omega,by unfold btw;omega⟩,h1⟩
  ·rintro ⟨⟨h1,h2⟩,h3⟩;unfold btw at h1 h2;have:p=A:=by obtain ⟨p1,p2⟩:=p;obtain ⟨a1,a2⟩:=A;simp only [Prod.mk.injEq] at *;omega
   subst this;exact ⟨⟨⟨h3,by rw [zqt.2 rfl];omega⟩,by rw [zqt.2 rfl];omega⟩,Or.inr rfl⟩
 ·constructor
  ·rintro ⟨⟨⟨h1,h2⟩,h3⟩,_⟩;exact ⟨(zabg hle hne h1).2 ⟨h2,h3⟩,h1⟩
  ·rintro ⟨h1,h2⟩;obtain ⟨h3,h4⟩:=(zabg hle hne h2).1 h1;exact ⟨⟨⟨h2,h3⟩,h4⟩,Or.inl hne⟩
theorem zqh (P x:Pt):onR (P,P) x=true↔x=P:=by
 rw [zgm];unfold btw crs;obtain ⟨p1,p2⟩:=P;obtain ⟨x1,x2⟩:=x;simp only [Prod.mk.injEq];constructor
 ·rintro ⟨h,_⟩;omega
 ·rintro ⟨rfl,rfl⟩;exact ⟨by omega,by grind⟩
theorem zot (s:Sg) (P:Pt) (hn:(zbd s && zbd (P,P))=true) (hne:¬(s=(P,P)∨(s.1=P∧s.2=P))) :
  zav s (P,P)=if !onR s P then 0 else if P=s.1∨P=s.2 then 1 else 2:=by
 unfold zav;rw [hn];simp only [Bool.not_true,Bool.false_eq_true,if_false];rw [if_neg hne];cases ho:onR s P with
 |false =>
  have h0:zbe s (P,P)=[]:=zgo fun x hx=>by rw [zbm] at hx;obtain ⟨-,h1,h2⟩:=hx;rw [zqh] at h2;subst h2;rw [ho] at h1;cases h1
  rw [h0];simp only [zja,Bool.not_false,if_true];rw [if_neg];rintro ⟨-,h⟩;rw [zjt] at h;have e:∀c:Pt,crs P P c=0:=fun c=>by unfold crs;grind
  rw [e,e] at h;omega
 |true =>
  have h1:zbe s (P,P)=[P]:=zlu (c:=P) (zbm.2 ⟨by simp,ho,(zqh P P).2 rfl⟩) fun x hx=>(zqh P x).1 (zbm.1 hx).2.2;rw [h1];simp only [zja,endR,Bool.not_true,Bool.false_eq_true,if_false];by_cases h:P=s.1∨P=s.2
  ·simp [h]
  ·simp [h]
theorem zzf {s t:Sg} (hn:(zbd s && zbd t)=true) (hs:lexC s.1 s.2≤0) (ht:lexC t.1 t.2≤0) (hne:s≠t) (hs2:s.1≠s.2) (ht2:t.1≠t.2) (ha:crs s.1 s.2 t.1=0) (hb:crs s.1 s.2 t.2=0) (low high:Pt)
  (hl:low=if 0<lexC t.1 s.1 then t.1 else s.1) (hh:high=if lexC t.2 s.2<0 then t.2 else s.2) :
  zav s t=if lexC low high=-1 then 5 else if lexC low high=0 then 1 else 0:=by
 have hnn:=hn;simp only [zbd,Bool.and_eq_true] at hnn;obtain ⟨⟨n1,n2⟩,n3,n4⟩:=hnn;obtain ⟨c0,d0⟩:crs t.1 t.2 s.1=0∧crs t.1 t.2 s.2=0:=by
  obtain ⟨⟨a1,a2⟩,⟨b1,b2⟩⟩:=s;obtain ⟨⟨c1,c2⟩,⟨d1,d2⟩⟩:=t;simp only [crs,ne_eq,Prod.mk.injEq] at *;by_cases hx:b1 - a1=0
  ·have hy:b2 - a2≠0:=(by omega);constructor
   ·refine Int.eq_of_mul_eq_mul_left hy ?_;grind
   ·refine Int.eq_of_mul_eq_mul_left hy ?_;grind
  ·constructor
   ·refine Int.eq_of_mul_eq_mul_left hx ?_;grind
   ·refine Int.eq_of_mul_eq_mul_left hx ?_;grind
 have os:∀p:Pt,zat p=true→crs s.1 s.2 p=0→(onR s p=true↔keyP s.1≤keyP p∧keyP p≤keyP s.2):=fun p np hp=>by rw [zgm,zabg hs hs2 hp,zei n1 np,zei np n2];simp only [hp,and_true];have q1:=@zafv (keyP s.1 - keyP p);have q2:=@zafv (keyP p - keyP s.2);omega
 have ot:∀p:Pt,zat p=true→crs t.1 t.2 p=0→(onR t p=true↔keyP t.1≤keyP p∧keyP p≤keyP t.2):=fun p np hp=>by rw [zgm,zabg ht ht2 hp,zei n3 np,zei np n4];simp only [hp,and_true];have q1:=@zafv (keyP t.1 - keyP p);have q2:=@zafv (keyP p - keyP t.2);omega
 have z1:crs s.1 s.2 s.1=0:=by unfold crs;grind
 have z2:crs s.1 s.2 s.2=0:=by unfold crs;grind
 have z3:crs t.1 t.2 t.1=0:=by unfold crs;grind
 have z4:crs t.1 t.2 t.2=0:=by unfold crs;grind
 have ks:keyP s.1<keyP s.2:=by
  rw [zei n1 n2] at hs;have:keyP s.1≠keyP s.2:=fun h=>hs2 (zip n1 n2 h);unfold sgn at hs;split at hs
  ·omega
  ·split at hs<;>omega
 have kt:keyP t.1<keyP t.2:=by
  rw [zei n3 n4] at ht;have:keyP t.1≠keyP t.2:=fun h=>ht2 (zip n3 n4 h);unfold sgn at ht;split at ht
  ·omega
  ·split at ht<;>omega
 have hmem:∀p:Pt,(p=s.1∨p=s.2∨p=t.1∨p=t.2)→(p∈zbe s t↔(keyP s.1≤keyP p∧keyP p≤keyP s.2)∧(keyP t.1≤keyP p∧keyP p≤keyP t.2)):=fun p hp=>by
  rw [zbm];have np:zat p=true:=by rcases hp with rfl | rfl | rfl | rfl<;>assumption
  have q1:crs s.1 s.2 p=0:=by rcases hp with rfl | rfl | rfl | rfl<;>assumption
  have q2:crs t.1 t.2 p=0:=by rcases hp with rfl | rfl | rfl | rfl<;>assumption
  rw [os p np q1,ot p np q2];exact ⟨fun h=>h.2,fun h=>⟨hp,h⟩⟩
 have hmem2:∀p:Pt,p∈zbe s t→(keyP s.1≤keyP p∧keyP p≤keyP s.2)∧(keyP t.1≤keyP p∧keyP p≤keyP t.2):=fun p hp=>(hmem p (zbm.1 hp).1).1 hp;have hnear2:∀p:Pt,p∈zbe s t→zat p=true:=fun p hp=>by rcases (zbm.1 hp).1 with rfl | rfl | rfl | rfl<;>assumption
 have kl:keyP low=max (keyP s.1) (keyP t.1)∧(low=s.1∨low=t.1):=by
  rw [hl,zei n3 n1];by_cases h:0<keyP t.1 - keyP s.1
  ·rw [if_pos (zafv.2 h)];exact ⟨by omega,Or.inr rfl⟩
  ·rw [if_neg (fun h'=>h (zafv.1 h'))];exact ⟨by omega,Or.inl rfl⟩
 have kh:keyP high=min (keyP s.2) (keyP t.2)∧(high=s.2∨high=t.2):=by
  rw [hh,zei n4 n2];by_cases h:keyP t.2 - keyP s.2<0
  ·rw [if_pos (zann.2 h)];exact ⟨by omega,Or.inr rfl⟩
  ·rw [if_neg (fun h'=>h (zann.1 h'))];exact ⟨by omega,Or.inl rfl⟩
 have nl:zat low=true:=by rcases kl.2 with rfl | rfl<;>assumption
 have nh:zat high=true:=by rcases kh.2 with rfl | rfl<;>assumption
 have hsame:¬(s=t∨(s.1=t.2∧s.2=t.1)):=by
  rintro (h | ⟨h1,h2⟩)
  ·exact hne h
  ·rw [h1,h2] at ks;omega
 unfold zav;rw [hn];simp only [Bool.not_true,Bool.false_eq_true,if_false];rw [if_neg hsame];have hlow:low∈zbe s t↔keyP low≤keyP high:=by rw [hmem low (by rcases kl.2 with h | h<;>simp [h])];omega
 have hhigh:high∈zbe s t↔keyP low≤keyP high:=by rw [hmem high (by rcases kh.2 with h | h<;>simp [h])];omega
 rw [zei nl nh];rcases Int.lt_trichotomy (keyP low) (keyP high) with h | h | h
 ·obtain ⟨x,y,l,e⟩:=zss (hlow.2 (by omega)) (hhigh.2 (by omega)) (fun e=>by rw [e] at h;omega);have c1:sgn (keyP low - keyP high)=-1:=zafx (by omega);rw [e,if_pos c1];rfl
 ·have e:=zlu (hlow.2 (by omega)) (fun x hx=>zip (hnear2 x hx) nl (by have:=hmem2 x hx;omega));have hlh:low=high:=zip nl nh h;have c1:sgn (keyP low - keyP high)=0:=zij.2 (by omega);rw [e,c1,if_neg (show ¬(0:Int)=-1 by omega),if_pos rfl];simp only [zja,endR];have e1:low=s.1∨low=s.2:=by
   rcases kl.2 with k | k
   ·exact Or.inl k
   ·rcases kh.2 with k' | k'
    ·exact Or.inr (hlh.trans k')
    ·rw [←hlh] at k';rw [k] at k';exact absurd k' ht2
  have e2:low=t.1∨low=t.2:=by
   rcases kl.2 with k | k
   ·rcases kh.2 with k' | k'
    ·rw [←hlh] at k';rw [k] at k';exact absurd k' hs2
    ·exact Or.inr (hlh.trans k')
   ·exact Or.inl k
  simp [e1,e2]
 ·have e:zbe s t=[]:=zgo fun x hx=>by have:=hmem2 x hx;omega
  have c1:sgn (keyP low - keyP high)=1:=zafw (by omega);rw [e,c1,if_neg (show ¬(1:Int)=-1 by omega),if_neg (show ¬(1:Int)=0 by omega)];simp only [zja];rw [if_neg];rintro ⟨h1,-⟩;rw [ha,zjt] at h1;omega
theorem zyh {x y:Int}:0<sgn x * sgn y↔0<x * y:=by have h1:=@zjt x y;have h2:=@zvg x y;have h3:=@Int.mul_eq_zero x y;omega
theorem zagy {s t:Sg} (hK:(t.2.1 - t.1.1) * (s.2.2 - s.1.2) - (t.2.2 - t.1.2) * (s.2.1 - s.1.1)≠0) :
  (onR s t.1=true↔crs s.1 s.2 t.1=0∧crs t.1 t.2 s.1 * crs t.1 t.2 s.2≤0)∧(onR s t.2=true↔crs s.1 s.2 t.2=0∧crs t.1 t.2 s.1 * crs t.1 t.2 s.2≤0):=by
 have key:∀q:Pt,crs t.1 t.2 q=0→(onR s q=true↔crs s.1 s.2 q=0∧crs t.1 t.2 s.1 * crs t.1 t.2 s.2≤0):=fun q hq=>by
  rw [zgm,and_comm];refine and_congr_right fun h=>?_;rw [zaqn _ _ _ _ (t.2.1 - t.1.1) (t.2.2 - t.1.2) h hK];have e:((t.2.1 - t.1.1) * (q.2 - s.1.2) - (t.2.2 - t.1.2) * (q.1 - s.1.1)) * ((t.2.1 - t.1.1) * (s.2.2 - s.1.2) - (t.2.2 - t.1.2) * (s.2.1 - s.1.1) - ((t.2.1 - t.1.1) * (q.2 - s.1.2) - (t.2.2 - t.1.2) * (q.1 - s.1.1)))=-(crs t.1 t.2 s.1 * crs t.1 t.2 s.2):=by
   unfold crs at *
   grind
  rw [e];omega
 exact ⟨key t.1 (by unfold crs;grind),key t.2 (by unfold crs;grind)⟩
theorem zano {p q:Pt} (h1:p.1 - q.1=0) (h2:p.2 - q.2=0):p=q:=by obtain ⟨p1,p2⟩:=p;obtain ⟨q1,q2⟩:=q;simp only [Prod.mk.injEq] at *;omega
theorem zwc {s t:Sg} (hn:(zbd s && zbd t)=true) (ht2:t.1≠t.2) (hnc:¬(crs s.1 s.2 t.1=0∧crs s.1 s.2 t.2=0)) :
  zav s t=(let a:=sgn (crs s.1 s.2 t.1);let b:=sgn (crs s.1 s.2 t.2);let c:=sgn (crs t.1 t.2 s.1);let d:=sgn (crs t.1 t.2 s.2)
   if 0<a * b∨0<c * d then 0 else if a * b<0∧c * d<0 then 3 else if a * b=0∧c * d=0 then 1 else 2):=by
 have hnn:=hn;have hsame:¬(s=t∨(s.1=t.2∧s.2=t.1)):=by
  rintro (rfl | ⟨h1,h2⟩)
  ·exact hnc ⟨by unfold crs;grind,by unfold crs;grind⟩
  ·exact hnc ⟨by rw [←h2];unfold crs;grind,by rw [←h1];unfold crs;grind⟩
 have hm:zav s t=zja (zbe s t) (if sgn (crs s.1 s.2 t.1) * sgn (crs s.1 s.2 t.2)<0∧sgn (crs t.1 t.2 s.1) * sgn (crs t.1 t.2 s.2)<0 then 3 else 0) (fun e=>if endR s e && endR t e then 1 else 2):=by unfold zav;rw [hn];simp only [Bool.not_true,Bool.false_eq_true,if_false];rw [if_neg hsame]
 rw [hm];simp only [zyh,zjt,zvg];by_cases hK:(t.2.1 - t.1.1) * (s.2.2 - s.1.2) - (t.2.2 - t.1.2) * (s.2.1 - s.1.1)=0
 ·
  have hab:crs s.1 s.2 t.1=crs s.1 s.2 t.2:=by unfold crs;grind
  have ha:crs s.1 s.2 t.1≠0:=fun h=>hnc ⟨h,by rw [←hab];exact h⟩;have hcd:crs t.1 t.2 s.1=crs t.1 t.2 s.2:=by unfold crs;grind
  have hc:crs t.1 t.2 s.1≠0:=fun h=>by
   apply ha;unfold crs at *;by_cases hx:t.2.1 - t.1.1=0
   ·have hy:t.2.2 - t.1.2≠0:=fun hy=>ht2 (zano (by omega) (by omega));refine Int.eq_of_mul_eq_mul_left hy ?_;grind
   ·refine Int.eq_of_mul_eq_mul_left hx ?_;grind
  have e:zbe s t=[]:=zgo fun x hx=>by
   obtain ⟨hx,h1,h2⟩:=zbm.1 hx;rw [zgm] at h1 h2;rcases hx with rfl | rfl | rfl | rfl
   ·exact hc h2.2
   ·rw [←hcd] at h2;exact hc h2.2
   ·exact ha h1.2
   ·rw [←hab] at h1;exact ha h1.2
  have hp:0<crs s.1 s.2 t.1 * crs s.1 s.2 t.2:=by
   rw [←hab];rcases Int.lt_or_gt_of_ne ha with h | h
   ·exact Int.mul_pos_of_neg_of_neg h h
   ·exact Int.mul_pos h h
  rw [e,if_pos (Or.inl hp)];simp only [zja];rw [if_neg (by omega)]
 ·have hK2:(s.2.1 - s.1.1) * (t.2.2 - t.1.2) - (s.2.2 - s.1.2) * (t.2.1 - t.1.1)≠0:=by intro h;apply hK;grind
  obtain ⟨u3,u4⟩:=zagy (s:=s) (t:=t) hK;obtain ⟨u1,u2⟩:=zagy (s:=t) (t:=s) hK2;have hcd0:¬(crs t.1 t.2 s.1=0∧crs t.1 t.2 s.2=0):=by
   rintro ⟨h1,h2⟩;apply hK;unfold crs at *
   grind
  have same:∀P R:Pt,crs s.1 s.2 P=0→crs t.1 t.2 P=0→crs s.1 s.2 R=0→crs t.1 t.2 R=0→P=R:=fun P R h1 h2 h3 h4=>by
   refine zano ?_ ?_
   ·refine Int.eq_of_mul_eq_mul_left hK ?_;unfold crs at *;grind
   ·refine Int.eq_of_mul_eq_mul_left hK ?_;unfold crs at *;grind
  have z1:crs s.1 s.2 s.1=0:=by unfold crs;grind
  have z2:crs s.1 s.2 s.2=0:=by unfold crs;grind
  have z3:crs t.1 t.2 t.1=0:=by unfold crs;grind
  have z4:crs t.1 t.2 t.2=0:=by unfold crs;grind
  have o1:=zce s;have o2:=zce t;have hboth:∀x,x∈zbe s t→crs s.1 s.2 x=0∧crs t.1 t.2 x=0:=fun x hx=>by obtain ⟨_,h1,h2⟩:=zbm.1 hx;rw [zgm] at h1 h2;exact ⟨h1.2,h2.2⟩
  generalize ha:crs s.1 s.2 t.1=a at *;generalize hb:crs s.1 s.2 t.2=b at *;generalize hc:crs t.1 t.2 s.1=c at *;generalize hd:crs t.1 t.2 s.2=d at *;have hmem:∀x,x∈zbe s t→(x=s.1∧c=0∧a * b≤0)∨(x=s.2∧d=0∧a * b≤0)∨(x=t.1∧a=0∧c * d≤0)∨(x=t.2∧b=0∧c * d≤0):=fun x hx=>by
   obtain ⟨hx,h1,h2⟩:=zbm.1 hx;rcases hx with rfl | rfl | rfl | rfl
   ·exact Or.inl ⟨rfl,u1.1 h2⟩
   ·exact Or.inr (Or.inl ⟨rfl,u2.1 h2⟩)
   ·exact Or.inr (Or.inr (Or.inl ⟨rfl,u3.1 h1⟩))
   ·exact Or.inr (Or.inr (Or.inr ⟨rfl,u4.1 h1⟩))
  have ab0:=@Int.mul_eq_zero a b;have cd0:=@Int.mul_eq_zero c d;by_cases h1:0<a * b∨0<c * d
  ·have e:zbe s t=[]:=zgo fun x hx=>by have hb':=hboth x hx;rcases hmem x hx with ⟨rfl,h⟩ | ⟨rfl,h⟩ | ⟨rfl,h⟩ | ⟨rfl,h⟩<;>omega
   rw [e,if_pos h1];simp only [zja];rw [if_neg (by omega)]
  ·rw [if_neg h1];by_cases h2:a * b<0∧c * d<0
   ·have e:zbe s t=[]:=zgo fun x hx=>by rcases hmem x hx with ⟨rfl,h⟩ | ⟨rfl,h⟩ | ⟨rfl,h⟩ | ⟨rfl,h⟩<;>omega
    rw [e,if_pos h2];simp only [zja];rw [if_pos h2]
   ·rw [if_neg h2];obtain ⟨P,hP,hPt,hPs⟩:∃P,P∈zbe s t∧((a=0∨b=0)→P=t.1∨P=t.2)∧((c=0∨d=0)→P=s.1∨P=s.2):=by
     by_cases hz:a=0∨b=0
     ·obtain ⟨P,hP,hm⟩:∃P,(P=t.1∨P=t.2)∧P∈zbe s t:=by
       rcases hz with h | h
       ·exact ⟨t.1,Or.inl rfl,zbm.2 ⟨by simp,u3.2 ⟨h,by omega⟩,o2.1⟩⟩
       ·exact ⟨t.2,Or.inr rfl,zbm.2 ⟨by simp,u4.2 ⟨h,by omega⟩,o2.2⟩⟩
      refine ⟨P,hm,fun _=>hP,fun hz2=>?_⟩;have hb':=hboth P hm;rcases hz2 with h | h
      ·exact Or.inl (same P s.1 hb'.1 hb'.2 z1 (hc.trans h))
      ·exact Or.inr (same P s.2 hb'.1 hb'.2 z2 (hd.trans h))
     ·have hz2:c=0∨d=0:=(by omega);rcases hz2 with h | h
      ·exact ⟨s.1,zbm.2 ⟨by simp,o1.1,u1.2 ⟨h,by omega⟩⟩,fun h'=>absurd h' hz,fun _=>Or.inl rfl⟩
      ·exact ⟨s.2,zbm.2 ⟨by simp,o1.2,u2.2 ⟨h,by omega⟩⟩,fun h'=>absurd h' hz,fun _=>Or.inr rfl⟩
    have hPb:=hboth P hP;have e:=zlu hP fun x hx=>same x P (hboth x hx).1 (hboth x hx).2 hPb.1 hPb.2;rw [e];simp only [zja];by_cases h3:(a=0∨b=0)∧(c=0∨d=0)
    ·rw [if_pos h3];have e1:endR s P=true:=decide_eq_true (hPs h3.2);have e2:endR t P=true:=decide_eq_true (hPt h3.1);rw [e1,e2,if_neg h2];rfl
    ·rw [if_neg h3];have e3:(endR s P && endR t P)=false:=by
      rw [Bool.and_eq_false_iff];by_cases hz:a=0∨b=0
      ·left;refine decide_eq_false fun h=>?_;apply h3;refine ⟨hz,?_⟩;rcases h with h | h
       ·left;rw [←hc,←h];exact hPb.2
       ·right;rw [←hd,←h];exact hPb.2
      ·right;refine decide_eq_false fun h=>?_;apply hz;rcases h with h | h
       ·left;rw [←ha,←h];exact hPb.1
       ·right;rw [←hb,←h];exact hPb.1
     rw [e3,if_neg h2];rfl
theorem zhu (s t:Sg):zdo s t=zav s t:=by
 unfold zdo;cases hn:zbd s && zbd t with
 |false =>unfold zav;rw [hn];rfl
 |true =>
  simp only [Bool.not_true,Bool.false_eq_true,if_false];rw [←zze];have hls:=zte s;have hlt:=zte t;have hn':(zbd (srtS s) && zbd (srtS t))=true:=by rw [zkm,zkm];exact hn
  generalize srtS s=s at *;generalize srtS t=t at *;by_cases hst:s=t
  ·subst hst;unfold zav;rw [hn',if_pos rfl];simp
  rw [if_neg hst];by_cases hd:s.1=s.2∨t.1=t.2
  ·rw [if_pos (by rcases hd with h | h<;>simp [h])];unfold zrr;by_cases ht:t.1=t.2
   ·simp only [ht,if_true,zza];obtain ⟨t1,t2⟩:=t;simp only at ht;subst ht;have e:=zot s t1 hn' (by
     rintro (h | ⟨h1,h2⟩)
     ·exact hst h
     ·exact hst (by rw [Prod.ext_iff];exact ⟨h1,h2⟩))
    exact e.symm
   ·have hs:s.1=s.2:=hd.resolve_right ht;simp only [ht,if_false,hs,if_true,zza];obtain ⟨s1,s2⟩:=s;simp only at hs;subst hs;have e:=zot t s1 (by rw [Bool.and_comm];exact hn') (by
     rintro (h | ⟨h1,h2⟩)
     ·exact hst h.symm
     ·exact hst (by rw [Prod.ext_iff];exact ⟨h1.symm,h2.symm⟩))
    rw [←zch];exact e.symm
  ·have hs2:s.1≠s.2:=fun h=>hd (Or.inl h);have ht2:t.1≠t.2:=fun h=>hd (Or.inr h);by_cases hc:crs s.1 s.2 t.1=0∧crs s.1 s.2 t.2=0
   ·rw [if_pos (Or.inr (Or.inr hc))];unfold zrr;simp only [ht2,if_false,hs2];exact (zzf hn' hls hlt hst hs2 ht2 hc.1 hc.2 _ _ rfl rfl).symm
   ·rw [if_neg (by rintro (h | h | h);exact hs2 h;exact ht2 h;exact hc h)];exact (zwc hn' ht2 hc).symm
theorem zaht {s t:Sg} (h:zav s t≠0):(min s.1.1 s.2.1≤max t.1.1 t.2.1∧min t.1.1 t.2.1≤max s.1.1 s.2.1)∧(min s.1.2 s.2.2≤max t.1.2 t.2.2∧min t.1.2 t.2.2≤max s.1.2 s.2.2):=by
 have onb:∀(s:Sg) (x:Pt),onR s x=true→min s.1.1 s.2.1≤x.1∧x.1≤max s.1.1 s.2.1∧min s.1.2 s.2.2≤x.2∧x.2≤max s.1.2 s.2.2:=fun s x hx=>by unfold onR at hx;rw [Bool.and_eq_true,decide_eq_true_eq] at hx;exact hx.1
 unfold zav at h;split at h
 ·exact absurd rfl h
 split at h
 ·rename_i hs;rcases hs with rfl | ⟨h1,h2⟩
  ·omega
  ·rw [h1,h2];omega
 by_cases hc:∃x,x∈zbe s t
 ·obtain ⟨x,hx⟩:=hc;obtain ⟨_,h1,h2⟩:=zbm.1 hx;have:=onb s x h1;have:=onb t x h2;omega
 ·have e:zbe s t=[]:=zgo fun x hx=>hc ⟨x,hx⟩;rw [e] at h;simp only [zja,zjt] at h;split at h
  ·rename_i hx;have cross:∀(p q u v a b c d:Int),a * b<0→c * d<0→(a - b)+(c - d)=0→b * p - a * q+d * u - c * v=0→min p q≤max u v∧min u v≤max p q:=by
    intro p q u v a b c d h1 h2 h3 h4;have signs:(a<0∧0<b∧0<c∧d<0)∨(0<a∧b<0∧c<0∧0<d):=by
     have sp:∀x y:Int,x * y<0→(x<0∧0<y)∨(0<x∧y<0):=fun x y h=>by
      rcases Int.lt_trichotomy x 0 with hx | hx | hx
      ·rcases Int.lt_or_le 0 y with hy | hy
       ·exact Or.inl ⟨hx,hy⟩
       ·have:=Int.mul_nonneg_of_nonpos_of_nonpos (show x≤0 by omega) hy;omega
      ·subst hx;simp at h
      ·rcases Int.lt_or_le y 0 with hy | hy
       ·exact Or.inr ⟨hx,hy⟩
       ·have:=Int.mul_nonneg (show 0≤x by omega) hy;omega
     have:=sp a b h1;have:=sp c d h2;omega
    have wt:∀(a b c d:Int),a<0→0<b→0<c→d<0→(a - b)+(c - d)=0→b * p - a * q+d * u - c * v=0→min p q≤max u v∧min u v≤max p q:=by
     intro a b c d ha hb hc hd h3 h4;have lo:∀(M x y:Int),M≤x→M≤y→M * (b - a)≤b * x - a * y:=fun M x y hx hy=>by
      have e1:=Int.mul_le_mul_of_nonneg_left hx (show 0≤b by omega);have e2:=Int.mul_le_mul_of_nonneg_left hy (show 0≤-a by omega)
      grind
     have hi:∀(M x y:Int),x≤M→y≤M→b * x - a * y≤M * (b - a):=fun M x y hx hy=>by
      have e1:=Int.mul_le_mul_of_nonneg_left hx (show 0≤b by omega);have e2:=Int.mul_le_mul_of_nonneg_left hy (show 0≤-a by omega)
      grind
     have lo2:∀(M x y:Int),M≤x→M≤y→M * (c - d)≤c * y - d * x:=fun M x y hx hy=>by
      have e1:=Int.mul_le_mul_of_nonneg_left hy (show 0≤c by omega);have e2:=Int.mul_le_mul_of_nonneg_left hx (show 0≤-d by omega)
      grind
     have hi2:∀(M x y:Int),x≤M→y≤M→c * y - d * x≤M * (c - d):=fun M x y hx hy=>by
      have e1:=Int.mul_le_mul_of_nonneg_left hy (show 0≤c by omega);have e2:=Int.mul_le_mul_of_nonneg_left hx (show 0≤-d by omega)
      grind
     have eq1:b - a=c - d:=(by omega);have l1:=lo (min p q) p q (by omega) (by omega);have l2:=hi2 (max u v) u v (by omega) (by omega);have l3:=lo2 (min u v) u v (by omega) (by omega);have l4:=hi (max p q) p q (by omega) (by omega);rw [eq1] at l1 l4;have k:0<c - d:=(by omega);constructor
     ·exact znc k (by omega)
     ·exact znc k (by omega)
    rcases signs with ⟨s1,s2,s3,s4⟩ | ⟨s1,s2,s3,s4⟩
    ·exact wt a b c d s1 s2 s3 s4 h3 h4
    ·exact wt (-a) (-b) (-c) (-d) (by omega) (by omega) (by omega) (by omega) (by omega) (by grind)
   have X:=cross t.1.1 t.2.1 s.1.1 s.2.1 _ _ _ _ hx.1 hx.2 (by unfold crs;grind) (by unfold crs;grind);have Y:=cross t.1.2 t.2.2 s.1.2 s.2.2 _ _ _ _ hx.1 hx.2 (by unfold crs;grind) (by unfold crs;grind);exact ⟨⟨X.2,X.1⟩,⟨Y.2,Y.1⟩⟩
  ·exact absurd rfl h
end Go.Proofs.YtibpaaajghbkoaaGreat
