/-     -/
import Derived.Test.YtibpaaajghbkoaaGreatWAj
namespace Go.Proofs.YtibpaaajghbkoaaGreat
theorem zjg {a b:Int} (h:0<a) (k:0<b):0<a * b:=Int.mul_pos h k
theorem zhc {a b:Int} (h:a<0) (k:b<0):0<a * b:=Int.mul_pos_of_neg_of_neg h k
theorem zeo {a b:Int} (h:a<0) (k:0<b):a * b<0:=Int.mul_neg_of_neg_of_pos h k
theorem zen {a b:Int} (h:0<a) (k:b<0):a * b<0:=Int.mul_neg_of_pos_of_neg h k
theorem zaqr {a b:Int} (h:0≤a) (k:0≤b):0≤a * b:=Int.mul_nonneg h k
theorem zapb {a b:Int} (h:a≤0) (k:0≤b):a * b≤0:=Int.mul_nonpos_of_nonpos_of_nonneg h k
theorem zapc {a b:Int} (h:0≤a) (k:b≤0):a * b≤0:=Int.mul_nonpos_of_nonneg_of_nonpos h k
theorem zamb {a b:Int} (h:a≤0) (k:b≤0):0≤a * b:=Int.mul_nonneg_of_nonpos_of_nonpos h k
theorem zafu {ap bp gp aq bq gq:Int} (h1:gp<0) (h2:0<gq) (ha:gp * bq<bp * gq) (hb:gp * aq<ap * gq) (hout:aq<0∨bq<0) :
  (ap * bq<bp * aq∧bp * bq<0)∨(bp * aq<ap * bq∧ap * aq<0)∨(ap * bq=bp * aq∧((0<bp∧bq<0)∨(0<ap∧aq<0))):=by
 rcases Int.lt_trichotomy (ap * bq) (bp * aq) with hn | hn | hn
 ·refine Or.inl ⟨hn,?_⟩;rcases Int.lt_trichotomy bq 0 with k | k | k
  ·have:=zhc h1 k;have hbp:0<bp:=by
    rcases Int.lt_trichotomy bp 0 with c | c | c
    ·have:=zeo c h2;omega
    ·subst c;omega
    ·exact c
   exact zen hbp k
  ·subst k;have haq:aq<0:=(by omega);have:=zhc h1 haq;have hap:0<ap:=by
    rcases Int.lt_trichotomy ap 0 with c | c | c
    ·have:=zeo c h2;omega
    ·subst c;omega
    ·exact c
   have h3:0<bp * aq:=(by omega);have hbp:bp<0:=by
    rcases Int.lt_trichotomy bp 0 with c | c | c
    ·exact c
    ·subst c;omega
    ·have:=zen c haq;omega
   have:=zeo hbp h2;omega
  ·have haq:aq<0:=(by omega);have:=zhc h1 haq;have hap:0<ap:=by
    rcases Int.lt_trichotomy ap 0 with c | c | c
    ·have:=zeo c h2;omega
    ·subst c;omega
    ·exact c
   have h4:=zjg hap k;have hbp:bp<0:=by
    rcases Int.lt_trichotomy bp 0 with c | c | c
    ·exact c
    ·subst c;omega
    ·have:=zen c haq;omega
   exact zeo hbp k
 ·refine Or.inr (Or.inr ⟨hn,?_⟩);rcases hout with k | k
  ·right;have:=zhc h1 k;refine ⟨?_,k⟩;rcases Int.lt_trichotomy ap 0 with c | c | c
   ·have:=zeo c h2;omega
   ·subst c;omega
   ·exact c
  ·left;have:=zhc h1 k;refine ⟨?_,k⟩;rcases Int.lt_trichotomy bp 0 with c | c | c
   ·have:=zeo c h2;omega
   ·subst c;omega
   ·exact c
 ·refine Or.inr (Or.inl ⟨hn,?_⟩);rcases Int.lt_trichotomy aq 0 with k | k | k
  ·have:=zhc h1 k;have hap:0<ap:=by
    rcases Int.lt_trichotomy ap 0 with c | c | c
    ·have:=zeo c h2;omega
    ·subst c;omega
    ·exact c
   exact zen hap k
  ·subst k;have hbq:bq<0:=(by omega);have:=zhc h1 hbq;have hbp:0<bp:=by
    rcases Int.lt_trichotomy bp 0 with c | c | c
    ·have:=zeo c h2;omega
    ·subst c;omega
    ·exact c
   have h3:0<ap * bq:=(by omega);have hap:ap<0:=by
    rcases Int.lt_trichotomy ap 0 with c | c | c
    ·exact c
    ·subst c;omega
    ·have:=zen c hbq;omega
   have:=zeo hap h2;omega
  ·have hbq:bq<0:=(by omega);have:=zhc h1 hbq;have hbp:0<bp:=by
    rcases Int.lt_trichotomy bp 0 with c | c | c
    ·have:=zeo c h2;omega
    ·subst c;omega
    ·exact c
   have h4:=zjg hbp k;have hap:ap<0:=by
    rcases Int.lt_trichotomy ap 0 with c | c | c
    ·exact c
    ·subst c;omega
    ·have:=zen c hbq;omega
   exact zeo hap k
theorem bary (a b n p q:Pt):crs a b n * crs p q a=crs n a p * crs a b q - crs a b p * crs n a q∧crs a b n * crs p q b=crs a b p * crs b n q - crs b n p * crs a b q∧crs a b n * crs p q n=crs b n p * crs n a q - crs n a p * crs b n q:=by unfold crs;refine ⟨?_,?_,?_⟩<;>grind
theorem zpk {u v w x y:Int} (hu:0<u) (hv:v<0) (h:u * x=v * y) (hx:x=w):(0≤x∧y≤0)∨(x≤0∧0≤y):=by
 rcases Int.lt_trichotomy x 0 with c | c | c
 ·have:=zen hu c;rcases Int.lt_trichotomy y 0 with d | d | d
  ·have:=zhc hv d;omega
  ·omega
  ·omega
 ·subst c;rcases Int.lt_trichotomy y 0 with d | d | d
  ·have:=zhc hv d;omega
  ·omega
  ·have:=zeo hv d;omega
 ·have:=zjg hu c;rcases Int.lt_trichotomy y 0 with d | d | d
  ·omega
  ·omega
  ·have:=zeo hv d;omega
theorem ztn {a n p q:Pt} (hw:crs p q n=0) (h:crs n a p * crs n a q<0):onR (p,q) n=true:=by
 have e1:crs n a p * (q.1 - n.1)=crs n a q * (p.1 - n.1):=by
  have:crs n a p * (q.1 - n.1) - crs n a q * (p.1 - n.1)=(a.1 - n.1) * crs p q n∨crs n a p * (q.1 - n.1) - crs n a q * (p.1 - n.1)=-(a.1 - n.1) * crs p q n:=by unfold crs;grind
  rw [hw] at this;omega
 have e2:crs n a p * (q.2 - n.2)=crs n a q * (p.2 - n.2):=by
  have:crs n a p * (q.2 - n.2) - crs n a q * (p.2 - n.2)=(a.2 - n.2) * crs p q n∨crs n a p * (q.2 - n.2) - crs n a q * (p.2 - n.2)=-(a.2 - n.2) * crs p q n:=by unfold crs;grind
  rw [hw] at this;omega
 have hs:(0<crs n a p∧crs n a q<0)∨(crs n a p<0∧0<crs n a q):=by
  rcases Int.lt_trichotomy (crs n a p) 0 with c | c | c<;>rcases Int.lt_trichotomy (crs n a q) 0 with d | d | d
  ·have:=zhc c d;omega
  ·rw [d] at h;omega
  ·exact Or.inr ⟨c,d⟩
  ·rw [c] at h;omega
  ·rw [c] at h;omega
  ·rw [c] at h;omega
  ·exact Or.inl ⟨c,d⟩
  ·rw [d] at h;omega
  ·have:=zjg c d;omega
 have hb:((0≤q.1 - n.1∧p.1 - n.1≤0)∨(q.1 - n.1≤0∧0≤p.1 - n.1))∧((0≤q.2 - n.2∧p.2 - n.2≤0)∨(q.2 - n.2≤0∧0≤p.2 - n.2)):=by
  rcases hs with ⟨c,d⟩ | ⟨c,d⟩
  ·exact ⟨zpk c d e1 rfl,zpk c d e2 rfl⟩
  ·have f1:=zpk (u:=crs n a q) (v:=crs n a p) d c e1.symm rfl;have f2:=zpk (u:=crs n a q) (v:=crs n a p) d c e2.symm rfl;exact ⟨by omega,by omega⟩
 unfold onR;rw [Bool.and_eq_true,decide_eq_true_eq,decide_eq_true_eq];refine ⟨?_,hw⟩;simp only;omega
theorem zll {x y:Int} (h:x * y<0):(0<x∧y<0)∨(x<0∧0<y):=by
 rcases Int.lt_trichotomy x 0 with c | c | c<;>rcases Int.lt_trichotomy y 0 with d | d | d
 ·have:=zhc c d;omega
 ·rw [d] at h;omega
 ·exact Or.inr ⟨c,d⟩
 ·rw [c] at h;omega
 ·rw [c] at h;omega
 ·rw [c] at h;omega
 ·exact Or.inl ⟨c,d⟩
 ·rw [d] at h;omega
 ·have:=zjg c d;omega
theorem zgr {x y:Int}:-x * -y=x * y:=by grind
theorem zxb {a b n p q:Pt} (hd:0<crs a b n) (hp:crs a b p<0) (hq:0<crs a b q) (hpq:crs p q a * crs p q b<0) (hout:crs b n q<0∨crs n a q<0) :
  (crs a n p * crs a n q<0∧crs p q a * crs p q n<0)∨(crs n b p * crs n b q<0∧crs p q n * crs p q b<0)∨onR (p,q) n=true:=by
 obtain ⟨i1,i2,i3⟩:=bary a b n p q;have s1:=zrg a b n p;have s2:=zrg a b n q;have hAB:crs a b n * crs p q a - crs a b n * crs p q b=crs a b n * (crs a b q - crs a b p):=by
  rw [i1,i2];have e1:crs b n p=crs a b n - crs a b p - crs n a p:=by omega
  have e2:crs b n q=crs a b n - crs a b q - crs n a q:=by omega
  rw [e1,e2];grind
 have hpos:=zjg hd (show 0<crs a b q - crs a b p by omega);rcases zll hpq with ⟨u,v⟩ | ⟨u,v⟩
 ·have u':=zjg hd u;have v':=zen hd v;rcases zafu hp hq (bp:=crs n a p) (bq:=crs n a q) (ap:=crs b n p) (aq:=crs b n q) (by omega) (by omega) hout with ⟨c1,c2⟩ | ⟨c1,c2⟩ | ⟨c1,c2⟩
  ·left;have hw:crs p q n<0:=by
    rcases Int.lt_trichotomy (crs p q n) 0 with c | c | c
    ·exact c
    ·rw [c] at i3;omega
    ·have:=zjg hd c;omega
   exact ⟨by rw [zbk n a p,zbk n a q,zgr];exact c2,zen u hw⟩
  ·right;left;have hw:0<crs p q n:=by
    rcases Int.lt_trichotomy (crs p q n) 0 with c | c | c
    ·have:=zen hd c;omega
    ·rw [c] at i3;omega
    ·exact c
   exact ⟨by rw [zbk b n p,zbk b n q,zgr];exact c2,zen hw v⟩
  ·right;right;have hw:crs p q n=0:=by have:crs a b n * crs p q n=0:=(by omega);exact (Int.mul_eq_zero.1 this).resolve_left (by omega)
   rcases c2 with ⟨c,d⟩ | ⟨c,d⟩
   ·exact ztn (a:=a) hw (zen c d)
   ·refine ztn (a:=b) hw ?_;rw [zbk b n p,zbk b n q,zgr];exact zen c d
 ·have u':=zen hd u;have v':=zjg hd v;omega
theorem zxa {a b n p q:Pt} (hd:0<crs a b n) (hg:crs a b p * crs a b q<0) (hpq:crs p q a * crs p q b<0) (hp:¬(0≤crs a b p∧0≤crs b n p∧0≤crs n a p)) (hq:¬(0≤crs a b q∧0≤crs b n q∧0≤crs n a q)) :
  (crs a n p * crs a n q<0∧crs p q a * crs p q n<0)∨(crs n b p * crs n b q<0∧crs p q n * crs p q b<0)∨onR (p,q) n=true:=by
 rcases zll hg with ⟨h1,h2⟩ | ⟨h1,h2⟩
 ·have:=zxb (p:=q) (q:=p) hd h2 h1 (by rw [zbk p q a,zbk p q b,zgr];exact hpq) (by omega);rw [zbk p q a,zbk p q b,zbk p q n,zgr,zgr,Int.mul_comm (crs a n q),Int.mul_comm (crs n b q)] at this;rw [←zto] at this;exact this
 ·exact zxb hd h1 h2 hpq (by omega)
theorem zaev {a b n p q:Pt} (hd:crs a b n≠0) (hg:crs a b p * crs a b q<0) (hpq:crs p q a * crs p q b<0) (hp:hasT n a b p=false) (hq:hasT n a b q=false) :
  (crs a n p * crs a n q<0∧crs p q a * crs p q n<0)∨(crs n b p * crs n b q<0∧crs p q n * crs p q b<0)∨onR (p,q) n=true:=by
 have hc:crs n a b=crs a b n:=by unfold crs;grind
 have ht:∀x,hasT n a b x=false→¬(0≤crs a b x∧0≤crs b n x∧0≤crs n a x)∧¬(crs a b x≤0∧crs b n x≤0∧crs n a x≤0):=fun x hx=>by
  have h1:∀n:Int,(0≤sgn n↔0≤n)∧(sgn n≤0↔n≤0):=fun n=>by unfold sgn;split<;>(try split)<;>omega
  unfold hasT at hx;rw [if_pos (by rw [hc];exact hd)] at hx;simp only [Bool.or_eq_false_iff,decide_eq_false_iff_not] at hx;rw [(h1 _).1,(h1 _).1,(h1 _).1,(h1 _).2,(h1 _).2,(h1 _).2] at hx;omega
 obtain ⟨p1,p2⟩:=ht p hp;obtain ⟨q1,q2⟩:=ht q hq;rcases Int.lt_or_gt_of_ne hd with h | h
 ·have e1:=zbk a b n;have:=zxa (a:=b) (b:=a) (n:=n) (p:=p) (q:=q) (by omega) (by rw [zbk a b p,zbk a b q,zgr];exact hg) (by rw [Int.mul_comm];exact hpq) (by
   have e2:=zbk a b p;have e3:=zbk n a p;have e4:=zbk b n p;omega) (by
   have e2:=zbk a b q;have e3:=zbk n a q;have e4:=zbk b n q;omega)
  rcases this with ⟨c1,c2⟩ | ⟨c1,c2⟩ | c
  ·refine Or.inr (Or.inl ⟨?_,by rw [Int.mul_comm];exact c2⟩);rw [zbk b n p,zbk b n q,zgr];exact c1
  ·refine Or.inl ⟨?_,by rw [Int.mul_comm];exact c2⟩;rw [zbk n a p,zbk n a q,zgr];exact c1
  ·exact Or.inr (Or.inr c)
 ·exact zxa h hg hpq p1 q1
end Go.Proofs.YtibpaaajghbkoaaGreat

namespace Go.Proofs.YtibpaaajghbkoaaGreat
theorem zhi {s t:Sg} (hs:zbd s=true) (ht:zbd t=true):zav s t=0↔(∀x,(x=s.1∨x=s.2∨x=t.1∨x=t.2)→¬(onR s x=true∧onR t x=true))∧¬(crs s.1 s.2 t.1 * crs s.1 s.2 t.2<0∧crs t.1 t.2 s.1 * crs t.1 t.2 s.2<0):=by
 have hmem:=@zbm s t;unfold zav;rw [hs,ht];simp only [Bool.and_self,Bool.not_true,Bool.false_eq_true,if_false];constructor
 ·intro h;split at h
  ·omega
  ·cases hc:zbe s t with
   |nil =>
    rw [hc] at h hmem;refine ⟨fun x hx hb=>?_,fun hp=>?_⟩
    ·have:=hmem.2 ⟨hx,hb⟩;cases this
    ·simp only [zja] at h;rw [if_pos ⟨zjt.2 hp.1,zjt.2 hp.2⟩] at h;omega
   |cons e l =>
    rw [hc] at h;cases l with
    |nil=>simp only [zja] at h;split at h<;>omega
    |cons e' l=>simp only [zja] at h;omega
 ·rintro ⟨h1,h2⟩;have hne:¬(s=t∨(s.1=t.2∧s.2=t.1)):=by
   rintro (e | ⟨e1,e2⟩)
   ·exact h1 s.1 (Or.inl rfl) ⟨(zce s).1,by rw [←e];exact (zce s).1⟩
   ·exact h1 s.1 (Or.inl rfl) ⟨(zce s).1,by rw [e1];exact (zce t).2⟩
  rw [if_neg hne,zgo (fun x hx=>by
   obtain ⟨a,b⟩:=hmem.1 hx
   exact h1 x a b)]
  simp only [zja];rw [if_neg];rintro ⟨a,b⟩;exact h2 ⟨zjt.1 a,zjt.1 b⟩
theorem zaov {n a b p:Pt} (hn:zat n=true) (ha:zat a=true) (hb:zat b=true) (hp:zat p=true) (hne:a≠b) (h:onR (a,b) p=true):hasT n a b p=true:=by
 by_cases h0:crs n a b=0
 ·rw [zanv hn ha hb hp];unfold inR;have hz:zdr n a b=0:=by unfold zdr;omega
  rw [if_pos hz,h];simp
 ·obtain ⟨hbox,hc⟩:=(zgm (a,b) p).1 h;simp only [] at hbox hc;have e1:(b.1 - a.1) * crs n a p=(p.1 - a.1) * crs n a b:=by have:(b.1 - a.1) * crs n a p - (p.1 - a.1) * crs n a b=(a.1 - n.1) * crs a b p∨(b.1 - a.1) * crs n a p - (p.1 - a.1) * crs n a b=-(a.1 - n.1) * crs a b p:=(by unfold crs;grind);rw [hc] at this;omega
  have e2:(b.2 - a.2) * crs n a p=(p.2 - a.2) * crs n a b:=by have:(b.2 - a.2) * crs n a p - (p.2 - a.2) * crs n a b=(a.2 - n.2) * crs a b p∨(b.2 - a.2) * crs n a p - (p.2 - a.2) * crs n a b=-(a.2 - n.2) * crs a b p:=(by unfold crs;grind);rw [hc] at this;omega
  have hsum:=zrg n a b p;have e3:(b.1 - a.1) * crs b n p=(b.1 - p.1) * crs n a b:=by have:crs b n p=crs n a b - crs n a p:=(by omega);rw [this,Int.mul_sub,e1];grind
  have e4:(b.2 - a.2) * crs b n p=(b.2 - p.2) * crs n a b:=by have:crs b n p=crs n a b - crs n a p:=(by omega);rw [this,Int.mul_sub,e2];grind
  have h1:∀n:Int,(0≤sgn n↔0≤n)∧(sgn n≤0↔n≤0):=fun n=>by unfold sgn;split<;>(try split)<;>omega
  have quo:∀(v w x d:Int),v * x=w * d→v≠0→btw v w→(0<d→0≤x)∧(d<0→x≤0):=fun v w x d e hv hb=>by
   unfold btw at hb;constructor
   ·intro hd;rcases Int.lt_trichotomy x 0 with c | c | c
    ·rcases Int.lt_or_gt_of_ne hv with k | k
     ·have:=zhc k c;have:=zapb (show w≤0 by omega) (show 0≤d by omega);omega
     ·have:=zen k c;have:=zaqr (show 0≤w by omega) (show 0≤d by omega);omega
    ·omega
    ·omega
   ·intro hd;rcases Int.lt_trichotomy x 0 with c | c | c
    ·omega
    ·omega
    ·rcases Int.lt_or_gt_of_ne hv with k | k
     ·have:=zeo k c;have:=zamb (show w≤0 by omega) (show d≤0 by omega);omega
     ·have:=zjg k c;have:=zapc (show 0≤w by omega) (show d≤0 by omega);omega
  have hboth:((0<crs n a b→0≤crs n a p)∧(crs n a b<0→crs n a p≤0))∧((0<crs n a b→0≤crs b n p)∧(crs n a b<0→crs b n p≤0)):=by
   by_cases hx:b.1 - a.1=0
   ·have hy:b.2 - a.2≠0:=fun c=>hne (Prod.ext (by omega) (by omega));exact ⟨quo _ _ _ _ e2 hy hbox.2,quo _ _ _ _ e4 hy (by unfold btw at *;omega)⟩
   ·exact ⟨quo _ _ _ _ e1 hx hbox.1,quo _ _ _ _ e3 hx (by unfold btw at *;omega)⟩
  unfold hasT;rw [if_pos h0,Bool.or_eq_true,decide_eq_true_eq,decide_eq_true_eq,(h1 _).1,(h1 _).1,(h1 _).1,(h1 _).2,(h1 _).2,(h1 _).2];rcases Int.lt_or_gt_of_ne h0 with k | k
  ·exact Or.inr ⟨hboth.1.2 k,by omega,hboth.2.2 k⟩
  ·exact Or.inl ⟨hboth.1.1 k,by omega,hboth.2.1 k⟩
theorem zahs {a n b:Pt} (hs:zbd (a,n)=true) (ht:zbd (n,b)=true) (h:zav (a,n) (n,b)=1) (han:a≠n) (hbn:b≠n):onR (n,b) a=false∧onR (a,n) b=false:=by
 have hmem:=@zbm (a,n) (n,b);have hn:n∈zbe (a,n) (n,b):=hmem.2 ⟨Or.inr (Or.inl rfl),(zce (a,n)).2,(zce (n,b)).1⟩;have one:∀x,x∈zbe (a,n) (n,b)→x=n:=fun x hx=>by
  by_cases hxn:x=n
  ·exact hxn
  ·obtain ⟨y,z,l,e⟩:=zss hn hx (fun c=>hxn c.symm);unfold zav at h;rw [hs,ht,e] at h;simp only [Bool.and_self,Bool.not_true,Bool.false_eq_true,if_false,zja] at h;split at h<;>omega
 constructor
 ·rw [Bool.eq_false_iff];intro c;exact han (one a (hmem.2 ⟨Or.inl rfl,(zce (a,n)).1,c⟩))
 ·rw [Bool.eq_false_iff];intro c;exact hbn (one b (hmem.2 ⟨Or.inr (Or.inr (Or.inr rfl)),c,(zce (n,b)).2⟩))
theorem zapv (a b n:Pt):crs n b a=-crs a b n∧crs a n b=-crs a b n:=by unfold crs;constructor<;>grind
theorem zalv {a b n p q:Pt} (na:zat a=true) (nb:zat b=true) (nn:zat n=true) (np:zat p=true) (nq:zat q=true) (hab:a≠b) (han:a≠n) (hbn:b≠n)
  (h1:zav (a,n) (p,q)=0) (h2:zav (n,b) (p,q)=0) (h3:zav (a,n) (n,b)=1) (hp:hasT n a b p=false) (hq:hasT n a b q=false):zav (a,b) (p,q)=0:=by
 have sab:zbd (a,b)=true:=by unfold zbd;simp [na,nb]
 have san:zbd (a,n)=true:=by unfold zbd;simp [na,nn]
 have snb:zbd (n,b)=true:=by unfold zbd;simp [nn,nb]
 have spq:zbd (p,q)=true:=by unfold zbd;simp [np,nq]
 obtain ⟨c1,d1⟩:=(zhi san spq).1 h1;obtain ⟨c2,d2⟩:=(zhi snb spq).1 h2;have hn:onR (p,q) n≠true:=fun c=>c1 n (Or.inr (Or.inl rfl)) ⟨(zce (a,n)).2,c⟩;refine (zhi sab spq).2 ⟨?_,?_⟩
 ·rintro x (rfl | rfl | rfl | rfl) ⟨e1,e2⟩
  ·exact c1 _ (Or.inl rfl) ⟨(zce (_,n)).1,e2⟩
  ·exact c2 _ (Or.inr (Or.inl rfl)) ⟨(zce (n,_)).2,e2⟩
  ·rw [zaov nn na nb np hab e1] at hp;cases hp
  ·rw [zaov nn na nb nq hab e1] at hq;cases hq
 ·rintro ⟨g1,g2⟩;simp only [] at g1 g2 d1 d2;by_cases hd:crs a b n=0
  ·
   obtain ⟨f1,f2⟩:=zahs san snb h3 han hbn;have hz:crs n b a=0∧crs a n b=0:=(by have:=zapv a b n;rw [hd] at this;exact this);have hk1:=zsj (p:=a) nn nb na;have hk2:=zsj (p:=b) na nn nb;rw [f1] at hk1;rw [f2] at hk2;rw [hz.1] at hk1;rw [hz.2] at hk2;have hbet:onR (a,b) n=true:=(zsj na nb nn).2 ⟨hd,by simp at hk1 hk2;omega⟩;obtain ⟨hbox,-⟩:=(zgm (a,b) n).1 hbet;simp only [] at hbox;have han1:¬(n.1 - a.1=0∧n.2 - a.2=0):=fun c=>han (Prod.ext (by omega) (by omega));have hbn1:¬(n.1 - b.1=0∧n.2 - b.2=0):=fun c=>hbn (Prod.ext (by omega) (by omega));have part:∀x,((b.1 - a.1) * crs a n x=(n.1 - a.1) * crs a b x∧(b.2 - a.2) * crs a n x=(n.2 - a.2) * crs a b x)∧((b.1 - a.1) * crs n b x=(b.1 - n.1) * crs a b x∧(b.2 - a.2) * crs n b x=(b.2 - n.2) * crs a b x):=fun x=>by unfold crs at *;refine ⟨⟨?_,?_⟩,?_,?_⟩<;>grind
   have pos:∀(v w x d:Int),v * x=w * d→btw v w→w≠0→(0<d→0<x)∧(d<0→x<0):=fun v w x d e hb hw=>by
    unfold btw at hb;constructor
    ·intro hd;rcases Int.lt_trichotomy x 0 with c | c | c
     ·rcases Int.lt_or_gt_of_ne hw with k | k
      ·have:=zhc (show v<0 by omega) c;have:=zeo k hd;omega
      ·have:=zen (show 0<v by omega) c;have:=zjg k hd;omega
     ·subst c;rcases Int.lt_or_gt_of_ne hw with k | k
      ·have:=zeo k hd;omega
      ·have:=zjg k hd;omega
     ·exact c
    ·intro hd;rcases Int.lt_trichotomy x 0 with c | c | c
     ·exact c
     ·subst c;rcases Int.lt_or_gt_of_ne hw with k | k
      ·have:=zhc k hd;omega
      ·have:=zen k hd;omega
     ·rcases Int.lt_or_gt_of_ne hw with k | k
      ·have:=zeo (show v<0 by omega) c;have:=zhc k hd;omega
      ·have:=zjg (show 0<v by omega) c;have:=zen k hd;omega
   have sg1:∀x,(0<crs a b x→0<crs a n x)∧(crs a b x<0→crs a n x<0):=fun x=>by
    by_cases hx:n.1 - a.1=0
    ·exact pos _ _ _ _ (part x).1.2 hbox.2 (fun c=>han1 ⟨hx,c⟩)
    ·exact pos _ _ _ _ (part x).1.1 hbox.1 hx
   have sg2:∀x,(0<crs a b x→0<crs n b x)∧(crs a b x<0→crs n b x<0):=fun x=>by
    by_cases hx:b.1 - n.1=0
    ·exact pos _ _ _ _ (part x).2.2 (by unfold btw at *;omega) (fun c=>hbn1 ⟨by omega,by omega⟩)
    ·exact pos _ _ _ _ (part x).2.1 (by unfold btw at *;omega) hx
   have hw:crs p q n≠0:=fun c=>by
    have:crs n a p * crs n a q<0:=by
     rw [zbk a n p,zbk a n q,zgr];rcases zll g1 with ⟨u,v⟩ | ⟨u,v⟩
     ·exact zen ((sg1 p).1 u) ((sg1 q).2 v)
     ·exact zeo ((sg1 p).2 u) ((sg1 q).1 v)
    exact hn (ztn c this)
   have m1:crs a n p * crs a n q<0:=by
    rcases zll g1 with ⟨u,v⟩ | ⟨u,v⟩
    ·exact zen ((sg1 p).1 u) ((sg1 q).2 v)
    ·exact zeo ((sg1 p).2 u) ((sg1 q).1 v)
   have m2:crs n b p * crs n b q<0:=by
    rcases zll g1 with ⟨u,v⟩ | ⟨u,v⟩
    ·exact zen ((sg2 p).1 u) ((sg2 q).2 v)
    ·exact zeo ((sg2 p).2 u) ((sg2 q).1 v)
   rcases zll g2 with ⟨u,v⟩ | ⟨u,v⟩
   ·rcases Int.lt_or_gt_of_ne hw with k | k
    ·exact d1 ⟨m1,zen u k⟩
    ·exact d2 ⟨m2,zen k v⟩
   ·rcases Int.lt_or_gt_of_ne hw with k | k
    ·exact d2 ⟨m2,zeo k v⟩
    ·exact d1 ⟨m1,zeo u k⟩
  ·rcases zaev hd g1 g2 hp hq with h | h | h
   ·exact d1 h
   ·exact d2 h
   ·exact hn h
end Go.Proofs.YtibpaaajghbkoaaGreat

namespace Go.Proofs.YtibpaaajghbkoaaGreat
theorem zqj {m:List ObjD} {D:List ByteArray} (h:zxt m D) {r:ByteArray} (hr:r ∉ D):zbi (zgi m D) r=zbi m r:=by
 have e:∀q,zbi (zgi m D) r=some q↔zbi m r=some q:=fun q=>by
  rw [zdi h.ok,zdi h.okm];constructor
  ·rintro ⟨o,ho,e1,e2,e3⟩;obtain ⟨o0,ho0,_,rfl⟩:=zkt.1 ho;exact ⟨o0,ho0,e1,e2,e3⟩
  ·rintro ⟨o,ho,rfl,e2,e3⟩;exact ⟨_,zkt.2 ⟨o,ho,hr,rfl⟩,rfl,e2,e3⟩
 cases h1:zbi (zgi m D) r with
 |none =>
  cases h2:zbi m r with
  |none=>rfl
  |some q=>rw [(e q).2 h2] at h1;cases h1
 |some q=>exact ((e q).1 h1).symm
theorem zaix {m:List ObjD} {D:List ByteArray} (h:zxt m D) {d:ByteArray} (hd:d∈D):(zbi m d).isSome=true:=by obtain ⟨⟨o,ho,e,hk,_⟩,_⟩:=h.gone d hd;rw [(zdi h.okm (q:=(o.x,o.y))).2 ⟨o,ho,e,hk,rfl⟩];rfl
theorem zabv {m:List ObjD} {D:List ByteArray} (h:zxt m D) (o:ObjD):isB (zgi m D) { o with refs:=o.refs.filter fun r=>decide (r ∉ D) }=isB m o:=by
 unfold isB;show (decide (o.kind=2∨o.kind=3) && _)=_;congr 1;unfold zfn;rw [Bool.eq_iff_iff,List.all_eq_true,List.all_eq_true];constructor
 ·intro ha r hr;by_cases hd:r∈D
  ·exact zaix h hd
  ·have:=ha r (List.mem_filter.2 ⟨hr,decide_eq_true hd⟩);rwa [zqj h hd] at this
 ·intro ha r hr;obtain ⟨h1,h2⟩:=List.mem_filter.1 hr;rw [zqj h (of_decide_eq_true h2)];exact ha r h1
theorem zjw {o:ObjD} {i:Nat} {a:ByteArray} (h:o.refs[i]?=some a):zcc o i=a:=by unfold zcc;rw [h];rfl
end Go.Proofs.YtibpaaajghbkoaaGreat

namespace Go.Proofs.YtibpaaajghbkoaaGreat
theorem zko {o:ObjD} (hk:o.kind=2∨o.kind=3) (hl:2≤o.refs.length) {k:KeyD}:k∈zbh o↔(∃C D u v,o.refs=C++u :: v :: D∧k=key2 u v)∨(o.kind=3∧∃u v,o.refs.getLast?=some u∧o.refs.head?=some v∧k=key2 u v):=by
 unfold zbh;rw [List.mem_map];constructor
 ·rintro ⟨i,hi,rfl⟩;rw [List.mem_range] at hi;have hlt:i<o.refs.length:=by unfold zdp at hi;split at hi<;>omega
  have e1:=zew hlt;rcases Nat.lt_or_ge (i+1) o.refs.length with h | h
  ·left;have e2:=zew h;refine ⟨o.refs.take i,o.refs.drop (i+2),zcc o i,zcc o (i+1),?_,?_⟩
   ·conv=>lhs;rw [←List.take_append_drop i o.refs]
    rw [List.drop_eq_getElem_cons hlt,List.drop_eq_getElem_cons h];rw [List.getElem?_eq_getElem hlt] at e1;rw [List.getElem?_eq_getElem h] at e2;rw [Option.some.inj e1,Option.some.inj e2]
   ·unfold zds;rw [Nat.mod_eq_of_lt h]
  ·right;have hin:i+1=o.refs.length:=(by omega);refine ⟨?_,zcc o i,zcc o 0,?_,?_,?_⟩
   ·rcases hk with hk | hk
    ·unfold zdp at hi;rw [if_pos hk] at hi;omega
    ·exact hk
   ·rw [List.getLast?_eq_getElem?,show o.refs.length - 1=i by omega];exact e1
   ·rw [List.head?_eq_getElem?];exact zew (by omega)
   ·unfold zds;rw [hin,Nat.mod_self]
 ·rintro (⟨C,D,u,v,e,rfl⟩ | ⟨h3,u,v,e1,e2,rfl⟩)
  ·have hlen:o.refs.length=C.length+(D.length+2):=(by rw [e];simp);have g1:o.refs[C.length]?=some u:=(by rw [e,List.getElem?_append_right zR,Nat.sub_self];rfl);have g2:o.refs[C.length+1]?=some v:=(by rw [e,List.getElem?_append_right (by omega),show C.length+1 - C.length=1 by omega];rfl);refine ⟨C.length,List.mem_range.2 (by unfold zdp;split<;>omega),?_⟩;unfold zds;rw [Nat.mod_eq_of_lt (by omega),zjw g1,zjw g2]
  ·rw [List.getLast?_eq_getElem?] at e1;rw [List.head?_eq_getElem?] at e2;refine ⟨o.refs.length - 1,List.mem_range.2 (by unfold zdp;rw [if_neg (by omega)];omega),?_⟩;unfold zds;rw [show o.refs.length - 1+1=o.refs.length by omega,Nat.mod_self,zjw e1,zjw e2]
theorem zabl {o:ObjD} {id:ByteArray} {p:KeyD} (hok:zay o=true) (hid:id∈o.refs) (h:nbrO o id=some p) :
  ∃A B a b,o.refs=A++id :: B∧id ∉ A∧id ∉ B∧p=key2 a b∧a≠b∧(A.getLast?=some a∨(A=[]∧o.kind=3∧B.getLast?=some a))∧(B.head?=some b∨(B=[]∧o.kind=3∧A.head?=some b)):=by
 obtain ⟨hkind,A,B,hs,hA,hB,h2,h3⟩:=zks hok hid h;obtain ⟨hl,hs',hA'⟩:=zhh hid;have hidx:idxR id o.refs=A.length:=by
  have h1:(o.refs.take (idxR id o.refs)).length=idxR id o.refs:=by rw [List.length_take];omega
  have hne:∀(A A' B B':List ByteArray),A++id :: B=A'++id :: B'→id ∉ A→id ∉ A'→A.length=A'.length:=by
   intro A
   induction A with
   |nil =>
    intro A' B B' e _ hA';cases A' with
    |nil=>rfl
    |cons x A' =>have:id=x:=(by simpa using (List.cons.inj e).1);exact absurd (by simp [this]) hA'
   |cons y A ih =>
    intro A' B B' e hA hA';cases A' with
    |nil =>have:y=id:=(by simpa using (List.cons.inj e).1);exact absurd (by simp [this]) hA
    |cons x A' =>have:=ih A' B B' (List.cons.inj e).2 (fun c=>hA (List.mem_cons_of_mem _ c)) (fun c=>hA' (List.mem_cons_of_mem _ c));simp [this]
  have:=hne _ _ _ _ (hs'.symm.trans hs) hA' hA;omega
 have hlen:o.refs.length=A.length+B.length+1:=by rw [hs];simp;omega
 have get:∀i,o.refs[i]?=if i<A.length then A[i]? else if i=A.length then some id else B[i - A.length - 1]?:=fun i=>by
  rw [hs];by_cases h1:i<A.length
  ·rw [if_pos h1,List.getElem?_append_left h1]
  ·rw [if_neg h1,List.getElem?_append_right (by omega)];by_cases h2:i=A.length
   ·rw [if_pos h2,h2,Nat.sub_self];rfl
   ·rw [if_neg h2,show i - A.length=(i - A.length - 1)+1 by omega,List.getElem?_cons_succ];rfl
 unfold nbrO at h;split at h
 ·rename_i hc;split at h
  ·cases h
  ·rename_i hne;injection h with h;subst h;rw [hidx] at hne ⊢;refine ⟨A,B,_,_,hs,hA,hB,rfl,hne,?_,?_⟩
   ·by_cases hA0:A=[]
    ·right;have hk3:o.kind=3:=by
      rcases hkind with hk | hk
      ·exact absurd hA0 (h2 hk).1
      ·exact hk
     have h4:=h3 hk3;subst hA0;refine ⟨rfl,hk3,?_⟩;simp only [List.length_nil,Nat.zero_add] at hlen ⊢;rw [Nat.mod_eq_of_lt (by omega),List.getLast?_eq_getElem?];have g:=get (o.refs.length - 1);simp only [List.length_nil,Nat.not_lt_zero,if_false] at g;rw [if_neg (by omega)] at g;have g2:=zew (o:=o) (i:=o.refs.length - 1) (by omega);rw [show B.length - 1=o.refs.length - 1 - 0 - 1 by omega,←g];exact g2
    ·left;have hpos:=List.length_pos_iff.2 hA0;rw [show A.length+o.refs.length - 1=(A.length - 1)+o.refs.length by omega,Nat.add_mod_right,Nat.mod_eq_of_lt (by omega),List.getLast?_eq_getElem?];have g:=get (A.length - 1);rw [if_pos (by omega)] at g;rw [←g];exact zew (by omega)
   ·by_cases hB0:B=[]
    ·right;have hk3:o.kind=3:=by
      rcases hkind with hk | hk
      ·exact absurd hB0 (h2 hk).2.1
      ·exact hk
     have h4:=h3 hk3;subst hB0;refine ⟨rfl,hk3,?_⟩;simp only [List.length_nil,Nat.add_zero] at hlen;rw [←hlen,Nat.mod_self,List.head?_eq_getElem?];have g:=get 0;rw [if_pos (by omega)] at g;rw [←g];exact zew (by omega)
    ·left;have hpos:=List.length_pos_iff.2 hB0;rw [Nat.mod_eq_of_lt (by omega),List.head?_eq_getElem?];have g:=get (A.length+1);rw [if_neg (by omega),if_neg (by omega),show A.length+1 - A.length - 1=0 by omega] at g;rw [←g];exact zew (by omega)
 ·cases h
theorem zhk {α:Type} {A:List α} {a:α} (h:A.getLast?=some a):∃A',A=A'++[a]:=by
 cases A with
 |nil=>cases h
 |cons x A =>
  have hne:x :: A≠[]:=by simp
  rw [List.getLast?_eq_some_getLast hne] at h;injection h with h;exact ⟨(x :: A).dropLast,by rw [←h];exact (List.dropLast_concat_getLast hne).symm⟩
theorem zgn {α:Type} {A:List α} {a:α} (h:A.head?=some a):∃A',A=a :: A':=by
 cases A with
 |nil=>cases h
 |cons x A=>injection h with h;exact ⟨A,by rw [h]⟩
theorem znz {o:ObjD} {n:ByteArray} {p:KeyD} (hok:zay o=true) (hid:n∈o.refs) (h:nbrO o n=some p) :
  (∀k∈zbh (zbz n o),k∈zbh o∨k=p)∧key2 p.1 n∈zbh o∧key2 n p.2∈zbh o∧p∈zbh (zbz n o)∧p.1≠p.2∧p.1≠n∧p.2≠n∧p.1∈o.refs∧p.2∈o.refs∧∃a b,p=key2 a b:=by
 have hkind:=(zks hok hid h).1;obtain ⟨A,B,a,b,hs,hA,hB,rfl,hne,ha,hb⟩:=zabl hok hid h;have hlok:=zzi hok hid h;have hR:(zbz n o).refs=A++B:=by show zbq n o.refs=_;rw [hs,zol hA hB]
 have two:∀x:ObjD,zay x=true→(x.kind=2∨x.kind=3)→2≤x.refs.length:=fun x hx hk=>by
  simp only [zay,Bool.and_eq_true,decide_eq_true_eq] at hx;have h4:=hx.1.1.1.2;rcases hk with hk | hk
  ·rw [hk] at h4;unfold zff at h4;simp at h4;omega
  ·rw [hk] at h4;unfold zff at h4;simp at h4;omega
 have l1:=two o hok hkind;have l2:=two _ hlok (show (zbz n o).kind=2∨(zbz n o).kind=3 from hkind);have kan:key2 a n∈zbh o:=by
  rw [zko hkind l1];rcases ha with ha | ⟨hA0,hk3,ha⟩
  ·obtain ⟨A',rfl⟩:=zhk ha;exact Or.inl ⟨A',B,a,n,by rw [hs];simp,rfl⟩
  ·subst hA0;obtain ⟨B',rfl⟩:=zhk ha;refine Or.inr ⟨hk3,a,n,?_,?_,rfl⟩
   ·rw [hs];exact zgu (n :: B') a
   ·rw [hs];rfl
 have knb:key2 n b∈zbh o:=by
  rw [zko hkind l1];rcases hb with hb | ⟨hB0,hk3,hb⟩
  ·obtain ⟨B',rfl⟩:=zgn hb;exact Or.inl ⟨A,B',n,b,hs,rfl⟩
  ·subst hB0;obtain ⟨A',rfl⟩:=zgn hb;refine Or.inr ⟨hk3,n,b,?_,?_,rfl⟩
   ·rw [hs];exact zgu (b :: A') n
   ·rw [hs];rfl
 have kab:key2 a b∈zbh (zbz n o):=by
  rw [zko (show (zbz n o).kind=2∨(zbz n o).kind=3 from hkind) l2,hR];rcases ha with ha | ⟨hA0,hk3,ha⟩
  ·rcases hb with hb | ⟨hB0,hk3,hb⟩
   ·obtain ⟨A',rfl⟩:=zhk ha;obtain ⟨B',rfl⟩:=zgn hb;exact Or.inl ⟨A',B',a,b,by simp,rfl⟩
   ·subst hB0;exact Or.inr ⟨hk3,a,b,by rw [List.append_nil];exact ha,by rw [List.append_nil];exact hb,rfl⟩
  ·subst hA0;rcases hb with hb | ⟨hB0,_,hb⟩
   ·exact Or.inr ⟨hk3,a,b,ha,hb,rfl⟩
   ·subst hB0;cases hb
 have han:a≠n:=fun e=>by
  subst e;rcases ha with ha | ⟨_,_,ha⟩
  ·exact hA (List.mem_of_getLast? ha)
  ·exact hB (List.mem_of_getLast? ha)
 have hbn:b≠n:=fun e=>by
  subst e;rcases hb with hb | ⟨_,_,hb⟩
  ·exact hB (List.mem_of_head? hb)
  ·exact hA (List.mem_of_head? hb)
 have har:a∈o.refs:=zgk kan (zfq.2 (Or.inl rfl));have hbr:b∈o.refs:=zgk knb (zfq.2 (Or.inr rfl));refine ⟨fun k hk=>?_,?_⟩
 ·rw [zko (show (zbz n o).kind=2∨(zbz n o).kind=3 from hkind) l2,hR] at hk;rw [zko hkind l1];rcases hk with ⟨C,D,u,v,e,rfl⟩ | ⟨hk3,u,v,e1,e2,rfl⟩
  ·rcases List.append_eq_append_iff.1 e with ⟨E,rfl,e'⟩ | ⟨E,rfl,e'⟩
   ·exact Or.inl (Or.inl ⟨A++n :: E,D,u,v,by rw [hs,e'];simp,rfl⟩)
   ·cases E with
    |nil =>simp only [List.nil_append] at e';refine Or.inl (Or.inl ⟨C++[n],D,u,v,by rw [hs,←e'];simp,rfl⟩)
    |cons x E =>
     simp only [List.cons_append] at e';obtain ⟨e3,e4⟩:=List.cons.inj e';clear e';subst e3;cases E with
     |nil =>
      simp only [List.nil_append] at e4;right;have h1:a=u:=by
       rcases ha with ha | ⟨h0,_,_⟩
       ·simpa using ha.symm
       ·simp at h0
      have h2:b=v:=by
       rcases hb with hb | ⟨h0,_,_⟩
       ·rw [←e4] at hb;simpa using hb.symm
       ·rw [←e4] at h0;cases h0
      rw [h1,h2]
     |cons y E =>simp only [List.cons_append] at e4;obtain ⟨e5,e6⟩:=List.cons.inj e4;clear e4;subst e5;exact Or.inl (Or.inl ⟨C,E++n :: B,u,v,by rw [hs];simp,rfl⟩)
  ·have hk3':o.kind=3:=hk3;rcases ha with ha | ⟨hA0,_,ha⟩
   ·rcases hb with hb | ⟨hB0,_,hb⟩
    ·left;right;obtain ⟨A',rfl⟩:=zhk ha;obtain ⟨B',rfl⟩:=zgn hb;refine ⟨hk3',u,v,?_,?_,rfl⟩
     ·rw [←e1,hs];rw [List.getLast?_append (l:=A'++[a]) (l':=n :: b :: B'),List.getLast?_append (l:=A'++[a]) (l':=b :: B'),List.getLast?_cons_cons]
     ·rw [←e2,hs];simp
    ·right;subst hB0;rw [List.append_nil] at e1 e2;rw [ha] at e1;rw [hb] at e2;injection e1 with e1;injection e2 with e2;rw [e1,e2]
   ·right;subst hA0;rcases hb with hb | ⟨hB0,_,hb⟩
    ·rw [List.nil_append] at e1 e2;rw [ha] at e1;rw [hb] at e2;injection e1 with e1;injection e2 with e2;rw [e1,e2]
    ·subst hB0;cases hb
 ·rcases zhy a b with e | e<;>rw [e] at kab ⊢<;>simp only
  ·exact ⟨kan,knb,kab,hne,han,hbn,har,hbr,a,b,e.symm⟩
  ·exact ⟨by rw [zgc];exact knb,by rw [zgc];exact kan,kab,fun c=>hne c.symm,hbn,han,hbr,har,b,a,by rw [zgc];exact e.symm⟩
end Go.Proofs.YtibpaaajghbkoaaGreat
