/-     -/
import Derived.Test.YtdfenhjibnfdeaaGreatDoorQyAr
import Derived.Test.YtdfenhjibnfdeaaGreatDoorQyAg
import Derived.Test.YtdfenhjibnfdeaaGreatDoorQyAe
namespace Go.Proofs.YtdfenhjibnfdeaaGreatDoor
open Go.RowKit Go.Shelf
def TkR (w:World) (v:Value) (T:List TokD):Prop :=
 ∃(a:Option Addr) (cap:Nat),v=.slice a T.length cap∧T.length≤cap∧cap≤maxLen ∧
  (0<T.length→∃b off,a=some ⟨b,off,none⟩∧∀(i:Nat) (t:TokD),T[i]?=some t→w.cell? ⟨b,off+i * 3,none⟩=some (.int .i64 t.kind)∧w.cell? ⟨b,off+i * 3+1,none⟩=some (.string t.text)∧w.cell? ⟨b,off+i * 3+2,none⟩=some (.int .i64 t.off))
theorem TkR.later {w w':World} {v:Value} {T:List TokD} (h:TkR w v T) (hb:Below w.heap.size w w'):TkR w' v T:=by
 obtain ⟨a,cap,h1,h2,h3,h4⟩:=h
 refine ⟨a,cap,h1,h2,h3,fun h0=>?_⟩
 obtain ⟨b,off,e,hc⟩:=h4 h0
 exact ⟨b,off,e,fun i t hi=>⟨cell_later hb (hc i t hi).1,cell_later hb (hc i t hi).2.1,cell_later hb (hc i t hi).2.2⟩⟩
theorem flat_at (T:List TokD):∀(i:Nat) (t:TokD),T[i]?=some t→(T.flatMap encTk)[i * 3]?=some (.int .i64 t.kind)∧(T.flatMap encTk)[i * 3+1]?=some (.string t.text)∧(T.flatMap encTk)[i * 3+2]?=some (.int .i64 t.off):=by
 induction T with
 |nil=>intro i t h;cases h
 |cons x r ih =>
  intro i t h
  rw [List.flatMap_cons]
  cases i with
  |zero=>injection h with h;subst h;exact ⟨rfl,rfl,rfl⟩
  |succ i =>
   obtain ⟨h1,h2,h3⟩:=ih i t h
   have e:∀j,(encTk x++r.flatMap encTk)[(i+1) * 3+j]?=(r.flatMap encTk)[i * 3+j]?:=fun j=>by
    rw [List.getElem?_append_right (by simp only [encTk,List.length_cons,List.length_nil];omega)]
    congr 1
    simp only [encTk,List.length_cons,List.length_nil];omega
   exact ⟨(e 0).trans h1,(e 1).trans h2,(e 2).trans h3⟩
theorem TkR.of_own {w:World} {base:Nat} {v:Value} {T:List TokD} (h:w.ownsRow base 43 3 v T.length (T.flatMap encTk)):TkR w v T:=by
 have hc:=fun g=>World.ownsRow.cells h (g:=g)
 rcases h.2 with ⟨rfl,h0⟩ | ⟨g,cap,cur,rfl,hb,hg,h1,h2,_⟩
 ·exact ⟨none,0,by rw [h0],by omega,by unfold maxLen;omega,fun h=>by omega⟩
 ·refine ⟨some ⟨g,0,none⟩,cap,rfl,h1,h2,fun _=>⟨g,0,rfl,fun i t hi=>?_⟩⟩
  obtain ⟨h1,h2,h3⟩:=flat_at T i t hi
  have k1:=hc g rfl _ _ h1
  have k2:=hc g rfl _ _ h2
  have k3:=hc g rfl _ _ h3
  rw [Addr.add_lit] at k1 k2 k3
  exact ⟨k1,k2,k3⟩
end Go.Proofs.YtdfenhjibnfdeaaGreatDoor

namespace Go.Proofs.YtdfenhjibnfdeaaGreatDoor
open Go.RowKit Go.Shelf
def TokOK (t:TokD):Prop:=t.text.size≤20000∧(t.kind=2→t.text.size≤18∧∃n,Lib.atoi t.text.data.toList=some n∧numS t.text=some n)
def PAt (B:Nat) (w:World) (pb:Nat) (ts:List TokD) (fin:Nat):Prop:=∃tv,w.heap[pb]?=some (.cells #[tv,.int .i64 fin] 80 (0,0))∧TkR w tv ts∧ts.length≤5000∧(∀t∈ts,TokOK t)∧∀a n c,tv=.slice (some a) n c→a.block<B
theorem PAt.low {B:Nat} {w w':World} {pb:Nat} {ts:List TokD} {fin:Nat} (h:PAt B w pb ts fin) (hb:Below w.heap.size w w'):PAt B w' pb ts fin:=by
 obtain ⟨tv,h1,h2,h3⟩:=h
 exact ⟨tv,row_later hb h1,h2.later hb,h3⟩
theorem PAt.keep {B:Nat} {w w':World} {pb:Nat} {ts:List TokD} {fin:Nat} (h:PAt B w pb ts fin) (hb:Below B w w') (hr:w'.heap[pb]?=w.heap[pb]?):PAt B w' pb ts fin:=by
 obtain ⟨tv,h1,⟨a,cap,rfl,h2,h3,h4⟩,h5,h6,h7⟩:=h
 refine ⟨_,hr.trans h1,⟨a,cap,rfl,h2,h3,fun h0=>?_⟩,h5,h6,h7⟩
 obtain ⟨b,off,rfl,hc⟩:=h4 h0
 have hlt:b<B:=h7 _ _ _ rfl
 refine ⟨b,off,rfl,fun i t hi=>?_⟩
 obtain ⟨c0,c1,c2⟩:=hc i t hi
 have e:∀o,w'.cell? ⟨b,o,none⟩=w.cell? ⟨b,o,none⟩:=fun o=>hb.cell (p:=⟨b,o,none⟩) hlt
 exact ⟨(e _).trans c0,(e _).trans c1,(e _).trans c2⟩
theorem TkR.open {w:World} {v:Value} {t:TokD} {ts:List TokD} (h:TkR w v (t :: ts)):∃b off cap,v=.slice (some ⟨b,off,none⟩) (ts.length+1) cap∧ts.length+1≤cap∧cap≤maxLen ∧
  w.cell? ⟨b,off,none⟩=some (.int .i64 t.kind)∧w.cell? ⟨b,off+1,none⟩=some (.string t.text)∧w.cell? ⟨b,off+2,none⟩=some (.int .i64 t.off):=by
 obtain ⟨a,cap,rfl,h1,h2,h3⟩:=h
 obtain ⟨b,off,rfl,hc⟩:=h3 (by simp)
 have:=hc 0 t rfl
 rw [Nat.zero_mul,Nat.add_zero] at this
 exact ⟨b,off,cap,rfl,h1,h2,this⟩
def failE (er:Int) (off:Nat):Ending:=.panicked [{ v:=.iface 77 (.agg #[.int .i64 er,.int .i64 off]),recovered:=false }]
def failA (fin:Nat) (er:Int):List TokD→Ending
 |[]=>failE 6 fin
 |t :: _=>failE er t.off
set_option maxHeartbeats 1000000 in
theorem fail_any {B:Nat} (pb:Nat) (ts:List TokD) (fin:Nat) (er:Int) (w:World) (h:PAt B w pb ts fin) :
  Calls Tryz.prog 65 #[.pointer (some ⟨pb,0,none⟩),.int .i64 er] w fun e w'=>e=failA fin er ts∧w'=w:=by
 obtain ⟨tv,h1,h2,-⟩:=h
 have HP:=Lib.hid h1
 cases ts with
 |nil =>
  obtain ⟨a,cap,rfl,-⟩:=h2
  go_enter Tryz.func65,Tryz.ntmps65
  obtain ⟨pz,p0,p1⟩:=rk2 HP.out
  go_wp2
  exact ⟨rfl,rfl,rfl⟩
 |cons t ts =>
  obtain ⟨b,off,cap,rfl,-,-,c0,c1,c2⟩:=h2.open
  go_enter Tryz.func65,Tryz.ntmps65
  obtain ⟨pz,p0,p1⟩:=rk2 HP.out
  go_wp2
  exact ⟨rfl,rfl,rfl⟩
set_option maxRecDepth 100000 in
set_option maxHeartbeats 1000000 in
theorem is_any {B:Nat} (pb:Nat) (ts:List TokD) (fin:Nat) (s:ByteArray) (w:World) (h:PAt B w pb ts fin) :
  Calls Tryz.prog 99 #[.pointer (some ⟨pb,0,none⟩),.string s] w fun e w'=>e=.returned (.bool (isP s ts))∧w'=w:=by
 obtain ⟨tv,h1,h2,-⟩:=h
 have HP:=Lib.hid h1
 cases ts with
 |nil =>
  obtain ⟨a,cap,rfl,-⟩:=h2
  go_enter Tryz.func99,Tryz.ntmps99
  obtain ⟨pz,p0,p1⟩:=rk2 HP.out
  go_wp2
  go_ret
  exact ⟨rfl,rfl⟩
 |cons t ts =>
  obtain ⟨b,off,cap,rfl,-,-,c0,c1,c2⟩:=h2.open
  clear h2 h1
  have HE:=Lib.hid (show isP s (t :: ts)=(decide (t.text=s) && decide (t.kind=1∨t.kind=4)) from rfl)
  have dl:decide ((0:Int)<(ts.length:Int)+1)=true:=by rw [decide_eq_true_eq];omega
  rw [HE.out]
  by_cases e:t.text=s
  ·have e1:(t.text.toList==s.toList)=true:=str_eq_true e
   rw [decide_eq_true e]
   clear e HE
   by_cases k1:t.kind=1
   ·have x1:(t.kind==1)=true:=by rw [beq_iff_eq];exact k1
    rw [decide_eq_true (Or.inl k1)]
    clear k1
    go_enter Tryz.func99,Tryz.ntmps99
    obtain ⟨pz,p0,p1⟩:=rk2 HP.out
    go_wp2
    go_ret
    exact ⟨rfl,rfl⟩
   ·have x1:(t.kind==1)=false:=by rw [beq_eq_false_iff_ne];exact k1
    by_cases k4:t.kind=4
    ·have x4:(t.kind==4)=true:=by rw [beq_iff_eq];exact k4
     rw [decide_eq_true (Or.inr k4)]
     clear k1 k4
     go_enter Tryz.func99,Tryz.ntmps99
     obtain ⟨pz,p0,p1⟩:=rk2 HP.out
     go_wp2
     go_ret
     exact ⟨rfl,rfl⟩
    ·have x4:(t.kind==4)=false:=by rw [beq_eq_false_iff_ne];exact k4
     rw [decide_eq_false (fun h=>h.elim k1 k4)]
     clear k1 k4
     go_enter Tryz.func99,Tryz.ntmps99
     obtain ⟨pz,p0,p1⟩:=rk2 HP.out
     go_wp2
     go_ret
     exact ⟨rfl,rfl⟩
  ·have e1:(t.text.toList==s.toList)=false:=str_eq_false e
   rw [decide_eq_false e]
   clear e HE
   go_enter Tryz.func99,Tryz.ntmps99
   obtain ⟨pz,p0,p1⟩:=rk2 HP.out
   go_wp2
   go_ret
   exact ⟨rfl,rfl⟩
theorem KeepB.cell {bx b off:Nat} {w w':World} {v:Value} (h:KeepB bx w w') (hn:b≠bx) (hc:w.cell? ⟨b,off,none⟩=some v):w'.cell? ⟨b,off,none⟩=some v:=by
 have hlt:b<w.heap.size:=lt_of_cell hc
 rw [World.cell?_of_block (w:=w) (h.2 b hlt hn)];exact hc
theorem tok_ne {w:World} {pb b off fin n c:Nat} {a:Option Addr} {T:TypeId} {s:ByteArray} (h:w.heap[pb]?=some (.cells #[.slice a n c,.int .i64 fin] T (0,0))) (hc:w.cell? ⟨b,off+1,none⟩=some (.string s)):b≠pb:=by
 rintro rfl
 have:=cell_of_row w b (off+1) _ _ _ h
 rw [hc] at this
 match off with
 |0=>simp at this
 |off+1=>simp at this
theorem TkR.keep {w w':World} {pb fin n c:Nat} {a:Option Addr} {T:TypeId} {v:Value} {ts:List TokD} (h:TkR w v ts) (hp:w.heap[pb]?=some (.cells #[.slice a n c,.int .i64 fin] T (0,0))) (hk:KeepB pb w w'):TkR w' v ts:=by
 obtain ⟨a,cap,h1,h2,h3,h4⟩:=h
 refine ⟨a,cap,h1,h2,h3,fun h0=>?_⟩
 obtain ⟨b,off,ha,hc⟩:=h4 h0
 refine ⟨b,off,ha,fun i t hi=>?_⟩
 obtain ⟨c0,c1,c2⟩:=hc i t hi
 have hn:b≠pb:=tok_ne hp c1
 exact ⟨hk.cell hn c0,hk.cell hn c1,hk.cell hn c2⟩
theorem TkR.tail {w:World} {b off cap:Nat} {t:TokD} {ts:List TokD} (h:TkR w (.slice (some ⟨b,off,none⟩) (ts.length+1) cap) (t :: ts)) {a':Addr} {cap':Nat} (hcase:a'=⟨b,off+3,none⟩∧cap'=cap - 1∨cap=1∧cap'=0):TkR w (.slice (some a') ts.length cap') ts:=by
 obtain ⟨a,c,h1,h2,h3,h4⟩:=h
 injection h1 with e1 e2 e3
 subst e3
 rw [List.length_cons] at h2
 obtain ⟨b2,o2,e4,hc⟩:=h4 (by simp)
 rw [e4] at e1
 injection e1 with e1
 injection e1 with e5 e6
 subst e5 e6
 rcases hcase with ⟨rfl,rfl⟩ | ⟨rfl,rfl⟩
 ·refine ⟨_,_,rfl,by omega,by omega,fun _=>⟨_,_,rfl,fun i u hi=>?_⟩⟩
  have:=hc (i+1) u hi
  rw [show off+(i+1) * 3=off+3+i * 3 by omega] at this
  exact this
 ·have:ts=[]:=List.length_eq_zero_iff.1 (by omega)
  subst this
  exact ⟨_,_,rfl,by simp,by unfold maxLen;omega,fun h=>by simp at h⟩
theorem PAt.next {B:Nat} {w:World} {pb fin b off cap:Nat} {t:TokD} {ts:List TokD} (hp:w.heap[pb]?=some (.cells #[.slice (some ⟨b,off,none⟩) (ts.length+1) cap,.int .i64 fin] 80 (0,0)))
  (h:TkR w (.slice (some ⟨b,off,none⟩) (ts.length+1) cap) (t :: ts)) (h3:(t :: ts).length≤5000∧(∀x∈t :: ts,TokOK x)∧∀a n c,(.slice (some ⟨b,off,none⟩) (ts.length+1) cap:Value)=.slice (some a) n c→a.block<B) {a':Addr} {cap':Nat} (hcase:a'=⟨b,off+3,none⟩∧cap'=cap - 1∨cap=1∧cap'=0∧a'=⟨b,off,none⟩) :
  PAt B (w.setCell ⟨pb,0,none⟩ (.slice (some a') ts.length cap')) pb ts fin :=
 ⟨_,row_set (i:=0) hp,(h.tail (hcase.imp id fun h=>⟨h.1,h.2.1⟩)).keep hp (KeepB.set _ _ _ _),by have:=h3.1;rw [List.length_cons] at this;omega,fun x hx=>h3.2.1 x (List.mem_cons_of_mem _ hx),fun a n c e=>by
  injection e with e _ _;injection e with e;subst e
  have:=h3.2.2 ⟨b,off,none⟩ _ _ rfl
  rcases hcase with ⟨rfl,_⟩ | ⟨_,_,rfl⟩<;>exact this⟩
structure PMem (B pb:Nat) (w w':World):Prop where
 low:Below B w w'
 keep:KeepB pb w w'
def tailP (b:Bool) (ts:List TokD):List TokD:=if b then ts.tail else ts
set_option maxRecDepth 100000 in
set_option maxHeartbeats 1000000 in
theorem skip_any (B pb:Nat) (hB:B≤pb) (ts:List TokD) (fin:Nat) (s:ByteArray) (w:World) (h:PAt B w pb ts fin) :
  Calls Tryz.prog 64 #[.pointer (some ⟨pb,0,none⟩),.string s] w fun e w'=>e=.returned (.bool (isP s ts))∧PAt B w' pb (tailP (isP s ts) ts) fin∧PMem B pb w w':=by
 have HI:=Lib.hid (is_any pb ts fin s w h)
 obtain ⟨R,hR⟩:∃R,isP s ts=R:=⟨_,rfl⟩
 rw [hR] at HI ⊢
 cases R
 ·have HH:=Lib.hid h
  clear h hR
  go_enter Tryz.func64,Tryz.ntmps64
  go_wp2_with fail
  refine HI.out.mono ?_
  rintro e w' ⟨rfl,hw⟩
  subst w'
  go_wp2
  go_ret
  exact ⟨rfl,HH.out,Below.refl _ _,KeepB.refl _ _⟩
 ·obtain ⟨tv,h1,h2,h3⟩:=h
  have HP:=Lib.hid h1
  cases ts with
  |nil=>cases hR
  |cons t ts =>
   obtain ⟨b,off,cap,rfl,hc1,hc2,c0,c1,c2⟩:=h2.open
   have H2:=Lib.hid h2
   clear h2 h1 hR c0 c1 c2
   unfold maxLen at hc2
   go_enter Tryz.func64,Tryz.ntmps64
   go_wp2_with fail
   refine HI.out.mono ?_
   rintro e w' ⟨rfl,hw⟩
   subst w'
   obtain ⟨pz,p0,p1⟩:=rk2 HP.out
   have pf0:=frozen_of_row w _ 0 _ _ HP.out
   have pf1:=frozen_of_row w _ 1 _ _ HP.out
   go_wp2
   all_goals
    go_ret
    refine ⟨rfl,PAt.next HP.out H2.out h3 (by first | exact Or.inl ⟨rfl,rfl⟩ | exact Or.inr ⟨rfl,rfl,rfl⟩ | exact Or.inr ⟨by assumption,rfl,rfl⟩),(Below.refl _ _).setCell hB _,KeepB.set _ _ _ _⟩
theorem PMem.refl (B pb:Nat) (w:World):PMem B pb w w:=⟨Below.refl _ _,KeepB.refl _ _⟩
theorem PMem.trans {B pb:Nat} {a b c:World} (h:PMem B pb a b) (k:PMem B pb b c):PMem B pb a c:=⟨h.low.trans k.low,h.keep.trans k.keep⟩
theorem PMem.of_low {B pb:Nat} {w w':World} (hB:B≤w.heap.size) (h:Below w.heap.size w w'):PMem B pb w w':=⟨h.mono hB,KeepB.low h⟩
def PRes {α:Type} (B pb fin:Nat) (val:World→α→Value→Prop) (r:PR α) (w:World) (e:Ending) (w':World):Prop:=PMem B pb w w'∧match r with
 |.ok a rest=>∃v,e=.returned v∧val w' a v∧PAt B w' pb rest fin
 |.bad er off=>e=failE er off
theorem PRes.fail {α:Type} {B pb fin:Nat} {val:World→α→Value→Prop} {w w':World} (er:Int) (ts:List TokD) (h:PMem B pb w w'):PRes B pb fin val (failP fin er ts) w (failA fin er ts) w':=by
 refine ⟨h,?_⟩
 cases ts with
 |nil=>rfl
 |cons t ts=>rfl
theorem failA_end (fin:Nat) (er:Int) (ts:List TokD):∃x y,failA fin er ts=failE x y:=by
 cases ts with
 |nil=>exact ⟨6,fin,rfl⟩
 |cons t ts=>exact ⟨er,t.off,rfl⟩
def unitV:World→Unit→Value→Prop:=fun _ _ v=>v=.tuple #[]
def strV:World→ByteArray→Value→Prop:=fun _ s v=>v=.string s
def intV:World→Int→Value→Prop:=fun _ n v=>v=.int .i64 n
set_option maxHeartbeats 1000000 in
theorem want_any (B pb:Nat) (hB:B≤pb) (ts:List TokD) (fin:Nat) (s:ByteArray) (w:World) (h:PAt B w pb ts fin) :
  Calls Tryz.prog 94 #[.pointer (some ⟨pb,0,none⟩),.string s] w (PRes B pb fin unitV (wantP fin s ts) w):=by
 have HS:=Lib.hid (skip_any B pb hB ts fin s w h)
 have HF:=Lib.hid (fun W (h:PAt B W pb ts fin)=>fail_any pb ts fin 5 W h)
 unfold wantP
 obtain ⟨R,hR⟩:∃R,isP s ts=R:=⟨_,rfl⟩
 rw [hR] at HS ⊢
 clear hR h
 cases R
 ·go_enter Tryz.func94,Tryz.ntmps94
  go_wp2_with fail
  refine HS.out.mono ?_
  rintro e w2 ⟨rfl,hp,hm⟩
  have HM:=Lib.hid hm
  have HP:=Lib.hid hp
  clear hm hp
  go_wp2_with fail
  refine (HF.out _ HP.out).mono ?_
  rintro e w3 ⟨rfl,hw⟩
  subst w3
  have hpr:=PRes.fail (B:=B) (pb:=pb) (fin:=fin) (val:=unitV) (w:=w) 5 ts HM.out
  obtain ⟨x,y,hy⟩:=failA_end fin 5 ts
  rw [hy] at hpr ⊢
  exact ⟨rfl,hpr⟩
 ·go_enter Tryz.func94,Tryz.ntmps94
  go_wp2_with fail
  refine HS.out.mono ?_
  rintro e w2 ⟨rfl,hp,hm⟩
  have HM:=Lib.hid hm
  have HP:=Lib.hid hp
  clear hm hp
  go_wp2
  go_end0
  exact ⟨HM.out,_,rfl,rfl,HP.out⟩
end Go.Proofs.YtdfenhjibnfdeaaGreatDoor

namespace Go.Proofs.YtdfenhjibnfdeaaGreatDoor
open Go.RowKit Go.Shelf
def valOK (s:ByteArray):Bool:=decide (s≠emptyB∧s.size≤200)
set_option maxHeartbeats 1000000 in
theorem val_any (s:ByteArray) (w:World):Calls Tryz.prog 140 #[.string s] w fun e w'=>e=.returned (.bool (valOK s))∧Below w.heap.size w w':=by
 rcases Nat.eq_zero_or_pos s.size with h0 | h0
 ·have e1:s.toList.isEmpty=true:=by rw [str_nil h0];rfl
  have HE:=Lib.hid (show valOK s=false by
   have:s=emptyB:=ByteArray.ext (Array.eq_empty_of_size_eq_zero h0)
   rw [valOK,this];rfl)
  clear h0
  go_enter Tryz.func140,Tryz.ntmps140
  go_wp2
  go_ret
  exact ⟨ret_bool HE.out.symm,Below.refl _ _⟩
 ·have e1:s.toList.isEmpty=false:=str_not_empty h0
  have hne:s≠emptyB:=by rintro rfl;exact absurd h0 (by decide)
  by_cases h2:s.size≤200
  ·have d1:decide ((s.size:Int)≤200)=true:=by rw [decide_eq_true_eq];omega
   have HE:=Lib.hid (show valOK s=true from decide_eq_true ⟨hne,h2⟩)
   clear h0 h2 hne
   go_enter Tryz.func140,Tryz.ntmps140
   go_wp2
   go_ret
   exact ⟨ret_bool HE.out.symm,Below.refl _ _⟩
  ·have d1:decide ((s.size:Int)≤200)=false:=by rw [decide_eq_false_iff_not];omega
   have HE:=Lib.hid (show valOK s=false from decide_eq_false fun h=>h2 h.2)
   clear h0 h2 hne
   go_enter Tryz.func140,Tryz.ntmps140
   go_wp2
   go_ret
   exact ⟨ret_bool HE.out.symm,Below.refl _ _⟩
set_option maxRecDepth 100000 in
set_option maxHeartbeats 2000000 in
theorem nextN_any (B pb:Nat) (hB:B≤pb) (ts:List TokD) (fin:Nat) (kind:Int) (w:World) (hBw:B≤w.heap.size) (h:PAt B w pb ts fin) :
  Calls Tryz.prog 123 #[.pointer (some ⟨pb,0,none⟩),.int .i64 kind,.func (.func 36) #[] #[]] w (PRes B pb fin strV (nextP fin kind nameB ts) w):=by
 have HH:=Lib.hid h
 obtain ⟨tv,h1,h2,h3⟩:=h
 have HP:=Lib.hid h1
 have HF:=Lib.hid (fun er W (h:PAt B W pb ts fin)=>fail_any pb ts fin er W h)
 cases ts with
 |nil =>
  obtain ⟨a,cap,rfl,-⟩:=h2
  go_enter Tryz.func123,Tryz.ntmps123
  obtain ⟨pz,p0,p1⟩:=rk2 HP.out
  go_wp2_with fail
  refine (HF.out _ _ HH.out).mono ?_
  rintro e w3 ⟨rfl,hw⟩
  subst w3
  exact ⟨rfl,PMem.refl _ _ _,rfl⟩
 |cons t ts =>
  obtain ⟨b,off,cap,rfl,hc1,hc2,c0,c1,c2⟩:=h2.open
  have H2:=Lib.hid h2
  have hz:=(h3.2.1 t (List.mem_cons_self ..)).1
  have CK:=Lib.hid (fun W=>name_any t.text (by omega) W)
  have dl:((ts.length:Int)+1==0)=false:=by rw [beq_eq_false_iff_ne];omega
  clear h1 h2
  unfold maxLen at hc2
  have HE:=Lib.hid (show nextP fin kind nameB (t :: ts)=if t.kind=kind then (if nameB t.text then .ok t.text ts else .bad 10 t.off) else .bad 5 t.off from rfl)
  rw [HE.out]
  by_cases hk:t.kind=kind
  ·have x1:(t.kind != kind)=false:=by rw [hk];simp
   have x2:(t.kind==kind)=true:=by rw [hk];simp
   rw [if_pos hk]
   clear hk HE
   cases hv:nameB t.text
   ·rw [hv] at CK
    rw [if_neg (by decide)]
    clear hv
    go_enter Tryz.func123,Tryz.ntmps123
    obtain ⟨pz,p0,p1⟩:=rk2 HP.out
    go_wp2_with fail
    refine (CK.out _).mono ?_
    rintro e w2 ⟨rfl,hb2⟩
    have HM:=Lib.hid (PMem.of_low (pb:=pb) hBw hb2)
    have HH2:=Lib.hid (HH.out.low hb2)
    go_wp2_with fail
    refine (HF.out _ _ HH2.out).mono ?_
    rintro e w3 ⟨rfl,hw⟩
    subst w3
    exact ⟨rfl,HM.out,rfl⟩
   ·rw [hv] at CK
    rw [if_pos rfl]
    clear hv
    go_enter Tryz.func123,Tryz.ntmps123
    obtain ⟨pz,p0,p1⟩:=rk2 HP.out
    go_wp2_with fail
    refine (CK.out _).mono ?_
    rintro e w2 ⟨rfl,hb2⟩
    have HM:=Lib.hid (PMem.of_low (pb:=pb) hBw hb2)
    have HP2:=Lib.hid (row_later hb2 HP.out)
    have H22:=Lib.hid (H2.out.later hb2)
    clear hb2
    clear p0 p1 pz
    obtain ⟨pz,p0,p1⟩:=rk2 HP2.out
    have pf0:=frozen_of_row w2 _ 0 _ _ HP2.out
    have pf1:=frozen_of_row w2 _ 1 _ _ HP2.out
    go_wp2
    all_goals
     go_ret
     exact ⟨HM.out.trans ⟨(Below.refl _ _).setCell hB _,KeepB.set _ _ _ _⟩,_,rfl,rfl,PAt.next HP2.out H22.out h3 (by first | exact Or.inl ⟨rfl,rfl⟩ | exact Or.inr ⟨rfl,rfl,rfl⟩ | exact Or.inr ⟨by assumption,rfl,rfl⟩)⟩
  ·have x1:(t.kind != kind)=true:=by rw [bne_iff_ne];exact hk
   have x2:(t.kind==kind)=false:=by rw [beq_eq_false_iff_ne];exact hk
   rw [if_neg hk]
   clear hk HE
   go_enter Tryz.func123,Tryz.ntmps123
   obtain ⟨pz,p0,p1⟩:=rk2 HP.out
   go_wp2_with fail
   refine (HF.out _ _ HH.out).mono ?_
   rintro e w3 ⟨rfl,hw⟩
   subst w3
   exact ⟨rfl,PMem.refl _ _ _,rfl⟩
set_option maxRecDepth 100000 in
set_option maxHeartbeats 2000000 in
theorem nextV_any (B pb:Nat) (hB:B≤pb) (ts:List TokD) (fin:Nat) (kind:Int) (w:World) (hBw:B≤w.heap.size) (h:PAt B w pb ts fin) :
  Calls Tryz.prog 123 #[.pointer (some ⟨pb,0,none⟩),.int .i64 kind,.func (.func 140) #[] #[]] w (PRes B pb fin strV (nextP fin kind valOK ts) w):=by
 have HH:=Lib.hid h
 obtain ⟨tv,h1,h2,h3⟩:=h
 have HP:=Lib.hid h1
 have HF:=Lib.hid (fun er W (h:PAt B W pb ts fin)=>fail_any pb ts fin er W h)
 cases ts with
 |nil =>
  obtain ⟨a,cap,rfl,-⟩:=h2
  go_enter Tryz.func123,Tryz.ntmps123
  obtain ⟨pz,p0,p1⟩:=rk2 HP.out
  go_wp2_with fail
  refine (HF.out _ _ HH.out).mono ?_
  rintro e w3 ⟨rfl,hw⟩
  subst w3
  exact ⟨rfl,PMem.refl _ _ _,rfl⟩
 |cons t ts =>
  obtain ⟨b,off,cap,rfl,hc1,hc2,c0,c1,c2⟩:=h2.open
  have H2:=Lib.hid h2
  have hz:=(h3.2.1 t (List.mem_cons_self ..)).1
  have CK:=Lib.hid (fun W=>val_any t.text W)
  have dl:((ts.length:Int)+1==0)=false:=by rw [beq_eq_false_iff_ne];omega
  clear h1 h2
  unfold maxLen at hc2
  have HE:=Lib.hid (show nextP fin kind valOK (t :: ts)=if t.kind=kind then (if valOK t.text then .ok t.text ts else .bad 10 t.off) else .bad 5 t.off from rfl)
  rw [HE.out]
  by_cases hk:t.kind=kind
  ·have x1:(t.kind != kind)=false:=by rw [hk];simp
   have x2:(t.kind==kind)=true:=by rw [hk];simp
   rw [if_pos hk]
   clear hk HE
   cases hv:valOK t.text
   ·rw [hv] at CK
    rw [if_neg (by decide)]
    clear hv
    go_enter Tryz.func123,Tryz.ntmps123
    obtain ⟨pz,p0,p1⟩:=rk2 HP.out
    go_wp2_with fail
    refine (CK.out _).mono ?_
    rintro e w2 ⟨rfl,hb2⟩
    have HM:=Lib.hid (PMem.of_low (pb:=pb) hBw hb2)
    have HH2:=Lib.hid (HH.out.low hb2)
    go_wp2_with fail
    refine (HF.out _ _ HH2.out).mono ?_
    rintro e w3 ⟨rfl,hw⟩
    subst w3
    exact ⟨rfl,HM.out,rfl⟩
   ·rw [hv] at CK
    rw [if_pos rfl]
    clear hv
    go_enter Tryz.func123,Tryz.ntmps123
    obtain ⟨pz,p0,p1⟩:=rk2 HP.out
    go_wp2_with fail
    refine (CK.out _).mono ?_
    rintro e w2 ⟨rfl,hb2⟩
    have HM:=Lib.hid (PMem.of_low (pb:=pb) hBw hb2)
    have HP2:=Lib.hid (row_later hb2 HP.out)
    have H22:=Lib.hid (H2.out.later hb2)
    clear hb2
    clear p0 p1 pz
    obtain ⟨pz,p0,p1⟩:=rk2 HP2.out
    have pf0:=frozen_of_row w2 _ 0 _ _ HP2.out
    have pf1:=frozen_of_row w2 _ 1 _ _ HP2.out
    go_wp2
    all_goals
     go_ret
     exact ⟨HM.out.trans ⟨(Below.refl _ _).setCell hB _,KeepB.set _ _ _ _⟩,_,rfl,rfl,PAt.next HP2.out H22.out h3 (by first | exact Or.inl ⟨rfl,rfl⟩ | exact Or.inr ⟨rfl,rfl,rfl⟩ | exact Or.inr ⟨by assumption,rfl,rfl⟩)⟩
  ·have x1:(t.kind != kind)=true:=by rw [bne_iff_ne];exact hk
   have x2:(t.kind==kind)=false:=by rw [beq_eq_false_iff_ne];exact hk
   rw [if_neg hk]
   clear hk HE
   go_enter Tryz.func123,Tryz.ntmps123
   obtain ⟨pz,p0,p1⟩:=rk2 HP.out
   go_wp2_with fail
   refine (HF.out _ _ HH.out).mono ?_
   rintro e w3 ⟨rfl,hw⟩
   subst w3
   exact ⟨rfl,PMem.refl _ _ _,rfl⟩
theorem pname_any (B pb:Nat) (hB:B≤pb) (ts:List TokD) (fin:Nat) (w:World) (hBw:B≤w.heap.size) (h:PAt B w pb ts fin) :
  Calls Tryz.prog 92 #[.pointer (some ⟨pb,0,none⟩)] w (PRes B pb fin strV (nameP fin ts) w):=by
 have HN:=Lib.hid (nextN_any B pb hB ts fin 1 w hBw h)
 clear h
 rw [nameP]
 cases hr:nextP fin 1 nameB ts with
 |ok s r =>
  rw [hr] at HN
  clear hr
  go_enter Tryz.func92,Tryz.ntmps92
  go_wp2_with fail
  refine HN.out.mono ?_
  rintro e w2 ⟨hm,v,rfl,rfl,hp⟩
  have HM:=Lib.hid hm
  have HP:=Lib.hid hp
  clear hm hp
  go_wp2
  go_ret
  exact ⟨HM.out,_,rfl,rfl,HP.out⟩
 |bad er off =>
  rw [hr] at HN
  clear hr
  go_enter Tryz.func92,Tryz.ntmps92
  go_wp2_with fail
  refine HN.out.mono ?_
  rintro e w2 ⟨hm,rfl⟩
  exact ⟨rfl,hm,rfl⟩
def inB (lo hi v:Int):Bool:=decide (lo≤v∧v≤hi)
set_option maxHeartbeats 1000000 in
theorem chkI_any (s:ByteArray) (v lo hi:Int) (nb lb hb:Nat) (old:Int) (w:World) (hz:s.size≤18) (hv:Lib.atoi s.data.toList=some v) (hn:w.heap[nb]?=some (.cells #[.int .i64 old] 3 (0,0)))
  (hl:w.heap[lb]?=some (.cells #[.int .i64 lo] 3 (0,0))) (hh:w.heap[hb]?=some (.cells #[.int .i64 hi] 3 (0,0))) (n1:lb≠nb) (n2:hb≠nb) :
  Calls Tryz.prog 124 #[.string s,.pointer (some ⟨nb,0,none⟩),.pointer (some ⟨lb,0,none⟩),.pointer (some ⟨hb,0,none⟩)] w fun e w'=>e=.returned (.bool (inB lo hi v))∧∃w2,Below w.heap.size w w2∧w'=w2.setCell ⟨nb,0,none⟩ (.int .i64 v):=by
 have HA:=Lib.hid (Tryz.strconv_Atoi s v hz hv w)
 have HN:=Lib.hid hn
 have HL:=Lib.hid hl
 have HH:=Lib.hid hh
 have m1:¬nb=lb:=fun e=>n1 e.symm
 have m2:¬nb=hb:=fun e=>n2 e.symm
 clear hn hl hh hz hv
 by_cases h1:lo≤v
 ·have d1:decide (lo≤v)=true:=decide_eq_true h1
  by_cases h2:v≤hi
  all_goals
   first
   |have d2:decide (v≤hi)=true:=decide_eq_true h2
    have HE:=Lib.hid (show inB lo hi v=true from decide_eq_true ⟨h1,h2⟩)
   |have d2:decide (v≤hi)=false:=decide_eq_false h2
    have HE:=Lib.hid (show inB lo hi v=false from decide_eq_false fun h=>h2 h.2)
   clear h1 h2
   go_enter Tryz.func124,Tryz.ntmps124
   go_wp2_with fail
   refine HA.out.mono ?_
   rintro e w2 ⟨rfl,t,hw⟩
   have hb2:Below w.heap.size w w2:=by rw [hw];exact below_bytes
   clear hw
   have HN2:=Lib.hid (row_later hb2 HN.out)
   have HL2:=Lib.hid (row_later hb2 HL.out)
   have HH2:=Lib.hid (row_later hb2 HH.out)
   obtain ⟨nz,n0⟩:=rk1 HN2.out
   have nf0:=frozen_of_row w2 _ 0 _ _ HN2.out
   obtain ⟨lz,l0⟩:=rk1 HL2.out
   obtain ⟨hz,h0⟩:=rk1 HH2.out
   go_wp2
   go_ret
   exact ⟨ret_bool HE.out.symm,w2,hb2,rfl⟩
 ·have d1:decide (lo≤v)=false:=decide_eq_false h1
  have HE:=Lib.hid (show inB lo hi v=false from decide_eq_false fun h=>h1 h.1)
  clear h1
  go_enter Tryz.func124,Tryz.ntmps124
  go_wp2_with fail
  refine HA.out.mono ?_
  rintro e w2 ⟨rfl,t,hw⟩
  have hb2:Below w.heap.size w w2:=by rw [hw];exact below_bytes
  clear hw
  have HN2:=Lib.hid (row_later hb2 HN.out)
  have HL2:=Lib.hid (row_later hb2 HL.out)
  obtain ⟨nz,n0⟩:=rk1 HN2.out
  have nf0:=frozen_of_row w2 _ 0 _ _ HN2.out
  obtain ⟨lz,l0⟩:=rk1 HL2.out
  go_wp2
  go_ret
  exact ⟨ret_bool HE.out.symm,w2,hb2,rfl⟩
theorem KeepB.over {bx nb i:Nat} {w0 W:World} (h:KeepB bx w0 W) (hn:w0.heap.size≤nb) (v:Value):KeepB bx w0 (W.setCell ⟨nb,i,none⟩ v) :=
 ⟨by simpa using h.1,fun j hj hne=>by rw [Below.heap_setCell _ _ _ _ (by simp only;omega)];exact h.2 j hj hne⟩
theorem TkR.overI {w:World} {nb:Nat} {old:Int} {T:TypeId} {v:Value} {ts:List TokD} (h:TkR w v ts) (hp:w.heap[nb]?=some (.cells #[.int .i64 old] T (0,0))) (u:Value):TkR (w.setCell ⟨nb,0,none⟩ u) v ts:=by
 obtain ⟨a,cap,h1,h2,h3,h4⟩:=h
 refine ⟨a,cap,h1,h2,h3,fun h0=>?_⟩
 obtain ⟨b,off,ha,hc⟩:=h4 h0
 refine ⟨b,off,ha,fun i t hi=>?_⟩
 obtain ⟨c0,c1,c2⟩:=hc i t hi
 have hn:b≠nb:=by
  rintro rfl
  have:=cell_of_row w b (off+i * 3+1) _ _ _ hp
  rw [c1] at this
  simp at this
 have hk:=KeepB.set nb 0 w u
 exact ⟨hk.cell hn c0,hk.cell hn c1,hk.cell hn c2⟩
def NumR (B pb fin nb:Nat) (r:PR Int) (w0:World) (e:Ending) (w':World):Prop:=PMem B pb w0 w'∧match r with
 |.ok v rest=>∃s,e=.returned (.string s)∧w'.heap[nb]?=some (.cells #[.int .i64 v] 3 (0,0))∧PAt B w' pb rest fin
 |.bad er off=>e=failE er off
theorem numP_cons (fin:Nat) (lo hi v:Int) (t:TokD) (ts:List TokD) (hk:t.kind=2) (hv:numS t.text=some v):numP fin lo hi (t :: ts)=if inB lo hi v then .ok v ts else .bad 10 t.off:=by
 have e:atoiN t.text=v:=by rw [atoiN,hv];rfl
 show (nextP fin 2 (fun s=>decide (lo≤atoiN s∧atoiN s≤hi)) (t :: ts)).bind _=_
 rw [nextP,if_pos hk,e]
 show (if inB lo hi v=true then PR.ok t.text ts else PR.bad 10 t.off).bind _=_
 split
 ·show PR.ok (atoiN t.text) ts=_
  rw [e]
 ·rfl
set_option maxRecDepth 100000 in
set_option maxHeartbeats 2000000 in
theorem nextI_any (B pb:Nat) (hB:B≤pb) (ts:List TokD) (fin:Nat) (lo hi old:Int) (nb lb hb:Nat) (w0 w:World) (hB0:B≤w0.heap.size) (hb0:Below w0.heap.size w0 w) (hp0:pb<w0.heap.size) (hn0:w0.heap.size≤nb)
  (hn:w.heap[nb]?=some (.cells #[.int .i64 old] 3 (0,0))) (hl:w.heap[lb]?=some (.cells #[.int .i64 lo] 3 (0,0))) (hh:w.heap[hb]?=some (.cells #[.int .i64 hi] 3 (0,0))) (n1:lb≠nb) (n2:hb≠nb) (h:PAt B w pb ts fin) :
  Calls Tryz.prog 123 #[.pointer (some ⟨pb,0,none⟩),.int .i64 2,.func (.func 124) #[] #[.pointer (some ⟨nb,0,none⟩),.pointer (some ⟨lb,0,none⟩),.pointer (some ⟨hb,0,none⟩)]] w (NumR B pb fin nb (numP fin lo hi ts) w0):=by
 have HH:=Lib.hid h
 have M0:=Lib.hid (PMem.of_low (pb:=pb) hB0 hb0)
 obtain ⟨tv,h1,h2,h3⟩:=h
 have HP:=Lib.hid h1
 have HF:=Lib.hid (fun er W (h:PAt B W pb ts fin)=>fail_any pb ts fin er W h)
 cases ts with
 |nil =>
  obtain ⟨a,cap,rfl,-⟩:=h2
  clear hn hl hh
  go_enter Tryz.func123,Tryz.ntmps123
  obtain ⟨pz,p0,p1⟩:=rk2 HP.out
  go_wp2_with fail
  refine (HF.out _ _ HH.out).mono ?_
  rintro e w3 ⟨rfl,hw⟩
  subst w3
  exact ⟨rfl,M0.out,rfl⟩
 |cons t ts =>
  obtain ⟨b,off,cap,rfl,hc1,hc2,c0,c1,c2⟩:=h2.open
  have H2:=Lib.hid h2
  have hT:=(h3.2.1 t (List.mem_cons_self ..)).2
  have dl:((ts.length:Int)+1==0)=false:=by rw [beq_eq_false_iff_ne];omega
  clear h1 h2
  unfold maxLen at hc2
  by_cases hk:t.kind=2
  ·obtain ⟨hz,v,hv,hvs⟩:=hT hk
   have HE:=Lib.hid (numP_cons fin lo hi v t ts hk hvs)
   rw [HE.out]
   have CK:=Lib.hid (chkI_any t.text v lo hi nb lb hb old w hz hv hn hl hh n1 n2)
   have HN:=Lib.hid hn
   have x1:(t.kind != 2)=false:=by rw [hk];rfl
   have x2:(t.kind==2)=true:=by rw [hk];rfl
   clear hk HE hT hn hl hh hz hv hvs
   cases hi':inB lo hi v
   ·rw [hi'] at CK
    rw [if_neg (by decide)]
    clear hi'
    go_enter Tryz.func123,Tryz.ntmps123
    obtain ⟨pz,p0,p1⟩:=rk2 HP.out
    go_wp2_with fail
    refine CK.out.mono ?_
    rintro e w3 ⟨rfl,w2,hb2,hw3⟩
    have R3:w3.heap[pb]?=some (.cells #[.slice (some ⟨b,off,none⟩) (ts.length+1) cap,.int .i64 fin] 80 (0,0)):=by rw [hw3];exact row_set_other (row_later hb2 HP.out) (by simp only;omega)
    have T3:TkR w3 (.slice (some ⟨b,off,none⟩) (ts.length+1) cap) (t :: ts):=by rw [hw3];exact (H2.out.later hb2).overI (row_later hb2 HN.out) _
    have M3:PMem B pb w0 w3:=by
     have m2:=M0.out.trans (PMem.of_low (pb:=pb) (by have:=hb0.size;omega) hb2)
     rw [hw3];exact ⟨m2.low.setCell (by simp only;omega) _,m2.keep.over hn0 _⟩
    have HH3:=Lib.hid (show PAt B w3 pb (t :: ts) fin from ⟨_,R3,T3,h3⟩)
    have HM:=Lib.hid M3
    clear hw3 R3 T3 M3 hb2
    go_wp2_with fail
    refine (HF.out _ _ HH3.out).mono ?_
    rintro e w4 ⟨rfl,hw⟩
    subst w4
    exact ⟨rfl,HM.out,rfl⟩
   ·rw [hi'] at CK
    rw [if_pos rfl]
    clear hi'
    go_enter Tryz.func123,Tryz.ntmps123
    obtain ⟨pz,p0,p1⟩:=rk2 HP.out
    go_wp2_with fail
    refine CK.out.mono ?_
    rintro e w3 ⟨rfl,w2,hb2,hw3⟩
    have R3:w3.heap[pb]?=some (.cells #[.slice (some ⟨b,off,none⟩) (ts.length+1) cap,.int .i64 fin] 80 (0,0)):=by rw [hw3];exact row_set_other (row_later hb2 HP.out) (by simp only;omega)
    have T3:TkR w3 (.slice (some ⟨b,off,none⟩) (ts.length+1) cap) (t :: ts):=by rw [hw3];exact (H2.out.later hb2).overI (row_later hb2 HN.out) _
    have M3:PMem B pb w0 w3:=by
     have m2:=M0.out.trans (PMem.of_low (pb:=pb) (by have:=hb0.size;omega) hb2)
     rw [hw3];exact ⟨m2.low.setCell (by simp only;omega) _,m2.keep.over hn0 _⟩
    have N3:w3.heap[nb]?=some (.cells #[.int .i64 v] 3 (0,0)):=by rw [hw3];exact row_set (i:=0) (row_later hb2 HN.out)
    have HP3:=Lib.hid R3
    have HT3:=Lib.hid T3
    have HM:=Lib.hid M3
    have HN3:=Lib.hid N3
    clear hw3 R3 T3 M3 N3 hb2
    clear p0 p1 pz
    obtain ⟨pz,p0,p1⟩:=rk2 HP3.out
    have pf0:=frozen_of_row w3 _ 0 _ _ HP3.out
    have pf1:=frozen_of_row w3 _ 1 _ _ HP3.out
    go_wp2
    all_goals
     go_ret
     exact ⟨HM.out.trans ⟨(Below.refl _ _).setCell hB _,KeepB.set _ _ _ _⟩,_,rfl,row_set_other HN3.out (by simp only;omega),PAt.next HP3.out HT3.out h3 (by first | exact Or.inl ⟨rfl,rfl⟩ | exact Or.inr ⟨rfl,rfl,rfl⟩ | exact Or.inr ⟨by assumption,rfl,rfl⟩)⟩
  ·have x1:(t.kind != 2)=true:=by rw [bne_iff_ne];exact hk
   have x2:(t.kind==2)=false:=by rw [beq_eq_false_iff_ne];exact hk
   have HE:=Lib.hid (show numP fin lo hi (t :: ts)=.bad 5 t.off by
    show (nextP fin 2 _ (t :: ts)).bind _=_
    rw [nextP,if_neg hk];rfl)
   rw [HE.out]
   clear hk HE hT hn hl hh
   go_enter Tryz.func123,Tryz.ntmps123
   obtain ⟨pz,p0,p1⟩:=rk2 HP.out
   go_wp2_with fail
   refine (HF.out _ _ HH.out).mono ?_
   rintro e w3 ⟨rfl,hw⟩
   subst w3
   exact ⟨rfl,M0.out,rfl⟩
end Go.Proofs.YtdfenhjibnfdeaaGreatDoor

namespace Go.Proofs.YtdfenhjibnfdeaaGreatDoor
open Go.RowKit Go.Shelf
set_option maxHeartbeats 2000000 in
theorem number_any (B pb:Nat) (hB:B≤pb) (ts:List TokD) (fin:Nat) (lo hi:Int) (w:World) (hBw:B≤w.heap.size) (h:PAt B w pb ts fin) :
  Calls Tryz.prog 95 #[.pointer (some ⟨pb,0,none⟩),.int .i64 lo,.int .i64 hi] w (PRes B pb fin intV (numP fin lo hi ts) w):=by
 have hpb:pb<w.heap.size:=by obtain ⟨_,h1,_⟩:=h;exact lt_of_block h1
 have B1:=(((Below.refl w.heap.size w).alloc (Nat.le_refl _) (.cells #[.int .i64 lo] 3)).alloc (by simp) (.cells #[.int .i64 hi] 3)).alloc (by simp;omega) (.cells #[.int .i64 0] 3)
 have r0:=row_past (o':=.cells #[.int .i64 0] 3) (row_past (o':=.cells #[.int .i64 hi] 3) (row_new w (.cells #[.int .i64 lo] 3)))
 have r1:=row_past (o':=.cells #[.int .i64 0] 3) (row_new (w.alloc (.cells #[.int .i64 lo] 3)) (.cells #[.int .i64 hi] 3))
 have r2:=row_new ((w.alloc (.cells #[.int .i64 lo] 3)).alloc (.cells #[.int .i64 hi] 3)) (.cells #[.int .i64 0] 3)
 simp only [World.size_alloc] at r1 r2
 have HN:=Lib.hid (nextI_any B pb hB ts fin lo hi 0 _ _ _ w _ hBw B1 hpb (by omega) r2 r0 r1 (by omega) (by omega) (h.low B1))
 clear r0 r1 r2 h B1
 cases hr:numP fin lo hi ts with
 |ok v r =>
  rw [hr] at HN
  clear hr
  go_enter Tryz.func95,Tryz.ntmps95
  go_wp2_with fail
  refine HN.out.mono ?_
  rintro e w2 ⟨hm,s,rfl,hn,hp⟩
  have HM:=Lib.hid hm
  have HP:=Lib.hid hp
  have HX:=Lib.hid hn
  clear hm hp hn
  obtain ⟨nz,n0⟩:=rk1 HX.out
  go_wp2
  go_ret
  exact ⟨HM.out,_,rfl,rfl,HP.out⟩
 |bad er off =>
  rw [hr] at HN
  clear hr
  go_enter Tryz.func95,Tryz.ntmps95
  go_wp2_with fail
  refine HN.out.mono ?_
  rintro e w2 ⟨hm,rfl⟩
  exact ⟨rfl,hm,rfl⟩
mutual
def CondP (P:Nat→Prop) (w:World):CondD→Option Addr→Prop
 |.mk _ k s _ ks,a=>k.size≤140737488355328∧s.size≤140737488355328∧ks.length≤140737488355328∧(0<ks.length→∃b off,a=some ⟨b,off,none⟩∧P b∧KidsP P w b ks off)
def KidsP (P:Nat→Prop) (w:World) (b:Nat):List CondD→Nat→Prop
 |[],_=>True
 |c :: r,off=>(∃a cap,Cells5 w b off c a cap∧CondP P w c a)∧KidsP P w b r (off+5)
end
theorem Cells5.move {w w':World} {b off:Nat} {c:CondD} {a:Option Addr} {cap:Nat} (h:Cells5 w b off c a cap) (hb:w'.heap[b]?=w.heap[b]?):Cells5 w' b off c a cap:=by
 have e:∀o,w'.cell? ⟨b,o,none⟩=w.cell? ⟨b,o,none⟩:=fun o=>World.cell?_of_block (w:=w) (a:=⟨b,o,none⟩) hb
 exact ⟨(e _).trans h.1,(e _).trans h.2.1,(e _).trans h.2.2.1,(e _).trans h.2.2.2.1,(e _).trans h.2.2.2.2⟩
mutual
theorem CondP.move {P Q:Nat→Prop} {w w':World} (hq:∀b,P b→Q b) (hb:∀b,P b→w'.heap[b]?=w.heap[b]?):∀(c:CondD) (a:Option Addr),CondP P w c a→CondP Q w' c a
 |.mk o k s n ks,a,h=>by
  rw [CondP] at h ⊢
  refine ⟨h.1,h.2.1,h.2.2.1,fun h0=>?_⟩
  obtain ⟨b,off,ha,hp,hk⟩:=h.2.2.2 h0
  exact ⟨b,off,ha,hq b hp,KidsP.move hq hb b hp ks off hk⟩
theorem KidsP.move {P Q:Nat→Prop} {w w':World} (hq:∀b,P b→Q b) (hb:∀b,P b→w'.heap[b]?=w.heap[b]?) (b:Nat) (hp:P b):∀(ks:List CondD) (off:Nat),KidsP P w b ks off→KidsP Q w' b ks off
 |[],_,_=>by rw [KidsP];trivial
 |c :: r,off,h=>by
  rw [KidsP] at h ⊢
  obtain ⟨⟨a,cap,h1,h2⟩,h3⟩:=h
  exact ⟨⟨a,cap,h1.move (hb b hp),CondP.move hq hb c a h2⟩,KidsP.move hq hb b hp r (off+5) h3⟩
end
mutual
theorem CondP.is {P:Nat→Prop} {w:World}:∀(c:CondD) (a:Option Addr),CondP P w c a→CondIs w c a
 |.mk o k s n ks,a,h=>by
  rw [CondP] at h
  rw [CondIs]
  refine ⟨h.1,h.2.1,h.2.2.1,fun h0=>?_⟩
  obtain ⟨b,off,ha,hp,hk⟩:=h.2.2.2 h0
  exact ⟨b,off,ha,KidsP.is b ks off hk⟩
theorem KidsP.is {P:Nat→Prop} {w:World} (b:Nat):∀(ks:List CondD) (off:Nat),KidsP P w b ks off→KidsIs w b ks off
 |[],_,_=>by rw [KidsIs];trivial
 |c :: r,off,h=>by
  rw [KidsP] at h
  rw [KidsIs]
  obtain ⟨⟨a,cap,h1,h2⟩,h3⟩:=h
  exact ⟨⟨a,cap,h1,CondP.is c a h2⟩,KidsP.is b r (off+5) h3⟩
end
theorem KidsP.of {P:Nat→Prop} {w:World} {b:Nat}:∀(ks:List CondD) (off:Nat),(∀i c,ks[i]?=some c→∃a cap,Cells5 w b (off+i * 5) c a cap∧CondP P w c a)→KidsP P w b ks off
 |[],_,_=>by rw [KidsP];trivial
 |x :: r,off,h=>by
  rw [KidsP]
  refine ⟨by simpa using h 0 x rfl,KidsP.of r (off+5) fun i c hi=>?_⟩
  have:=h (i+1) c hi
  rwa [show off+(i+1) * 5=off+5+i * 5 by omega] at this
def condR (n0:Nat) (w:World) (c:CondD) (v:Value):Prop:=∃a cap,v=condV c a cap∧CondP (fun b=>n0≤b) w c a
abbrev CE:=CondD × Option Addr × Nat
def encC (x:CE):List Value:=condL x.1 x.2.1 x.2.2
theorem encC_len (x:CE):(encC x).length=5:=rfl
theorem encC_one (x:CE):∀v∈encC x,v.oneCell'=true:=by
 intro v hv
 simp only [encC,condL,List.mem_cons,List.not_mem_nil,or_false] at hv
 rcases hv with rfl | rfl | rfl | rfl | rfl<;>rfl
theorem flat5:∀(L:List CE) (i j:Nat) (x:CE),L[i]?=some x→j<5→(L.flatMap encC)[i * 5+j]?=(encC x)[j]?
 |[],_,_,_,h,_=>by cases h
 |y :: L,i,j,x,h,hj=>by
  rw [List.flatMap_cons]
  cases i with
  |zero =>
   injection h with h;subst h
   rw [Nat.zero_mul,Nat.zero_add,List.getElem?_append_left (by rw [encC_len];exact hj)]
  |succ i =>
   rw [List.getElem?_append_right (by rw [encC_len];omega),encC_len,show (i+1) * 5+j - 5=i * 5+j by omega]
   exact flat5 L i j x h hj
theorem row_kids {P:Nat→Prop} {w:World} {n0 g cap:Nat} {L:List CE} (h:w.ownsRow n0 24 5 (.slice (some ⟨g,0,none⟩) L.length cap) L.length (L.flatMap encC)) (hL:∀x∈L,CondP P w x.1 x.2.1):KidsP P w g (L.map (·.1)) 0:=by
 refine KidsP.of _ _ fun i c hi=>?_
 rw [List.getElem?_map] at hi
 obtain ⟨x,hx,rfl⟩:=Option.map_eq_some_iff.1 hi
 refine ⟨x.2.1,x.2.2,?_,hL x (List.mem_of_getElem? hx)⟩
 have hc:=fun j (hj:j<5)=>World.ownsRow.cells h (g:=g) rfl (i * 5+j)
 have e:∀j,(⟨g,0,none⟩:Addr).add j=⟨g,0+j,none⟩:=fun j=>Addr.add_lit ..
 have f:∀j u,j<5→(encC x)[j]?=some u→w.cell? ⟨g,0+i * 5+j,none⟩=some u:=fun j u hj hu=>by
  have:=hc j hj u (by rw [flat5 L i j x hx hj];exact hu)
  rw [e] at this
  rwa [show 0+i * 5+j=0+(i * 5+j) by omega]
 exact ⟨by have:=f 0 _ (by omega) rfl;rwa [Nat.add_zero] at this,f 1 _ (by omega) rfl,f 2 _ (by omega) rfl,f 3 _ (by omega) rfl,f 4 _ (by omega) rfl⟩
theorem infoCond:(Tryz.prog.info? 24).map (fun i=>(i.zero,i.size,i.bytes))=some (some (.agg #[.int .i64 0,.string ⟨#[]⟩,.string ⟨#[]⟩,.int .i64 0,.slice none 0 0]),5,72):=by kernel_rfl
end Go.Proofs.YtdfenhjibnfdeaaGreatDoor
