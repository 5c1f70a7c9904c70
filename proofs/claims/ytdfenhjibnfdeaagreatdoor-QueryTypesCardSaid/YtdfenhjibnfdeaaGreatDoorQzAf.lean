/-    -/
import Derived.Test.YtdfenhjibnfdeaaGreatDoorQzAe
import Derived.Test.YtdfenhjibnfdeaaGreatDoorQzAc
import Derived.OwnWalk
import Derived.Below
namespace Go.Proofs.YtdfenhjibnfdeaaGreatDoor
open Go.RowKit
def condL (c:CondD) (a:Option Addr) (cap:Nat):List Value:=[.int .i64 c.op,.string c.key,.string c.val,.int .i64 c.n,.slice a c.kids.length cap]
def condV (c:CondD) (a:Option Addr) (cap:Nat):Value:=.agg (condL c a cap).toArray
def Cells5 (w:World) (b off:Nat) (c:CondD) (a:Option Addr) (cap:Nat):Prop :=
 w.cell? ⟨b,off,none⟩=some (.int .i64 c.op)∧w.cell? ⟨b,off+1,none⟩=some (.string c.key)∧w.cell? ⟨b,off+2,none⟩=some (.string c.val) ∧
  w.cell? ⟨b,off+3,none⟩=some (.int .i64 c.n)∧w.cell? ⟨b,off+4,none⟩=some (.slice a c.kids.length cap)
mutual
def CondIs (w:World):CondD→Option Addr→Prop
 |.mk _ k s _ ks,a=>k.size≤140737488355328∧s.size≤140737488355328∧ks.length≤140737488355328∧(0<ks.length→∃b off,a=some ⟨b,off,none⟩∧KidsIs w b ks off)
def KidsIs (w:World) (b:Nat):List CondD→Nat→Prop
 |[],_=>True
 |c :: r,off=>(∃a cap,Cells5 w b off c a cap∧CondIs w c a)∧KidsIs w b r (off+5)
end
theorem CondIs.open {w:World} {c:CondD} {a:Option Addr} (h:CondIs w c a) :
  c.key.size≤140737488355328∧c.val.size≤140737488355328∧c.kids.length≤140737488355328∧(0<c.kids.length→∃b off,a=some ⟨b,off,none⟩∧KidsIs w b c.kids off):=by
 cases c;exact h
theorem CondIs.mk {w:World} {c:CondD} {a:Option Addr} (h:c.key.size≤140737488355328∧c.val.size≤140737488355328∧c.kids.length≤140737488355328∧(0<c.kids.length→∃b off,a=some ⟨b,off,none⟩∧KidsIs w b c.kids off)):CondIs w c a:=by
 cases c;exact h
theorem KidsIs.at {w:World} {b:Nat}:∀(ks:List CondD) (off i:Nat) (c:CondD),KidsIs w b ks off→ks[i]?=some c→∃a cap,Cells5 w b (off+i * 5) c a cap∧CondIs w c a
 |[],_,_,_,_,hi=>by cases hi
 |x :: r,off,i,c,h,hi=>by
  rw [KidsIs] at h
  cases i with
  |zero=>injection hi with hi;subst hi;simpa using h.1
  |succ i =>
   have:=KidsIs.at r (off+5) i c h.2 hi
   rwa [show off+5+i * 5=off+(i+1) * 5 by omega] at this
theorem KidsIs.of {w:World} {b:Nat}:∀(ks:List CondD) (off:Nat),(∀i c,ks[i]?=some c→∃a cap,Cells5 w b (off+i * 5) c a cap∧CondIs w c a)→KidsIs w b ks off
 |[],_,_=>by rw [KidsIs];trivial
 |x :: r,off,h=>by
  rw [KidsIs]
  refine ⟨by simpa using h 0 x rfl,KidsIs.of r (off+5) fun i c hi=>?_⟩
  have:=h (i+1) c hi
  rwa [show off+(i+1) * 5=off+5+i * 5 by omega] at this
theorem Cells5.later {w w':World} {b off:Nat} {c:CondD} {a:Option Addr} {cap:Nat} (h:Cells5 w b off c a cap) (hb:Below w.heap.size w w'):Cells5 w' b off c a cap :=
 ⟨cell_later hb h.1,cell_later hb h.2.1,cell_later hb h.2.2.1,cell_later hb h.2.2.2.1,cell_later hb h.2.2.2.2⟩
theorem cnodes_eq (c:CondD):cnodes c=cnodesL c.kids+1:=by cases c;rw [cnodes];rfl
theorem cnodes_pos (c:CondD):0<cnodes c:=by rw [cnodes_eq];omega
theorem cnodes_kid:∀(ks:List CondD) (i:Nat) (c:CondD),ks[i]?=some c→cnodes c≤cnodesL ks
 |[],_,_,h=>by cases h
 |x :: r,i,c,h=>by
  rw [cnodesL]
  cases i with
  |zero=>injection h with h;subst h;omega
  |succ i=>have:=cnodes_kid r i c h;omega
theorem CondIs.laterN {w w':World} (hb:Below w.heap.size w w'):∀(k:Nat) (c:CondD) (a:Option Addr),cnodes c≤k→CondIs w c a→CondIs w' c a
 |0,c,_,hk,_=>by have:=cnodes_pos c;omega
 |k+1,c,a,hk,h=>by
  obtain ⟨h1,h2,h3,h4⟩:=h.open
  refine CondIs.mk ⟨h1,h2,h3,fun h0=>?_⟩
  obtain ⟨b,off,ha,hx⟩:=h4 h0
  refine ⟨b,off,ha,KidsIs.of _ _ fun i x hi=>?_⟩
  obtain ⟨a',cap,h5,h6⟩:=KidsIs.at _ _ i x hx hi
  have:=cnodes_kid _ i x hi
  rw [cnodes_eq] at hk
  exact ⟨a',cap,h5.later hb,CondIs.laterN hb k x a' (by omega) h6⟩
theorem CondIs.later {w w':World} {c:CondD} {a:Option Addr} (h:CondIs w c a) (hb:Below w.heap.size w w'):CondIs w' c a:=CondIs.laterN hb (cnodes c) c a (Nat.le_refl _) h
theorem callC_eq (p:CondD→Bool) (c:CondD):callC p c=(p c && callL p c.kids):=by cases c;rw [callC];rfl
theorem callL_take (p:CondD→Bool):∀(ks:List CondD) (i:Nat) (c:CondD),ks[i]?=some c→callL p (ks.take (i+1))=(callL p (ks.take i) && callC p c)
 |[],_,_,h=>by cases h
 |x :: r,i,c,h=>by
  cases i with
  |zero=>injection h with h;subst h;simp [callL]
  |succ i =>
   have:=callL_take p r i c h
   rw [List.take_succ_cons,List.take_succ_cons,callL,callL,this,Bool.and_assoc]
theorem callL_bad (p:CondD→Bool):∀(ks:List CondD) (i:Nat) (c:CondD),ks[i]?=some c→callC p c=false→callL p ks=false
 |[],_,_,h,_=>by cases h
 |x :: r,i,c,h,hc=>by
  rw [callL]
  cases i with
  |zero=>injection h with h;subst h;rw [hc];rfl
  |succ i=>rw [callL_bad p r i c h hc,Bool.and_false]
theorem holdsC_eq (l:List TagD) (c:CondD):holdsC l c=if c.op=2 then (getB c.key l).isSome
  else if c.op=3 then decide (getB c.key l=some c.val)
  else if c.op=7 then (getB c.key l).any fun s=>moreT s c.n
  else if c.op=4 then !allK l c.kids
  else if c.op=5 then allK l c.kids
  else if c.op=6 then anyK l c.kids
  else true:=by cases c;rw [holdsC];rfl
end Go.Proofs.YtdfenhjibnfdeaaGreatDoor

namespace Go.Proofs.YtdfenhjibnfdeaaGreatDoor
open Go.RowKit
theorem own_laterL {w w':World} {B e size n:Nat} {v:Value} {xs:List Value} (h:w.ownsRow B e size v n xs) (hb:Below w.heap.size w w'):w'.ownsRow B e size v n xs:=by
 obtain ⟨h0,h⟩:=h
 refine ⟨h0,?_⟩
 rcases h with h | ⟨g,cap,cur,h1,h2,h3,h4⟩
 ·exact .inl h
 ·exact .inr ⟨g,cap,cur,h1,h2,row_later hb h3,h4⟩
end Go.Proofs.YtdfenhjibnfdeaaGreatDoor

namespace Go.Proofs.YtdfenhjibnfdeaaGreatDoor
open Go.RowKit Go.Shelf
theorem cells_newQ (w:World) (cs:List Value) (t:TypeId):∀(j:Nat) (u:Value),cs[j]?=some u→(w.alloc (.cells cs.toArray t)).cell? ((⟨w.heap.size,0,none⟩:Addr).add j)=some u:=by
 intro j u hj
 rw [Addr.add_lit]
 have:=cell_of_row _ w.heap.size (0+j) _ _ _ (row_new w (.cells cs.toArray t))
 rw [this,Nat.zero_add]
 simpa using hj
theorem strs_new (w:World) (l:List ByteArray) (h:l.length≤1000) (hs:∀s∈l,s.size≤1000000):StrRow (w.alloc (.cells (l.map Value.string).toArray 9)) (.slice (some ⟨w.heap.size,0,none⟩) l.length l.length) l :=
 ⟨some ⟨w.heap.size,0,none⟩,l.length,rfl,by omega,(fun s h'=>by have:=hs s h';omega),fun _=>⟨w.heap.size,0,rfl,fun i s hi=>by
  have:=cells_newQ w (l.map Value.string) 9 i (.string s) (by rw [List.getElem?_map,hi];rfl)
  have e:(⟨w.heap.size,0,none⟩:Addr).add i=⟨w.heap.size,0+i,none⟩:=(by unfold Addr.add;split<;>simp_all)
  rw [e] at this;exact this⟩⟩
theorem contains_any (v:Value) (ids:List ByteArray) (x:ByteArray) (w:World) (h:StrRow w v ids) :
  Calls Tryz.prog 138 #[v,.string x] w fun e w'=>e=.returned (.bool (ids.any fun s=>decide (x=s)))∧w'=w:=by
 obtain ⟨a,cap,rfl,hn,hz,hc⟩:=h
 rcases Nat.eq_zero_or_pos ids.length with h0 | h0
 ·have:=Tryz.slices_Contains_string_empty a cap x w
  rw [h0]
  refine this.mono ?_
  rintro e w' ⟨rfl,rfl⟩
  have:ids=[]:=List.length_eq_zero_iff.1 h0
  subst this
  exact ⟨by simp,rfl⟩
 ·obtain ⟨b,off,rfl,hcell⟩:=hc h0
  have:=Tryz.slices_Contains_string b off ids.length cap ids x w (Nat.le_refl _) (by omega) (fun j hj=>by
   have:=hcell j (ids[j]) (List.getElem?_eq_getElem hj)
   rw [this]
   simp [List.getD,List.getElem?_eq_getElem hj])
  refine this.mono ?_
  rintro e w' ⟨rfl,rfl⟩
  refine ⟨?_,rfl⟩
  rw [List.take_of_length_le (Nat.le_refl _)]
  congr 2
  rw [Bool.eq_iff_iff,Lib.containsS_iff]
  simp
def resL:List ByteArray:=[wAlways,wAnd,wNot,wOr,wWhere]
theorem resB_mem (s:ByteArray):resB s=resL.any fun x=>decide (s=x):=by simp [resB,resL]
set_option maxHeartbeats 1000000 in
theorem reserved_any (s:ByteArray) (w:World) :
  Calls Tryz.prog 121 #[.string s] w fun e w'=>e=.returned (.bool (resB s))∧Below w.heap.size w w':=by
 have B1:Below w.heap.size w (w.alloc (.cells (resL.map Value.string).toArray 9)):=(Below.refl _ w).alloc (Nat.le_refl _) _
 have HS:=Lib.hid (strs_new w resL (by decide) (by decide))
 have CT:=Lib.hid (fun W v h=>contains_any v resL s W h)
 rw [resB_mem]
 go_enter Tryz.func121,Tryz.ntmps121
 go_wp2_with fail
 refine (CT.out _ _ HS.out).mono ?_
 rintro e w2 ⟨rfl,rfl⟩
 go_wp2
 go_ret
 exact ⟨rfl,B1⟩
set_option maxHeartbeats 1000000 in
theorem key_any (s:ByteArray) (hs:s.size≤140737488355328) (w:World) :
  Calls Tryz.prog 88 #[.string s] w fun e w'=>e=.returned (.bool (keyB s))∧Below w.heap.size w w':=by
 have HN:=Lib.hid (fun W=>name_any s hs W)
 have HR:=Lib.hid (fun W=>reserved_any s W)
 rw [keyB]
 cases h1:nameB s
 ·rw [h1] at HN
  go_enter Tryz.func88,Tryz.ntmps88
  go_wp2_with fail
  refine (HN.out _).mono ?_
  rintro e w1 ⟨rfl,hb1⟩
  go_wp2
  go_ret
  exact ⟨rfl,hb1⟩
 ·rw [h1] at HN
  cases h2:resB s
  all_goals
   rw [h2] at HR
   go_enter Tryz.func88,Tryz.ntmps88
   go_wp2_with fail
   refine (HN.out _).mono ?_
   rintro e w1 ⟨rfl,hb1⟩
   go_wp2_with fail
   refine (HR.out _).mono ?_
   rintro e w2 ⟨rfl,hb2⟩
   have hb:=below_step hb1 (Nat.le_refl _) hb2
   go_wp2
   go_ret
   exact ⟨rfl,hb⟩
end Go.Proofs.YtdfenhjibnfdeaaGreatDoor
