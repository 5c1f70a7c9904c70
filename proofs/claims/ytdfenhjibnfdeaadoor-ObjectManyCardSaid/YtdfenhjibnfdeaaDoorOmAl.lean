/-     -/
import Derived.Test.YtdfenhjibnfdeaaDoorOmAk
import Derived.Test.YtdfenhjibnfdeaaDoorOmAj
import Derived.Test.YtdfenhjibnfdeaaDoorOmAh
import Derived.Laws.Bits64
namespace Go.Proofs.YtdfenhjibnfdeaaDoor
open Go.RowKit
set_option maxRecDepth 100000 in
set_option maxHeartbeats 4000000 in
theorem valid_good (id:ByteArray) (kind x y:Int) (refs:List ByteArray) (tags:List TagD) (a:Option Addr) (N cap:Nat) (vt:Value) (w:World) (hz:id.size≤140737488355328) (ht:TagRow w vt tags) (hv:StrRow w (.slice a N cap) refs) (hk:1≤kind∧kind≤5) (hn:nameB id=true) (htg:tagsOK tags=true) (hN:N=refs.length) (hl:¬(N:Int)<leastK kind) (hm:¬2000<N) :
  Calls Tryd.prog 7 #[.agg #[.string id,.int .i64 kind,.int .i64 x,.int .i64 y,.slice a N cap,vt]] w fun e w'=>e=.returned (.bool (objOK ⟨id,kind,x,y,refs,tags⟩))∧Below w.heap.size w w':=by
 have HB:=Lib.hid (show objOK ⟨id,kind,x,y,refs,tags⟩=(refsFrom kind [] refs && (if kind=1 then decide (N=0) && onB x y else if kind=5 then decide (N=3) && decide (x=0∧y=0) else decide (x=0∧y=0))) by
  simp only [objOK];rw [←hN,decide_eq_true hk,hn,htg,show decide (leastK kind≤(N:Int))=true from decide_eq_true (by omega),show decide (N≤2000)=true from decide_eq_true (by omega)];simp)
 have WD:=Lib.hid (fun w=>word_any kind w)
 have hwz:=wordK_in kind hk.1 hk.2
 generalize wordK kind=wd at WD hwz
 have ew1:wd.toList.isEmpty=false:=str_not_empty hwz
 have ew0:¬wd.toList=[]:=by
  intro e;rw [e] at ew1;simp at ew1
 have ND:=Lib.hid (fun w=>by have:=name_any id hz w;rw [hn] at this;exact this)
 have TD:=Lib.hid (fun (w':World) (hb:Below w.heap.size w w')=>by have:=tags_any vt tags w' (ht.later hb);rw [htg] at this;exact this)
 have LD:=Lib.hid (fun w=>least_below kind hk.1 hk.2 w)
 generalize leastK kind=m at LD hl
 have hld:decide ((N:Int)<m)=false:=decide_eq_false hl
 have hmz:¬(2000:Int)<(N:Int):=by omega
 have hmd:decide ((2000:Int)<(N:Int))=false:=decide_eq_false hmz
 have HV:=Lib.hid hv
 have HK:=Lib.hid hk
 have HLE:=Lib.hid (show refs.length≤4000 by omega)
 clear hk hn ht htg hN hv
 have mixed:Tryd.prog.follows .mixedOrders=true:=by kernel_rfl
 go_enter Tryd.func7,Tryd.ntmps7
 go_wp2_with fail
 have B1:Below w.heap.size w (w.alloc (.cells #[.string id,.int .i64 kind,.int .i64 x,.int .i64 y,.slice a N cap,vt] 29)):=(Below.refl _ w).alloc (Nat.le_refl _) _
 have HO:=row_new w (.cells #[.string id,.int .i64 kind,.int .i64 x,.int .i64 y,.slice a N cap,vt] 29)
 generalize hw1:w.alloc (.cells #[.string id,.int .i64 kind,.int .i64 x,.int .i64 y,.slice a N cap,vt] 29)=w1
 rw [hw1] at B1 HO
 clear hw1
 have HO1:=Lib.hid HO
 obtain ⟨pz,p0,p1,p2,p3,p4,p5⟩:=rk6 HO
 have HO':=Lib.hid HO
 clear HO
 have q0:=cell_belowBy p0
 have q1:=cell_belowBy p1
 have q3:=cell_belowBy p4
 have q5:=cell_belowBy p5
 clear p0 p1 p2 p3 p4 p5
 refine wp_region_quiet_below (by assumption) (by kernel_rfl) ?_
 repeat (quiet_step (first | (go_at_call 14;exact calls_belowBy (WD.out _)) | (go_at_call 20;exact calls_belowBy (ND.out _)) | (go_at_call 21;exact calls_belowBy (TD.out _ (below_step B1 (Nat.le_refl _) (BelowBy.below _)))) | (go_at_call 22;exact calls_belowBy (LD.out _))))
 refine wpQuiet_nil ?_
 intro w2 hw'
 obtain ⟨⟨w3,hb2⟩,hw''⟩:=hw'
 subst hw''
 have hmm:=@run_makeMap Tryd.prog
 have HO2:=row_later hb2 HO1.out
 have B2:=below_step B1 (Nat.le_refl _) hb2
 clear HO1 HO' WD ND TD LD hl hld hmz hmd hm
 have HO2h:=Lib.hid HO2
 obtain ⟨cz,c0,c1,c2,c3,c4,c5⟩:=rk6 HO2
 have HO2':=Lib.hid HO2
 clear HO2
 have B5:Below w2.heap.size w2 (((w2.alloc (.map #[] 0)).alloc (.cells #[.map (some w2.heap.size)] 60)).alloc (.cells #[.string ⟨#[]⟩] 9)):=(((Below.refl _ w2).alloc (Nat.le_refl _) _).alloc (by simp) _).alloc (by simp;omega) _
 have d4:=cell_later B5 c4
 have HS:=row_past (o':=.cells #[.string ⟨#[]⟩] 9) (row_new (w2.alloc (.map #[] 0)) (.cells #[.map (some w2.heap.size)] 60))
 have HL:=row_new ((w2.alloc (.map #[] 0)).alloc (.cells #[.map (some w2.heap.size)] 60)) (.cells #[.string ⟨#[]⟩] 9)
 have HMs:SetIs (((w2.alloc (.map #[] 0)).alloc (.cells #[.map (some w2.heap.size)] 60)).alloc (.cells #[.string ⟨#[]⟩] 9)) w2.heap.size [] :=
  (SetIs.made w2).later ((((Below.refl _ (w2.alloc (.map #[] 0))).alloc (Nat.le_refl _) _).alloc (by simp) _).block _ (by simp))
 have HOb:=row_later B5 HO2h.out
 clear c0 c1 c2 c3 c4 c5
 go_wp2_with fail
 generalize hw5:((w2.alloc (.map #[] 0)).alloc (.cells #[.map (some w2.heap.size)] 60)).alloc (.cells #[.string ⟨#[]⟩] 9)=w5
 rw [hw5] at B5 HS HL HMs HOb
 have hs5:w5.heap.size=w2.heap.size+3:=by rw [←hw5];simp
 clear hw5 hmm d4
 have HS':w5.heap[w2.heap.size+1]?=some (.cells #[.map (some w2.heap.size)] 60):=by simpa using HS
 have HL':w5.heap[w2.heap.size+1+1]?=some (.cells #[.string ⟨#[]⟩] 9):=by simpa using HL
 have V:VSt w5 w.heap.size (w2.heap.size+1+1) (w2.heap.size+1) w2.heap.size kind []:=⟨by have:=cell_of_row w5 _ 1 _ _ _ HOb;simpa using this,HL',HS',HMs⟩
 refine (has_any (.slice a N cap) refs kind w.heap.size (w2.heap.size+1+1) (w2.heap.size+1) w2.heap.size w2 w5 HLE.out (HV.out.later B2) B5 V (by omega) (Nat.le_refl _) (by omega) (by omega) (by omega) (by omega) (by omega)).mono ?_
 rintro e w6 ⟨rfl,hb6,hx6⟩
 have B6:=B2.trans (hb6.mono (Nat.le_of_lt cz))
 have HO6:w6.heap[w.heap.size]?=some (.cells #[.string id,.int .i64 kind,.int .i64 x,.int .i64 y,.slice a N cap,vt] 29):=(hx6 _ (by omega) (by omega) (by omega)).trans HOb
 clear V HS HS' HL HL' HMs HOb hb6 hx6 B5 B2 B1 hb2 pz hs5 cz HO2' HO2h HLE HV
 obtain ⟨oz,o0,o1,o2,o3,o4,o5⟩:=rk6 HO6
 have HO6':=Lib.hid HO6
 clear HO6
 cases hrf:refsFrom kind [] refs
 case false =>
  have HE:=Lib.hid (show objOK ⟨id,kind,x,y,refs,tags⟩=false by rw [HB.out,hrf];rfl)
  clear hrf
  go_wp2
  go_ret
  exact ⟨ret_bool HE.out.symm,B6⟩
 case true =>
  have HE:=Lib.hid (show objOK ⟨id,kind,x,y,refs,tags⟩=(if kind=1 then decide (N=0) && onB x y else if kind=5 then decide (N=3) && decide (x=0∧y=0) else decide (x=0∧y=0)) by rw [HB.out,hrf];rfl)
  clear hrf HB
  by_cases k1:kind=1
  ·have HE1:=Lib.hid (show objOK ⟨id,kind,x,y,refs,tags⟩=(decide (N=0) && onB x y) by rw [HE.out,if_pos k1])
   have f1:(kind==1)=true:=by rw [k1];rfl
   clear HE k1 HK
   by_cases n0:N=0
   ·have HE2:=Lib.hid (show objOK ⟨id,kind,x,y,refs,tags⟩=onB x y by rw [HE1.out,n0];rfl)
    have n0b:((N:Int)==0)=true:=by rw [n0];rfl
    clear HE1 n0
    go_wp2_with fail
    refine (on_any x y _).mono ?_
    rintro e w7 ⟨rfl,hb7⟩
    have B7:=below_step B6 (Nat.le_refl _) hb7
    clear o0 o1 o2 o3 o4 o5 oz HO6' hb7
    rw [←HE2.out]
    go_wp2
    go_ret
    exact ⟨rfl,B7⟩
   ·have HE2:=Lib.hid (show objOK ⟨id,kind,x,y,refs,tags⟩=false by rw [HE1.out,decide_eq_false n0];rfl)
    have n0b:((N:Int)==0)=false:=by rw [beq_eq_false_iff_ne];omega
    clear HE1
    go_wp2
    go_ret
    exact ⟨ret_bool HE2.out.symm,B6⟩
  ·have f1:(kind==1)=false:=by rw [beq_eq_false_iff_ne];exact k1
   by_cases k5:kind=5
   ·have HE1:=Lib.hid (show objOK ⟨id,kind,x,y,refs,tags⟩=(decide (N=3) && decide (x=0∧y=0)) by rw [HE.out,if_neg k1,if_pos k5])
    have f5:(kind==5)=true:=by rw [k5];rfl
    clear HE k1 k5 HK
    by_cases n0:N=3
    ·have HE2:=Lib.hid (show objOK ⟨id,kind,x,y,refs,tags⟩=decide (x=0∧y=0) by rw [HE1.out,n0];rfl)
     have n0b:((N:Int)==3)=true:=by rw [n0];rfl
     clear HE1 n0
     by_cases kz:x=0∧y=0
     ·have HE3:=Lib.hid (show objOK ⟨id,kind,x,y,refs,tags⟩=true by rw [HE2.out,decide_eq_true kz])
      obtain ⟨rfl,rfl⟩:=kz
      clear HE2
      go_wp2
      go_ret
      exact ⟨ret_bool HE3.out.symm,B6⟩
     ·have HE3:=Lib.hid (show objOK ⟨id,kind,x,y,refs,tags⟩=false by rw [HE2.out,decide_eq_false kz])
      have hz:x≠0∨y≠0:=by omega
      clear HE2 kz
      rcases hz with hz | hz
      ·have z0:(x==0)=false:=by rw [beq_eq_false_iff_ne];exact hz
       go_wp2
       go_ret
       exact ⟨ret_bool HE3.out.symm,B6⟩
      ·have z0:(y==0)=false:=by rw [beq_eq_false_iff_ne];exact hz
       by_cases hx:x=0
       ·subst hx
        go_wp2
        go_ret
        exact ⟨ret_bool HE3.out.symm,B6⟩
       ·have z1:(x==0)=false:=by rw [beq_eq_false_iff_ne];exact hx
        go_wp2
        go_ret
        exact ⟨ret_bool HE3.out.symm,B6⟩
    ·have HE2:=Lib.hid (show objOK ⟨id,kind,x,y,refs,tags⟩=false by rw [HE1.out,decide_eq_false n0];rfl)
     have n0b:((N:Int)==3)=false:=by rw [beq_eq_false_iff_ne];omega
     clear HE1
     go_wp2
     go_ret
     exact ⟨ret_bool HE2.out.symm,B6⟩
   ·have HE2:=Lib.hid (show objOK ⟨id,kind,x,y,refs,tags⟩=decide (x=0∧y=0) by rw [HE.out,if_neg k1,if_neg k5])
    have f5:(kind==5)=false:=by rw [beq_eq_false_iff_ne];exact k5
    clear HE k1 k5 HK
    by_cases kz:x=0∧y=0
    ·have HE3:=Lib.hid (show objOK ⟨id,kind,x,y,refs,tags⟩=true by rw [HE2.out,decide_eq_true kz])
     obtain ⟨rfl,rfl⟩:=kz
     clear HE2
     go_wp2
     go_ret
     exact ⟨ret_bool HE3.out.symm,B6⟩
    ·have HE3:=Lib.hid (show objOK ⟨id,kind,x,y,refs,tags⟩=false by rw [HE2.out,decide_eq_false kz])
     have hz:x≠0∨y≠0:=by omega
     clear HE2 kz
     rcases hz with hz | hz
     ·have z0:(x==0)=false:=by rw [beq_eq_false_iff_ne];exact hz
      go_wp2
      go_ret
      exact ⟨ret_bool HE3.out.symm,B6⟩
     ·have z0:(y==0)=false:=by rw [beq_eq_false_iff_ne];exact hz
      by_cases hx:x=0
      ·subst hx
       go_wp2
       go_ret
       exact ⟨ret_bool HE3.out.symm,B6⟩
      ·have z1:(x==0)=false:=by rw [beq_eq_false_iff_ne];exact hx
       go_wp2
       go_ret
       exact ⟨ret_bool HE3.out.symm,B6⟩
theorem validO_any (id:ByteArray) (kind x y:Int) (vr vt:Value) (refs:List ByteArray) (tags:List TagD) (w:World) (hz:id.size≤140737488355328) (hv:StrRow w vr refs) (ht:TagRow w vt tags) :
  Calls Tryd.prog 7 #[.agg #[.string id,.int .i64 kind,.int .i64 x,.int .i64 y,vr,vt]] w fun e w'=>e=.returned (.bool (objOK ⟨id,kind,x,y,refs,tags⟩))∧Below w.heap.size w w':=by
 have hv0:=hv
 obtain ⟨a,cap,rfl,_⟩:=hv
 by_cases hk:1≤kind∧kind≤5
 ·cases hn:nameB id
  ·exact valid_name id kind x y refs tags a _ cap vt w hz hk hn
  ·cases htg:tagsOK tags
   ·exact valid_tags id kind x y refs tags a _ cap vt w hz ht hk hn htg
   ·by_cases hl:(refs.length:Int)<leastK kind
    ·exact valid_least id kind x y refs tags a _ cap vt w hz ht hk hn htg rfl hl
    ·by_cases hm:2000<refs.length
     ·exact valid_many id kind x y refs tags a _ cap vt w hz ht hk hn htg rfl hl hm
     ·exact valid_good id kind x y refs tags a _ cap vt w hz ht hv0 hk hn htg rfl hl hm
 ·exact valid_kind id kind x y refs tags a _ cap vt w hk
end Go.Proofs.YtdfenhjibnfdeaaDoor

namespace Go.Proofs.YtdfenhjibnfdeaaDoor
open Go.RowKit Go.Shelf
theorem refs_names (kind:Int):∀(l pre:List ByteArray),refsFrom kind pre l=true→∀s∈l,nameB s=true
 |[],_,_,_,hs=>by cases hs
 |r :: l,pre,h,s,hs=>by
  simp only [refsFrom,Bool.and_eq_true] at h
  rcases List.mem_cons.1 hs with rfl | hs
  ·exact h.1.1.1
  ·exact refs_names kind l _ h.2 s hs
theorem name_size {s:ByteArray} (h:nameB s=true):s.size≤24:=by
 simp only [nameB,nameL,Bool.and_eq_true,decide_eq_true_eq] at h
 have:=h.1.2
 rw [Array.length_toList] at this
 exact this
theorem join_bound (sep:List UInt8) (hs:sep.length≤1):∀l:List ByteArray,(∀s∈l,s.size≤24)→(Lib.join (l.map (·.data.toList)) sep).length≤25 * l.length
 |[],_=>by simp [Lib.join]
 |[a],h=>by
  have:=h a (by simp)
  have e:a.data.size=a.size:=rfl
  simp [Lib.join];omega
 |a :: b :: r,h=>by
  have ih:=join_bound sep hs (b :: r) (fun s hs=>h s (List.mem_cons_of_mem _ hs))
  have h1:=h a (by simp)
  have e:a.data.size=a.size:=rfl
  simp only [Lib.join,List.map_cons,List.intercalate_cons_cons,List.length_append,List.length_cons,Array.length_toList] at ih ⊢
  omega
def refsB (l:List ByteArray):ByteArray:=(⟨#[40]⟩++⟨(Lib.join (l.map (·.data.toList)) (⟨#[32]⟩:ByteArray).data.toList).toArray⟩)++⟨#[41]⟩
def decB (i:Nat):ByteArray:=⟨(Lib.decDigits i).toArray⟩
def midL (o:ObjD):List UInt8:=if o.kind=1 then putL (putL (putL (putL [] (wordK o.kind)) o.id) (decB o.x.toNat)) (decB o.y.toNat) else putL (putL (putL [] (wordK o.kind)) o.id) (refsB o.refs)
def textL (o:ObjD):List UInt8:=match o.tags with
 |[]=>midL o
 |t :: _=>putL (midL o) (tagB t)
def textV (o:ObjD):Value:=if objOK o then (if 20000<(textL o).length then .tuple #[.string ⟨#[]⟩,.int .i64 2] else .tuple #[.string (bytesOf (textL o)),.int .i64 0]) else .tuple #[.string ⟨#[]⟩,.int .i64 1]
theorem decB_size (i:Nat) (h:i<100):(decB i).size≤2:=by
 have:((List.range 100).all fun i=>decide ((decB i).size≤2))=true:=by decide +kernel
 simpa using List.all_eq_true.1 this i (List.mem_range.2 h)
theorem decB_pos (i:Nat) (h:i<100):0<(decB i).size:=by
 have:((List.range 100).all fun i=>decide (0<(decB i).size))=true:=by decide +kernel
 simpa using List.all_eq_true.1 this i (List.mem_range.2 h)
theorem tags_small {t:TagD} (hok:tagsOK [t]=true):t.key.size≤1000∧t.val.size≤1000:=by
 simp only [tagsOK,tagsFrom,nameB,nameL,Bool.and_eq_true,decide_eq_true_eq] at hok
 obtain ⟨-,⟨⟨⟨⟨-,h1⟩,-⟩,-⟩,h2,h3⟩,-⟩:=hok
 rw [Array.length_toList] at h1
 have:t.key.data.size=t.key.size:=rfl
 omega
theorem TagRow.low {w W:World} {v:Value} {l:List TagD} (h:TagRow w v l) (hb:Below w.heap.size w W):TagRow W v l:=h.later hb
structure TxS (w:World) (b bx:Nat) (o:Array Value) (l:List UInt8) (W:World):Prop where
 bld:BldF 51 w.heap.size b (Lib.byteCells l) W
 box:W.heap[bx]?=some (.cells o 29 (0,0))
 low:Below w.heap.size w W
 ne:bx≠b
theorem ownF_later {w w':World} {B e size n:Nat} {v:Value} {xs:List Value} (h:w.ownsRowF B e size v n xs) (hb:Below w.heap.size w w'):w'.ownsRowF B e size v n xs:=by
 refine ⟨h.1,?_⟩
 rcases h.2 with h0 | ⟨g,cap,cur,fz,h1,h2,h3,h4⟩
 ·exact Or.inl h0
 ·exact Or.inr ⟨g,cap,cur,fz,h1,h2,row_later hb h3,h4⟩
theorem bld_later {T:TypeId} {B b:Nat} {bs:List Value} {w w':World} (h:BldF T B b bs w) (hb:Below w.heap.size w w'):BldF T B b bs w':=by
 rcases h with ⟨h1,v,h2,h3,h4⟩ | ⟨h1,v,h2,h3,h4⟩
 ·exact .inl ⟨h1,v,row_later hb h2,ownF_later h3 hb,h4⟩
 ·exact .inr ⟨h1,v,row_later hb h2,ownF_later h3 hb,h4⟩
theorem TxS.later {w:World} {b bx:Nat} {o:Array Value} {l:List UInt8} {W W':World} (h:TxS w b bx o l W) (hb:Below W.heap.size W W'):TxS w b bx o l W' :=
 ⟨bld_later h.bld hb,row_later hb h.box,below_step h.low (Nat.le_refl _) hb,h.ne⟩
theorem putL_len (l:List UInt8) (s:ByteArray):(putL l s).length≤l.length+1+s.size∧(0<s.size→putL l s≠[]):=by
 unfold putL
 constructor
 ·split<;>simp only [List.length_append,lstB_len,List.length_cons,List.length_nil]<;>omega
 ·intro hs e
  have:=congrArg List.length e
  split at this<;>simp only [List.length_append,lstB_len,List.length_cons,List.length_nil] at this<;>omega
theorem put_st {w:World} {b bx:Nat} {o:Array Value} {l:List UInt8} {W:World} (h:TxS w b bx o l W) (s:ByteArray) (hl:l.length≤1000000) (hs:s.size≤1000000) :
  Calls Tryd.prog 13 #[.pointer (some ⟨b,0,none⟩),.string s] W fun e W'=>e=.returned (.tuple #[])∧TxS w b bx o (putL l s) W':=by
 refine (put_any w.heap.size b l s W h.bld (by omega) (by omega) h.low.size).mono ?_
 rintro e W' ⟨rfl,h1,h2,h3⟩
 exact ⟨rfl,.inr h1,h3 _ _ h.box (fun e=>h.ne (by injection e)) (fun c fz e=>by injection e with _ e;exact absurd e (by decide)),h.low.trans h2,h.ne⟩
set_option maxRecDepth 100000 in
set_option maxHeartbeats 4000000 in
theorem text_any (id:ByteArray) (kind x y:Int) (vr vt:Value) (refs:List ByteArray) (tags:List TagD) (w:World) (hz:id.size≤140737488355328) (hv:StrRow w vr refs) (ht:TagRow w vt tags)
  (hcap:∀a n c,vr=.slice a n c→n≤c) (h1:tags.length≤1) (hx:kind=1→0≤x∧x<100∧0≤y∧y<100) :
  Calls Tryd.prog 6 #[.agg #[.string id,.int .i64 kind,.int .i64 x,.int .i64 y,vr,vt]] w fun e w'=>e=.returned (textV ⟨id,kind,x,y,refs,tags⟩)∧Below w.heap.size w w':=by
 obtain ⟨ar,cr,rfl,hvr⟩:∃a c,vr=.slice a refs.length c∧StrRow w (.slice a refs.length c) refs:=by
  have hv':=hv;obtain ⟨a,c,h,_⟩:=hv';exact ⟨a,c,h,h ▸ hv⟩
 obtain ⟨at1,ct,rfl,hvt⟩:∃a c,vt=.slice a tags.length c∧TagRow w (.slice a tags.length c) tags:=by
  have ht':=ht;obtain ⟨a,c,h,_⟩:=ht';exact ⟨a,c,h,h ▸ ht⟩
 have hcr:=hcap _ _ _ rfl
 clear hv ht hcap
 have B1:Below w.heap.size w (w.alloc (.cells #[.string id,.int .i64 kind,.int .i64 x,.int .i64 y,.slice ar refs.length cr,.slice at1 tags.length ct] 29)):=(Below.refl _ w).alloc (Nat.le_refl _) _
 have VA:=Lib.hid (validO_any id kind x y (.slice ar refs.length cr) (.slice at1 tags.length ct) refs tags _ hz (hvr.later B1) (hvt.later B1))
 have HX:=Lib.hid (row_new w (.cells #[.string id,.int .i64 kind,.int .i64 x,.int .i64 y,.slice ar refs.length cr,.slice at1 tags.length ct] 29))
 cases hok:objOK ⟨id,kind,x,y,refs,tags⟩ with
 |false =>
  have HE:=Lib.hid (show textV ⟨id,kind,x,y,refs,tags⟩=.tuple #[.string ⟨#[]⟩,.int .i64 1] by rw [textV,hok];rfl)
  rw [hok] at VA
  clear hok hx
  go_enter Tryd.func6,Tryd.ntmps6
  go_wp2_with fail
  refine VA.out.mono ?_
  rintro e w1 ⟨rfl,hb1⟩
  go_wp2
  go_ret2
  rw [HE.out]
  exact ⟨rfl,below_step B1 (by simp) hb1⟩
 |true =>
  rw [hok] at VA
  go_enter Tryd.func6,Tryd.ntmps6
  go_wp2_with fail
  refine VA.out.mono ?_
  rintro e w1 ⟨rfl,hb1⟩
  have BW1:=below_step B1 (by simp) hb1
  have hs1:=hb1.size
  rw [World.size_alloc] at hs1
  have hS:TxS w w1.heap.size w.heap.size #[.string id,.int .i64 kind,.int .i64 x,.int .i64 y,.slice ar refs.length cr,.slice at1 tags.length ct] [] (w1.alloc (.cells #[.pointer none,.slice none 0 0] 51)) :=
   ⟨.inl ⟨BW1.size,_,row_new w1 _,World.ownsRowF_of (World.ownsRow_nil _ _ _ _),by simp [Value.ownBlock]⟩,row_past (row_later hb1 HX.out),BW1.alloc BW1.size _,by omega⟩
  have hs0:(wordK kind).size≤10:=by unfold wordK;(repeat' split)<;>decide
  have hids:id.size≤24:=by
   refine name_size ?_
   simp only [objOK,Bool.and_eq_true] at hok
   exact hok.1.1.1.1.1.2
  have hS:=Lib.hid hS
  obtain ⟨W0,hW0⟩:∃z,z=w1.alloc (.cells #[.pointer none,.slice none 0 0] 51):=⟨_,rfl⟩
  rw [←hW0] at hS
  have HB:=Lib.hid hS.out.box
  obtain ⟨cz,c0,c1,c2,c3,c4,c5⟩:=rk6 HB.out
  subst hW0
  go_wp2_with fail
  generalize hW0:w1.alloc (.cells #[.pointer none,.slice none 0 0] 51)=W0
  rw [hW0] at hS HB
  obtain ⟨b,hb⟩:∃z,z=w1.heap.size:=⟨_,rfl⟩
  rw [←hb] at hS ⊢
  clear hW0 c0 c1 c2 c3 c4 c5 cz hb hb1 BW1 VA
  refine (word_any kind W0).mono ?_
  rintro e W ⟨rfl,hbw⟩
  have hS:=hS.out.later hbw
  clear hbw HB
  go_wp2_with fail
  have hln:=(putL_len ([]:List UInt8) (wordK kind)).1
  have hS9:=hS
  refine (put_st hS9 (wordK kind) (by simp) (by omega)).mono ?_
  clear hS hS9
  rintro e W ⟨rfl,hS⟩
  have HB:=Lib.hid hS.box
  obtain ⟨cz,c0,c1,c2,c3,c4,c5⟩:=rk6 HB.out
  obtain ⟨L1,hL1⟩:∃z,z=putL [] (wordK kind):=⟨_,rfl⟩
  rw [←hL1] at hS hln
  simp only [List.length_nil] at hln
  go_wp2_with fail
  have hln2:=(putL_len L1 id).1
  have hS9:=hS
  refine (put_st hS9 id (by omega) (by omega)).mono ?_
  clear hS hS9 c0 c1 c2 c3 c4 c5 cz HB
  rintro e W2 ⟨rfl,hS⟩
  obtain ⟨L2,hL2⟩:∃z,z=putL L1 id:=⟨_,rfl⟩
  rw [←hL2] at hS hln2
  have HB:=Lib.hid hS.box
  obtain ⟨cz,c0,c1,c2,c3,c4,c5⟩:=rk6 HB.out
  by_cases hk1:kind=1
  ·obtain ⟨x0,x1,y0,y1⟩:=hx hk1
   obtain ⟨X,rfl⟩:∃X:Nat,x=X:=⟨x.toNat,by omega⟩
   obtain ⟨Y,rfl⟩:∃Y:Nat,y=Y:=⟨y.toNat,by omega⟩
   have hML:=Lib.hid (show midL ⟨id,kind,X,Y,refs,tags⟩=putL (putL L2 (decB X)) (decB Y) by rw [midL,if_pos hk1,hL2,hL1];rfl)
   have hYb:Y<100:=by omega
   have hdx:=decB_size X (by omega)
   have hdy:=decB_size Y (by omega)
   have IX:=Lib.hid (fun W=>Tryd.strconv_Itoa_small X (by omega) W)
   have IY:=Lib.hid (fun W=>Tryd.strconv_Itoa_small Y (by omega) W)
   subst hk1
   clear hx x0 x1 y0 y1
   go_wp2_with (go_at_call 15;refine (IX.out _).mono ?_;rintro e w' ⟨rfl,hww⟩;subst w')
   have hln3:=(putL_len L2 (decB X)).1
   have hS9:=hS
   refine (put_st hS9 (decB X) (by omega) (by omega)).mono ?_
   clear hS hS9 c0 c1 c2 c3 c4 c5 cz HB
   rintro e W3 ⟨rfl,hS⟩
   obtain ⟨L3,hL3⟩:∃z,z=putL L2 (decB X):=⟨_,rfl⟩
   rw [←hL3] at hS hln3 hML
   have HB:=Lib.hid hS.box
   obtain ⟨cz,c0,c1,c2,c3,c4,c5⟩:=rk6 HB.out
   go_wp2_with (go_at_call 15;refine (IY.out _).mono ?_;rintro e w' ⟨rfl,hww⟩;subst w')
   have hln4:=(putL_len L3 (decB Y)).1
   have hne:putL L3 (decB Y)≠[]:=(putL_len L3 (decB Y)).2 (decB_pos Y (by omega))
   have hS9:=hS
   refine (put_st hS9 (decB Y) (by omega) (by omega)).mono ?_
   clear hS hS9 c0 c1 c2 c3 c4 c5 cz HB
   rintro e W4 ⟨rfl,hS⟩
   obtain ⟨L4,hL4⟩:∃z,z=putL L3 (decB Y):=⟨_,rfl⟩
   rw [←hL4] at hS hln4 hML hne
   have h4b:L4.length≤100000:=by omega
   clear hL1 hL2 hL3 hL4 hln hln2 hln3 hln4
   have HB:=Lib.hid hS.box
   obtain ⟨cz,c0,c1,c2,c3,c4,c5⟩:=rk6 HB.out
   rcases tags with _ | ⟨t,_ | ⟨t2,r⟩⟩
   ·have HE:=Lib.hid (show textL ⟨id,_,_,_,refs,[]⟩=L4 from hML.out)
    obtain ⟨LL,hLL⟩:∃z,z=L4:=⟨_,rfl⟩
    rw [←hLL] at HE hS hne
    clear hLL
    have HS:=Lib.hid hS
    have LN:=Lib.hid (blen_any _ b _ W4 hS.bld)
    rw [Lib.byteCells_length] at LN
    by_cases hbig:20000<LL.length
    ·have HT:=Lib.hid (show textV _=.tuple #[.string ⟨#[]⟩,.int .i64 2] by rw [textV,hok,if_pos rfl,HE.out,if_pos hbig])
     have D1:decide ((20000:Int)<(LL.length:Int))=true:=by rw [decide_eq_true_eq];omega
     clear hS
     go_wp2_with (go_at_call 18;refine LN.out.mono ?_;rintro e w' ⟨rfl,hww⟩;subst w')
     go_ret2
     exact ⟨by rw [HT.out];rfl,HS.out.low⟩
    ·have HT:=Lib.hid (show textV _=.tuple #[.string (bytesOf LL),.int .i64 0] by rw [textV,hok,if_pos rfl,HE.out,if_neg hbig])
     have D1:decide ((20000:Int)<(LL.length:Int))=false:=by rw [decide_eq_false_iff_not];omega
     have SR:=Lib.hid (bstring_any _ b LL W4 hS.bld hne)
     clear hS
     go_wp2_with (go_at_call 18;refine LN.out.mono ?_;rintro e w' ⟨rfl,hww⟩;subst w')
     refine SR.out.mono ?_
     rintro e w9 ⟨rfl,hb9,-⟩
     go_wp2
     go_ret2
     exact ⟨by rw [HT.out];rfl,HS.out.low.trans hb9⟩
   ·have HE:=Lib.hid (show textL ⟨id,_,_,_,refs,[t]⟩=putL L4 (tagB t) by rw [←hML.out];rfl)
    have hto:tagsOK [t]=true:=by
     simp only [objOK,Bool.and_eq_true] at hok
     exact hok.1.1.1.1.2
    have hz1:=tags_small hto
    have htb:=tagB_size t hz1.1 hz1.2
    have TT:=Lib.hid (tagText_any t (.slice at1 1 ct) W4 (TagRow.low hvt hS.low) hto)
    have hln5:=(putL_len L4 (tagB t)).1
    have hne5:putL L4 (tagB t)≠[]:=(putL_len L4 (tagB t)).2 (by unfold tagB;simp only [ByteArray.size_append];have:(⟨#[61]⟩:ByteArray).size=1:=rfl;omega)
    go_wp2_with (go_at_call 17;refine TT.out.mono ?_;rintro e W5 ⟨rfl,hb5⟩)
    have hS9:=hS.later hb5
    refine (put_st hS9 (tagB t) (by omega) (by omega)).mono ?_
    clear hS hS9 c0 c1 c2 c3 c4 c5 cz HB hne
    rintro e W6 ⟨rfl,hS⟩
    obtain ⟨LL,hLL⟩:∃z,z=putL L4 (tagB t):=⟨_,rfl⟩
    rw [←hLL] at HE hS
    have hne:LL≠[]:=by rw [hLL];exact hne5
    clear hLL hln5 hne5
    have HS:=Lib.hid hS
    have LN:=Lib.hid (blen_any _ b _ W6 hS.bld)
    rw [Lib.byteCells_length] at LN
    by_cases hbig:20000<LL.length
    ·have HT:=Lib.hid (show textV _=.tuple #[.string ⟨#[]⟩,.int .i64 2] by rw [textV,hok,if_pos rfl,HE.out,if_pos hbig])
     have D1:decide ((20000:Int)<(LL.length:Int))=true:=by rw [decide_eq_true_eq];omega
     clear hS
     go_wp2_with (go_at_call 18;refine LN.out.mono ?_;rintro e w' ⟨rfl,hww⟩;subst w')
     go_ret2
     exact ⟨by rw [HT.out];rfl,HS.out.low⟩
    ·have HT:=Lib.hid (show textV _=.tuple #[.string (bytesOf LL),.int .i64 0] by rw [textV,hok,if_pos rfl,HE.out,if_neg hbig])
     have D1:decide ((20000:Int)<(LL.length:Int))=false:=by rw [decide_eq_false_iff_not];omega
     have SR:=Lib.hid (bstring_any _ b LL W6 hS.bld hne)
     clear hS
     go_wp2_with (go_at_call 18;refine LN.out.mono ?_;rintro e w' ⟨rfl,hww⟩;subst w')
     refine SR.out.mono ?_
     rintro e w9 ⟨rfl,hb9,-⟩
     go_wp2
     go_ret2
     exact ⟨by rw [HT.out];rfl,HS.out.low.trans hb9⟩
   ·simp only [List.length_cons] at h1;omega
  ·have hML:=Lib.hid (show midL ⟨id,kind,x,y,refs,tags⟩=putL L2 (refsB refs) by rw [midL,if_neg hk1,hL2,hL1])
   have hparts:(1≤kind∧kind≤5)∧leastK kind≤refs.length∧refs.length≤2000∧refsFrom kind [] refs=true:=by
    simp only [objOK,Bool.and_eq_true,decide_eq_true_eq] at hok
    exact ⟨hok.1.1.1.1.1.1,hok.1.1.1.2,hok.1.1.2,hok.1.2⟩
   obtain ⟨hkr,hle,h2k,hrf⟩:=hparts
   have hpos:0<refs.length:=by
    have:1≤leastK kind:=by unfold leastK;(repeat' split)<;>omega
    omega
   have hnm:=fun s hs=>name_size (refs_names kind refs [] hrf s hs)
   have hjl:=join_bound (⟨#[32]⟩:ByteArray).data.toList (by decide) refs hnm
   have hvr2:=hvr
   obtain ⟨a',c',hvq,-,-,hcell⟩:=hvr2
   injection hvq with hq1 _ hq3
   subst hq1
   subst hq3
   obtain ⟨bk,off,rfl,hcl⟩:=hcell hpos
   have hbk:bk<w.heap.size:=by
    obtain ⟨s0,hs0'⟩:∃s,refs[0]?=some s:=⟨refs[0],List.getElem?_eq_getElem hpos⟩
    exact lt_of_cell (hcl 0 s0 hs0')
   have JN:=Lib.hid (Tryd.strings_Join bk off cr refs ⟨#[32]⟩ W2 (fun j s hj=>cell_low (hcl j s hj) (fun k hk=>hS.low.block k hk)) (by have:=hS.low.size;omega) (by omega) (by omega) (by omega))
   have hJ:(⟨(Lib.join (refs.map (·.data.toList)) (⟨#[32]⟩:ByteArray).data.toList).toArray⟩:ByteArray).size=(Lib.join (refs.map (·.data.toList)) (⟨#[32]⟩:ByteArray).data.toList).length:=by
    show (List.toArray _).size=_
    simp
   obtain ⟨J,hJJ⟩:∃z,z=(⟨(Lib.join (refs.map (·.data.toList)) (⟨#[32]⟩:ByteArray).data.toList).toArray⟩:ByteArray):=⟨_,rfl⟩
   have HRB:=Lib.hid (show (⟨#[40]⟩++J)++⟨#[41]⟩=refsB refs by rw [hJJ];rfl)
   rw [←hJJ] at JN hJ
   have h41:(⟨#[40]⟩:ByteArray).size=1:=rfl
   have h42:(⟨#[41]⟩:ByteArray).size=1:=rfl
   have e1:∀w,(Op.stringOp .add ⟨#[40]⟩ J).run Tryd.prog w=.ok (.string (⟨#[40]⟩++J)) w:=fun w=>run_string_add_sum w _ _ (by omega)
   have e2:∀w,(Op.stringOp .add (⟨#[40]⟩++J) ⟨#[41]⟩).run Tryd.prog w=.ok (.string (refsB refs)) w:=fun w=>by rw [←HRB.out];exact run_string_add_sum w _ _ (by simp only [ByteArray.size_append];omega)
   have hrz:(refsB refs).size≤60000∧0<(refsB refs).size:=by rw [←HRB.out];simp only [ByteArray.size_append];omega
   have k1b:(kind==1)=false:=by rw [beq_eq_false_iff_ne];exact hk1
   clear hx hcl hcell hnm hJJ hrf hkr hle
   go_wp2_with (go_at_call 16;refine JN.out.mono ?_;rintro e W3 ⟨rfl,hb3⟩)
   have hln4:=(putL_len L2 (refsB refs)).1
   have hne:putL L2 (refsB refs)≠[]:=(putL_len L2 (refsB refs)).2 hrz.2
   have hS9:=hS.later hb3
   refine (put_st hS9 (refsB refs) (by omega) (by omega)).mono ?_
   clear hS hS9 c0 c1 c2 c3 c4 c5 cz HB
   rintro e W4 ⟨rfl,hS⟩
   obtain ⟨L4,hL4⟩:∃z,z=putL L2 (refsB refs):=⟨_,rfl⟩
   rw [←hL4] at hS hln4 hML hne
   have h4b:L4.length≤100000:=by omega
   clear hL1 hL2 hL4 hln hln2 hln4
   have HB:=Lib.hid hS.box
   obtain ⟨cz,c0,c1,c2,c3,c4,c5⟩:=rk6 HB.out
   rcases tags with _ | ⟨t,_ | ⟨t2,r⟩⟩
   ·have HE:=Lib.hid (show textL ⟨id,_,_,_,refs,[]⟩=L4 from hML.out)
    obtain ⟨LL,hLL⟩:∃z,z=L4:=⟨_,rfl⟩
    rw [←hLL] at HE hS hne
    clear hLL
    have HS:=Lib.hid hS
    have LN:=Lib.hid (blen_any _ b _ W4 hS.bld)
    rw [Lib.byteCells_length] at LN
    by_cases hbig:20000<LL.length
    ·have HT:=Lib.hid (show textV _=.tuple #[.string ⟨#[]⟩,.int .i64 2] by rw [textV,hok,if_pos rfl,HE.out,if_pos hbig])
     have D1:decide ((20000:Int)<(LL.length:Int))=true:=by rw [decide_eq_true_eq];omega
     clear hS
     go_wp2_with (go_at_call 18;refine LN.out.mono ?_;rintro e w' ⟨rfl,hww⟩;subst w')
     go_ret2
     exact ⟨by rw [HT.out];rfl,HS.out.low⟩
    ·have HT:=Lib.hid (show textV _=.tuple #[.string (bytesOf LL),.int .i64 0] by rw [textV,hok,if_pos rfl,HE.out,if_neg hbig])
     have D1:decide ((20000:Int)<(LL.length:Int))=false:=by rw [decide_eq_false_iff_not];omega
     have SR:=Lib.hid (bstring_any _ b LL W4 hS.bld hne)
     clear hS
     go_wp2_with (go_at_call 18;refine LN.out.mono ?_;rintro e w' ⟨rfl,hww⟩;subst w')
     refine SR.out.mono ?_
     rintro e w9 ⟨rfl,hb9,-⟩
     go_wp2
     go_ret2
     exact ⟨by rw [HT.out];rfl,HS.out.low.trans hb9⟩
   ·have HE:=Lib.hid (show textL ⟨id,_,_,_,refs,[t]⟩=putL L4 (tagB t) by rw [←hML.out];rfl)
    have hto:tagsOK [t]=true:=by
     simp only [objOK,Bool.and_eq_true] at hok
     exact hok.1.1.1.1.2
    have hz1:=tags_small hto
    have htb:=tagB_size t hz1.1 hz1.2
    have TT:=Lib.hid (tagText_any t (.slice at1 1 ct) W4 (TagRow.low hvt hS.low) hto)
    have hln5:=(putL_len L4 (tagB t)).1
    have hne5:putL L4 (tagB t)≠[]:=(putL_len L4 (tagB t)).2 (by unfold tagB;simp only [ByteArray.size_append];have:(⟨#[61]⟩:ByteArray).size=1:=rfl;omega)
    go_wp2_with (go_at_call 17;refine TT.out.mono ?_;rintro e W5 ⟨rfl,hb5⟩)
    have hS9:=hS.later hb5
    refine (put_st hS9 (tagB t) (by omega) (by omega)).mono ?_
    clear hS hS9 c0 c1 c2 c3 c4 c5 cz HB hne
    rintro e W6 ⟨rfl,hS⟩
    obtain ⟨LL,hLL⟩:∃z,z=putL L4 (tagB t):=⟨_,rfl⟩
    rw [←hLL] at HE hS
    have hne:LL≠[]:=by rw [hLL];exact hne5
    clear hLL hln5 hne5
    have HS:=Lib.hid hS
    have LN:=Lib.hid (blen_any _ b _ W6 hS.bld)
    rw [Lib.byteCells_length] at LN
    by_cases hbig:20000<LL.length
    ·have HT:=Lib.hid (show textV _=.tuple #[.string ⟨#[]⟩,.int .i64 2] by rw [textV,hok,if_pos rfl,HE.out,if_pos hbig])
     have D1:decide ((20000:Int)<(LL.length:Int))=true:=by rw [decide_eq_true_eq];omega
     clear hS
     go_wp2_with (go_at_call 18;refine LN.out.mono ?_;rintro e w' ⟨rfl,hww⟩;subst w')
     go_ret2
     exact ⟨by rw [HT.out];rfl,HS.out.low⟩
    ·have HT:=Lib.hid (show textV _=.tuple #[.string (bytesOf LL),.int .i64 0] by rw [textV,hok,if_pos rfl,HE.out,if_neg hbig])
     have D1:decide ((20000:Int)<(LL.length:Int))=false:=by rw [decide_eq_false_iff_not];omega
     have SR:=Lib.hid (bstring_any _ b LL W6 hS.bld hne)
     clear hS
     go_wp2_with (go_at_call 18;refine LN.out.mono ?_;rintro e w' ⟨rfl,hww⟩;subst w')
     refine SR.out.mono ?_
     rintro e w9 ⟨rfl,hb9,-⟩
     go_wp2
     go_ret2
     exact ⟨by rw [HT.out];rfl,HS.out.low.trans hb9⟩
   ·simp only [List.length_cons] at h1;omega
end Go.Proofs.YtdfenhjibnfdeaaDoor

namespace Go.Proofs.YtdfenhjibnfdeaaDoor
open Go.RowKit Go.Shelf
def TkR (w:World) (v:Value) (T:List TokD):Prop :=
 ∃(a:Option Addr) (cap:Nat),v=.slice a T.length cap∧T.length≤cap∧cap≤maxLen ∧
  (0<T.length→∃b off,a=some ⟨b,off,none⟩∧∀(i:Nat) (t:TokD),T[i]?=some t→w.cell? ⟨b,off+i * 3,none⟩=some (.int .i64 t.kind)∧w.cell? ⟨b,off+i * 3+1,none⟩=some (.string t.text)∧w.cell? ⟨b,off+i * 3+2,none⟩=some (.int .i64 t.off))
theorem TkR.later {w w':World} {v:Value} {T:List TokD} (h:TkR w v T) (hb:Below w.heap.size w w'):TkR w' v T:=by
 obtain ⟨a,cap,h1,h2,h3,h4⟩:=h
 refine ⟨a,cap,h1,h2,h3,fun h0=>?_⟩
 obtain ⟨b,off,e,hc⟩:=h4 h0
 exact ⟨b,off,e,fun i t hi=>⟨cell_later hb (hc i t hi).1,cell_later hb (hc i t hi).2.1,cell_later hb (hc i t hi).2.2⟩⟩
theorem flat_at (T:List TokD):∀(i:Nat) (t:TokD),T[i]?=some t→(T.flatMap encTk)[i * 3]?=some (.int .i64 t.kind)∧(T.flatMap encTk)[i * 3+1]?=some (.string t.text)∧(T.flatMap encTk)[i * 3+2]?=some (.int .i64 t.off):=by
 induction T with
 |nil=>intro i t h;cases h
 |cons x r ih =>
  intro i t h
  rw [List.flatMap_cons]
  cases i with
  |zero=>injection h with h;subst h;exact ⟨rfl,rfl,rfl⟩
  |succ i =>
   obtain ⟨h1,h2,h3⟩:=ih i t h
   have e:∀j,(encTk x++r.flatMap encTk)[(i+1) * 3+j]?=(r.flatMap encTk)[i * 3+j]?:=fun j=>by
    rw [List.getElem?_append_right (by simp only [encTk,List.length_cons,List.length_nil];omega)]
    congr 1
    simp only [encTk,List.length_cons,List.length_nil];omega
   exact ⟨(e 0).trans h1,(e 1).trans h2,(e 2).trans h3⟩
theorem TkR.of_own {w:World} {base:Nat} {v:Value} {T:List TokD} (h:w.ownsRow base 88 3 v T.length (T.flatMap encTk)):TkR w v T:=by
 have hc:=fun g=>World.ownsRow.cells h (g:=g)
 rcases h.2 with ⟨rfl,h0⟩ | ⟨g,cap,cur,rfl,hb,hg,h1,h2,_⟩
 ·exact ⟨none,0,by rw [h0],by omega,by unfold maxLen;omega,fun h=>by omega⟩
 ·refine ⟨some ⟨g,0,none⟩,cap,rfl,h1,h2,fun _=>⟨g,0,rfl,fun i t hi=>?_⟩⟩
  obtain ⟨h1,h2,h3⟩:=flat_at T i t hi
  have k1:=hc g rfl _ _ h1
  have k2:=hc g rfl _ _ h2
  have k3:=hc g rfl _ _ h3
  rw [Addr.add_lit] at k1 k2 k3
  exact ⟨k1,k2,k3⟩
def parB:ByteArray:=⟨#[41]⟩
def closeP (t:TokD):Bool:=decide (t.text=parB) && decide (t.kind=4)
theorem par_list:parB.toList=[41]:=by rw [ByteArray.toList_eq];rfl
theorem close_any (t:TokD) (w:World):Calls Tryd.prog 42 #[.agg #[.int .i64 t.kind,.string t.text,.int .i64 t.off]] w fun e w'=>e=.returned (.bool (closeP t))∧Below w.heap.size w w':=by
 have B1:Below w.heap.size w (w.alloc (.cells #[.int .i64 t.kind,.string t.text,.int .i64 t.off] 88)):=(Below.refl _ w).alloc (Nat.le_refl _) _
 by_cases h1:t.text=parB
 ·have e1:(t.text.toList==[41])=true:=by have:=str_eq_true h1;rwa [par_list] at this
  by_cases h2:t.kind=4
  ·have HE:=Lib.hid (show closeP t=true by simp [closeP,h1,h2])
   have k1:(t.kind==4)=true:=by rw [beq_iff_eq];exact h2
   clear h1 h2
   go_enter Tryd.func42,Tryd.ntmps42
   go_wp2
   go_ret
   exact ⟨ret_bool HE.out.symm,B1⟩
  ·have HE:=Lib.hid (show closeP t=false by simp [closeP,h2])
   have k1:(t.kind==4)=false:=by rw [beq_eq_false_iff_ne];exact h2
   clear h1
   go_enter Tryd.func42,Tryd.ntmps42
   go_wp2
   go_ret
   exact ⟨ret_bool HE.out.symm,B1⟩
 ·have e1:(t.text.toList==[41])=false:=by have:=str_eq_false h1;rwa [par_list] at this
  have HE:=Lib.hid (show closeP t=false by simp [closeP,h1])
  clear h1
  go_enter Tryd.func42,Tryd.ntmps42
  go_wp2
  go_ret
  exact ⟨ret_bool HE.out.symm,B1⟩
def idxF (T:List TokD):Int:=match T.findIdx? closeP with
 |some i=>(i:Int)
 |none=>-1
set_option maxRecDepth 100000 in
set_option maxHeartbeats 1000000 in
theorem indexTk_any (v:Value) (T:List TokD) (w:World) (h:TkR w v T) :
  Calls Tryd.prog 41 #[v,.func (.func 42) #[] #[]] w fun e w'=>e=.returned (.int .i64 (idxF T))∧Below w.heap.size w w':=by
 obtain ⟨a,cap,rfl,hcp,hcm,hc⟩:=h
 obtain ⟨N,hN⟩:∃N,T.length=N:=⟨_,rfl⟩
 rw [hN] at hc hcp ⊢
 have HN:=Lib.hid hN
 have HC:=Lib.hid hc
 clear hN hc
 have hNm:N≤maxLen:=by omega
 unfold maxLen at hNm
 have CL:=Lib.hid (fun t W=>close_any t W)
 go_enter Tryd.func41,Tryd.ntmps41
 go_wp2
 go_loopw [8] (fun i wr=>∃k:Nat,k≤N∧i=.int .i64 k∧(∀j t,j<k→T[j]?=some t→closeP t=false)∧Below w.heap.size w wr) (fun i _=>N - (intOf i).toNat)
 case atStart=>exact ⟨0,by omega,rfl,fun j t hj=>by omega,Below.refl _ _⟩
 case round =>
  obtain ⟨k,hk,rfl,hno,hbr⟩:=hrel
  have HNO:=Lib.hid hno
  clear hno
  by_cases hlt:k<N
  ·obtain ⟨t,ht⟩:∃t,T[k]?=some t:=⟨T[k]'(by rw [HN.out];exact hlt),List.getElem?_eq_getElem _⟩
   obtain ⟨b,off,ha,hcell⟩:=HC.out (by omega)
   subst ha
   obtain ⟨q0,q1,q2⟩:=hcell k t ht
   have c0:=cell_later hbr q0
   have c1:=cell_later hbr q1
   have c2:=cell_later hbr q2
   have C1:=Lib.hid (CL.out t wr)
   have HT:=Lib.hid ht
   clear hcell q0 q1 q2 ht
   cases hcl:closeP t with
   |true =>
    rw [hcl] at C1
    have HE:=Lib.hid (show idxF T=(k:Int) by
     have:T.findIdx? closeP=some k:=by
      rw [List.findIdx?_eq_some_iff_getElem]
      obtain ⟨hkl,he⟩:=List.getElem?_eq_some_iff.1 HT.out
      refine ⟨hkl,by rw [he];exact hcl,fun j hj=>?_⟩
      rw [HNO.out j _ hj (List.getElem?_eq_getElem _)];simp
     rw [idxF,this])
    clear hcl
    go_wp2_with fail
    refine C1.out.mono ?_
    rintro e w2 ⟨rfl,hb2⟩
    go_wp2
    go_ret
    exact ⟨ret_int HE.out.symm,below_step hbr (Nat.le_refl _) hb2⟩
   |false =>
    rw [hcl] at C1
    have HNX:=Lib.hid (show ∀j t,j<k+1→T[j]?=some t→closeP t=false from fun j t' hj ht'=>by
     rcases Nat.lt_or_ge j k with h | h
     ·exact HNO.out j t' h ht'
     ·obtain rfl:j=k:=by omega
      rw [HT.out] at ht';injection ht' with ht';subst ht';exact hcl)
    clear hcl
    go_wp2_with fail
    refine C1.out.mono ?_
    rintro e w2 ⟨rfl,hb2⟩
    go_wp2
    go_roundw
    case rel=>exact ⟨k+1,by omega,by go_num,HNX.out,below_step hbr (Nat.le_refl _) hb2⟩
    case measure=>simp [intOf];omega
  ·obtain rfl:k=N:=by omega
   have HE:=Lib.hid (show idxF T=-1 by
    have:T.findIdx? closeP=none:=by
     rw [List.findIdx?_eq_none_iff]
     intro t ht
     obtain ⟨j,hj,e⟩:=List.mem_iff_getElem.1 ht
     exact HNO.out j t (by rw [←HN.out];exact hj) (by rw [List.getElem?_eq_getElem hj,e])
    rw [idxF,this])
   go_wp2
   go_ret
   exact ⟨ret_int HE.out.symm,hbr⟩
end Go.Proofs.YtdfenhjibnfdeaaDoor

namespace Go.Proofs.YtdfenhjibnfdeaaDoor
open Go.RowKit Go.Shelf
theorem mul_any (x y:Nat) (Y:Int) (hY:Y=(y:Int)) (hx:x<18446744073709551616) (hy:y<18446744073709551616) (w:World) :
  Calls Tryd.prog 56 #[.int .u64 x,.int .u64 Y] w fun e w'=>e=.returned (.tuple #[.int .u64 ((x * y / 18446744073709551616:Nat):Int),.int .u64 ((x * y % 18446744073709551616:Nat):Int)])∧w'=w:=by rw [hY];exact Tryd.bits_Mul64 x y hx hy w
def mixA (x:Nat):Nat:=x * 2862933555777941757 % 18446744073709551616
def mixB (x:Nat):Nat:=x ^^^ x / 4294967296
def mixC (x:Nat):Nat:=x * 3935559000370003845 % 18446744073709551616
def mixD (x:Nat):Nat:=x ^^^ x / 536870912
def mixN (x:Nat):Nat:=mixD (mixC (mixB (mixA x)))
theorem mixA_lt (x:Nat):mixA x<18446744073709551616:=Nat.mod_lt _ (by decide)
theorem mixC_lt (x:Nat):mixC x<18446744073709551616:=Nat.mod_lt _ (by decide)
theorem xor_lt {x:Nat} (h:x<18446744073709551616) (d:Nat):x ^^^ x / d<18446744073709551616 :=
 Nat.xor_lt_two_pow (n:=64) h (Nat.lt_of_le_of_lt (Nat.div_le_self _ _) h)
theorem mixN_lt (x:Nat):mixN x<18446744073709551616:=xor_lt (mixC_lt _) _
set_option maxRecDepth 100000 in
set_option maxHeartbeats 1000000 in
theorem mix_any (x:Nat) (hx:x<18446744073709551616) (w:World) :
  Calls Tryd.prog 45 #[.int .u64 x] w fun e w'=>e=.returned (.int .u64 (mixN x:Nat))∧w'=w:=by
 have M1:=Lib.hid (fun w=>mul_any x 2862933555777941757 2862933555777941757 rfl hx (by decide) w)
 have hA:=mixA_lt x
 have HA:=Lib.hid (show x * 2862933555777941757 % 18446744073709551616=mixA x from rfl)
 rw [HA.out] at M1
 obtain ⟨a,ha⟩:∃z,z=mixA x:=⟨_,rfl⟩
 rw [←ha] at M1 hA
 have hB:mixB a<18446744073709551616:=xor_lt hA _
 have xB:bits .xor .u64 (a:Int) ((a:Int) / 4294967296)=((mixB a:Nat):Int):=xorShift_u64 a 4294967296 hA
 have HN:=Lib.hid (show mixN x=mixD (mixC (mixB a)) by rw [ha];rfl)
 clear ha
 obtain ⟨b,hb⟩:∃z,z=mixB a:=⟨_,rfl⟩
 rw [←hb] at hB xB HN
 clear hb
 have M2:=Lib.hid (fun w=>mul_any b 3935559000370003845 3935559000370003845 rfl hB (by decide) w)
 rw [show b * 3935559000370003845 % 18446744073709551616=mixC b from rfl] at M2
 have hC:=mixC_lt b
 obtain ⟨c,hc⟩:∃z,z=mixC b:=⟨_,rfl⟩
 rw [←hc] at M2 hC HN
 clear hc
 have xD:bits .xor .u64 (c:Int) ((c:Int) / 536870912)=((mixD c:Nat):Int):=xorShift_u64 c 536870912 hC
 rw [HN.out]
 clear HA hA hB hC hx
 go_enter Tryd.func45,Tryd.ntmps45
 go_wp2_with fail
 refine (M1.out _).mono ?_
 rintro e w' ⟨rfl,hww⟩
 subst w'
 generalize hq:((x * 2862933555777941757 / 18446744073709551616:Nat):Int)=q1
 clear hq M1
 go_wp2_with fail
 refine (M2.out _).mono ?_
 rintro e w' ⟨rfl,hww⟩
 subst w'
 generalize hq:((b * 3935559000370003845 / 18446744073709551616:Nat):Int)=q2
 clear hq M2
 go_wp2
 go_ret
 exact ⟨rfl,rfl⟩
end Go.Proofs.YtdfenhjibnfdeaaDoor
