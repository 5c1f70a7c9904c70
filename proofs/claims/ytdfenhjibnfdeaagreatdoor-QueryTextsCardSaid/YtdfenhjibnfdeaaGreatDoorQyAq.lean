/-  -/
import Derived.Test.YtdfenhjibnfdeaaGreatDoorQyAp
namespace Go.Proofs.YtdfenhjibnfdeaaGreatDoor
open Go.RowKit Go.Shelf
attribute [local go_sem] Oper.semAt_some
structure LxI (Bt Bc Bf:Nat) (s:ByteArray) (W:World):Prop where
 t:W.heap[Bt]?=some (.cells #[.string s] 9 (0,0))
 c:W.heap[Bc]?=some (.cells (tabU clsF) 106 (0,0))
 f:W.heap[Bf]?=some (.cells #[.func (.func 68) #[] #[.pointer (some ⟨Bt,0,none⟩),.pointer (some ⟨Bc,0,none⟩)]] 111 (0,0))
theorem LxI.low {Bt Bc Bf:Nat} {s:ByteArray} {W W':World} (h:LxI Bt Bc Bf s W) (hb:Below W.heap.size W W'):LxI Bt Bc Bf s W':=⟨row_later hb h.t,row_later hb h.c,row_later hb h.f⟩
def KpL (W W':World):Prop:=W.heap.size≤W'.heap.size∧∀(k:Nat) (cs:Array Value) (t:TypeId),W.heap[k]?=some (Obj.cells cs t (0,0))→t=9∨t=106∨t=111∨t=88→W'.heap[k]?=some (Obj.cells cs t (0,0))
theorem KpL.trans {A B C:World} (h:KpL A B) (k:KpL B C):KpL A C:=⟨Nat.le_trans h.1 k.1,fun i cs t hi ht=>k.2 i cs t (h.2 i cs t hi ht) ht⟩
theorem LxI.kept {Bt Bc Bf:Nat} {s:ByteArray} {W W':World} (h:LxI Bt Bc Bf s W) (k:KpL W W'):LxI Bt Bc Bf s W':=⟨k.2 _ _ _ h.t (.inl rfl),k.2 _ _ _ h.c (.inr (.inl rfl)),k.2 _ _ _ h.f (.inr (.inr (.inl rfl)))⟩
theorem drop_cons_of {α:Type} {S:List α} {j:Nat} {x:α} {r:List α} (h:S.drop j=x :: r):S[j]?=some x∧S.drop (j+1)=r∧j<S.length:=by
 have hl:j<S.length:=by
  rcases Nat.lt_or_ge j S.length with h' | h'
  ·exact h'
  ·rw [List.drop_of_length_le h'] at h;cases h
 rw [List.drop_eq_getElem_cons hl] at h
 injection h with h1 h2
 exact ⟨by rw [List.getElem?_eq_getElem hl,h1],h2,hl⟩
theorem next_tok {α:Type} {f:α→FndD} {S:List α} {j:Nat} {t:FndD} {r:List FndD} (h:(S.drop j).map f=t :: r):∃x,S[j]?=some x∧f x=t∧(S.drop (j+1)).map f=r∧j<S.length:=by
 cases hd:S.drop j with
 |nil=>rw [hd] at h;cases h
 |cons x q =>
  rw [hd] at h
  injection h with h1 h2
  obtain ⟨a,b,c⟩:=drop_cons_of hd
  exact ⟨x,a,h1,by rw [b];exact h2,c⟩
abbrev encF (x:FndD):Array Value:=#[.agg #[.int .i64 x.tok.kind,.string x.tok.text,.int .i64 x.tok.off,.int .i64 x.err]]
def stF (W:World) (fb:Nat) (k:Int) (t:ByteArray) (e:Int):World:=((W.setCell ⟨fb,0,none⟩ (.int .i64 k)).setCell ⟨fb,1,none⟩ (.string t)).setCell ⟨fb,3,none⟩ (.int .i64 e)
theorem stF_row {W:World} {fb:Nat} {a b d:Value} {o:Int} (k:Int) (t:ByteArray) (e:Int) (h:W.heap[fb]?=some (.cells #[a,b,.int .i64 o,d] 88 (0,0))) :
  (stF W fb k t e).heap[fb]?=some (.cells #[.int .i64 k,.string t,.int .i64 o,.int .i64 e] 88 (0,0)):=by
 have:=row_set (i:=3) (v:=.int .i64 e) (row_set (i:=1) (v:=.string t) (row_set (i:=0) (v:=.int .i64 k) h))
 simpa [stF] using this
theorem stF_below {B:Nat} {w W:World} {fb:Nat} (h:Below B w W) (hf:B≤fb) (k:Int) (t:ByteArray) (e:Int):Below B w (stF W fb k t e) :=
 ((h.setCell hf _).setCell hf _).setCell hf _
theorem er_row {W:World} {fb:Nat} {a b d:Value} {o:Int} (e:Int) (h:W.heap[fb]?=some (.cells #[a,b,.int .i64 o,d] 88 (0,0))) :
  (W.setCell ⟨fb,3,none⟩ (.int .i64 e)).heap[fb]?=some (.cells #[a,b,.int .i64 o,.int .i64 e] 88 (0,0)):=by
 have:=row_set (i:=3) (v:=.int .i64 e) h
 simpa using this
set_option maxRecDepth 100000 in
set_option maxHeartbeats 4000000 in
theorem toks1_any {α:Type} (f:α→FndD) (n:Nat) (hn:1≤n) (l Bt Bc Bf:Nat) (s:ByteArray) (hs:s.size≤20000) (S:List α) (hS:S.map f=tkF s 0) (J Jx:List α→World→Prop)
  (W:World) (hJ:AbidesFrom W.heap.size J)
  (hY:∀pre x W1,J pre W1→pre.length<S.length→YieldAt Fence.wide (n - 1) Tryz.prog l (encF (f x)) W1 fun e W' =>
   (e=.returned (.bool true)∧J (pre++[x]) W'∧KpL W1 W')∨(e=.returned (.bool false)∧Jx (pre++[x]) W'))
  (hI:LxI Bt Bc Bf s W) (h0:J [] W) :
  CallsIn Fence.wide n Tryz.prog 69 #[.func (.yield l) #[] #[],.pointer (some ⟨Bt,0,none⟩),.pointer (some ⟨Bf,0,none⟩)] W (VaPost S J Jx):=by
 refine callsIn_of_wp Tryz.func69 rfl trivial ?_ rfl
 simp only [Tryz.ntmps69,List.size_toArray,List.length_cons,List.length_nil,Nat.reduceAdd,Nat.reduceSub,Array.replicate_succ,Array.replicate_zero,List.push_toArray,List.append_toArray,List.nil_append,List.cons_append]
 gi_wp2
 apply (wpIn_wide (n:=n)).2
 apply wp_scope_straight
 apply (wpIn_wide (n:=n)).1
 gi_wp2
 refine wpIn_label ?_
 gi_wp2
 gi_loopw [4] (fun i wr=>∃k j:Nat,k≤s.size∧i=.int .i64 k∧j≤S.length∧(S.drop j).map f=tkF s k∧J (S.take j) wr∧LxI Bt Bc Bf s wr∧W.heap.size≤wr.heap.size) (fun i _=>s.size - (intOf i).toNat)
 case atStart=>exact ⟨0,0,by omega,rfl,by omega,by simpa using hS,by simpa using h0,hI,Nat.le_refl _⟩
 case round =>
  obtain ⟨k,j,hk,rfl,hj,hT,hJk,hIk,hsk⟩:=hrel
  clear h0 hS hI
  have HT:=Lib.hid hT
  have HB:=Lib.hid hIk.t
  have HF:=Lib.hid hIk.f
  have HJ:=Lib.hid hJk
  have HI:=Lib.hid hIk
  clear hT hIk hJk
  by_cases hlt:k<s.size
  ·have AA:=Lib.hid (fun (i:Nat) w (h:LxI Bt Bc Bf s w)=>at_any i Bt Bc s w h.t h.c)
   have BA:Below wr.heap.size wr (wr.alloc (.cells #[.int .i64 0,.string ⟨#[]⟩,.int .i64 k,.int .i64 3] 88)):=(Below.refl _ wr).alloc (Nat.le_refl _) _
   have IA:=Lib.hid (HI.out.low BA)
   have A1:=Lib.hid (AA.out k _ IA.out)
   have CE:=Lib.hid (clAt_eq hlt)
   obtain ⟨tz,t0⟩:=rk1 HB.out
   have t0':=cell_later BA t0
   have f0:=cell_later BA (show wr.cell? ⟨Bf,0,none⟩=some (.func (.func 68) #[] #[.pointer (some ⟨Bt,0,none⟩),.pointer (some ⟨Bc,0,none⟩)]) by rw [cell_of_row wr _ 0 _ _ _ HF.out];rfl)
   obtain ⟨v,hv⟩:∃v,clAt s k=v:=⟨_,rfl⟩
   have h8:v=0∨v=1∨v=2∨v=3∨v=4∨v=5∨v=6∨v=7:=by
    have:=cl_range s[k];rw [←CE.out,hv] at this;omega
   rw [hv] at CE A1
   have HFN:=Lib.hid (row_new wr (.cells #[.int .i64 0,.string ⟨#[]⟩,.int .i64 k,.int .i64 3] 88))
   clear hv
   rcases h8 with rfl | rfl | rfl | rfl | rfl | rfl | rfl | rfl
   all_goals
    gi_wp2_with (refine ⟨trivial,?_⟩;gi_at_call 68;refine (callsIn_wide.2 A1.out).mono ?_;rintro e w' ⟨rfl,hww⟩;subst w')
    generalize hW2:wr.alloc (.cells #[.int .i64 0,.string ⟨#[]⟩,.int .i64 k,.int .i64 3] 88)=W2
    rw [hW2] at BA IA A1 t0' f0 HFN
    clear hW2
   ·have HTK:=Lib.hid (tk_err (n:=0) (e:=3) (k:=0) (t:=⟨#[]⟩) hlt (by decide) (by rw [drop_at s k hlt];exact scan_other _ (.inl CE.out.symm)))
    have BB:=BA
    have HFB:=HFN
    obtain ⟨x,hx,hfx,hnx,hjl⟩:=next_tok (HT.out.trans HTK.out)
    have HTT:=Lib.hid (take_snoc' hx)
    have HNX:=Lib.hid hnx
    have hlen:(S.take j).length=j:=by rw [List.length_take];omega
    have HJ3:=Lib.hid (hJ _ _ _ none HJ.out (grown_none BB) (fun r e=>by cases e))
    have hs3:=Nat.le_trans hsk BB.size
    obtain ⟨fn,tmps,assign,body,hy',hR⟩:=hY (S.take j) x W2 HJ3.out (by omega)
    rw [hfx] at hy'
    have hy9:(Instr.yield l #[.agg #[.int .i64 0,.string ⟨#[]⟩,.int .i64 k,.int .i64 3]]).run Tryz.prog W2=.ok (.round l fn tmps assign body) W2:=hy'
    have HPRE:=Lib.hid (show S.take j++[x] <+: S by rw [←HTT.out];exact List.take_prefix _ _)
    have HR:=Lib.hid hR
    have HI3:=Lib.hid (HI.out.low BB)
    clear hR hx hfx hnx hy' BB
    obtain ⟨gz,g0,g1,g2,g3⟩:=rk4 HFB.out
    have HE:=Lib.hid (show S.take j++[x]=S by
     have h2:S.drop (j+1)=[]:=List.map_eq_nil_iff.1 HNX.out
     rw [←HTT.out]
     conv=>rhs;rw [←List.take_append_drop (j+1) S,h2,List.append_nil])
    gi_wp2
    try (rw [hy9];gi_wp2)
    refine HR.out.mono ?_
    rintro e W4 (⟨rfl,hJ4,hk4⟩ | ⟨rfl,hJx4⟩)
    case inr =>
     gi_wp2
     rw [Exit.noGoto_ret]
     refine bodyPost_ret (results_none rfl _ _ _) rfl ?_
     exact ⟨⟨_,rfl⟩,.inr ⟨_,HPRE.out,hJx4⟩⟩
    have HI4:=Lib.hid (HI3.out.kept hk4)
    have HFB4:=Lib.hid (hk4.2 _ _ _ HFB.out (.inr (.inr (.inr rfl))))
    have hs4:=Nat.le_trans hs3 hk4.1
    have HJ4:=Lib.hid hJ4
    clear hJ4 hk4
    obtain ⟨qz,q0,q1,q2,q3⟩:=rk4 HFB4.out
    gi_wp2
    rw [Exit.noGoto_ret]
    refine bodyPost_ret (results_none rfl _ _ _) rfl ?_
    exact ⟨⟨_,rfl⟩,.inl ⟨_,HE.out,HJ4.out⟩⟩
   ·have HTK:=Lib.hid (tk_skip (n:=1) hlt (by omega) (by rw [drop_at s k hlt];exact scan_blank _ CE.out.symm))
    have HJ3:=Lib.hid (hJ _ _ _ none HJ.out (grown_none BA) (fun r e=>by cases e))
    have HI3:=Lib.hid (HI.out.low BA)
    have hs3:=Nat.le_trans hsk BA.size
    gi_wp2
    go_roundw
    case rel=>exact ⟨k+1,j,by omega,by go_num,hj,HT.out.trans HTK.out,HJ3.out,HI3.out,hs3⟩
    case measure=>simp [intOf];omega
   ·gi_loop [4] (fun i=>∃m:Nat,i=.int .i64 m∧SpI (fun d=>decide (d.toNat≠10)) s k m) (fun i=>s.size - (intOf i).toNat)
    case atStart=>exact ⟨k,rfl,SpI.start (by omega)⟩
    case round =>
     obtain ⟨m,rfl,hsp⟩:=hrel
     have HSP:=Lib.hid hsp
     obtain ⟨hm1,hm2,-⟩:=hsp
     by_cases hml:m<s.size
     ·by_cases h10:s[m].toNat=10
      ·have hkm:=HSP.out.gt hlt (hash_no CE.out.symm) (fun hj=>by simp [h10])
       have HTK:=Lib.hid (tk_skip (n:=m - k) hlt (by omega) (by
        rw [drop_at s k hlt,scan_hash _ CE.out.symm,←drop_at s k hlt,HSP.out.stop (fun hj=>by simp [h10])]))
       rw [show k+(m - k)=m by omega] at HTK
       have HJ3:=Lib.hid (hJ _ _ _ none HJ.out (grown_none BA) (fun r e=>by cases e))
       have HI3:=Lib.hid (HI.out.low BA)
       have hs3:=Nat.le_trans hsk BA.size
       gi_wp2
       go_roundw
       case rel=>exact ⟨m,j,by omega,by go_num,hj,HT.out.trans HTK.out,HJ3.out,HI3.out,hs3⟩
       case measure=>simp [intOf];omega
      ·have HS2:=Lib.hid (HSP.out.step hml (by simp [h10]))
       gi_wp2
       go_round
       case rel=>exact ⟨m+1,by go_num,HS2.out⟩
       case measure=>simp [intOf];omega
     ·have hkm:k<m:=by omega
      have HTK:=Lib.hid (tk_skip (n:=m - k) hlt (by omega) (by
       rw [drop_at s k hlt,scan_hash _ CE.out.symm,←drop_at s k hlt,HSP.out.stop (fun hj=>by omega)]))
      rw [show k+(m - k)=m by omega] at HTK
      have HJ3:=Lib.hid (hJ _ _ _ none HJ.out (grown_none BA) (fun r e=>by cases e))
      have HI3:=Lib.hid (HI.out.low BA)
      have hs3:=Nat.le_trans hsk BA.size
      gi_wp2
      go_roundw
      case rel=>exact ⟨m,j,by omega,by go_num,hj,HT.out.trans HTK.out,HJ3.out,HI3.out,hs3⟩
      case measure=>simp [intOf];omega
   ·gi_wp2_with (refine ⟨trivial,?_⟩;gi_at_call 68;refine (callsIn_wide.2 A1.out).mono ?_;rintro e w' ⟨rfl,hww⟩;subst w')
    gi_loop [4,7] (fun i c=>∃m:Nat,i=.int .i64 m∧c=.int .u8 (clAt s m)∧SpI wordC s k m) (fun i _=>s.size - (intOf i).toNat)
    case atStart=>exact ⟨k,rfl,by rw [clAt_eq hlt,←CE.out],SpI.start (by omega)⟩
    case round =>
     obtain ⟨m,rfl,rfl,hsp⟩:=hrel
     have HSP:=Lib.hid hsp
     obtain ⟨hm1,hm2,-⟩:=hsp
     obtain ⟨v,hv⟩:∃v,clAt s m=v:=⟨_,rfl⟩
     have HV:=Lib.hid hv
     rw [hv]
     clear hv
     by_cases hw:v=3∨v=4∨v=5
     ·have HW:=Lib.hid (cl_word (s:=s) (m:=m) (by rw [HV.out];exact hw))
      have hml:m<s.size:=HW.out.1
      have HS2:=Lib.hid (HSP.out.step HW.out.1 HW.out.2)
      have jw:IntKind.i64.wrap ((m:Int)+1)=(m:Int)+1:=IntWalk.i64_in _ (by omega)
      have A2:=Lib.hid (show Calls Tryz.prog 68 #[.int .i64 ((m:Int)+1),.pointer (some ⟨Bt,0,none⟩),.pointer (some ⟨Bc,0,none⟩)] W2 fun e w'=>e=.returned (.int .u8 (clAt s (m+1)))∧w'=W2 from AA.out (m+1) W2 IA.out)
      rcases hw with rfl | rfl | rfl
      all_goals
       gi_wp2_with (refine ⟨trivial,?_⟩;gi_at_call 68;refine (callsIn_wide.2 A2.out).mono ?_;rintro e w' ⟨rfl,hww⟩;subst w')
       go_round
       case rel=>exact ⟨m+1,by go_num,rfl,HS2.out⟩
       case measure=>simp [intOf];omega
     ·have d3:¬v=3:=fun h=>hw (.inl h)
      have d4:¬v=4:=fun h=>hw (.inr (.inl h))
      have d5:¬v=5:=fun h=>hw (.inr (.inr h))
      clear hw
      have e3:(v==3)=false:=by rw [beq_eq_false_iff_ne];exact d3
      have e4:(v==4)=false:=by rw [beq_eq_false_iff_ne];exact d4
      have e5:(v==5)=false:=by rw [beq_eq_false_iff_ne];exact d5
      have hno:∀hm:m<s.size,wordC s[m]=false:=fun hm=>cl_nword (s:=s) (m:=m) (by rw [HV.out];exact d3) (by rw [HV.out];exact d4) (by rw [HV.out];exact d5) hm
      have hkm:=HSP.out.gt hlt (by rw [word_cl,←CE.out];rfl) hno
      have HSN:=Lib.hid (HSP.out.stop hno)
      clear hno
      obtain ⟨gz,g0,g1,g2,g3⟩:=rk4 HFN.out
      have gf0:=frozen_of_row W2 _ 0 _ _ HFN.out
      have gf1:=frozen_of_row W2 _ 1 _ _ HFN.out
      have gf2:=frozen_of_row W2 _ 2 _ _ HFN.out
      have gf3:=frozen_of_row W2 _ 3 _ _ HFN.out
      gi_wp2
      gi_region
      generalize hW3:(((W2.setCell ⟨wr.heap.size,0,none⟩ (.int .i64 1)).setCell ⟨wr.heap.size,1,none⟩ (.string (s.extract k m))).setCell ⟨wr.heap.size,3,none⟩ (.int .i64 0)).drew=W3
      have HF3:=Lib.hid (show W3.heap[wr.heap.size]?=some (.cells #[.int .i64 1,.string (s.extract k m),.int .i64 k,.int .i64 0] 88 (0,0)) by rw [←hW3];exact stF_row 1 (s.extract k m) 0 HFN.out)
      have B3:Below wr.heap.size wr W3:=by rw [←hW3];exact (stF_below BA (Nat.le_refl _) 1 (s.extract k m) 0).drew
      have jw:IntKind.i64.wrap ((m:Int) - (k:Int))=(m:Int) - (k:Int):=IntWalk.i64_in _ (by omega)
      clear hW3 g0 g1 g2 g3 gf0 gf1 gf2 gf3
      by_cases h24:24<m - k
      ·have D:decide ((24:Int)<(m:Int) - (k:Int))=true:=by rw [decide_eq_true_eq];omega
       have HTK:=Lib.hid (tk_err (n:=m - k) (e:=2) (k:=1) (t:=s.extract k m) hlt (by decide) (by rw [scan_name hlt CE.out.symm HSN.out,if_pos h24]))
       obtain ⟨gz,g0,g1,g2,g3⟩:=rk4 HF3.out
       have gf0:=frozen_of_row W3 _ 0 _ _ HF3.out
       have gf1:=frozen_of_row W3 _ 1 _ _ HF3.out
       have gf2:=frozen_of_row W3 _ 2 _ _ HF3.out
       have gf3:=frozen_of_row W3 _ 3 _ _ HF3.out
       gi_wp2
       generalize hW5:W3.setCell ⟨wr.heap.size,3,none⟩ (.int .i64 2)=W5
       have HFB:=Lib.hid (show W5.heap[wr.heap.size]?=some (.cells #[.int .i64 1,.string (s.extract k m),.int .i64 k,.int .i64 2] 88 (0,0)) by rw [←hW5];exact er_row 2 HF3.out)
       have BB:Below wr.heap.size wr W5:=by rw [←hW5];exact B3.setCell (Nat.le_refl _) _
       clear hW5 g0 g1 g2 g3 gf0 gf1 gf2 gf3
       obtain ⟨x,hx,hfx,hnx,hjl⟩:=next_tok (HT.out.trans HTK.out)
       have HTT:=Lib.hid (take_snoc' hx)
       have HNX:=Lib.hid hnx
       have hlen:(S.take j).length=j:=by rw [List.length_take];omega
       have HJ3:=Lib.hid (hJ _ _ _ none HJ.out (grown_none BB) (fun r e=>by cases e))
       have hs3:=Nat.le_trans hsk BB.size
       obtain ⟨fn,tmps,assign,body,hy',hR⟩:=hY (S.take j) x W5 HJ3.out (by omega)
       rw [hfx] at hy'
       have hy9:(Instr.yield l #[.agg #[.int .i64 1,.string (s.extract k m),.int .i64 k,.int .i64 2]]).run Tryz.prog W5=.ok (.round l fn tmps assign body) W5:=hy'
       have HPRE:=Lib.hid (show S.take j++[x] <+: S by rw [←HTT.out];exact List.take_prefix _ _)
       have HR:=Lib.hid hR
       have HI3:=Lib.hid (HI.out.low BB)
       clear hR hx hfx hnx hy' BB
       obtain ⟨gz,g0,g1,g2,g3⟩:=rk4 HFB.out
       have HE:=Lib.hid (show S.take j++[x]=S by
        have h2:S.drop (j+1)=[]:=List.map_eq_nil_iff.1 HNX.out
        rw [←HTT.out]
        conv=>rhs;rw [←List.take_append_drop (j+1) S,h2,List.append_nil])
       gi_wp2
       try (rw [hy9];gi_wp2)
       refine HR.out.mono ?_
       rintro e W4 (⟨rfl,hJ4,hk4⟩ | ⟨rfl,hJx4⟩)
       case inr =>
        gi_wp2
        rw [Exit.noGoto_ret]
        refine bodyPost_ret (results_none rfl _ _ _) rfl ?_
        exact ⟨⟨_,rfl⟩,.inr ⟨_,HPRE.out,hJx4⟩⟩
       have HI4:=Lib.hid (HI3.out.kept hk4)
       have HFB4:=Lib.hid (hk4.2 _ _ _ HFB.out (.inr (.inr (.inr rfl))))
       have hs4:=Nat.le_trans hs3 hk4.1
       have HJ4:=Lib.hid hJ4
       clear hJ4 hk4
       obtain ⟨qz,q0,q1,q2,q3⟩:=rk4 HFB4.out
       gi_wp2
       rw [Exit.noGoto_ret]
       refine bodyPost_ret (results_none rfl _ _ _) rfl ?_
       exact ⟨⟨_,rfl⟩,.inl ⟨_,HE.out,HJ4.out⟩⟩
      ·have D:decide ((24:Int)<(m:Int) - (k:Int))=false:=by rw [decide_eq_false_iff_not];omega
       have HTK:=Lib.hid (tk_tok (n:=m - k) (k:=1) (t:=s.extract k m) hlt (by omega) (by rw [scan_name hlt CE.out.symm HSN.out,if_neg h24]))
       rw [show k+(m - k)=m by omega] at HTK
       have HFB:=HF3
       have BB:=B3
       obtain ⟨x,hx,hfx,hnx,hjl⟩:=next_tok (HT.out.trans HTK.out)
       have HTT:=Lib.hid (take_snoc' hx)
       have HNX:=Lib.hid hnx
       have hlen:(S.take j).length=j:=by rw [List.length_take];omega
       have HJ3:=Lib.hid (hJ _ _ _ none HJ.out (grown_none BB) (fun r e=>by cases e))
       have hs3:=Nat.le_trans hsk BB.size
       obtain ⟨fn,tmps,assign,body,hy',hR⟩:=hY (S.take j) x W3 HJ3.out (by omega)
       rw [hfx] at hy'
       have hy9:(Instr.yield l #[.agg #[.int .i64 1,.string (s.extract k m),.int .i64 k,.int .i64 0]]).run Tryz.prog W3=.ok (.round l fn tmps assign body) W3:=hy'
       have HPRE:=Lib.hid (show S.take j++[x] <+: S by rw [←HTT.out];exact List.take_prefix _ _)
       have HR:=Lib.hid hR
       have HI3:=Lib.hid (HI.out.low BB)
       clear hR hx hfx hnx hy' BB
       obtain ⟨gz,g0,g1,g2,g3⟩:=rk4 HFB.out
       gi_wp2
       try (rw [hy9];gi_wp2)
       refine HR.out.mono ?_
       rintro e W4 (⟨rfl,hJ4,hk4⟩ | ⟨rfl,hJx4⟩)
       case inr =>
        gi_wp2
        rw [Exit.noGoto_ret]
        refine bodyPost_ret (results_none rfl _ _ _) rfl ?_
        exact ⟨⟨_,rfl⟩,.inr ⟨_,HPRE.out,hJx4⟩⟩
       have HI4:=Lib.hid (HI3.out.kept hk4)
       have HFB4:=Lib.hid (hk4.2 _ _ _ HFB.out (.inr (.inr (.inr rfl))))
       have hs4:=Nat.le_trans hs3 hk4.1
       have HJ4:=Lib.hid hJ4
       clear hJ4 hk4
       obtain ⟨qz,q0,q1,q2,q3⟩:=rk4 HFB4.out
       gi_wp2
       go_roundw
       case rel=>exact ⟨m,j+1,by omega,by go_num,hjl,HNX.out,by rw [HTT.out];exact HJ4.out,HI4.out,hs4⟩
       case measure=>simp [intOf];omega
   ·gi_loop [4] (fun i=>∃m:Nat,i=.int .i64 m∧SpI digitC s k m) (fun i=>s.size - (intOf i).toNat)
    case atStart=>exact ⟨k,rfl,SpI.start (by omega)⟩
    case round =>
     obtain ⟨m,rfl,hsp⟩:=hrel
     have HSP:=Lib.hid hsp
     obtain ⟨hm1,hm2,-⟩:=hsp
     obtain ⟨v,hv⟩:∃v,clAt s m=v:=⟨_,rfl⟩
     have HV:=Lib.hid hv
     have A2:=Lib.hid (AA.out m W2 IA.out)
     rw [hv] at A2
     clear hv
     by_cases hw:v=4
     ·have HW:=Lib.hid (cl_digit (s:=s) (m:=m) (by rw [HV.out];exact hw))
      have hml:m<s.size:=HW.out.1
      have HS2:=Lib.hid (HSP.out.step HW.out.1 HW.out.2)
      subst hw
      gi_wp2_with (refine ⟨trivial,?_⟩;gi_at_call 68;refine (callsIn_wide.2 A2.out).mono ?_;rintro e w' ⟨rfl,hww⟩;subst w')
      go_round
      case rel=>exact ⟨m+1,by go_num,HS2.out⟩
      case measure=>simp [intOf];omega
     ·have e4:(v==4)=false:=by rw [beq_eq_false_iff_ne];exact hw
      have hno:∀hm:m<s.size,digitC s[m]=false:=fun hm=>cl_ndigit (s:=s) (m:=m) (by rw [HV.out];exact hw) hm
      have hkm:=HSP.out.gt hlt (by rw [digit_cl,←CE.out];rfl) hno
      have HSN:=Lib.hid (HSP.out.stop hno)
      have HSC:=Lib.hid (scan_num hlt (by omega) CE.out.symm HSN.out)
      rw [HV.out] at HSC
      clear hno
      obtain ⟨gz,g0,g1,g2,g3⟩:=rk4 HFN.out
      have gf0:=frozen_of_row W2 _ 0 _ _ HFN.out
      have gf1:=frozen_of_row W2 _ 1 _ _ HFN.out
      have gf2:=frozen_of_row W2 _ 2 _ _ HFN.out
      have gf3:=frozen_of_row W2 _ 3 _ _ HFN.out
      gi_wp2_with (refine ⟨trivial,?_⟩;gi_at_call 68;refine (callsIn_wide.2 A2.out).mono ?_;rintro e w' ⟨rfl,hww⟩;subst w')
      gi_region
      generalize hW3:(((W2.setCell ⟨wr.heap.size,0,none⟩ (.int .i64 2)).setCell ⟨wr.heap.size,1,none⟩ (.string (s.extract k m))).setCell ⟨wr.heap.size,3,none⟩ (.int .i64 0)).drew=W3
      have HF3:=Lib.hid (show W3.heap[wr.heap.size]?=some (.cells #[.int .i64 2,.string (s.extract k m),.int .i64 k,.int .i64 0] 88 (0,0)) by rw [←hW3];exact stF_row 2 (s.extract k m) 0 HFN.out)
      have B3:Below wr.heap.size wr W3:=by rw [←hW3];exact (stF_below BA (Nat.le_refl _) 2 (s.extract k m) 0).drew
      have A3:=Lib.hid (AA.out m W3 (HI.out.low B3))
      rw [HV.out] at A3
      have f3:W3.cell? ⟨Bf,0,none⟩=some (.func (.func 68) #[] #[.pointer (some ⟨Bt,0,none⟩),.pointer (some ⟨Bc,0,none⟩)]):=by rw [cell_of_row W3 _ 0 _ _ _ (HI.out.low B3).f];rfl
      have jw:IntKind.i64.wrap ((m:Int) - (k:Int))=(m:Int) - (k:Int):=IntWalk.i64_in _ (by omega)
      clear hW3 g0 g1 g2 g3 gf0 gf1 gf2 gf3 A2
      by_cases h7:7<m - k
      ·have D:decide ((7:Int)<(m:Int) - (k:Int))=true:=by rw [decide_eq_true_eq];omega
       have HTK:=Lib.hid (tk_err (n:=m - k) (e:=4) (k:=2) (t:=s.extract k m) hlt (by decide) (by rw [HSC.out,if_pos (.inl h7)]))
       obtain ⟨gz,g0,g1,g2,g3⟩:=rk4 HF3.out
       have gf0:=frozen_of_row W3 _ 0 _ _ HF3.out
       have gf1:=frozen_of_row W3 _ 1 _ _ HF3.out
       have gf2:=frozen_of_row W3 _ 2 _ _ HF3.out
       have gf3:=frozen_of_row W3 _ 3 _ _ HF3.out
       gi_wp2_with (refine ⟨trivial,?_⟩;refine (callsIn_wide.2 A3.out).mono ?_;rintro e w' ⟨rfl,hww⟩;subst w')
       generalize hW5:W3.setCell ⟨wr.heap.size,3,none⟩ (.int .i64 4)=W5
       have HFB:=Lib.hid (show W5.heap[wr.heap.size]?=some (.cells #[.int .i64 2,.string (s.extract k m),.int .i64 k,.int .i64 4] 88 (0,0)) by rw [←hW5];exact er_row 4 HF3.out)
       have BB:Below wr.heap.size wr W5:=by rw [←hW5];exact B3.setCell (Nat.le_refl _) _
       clear hW5 g0 g1 g2 g3 gf0 gf1 gf2 gf3
       obtain ⟨x,hx,hfx,hnx,hjl⟩:=next_tok (HT.out.trans HTK.out)
       have HTT:=Lib.hid (take_snoc' hx)
       have HNX:=Lib.hid hnx
       have hlen:(S.take j).length=j:=by rw [List.length_take];omega
       have HJ3:=Lib.hid (hJ _ _ _ none HJ.out (grown_none BB) (fun r e=>by cases e))
       have hs3:=Nat.le_trans hsk BB.size
       obtain ⟨fn,tmps,assign,body,hy',hR⟩:=hY (S.take j) x W5 HJ3.out (by omega)
       rw [hfx] at hy'
       have hy9:(Instr.yield l #[.agg #[.int .i64 2,.string (s.extract k m),.int .i64 k,.int .i64 4]]).run Tryz.prog W5=.ok (.round l fn tmps assign body) W5:=hy'
       have HPRE:=Lib.hid (show S.take j++[x] <+: S by rw [←HTT.out];exact List.take_prefix _ _)
       have HR:=Lib.hid hR
       have HI3:=Lib.hid (HI.out.low BB)
       clear hR hx hfx hnx hy' BB
       obtain ⟨gz,g0,g1,g2,g3⟩:=rk4 HFB.out
       have HE:=Lib.hid (show S.take j++[x]=S by
        have h2:S.drop (j+1)=[]:=List.map_eq_nil_iff.1 HNX.out
        rw [←HTT.out]
        conv=>rhs;rw [←List.take_append_drop (j+1) S,h2,List.append_nil])
       gi_wp2
       try (rw [hy9];gi_wp2)
       refine HR.out.mono ?_
       rintro e W4 (⟨rfl,hJ4,hk4⟩ | ⟨rfl,hJx4⟩)
       case inr =>
        gi_wp2
        rw [Exit.noGoto_ret]
        refine bodyPost_ret (results_none rfl _ _ _) rfl ?_
        exact ⟨⟨_,rfl⟩,.inr ⟨_,HPRE.out,hJx4⟩⟩
       have HI4:=Lib.hid (HI3.out.kept hk4)
       have HFB4:=Lib.hid (hk4.2 _ _ _ HFB.out (.inr (.inr (.inr rfl))))
       have hs4:=Nat.le_trans hs3 hk4.1
       have HJ4:=Lib.hid hJ4
       clear hJ4 hk4
       obtain ⟨qz,q0,q1,q2,q3⟩:=rk4 HFB4.out
       gi_wp2
       rw [Exit.noGoto_ret]
       refine bodyPost_ret (results_none rfl _ _ _) rfl ?_
       exact ⟨⟨_,rfl⟩,.inl ⟨_,HE.out,HJ4.out⟩⟩
      have D:decide ((7:Int)<(m:Int) - (k:Int))=false:=by rw [decide_eq_false_iff_not];omega
      by_cases h3:v=3
      ·subst h3
       have HTK:=Lib.hid (tk_err (n:=m - k) (e:=4) (k:=2) (t:=s.extract k m) hlt (by decide) (by rw [HSC.out,if_pos (.inr (.inl rfl))]))
       obtain ⟨gz,g0,g1,g2,g3⟩:=rk4 HF3.out
       have gf0:=frozen_of_row W3 _ 0 _ _ HF3.out
       have gf1:=frozen_of_row W3 _ 1 _ _ HF3.out
       have gf2:=frozen_of_row W3 _ 2 _ _ HF3.out
       have gf3:=frozen_of_row W3 _ 3 _ _ HF3.out
       gi_wp2_with (refine ⟨trivial,?_⟩;refine (callsIn_wide.2 A3.out).mono ?_;rintro e w' ⟨rfl,hww⟩;subst w')
       generalize hW5:W3.setCell ⟨wr.heap.size,3,none⟩ (.int .i64 4)=W5
       have HFB:=Lib.hid (show W5.heap[wr.heap.size]?=some (.cells #[.int .i64 2,.string (s.extract k m),.int .i64 k,.int .i64 4] 88 (0,0)) by rw [←hW5];exact er_row 4 HF3.out)
       have BB:Below wr.heap.size wr W5:=by rw [←hW5];exact B3.setCell (Nat.le_refl _) _
       clear hW5 g0 g1 g2 g3 gf0 gf1 gf2 gf3
       obtain ⟨x,hx,hfx,hnx,hjl⟩:=next_tok (HT.out.trans HTK.out)
       have HTT:=Lib.hid (take_snoc' hx)
       have HNX:=Lib.hid hnx
       have hlen:(S.take j).length=j:=by rw [List.length_take];omega
       have HJ3:=Lib.hid (hJ _ _ _ none HJ.out (grown_none BB) (fun r e=>by cases e))
       have hs3:=Nat.le_trans hsk BB.size
       obtain ⟨fn,tmps,assign,body,hy',hR⟩:=hY (S.take j) x W5 HJ3.out (by omega)
       rw [hfx] at hy'
       have hy9:(Instr.yield l #[.agg #[.int .i64 2,.string (s.extract k m),.int .i64 k,.int .i64 4]]).run Tryz.prog W5=.ok (.round l fn tmps assign body) W5:=hy'
       have HPRE:=Lib.hid (show S.take j++[x] <+: S by rw [←HTT.out];exact List.take_prefix _ _)
       have HR:=Lib.hid hR
       have HI3:=Lib.hid (HI.out.low BB)
       clear hR hx hfx hnx hy' BB
       obtain ⟨gz,g0,g1,g2,g3⟩:=rk4 HFB.out
       have HE:=Lib.hid (show S.take j++[x]=S by
        have h2:S.drop (j+1)=[]:=List.map_eq_nil_iff.1 HNX.out
        rw [←HTT.out]
        conv=>rhs;rw [←List.take_append_drop (j+1) S,h2,List.append_nil])
       gi_wp2
       try (rw [hy9];gi_wp2)
       refine HR.out.mono ?_
       rintro e W4 (⟨rfl,hJ4,hk4⟩ | ⟨rfl,hJx4⟩)
       case inr =>
        gi_wp2
        rw [Exit.noGoto_ret]
        refine bodyPost_ret (results_none rfl _ _ _) rfl ?_
        exact ⟨⟨_,rfl⟩,.inr ⟨_,HPRE.out,hJx4⟩⟩
       have HI4:=Lib.hid (HI3.out.kept hk4)
       have HFB4:=Lib.hid (hk4.2 _ _ _ HFB.out (.inr (.inr (.inr rfl))))
       have hs4:=Nat.le_trans hs3 hk4.1
       have HJ4:=Lib.hid hJ4
       clear hJ4 hk4
       obtain ⟨qz,q0,q1,q2,q3⟩:=rk4 HFB4.out
       gi_wp2
       rw [Exit.noGoto_ret]
       refine bodyPost_ret (results_none rfl _ _ _) rfl ?_
       exact ⟨⟨_,rfl⟩,.inl ⟨_,HE.out,HJ4.out⟩⟩
      by_cases h5:v=5
      ·subst h5
       have HTK:=Lib.hid (tk_err (n:=m - k) (e:=4) (k:=2) (t:=s.extract k m) hlt (by decide) (by rw [HSC.out,if_pos (.inr (.inr rfl))]))
       obtain ⟨gz,g0,g1,g2,g3⟩:=rk4 HF3.out
       have gf0:=frozen_of_row W3 _ 0 _ _ HF3.out
       have gf1:=frozen_of_row W3 _ 1 _ _ HF3.out
       have gf2:=frozen_of_row W3 _ 2 _ _ HF3.out
       have gf3:=frozen_of_row W3 _ 3 _ _ HF3.out
       gi_wp2_with (refine ⟨trivial,?_⟩;refine (callsIn_wide.2 A3.out).mono ?_;rintro e w' ⟨rfl,hww⟩;subst w')
       generalize hW5:W3.setCell ⟨wr.heap.size,3,none⟩ (.int .i64 4)=W5
       have HFB:=Lib.hid (show W5.heap[wr.heap.size]?=some (.cells #[.int .i64 2,.string (s.extract k m),.int .i64 k,.int .i64 4] 88 (0,0)) by rw [←hW5];exact er_row 4 HF3.out)
       have BB:Below wr.heap.size wr W5:=by rw [←hW5];exact B3.setCell (Nat.le_refl _) _
       clear hW5 g0 g1 g2 g3 gf0 gf1 gf2 gf3
       obtain ⟨x,hx,hfx,hnx,hjl⟩:=next_tok (HT.out.trans HTK.out)
       have HTT:=Lib.hid (take_snoc' hx)
       have HNX:=Lib.hid hnx
       have hlen:(S.take j).length=j:=by rw [List.length_take];omega
       have HJ3:=Lib.hid (hJ _ _ _ none HJ.out (grown_none BB) (fun r e=>by cases e))
       have hs3:=Nat.le_trans hsk BB.size
       obtain ⟨fn,tmps,assign,body,hy',hR⟩:=hY (S.take j) x W5 HJ3.out (by omega)
       rw [hfx] at hy'
       have hy9:(Instr.yield l #[.agg #[.int .i64 2,.string (s.extract k m),.int .i64 k,.int .i64 4]]).run Tryz.prog W5=.ok (.round l fn tmps assign body) W5:=hy'
       have HPRE:=Lib.hid (show S.take j++[x] <+: S by rw [←HTT.out];exact List.take_prefix _ _)
       have HR:=Lib.hid hR
       have HI3:=Lib.hid (HI.out.low BB)
       clear hR hx hfx hnx hy' BB
       obtain ⟨gz,g0,g1,g2,g3⟩:=rk4 HFB.out
       have HE:=Lib.hid (show S.take j++[x]=S by
        have h2:S.drop (j+1)=[]:=List.map_eq_nil_iff.1 HNX.out
        rw [←HTT.out]
        conv=>rhs;rw [←List.take_append_drop (j+1) S,h2,List.append_nil])
       gi_wp2
       try (rw [hy9];gi_wp2)
       refine HR.out.mono ?_
       rintro e W4 (⟨rfl,hJ4,hk4⟩ | ⟨rfl,hJx4⟩)
       case inr =>
        gi_wp2
        rw [Exit.noGoto_ret]
        refine bodyPost_ret (results_none rfl _ _ _) rfl ?_
        exact ⟨⟨_,rfl⟩,.inr ⟨_,HPRE.out,hJx4⟩⟩
       have HI4:=Lib.hid (HI3.out.kept hk4)
       have HFB4:=Lib.hid (hk4.2 _ _ _ HFB.out (.inr (.inr (.inr rfl))))
       have hs4:=Nat.le_trans hs3 hk4.1
       have HJ4:=Lib.hid hJ4
       clear hJ4 hk4
       obtain ⟨qz,q0,q1,q2,q3⟩:=rk4 HFB4.out
       gi_wp2
       rw [Exit.noGoto_ret]
       refine bodyPost_ret (results_none rfl _ _ _) rfl ?_
       exact ⟨⟨_,rfl⟩,.inl ⟨_,HE.out,HJ4.out⟩⟩
      have e3:(v==3)=false:=by rw [beq_eq_false_iff_ne];exact h3
      have e5:(v==5)=false:=by rw [beq_eq_false_iff_ne];exact h5
      have HTK:=Lib.hid (tk_tok (n:=m - k) (k:=2) (t:=s.extract k m) hlt (by omega) (by rw [HSC.out,if_neg (by omega)]))
      rw [show k+(m - k)=m by omega] at HTK
      have HFB:=HF3
      have BB:=B3
      obtain ⟨x,hx,hfx,hnx,hjl⟩:=next_tok (HT.out.trans HTK.out)
      have HTT:=Lib.hid (take_snoc' hx)
      have HNX:=Lib.hid hnx
      have hlen:(S.take j).length=j:=by rw [List.length_take];omega
      have HJ3:=Lib.hid (hJ _ _ _ none HJ.out (grown_none BB) (fun r e=>by cases e))
      have hs3:=Nat.le_trans hsk BB.size
      obtain ⟨fn,tmps,assign,body,hy',hR⟩:=hY (S.take j) x W3 HJ3.out (by omega)
      rw [hfx] at hy'
      have hy9:(Instr.yield l #[.agg #[.int .i64 2,.string (s.extract k m),.int .i64 k,.int .i64 0]]).run Tryz.prog W3=.ok (.round l fn tmps assign body) W3:=hy'
      have HPRE:=Lib.hid (show S.take j++[x] <+: S by rw [←HTT.out];exact List.take_prefix _ _)
      have HR:=Lib.hid hR
      have HI3:=Lib.hid (HI.out.low BB)
      clear hR hx hfx hnx hy' BB
      obtain ⟨gz,g0,g1,g2,g3⟩:=rk4 HFB.out
      gi_wp2_with (refine ⟨trivial,?_⟩;refine (callsIn_wide.2 A3.out).mono ?_;rintro e w' ⟨rfl,hww⟩;subst w')
      gi_wp2
      try (rw [hy9];gi_wp2)
      refine HR.out.mono ?_
      rintro e W4 (⟨rfl,hJ4,hk4⟩ | ⟨rfl,hJx4⟩)
      case inr =>
       gi_wp2
       rw [Exit.noGoto_ret]
       refine bodyPost_ret (results_none rfl _ _ _) rfl ?_
       exact ⟨⟨_,rfl⟩,.inr ⟨_,HPRE.out,hJx4⟩⟩
      have HI4:=Lib.hid (HI3.out.kept hk4)
      have HFB4:=Lib.hid (hk4.2 _ _ _ HFB.out (.inr (.inr (.inr rfl))))
      have hs4:=Nat.le_trans hs3 hk4.1
      have HJ4:=Lib.hid hJ4
      clear hJ4 hk4
      obtain ⟨qz,q0,q1,q2,q3⟩:=rk4 HFB4.out
      gi_wp2
      go_roundw
      case rel=>exact ⟨m,j+1,by omega,by go_num,hjl,HNX.out,by rw [HTT.out];exact HJ4.out,HI4.out,hs4⟩
      case measure=>simp [intOf];omega
   ·have HTK:=Lib.hid (tk_err (n:=0) (e:=3) (k:=0) (t:=⟨#[]⟩) hlt (by decide) (by rw [drop_at s k hlt];exact scan_other _ (.inr CE.out.symm)))
    have BB:=BA
    have HFB:=HFN
    obtain ⟨x,hx,hfx,hnx,hjl⟩:=next_tok (HT.out.trans HTK.out)
    have HTT:=Lib.hid (take_snoc' hx)
    have HNX:=Lib.hid hnx
    have hlen:(S.take j).length=j:=by rw [List.length_take];omega
    have HJ3:=Lib.hid (hJ _ _ _ none HJ.out (grown_none BB) (fun r e=>by cases e))
    have hs3:=Nat.le_trans hsk BB.size
    obtain ⟨fn,tmps,assign,body,hy',hR⟩:=hY (S.take j) x W2 HJ3.out (by omega)
    rw [hfx] at hy'
    have hy9:(Instr.yield l #[.agg #[.int .i64 0,.string ⟨#[]⟩,.int .i64 k,.int .i64 3]]).run Tryz.prog W2=.ok (.round l fn tmps assign body) W2:=hy'
    have HPRE:=Lib.hid (show S.take j++[x] <+: S by rw [←HTT.out];exact List.take_prefix _ _)
    have HR:=Lib.hid hR
    have HI3:=Lib.hid (HI.out.low BB)
    clear hR hx hfx hnx hy' BB
    obtain ⟨gz,g0,g1,g2,g3⟩:=rk4 HFB.out
    have HE:=Lib.hid (show S.take j++[x]=S by
     have h2:S.drop (j+1)=[]:=List.map_eq_nil_iff.1 HNX.out
     rw [←HTT.out]
     conv=>rhs;rw [←List.take_append_drop (j+1) S,h2,List.append_nil])
    gi_wp2
    try (rw [hy9];gi_wp2)
    refine HR.out.mono ?_
    rintro e W4 (⟨rfl,hJ4,hk4⟩ | ⟨rfl,hJx4⟩)
    case inr =>
     gi_wp2
     rw [Exit.noGoto_ret]
     refine bodyPost_ret (results_none rfl _ _ _) rfl ?_
     exact ⟨⟨_,rfl⟩,.inr ⟨_,HPRE.out,hJx4⟩⟩
    have HI4:=Lib.hid (HI3.out.kept hk4)
    have HFB4:=Lib.hid (hk4.2 _ _ _ HFB.out (.inr (.inr (.inr rfl))))
    have hs4:=Nat.le_trans hs3 hk4.1
    have HJ4:=Lib.hid hJ4
    clear hJ4 hk4
    obtain ⟨qz,q0,q1,q2,q3⟩:=rk4 HFB4.out
    gi_wp2
    rw [Exit.noGoto_ret]
    refine bodyPost_ret (results_none rfl _ _ _) rfl ?_
    exact ⟨⟨_,rfl⟩,.inl ⟨_,HE.out,HJ4.out⟩⟩
   ·have HTK:=Lib.hid (tk_tok hlt (by omega) (scan_symE hlt CE.out.symm))
    have jw:IntKind.i64.wrap ((k:Int)+1)=(k:Int)+1:=IntWalk.i64_in _ (by omega)
    obtain ⟨gz,g0,g1,g2,g3⟩:=rk4 HFN.out
    have gf0:=frozen_of_row W2 _ 0 _ _ HFN.out
    have gf1:=frozen_of_row W2 _ 1 _ _ HFN.out
    have gf2:=frozen_of_row W2 _ 2 _ _ HFN.out
    have gf3:=frozen_of_row W2 _ 3 _ _ HFN.out
    gi_wp2
    gi_region
    generalize hW3:(((W2.setCell ⟨wr.heap.size,0,none⟩ (.int .i64 4)).setCell ⟨wr.heap.size,1,none⟩ (.string (s.extract k (k+1)))).setCell ⟨wr.heap.size,3,none⟩ (.int .i64 0)).drew=W3
    have HFB:=Lib.hid (show W3.heap[wr.heap.size]?=some (.cells #[.int .i64 4,.string (s.extract k (k+1)),.int .i64 k,.int .i64 0] 88 (0,0)) by rw [←hW3];exact stF_row 4 (s.extract k (k+1)) 0 HFN.out)
    have BB:Below wr.heap.size wr W3:=by rw [←hW3];exact (stF_below BA (Nat.le_refl _) 4 (s.extract k (k+1)) 0).drew
    clear hW3 g0 g1 g2 g3 gf0 gf1 gf2 gf3
    obtain ⟨x,hx,hfx,hnx,hjl⟩:=next_tok (HT.out.trans HTK.out)
    have HTT:=Lib.hid (take_snoc' hx)
    have HNX:=Lib.hid hnx
    have hlen:(S.take j).length=j:=by rw [List.length_take];omega
    have HJ3:=Lib.hid (hJ _ _ _ none HJ.out (grown_none BB) (fun r e=>by cases e))
    have hs3:=Nat.le_trans hsk BB.size
    obtain ⟨fn,tmps,assign,body,hy',hR⟩:=hY (S.take j) x W3 HJ3.out (by omega)
    rw [hfx] at hy'
    have hy9:(Instr.yield l #[.agg #[.int .i64 4,.string (s.extract k (k+1)),.int .i64 k,.int .i64 0]]).run Tryz.prog W3=.ok (.round l fn tmps assign body) W3:=hy'
    have HPRE:=Lib.hid (show S.take j++[x] <+: S by rw [←HTT.out];exact List.take_prefix _ _)
    have HR:=Lib.hid hR
    have HI3:=Lib.hid (HI.out.low BB)
    clear hR hx hfx hnx hy' BB
    obtain ⟨gz,g0,g1,g2,g3⟩:=rk4 HFB.out
    gi_wp2
    try (rw [hy9];gi_wp2)
    refine HR.out.mono ?_
    rintro e W4 (⟨rfl,hJ4,hk4⟩ | ⟨rfl,hJx4⟩)
    case inr =>
     gi_wp2
     rw [Exit.noGoto_ret]
     refine bodyPost_ret (results_none rfl _ _ _) rfl ?_
     exact ⟨⟨_,rfl⟩,.inr ⟨_,HPRE.out,hJx4⟩⟩
    have HI4:=Lib.hid (HI3.out.kept hk4)
    have HFB4:=Lib.hid (hk4.2 _ _ _ HFB.out (.inr (.inr (.inr rfl))))
    have hs4:=Nat.le_trans hs3 hk4.1
    have HJ4:=Lib.hid hJ4
    clear hJ4 hk4
    obtain ⟨qz,q0,q1,q2,q3⟩:=rk4 HFB4.out
    gi_wp2
    go_roundw
    case rel=>exact ⟨k+1,j+1,by omega,by go_num,hjl,HNX.out,by rw [HTT.out];exact HJ4.out,HI4.out,hs4⟩
    case measure=>simp [intOf];omega
   ·have UQ:=Lib.hid (unquoted_any (s.extract k s.size) (by rw [size_tail];omega) (by rw [size_tail];omega) W2)
    cases hu:unqL ((lstB s).drop (k+1)) with
    |none =>
     rw [unqV_none hu] at UQ
     have HTK:=Lib.hid (tk_err (n:=0) (e:=3) (k:=0) (t:=⟨#[]⟩) hlt (by decide) (by rw [drop_at s k hlt];exact scan_open CE.out.symm hu))
     have jw:IntKind.i64.wrap ((k:Int)+0)=(k:Int):=(IntWalk.i64_in _ (by omega)).trans (by omega)
     clear hu
     gi_wp2
     refine ⟨trivial,(callsIn_wide.2 UQ.out).mono ?_⟩
     rintro e W3 ⟨rfl,hbq⟩
     have BB:=below_step BA (Nat.le_refl _) hbq
     have HFB:=Lib.hid (row_later hbq HFN.out)
     clear hbq
     obtain ⟨x,hx,hfx,hnx,hjl⟩:=next_tok (HT.out.trans HTK.out)
     have HTT:=Lib.hid (take_snoc' hx)
     have HNX:=Lib.hid hnx
     have hlen:(S.take j).length=j:=by rw [List.length_take];omega
     have HJ3:=Lib.hid (hJ _ _ _ none HJ.out (grown_none BB) (fun r e=>by cases e))
     have hs3:=Nat.le_trans hsk BB.size
     obtain ⟨fn,tmps,assign,body,hy',hR⟩:=hY (S.take j) x W3 HJ3.out (by omega)
     rw [hfx] at hy'
     have hy9:(Instr.yield l #[.agg #[.int .i64 0,.string ⟨#[]⟩,.int .i64 k,.int .i64 3]]).run Tryz.prog W3=.ok (.round l fn tmps assign body) W3:=hy'
     have HPRE:=Lib.hid (show S.take j++[x] <+: S by rw [←HTT.out];exact List.take_prefix _ _)
     have HR:=Lib.hid hR
     have HI3:=Lib.hid (HI.out.low BB)
     clear hR hx hfx hnx hy' BB
     obtain ⟨gz,g0,g1,g2,g3⟩:=rk4 HFB.out
     have HE:=Lib.hid (show S.take j++[x]=S by
      have h2:S.drop (j+1)=[]:=List.map_eq_nil_iff.1 HNX.out
      rw [←HTT.out]
      conv=>rhs;rw [←List.take_append_drop (j+1) S,h2,List.append_nil])
     gi_wp2
     try (rw [hy9];gi_wp2)
     refine HR.out.mono ?_
     rintro e W4 (⟨rfl,hJ4,hk4⟩ | ⟨rfl,hJx4⟩)
     case inr =>
      gi_wp2
      rw [Exit.noGoto_ret]
      refine bodyPost_ret (results_none rfl _ _ _) rfl ?_
      exact ⟨⟨_,rfl⟩,.inr ⟨_,HPRE.out,hJx4⟩⟩
     have HI4:=Lib.hid (HI3.out.kept hk4)
     have HFB4:=Lib.hid (hk4.2 _ _ _ HFB.out (.inr (.inr (.inr rfl))))
     have hs4:=Nat.le_trans hs3 hk4.1
     have HJ4:=Lib.hid hJ4
     clear hJ4 hk4
     obtain ⟨qz,q0,q1,q2,q3⟩:=rk4 HFB4.out
     gi_wp2
     rw [Exit.noGoto_ret]
     refine bodyPost_ret (results_none rfl _ _ _) rfl ?_
     exact ⟨⟨_,rfl⟩,.inl ⟨_,HE.out,HJ4.out⟩⟩
    |some tn =>
     obtain ⟨tx,nq⟩:=tn
     have hln:=unq_len _ _ _ _ (Nat.le_refl _) hu
     rw [List.length_drop,lstB_len] at hln
     rw [unqV_some hu] at UQ
     have HTK:=Lib.hid (tk_tok (n:=nq+1) hlt (by omega) (by rw [drop_at s k hlt];exact scan_quote CE.out.symm hu))
     have jw:IntKind.i64.wrap ((k:Int)+((nq:Int)+1))=(k:Int)+((nq:Int)+1):=IntWalk.i64_in _ (by omega)
     have D:decide ((0:Int)<(nq:Int)+1)=true:=by rw [decide_eq_true_eq];omega
     have D2:decide (0<nq+1)=true:=by rw [decide_eq_true_eq];omega
     clear hu
     gi_wp2
     refine ⟨trivial,(callsIn_wide.2 UQ.out).mono ?_⟩
     rintro e W3 ⟨rfl,hbq⟩
     have B3:=below_step BA (Nat.le_refl _) hbq
     have HF3:=Lib.hid (row_later hbq HFN.out)
     clear hbq
     obtain ⟨gz,g0,g1,g2,g3⟩:=rk4 HF3.out
     have gf0:=frozen_of_row W3 _ 0 _ _ HF3.out
     have gf1:=frozen_of_row W3 _ 1 _ _ HF3.out
     have gf2:=frozen_of_row W3 _ 2 _ _ HF3.out
     have gf3:=frozen_of_row W3 _ 3 _ _ HF3.out
     gi_wp2
     generalize hW5:((W3.setCell ⟨wr.heap.size,0,none⟩ (.int .i64 3)).setCell ⟨wr.heap.size,1,none⟩ (.string (bytesOf tx))).setCell ⟨wr.heap.size,3,none⟩ (.int .i64 0)=W5
     have HFB:=Lib.hid (show W5.heap[wr.heap.size]?=some (.cells #[.int .i64 3,.string (bytesOf tx),.int .i64 k,.int .i64 0] 88 (0,0)) by rw [←hW5];exact stF_row 3 (bytesOf tx) 0 HF3.out)
     have BB:Below wr.heap.size wr W5:=by rw [←hW5];exact stF_below B3 (Nat.le_refl _) 3 (bytesOf tx) 0
     clear hW5 g0 g1 g2 g3 gf0 gf1 gf2 gf3
     obtain ⟨x,hx,hfx,hnx,hjl⟩:=next_tok (HT.out.trans HTK.out)
     have HTT:=Lib.hid (take_snoc' hx)
     have HNX:=Lib.hid hnx
     have hlen:(S.take j).length=j:=by rw [List.length_take];omega
     have HJ3:=Lib.hid (hJ _ _ _ none HJ.out (grown_none BB) (fun r e=>by cases e))
     have hs3:=Nat.le_trans hsk BB.size
     obtain ⟨fn,tmps,assign,body,hy',hR⟩:=hY (S.take j) x W5 HJ3.out (by omega)
     rw [hfx] at hy'
     have hy9:(Instr.yield l #[.agg #[.int .i64 3,.string (bytesOf tx),.int .i64 k,.int .i64 0]]).run Tryz.prog W5=.ok (.round l fn tmps assign body) W5:=hy'
     have HPRE:=Lib.hid (show S.take j++[x] <+: S by rw [←HTT.out];exact List.take_prefix _ _)
     have HR:=Lib.hid hR
     have HI3:=Lib.hid (HI.out.low BB)
     clear hR hx hfx hnx hy' BB
     obtain ⟨gz,g0,g1,g2,g3⟩:=rk4 HFB.out
     gi_wp2
     try (rw [hy9];gi_wp2)
     refine HR.out.mono ?_
     rintro e W4 (⟨rfl,hJ4,hk4⟩ | ⟨rfl,hJx4⟩)
     case inr =>
      gi_wp2
      rw [Exit.noGoto_ret]
      refine bodyPost_ret (results_none rfl _ _ _) rfl ?_
      exact ⟨⟨_,rfl⟩,.inr ⟨_,HPRE.out,hJx4⟩⟩
     have HI4:=Lib.hid (HI3.out.kept hk4)
     have HFB4:=Lib.hid (hk4.2 _ _ _ HFB.out (.inr (.inr (.inr rfl))))
     have hs4:=Nat.le_trans hs3 hk4.1
     have HJ4:=Lib.hid hJ4
     clear hJ4 hk4
     obtain ⟨qz,q0,q1,q2,q3⟩:=rk4 HFB4.out
     gi_wp2
     go_roundw
     case rel=>exact ⟨k+(nq+1),j+1,by omega,by go_num,hjl,HNX.out,by rw [HTT.out];exact HJ4.out,HI4.out,hs4⟩
     case measure=>simp [intOf];omega
  ·obtain rfl:k=s.size:=by omega
   have HE:=Lib.hid (show S=S.take j by
    have h1:=HT.out
    rw [tk_end (Nat.le_refl _)] at h1
    have h2:S.drop j=[]:=List.map_eq_nil_iff.1 h1
    conv=>lhs;rw [←List.take_append_drop j S,h2,List.append_nil])
   obtain ⟨tz,t0⟩:=rk1 HB.out
   gi_wp2
   go_end0
   exact ⟨⟨_,rfl⟩,.inl ⟨_,HE.out.symm,HJ.out⟩⟩
theorem toks_stops {α:Type} (f:α→FndD) (n:Nat) (hn:1≤n) (Bt Bc Bf:Nat) (s:ByteArray) (hs:s.size≤20000) (S:List α) (hS:S.map f=tkF s 0) (w0:World) (hI:LxI Bt Bc Bf s w0) :
  SeqStopsK Fence.wide n Tryz.prog 69 #[.pointer (some ⟨Bt,0,none⟩),.pointer (some ⟨Bf,0,none⟩)] (fun x=>encF (f x)) KpL (fun ys=>ys=S) (fun pre=>pre <+: S) S.length w0:=fun l J Jx W hW hJ _ hY h0 =>
 toks1_any f n hn l Bt Bc Bf s hs S hS J Jx W hJ hY (hI.low hW) h0
end Go.Proofs.YtdfenhjibnfdeaaGreatDoor
