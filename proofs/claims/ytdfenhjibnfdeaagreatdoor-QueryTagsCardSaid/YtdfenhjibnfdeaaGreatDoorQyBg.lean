/-  -/
import Derived.Test.YtdfenhjibnfdeaaGreatDoorQyAl
import Derived.Test.YtdfenhjibnfdeaaGreatDoorQyBf
import Derived.Test.YtdfenhjibnfdeaaGreatDoorQyAm
namespace Go.Proofs.YtdfenhjibnfdeaaGreatDoor
open Go.RowKit Go.Shelf
theorem infoTagW:(Tryz.prog.info? 58).map (fun i=>(i.zero,i.size,i.bytes))=some (some (.agg #[.string ⟨#[]⟩,.string ⟨#[]⟩]),2,32):=by kernel_rfl
def encT (t:TagD):List Value:=[.string t.key,.string t.val]
theorem encT_at (T:List TagD):∀(i:Nat) (t:TagD),T[i]?=some t→(T.flatMap encT)[i * 2]?=some (.string t.key)∧(T.flatMap encT)[i * 2+1]?=some (.string t.val):=by
 induction T with
 |nil=>intro i t h;cases h
 |cons x r ih =>
  intro i t h
  rw [List.flatMap_cons]
  cases i with
  |zero=>injection h with h;subst h;exact ⟨rfl,rfl⟩
  |succ i =>
   obtain ⟨h1,h2⟩:=ih i t h
   have e:∀j,(encT x++r.flatMap encT)[(i+1) * 2+j]?=(r.flatMap encT)[i * 2+j]?:=fun j=>by
    rw [List.getElem?_append_right (by simp only [encT,List.length_cons,List.length_nil];omega)]
    congr 1
    simp only [encT,List.length_cons,List.length_nil];omega
   exact ⟨(e 0).trans h1,(e 1).trans h2⟩
theorem TagRow.of_own {w:World} {base:Nat} {v:Value} {T:List TagD} (h:w.ownsRow base 58 2 v T.length (T.flatMap encT)) (hl:T.length≤1000000) (hs:∀t∈T,t.key.size≤140737488355328∧t.val.size≤140737488355328):TagRow w v T:=by
 have hc:=fun g=>World.ownsRow.cells h (g:=g)
 rcases h.2 with ⟨rfl,h0⟩ | ⟨g,cap,cur,rfl,hb,hg,h1,h2,_⟩
 ·exact ⟨none,0,by rw [h0],by omega,hs,fun h=>by omega⟩
 ·refine ⟨some ⟨g,0,none⟩,cap,rfl,by omega,hs,fun _=>⟨g,0,rfl,fun i t hi=>?_⟩⟩
  obtain ⟨h1,h2⟩:=encT_at T i t hi
  have k1:=hc g rfl _ _ h1
  have k2:=hc g rfl _ _ h2
  rw [Addr.add_lit] at k1 k2
  exact ⟨k1,k2⟩
theorem own_setO {w:World} {base e size n:Nat} {v:Value} {xs:List Value} (h:w.ownsRow base e size v n xs) {p:Addr} (hp:p.block<base) (u:Value):(w.setCell p u).ownsRow base e size v n xs:=by
 obtain ⟨h0,h⟩:=h
 refine ⟨h0,?_⟩
 rcases h with h | ⟨g,cap,cur,e,hb,hg,r⟩
 ·exact .inl h
 ·exact .inr ⟨g,cap,cur,e,hb,row_set_other hg (by omega),r⟩
structure TgI (w0:World) (base B:Nat) (c:CondD) (a:Option Addr) (cap:Nat) (o p:ObjD) (vr vt ur vc vv:Value) (T:List TagD) (W:World):Prop where
 low:Below w0.heap.size w0 W
 cx:W.heap[B]?=some (.cells #[.int .i64 c.op,.string c.key,.string c.val,.int .i64 c.n,.slice a c.kids.length cap] 24 (0,0))
 ox:W.heap[B+1]?=some (.cells #[.string o.id,.int .i64 o.kind,.int .i64 o.x,.int .i64 o.y,vr,vt] 50 (0,0))
 px:W.heap[B+2]?=some (.cells #[.string p.id,.int .i64 p.kind,.int .i64 p.x,.int .i64 p.y,ur,vc] 50 (0,0))
 big:base≤W.heap.size
 own:W.ownsRow base 58 2 vv T.length (T.flatMap encT)
theorem TgI.stable (w0:World) (base B:Nat) (c:CondD) (a:Option Addr) (cap:Nat) (o p:ObjD) (vr vt ur vc vv:Value) (T:List TagD):StableW (TgI w0 base B c a cap o p vr vt ur vc vv T):=fun _W _W' h hb =>
 ⟨below_step h.low (Nat.le_refl _) hb,row_later hb h.cx,row_later hb h.ox,row_later hb h.px,Nat.le_trans h.big hb.size,own_laterL h.own hb⟩
theorem row_grownQ {w w':World} {row:Option Nat} (h:w.grownBy w' row) {b:Nat} {o:Obj} (hb:w.heap[b]?=some o) (hne:some b≠row):w'.heap[b]?=some o:=(h.block b (lt_of_block hb) hne).trans hb
theorem TgI.append {w0:World} {base B:Nat} {c:CondD} {a:Option Addr} {cap:Nat} {o p:ObjD} {vr vt ur vc vv v':Value} {T:List TagD} {t:TagD} {W w9:World} (h:TgI w0 base B c a cap o p vr vt ur vc vv T W) (hB:w0.heap.size≤base) (hb:B+2<base)
  (hg:W.grownBy w9 vv.ownBlock) (ho:w9.ownsRow base 58 2 v' (T.length+1) (T.flatMap encT++encT t)) (hz:W.heap.size≤w9.heap.size):TgI w0 base B c a cap o p vr vt ur vc v' (T++[t]) w9:=by
 have ne:∀x,x<base→some x≠vv.ownBlock:=fun x hx e=>by have:=(h.own.lt x e.symm).1;omega
 exact ⟨h.low.grown hg (Nat.le_trans hB h.big) (fun j ej=>by have:=(h.own.lt j ej).1;omega),row_grownQ hg h.cx (ne _ (by omega)),row_grownQ hg h.ox (ne _ (by omega)),row_grownQ hg h.px (ne _ (by omega)),Nat.le_trans h.big hz,by
  rw [List.length_append,List.flatMap_append];simpa using ho⟩
theorem TgI.store {w0:World} {base B:Nat} {c:CondD} {a:Option Addr} {cap:Nat} {o p:ObjD} {vr vt ur vc vv:Value} {T:List TagD} {W:World} (h:TgI w0 base B c a cap o p vr vt ur vc vv T W) (hB:w0.heap.size≤B) (hb:B+2<base) :
  TgI w0 base B c a cap o p vr vt ur vv vv T (W.setCell ⟨B+2,5,none⟩ vv) :=
 ⟨h.low.setCell (by simp only;omega) _,row_set_other h.cx (by simp only;omega),row_set_other h.ox (by simp only;omega),row_set (i:=5) h.px,Nat.le_trans h.big (by simp),own_setO h.own (by simp only;omega) _⟩
set_option maxRecDepth 100000 in
set_option maxHeartbeats 8000000 in
theorem qtags_any (c:CondD) (a:Option Addr) (cap:Nat) (o p:ObjD) (vr vt ur ut:Value) (w:World) (hc:CondIs w c a) (hr:StrRow w vr o.refs) (ht:TagRow w vt o.tags) (gr:StrRow w ur p.refs) (gt:TagRow w ut p.tags) (he:Env w) :
  Calls Tryz.prog 6 #[condV c a cap,obV o vr vt,obV p ur ut] w fun e w'=>e=.returned (.bool true)∧Below w.heap.size w w':=by
 have b3:=(((Below.refl w.heap.size w).alloc (Nat.le_refl _) (.cells #[.int .i64 c.op,.string c.key,.string c.val,.int .i64 c.n,.slice a c.kids.length cap] 24)).alloc (by simp) (.cells #[.string o.id,.int .i64 o.kind,.int .i64 o.x,.int .i64 o.y,vr,vt] 50)).alloc (by simp;omega) (.cells #[.string p.id,.int .i64 p.kind,.int .i64 p.x,.int .i64 p.y,ur,ut] 50)
 have rc:=row_past (o':=.cells #[.string p.id,.int .i64 p.kind,.int .i64 p.x,.int .i64 p.y,ur,ut] 50) (row_past (o':=.cells #[.string o.id,.int .i64 o.kind,.int .i64 o.x,.int .i64 o.y,vr,vt] 50) (row_new w (.cells #[.int .i64 c.op,.string c.key,.string c.val,.int .i64 c.n,.slice a c.kids.length cap] 24)))
 have ro:=row_past (o':=.cells #[.string p.id,.int .i64 p.kind,.int .i64 p.x,.int .i64 p.y,ur,ut] 50) (row_new1 w (.cells #[.int .i64 c.op,.string c.key,.string c.val,.int .i64 c.n,.slice a c.kids.length cap] 24) (.cells #[.string o.id,.int .i64 o.kind,.int .i64 o.x,.int .i64 o.y,vr,vt] 50))
 have rp:=row_new2 w (.cells #[.int .i64 c.op,.string c.key,.string c.val,.int .i64 c.n,.slice a c.kids.length cap] 24) (.cells #[.string o.id,.int .i64 o.kind,.int .i64 o.x,.int .i64 o.y,vr,vt] 50) (.cells #[.string p.id,.int .i64 p.kind,.int .i64 p.x,.int .i64 p.y,ur,ut] 50)
 have RC0:=Lib.hid rc
 have RO0:=Lib.hid ro
 have RP0:=Lib.hid rp
 have B0:=Lib.hid b3
 have HD:=Lib.hid (head_any _ (he.later b3))
 have FC:=Lib.hid (fun W (hb:Below w.heap.size w W)=>fewc_any c a cap W (hc.later hb))
 have FO:=Lib.hid (fun W (hb:Below w.heap.size w W)=>fewO_any o vr vt W (hr.later hb) (ht.later hb))
 have FP:=Lib.hid (fun W (hb:Below w.heap.size w W)=>fewO_any p ur ut W (gr.later hb) (gt.later hb))
 have MN:=Lib.hid (fun key W (hb:Below w.heap.size w W)=>ment_any key c a cap W (hc.later hb))
 have HH:=Lib.hid (fun (q:ObjD) (sr st:Value) W (hb:Below w.heap.size w W) (h:TagRow W st q.tags)=>Holds_any c a cap q sr st W (hc.later hb) h (he.later hb))
 have HT:=Lib.hid ht
 rw [cond_cells] at FC ⊢
 clear b3 rc ro rp hc he hr gr gt
 obtain ⟨ta,tc,rfl,hn,hts,hcell⟩:=ht
 obtain ⟨N,hN⟩:∃N,o.tags.length=N:=⟨_,rfl⟩
 rw [hN] at hn hcell RC0 RO0 RP0 B0 HD FO HT ⊢
 have HN:=Lib.hid hN
 have HTS:=Lib.hid hts
 have HCL:=Lib.hid hcell
 have hmx:Tryz.prog.follows .mixedOrders=true:=by kernel_rfl
 obtain ⟨i0,hi,hi0,hi1,hi2⟩:=info_parts infoTagW
 clear hN hts hcell
 go_enter Tryz.func6,Tryz.ntmps6
 go_wp2_with fail
 refine HD.out.mono ?_
 rintro e w1 ⟨rfl,hb⟩
 have RC1:=Lib.hid (row_later hb RC0.out)
 have RO1:=Lib.hid (row_later hb RO0.out)
 have RP1:=Lib.hid (row_later hb RP0.out)
 have B1:=Lib.hid (below_step B0.out (Nat.le_refl _) hb)
 clear hb HD RC0 RO0 RP0 B0
 obtain ⟨xz,x0,x1,x2,x3,x4⟩:=rk5 RC1.out
 go_wp2_with fail
 refine (FC.out _ B1.out).mono ?_
 rintro e w2 ⟨fb,rfl,hb⟩
 have RC2:=Lib.hid (row_later hb RC1.out)
 have RO2:=Lib.hid (row_later hb RO1.out)
 have RP2:=Lib.hid (row_later hb RP1.out)
 have B2:=Lib.hid (below_step B1.out (Nat.le_refl _) hb)
 clear hb FC RC1 RO1 RP1 B1
 clear x0 x1 x2 x3 x4 xz
 cases fb
 case false =>
  go_wp2
  go_ret
  exact ⟨rfl,B2.out⟩
 obtain ⟨xz,x0,x1,x2,x3,x4,x5⟩:=rk6 RO2.out
 go_wp2_with fail
 refine (FO.out _ B2.out).mono ?_
 rintro e w3 ⟨⟨fo,rfl,hfo⟩,hb⟩
 have HFO:=Lib.hid hfo
 have RC3:=Lib.hid (row_later hb RC2.out)
 have RO3:=Lib.hid (row_later hb RO2.out)
 have RP3:=Lib.hid (row_later hb RP2.out)
 have B3:=Lib.hid (below_step B2.out (Nat.le_refl _) hb)
 clear hb FO RC2 RO2 RP2 B2 hfo
 clear x0 x1 x2 x3 x4 x5 xz
 cases fo
 case false =>
  go_wp2
  go_ret
  exact ⟨rfl,B3.out⟩
 obtain ⟨xz,x0,x1,x2,x3,x4,x5⟩:=rk6 RP3.out
 go_wp2_with fail
 refine (FP.out _ B3.out).mono ?_
 rintro e w4 ⟨⟨fp,rfl,-⟩,hb⟩
 have RC4:=Lib.hid (row_later hb RC3.out)
 have RO4:=Lib.hid (row_later hb RO3.out)
 have RP4:=Lib.hid (row_later hb RP3.out)
 have B4:=Lib.hid (below_step B3.out (Nat.le_refl _) hb)
 clear hb FP RC3 RO3 RP3 B3
 clear x0 x1 x2 x3 x4 x5 xz
 cases fp
 case false =>
  go_wp2
  go_ret
  exact ⟨rfl,B4.out⟩
 obtain ⟨xz,x0,x1,x2,x3,x4,x5⟩:=rk6 RP4.out
 have xf0:=frozen_of_row w4 _ 0 _ _ RP4.out
 have xf1:=frozen_of_row w4 _ 1 _ _ RP4.out
 have xf2:=frozen_of_row w4 _ 2 _ _ RP4.out
 have xf3:=frozen_of_row w4 _ 3 _ _ RP4.out
 have xf4:=frozen_of_row w4 _ 4 _ _ RP4.out
 have xf5:=frozen_of_row w4 _ 5 _ _ RP4.out
 have r5c:=row_set_other (a:=⟨w.heap.size+2,5,none⟩) (v:=.slice none 0 0) RC4.out (show w.heap.size≠w.heap.size+2 by omega)
 have r5o:=row_set_other (a:=⟨w.heap.size+2,5,none⟩) (v:=.slice none 0 0) RO4.out (show w.heap.size+1≠w.heap.size+2 by omega)
 have r5p:(w4.setCell ⟨w.heap.size+2,5,none⟩ (.slice none 0 0)).heap[w.heap.size+2]?=some (.cells #[.string p.id,.int .i64 p.kind,.int .i64 p.x,.int .i64 p.y,ur,.slice none 0 0] 50 (0,0)):=row_set (i:=5) RP4.out
 have b5:=B4.out.setCell (p:=⟨w.heap.size+2,5,none⟩) (by simp only;omega) (.slice none 0 0)
 go_wp2
 generalize hw5:w4.setCell ⟨w.heap.size+2,5,none⟩ (.slice none 0 0)=w5
 rw [hw5] at r5c r5o r5p b5
 clear hw5 x0 x1 x2 x3 x4 x5 xz xf0 xf1 xf2 xf3 xf4 xf5 RC4 RO4 RP4 B4
 obtain ⟨N0,hN0⟩:∃z,w5.heap.size=z:=⟨_,rfl⟩
 have hbb:w.heap.size+2<N0:=by rw [←hN0];exact lt_of_block r5p
 have TI:=Lib.hid (show TgI w N0 w.heap.size c a cap o p vr (.slice ta N tc) ur (.slice none 0 0) (.slice none 0 0) [] w5 from ⟨b5,r5c,r5o,r5p,by omega,World.ownsRow_nil _ _ _ _⟩)
 have hN0:w.heap.size≤N0:=by omega
 clear r5c r5o r5p b5
 have hN65:N≤65:=by have:=(HFO.out trivial).2;rw [HN.out] at this;exact this
 clear HFO
 go_loopw [8] (fun i wr=>∃(j:Nat) (vv:Value),j≤N∧i=.int .i64 j∧TgI w N0 w.heap.size c a cap o p vr (.slice ta N tc) ur vv vv ((o.tags.take j).filter fun t=>mentC t.key c) wr) (fun i _=>N - (intOf i).toNat)
 case atStart=>exact ⟨0,_,by omega,rfl,TI.out⟩
 case round =>
  obtain ⟨j,vv,hj,rfl,hti⟩:=hrel
  have HTI:=Lib.hid hti
  have HOX:=Lib.hid hti.ox
  have HCX:=Lib.hid hti.cx
  clear hti TI
  by_cases hlt:j<N
  ·obtain ⟨t,htj⟩:∃t,o.tags[j]?=some t:=⟨o.tags[j]'(by rw [HN.out];exact hlt),List.getElem?_eq_getElem _⟩
   obtain ⟨b,off,ha,hcell⟩:=HCL.out (by omega)
   subst ha
   obtain ⟨q0,q1⟩:=hcell j t htj
   have d0:decide ((j:Int)<N)=true:=decide_eq_true (by omega)
   have HF:=Lib.hid (show ((o.tags.take (j+1)).filter fun t=>mentC t.key c)=((o.tags.take j).filter fun t=>mentC t.key c)++(if mentC t.key c then [t] else []) by
    obtain ⟨hk,rfl⟩:=List.getElem?_eq_some_iff.1 htj
    rw [List.take_succ_eq_append_getElem hk,List.filter_append,List.filter_cons,List.filter_nil])
   have hfl:((o.tags.take j).filter fun t=>mentC t.key c).length≤65:=by
    have h1:=List.length_filter_le (fun t:TagD=>mentC t.key c) (o.tags.take j)
    have h2:=List.length_take_le j o.tags
    omega
   have MK:=Lib.hid (MN.out t.key)
   obtain ⟨F,hF⟩:∃F,((o.tags.take j).filter fun t=>mentC t.key c)=F:=⟨_,rfl⟩
   rw [hF] at HTI HF hfl
   obtain ⟨mb,hmb⟩:∃z,mentC t.key c=z:=⟨_,rfl⟩
   rw [hmb] at HF MK
   have C0:=Lib.hid (cell_later HTI.out.low q0)
   have Q0:=Lib.hid q0
   have Q1:=Lib.hid q1
   clear hcell htj hF hmb q0 q1
   obtain ⟨yz,y0,y1,y2,y3,y4,y5⟩:=rk6 HOX.out
   obtain ⟨xz,x0,x1,x2,x3,x4⟩:=rk5 HCX.out
   go_wp2
   have k0:=cell_belowBy x0
   have k1:=cell_belowBy x1
   have k2:=cell_belowBy x2
   have k3:=cell_belowBy x3
   have k4:=cell_belowBy x4
   have l5:=cell_belowBy y5
   have l6:=cell_belowBy C0.out
   clear x0 x1 x2 x3 x4 y0 y1 y2 y3 y4 y5
   refine wp_region_quiet_below (by assumption) (by kernel_rfl) ?_
   repeat (go_big_quiet_step (first | (go_at_call 23;exact calls_belowBy (MK.out _ (below_step HTI.out.low (Nat.le_refl _) (BelowBy.below _))))))
   refine wpQuiet_nil ?_
   intro w6 hw'
   obtain ⟨⟨w7,hb7⟩,hw''⟩:=hw'
   subst hw''
   have HT7:=Lib.hid (TgI.stable w N0 w.heap.size c a cap o p vr (.slice (some ⟨b,off,none⟩) N tc) ur vv vv F _ _ HTI.out hb7)
   clear hb7 k0 k1 k2 k3 k4 l5 l6 HTI HOX HCX C0
   cases mb
   ·have HF2:=Lib.hid (HF.out.trans (List.append_nil F))
    go_wp2
    go_roundw
    case rel=>exact ⟨j+1,vv,by omega,by go_num,by rw [HF2.out];exact HT7.out⟩
    case measure=>simp [intOf];omega
   ·go_wp2
    have hst:=TgI.stable w N0 w.heap.size c a cap o p vr (.slice (some ⟨b,off,none⟩) N tc) ur vv vv F
    refine wp_region_nodes 1 10 (fun W=>Below w.heap.size w W∧W.heap[w.heap.size+1]?=some (.cells #[.string o.id,.int .i64 o.kind,.int .i64 o.x,.int .i64 o.y,vr,.slice (some ⟨b,off,none⟩) N tc] 50 (0,0))) (fun W=>TgI w N0 w.heap.size c a cap o p vr (.slice (some ⟨b,off,none⟩) N tc) ur vv vv F W) hmx (by kernel_rfl) (by kernel_rfl) (by kernel_rfl) hst (fun W d=>⟨d.low,d.ox⟩) (hst _ _ HT7.out (Below.refl _ _).drew) (by kernel_rfl) ?_
    apply Exists.intro
    refine ⟨fun W hW=>?_,?_⟩
    ·clear hW
     simp only [List.take_succ_cons,List.take_zero]
     repeat (go_big_quiet_step (fail))
     exact wpQuiet_nil rfl
    refine node_quiet 2 (some 42) (.pointer (some ⟨w.heap.size+1,5,none⟩)) rfl rfl hst (fun W d=>⟨d.low,d.ox⟩) (by kernel_rfl) (by kernel_rfl) (by kernel_rfl) rfl (QuietB.pure fun w=>?_) ?_
    ·go_simp
    simp only [Act.put,List.setIfInBounds_toArray,List.set_cons_succ,List.set_cons_zero]
    refine node_quiet 3 (some 43) (.slice (some ⟨b,off,none⟩) N tc) rfl rfl hst (fun W d=>⟨d.low,d.ox⟩) (by kernel_rfl) (by kernel_rfl) (by kernel_rfl) rfl (QuietB.at' fun W hW=>(by
     have HB9:=Lib.hid hW.2
     clear hW
     obtain ⟨xz,x0,x1,x2,x3,x4,x5⟩:=rk6 HB9.out
     go_simp)) ?_
    simp only [Act.put,List.setIfInBounds_toArray,List.set_cons_succ,List.set_cons_zero]
    refine node_quiet 4 (some 44) (.int .i64 j) rfl rfl hst (fun W d=>⟨d.low,d.ox⟩) (by kernel_rfl) (by kernel_rfl) (by kernel_rfl) rfl (QuietB.pure fun w=>?_) ?_
    ·go_simp
    simp only [Act.put,List.setIfInBounds_toArray,List.set_cons_succ,List.set_cons_zero]
    refine node_quiet 5 (some 45) (.pointer (some ⟨b,off+j * 2,none⟩)) rfl rfl hst (fun W d=>⟨d.low,d.ox⟩) (by kernel_rfl) (by kernel_rfl) (by kernel_rfl) rfl (QuietB.pure fun w=>?_) ?_
    ·go_simp
    simp only [Act.put,List.setIfInBounds_toArray,List.set_cons_succ,List.set_cons_zero]
    refine node_quiet 6 (some 46) (.agg #[.string t.key,.string t.val]) rfl rfl hst (fun W d=>⟨d.low,d.ox⟩) (by kernel_rfl) (by kernel_rfl) (by kernel_rfl) rfl (QuietB.at' fun W hW=>(by
     have q0:=cell_later hW.1 Q0.out
     have q1:=cell_later hW.1 Q1.out
     have hz:=lt_of_cell q0
     clear hW
     go_simp)) ?_
    simp only [Act.put,List.setIfInBounds_toArray,List.set_cons_succ,List.set_cons_zero]
    refine any_two 1 7 (by kernel_rfl) rfl rfl rfl rfl ?_ ?_
    ·refine LoudB.mkD (some 41) (ι:=Unit) (fun _=>vv) (fun _=>fun W=>TgI w N0 w.heap.size c a cap o p vr (.slice (some ⟨b,off,none⟩) N tc) ur vv vv F W) rfl (fun _=>hst) (fun _ W d=>⟨d.low,d.ox⟩) (fun W hS K' hK'=>?_) (fun _=>?_)
     ·have hK2:=hK' () _ hS
      have HPX:=Lib.hid hS.px
      clear hS hK'
      obtain ⟨yz,y0,y1,y2,y3,y4,y5⟩:=rk6 HPX.out
      go_simp
      exact hK2
     simp only [Act.put,List.setIfInBounds_toArray,List.set_cons_succ,List.set_cons_zero]
     refine any_one 7 (by kernel_rfl) rfl rfl ?_
     refine LoudB.mkD (some 47) (ι:=Nat) (fun g=>.slice (some ⟨g,0,none⟩) 1 1) (fun g=>fun W=>TgI w N0 w.heap.size c a cap o p vr (.slice (some ⟨b,off,none⟩) N tc) ur vv vv F W∧W.heap[g]?=some (.cells #[.string t.key,.string t.val] 58)) rfl (fun g=>hst.and (StableW.row _ _)) (fun _ W d=>⟨d.1.low,d.1.ox⟩) (fun W hS K' hK'=>?_) (fun g=>?_)
     ·have h2:=hst _ _ hS ((Below.refl W.heap.size W).alloc (Nat.le_refl _) (.cells #[.string t.key,.string t.val] 58))
      clear hS
      go_simp
      exact hK' W.heap.size _ ⟨h2,row_new _ _⟩
     simp only [Act.put,List.setIfInBounds_toArray,List.set_cons_succ,List.set_cons_zero]
     refine any_one 8 (by kernel_rfl) rfl rfl ?_
     refine LoudB.mkD (some 48) (ι:=Value) (fun v'=>v') (fun v'=>fun W=>TgI w N0 w.heap.size c a cap o p vr (.slice (some ⟨b,off,none⟩) N tc) ur vv v' (F++[t]) W) rfl (fun v'=>TgI.stable _ _ _ _ _ _ _ _ _ _ _ _ _ _) (fun _ W d=>⟨d.low,d.ox⟩) (fun W hS K' hK'=>?_) (fun v'=>?_)
     ·obtain ⟨hS1,hS2⟩:=hS
      refine wp_append_own _ _ _ 48 rfl N0 58 i0 (.agg #[.string ⟨#[]⟩,.string ⟨#[]⟩]) 2 32 Tryz.underlying48 hi hi0 hi1 hi2 rfl (by decide) _ _ _ rfl hS1.own ⟨g,0,none⟩ 1 1 (encT t) rfl rfl (cells_rowQ hS2) (two_str _ _) (by unfold maxLen;omega) (by omega) hS1.big ?_
      intro v' w9 hown2 hgrow _
      exact hK' v' w9 (hS1.append hN0 (by omega) hgrow hown2 hgrow.size)
     simp only [Act.put,List.setIfInBounds_toArray,List.set_cons_succ,List.set_cons_zero]
     refine node_quiet 9 (some 49) (.pointer (some ⟨w.heap.size+2,5,none⟩)) rfl rfl (TgI.stable _ _ _ _ _ _ _ _ _ _ _ _ _ _) (fun W d=>⟨d.low,d.ox⟩) (by kernel_rfl) (by kernel_rfl) (by kernel_rfl) rfl (QuietB.pure fun w=>(by go_simp)) ?_
     simp only [Act.put,List.setIfInBounds_toArray,List.set_cons_succ,List.set_cons_zero]
     refine any_one 10 (by kernel_rfl) rfl rfl ?_
     refine LoudB.mkD none (ι:=Unit) (fun _=>undef) (fun _=>fun W=>TgI w N0 w.heap.size c a cap o p vr (.slice (some ⟨b,off,none⟩) N tc) ur v' v' (F++[t]) W) rfl (fun _=>TgI.stable _ _ _ _ _ _ _ _ _ _ _ _ _ _) (fun _ W d=>⟨d.low,d.ox⟩) (fun W hS K' hK'=>?_) (fun _=>?_)
     ·obtain ⟨g9,c9,rfl,-,-⟩:=own_slice hS.own (by simp)
      have hK2:=hK' () _ (hS.store (Nat.le_refl _) (by omega))
      rw [show (F++[t]).length=F.length+1 by simp] at hK2
      have HPX:=Lib.hid hS.px
      clear hS hK'
      obtain ⟨yz,y0,y1,y2,y3,y4,y5⟩:=rk6 HPX.out
      have yf0:=frozen_of_row W _ 0 _ _ HPX.out
      have yf1:=frozen_of_row W _ 1 _ _ HPX.out
      have yf2:=frozen_of_row W _ 2 _ _ HPX.out
      have yf3:=frozen_of_row W _ 3 _ _ HPX.out
      have yf4:=frozen_of_row W _ 4 _ _ HPX.out
      have yf5:=frozen_of_row W _ 5 _ _ HPX.out
      go_simp
      exact hK2
     simp only [Act.put]
     refine any_end (by kernel_rfl) fun w5 hw5=>?_
     have HT5:=Lib.hid hw5
     clear hw5 HT7
     go_wp2
     go_roundw
     case rel=>exact ⟨j+1,v',by omega,by go_num,by rw [HF.out];exact HT5.out⟩
     case measure=>simp [intOf];omega
    ·refine LoudB.mkD (some 47) (ι:=Nat) (fun g=>.slice (some ⟨g,0,none⟩) 1 1) (fun g=>fun W=>TgI w N0 w.heap.size c a cap o p vr (.slice (some ⟨b,off,none⟩) N tc) ur vv vv F W∧W.heap[g]?=some (.cells #[.string t.key,.string t.val] 58)) rfl (fun g=>hst.and (StableW.row _ _)) (fun _ W d=>⟨d.1.low,d.1.ox⟩) (fun W hS K' hK'=>?_) (fun g=>?_)
     ·have h2:=hst _ _ hS ((Below.refl W.heap.size W).alloc (Nat.le_refl _) (.cells #[.string t.key,.string t.val] 58))
      clear hS
      go_simp
      exact hK' W.heap.size _ ⟨h2,row_new _ _⟩
     simp only [Act.put,List.setIfInBounds_toArray,List.set_cons_succ,List.set_cons_zero]
     refine any_one 1 (by kernel_rfl) rfl rfl ?_
     refine LoudB.mkD (some 41) (ι:=Unit) (fun _=>vv) (fun _=>fun W=>TgI w N0 w.heap.size c a cap o p vr (.slice (some ⟨b,off,none⟩) N tc) ur vv vv F W∧W.heap[g]?=some (.cells #[.string t.key,.string t.val] 58)) rfl (fun _=>hst.and (StableW.row _ _)) (fun _ W d=>⟨d.1.low,d.1.ox⟩) (fun W hS K' hK'=>?_) (fun _=>?_)
     ·have hK2:=hK' () _ hS
      have HPX:=Lib.hid hS.1.px
      clear hS hK'
      obtain ⟨yz,y0,y1,y2,y3,y4,y5⟩:=rk6 HPX.out
      go_simp
      exact hK2
     simp only [Act.put,List.setIfInBounds_toArray,List.set_cons_succ,List.set_cons_zero]
     refine any_one 8 (by kernel_rfl) rfl rfl ?_
     refine LoudB.mkD (some 48) (ι:=Value) (fun v'=>v') (fun v'=>fun W=>TgI w N0 w.heap.size c a cap o p vr (.slice (some ⟨b,off,none⟩) N tc) ur vv v' (F++[t]) W) rfl (fun v'=>TgI.stable _ _ _ _ _ _ _ _ _ _ _ _ _ _) (fun _ W d=>⟨d.low,d.ox⟩) (fun W hS K' hK'=>?_) (fun v'=>?_)
     ·obtain ⟨hS1,hS2⟩:=hS
      refine wp_append_own _ _ _ 48 rfl N0 58 i0 (.agg #[.string ⟨#[]⟩,.string ⟨#[]⟩]) 2 32 Tryz.underlying48 hi hi0 hi1 hi2 rfl (by decide) _ _ _ rfl hS1.own ⟨g,0,none⟩ 1 1 (encT t) rfl rfl (cells_rowQ hS2) (two_str _ _) (by unfold maxLen;omega) (by omega) hS1.big ?_
      intro v' w9 hown2 hgrow _
      exact hK' v' w9 (hS1.append hN0 (by omega) hgrow hown2 hgrow.size)
     simp only [Act.put,List.setIfInBounds_toArray,List.set_cons_succ,List.set_cons_zero]
     refine node_quiet 9 (some 49) (.pointer (some ⟨w.heap.size+2,5,none⟩)) rfl rfl (TgI.stable _ _ _ _ _ _ _ _ _ _ _ _ _ _) (fun W d=>⟨d.low,d.ox⟩) (by kernel_rfl) (by kernel_rfl) (by kernel_rfl) rfl (QuietB.pure fun w=>(by go_simp)) ?_
     simp only [Act.put,List.setIfInBounds_toArray,List.set_cons_succ,List.set_cons_zero]
     refine any_one 10 (by kernel_rfl) rfl rfl ?_
     refine LoudB.mkD none (ι:=Unit) (fun _=>undef) (fun _=>fun W=>TgI w N0 w.heap.size c a cap o p vr (.slice (some ⟨b,off,none⟩) N tc) ur v' v' (F++[t]) W) rfl (fun _=>TgI.stable _ _ _ _ _ _ _ _ _ _ _ _ _ _) (fun _ W d=>⟨d.low,d.ox⟩) (fun W hS K' hK'=>?_) (fun _=>?_)
     ·obtain ⟨g9,c9,rfl,-,-⟩:=own_slice hS.own (by simp)
      have hK2:=hK' () _ (hS.store (Nat.le_refl _) (by omega))
      rw [show (F++[t]).length=F.length+1 by simp] at hK2
      have HPX:=Lib.hid hS.px
      clear hS hK'
      obtain ⟨yz,y0,y1,y2,y3,y4,y5⟩:=rk6 HPX.out
      have yf0:=frozen_of_row W _ 0 _ _ HPX.out
      have yf1:=frozen_of_row W _ 1 _ _ HPX.out
      have yf2:=frozen_of_row W _ 2 _ _ HPX.out
      have yf3:=frozen_of_row W _ 3 _ _ HPX.out
      have yf4:=frozen_of_row W _ 4 _ _ HPX.out
      have yf5:=frozen_of_row W _ 5 _ _ HPX.out
      go_simp
      exact hK2
     simp only [Act.put]
     refine any_end (by kernel_rfl) fun w5 hw5=>?_
     have HT5:=Lib.hid hw5
     clear hw5 HT7
     go_wp2
     go_roundw
     case rel=>exact ⟨j+1,v',by omega,by go_num,by rw [HF.out];exact HT5.out⟩
     case measure=>simp [intOf];omega
  ·obtain rfl:j=N:=by omega
   have hti:=HTI.out
   rw [List.take_of_length_le (by rw [HN.out];exact Nat.le_refl _)] at hti
   have HPX:=Lib.hid hti.px
   have HLO:=Lib.hid hti.low
   have HTS2:=Lib.hid (TagRow.of_own hti.own (by have:=List.length_filter_le (fun t:TagD=>mentC t.key c) o.tags;rw [HN.out] at this;omega) (fun t h=>HTS.out t (List.mem_filter.1 h).1))
   have H1:=Lib.hid (show ∀W,Below wr.heap.size wr W→Calls Tryz.prog 22 #[.agg #[.int .i64 c.op,.string c.key,.string c.val,.int .i64 c.n,.slice a c.kids.length cap],.agg #[.string o.id,.int .i64 o.kind,.int .i64 o.x,.int .i64 o.y,vr,.slice ta j tc]] W (fun e w'=>e=.returned (.bool (validC c && holdsC o.tags c))∧Below W.heap.size W w') from fun W h=>HH.out o vr (.slice ta j tc) W (below_step HLO.out (Nat.le_refl _) h) (HT.out.later (below_step HLO.out (Nat.le_refl _) h)))
   have H2:=Lib.hid (show ∀W,Below wr.heap.size wr W→Calls Tryz.prog 22 #[.agg #[.int .i64 c.op,.string c.key,.string c.val,.int .i64 c.n,.slice a c.kids.length cap],.agg #[.string p.id,.int .i64 p.kind,.int .i64 p.x,.int .i64 p.y,ur,vv]] W (fun e w'=>e=.returned (.bool (validC c && holdsC (o.tags.filter fun t=>mentC t.key c) c))∧Below W.heap.size W w') from fun W h=>HH.out ⟨p.id,p.kind,p.x,p.y,p.refs,o.tags.filter fun t=>mentC t.key c⟩ ur vv W (below_step HLO.out (Nat.le_refl _) h) (HTS2.out.later h))
   simp only [tags_law] at H2
   obtain ⟨R,hR⟩:∃R,(validC c && holdsC o.tags c)=R:=⟨_,rfl⟩
   rw [hR] at H1 H2
   clear hti HTI hR HH MN
   obtain ⟨yz,y0,y1,y2,y3,y4,y5⟩:=rk6 HOX.out
   obtain ⟨xz,x0,x1,x2,x3,x4⟩:=rk5 HCX.out
   obtain ⟨zz,z0,z1,z2,z3,z4,z5⟩:=rk6 HPX.out
   go_wp2
   have k0:=cell_belowBy x0
   have k1:=cell_belowBy x1
   have k2:=cell_belowBy x2
   have k3:=cell_belowBy x3
   have k4:=cell_belowBy x4
   have l0:=cell_belowBy y0
   have l1:=cell_belowBy y1
   have l2:=cell_belowBy y2
   have l3:=cell_belowBy y3
   have l4:=cell_belowBy y4
   have l5:=cell_belowBy y5
   have m0:=cell_belowBy z0
   have m1:=cell_belowBy z1
   have m2:=cell_belowBy z2
   have m3:=cell_belowBy z3
   have m4:=cell_belowBy z4
   have m5:=cell_belowBy z5
   clear x0 x1 x2 x3 x4 y0 y1 y2 y3 y4 y5 z0 z1 z2 z3 z4 z5
   cases R
   all_goals
    refine wp_region_quiet_below (by assumption) (by kernel_rfl) ?_
    repeat (go_big_quiet_step (first | (go_at_call 22;first | with_reducible exact calls_belowBy (H1.out _ (BelowBy.below _)) | with_reducible exact calls_belowBy (H2.out _ (BelowBy.below _)))))
    refine wpQuiet_nil ?_
    intro w6 hw'
    obtain ⟨⟨w7,hb7⟩,hw''⟩:=hw'
    subst hw''
    have B7:=below_step HLO.out (Nat.le_refl _) hb7
    go_wp2
    go_ret
    exact ⟨rfl,B7⟩
end Go.Proofs.YtdfenhjibnfdeaaGreatDoor
