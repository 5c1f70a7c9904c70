/-  -/
import Derived.Test.YtdfenhjibnfdeaaGreatDoorQyAg
import Derived.Test.YtdfenhjibnfdeaaGreatDoorQyAh
import Derived.BigQuiet
import Derived.Laws.EntriesVeiled
namespace Go.Proofs.YtdfenhjibnfdeaaGreatDoor
open Go.RowKit Go.Shelf
theorem any_fails (l:List TagD):∀ks:List CondD,(ks.any fun c=>!holdsC l c) = !allK l ks
 |[]=>rfl
 |c :: r=>by rw [List.any_cons,any_fails l r,allK,Bool.not_and]
theorem any_holds (l:List TagD):∀ks:List CondD,(ks.any fun c=>holdsC l c)=anyK l ks
 |[]=>rfl
 |c :: r=>by rw [List.any_cons,any_holds l r,anyK]
abbrev obV (o:ObjD) (vr vt:Value):Value:=.agg #[.string o.id,.int .i64 o.kind,.int .i64 o.x,.int .i64 o.y,vr,vt]
def HoldsK (o:ObjD) (vr vt:Value) (k:Nat):Prop:=∀(c:CondD) (a:Option Addr) (cap:Nat) (w:World),cnodes c≤k→CondIs w c a→TagRow w vt o.tags→Env w →
 Calls Tryz.prog 48 #[condV c a cap,obV o vr vt] w fun e w'=>e=.returned (.bool (holdsC o.tags c))∧Below w.heap.size w w'
set_option maxHeartbeats 1000000 in
theorem closH_any (o:ObjD) (vr vt:Value) (k ox:Nat) (IH:HoldsK o vr vt k) (c:CondD) (a:Option Addr) (cap:Nat) (w:World) (hk:cnodes c≤k) (hc:CondIs w c a) (ht:TagRow w vt o.tags) (he:Env w)
  (hox:w.heap[ox]?=some (.cells #[.string o.id,.int .i64 o.kind,.int .i64 o.x,.int .i64 o.y,vr,vt] 50 (0,0))) :
  Calls Tryz.prog 74 #[condV c a cap,.pointer (some ⟨ox,0,none⟩)] w fun e w'=>e=.returned (.bool (holdsC o.tags c))∧Below w.heap.size w w':=by
 have B1:=(Below.refl w.heap.size w).alloc (Nat.le_refl _) (.cells #[.int .i64 c.op,.string c.key,.string c.val,.int .i64 c.n,.slice a c.kids.length cap] 24)
 have HI:=Lib.hid (IH c a cap _ hk (hc.later B1) (ht.later B1) (he.later B1))
 have HX:=Lib.hid hox
 clear hox hc ht he
 rw [cond_cells] at HI ⊢
 go_enter Tryz.func74,Tryz.ntmps74
 obtain ⟨xz,x0,x1,x2,x3,x4,x5⟩:=rk6 HX.out
 go_wp2_with fail
 refine HI.out.mono ?_
 rintro e w2 ⟨rfl,hb2⟩
 have B2:=below_step B1 (Nat.le_refl _) hb2
 go_wp2
 go_ret
 exact ⟨rfl,B2⟩
set_option maxHeartbeats 1000000 in
theorem closF_any (o:ObjD) (vr vt:Value) (k ox fx:Nat) (IH:HoldsK o vr vt k) (c:CondD) (a:Option Addr) (cap:Nat) (w:World) (hk:cnodes c≤k) (hc:CondIs w c a) (ht:TagRow w vt o.tags) (he:Env w)
  (hox:w.heap[ox]?=some (.cells #[.string o.id,.int .i64 o.kind,.int .i64 o.x,.int .i64 o.y,vr,vt] 50 (0,0)))
  (hfx:w.heap[fx]?=some (.cells #[.func (.func 74) #[] #[.pointer (some ⟨ox,0,none⟩)]] 51 (0,0))) :
  Calls Tryz.prog 75 #[condV c a cap,.pointer (some ⟨fx,0,none⟩)] w fun e w'=>e=.returned (.bool (!holdsC o.tags c))∧Below w.heap.size w w':=by
 have B1:=(Below.refl w.heap.size w).alloc (Nat.le_refl _) (.cells #[.int .i64 c.op,.string c.key,.string c.val,.int .i64 c.n,.slice a c.kids.length cap] 24)
 have HI:=Lib.hid (closH_any o vr vt k ox IH c a cap _ hk (hc.later B1) (ht.later B1) (he.later B1) (row_later B1 hox))
 have HX:=Lib.hid hfx
 clear hox hfx hc ht he
 rw [cond_cells] at HI ⊢
 go_enter Tryz.func75,Tryz.ntmps75
 obtain ⟨xz,x0⟩:=rk1 HX.out
 go_wp2_with fail
 refine HI.out.mono ?_
 rintro e w2 ⟨rfl,hb2⟩
 have B2:=below_step B1 (Nat.le_refl _) hb2
 go_wp2
 go_ret
 exact ⟨rfl,B2⟩
theorem TagRow.vals {w:World} {v:Value} {l:List TagD} (h:TagRow w v l) (key s:ByteArray) (hs:getB key l=some s):s.size≤140737488355328:=by
 obtain ⟨_,_,_,_,h3,_⟩:=h
 obtain ⟨t,ht,rfl⟩:=getB_mem key l s hs
 exact (h3 t ht).2
set_option maxRecDepth 100000 in
set_option maxHeartbeats 4000000 in
theorem holds2_any (o:ObjD) (vr vt:Value) (k:Nat) (_IH:HoldsK o vr vt k) (key val:ByteArray) (n:Int) (ks:List CondD) (a:Option Addr) (cap:Nat) (w:World) (_hk:cnodesL ks≤k) (hc:CondIs w (.mk 2 key val n ks) a) (ht:TagRow w vt o.tags) (he:Env w) :
  Calls Tryz.prog 48 #[.agg #[.int .i64 2,.string key,.string val,.int .i64 n,.slice a ks.length cap],obV o vr vt] w fun e w'=>e=.returned (.bool (holdsC o.tags (.mk 2 key val n ks)))∧Below w.heap.size w w':=by
 have B1:=((Below.refl w.heap.size w).alloc (Nat.le_refl _) (.cells #[.int .i64 2,.string key,.string val,.int .i64 n,.slice a ks.length cap] 24)).alloc (by simp) (.cells #[.string o.id,.int .i64 o.kind,.int .i64 o.x,.int .i64 o.y,vr,vt] 50)
 have HC0:=Lib.hid (row_past (o':=.cells #[.string o.id,.int .i64 o.kind,.int .i64 o.x,.int .i64 o.y,vr,vt] 50) (row_new w (.cells #[.int .i64 2,.string key,.string val,.int .i64 n,.slice a ks.length cap] 24)))
 have hO0:=row_new (w.alloc (.cells #[.int .i64 2,.string key,.string val,.int .i64 n,.slice a ks.length cap] 24)) (.cells #[.string o.id,.int .i64 o.kind,.int .i64 o.x,.int .i64 o.y,vr,vt] 50)
 simp only [World.size_alloc] at hO0
 have HO0:=Lib.hid hO0
 have HG:=Lib.hid (get_any vt o.tags key _ (ht.later B1))
 have HCI:=Lib.hid (hc.later B1)
 have HT:=Lib.hid (ht.later B1)
 have HV:=Lib.hid (he.later B1)
 have HE:=Lib.hid (holdsC_eq o.tags (.mk 2 key val n ks))
 have HSZ:=Lib.hid (ht.vals key)
 clear hO0 hc ht he
 obtain ⟨r,hr⟩:∃r,getB key o.tags=r:=⟨_,rfl⟩
 rw [hr] at HG HSZ
 have HR:=Lib.hid hr
 clear hr
 cases r with
 |none =>
  have HB:=Lib.hid (show holdsC o.tags (.mk 2 key val n ks)=false by rw [HE.out];show (getB key o.tags).isSome=false;rw [HR.out];rfl)
  go_enter Tryz.func48,Tryz.ntmps48
  go_wp2_with fail
  refine HG.out.mono ?_
  rintro e w2 ⟨rfl,hb2⟩
  have B2:=below_step B1 (Nat.le_refl _) hb2
  have HC1:=Lib.hid (row_later hb2 HC0.out)
  have HO1:=Lib.hid (row_later hb2 HO0.out)
  have HCI2:=Lib.hid (HCI.out.later hb2)
  have HT2:=Lib.hid (HT.out.later hb2)
  have HV2:=Lib.hid (HV.out.later hb2)
  clear hb2
  obtain ⟨cz,c0,c1,c2,c3,c4⟩:=rk5 HC1.out
  go_wp2
  go_ret
  exact ⟨ret_bool HB.out.symm,B2.alloc (by have:=B2.size;simp;omega) _⟩
 |some s =>
  have HB:=Lib.hid (show holdsC o.tags (.mk 2 key val n ks)=true by rw [HE.out];show (getB key o.tags).isSome=true;rw [HR.out];rfl)
  go_enter Tryz.func48,Tryz.ntmps48
  go_wp2_with fail
  refine HG.out.mono ?_
  rintro e w2 ⟨rfl,hb2⟩
  have B2:=below_step B1 (Nat.le_refl _) hb2
  have HC1:=Lib.hid (row_later hb2 HC0.out)
  have HO1:=Lib.hid (row_later hb2 HO0.out)
  have HCI2:=Lib.hid (HCI.out.later hb2)
  have HT2:=Lib.hid (HT.out.later hb2)
  have HV2:=Lib.hid (HV.out.later hb2)
  clear hb2
  obtain ⟨cz,c0,c1,c2,c3,c4⟩:=rk5 HC1.out
  go_wp2
  go_ret
  exact ⟨ret_bool HB.out.symm,B2.alloc (by have:=B2.size;simp;omega) _⟩
set_option maxRecDepth 100000 in
set_option maxHeartbeats 4000000 in
theorem holds3_any (o:ObjD) (vr vt:Value) (k:Nat) (_IH:HoldsK o vr vt k) (key val:ByteArray) (n:Int) (ks:List CondD) (a:Option Addr) (cap:Nat) (w:World) (_hk:cnodesL ks≤k) (hc:CondIs w (.mk 3 key val n ks) a) (ht:TagRow w vt o.tags) (he:Env w) :
  Calls Tryz.prog 48 #[.agg #[.int .i64 3,.string key,.string val,.int .i64 n,.slice a ks.length cap],obV o vr vt] w fun e w'=>e=.returned (.bool (holdsC o.tags (.mk 3 key val n ks)))∧Below w.heap.size w w':=by
 have B1:=((Below.refl w.heap.size w).alloc (Nat.le_refl _) (.cells #[.int .i64 3,.string key,.string val,.int .i64 n,.slice a ks.length cap] 24)).alloc (by simp) (.cells #[.string o.id,.int .i64 o.kind,.int .i64 o.x,.int .i64 o.y,vr,vt] 50)
 have HC0:=Lib.hid (row_past (o':=.cells #[.string o.id,.int .i64 o.kind,.int .i64 o.x,.int .i64 o.y,vr,vt] 50) (row_new w (.cells #[.int .i64 3,.string key,.string val,.int .i64 n,.slice a ks.length cap] 24)))
 have hO0:=row_new (w.alloc (.cells #[.int .i64 3,.string key,.string val,.int .i64 n,.slice a ks.length cap] 24)) (.cells #[.string o.id,.int .i64 o.kind,.int .i64 o.x,.int .i64 o.y,vr,vt] 50)
 simp only [World.size_alloc] at hO0
 have HO0:=Lib.hid hO0
 have HG:=Lib.hid (get_any vt o.tags key _ (ht.later B1))
 have HCI:=Lib.hid (hc.later B1)
 have HT:=Lib.hid (ht.later B1)
 have HV:=Lib.hid (he.later B1)
 have HE:=Lib.hid (holdsC_eq o.tags (.mk 3 key val n ks))
 have HSZ:=Lib.hid (ht.vals key)
 clear hO0 hc ht he
 obtain ⟨r,hr⟩:∃r,getB key o.tags=r:=⟨_,rfl⟩
 rw [hr] at HG HSZ
 have HR:=Lib.hid hr
 clear hr
 cases r with
 |none =>
  have HB:=Lib.hid (show holdsC o.tags (.mk 3 key val n ks)=false by rw [HE.out];show decide (getB key o.tags=some val)=false;rw [HR.out];rfl)
  go_enter Tryz.func48,Tryz.ntmps48
  go_wp2_with fail
  refine HG.out.mono ?_
  rintro e w2 ⟨rfl,hb2⟩
  have B2:=below_step B1 (Nat.le_refl _) hb2
  have HC1:=Lib.hid (row_later hb2 HC0.out)
  have HO1:=Lib.hid (row_later hb2 HO0.out)
  have HCI2:=Lib.hid (HCI.out.later hb2)
  have HT2:=Lib.hid (HT.out.later hb2)
  have HV2:=Lib.hid (HV.out.later hb2)
  clear hb2
  obtain ⟨cz,c0,c1,c2,c3,c4⟩:=rk5 HC1.out
  go_wp2
  go_ret
  exact ⟨ret_bool HB.out.symm,B2.alloc (by have:=B2.size;simp;omega) _⟩
 |some s =>
  by_cases hs:s=val
  ·have e1:(s.toList==val.toList)=true:=str_eq_true hs
   have HB:=Lib.hid (show holdsC o.tags (.mk 3 key val n ks)=true by rw [HE.out];show decide (getB key o.tags=some val)=true;rw [HR.out,hs];simp)
   clear hs
   go_enter Tryz.func48,Tryz.ntmps48
   go_wp2_with fail
   refine HG.out.mono ?_
   rintro e w2 ⟨rfl,hb2⟩
   have B2:=below_step B1 (Nat.le_refl _) hb2
   have HC1:=Lib.hid (row_later hb2 HC0.out)
   have HO1:=Lib.hid (row_later hb2 HO0.out)
   have HCI2:=Lib.hid (HCI.out.later hb2)
   have HT2:=Lib.hid (HT.out.later hb2)
   have HV2:=Lib.hid (HV.out.later hb2)
   clear hb2
   obtain ⟨cz,c0,c1,c2,c3,c4⟩:=rk5 HC1.out
   go_wp2
   go_ret
   exact ⟨ret_bool HB.out.symm,B2.alloc (by have:=B2.size;simp;omega) _⟩
  ·have e1:(s.toList==val.toList)=false:=str_eq_false hs
   have HB:=Lib.hid (show holdsC o.tags (.mk 3 key val n ks)=false by rw [HE.out];show decide (getB key o.tags=some val)=false;rw [HR.out];simp [hs])
   clear hs
   go_enter Tryz.func48,Tryz.ntmps48
   go_wp2_with fail
   refine HG.out.mono ?_
   rintro e w2 ⟨rfl,hb2⟩
   have B2:=below_step B1 (Nat.le_refl _) hb2
   have HC1:=Lib.hid (row_later hb2 HC0.out)
   have HO1:=Lib.hid (row_later hb2 HO0.out)
   have HCI2:=Lib.hid (HCI.out.later hb2)
   have HT2:=Lib.hid (HT.out.later hb2)
   have HV2:=Lib.hid (HV.out.later hb2)
   clear hb2
   obtain ⟨cz,c0,c1,c2,c3,c4⟩:=rk5 HC1.out
   go_wp2
   go_ret
   exact ⟨ret_bool HB.out.symm,B2.alloc (by have:=B2.size;simp;omega) _⟩
theorem cnodes_mem {ks:List CondD} {c:CondD} (h:c∈ks):cnodes c≤cnodesL ks:=by
 obtain ⟨i,hi⟩:=List.mem_iff_getElem?.1 h
 exact cnodes_kid _ _ _ hi
set_option maxRecDepth 100000 in
set_option maxHeartbeats 4000000 in
theorem holds6_any (o:ObjD) (vr vt:Value) (k:Nat) (IH:HoldsK o vr vt k) (key val:ByteArray) (n:Int) (ks:List CondD) (a:Option Addr) (cap:Nat) (w:World) (hk:cnodesL ks≤k) (hc:CondIs w (.mk 6 key val n ks) a) (ht:TagRow w vt o.tags) (he:Env w) :
  Calls Tryz.prog 48 #[.agg #[.int .i64 6,.string key,.string val,.int .i64 n,.slice a ks.length cap],obV o vr vt] w fun e w'=>e=.returned (.bool (holdsC o.tags (.mk 6 key val n ks)))∧Below w.heap.size w w':=by
 have B1:=((Below.refl w.heap.size w).alloc (Nat.le_refl _) (.cells #[.int .i64 6,.string key,.string val,.int .i64 n,.slice a ks.length cap] 24)).alloc (by simp) (.cells #[.string o.id,.int .i64 o.kind,.int .i64 o.x,.int .i64 o.y,vr,vt] 50)
 have HC0:=Lib.hid (row_past (o':=.cells #[.string o.id,.int .i64 o.kind,.int .i64 o.x,.int .i64 o.y,vr,vt] 50) (row_new w (.cells #[.int .i64 6,.string key,.string val,.int .i64 n,.slice a ks.length cap] 24)))
 have hO0:=row_new (w.alloc (.cells #[.int .i64 6,.string key,.string val,.int .i64 n,.slice a ks.length cap] 24)) (.cells #[.string o.id,.int .i64 o.kind,.int .i64 o.x,.int .i64 o.y,vr,vt] 50)
 simp only [World.size_alloc] at hO0
 have HO0:=Lib.hid hO0
 have HG:=Lib.hid (get_any vt o.tags key _ (ht.later B1))
 have HCI:=Lib.hid (hc.later B1)
 have HT:=Lib.hid (ht.later B1)
 have HV:=Lib.hid (he.later B1)
 have HE:=Lib.hid (holdsC_eq o.tags (.mk 6 key val n ks))
 have HSZ:=Lib.hid (ht.vals key)
 clear hO0 hc ht he
 obtain ⟨r,hr⟩:∃r,getB key o.tags=r:=⟨_,rfl⟩
 rw [hr] at HG HSZ
 have HR:=Lib.hid hr
 clear hr
 obtain ⟨R,hR⟩:∃R,anyK o.tags ks=R:=⟨_,rfl⟩
 have HB:=Lib.hid (show holdsC o.tags (.mk 6 key val n ks)=R by rw [HE.out];exact hR)
 have HRR:=Lib.hid ((any_holds o.tags ks).trans hR)
 rw [HB.out]
 clear hR
 go_enter Tryz.func48,Tryz.ntmps48
 go_wp2_with fail
 refine HG.out.mono ?_
 rintro e w2 ⟨rfl,hb2⟩
 have B2:=below_step B1 (Nat.le_refl _) hb2
 have HC1:=Lib.hid (row_later hb2 HC0.out)
 have HO1:=Lib.hid (row_later hb2 HO0.out)
 have HCI2:=Lib.hid (HCI.out.later hb2)
 have HT2:=Lib.hid (HT.out.later hb2)
 have HV2:=Lib.hid (HV.out.later hb2)
 clear hb2
 obtain ⟨cz,c0,c1,c2,c3,c4⟩:=rk5 HC1.out
 have hb23:=(Below.refl w2.heap.size w2).alloc (Nat.le_refl _) (.cells #[.func (.func 74) #[] #[.pointer (some ⟨w.heap.size+1,0,none⟩)]] 51)
 have B3:=B2.alloc (by have:=B2.size;simp;omega) (.cells #[.func (.func 74) #[] #[.pointer (some ⟨w.heap.size+1,0,none⟩)]] 51)
 have hF3:=row_new w2 (.cells #[.func (.func 74) #[] #[.pointer (some ⟨w.heap.size+1,0,none⟩)]] 51)
 have hC3:=row_later hb23 HC1.out
 have hO3:=row_later hb23 HO1.out
 have hCI3:=HCI2.out.later hb23
 have hT3:=HT2.out.later hb23
 have hV3:=HV2.out.later hb23
 have HH:=Lib.hid (hasH_any (fun c=>holdsC o.tags c) ks a cap (w.heap.size+1) _ hCI3.open.2.2.1 hCI3.open.2.2.2 (fun c a' cap' W hm hc hb=>closH_any o vr vt k _ IH c a' cap' W (Nat.le_trans (cnodes_mem hm) hk) hc (hT3.later hb) (hV3.later hb) (row_later hb hO3)))
 rw [HRR.out] at HH
 clear hF3 hC3 hO3 hCI3 hT3 hV3 hb23
 go_wp2_with fail
 refine HH.out.mono ?_
 rintro e w4 ⟨rfl,hb4⟩
 have B4:=below_step B3 (Nat.le_refl _) hb4
 go_wp2
 go_ret
 exact ⟨rfl,B4⟩
set_option maxRecDepth 100000 in
set_option maxHeartbeats 4000000 in
theorem holds4_any (o:ObjD) (vr vt:Value) (k:Nat) (IH:HoldsK o vr vt k) (key val:ByteArray) (n:Int) (ks:List CondD) (a:Option Addr) (cap:Nat) (w:World) (hk:cnodesL ks≤k) (hc:CondIs w (.mk 4 key val n ks) a) (ht:TagRow w vt o.tags) (he:Env w) :
  Calls Tryz.prog 48 #[.agg #[.int .i64 4,.string key,.string val,.int .i64 n,.slice a ks.length cap],obV o vr vt] w fun e w'=>e=.returned (.bool (holdsC o.tags (.mk 4 key val n ks)))∧Below w.heap.size w w':=by
  have B1:=((Below.refl w.heap.size w).alloc (Nat.le_refl _) (.cells #[.int .i64 4,.string key,.string val,.int .i64 n,.slice a ks.length cap] 24)).alloc (by simp) (.cells #[.string o.id,.int .i64 o.kind,.int .i64 o.x,.int .i64 o.y,vr,vt] 50)
  have HC0:=Lib.hid (row_past (o':=.cells #[.string o.id,.int .i64 o.kind,.int .i64 o.x,.int .i64 o.y,vr,vt] 50) (row_new w (.cells #[.int .i64 4,.string key,.string val,.int .i64 n,.slice a ks.length cap] 24)))
  have hO0:=row_new (w.alloc (.cells #[.int .i64 4,.string key,.string val,.int .i64 n,.slice a ks.length cap] 24)) (.cells #[.string o.id,.int .i64 o.kind,.int .i64 o.x,.int .i64 o.y,vr,vt] 50)
  simp only [World.size_alloc] at hO0
  have HO0:=Lib.hid hO0
  have HG:=Lib.hid (get_any vt o.tags key _ (ht.later B1))
  have HCI:=Lib.hid (hc.later B1)
  have HT:=Lib.hid (ht.later B1)
  have HV:=Lib.hid (he.later B1)
  have HE:=Lib.hid (holdsC_eq o.tags (.mk 4 key val n ks))
  have HSZ:=Lib.hid (ht.vals key)
  clear hO0 hc ht he
  obtain ⟨r,hr⟩:∃r,getB key o.tags=r:=⟨_,rfl⟩
  rw [hr] at HG HSZ
  have HR:=Lib.hid hr
  clear hr
  obtain ⟨R,hR⟩:∃R,allK o.tags ks=R:=⟨_,rfl⟩
  have HRR:=Lib.hid ((any_fails o.tags ks).trans (congrArg not hR))
  have HB:=Lib.hid (show holdsC o.tags (.mk 4 key val n ks)=(!R) by rw [HE.out,←hR];rfl)
  rw [HB.out]
  clear hR
  go_enter Tryz.func48,Tryz.ntmps48
  go_wp2_with fail
  refine HG.out.mono ?_
  rintro e w2 ⟨rfl,hb2⟩
  have B2:=below_step B1 (Nat.le_refl _) hb2
  have HC1:=Lib.hid (row_later hb2 HC0.out)
  have HO1:=Lib.hid (row_later hb2 HO0.out)
  have HCI2:=Lib.hid (HCI.out.later hb2)
  have HT2:=Lib.hid (HT.out.later hb2)
  have HV2:=Lib.hid (HV.out.later hb2)
  clear hb2
  obtain ⟨cz,c0,c1,c2,c3,c4⟩:=rk5 HC1.out
  have hb23:=(Below.refl w2.heap.size w2).alloc (Nat.le_refl _) (.cells #[.func (.func 74) #[] #[.pointer (some ⟨w.heap.size+1,0,none⟩)]] 51)
  have B3:=B2.alloc (by have:=B2.size;simp;omega) (.cells #[.func (.func 74) #[] #[.pointer (some ⟨w.heap.size+1,0,none⟩)]] 51)
  have hF3:=row_new w2 (.cells #[.func (.func 74) #[] #[.pointer (some ⟨w.heap.size+1,0,none⟩)]] 51)
  have hC3:=row_later hb23 HC1.out
  have hO3:=row_later hb23 HO1.out
  have hCI3:=HCI2.out.later hb23
  have hT3:=HT2.out.later hb23
  have hV3:=HV2.out.later hb23
  go_wp2
  generalize hw3:w2.alloc (.cells #[.func (.func 74) #[] #[.pointer (some ⟨w.heap.size+1,0,none⟩)]] 51)=w3
  rw [hw3] at hb23 B3 hF3 hC3 hO3 hCI3 hT3 hV3
  have HH:=Lib.hid (fun W (hbW:Below w3.heap.size w3 W)=>hasF_any (fun c=>!holdsC o.tags c) ks a cap w2.heap.size W hCI3.open.2.2.1 (hCI3.later hbW).open.2.2.2 (fun c a' cap' W2 hm hc hb=>closF_any o vr vt k (w.heap.size+1) _ IH c a' cap' W2 (Nat.le_trans (cnodes_mem hm) hk) hc (hT3.later (below_step hbW (Nat.le_refl _) hb)) (hV3.later (below_step hbW (Nat.le_refl _) hb)) (row_later (below_step hbW (Nat.le_refl _) hb) hO3) (row_later (below_step hbW (Nat.le_refl _) hb) hF3)))
  simp only [HRR.out] at HH
  have HC3:=Lib.hid hC3
  clear hF3 hC3 hO3 hCI3 hT3 hV3 hb23 hw3 B2
  clear c0 c1 c2 c3 c4 cz
  obtain ⟨dz,d0,d1,d2,d3,d4⟩:=rk5 HC3.out
  have qd0:=cell_belowBy d0
  have qd1:=cell_belowBy d1
  have qd2:=cell_belowBy d2
  have qd3:=cell_belowBy d3
  have qd4:=cell_belowBy d4
  clear d0 d1 d2 d3 d4
  have hmx:Tryz.prog.follows .mixedOrders=true:=by kernel_rfl
  cases R
  all_goals
   refine wp_region_quiet_below (by assumption) (by kernel_rfl) ?_
   repeat (go_big_quiet_step (first | (go_at_call 79;exact calls_belowBy (HH.out _ (BelowBy.below _)))))
   refine wpQuiet_nil ?_
   intro w6 hw'
   obtain ⟨⟨w7,hb7⟩,hw''⟩:=hw'
   subst hw''
   have B7:=below_step B3 (Nat.le_refl _) hb7
   go_wp2
   go_ret
   exact ⟨rfl,B7⟩
set_option maxRecDepth 100000 in
set_option maxHeartbeats 4000000 in
theorem holds5_any (o:ObjD) (vr vt:Value) (k:Nat) (IH:HoldsK o vr vt k) (key val:ByteArray) (n:Int) (ks:List CondD) (a:Option Addr) (cap:Nat) (w:World) (hk:cnodesL ks≤k) (hc:CondIs w (.mk 5 key val n ks) a) (ht:TagRow w vt o.tags) (he:Env w) :
  Calls Tryz.prog 48 #[.agg #[.int .i64 5,.string key,.string val,.int .i64 n,.slice a ks.length cap],obV o vr vt] w fun e w'=>e=.returned (.bool (holdsC o.tags (.mk 5 key val n ks)))∧Below w.heap.size w w':=by
  have B1:=((Below.refl w.heap.size w).alloc (Nat.le_refl _) (.cells #[.int .i64 5,.string key,.string val,.int .i64 n,.slice a ks.length cap] 24)).alloc (by simp) (.cells #[.string o.id,.int .i64 o.kind,.int .i64 o.x,.int .i64 o.y,vr,vt] 50)
  have HC0:=Lib.hid (row_past (o':=.cells #[.string o.id,.int .i64 o.kind,.int .i64 o.x,.int .i64 o.y,vr,vt] 50) (row_new w (.cells #[.int .i64 5,.string key,.string val,.int .i64 n,.slice a ks.length cap] 24)))
  have hO0:=row_new (w.alloc (.cells #[.int .i64 5,.string key,.string val,.int .i64 n,.slice a ks.length cap] 24)) (.cells #[.string o.id,.int .i64 o.kind,.int .i64 o.x,.int .i64 o.y,vr,vt] 50)
  simp only [World.size_alloc] at hO0
  have HO0:=Lib.hid hO0
  have HG:=Lib.hid (get_any vt o.tags key _ (ht.later B1))
  have HCI:=Lib.hid (hc.later B1)
  have HT:=Lib.hid (ht.later B1)
  have HV:=Lib.hid (he.later B1)
  have HE:=Lib.hid (holdsC_eq o.tags (.mk 5 key val n ks))
  have HSZ:=Lib.hid (ht.vals key)
  clear hO0 hc ht he
  obtain ⟨r,hr⟩:∃r,getB key o.tags=r:=⟨_,rfl⟩
  rw [hr] at HG HSZ
  have HR:=Lib.hid hr
  clear hr
  obtain ⟨R,hR⟩:∃R,allK o.tags ks=R:=⟨_,rfl⟩
  have HRR:=Lib.hid ((any_fails o.tags ks).trans (congrArg not hR))
  have HB:=Lib.hid (show holdsC o.tags (.mk 5 key val n ks)=R by rw [HE.out,←hR];rfl)
  rw [HB.out]
  clear hR
  go_enter Tryz.func48,Tryz.ntmps48
  go_wp2_with fail
  refine HG.out.mono ?_
  rintro e w2 ⟨rfl,hb2⟩
  have B2:=below_step B1 (Nat.le_refl _) hb2
  have HC1:=Lib.hid (row_later hb2 HC0.out)
  have HO1:=Lib.hid (row_later hb2 HO0.out)
  have HCI2:=Lib.hid (HCI.out.later hb2)
  have HT2:=Lib.hid (HT.out.later hb2)
  have HV2:=Lib.hid (HV.out.later hb2)
  clear hb2
  obtain ⟨cz,c0,c1,c2,c3,c4⟩:=rk5 HC1.out
  have hb23:=(Below.refl w2.heap.size w2).alloc (Nat.le_refl _) (.cells #[.func (.func 74) #[] #[.pointer (some ⟨w.heap.size+1,0,none⟩)]] 51)
  have B3:=B2.alloc (by have:=B2.size;simp;omega) (.cells #[.func (.func 74) #[] #[.pointer (some ⟨w.heap.size+1,0,none⟩)]] 51)
  have hF3:=row_new w2 (.cells #[.func (.func 74) #[] #[.pointer (some ⟨w.heap.size+1,0,none⟩)]] 51)
  have hC3:=row_later hb23 HC1.out
  have hO3:=row_later hb23 HO1.out
  have hCI3:=HCI2.out.later hb23
  have hT3:=HT2.out.later hb23
  have hV3:=HV2.out.later hb23
  go_wp2
  generalize hw3:w2.alloc (.cells #[.func (.func 74) #[] #[.pointer (some ⟨w.heap.size+1,0,none⟩)]] 51)=w3
  rw [hw3] at hb23 B3 hF3 hC3 hO3 hCI3 hT3 hV3
  have HH:=Lib.hid (fun W (hbW:Below w3.heap.size w3 W)=>hasF_any (fun c=>!holdsC o.tags c) ks a cap w2.heap.size W hCI3.open.2.2.1 (hCI3.later hbW).open.2.2.2 (fun c a' cap' W2 hm hc hb=>closF_any o vr vt k (w.heap.size+1) _ IH c a' cap' W2 (Nat.le_trans (cnodes_mem hm) hk) hc (hT3.later (below_step hbW (Nat.le_refl _) hb)) (hV3.later (below_step hbW (Nat.le_refl _) hb)) (row_later (below_step hbW (Nat.le_refl _) hb) hO3) (row_later (below_step hbW (Nat.le_refl _) hb) hF3)))
  simp only [HRR.out] at HH
  have HC3:=Lib.hid hC3
  clear hF3 hC3 hO3 hCI3 hT3 hV3 hb23 hw3 B2
  clear c0 c1 c2 c3 c4 cz
  obtain ⟨dz,d0,d1,d2,d3,d4⟩:=rk5 HC3.out
  have qd0:=cell_belowBy d0
  have qd1:=cell_belowBy d1
  have qd2:=cell_belowBy d2
  have qd3:=cell_belowBy d3
  have qd4:=cell_belowBy d4
  clear d0 d1 d2 d3 d4
  have hmx:Tryz.prog.follows .mixedOrders=true:=by kernel_rfl
  cases R
  all_goals
   refine wp_region_quiet_below (by assumption) (by kernel_rfl) ?_
   repeat (go_big_quiet_step (first | (go_at_call 79;exact calls_belowBy (HH.out _ (BelowBy.below _)))))
   refine wpQuiet_nil ?_
   intro w6 hw'
   obtain ⟨⟨w7,hb7⟩,hw''⟩:=hw'
   subst hw''
   have B7:=below_step B3 (Nat.le_refl _) hb7
   go_wp2
   go_ret
   exact ⟨rfl,B7⟩
set_option maxRecDepth 100000 in
set_option maxHeartbeats 4000000 in
theorem holds7_any (o:ObjD) (vr vt:Value) (k:Nat) (_IH:HoldsK o vr vt k) (key val:ByteArray) (n:Int) (ks:List CondD) (a:Option Addr) (cap:Nat) (w:World) (_hk:cnodesL ks≤k) (hc:CondIs w (.mk 7 key val n ks) a) (ht:TagRow w vt o.tags) (he:Env w) :
  Calls Tryz.prog 48 #[.agg #[.int .i64 7,.string key,.string val,.int .i64 n,.slice a ks.length cap],obV o vr vt] w fun e w'=>e=.returned (.bool (holdsC o.tags (.mk 7 key val n ks)))∧Below w.heap.size w w':=by
 have B1:=((Below.refl w.heap.size w).alloc (Nat.le_refl _) (.cells #[.int .i64 7,.string key,.string val,.int .i64 n,.slice a ks.length cap] 24)).alloc (by simp) (.cells #[.string o.id,.int .i64 o.kind,.int .i64 o.x,.int .i64 o.y,vr,vt] 50)
 have HC0:=Lib.hid (row_past (o':=.cells #[.string o.id,.int .i64 o.kind,.int .i64 o.x,.int .i64 o.y,vr,vt] 50) (row_new w (.cells #[.int .i64 7,.string key,.string val,.int .i64 n,.slice a ks.length cap] 24)))
 have hO0:=row_new (w.alloc (.cells #[.int .i64 7,.string key,.string val,.int .i64 n,.slice a ks.length cap] 24)) (.cells #[.string o.id,.int .i64 o.kind,.int .i64 o.x,.int .i64 o.y,vr,vt] 50)
 simp only [World.size_alloc] at hO0
 have HO0:=Lib.hid hO0
 have HG:=Lib.hid (get_any vt o.tags key _ (ht.later B1))
 have HCI:=Lib.hid (hc.later B1)
 have HT:=Lib.hid (ht.later B1)
 have HV:=Lib.hid (he.later B1)
 have HE:=Lib.hid (holdsC_eq o.tags (.mk 7 key val n ks))
 have HSZ:=Lib.hid (ht.vals key)
 clear hO0 hc ht he
 obtain ⟨r,hr⟩:∃r,getB key o.tags=r:=⟨_,rfl⟩
 rw [hr] at HG HSZ
 have HR:=Lib.hid hr
 clear hr
 cases r with
 |none =>
  have HDG:=Lib.hid (fun W=>digs_any ⟨#[]⟩ W)
  have HAT:=Lib.hid (fun W he=>atoiS_any ⟨#[]⟩ (by decide) W he)
  have HB:=Lib.hid (show holdsC o.tags (.mk 7 key val n ks)=false by rw [HE.out];show ((getB key o.tags).any fun s=>moreT s n)=false;rw [HR.out];rfl)
  go_enter Tryz.func48,Tryz.ntmps48
  go_wp2_with fail
  refine HG.out.mono ?_
  rintro e w2 ⟨rfl,hb2⟩
  have B2:=below_step B1 (Nat.le_refl _) hb2
  have HC1:=Lib.hid (row_later hb2 HC0.out)
  have HO1:=Lib.hid (row_later hb2 HO0.out)
  have HCI2:=Lib.hid (HCI.out.later hb2)
  have HT2:=Lib.hid (HT.out.later hb2)
  have HV2:=Lib.hid (HV.out.later hb2)
  clear hb2
  obtain ⟨cz,c0,c1,c2,c3,c4⟩:=rk5 HC1.out
  have hb23:=(Below.refl w2.heap.size w2).alloc (Nat.le_refl _) (.cells #[.func (.func 74) #[] #[.pointer (some ⟨w.heap.size+1,0,none⟩)]] 51)
  have B3:=B2.alloc (by have:=B2.size;simp;omega) (.cells #[.func (.func 74) #[] #[.pointer (some ⟨w.heap.size+1,0,none⟩)]] 51)
  have hF3:=row_new w2 (.cells #[.func (.func 74) #[] #[.pointer (some ⟨w.heap.size+1,0,none⟩)]] 51)
  have hC3:=row_later hb23 HC1.out
  have hO3:=row_later hb23 HO1.out
  have hCI3:=HCI2.out.later hb23
  have hT3:=HT2.out.later hb23
  have hV3:=HV2.out.later hb23
  have HC3:=Lib.hid hC3
  have HV3:=Lib.hid hV3
  clear hF3 hC3 hO3 hCI3 hT3 hV3 hb23 HO1 HCI2 HT2 HV2
  go_wp2_with fail
  refine (HDG.out _).mono ?_
  rintro e w4 ⟨rfl,hb4⟩
  have B4:=below_step B3 (Nat.le_refl _) hb4
  have HV4:=Lib.hid (HV3.out.later hb4)
  have HC4:=Lib.hid (row_later hb4 HC3.out)
  clear hb4 HC3 HV3 B3
  go_wp2_with fail
  refine (HAT.out _ HV4.out).mono ?_
  rintro e w5 ⟨⟨v,er,rfl,hcase⟩,hb5⟩
  have B5:=below_step B4 (Nat.le_refl _) hb5
  have HC5:=Lib.hid (row_later hb5 HC4.out)
  clear hb5 HC4 HV4 B4
  obtain ⟨dz,d0,d1,d2,d3,d4⟩:=rk5 HC5.out
  obtain ⟨D,hD⟩:∃D,digsB ⟨#[]⟩=D:=⟨_,rfl⟩
  rcases hcase with ⟨rfl,hv⟩ | ⟨p,rfl,hv⟩
  all_goals
   clear hv
   go_wp2
   go_ret
   exact ⟨ret_bool HB.out.symm,B5⟩
 |some s =>
  have hsz:=HSZ.out s rfl
  have HDG:=Lib.hid (fun W=>digs_any s W)
  have HAT:=Lib.hid (fun W he=>atoiS_any s (by omega) W he)
  have HM:=Lib.hid (show holdsC o.tags (.mk 7 key val n ks)=moreT s n by rw [HE.out];show ((getB key o.tags).any fun s=>moreT s n)=moreT s n;rw [HR.out];rfl)
  cases hD:digsB s
  ·have HB:=Lib.hid (show holdsC o.tags (.mk 7 key val n ks)=false by rw [HM.out,moreT,hD];rfl)
   rw [hD] at HDG
   clear hD
   go_enter Tryz.func48,Tryz.ntmps48
   go_wp2_with fail
   refine HG.out.mono ?_
   rintro e w2 ⟨rfl,hb2⟩
   have B2:=below_step B1 (Nat.le_refl _) hb2
   have HC1:=Lib.hid (row_later hb2 HC0.out)
   have HO1:=Lib.hid (row_later hb2 HO0.out)
   have HCI2:=Lib.hid (HCI.out.later hb2)
   have HT2:=Lib.hid (HT.out.later hb2)
   have HV2:=Lib.hid (HV.out.later hb2)
   clear hb2
   obtain ⟨cz,c0,c1,c2,c3,c4⟩:=rk5 HC1.out
   have hb23:=(Below.refl w2.heap.size w2).alloc (Nat.le_refl _) (.cells #[.func (.func 74) #[] #[.pointer (some ⟨w.heap.size+1,0,none⟩)]] 51)
   have B3:=B2.alloc (by have:=B2.size;simp;omega) (.cells #[.func (.func 74) #[] #[.pointer (some ⟨w.heap.size+1,0,none⟩)]] 51)
   have hF3:=row_new w2 (.cells #[.func (.func 74) #[] #[.pointer (some ⟨w.heap.size+1,0,none⟩)]] 51)
   have hC3:=row_later hb23 HC1.out
   have hO3:=row_later hb23 HO1.out
   have hCI3:=HCI2.out.later hb23
   have hT3:=HT2.out.later hb23
   have hV3:=HV2.out.later hb23
   have HC3:=Lib.hid hC3
   have HV3:=Lib.hid hV3
   clear hF3 hC3 hO3 hCI3 hT3 hV3 hb23 HO1 HCI2 HT2 HV2
   go_wp2_with fail
   refine (HDG.out _).mono ?_
   rintro e w4 ⟨rfl,hb4⟩
   have B4:=below_step B3 (Nat.le_refl _) hb4
   have HV4:=Lib.hid (HV3.out.later hb4)
   have HC4:=Lib.hid (row_later hb4 HC3.out)
   clear hb4 HC3 HV3 B3
   go_wp2_with fail
   refine (HAT.out _ HV4.out).mono ?_
   rintro e w5 ⟨⟨v,er,rfl,hcase⟩,hb5⟩
   have B5:=below_step B4 (Nat.le_refl _) hb5
   have HC5:=Lib.hid (row_later hb5 HC4.out)
   clear hb5 HC4 HV4 B4
   obtain ⟨dz,d0,d1,d2,d3,d4⟩:=rk5 HC5.out
   clear hcase
   go_wp2
   go_ret
   exact ⟨ret_bool HB.out.symm,B5⟩
  ·rw [hD] at HDG
   by_cases h7:s.size≤7
   ·have d7:decide ((s.size:Int)≤7)=true:=by rw [decide_eq_true_eq];omega
    go_enter Tryz.func48,Tryz.ntmps48
    go_wp2_with fail
    refine HG.out.mono ?_
    rintro e w2 ⟨rfl,hb2⟩
    have B2:=below_step B1 (Nat.le_refl _) hb2
    have HC1:=Lib.hid (row_later hb2 HC0.out)
    have HO1:=Lib.hid (row_later hb2 HO0.out)
    have HCI2:=Lib.hid (HCI.out.later hb2)
    have HT2:=Lib.hid (HT.out.later hb2)
    have HV2:=Lib.hid (HV.out.later hb2)
    clear hb2
    obtain ⟨cz,c0,c1,c2,c3,c4⟩:=rk5 HC1.out
    have hb23:=(Below.refl w2.heap.size w2).alloc (Nat.le_refl _) (.cells #[.func (.func 74) #[] #[.pointer (some ⟨w.heap.size+1,0,none⟩)]] 51)
    have B3:=B2.alloc (by have:=B2.size;simp;omega) (.cells #[.func (.func 74) #[] #[.pointer (some ⟨w.heap.size+1,0,none⟩)]] 51)
    have hF3:=row_new w2 (.cells #[.func (.func 74) #[] #[.pointer (some ⟨w.heap.size+1,0,none⟩)]] 51)
    have hC3:=row_later hb23 HC1.out
    have hO3:=row_later hb23 HO1.out
    have hCI3:=HCI2.out.later hb23
    have hT3:=HT2.out.later hb23
    have hV3:=HV2.out.later hb23
    have HC3:=Lib.hid hC3
    have HV3:=Lib.hid hV3
    clear hF3 hC3 hO3 hCI3 hT3 hV3 hb23 HO1 HCI2 HT2 HV2
    go_wp2_with fail
    refine (HDG.out _).mono ?_
    rintro e w4 ⟨rfl,hb4⟩
    have B4:=below_step B3 (Nat.le_refl _) hb4
    have HV4:=Lib.hid (HV3.out.later hb4)
    have HC4:=Lib.hid (row_later hb4 HC3.out)
    clear hb4 HC3 HV3 B3
    go_wp2_with fail
    refine (HAT.out _ HV4.out).mono ?_
    rintro e w5 ⟨⟨v,er,rfl,hcase⟩,hb5⟩
    have B5:=below_step B4 (Nat.le_refl _) hb5
    have HC5:=Lib.hid (row_later hb5 HC4.out)
    clear hb5 HC4 HV4 B4
    obtain ⟨dz,d0,d1,d2,d3,d4⟩:=rk5 HC5.out
    rcases hcase with ⟨rfl,hv⟩ | ⟨p,rfl,hv⟩
    ·by_cases hn:n<v
     ·have dn:decide (n<v)=true:=decide_eq_true hn
      have HB:=Lib.hid (show holdsC o.tags (.mk 7 key val n ks)=true by rw [HM.out,moreT,hD,hv,decide_eq_true h7];exact dn)
      clear hn hv hD h7
      go_wp2
      go_ret
      exact ⟨ret_bool HB.out.symm,B5⟩
     ·have dn:decide (n<v)=false:=decide_eq_false hn
      have HB:=Lib.hid (show holdsC o.tags (.mk 7 key val n ks)=false by rw [HM.out,moreT,hD,hv,decide_eq_true h7];exact dn)
      clear hn hv hD h7
      go_wp2
      go_ret
      exact ⟨ret_bool HB.out.symm,B5⟩
    ·have HB:=Lib.hid (show holdsC o.tags (.mk 7 key val n ks)=false by rw [HM.out,moreT,hv];simp)
     clear hv hD h7
     go_wp2
     go_ret
     exact ⟨ret_bool HB.out.symm,B5⟩
   ·have d7:decide ((s.size:Int)≤7)=false:=by rw [decide_eq_false_iff_not];omega
    have HB:=Lib.hid (show holdsC o.tags (.mk 7 key val n ks)=false by rw [HM.out,moreT,decide_eq_false h7];simp)
    clear hD h7
    go_enter Tryz.func48,Tryz.ntmps48
    go_wp2_with fail
    refine HG.out.mono ?_
    rintro e w2 ⟨rfl,hb2⟩
    have B2:=below_step B1 (Nat.le_refl _) hb2
    have HC1:=Lib.hid (row_later hb2 HC0.out)
    have HO1:=Lib.hid (row_later hb2 HO0.out)
    have HCI2:=Lib.hid (HCI.out.later hb2)
    have HT2:=Lib.hid (HT.out.later hb2)
    have HV2:=Lib.hid (HV.out.later hb2)
    clear hb2
    obtain ⟨cz,c0,c1,c2,c3,c4⟩:=rk5 HC1.out
    have hb23:=(Below.refl w2.heap.size w2).alloc (Nat.le_refl _) (.cells #[.func (.func 74) #[] #[.pointer (some ⟨w.heap.size+1,0,none⟩)]] 51)
    have B3:=B2.alloc (by have:=B2.size;simp;omega) (.cells #[.func (.func 74) #[] #[.pointer (some ⟨w.heap.size+1,0,none⟩)]] 51)
    have hF3:=row_new w2 (.cells #[.func (.func 74) #[] #[.pointer (some ⟨w.heap.size+1,0,none⟩)]] 51)
    have hC3:=row_later hb23 HC1.out
    have hO3:=row_later hb23 HO1.out
    have hCI3:=HCI2.out.later hb23
    have hT3:=HT2.out.later hb23
    have hV3:=HV2.out.later hb23
    have HC3:=Lib.hid hC3
    have HV3:=Lib.hid hV3
    clear hF3 hC3 hO3 hCI3 hT3 hV3 hb23 HO1 HCI2 HT2 HV2
    go_wp2_with fail
    refine (HDG.out _).mono ?_
    rintro e w4 ⟨rfl,hb4⟩
    have B4:=below_step B3 (Nat.le_refl _) hb4
    have HV4:=Lib.hid (HV3.out.later hb4)
    have HC4:=Lib.hid (row_later hb4 HC3.out)
    clear hb4 HC3 HV3 B3
    go_wp2_with fail
    refine (HAT.out _ HV4.out).mono ?_
    rintro e w5 ⟨⟨v,er,rfl,hcase⟩,hb5⟩
    have B5:=below_step B4 (Nat.le_refl _) hb5
    have HC5:=Lib.hid (row_later hb5 HC4.out)
    clear hb5 HC4 HV4 B4
    obtain ⟨dz,d0,d1,d2,d3,d4⟩:=rk5 HC5.out
    clear hcase
    go_wp2
    go_ret
    exact ⟨ret_bool HB.out.symm,B5⟩
set_option maxRecDepth 100000 in
set_option maxHeartbeats 4000000 in
theorem holdsX_any (o:ObjD) (vr vt:Value) (op:Int) (hop:op≠2∧op≠3∧op≠4∧op≠5∧op≠6∧op≠7) (key val:ByteArray) (n:Int) (ks:List CondD) (a:Option Addr) (cap:Nat) (w:World) (hc:CondIs w (.mk op key val n ks) a) (ht:TagRow w vt o.tags) (he:Env w) :
  Calls Tryz.prog 48 #[.agg #[.int .i64 op,.string key,.string val,.int .i64 n,.slice a ks.length cap],obV o vr vt] w fun e w'=>e=.returned (.bool (holdsC o.tags (.mk op key val n ks)))∧Below w.heap.size w w':=by
 have B1:=((Below.refl w.heap.size w).alloc (Nat.le_refl _) (.cells #[.int .i64 op,.string key,.string val,.int .i64 n,.slice a ks.length cap] 24)).alloc (by simp) (.cells #[.string o.id,.int .i64 o.kind,.int .i64 o.x,.int .i64 o.y,vr,vt] 50)
 have HC0:=Lib.hid (row_past (o':=.cells #[.string o.id,.int .i64 o.kind,.int .i64 o.x,.int .i64 o.y,vr,vt] 50) (row_new w (.cells #[.int .i64 op,.string key,.string val,.int .i64 n,.slice a ks.length cap] 24)))
 have hO0:=row_new (w.alloc (.cells #[.int .i64 op,.string key,.string val,.int .i64 n,.slice a ks.length cap] 24)) (.cells #[.string o.id,.int .i64 o.kind,.int .i64 o.x,.int .i64 o.y,vr,vt] 50)
 simp only [World.size_alloc] at hO0
 have HO0:=Lib.hid hO0
 have HG:=Lib.hid (get_any vt o.tags key _ (ht.later B1))
 have HCI:=Lib.hid (hc.later B1)
 have HT:=Lib.hid (ht.later B1)
 have HV:=Lib.hid (he.later B1)
 have HE:=Lib.hid (holdsC_eq o.tags (.mk op key val n ks))
 have HSZ:=Lib.hid (ht.vals key)
 clear hO0 hc ht he
 obtain ⟨r,hr⟩:∃r,getB key o.tags=r:=⟨_,rfl⟩
 rw [hr] at HG HSZ
 have HR:=Lib.hid hr
 clear hr
 obtain ⟨h2,h3,h4,h5,h6,h7⟩:=hop
 have HB:=Lib.hid (show holdsC o.tags (.mk op key val n ks)=true by
  rw [HE.out]
  show (if op=2 then _ else if op=3 then _ else if op=7 then _ else if op=4 then _ else if op=5 then _ else if op=6 then _ else true)=true
  rw [if_neg h2,if_neg h3,if_neg h7,if_neg h4,if_neg h5,if_neg h6])
 have x2:(op==2)=false:=by rw [beq_eq_false_iff_ne];exact h2
 have x3:(op==3)=false:=by rw [beq_eq_false_iff_ne];exact h3
 have x4:(op==4)=false:=by rw [beq_eq_false_iff_ne];exact h4
 have x5:(op==5)=false:=by rw [beq_eq_false_iff_ne];exact h5
 have x6:(op==6)=false:=by rw [beq_eq_false_iff_ne];exact h6
 have x7:(op==7)=false:=by rw [beq_eq_false_iff_ne];exact h7
 clear h2 h3 h4 h5 h6 h7
 cases r
 all_goals
  go_enter Tryz.func48,Tryz.ntmps48
  go_wp2_with fail
  refine HG.out.mono ?_
  rintro e w2 ⟨rfl,hb2⟩
  have B2:=below_step B1 (Nat.le_refl _) hb2
  have HC1:=Lib.hid (row_later hb2 HC0.out)
  have HO1:=Lib.hid (row_later hb2 HO0.out)
  have HCI2:=Lib.hid (HCI.out.later hb2)
  have HT2:=Lib.hid (HT.out.later hb2)
  have HV2:=Lib.hid (HV.out.later hb2)
  clear hb2
  obtain ⟨cz,c0,c1,c2,c3,c4⟩:=rk5 HC1.out
  go_wp2
  go_ret
  exact ⟨ret_bool HB.out.symm,B2.alloc (by have:=B2.size;simp;omega) _⟩
theorem holds_step (o:ObjD) (vr vt:Value) (k:Nat) (IH:HoldsK o vr vt k):HoldsK o vr vt (k+1):=by
 intro c a cap w hk hc ht he
 obtain ⟨op,key,val,n,ks⟩:=c
 have hk2:cnodesL ks≤k:=by rw [cnodes] at hk;omega
 show Calls Tryz.prog 48 #[.agg #[.int .i64 op,.string key,.string val,.int .i64 n,.slice a ks.length cap],obV o vr vt] w _
 by_cases p2:op=2
 ·subst p2;exact holds2_any o vr vt k IH key val n ks a cap w hk2 hc ht he
 by_cases p3:op=3
 ·subst p3;exact holds3_any o vr vt k IH key val n ks a cap w hk2 hc ht he
 by_cases p4:op=4
 ·subst p4;exact holds4_any o vr vt k IH key val n ks a cap w hk2 hc ht he
 by_cases p5:op=5
 ·subst p5;exact holds5_any o vr vt k IH key val n ks a cap w hk2 hc ht he
 by_cases p6:op=6
 ·subst p6;exact holds6_any o vr vt k IH key val n ks a cap w hk2 hc ht he
 by_cases p7:op=7
 ·subst p7;exact holds7_any o vr vt k IH key val n ks a cap w hk2 hc ht he
 exact holdsX_any o vr vt op ⟨p2,p3,p4,p5,p6,p7⟩ key val n ks a cap w hc ht he
theorem holds_all (o:ObjD) (vr vt:Value):∀k,HoldsK o vr vt k
 |0=>fun c _ _ _ hk=>by have:=cnodes_pos c;omega
 |k+1=>holds_step o vr vt k (holds_all o vr vt k)
set_option maxHeartbeats 1000000 in
theorem Holds_any (c:CondD) (a:Option Addr) (cap:Nat) (o:ObjD) (vr vt:Value) (w:World) (hc:CondIs w c a) (ht:TagRow w vt o.tags) (he:Env w) :
  Calls Tryz.prog 22 #[condV c a cap,obV o vr vt] w fun e w'=>e=.returned (.bool (validC c && holdsC o.tags c))∧Below w.heap.size w w':=by
 have B1:=((Below.refl w.heap.size w).alloc (Nat.le_refl _) (.cells #[.int .i64 c.op,.string c.key,.string c.val,.int .i64 c.n,.slice a c.kids.length cap] 24)).alloc (by simp) (.cells #[.string o.id,.int .i64 o.kind,.int .i64 o.x,.int .i64 o.y,vr,vt] 50)
 have HC0:=Lib.hid (row_past (o':=.cells #[.string o.id,.int .i64 o.kind,.int .i64 o.x,.int .i64 o.y,vr,vt] 50) (row_new w (.cells #[.int .i64 c.op,.string c.key,.string c.val,.int .i64 c.n,.slice a c.kids.length cap] 24)))
 have hO0:=row_new (w.alloc (.cells #[.int .i64 c.op,.string c.key,.string c.val,.int .i64 c.n,.slice a c.kids.length cap] 24)) (.cells #[.string o.id,.int .i64 o.kind,.int .i64 o.x,.int .i64 o.y,vr,vt] 50)
 simp only [World.size_alloc] at hO0
 have HO0:=Lib.hid hO0
 have HVL:=Lib.hid (valid_any c a cap _ (hc.later B1))
 have HH:=Lib.hid (fun W (hb:Below w.heap.size w W)=>holds_all o vr vt (cnodes c) c a cap W (Nat.le_refl _) (hc.later hb) (ht.later hb) (he.later hb))
 obtain ⟨R,hR⟩:∃R,validC c=R:=⟨_,rfl⟩
 obtain ⟨S,hS⟩:∃S,holdsC o.tags c=S:=⟨_,rfl⟩
 rw [hR] at HVL ⊢
 rw [hS] at HH ⊢
 clear hO0 hc ht he hR hS
 rw [cond_cells] at HVL HH ⊢
 go_enter Tryz.func22,Tryz.ntmps22
 cases R
 ·go_wp2_with fail
  refine HVL.out.mono ?_
  rintro e w2 ⟨rfl,hb2⟩
  have B2:=below_step B1 (Nat.le_refl _) hb2
  go_wp2
  go_ret
  exact ⟨rfl,B2⟩
 ·go_wp2_with fail
  refine HVL.out.mono ?_
  rintro e w2 ⟨rfl,hb2⟩
  have B2:=below_step B1 (Nat.le_refl _) hb2
  have HC1:=Lib.hid (row_later hb2 HC0.out)
  have HO1:=Lib.hid (row_later hb2 HO0.out)
  obtain ⟨cz,c0,c1,c2,c3,c4⟩:=rk5 HC1.out
  obtain ⟨oz,o0,o1,o2,o3,o4,o5⟩:=rk6 HO1.out
  go_wp2_with fail
  refine (HH.out _ B2).mono ?_
  rintro e w3 ⟨rfl,hb3⟩
  have B3:=below_step B2 (Nat.le_refl _) hb3
  cases S
  all_goals
   go_wp2
   go_ret
   exact ⟨rfl,B3⟩
end Go.Proofs.YtdfenhjibnfdeaaGreatDoor
