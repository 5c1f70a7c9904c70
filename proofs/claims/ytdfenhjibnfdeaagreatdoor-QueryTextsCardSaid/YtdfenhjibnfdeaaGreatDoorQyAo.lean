/-      -/
import Derived.Test.YtdfenhjibnfdeaaGreatDoorQyAe
import Derived.Laws.EntriesVeiled
import Derived.Test.YtdfenhjibnfdeaaGreatDoorQyAc
import Derived.Test.YtdfenhjibnfdeaaGreatDoorQyAb
import Derived.Shelf.Strings.BuilderK
namespace Go.Proofs.YtdfenhjibnfdeaaGreatDoor
open Go.RowKit
def clsQ (n:Nat):Int :=
 if n=32∨n=9∨n=10 then 1 else if n=35 then 2 else if 97≤n∧n≤122∨65≤n∧n≤90 then 3 else if 48≤n∧n≤57 then 4 else if n=95 then 5
 else if ([59,44,46,58,40,41,123,125,91,93,61,60,62,47,45]:List Nat).contains n then 6 else if n=34 then 7 else 0
theorem cls_all:((List.range 256).all fun n=>decide (clsF n=clsQ n))=true:=by decide +kernel
theorem cls_eq {n:Nat} (h:n<256):clsF n=clsQ n:=by
 have:=List.all_eq_true.1 cls_all n (List.mem_range.2 h)
 simpa using this
def clAt (s:ByteArray) (i:Nat):Int:=if h:i<s.size then clsF s[i].toNat else 0
theorem clAt_lt {s:ByteArray} {i:Nat} (h:i<s.size):clAt s i=clsF s[i].toNat:=by rw [clAt,dif_pos h]
theorem clAt_ge {s:ByteArray} {i:Nat} (h:¬i<s.size):clAt s i=0:=by rw [clAt,dif_neg h]
set_option maxRecDepth 100000 in
set_option maxHeartbeats 1000000 in
theorem at_any (i Bt Bc:Nat) (s:ByteArray) (w:World) (ht:w.heap[Bt]?=some (.cells #[.string s] 9 (0,0))) (hc:w.heap[Bc]?=some (.cells (tabU clsF) 106 (0,0))) :
  Calls Tryz.prog 68 #[.int .i64 i,.pointer (some ⟨Bt,0,none⟩),.pointer (some ⟨Bc,0,none⟩)] w fun e w'=>e=.returned (.int .u8 (clAt s i))∧w'=w:=by
 obtain ⟨tz,t0⟩:=rk1 ht
 have ht':=Lib.hid ht
 clear ht
 by_cases hi:i<s.size
 ·have hu:=UInt8.toNat_lt s[i]
  have c0:w.cell? ⟨Bc,s[i].toNat,none⟩=some (.int .u8 (clsF s[i].toNat)):=(cell_of_row w _ s[i].toNat _ _ _ hc).trans (tabU_get _ _ hu)
  have HE:=Lib.hid (clAt_lt hi)
  have D1:decide ((s.size:Int)≤(i:Int))=false:=by rw [decide_eq_false_iff_not];omega
  have D2:decide (s.size≤i)=false:=by rw [decide_eq_false_iff_not];omega
  clear hc
  go_enter Tryz.func68,Tryz.ntmps68
  go_wp2
  go_ret
  exact ⟨ret_int HE.out.symm,rfl⟩
 ·have HE:=Lib.hid (clAt_ge hi)
  have D1:decide ((s.size:Int)≤(i:Int))=true:=by rw [decide_eq_true_eq];omega
  have D2:decide (s.size≤i)=true:=by rw [decide_eq_true_eq];omega
  clear hc
  go_enter Tryz.func68,Tryz.ntmps68
  go_wp2
  go_ret
  exact ⟨ret_int HE.out.symm,rfl⟩
set_option maxRecDepth 100000 in
theorem tokens_any (s:ByteArray) (w:World) :
  Calls Tryz.prog 41 #[.string s] w fun e w'=>∃Bt Bc Bf,e=.returned (.func (.func 69) #[] #[.pointer (some ⟨Bt,0,none⟩),.pointer (some ⟨Bf,0,none⟩)])∧w.heap.size≤Bt∧w.heap.size≤Bc∧w.heap.size≤Bf ∧
   w'.heap[Bt]?=some (.cells #[.string s] 9 (0,0))∧w'.heap[Bc]?=some (.cells (tabU clsF) 106 (0,0))∧w'.heap[Bf]?=some (.cells #[.func (.func 68) #[] #[.pointer (some ⟨Bt,0,none⟩),.pointer (some ⟨Bc,0,none⟩)]] 111 (0,0))∧Below w.heap.size w w':=by
 have hmf:∀(fn:Fn) (first cap:Array Value) (w:World),(Instr.makeFunc fn first cap).run Tryz.prog w=.ok (.func fn first cap) w:=fun _ _ _ _=>rfl
 go_enter Tryz.func41,Tryz.ntmps41
 go_wp2_with fail
 refine (classes_tab _).mono ?_;rintro e w1 ⟨rfl,hb1⟩
 have HS:=Lib.hid (show (Tryz.prog.info? 106).map (·.size)=some (tabU clsF).size by rw [tabU_size];kernel_rfl)
 have H2:=Lib.hid (show Tryz.zeroCells106.size=(tabU clsF).size by rw [←tabU_zero,tabU_size,tabU_size])
 go_wp2_with (refine wpList_store_row rfl 106 (.tmp 3) (.tmp 5) rfl w1.heap.size (tabU clsF) rfl rfl 106 Tryz.zeroCells106 (heap_alloc_new w1 _) HS.out H2.out (tabU_one _) ?_)
 have HB:=Lib.hid (setRow_heap _ w1.heap.size Tryz.zeroCells106 (tabU clsF) 106 (0,0) (heap_alloc_new w1 (.cells Tryz.zeroCells106 106)))
 have hb1s:=hb1.size
 have B2:Below w.heap.size w ((w1.alloc (.cells Tryz.zeroCells106 106)).setRow w1.heap.size (tabU clsF)):=below_setRow' ((((Below.refl _ w).alloc (Nat.le_refl _) _).trans (hb1.mono (by simp))).alloc (by simp at hb1s;omega) _) (by simp at hb1s;omega) _
 have HT:=Lib.hid (show ((w1.alloc (.cells Tryz.zeroCells106 106)).setRow w1.heap.size (tabU clsF)).heap[w.heap.size]?=some (.cells #[.string s] 9 (0,0)) by
  rw [setRow_other _ _ _ _ (by simp at hb1s;omega)]
  exact row_past (row_later hb1 (row_new w _)))
 have HZ:=Lib.hid (show ((w1.alloc (.cells Tryz.zeroCells106 106)).setRow w1.heap.size (tabU clsF)).heap.size=w1.heap.size+1 by simp)
 generalize hw2:(w1.alloc (.cells Tryz.zeroCells106 106)).setRow w1.heap.size (tabU clsF)=w2
 rw [hw2] at HB B2 HT HZ
 have bz:=lt_of_block HB.out
 clear hw2 HS H2 hb1
 go_wp2
 go_ret
 exact ⟨w.heap.size,w1.heap.size,w1.heap.size+1,rfl,Nat.le_refl _,by simp at hb1s;omega,by simp at hb1s;omega,row_past HT.out,row_past HB.out,by rw [←HZ.out];exact row_new w2 _,B2.alloc B2.size _⟩
end Go.Proofs.YtdfenhjibnfdeaaGreatDoor

namespace Go.Proofs.YtdfenhjibnfdeaaGreatDoor
open Go.RowKit Go.Shelf
structure BldT (T:TypeId):Prop where
 lies:liesAt Tryz.prog Tryz.prog.depth T (2 / Tryz.prog.cellsOf T) 0 92 1=true
 ne:T≠5
theorem bldB:BldT 92:=⟨by kernel_rfl,by decide⟩
theorem bdSize:(Tryz.prog.info? 92).map (·.size)=some 2:=by kernel_rfl
theorem infoU8:(Tryz.prog.info? 5).map (fun i=>(i.zero,i.size,i.bytes))=some (some (.int .u8 0),1,1):=by kernel_rfl
abbrev BldF (T:TypeId) (B b:Nat) (bs:List Value) (w:World):Prop:=Lib.IsBuilderF T 5 B b bs w
abbrev BldU (T:TypeId) (B b:Nat) (bs:List Value) (w:World):Prop:=Lib.BuilderAtF T 5 B b (.pointer (some ⟨b,0,none⟩)) bs w
variable {T:TypeId}
set_option maxRecDepth 100000 in
set_option maxHeartbeats 1000000 in
theorem bcopy_any (hT:BldT T) (B b:Nat) (bs:List Value) (w:World) (h:BldF T B b bs w) :
  Calls Tryz.prog 71 #[.pointer (some ⟨b,0,none⟩)] w fun e w'=>e=.returned (.tuple #[])∧BldU T B b bs w'∧Below B w w'∧Lib.OthersKept 5 (some b) w w':=by
 obtain ⟨j,hj,hjs⟩:=Option.map_eq_some_iff.1 bdSize
 rcases h with h | h
 ·have h0:=h.cell0
  have hsh:=h.shape
  have hfz:=h.frozen0
  go_enter Tryz.func71,Tryz.ntmps71
  go_wp2
  rw [Lib.run_to_unsafe w ⟨b,0,none⟩ Tryz.underlying89 Tryz.underlying132 hj (by rw [hjs];decide) hsh (Nat.zero_lt_succ 1)]
  simp only [Result.andThen]
  rw [Oper.upon_value]
  go_wp2
  rw [run_callFunc_extern Tryz.func103 (by kernel_rfl) (by kernel_rfl) (by kernel_rfl) (e:=Extern.AbiNoEscape.same) (by kernel_rfl)]
  rw [Lib.run_noEscape]
  simp only [Result.andThen]
  rw [Oper.upon_value]
  go_wp2
  rw [Lib.run_from_unsafe w ⟨b,0,none⟩ Tryz.underlying132 Tryz.underlying89 hj hsh hT.lies]
  simp only [Result.andThen]
  rw [Oper.upon_value]
  go_wp2
  go_end0
  exact ⟨rfl,h.used _,(Below.refl B w).setCell (p:=⟨b,0,none⟩) h.1 _,(Lib.OthersKept.refl _ _ w).setCell ⟨b,0,none⟩ rfl _⟩
 ·have h0:=h.cell0
  go_enter Tryz.func71,Tryz.ntmps71
  go_wp2
  rw [Lib.run_neq_ptr_same w _ Tryz.underlying89 hj]
  go_wp2
  go_end0
  exact ⟨rfl,h,Below.refl B _,Lib.OthersKept.refl _ _ _⟩
set_option maxRecDepth 100000 in
set_option maxHeartbeats 2000000 in
theorem bbyte_any (hT:BldT T) (B b:Nat) (bs:List Value) (c:Int) (w:World) (h:BldF T B b bs w) (hlen:bs.length+1≤140737488355328) (hBw:B≤w.heap.size) :
  Calls Tryz.prog 42 #[.pointer (some ⟨b,0,none⟩),.int .u8 c] w fun e w'=>e=.returned .nilIface∧BldU T B b (bs++[.int .u8 c]) w'∧Below B w w'∧Lib.OthersKept 5 (some b) w w':=by
 obtain ⟨i0,hi,hz0,hz1,hz2⟩:=info_parts infoU8
 have CC:=Lib.hid (bcopy_any hT B b bs w h)
 go_enter Tryz.func42,Tryz.ntmps42
 go_wp2_with (go_at_call 71;refine CC.out.mono ?_)
 rintro e w1 ⟨rfl,h1,hb1,hk1⟩
 obtain ⟨hB,v,hbk,hown,hne⟩:=h1
 have c0:w1.cell? ⟨b,0,none⟩=some (.pointer (some ⟨b,0,none⟩)):=by rw [Lib.cell_of_heap hbk];rfl
 have c1:w1.cell? ⟨b,1,none⟩=some v:=by rw [Lib.cell_of_heap hbk];rfl
 go_wp2_with (at_builtin;refine wpList_append_ownF _ rfl _ _ 90 rfl B 5 i0 (.int .u8 0) 1 1 Tryz.underlying90 hi hz0 hz1 hz2 rfl (by decide) _ _ _ rfl (hown.alloc _) ⟨w1.heap.size,0,none⟩ 1 1 [.int .u8 c] rfl rfl ?c1 ?c2 ?c3 ?c4 ?c5 ?_)
 case c1 =>
  intro j u hj
  match j,hj with
  |0,hj=>simp at hj;subst hj;simp [Addr.add]
 case c2=>intro u hu;simp at hu;subst hu;rfl
 case c3=>unfold maxLen;omega
 case c4=>omega
 case c5=>have:=hb1.size;simp;omega
 intro v' w2 hown' hgrow _
 have hlt:=lt_of_block hbk
 have hb2:w2.heap[b]?=some (.cells #[.pointer (some ⟨b,0,none⟩),v] T (0,0)):=by
  rw [hgrow.block b (by simp;omega) (fun e=>hne e.symm),Lib.alloc_old w1 _ b hlt]
  exact hbk
 have d0:w2.cell? ⟨b,0,none⟩=some (.pointer (some ⟨b,0,none⟩)):=by rw [Lib.cell_of_heap hb2];rfl
 have d1:w2.cell? ⟨b,1,none⟩=some v:=by rw [Lib.cell_of_heap hb2];rfl
 have f1:w2.frozen? ⟨b,1,none⟩=false:=Lib.frozen_of_heap hb2 1
 obtain ⟨g,cap,rfl⟩:∃g cap,v'=.slice (some ⟨g,0,none⟩) (bs.length+1) cap:=by
  rcases hown'.2 with ⟨_,h0⟩ | ⟨g,cap,cur,fz,hv,_⟩
  ·omega
  ·exact ⟨g,cap,hv⟩
 go_wp2
 go_ret
 refine ⟨rfl,?_,?_,((hk1.alloc _).grown hgrow (Lib.ownsRowF_kind (hown.alloc _))).setCell ⟨b,1,none⟩ rfl _⟩
 ·exact Lib.BuilderAtF.put (T:=T) (e:=5) hB hb2 (bs':=bs++[.int .u8 c]) (by simpa using hown') hT.ne
 ·exact ((hb1.alloc (by have:=hb1.size;omega) _).grown hgrow (by have:=hb1.size;simp;omega) (fun k hk=>(hown.lt k hk).1)).setCell (p:=⟨b,1,none⟩) hB _
set_option maxRecDepth 100000 in
set_option maxHeartbeats 2000000 in
theorem bstr_any (hT:BldT T) (B b:Nat) (bs:List Value) (s:ByteArray) (w:World) (h:BldF T B b bs w) (hlen:bs.length+s.size≤140737488355328) (hBw:B≤w.heap.size) :
  Calls Tryz.prog 43 #[.pointer (some ⟨b,0,none⟩),.string s] w fun e w'=>e=.returned (.tuple #[.int .i64 s.size,.nilIface])∧BldU T B b (bs++Lib.strCells s) w'∧Below B w w'∧Lib.OthersKept 5 (some b) w w':=by
 obtain ⟨i0,hi,hz0,hz1,hz2⟩:=info_parts infoU8
 have CC:=Lib.hid (bcopy_any hT B b bs w h)
 go_enter Tryz.func43,Tryz.ntmps43
 go_wp2_with (go_at_call 71;refine CC.out.mono ?_)
 rintro e w1 ⟨rfl,h1,hb1,hk1⟩
 obtain ⟨hB,v,hbk,hown,hne⟩:=h1
 have c0:w1.cell? ⟨b,0,none⟩=some (.pointer (some ⟨b,0,none⟩)):=by rw [Lib.cell_of_heap hbk];rfl
 have c1:w1.cell? ⟨b,1,none⟩=some v:=by rw [Lib.cell_of_heap hbk];rfl
 go_wp2_with (at_builtin;refine Lib.wpList_append_own_stringF _ rfl _ _ 90 9 rfl B 5 i0 Tryz.underlying90 Tryz.underlying9 hi hz0 hz1 hz2 _ _ _ rfl hown s rfl ?c3 ?c4 ?c5 ?_)
 case c3=>unfold maxLen;omega
 case c4=>omega
 case c5=>have:=hb1.size;omega
 intro v' w2 hown' hgrow _
 have hlt:=lt_of_block hbk
 have hb2:w2.heap[b]?=some (.cells #[.pointer (some ⟨b,0,none⟩),v] T (0,0)):=by
  rw [hgrow.block b hlt (fun e=>hne e.symm)]
  exact hbk
 have d0:w2.cell? ⟨b,0,none⟩=some (.pointer (some ⟨b,0,none⟩)):=by rw [Lib.cell_of_heap hb2];rfl
 have d1:w2.cell? ⟨b,1,none⟩=some v:=by rw [Lib.cell_of_heap hb2];rfl
 have f1:w2.frozen? ⟨b,1,none⟩=false:=Lib.frozen_of_heap hb2 1
 obtain ⟨ao,n',cap,rfl⟩:∃ao n' cap,v'=.slice ao n' cap:=by
  rcases hown'.2 with ⟨hv,_⟩ | ⟨g,cap,cur,fz,hv,_⟩
  ·exact ⟨_,_,_,hv⟩
  ·exact ⟨_,_,_,hv⟩
 go_wp2
 go_ret2
 refine ⟨rfl,?_,?_,(hk1.grown hgrow (Lib.ownsRowF_kind hown)).setCell ⟨b,1,none⟩ rfl _⟩
 ·exact Lib.BuilderAtF.put (T:=T) (e:=5) hB hb2 (bs':=bs++Lib.strCells s) (by simpa [Lib.strCells_length] using hown') hT.ne
 ·exact (hb1.grown hgrow (by have:=hb1.size;omega) (fun k hk=>(hown.lt k hk).1)).setCell (p:=⟨b,1,none⟩) hB _
set_option maxHeartbeats 1000000 in
set_option maxRecDepth 100000 in
theorem bstring_any (B b:Nat) (l:List UInt8) (w:World) (h:BldF T B b (Lib.byteCells l) w) (h0:l≠[]) :
  Calls Tryz.prog 44 #[.pointer (some ⟨b,0,none⟩)] w fun e w'=>e=.returned (.string (bytesOf l))∧Below B w w'∧Lib.OthersKept 5 (some b) w w':=by
 obtain ⟨p,hB,v,hbk,hown,hne⟩:∃p,Lib.BuilderAtF T 5 B b p (Lib.byteCells l) w:=by
  rcases h with h | h
  ·exact ⟨_,h⟩
  ·exact ⟨_,h⟩
 have hl0:l.length≠0:=by simpa using h0
 rw [Lib.byteCells_length] at hown
 obtain ⟨g,cap,cur,fz,rfl,hbg,hg,hfz,hnc,hcm,hcs,htake⟩:∃g cap cur fz,v=.slice (some ⟨g,0,none⟩) l.length cap∧B≤g∧w.heap[g]?=some (.cells cur 5 fz)∧fz.2≤l.length * 1∧l.length≤cap∧cap≤maxLen∧cur.size=cap * 1∧cur.toList.take (l.length * 1)=Lib.byteCells l:=by
  rcases hown.2 with ⟨_,hz⟩ | ⟨g,cap,cur,fz,hv,r⟩
  ·exact absurd hz hl0
  ·exact ⟨g,cap,cur,fz,hv,r⟩
 have c1:w.drew.cell? ⟨b,1,none⟩=some (.slice (some ⟨g,0,none⟩) l.length cap):=by
  have:w.drew.heap[b]?=some (.cells #[p,.slice (some ⟨g,0,none⟩) l.length cap] T (0,0)):=hbk
  rw [Lib.cell_of_heap this];rfl
 have hSD:(Builtin.unsafeSliceData_ #[90] 115 #[.slice (some ⟨g,0,none⟩) l.length cap]).run Tryz.prog w.drew=.ok (.pointer (some ⟨g,0,none⟩)) w.drew :=
  Lib.run_unsafeSliceData_row _ _ _ _ _ _ (by omega)
 have hUS:(Builtin.unsafeString_ #[115,3] 9 #[.pointer (some ⟨g,0,none⟩),.int .i64 l.length]).run Tryz.prog w.drew=.ok (.string ⟨l.toArray⟩) (w.drew.freeze ⟨g,0,none⟩ l.length):=by
  refine Lib.run_unsafeString_row w.drew 115 3 9 5 Tryz.underlying115 (by kernel_rfl) g cur.size (by have hg':w.drew.heap[g]?=some (.cells cur 5 fz):=hg;simp [World.shape?,hg']) l h0 (by omega) (by unfold maxLen at hcm;omega) ?_
  intro j x hx
  exact hown.cells (g:=g) rfl j (.int .u8 x.toNat) (by simp [Lib.byteCells,hx])
 go_enter Tryz.func44,Tryz.ntmps44
 go_wp2
 go_region
 all_goals (go_wp2;go_ret;exact ⟨rfl,Lib.below_freeze (Below.drew (Below.refl B w)) (p:=⟨g,0,none⟩) hbg _,((Lib.OthersKept.refl _ _ w).drew).freeze ⟨g,0,none⟩ _ ⟨cur,fz,hg⟩⟩)
end Go.Proofs.YtdfenhjibnfdeaaGreatDoor

namespace Go.Proofs.YtdfenhjibnfdeaaGreatDoor
open Go.RowKit Go.Shelf
theorem cells_str (l:List UInt8) (s:ByteArray):Lib.byteCells l++Lib.strCells s=Lib.byteCells (l++lstB s):=by simp [Lib.byteCells,Lib.strCells,lstB]
theorem cells_byte (l:List UInt8) (c:UInt8):Lib.byteCells l++[.int .u8 c.toNat]=Lib.byteCells (l++[c]):=by simp [Lib.byteCells]
theorem lstB_len (s:ByteArray):(lstB s).length=s.size:=by rw [lstB,Array.length_toList];rfl
def quoteB (s:ByteArray):ByteArray:=bytesOf (quoteL (lstB s))
theorem quote_take (s:ByteArray) (k:Nat) (h:k<s.size):(34 :: ((lstB s).take (k+1)).flatMap escC:List UInt8)=(34 :: ((lstB s).take k).flatMap escC)++escC s[k]:=by
 show (34 :: (s.data.toList.take (k+1)).flatMap escC:List UInt8)=_
 rw [take_snoc s k h,List.flatMap_append];simp [lstB]
theorem esc_len (c:UInt8):(escC c).length≤2:=by unfold escC;split<;>(try split)<;>simp
theorem esc_flat (l:List UInt8):(l.flatMap escC).length≤2 * l.length:=by
 induction l with
 |nil=>simp
 |cons a r ih=>have:=esc_len a;simp only [List.flatMap_cons,List.length_append,List.length_cons];omega
set_option maxRecDepth 100000 in
set_option maxHeartbeats 4000000 in
theorem quote_any (s:ByteArray) (hs:s.size≤1000000) (w:World) :
  Calls Tryz.prog 16 #[.string s] w fun e w'=>e=.returned (.string (quoteB s))∧Below w.heap.size w w':=by
 have hb0:Below w.heap.size w (w.alloc (.cells #[.pointer none,.slice none 0 0] 92)):=(Below.refl _ w).alloc (Nat.le_refl _) _
 have h0:BldF 92 w.heap.size w.heap.size (Lib.byteCells []) (w.alloc (.cells #[.pointer none,.slice none 0 0] 92)) :=
  .inl ⟨Nat.le_refl _,_,row_new w _,World.ownsRowF_of (World.ownsRow_nil _ _ _ _),by simp [Value.ownBlock]⟩
 have C0:=Lib.hid (bbyte_any bldB w.heap.size w.heap.size _ 34 _ h0 (by simp [Lib.byteCells]) hb0.size)
 clear h0
 go_enter Tryz.func16,Tryz.ntmps16
 go_wp2_with fail
 refine C0.out.mono ?_
 rintro e w1 ⟨rfl,h1,hb1,-⟩
 have h1':BldU 92 w.heap.size w.heap.size (Lib.byteCells (34 :: ((lstB s).take 0).flatMap escC)) w1:=h1
 have B1:=hb0.trans hb1
 clear h1 hb1 hb0 C0
 go_wp2
 go_loopw [9] (fun i wr=>∃k:Nat,k≤s.size∧i=.int .i64 k∧BldU 92 w.heap.size w.heap.size (Lib.byteCells (34 :: ((lstB s).take k).flatMap escC)) wr∧Below w.heap.size w wr) (fun i _=>s.size - (intOf i).toNat)
 case atStart=>exact ⟨0,by omega,rfl,h1',B1⟩
 case round =>
  clear h1' B1
  obtain ⟨k,hk,rfl,hW,hbr⟩:=hrel
  have hsz:=hbr.size
  have hlen:(34 :: ((lstB s).take k).flatMap escC:List UInt8).length≤3000000:=by
   have h1:=esc_flat ((lstB s).take k)
   have h2:((lstB s).take k).length≤s.size:=by rw [List.length_take,lstB_len];omega
   simp only [List.length_cons];omega
  by_cases hlt:k<s.size
  ·have HQ:=Lib.hid (quote_take s k hlt)
   have hu:=UInt8.toNat_lt s[k]
   by_cases e1:s[k].toNat=10
   ·have C1:=Lib.hid (bstr_any bldB _ _ _ (⟨#[92,110]⟩:ByteArray) wr (.inr hW) (by rw [Lib.byteCells_length];have:(⟨#[92,110]⟩:ByteArray).size=2:=rfl;omega) hsz)
    rw [cells_str] at C1
    have HC:=Lib.hid (show lstB (⟨#[92,110]⟩:ByteArray)=escC s[k] by rw [escC,if_pos e1];rfl)
    rw [HC.out] at C1
    clear hW
    go_wp2_with (go_at_call 43;refine C1.out.mono ?_;rintro e w2 ⟨rfl,h2,hb2,-⟩)
    go_wp2
    go_roundw
    case rel=>exact ⟨k+1,by omega,by go_num,by rw [HQ.out];exact h2,hbr.trans hb2⟩
    case measure=>simp [intOf];omega
   by_cases e2:s[k].toNat=34∨s[k].toNat=92
   ·have HC:=Lib.hid (show escC s[k]=[92]++[s[k]] by rw [escC,if_neg e1,if_pos e2];rfl)
    have C1:=Lib.hid (bbyte_any bldB _ _ _ 92 wr (.inr hW) (by rw [Lib.byteCells_length];omega) hsz)
    have C2:∀w2,BldU 92 w.heap.size w.heap.size (Lib.byteCells ((34 :: ((lstB s).take k).flatMap escC)++[92])) w2→w.heap.size≤w2.heap.size→Calls Tryz.prog 42 #[.pointer (some ⟨w.heap.size,0,none⟩),.int .u8 s[k].toNat] w2 fun e w'=>e=.returned .nilIface∧BldU 92 w.heap.size w.heap.size (Lib.byteCells (((34 :: ((lstB s).take k).flatMap escC)++[92])++[s[k]])) w'∧Below w.heap.size w2 w':=fun w2 h hz =>
     (bbyte_any bldB _ _ _ s[k].toNat w2 (.inr h) (by rw [Lib.byteCells_length];simp only [List.length_append,List.length_cons,List.length_nil] at *;omega) hz).mono fun e w' h=>⟨h.1,by have:=h.2.1;rw [cells_byte] at this;exact this,h.2.2.1⟩
    have HC2:=Lib.hid (show (34 :: ((lstB s).take k).flatMap escC)++escC s[k]=((34 :: ((lstB s).take k).flatMap escC)++[92])++[s[k]] by rw [HC.out,List.append_assoc])
    generalize 34 :: ((lstB s).take k).flatMap escC=X at *
    have HH:=Lib.hid hW
    clear hW
    rcases e2 with e2 | e2
    all_goals
     rw [e2] at C2
     have C2:=Lib.hid C2
     go_wp2_with fail
     refine C1.out.mono ?_
     rintro e w2 ⟨rfl,h2,hb2,-⟩
     have h2':BldU 92 w.heap.size w.heap.size (Lib.byteCells (X++[92])) w2:=by rw [←cells_byte];exact h2
     have C3:=Lib.hid (C2.out w2 h2' (Nat.le_trans hsz hb2.size))
     clear h2 h2'
     go_wp2_with fail
     refine C3.out.mono ?_
     rintro e w3 ⟨rfl,h3,hb3⟩
     go_wp2
     go_roundw
     case rel=>exact ⟨k+1,by omega,by go_num,by rw [HQ.out];exact (by rw [HC2.out];exact h3),(hbr.trans hb2).trans hb3⟩
     case measure=>simp [intOf];omega
   have HC:=Lib.hid (show escC s[k]=[s[k]] by rw [escC,if_neg e1,if_neg e2])
   have C1:=Lib.hid (bbyte_any bldB _ _ _ s[k].toNat wr (.inr hW) (by rw [Lib.byteCells_length];omega) hsz)
   rw [cells_byte] at C1
   have e3:¬s[k].toNat=34:=fun h=>e2 (.inl h)
   have e4:¬s[k].toNat=92:=fun h=>e2 (.inr h)
   clear hW e2
   go_wp2_with (go_at_call 42;refine C1.out.mono ?_;rintro e w2 ⟨rfl,h2,hb2,-⟩)
   go_wp2
   go_roundw
   case rel=>exact ⟨k+1,by omega,by go_num,by rw [HQ.out];exact (by rw [HC.out];exact h2),hbr.trans hb2⟩
   case measure=>simp [intOf];omega
  ·obtain rfl:k=s.size:=by omega
   have HA:=Lib.hid (show quoteL (lstB s)=(34 :: ((lstB s).take s.size).flatMap escC)++[34] by
    rw [List.take_of_length_le (by rw [lstB_len];exact Nat.le_refl _)];rfl)
   have C1:=Lib.hid (bbyte_any bldB _ _ _ 34 wr (.inr hW) (by rw [Lib.byteCells_length];omega) hsz)
   clear hW
   go_wp2_with fail
   refine C1.out.mono ?_
   rintro e w2 ⟨rfl,h2,hb2,-⟩
   have h2':BldU 92 w.heap.size w.heap.size (Lib.byteCells ((34 :: ((lstB s).take s.size).flatMap escC)++[34])) w2:=by rw [←cells_byte];exact h2
   rw [←HA.out] at h2'
   have C2:=Lib.hid (bstring_any _ _ _ w2 (.inr h2') (by unfold quoteL;simp))
   clear h2 h2'
   go_wp2_with fail
   refine C2.out.mono ?_
   rintro e w3 ⟨rfl,hb3,-⟩
   go_wp2
   go_ret
   exact ⟨rfl,(hbr.trans hb2).trans hb3⟩
end Go.Proofs.YtdfenhjibnfdeaaGreatDoor

namespace Go.Proofs.YtdfenhjibnfdeaaGreatDoor
open Go.RowKit Go.Shelf
def ib3 (k:Nat):Int:=Lib.indexByte (⟨#[92,34,110]⟩:ByteArray).data.toList k.toUInt8
theorem ib3_any (k:Nat) (w:World):Calls Tryz.prog 89 #[.string ⟨#[92,34,110]⟩,.int .u8 k] w fun e w'=>e=.returned (.int .i64 (ib3 k))∧w'=w :=
 (Tryz.strings_IndexByte _ _ w).mono fun _ _ h=>⟨h.1,h.2⟩
theorem ib3_all:((List.range 256).all fun n=>decide (ib3 n=if n=92 then 0 else if n=34 then 1 else if n=110 then 2 else -1))=true:=by decide +kernel
theorem ib3_eq {n:Nat} (h:n<256):ib3 n=if n=92 then 0 else if n=34 then 1 else if n=110 then 2 else -1:=by
 have:=List.all_eq_true.1 ib3_all n (List.mem_range.2 h)
 simpa using this
theorem drop_at (s:ByteArray) (k:Nat) (h:k<s.size):(lstB s).drop k=s[k] :: (lstB s).drop (k+1):=List.drop_eq_getElem_cons (by rw [lstB_len];exact h)
theorem drop_end (s:ByteArray) (k:Nat) (h:s.size≤k):(lstB s).drop k=[]:=List.drop_of_length_le (by rw [lstB_len];exact h)
def UqI (s:ByteArray) (k:Nat) (acc:List UInt8):Prop:=1≤k∧acc.length≤k∧unqL ((lstB s).drop 1)=(unqL ((lstB s).drop k)).map fun x=>(acc++x.1,x.2+(k - 1))
theorem UqI.one {s:ByteArray} {k:Nat} {acc:List UInt8} (h:UqI s k acc) (hk:k<s.size) (h1:¬s[k].toNat=34) (h2:¬s[k].toNat=10) (h3:¬s[k].toNat=92):UqI s (k+1) (acc++[s[k]]):=by
 obtain ⟨a,b,c⟩:=h
 refine ⟨by omega,by simp;omega,?_⟩
 rw [c,drop_at s k hk,unq_one _ h1 h2 h3,Option.map_map]
 congr 1;funext x;simp;omega
theorem UqI.esc {s:ByteArray} {k:Nat} {acc:List UInt8} (h:UqI s k acc) (hk:k+1<s.size) (h3:s[k].toNat=92) {d:UInt8} (hd:s[k+1].toNat=92∧d=92∨s[k+1].toNat=34∧d=34∨s[k+1].toNat=110∧d=10):UqI s (k+1+1) (acc++[d]):=by
 obtain ⟨a,b,c⟩:=h
 refine ⟨by omega,by simp;omega,?_⟩
 rw [c,drop_at s k (by omega),drop_at s (k+1) hk,unq_esc _ h3]
 rcases hd with ⟨hd,rfl⟩ | ⟨hd,rfl⟩ | ⟨hd,rfl⟩
 ·simp only [if_pos hd,Option.map_map]
  congr 1;funext x;simp;omega
 ·simp only [if_neg (show ¬s[k+1].toNat=92 by omega),if_pos hd,Option.map_map]
  congr 1;funext x;simp;omega
 ·simp only [if_neg (show ¬s[k+1].toNat=92 by omega),if_neg (show ¬s[k+1].toNat=34 by omega),if_pos hd,Option.map_map]
  congr 1;funext x;simp;omega
theorem UqI.done {s:ByteArray} {k:Nat} {acc:List UInt8} (h:UqI s k acc) (hk:k<s.size) (h1:s[k].toNat=34):unqL ((lstB s).drop 1)=some (acc,k):=by
 obtain ⟨a,b,c⟩:=h
 rw [c,drop_at s k hk,unq_end _ h1]
 simp;omega
theorem UqI.fail {s:ByteArray} {k:Nat} {acc:List UInt8} (h:UqI s k acc) (hn:unqL ((lstB s).drop k)=none):unqL ((lstB s).drop 1)=none:=by
 rw [h.2.2,hn];rfl
def unqV (s:ByteArray):Value:=match unqL ((lstB s).drop 1) with
 |some (t,n)=>.tuple #[.string (bytesOf t),.int .i64 (n+1:Nat)]
 |none=>.tuple #[.string ⟨#[]⟩,.int .i64 0]
theorem UqI.ret {s:ByteArray} {k:Nat} {acc:List UInt8} (h:UqI s k acc) (hn:unqL ((lstB s).drop k)=none):Ending.returned (.tuple #[.string ⟨#[]⟩,.int .i64 0])=.returned (unqV s):=by
 rw [unqV,h.fail hn]
theorem UqI.ret2 {s:ByteArray} {k:Nat} {acc:List UInt8} (h:UqI s k acc) (hk:k<s.size) (h1:s[k].toNat=34) {i:Int} (hi:i=(k:Int)+1):Ending.returned (.tuple #[.string (bytesOf acc),.int .i64 i])=.returned (unqV s):=by
 rw [unqV,h.done hk h1,hi];rfl
set_option maxRecDepth 100000 in
set_option maxHeartbeats 4000000 in
theorem unquoted_any (s:ByteArray) (h1:1≤s.size) (hs:s.size≤20000) (w:World) :
  Calls Tryz.prog 70 #[.string s] w fun e w'=>e=.returned (unqV s)∧Below w.heap.size w w':=by
 have hb0:Below w.heap.size w (w.alloc (.cells #[.pointer none,.slice none 0 0] 92)):=(Below.refl _ w).alloc (Nat.le_refl _) _
 have h0:BldF 92 w.heap.size w.heap.size (Lib.byteCells []) (w.alloc (.cells #[.pointer none,.slice none 0 0] 92)) :=
  .inl ⟨Nat.le_refl _,_,row_new w _,World.ownsRowF_of (World.ownsRow_nil _ _ _ _),by simp [Value.ownBlock]⟩
 have HU0:=Lib.hid (show UqI s 1 [] from ⟨by omega,by simp,by simp⟩)
 go_enter Tryz.func70,Tryz.ntmps70
 go_wp2
 go_loopw [5] (fun i wr=>∃(k:Nat) (acc:List UInt8),k≤s.size∧i=.int .i64 k∧UqI s k acc∧BldF 92 w.heap.size w.heap.size (Lib.byteCells acc) wr∧Below w.heap.size w wr) (fun i _=>s.size - (intOf i).toNat)
 case atStart=>exact ⟨1,[],by omega,rfl,HU0.out,h0,hb0⟩
 case round =>
  clear h0 hb0 HU0
  obtain ⟨k,acc,hk,rfl,hU,hW,hbr⟩:=hrel
  have hsz:=hbr.size
  have HU:=Lib.hid hU
  have hal:=hU.2.1
  clear hU
  by_cases hlt:k<s.size
  ·have hu:=UInt8.toNat_lt s[k]
   by_cases e1:s[k].toNat=34
   ·have C1:=Lib.hid (Tryz.Builder_String_any_k _ _ acc wr hW hsz)
    have HR:=Lib.hid (fun (i:Int) (hi:i=(k:Int)+1)=>HU.out.ret2 hlt e1 hi)
    clear hW
    go_wp2_with fail
    refine C1.out.mono ?_
    rintro e w2 ⟨rfl,-,hb2,-⟩
    go_wp2
    go_ret2
    exact ⟨HR.out _ (by go_num),hbr.trans hb2⟩
   by_cases e2:s[k].toNat=10
   ·go_wp2
    go_ret2
    exact ⟨UqI.ret HU.out (by rw [drop_at s k hlt,unq_line _ e2]),hbr⟩
   by_cases e3:s[k].toNat=92
   ·by_cases hk1:k+1<s.size
    ·have hu1:=UInt8.toNat_lt s[k+1]
     have hib:=ib3_eq hu1
     by_cases f1:s[k+1].toNat=92
     ·rw [if_pos f1] at hib
      have HN:=Lib.hid (HU.out.esc hk1 e3 (d:=92) (.inl ⟨f1,rfl⟩))
      have C1:=Lib.hid (bbyte_any bldB _ _ _ 92 wr hW (by rw [Lib.byteCells_length];omega) hsz)
      have C2:Calls Tryz.prog 42 #[.pointer (some ⟨w.heap.size,0,none⟩),.int .u8 92] wr fun e w'=>e=.returned .nilIface∧BldU 92 w.heap.size w.heap.size (Lib.byteCells (acc++[92])) w'∧Below w.heap.size wr w':=C1.out.mono fun e w' h=>⟨h.1,by have:=h.2.1;rw [show (Value.int .u8 92)=.int .u8 ((92:UInt8).toNat:Int) from rfl,cells_byte] at this;exact this,h.2.2.1⟩
      have C2:=Lib.hid C2
      clear hW C1
      go_wp2_with (first | (go_at_call 89;refine (ib3_any _ _).mono ?_;rintro e w' ⟨rfl,rfl⟩) | (go_at_call 42;refine C2.out.mono ?_;rintro e w2 ⟨rfl,h2,hb2⟩))
      go_roundw
      case rel=>exact ⟨k+1+1,acc++[92],by omega,by go_num,HN.out,.inr h2,hbr.trans hb2⟩
      case measure=>simp [intOf];omega
     rw [if_neg f1] at hib
     by_cases f2:s[k+1].toNat=34
     ·rw [if_pos f2] at hib
      have HN:=Lib.hid (HU.out.esc hk1 e3 (d:=34) (.inr (.inl ⟨f2,rfl⟩)))
      have C1:=Lib.hid (bbyte_any bldB _ _ _ 34 wr hW (by rw [Lib.byteCells_length];omega) hsz)
      have C2:Calls Tryz.prog 42 #[.pointer (some ⟨w.heap.size,0,none⟩),.int .u8 34] wr fun e w'=>e=.returned .nilIface∧BldU 92 w.heap.size w.heap.size (Lib.byteCells (acc++[34])) w'∧Below w.heap.size wr w':=C1.out.mono fun e w' h=>⟨h.1,by have:=h.2.1;rw [show (Value.int .u8 34)=.int .u8 ((34:UInt8).toNat:Int) from rfl,cells_byte] at this;exact this,h.2.2.1⟩
      have C2:=Lib.hid C2
      clear hW C1
      go_wp2_with (first | (go_at_call 89;refine (ib3_any _ _).mono ?_;rintro e w' ⟨rfl,rfl⟩) | (go_at_call 42;refine C2.out.mono ?_;rintro e w2 ⟨rfl,h2,hb2⟩))
      go_roundw
      case rel=>exact ⟨k+1+1,acc++[34],by omega,by go_num,HN.out,.inr h2,hbr.trans hb2⟩
      case measure=>simp [intOf];omega
     rw [if_neg f2] at hib
     by_cases f3:s[k+1].toNat=110
     ·rw [if_pos f3] at hib
      have HN:=Lib.hid (HU.out.esc hk1 e3 (d:=10) (.inr (.inr ⟨f3,rfl⟩)))
      have C1:=Lib.hid (bbyte_any bldB _ _ _ 10 wr hW (by rw [Lib.byteCells_length];omega) hsz)
      have C2:Calls Tryz.prog 42 #[.pointer (some ⟨w.heap.size,0,none⟩),.int .u8 10] wr fun e w'=>e=.returned .nilIface∧BldU 92 w.heap.size w.heap.size (Lib.byteCells (acc++[10])) w'∧Below w.heap.size wr w':=C1.out.mono fun e w' h=>⟨h.1,by have:=h.2.1;rw [show (Value.int .u8 10)=.int .u8 ((10:UInt8).toNat:Int) from rfl,cells_byte] at this;exact this,h.2.2.1⟩
      have C2:=Lib.hid C2
      clear hW C1
      go_wp2_with (first | (go_at_call 89;refine (ib3_any _ _).mono ?_;rintro e w' ⟨rfl,rfl⟩) | (go_at_call 42;refine C2.out.mono ?_;rintro e w2 ⟨rfl,h2,hb2⟩))
      go_roundw
      case rel=>exact ⟨k+1+1,acc++[10],by omega,by go_num,HN.out,.inr h2,hbr.trans hb2⟩
      case measure=>simp [intOf];omega
     rw [if_neg f3] at hib
     have HN:=Lib.hid (show unqL ((lstB s).drop k)=none by rw [drop_at s k hlt,drop_at s (k+1) hk1,unq_esc _ e3,if_neg f1,if_neg f2,if_neg f3])
     clear hW
     go_wp2_with (go_at_call 89;refine (ib3_any _ _).mono ?_;rintro e w' ⟨rfl,rfl⟩)
     go_ret2
     exact ⟨UqI.ret HU.out HN.out,hbr⟩
    ·have HN:=Lib.hid (show unqL ((lstB s).drop k)=none by rw [drop_at s k hlt,drop_end s (k+1) (by omega),unq_bs e3])
     clear hW
     go_wp2
     go_ret2
     exact ⟨UqI.ret HU.out HN.out,hbr⟩
   have HN:=Lib.hid (HU.out.one hlt e1 e2 e3)
   have C1:=Lib.hid (bbyte_any bldB _ _ _ s[k].toNat wr hW (by rw [Lib.byteCells_length];omega) hsz)
   rw [cells_byte] at C1
   clear hW
   go_wp2_with (go_at_call 42;refine C1.out.mono ?_;rintro e w2 ⟨rfl,h2,hb2,-⟩)
   go_roundw
   case rel=>exact ⟨k+1,acc++[s[k]],by omega,by go_num,HN.out,.inr h2,hbr.trans hb2⟩
   case measure=>simp [intOf];omega
  ·have HN:=Lib.hid (show unqL ((lstB s).drop k)=none by rw [drop_end s k (by omega)];rfl)
   clear hW
   go_wp2
   go_ret2
   exact ⟨UqI.ret HU.out HN.out,hbr⟩
end Go.Proofs.YtdfenhjibnfdeaaGreatDoor

namespace Go.Proofs.YtdfenhjibnfdeaaGreatDoor
open Go
def tkF (s:ByteArray) (i:Nat):List FndD:=toks (s.size - i) i ((lstB s).drop i)
theorem toks_fuel:∀(f g i:Nat) (l:List UInt8),l.length≤f→l.length≤g→toks f i l=toks g i l
 |0,0,_,_,_,_=>rfl
 |0,g+1,_,[],_,_=>by simp [toks]
 |f+1,0,_,[],_,_=>by simp [toks]
 |0,_+1,_,_ :: _,h,_=>by simp at h
 |_+1,0,_,_ :: _,_,h=>by simp at h
 |f+1,g+1,i,[],_,_=>by simp [toks]
 |f+1,g+1,i,c :: r,hf,hg=>by
  have hd:∀n,n≠0→((c :: r).drop n).length≤f∧((c :: r).drop n).length≤g:=fun n hn=>by
   simp only [List.length_drop,List.length_cons] at *;omega
  simp only [toks]
  rcases hs:scan1 (c :: r) with ⟨n,_ | ⟨k,t,e⟩⟩
  ·simp only
   by_cases hn:n=0
   ·exfalso
    subst hn
    unfold scan1 at hs
    repeat' split at hs
    all_goals (try cases hs)
    all_goals simp_all [spanN]
   ·exact toks_fuel f g _ _ (hd n hn).1 (hd n hn).2
  ·simp only
   by_cases he:e=0
   ·rw [if_pos he,if_pos he]
    by_cases hn:n=0
    ·exfalso
     subst hn
     unfold scan1 at hs
     repeat' split at hs
     all_goals (try cases hs)
     all_goals simp_all [spanN,wordC]
    ·rw [toks_fuel f g _ _ (hd n hn).1 (hd n hn).2]
   ·rw [if_neg he,if_neg he]
theorem tk_end {s:ByteArray} {i:Nat} (h:s.size≤i):tkF s i=[]:=by
 rw [tkF,drop_end s i h];cases s.size - i<;>simp [toks]
theorem tk_cons {s:ByteArray} {i:Nat} (h:i<s.size):∃r,(lstB s).drop i=s[i] :: r∧s.size - i=(s.size - (i+1))+1:=⟨_,drop_at s i h,by omega⟩
theorem tk_skip {s:ByteArray} {i n:Nat} (h:i<s.size) (hn:1≤n) (hs:scan1 ((lstB s).drop i)=(n,none)):tkF s i=tkF s (i+n):=by
 obtain ⟨r,hr,hz⟩:=tk_cons h
 rw [tkF,hz]
 rw [hr] at hs ⊢
 rw [toks,hs]
 show toks _ _ _=_
 rw [←hr,List.drop_drop,tkF]
 exact toks_fuel _ _ _ _ (by rw [List.length_drop,lstB_len];omega) (by rw [List.length_drop,lstB_len];omega)
theorem tk_tok {s:ByteArray} {i n:Nat} {k:Int} {t:ByteArray} (h:i<s.size) (hn:1≤n) (hs:scan1 ((lstB s).drop i)=(n,some (k,t,0))):tkF s i=⟨⟨k,t,i⟩,0⟩ :: tkF s (i+n):=by
 obtain ⟨r,hr,hz⟩:=tk_cons h
 rw [tkF,hz]
 rw [hr] at hs ⊢
 rw [toks,hs]
 show (⟨⟨k,t,i⟩,0⟩:FndD) :: (if (0:Int)=0 then _ else _)=_
 rw [if_pos rfl,←hr,List.drop_drop,tkF]
 congr 1
 exact toks_fuel _ _ _ _ (by rw [List.length_drop,lstB_len];omega) (by rw [List.length_drop,lstB_len];omega)
theorem tk_err {s:ByteArray} {i n:Nat} {k e:Int} {t:ByteArray} (h:i<s.size) (he:e≠0) (hs:scan1 ((lstB s).drop i)=(n,some (k,t,e))):tkF s i=[⟨⟨k,t,i⟩,e⟩]:=by
 obtain ⟨r,hr,hz⟩:=tk_cons h
 rw [tkF,hz]
 rw [hr] at hs ⊢
 rw [toks,hs]
 show (⟨⟨k,t,i⟩,e⟩:FndD) :: (if e=0 then _ else _)=_
 rw [if_neg he]
end Go.Proofs.YtdfenhjibnfdeaaGreatDoor
