/-  -/
import Derived.Test.YtdfenhjibnfdeaaDoorOmAe
import Derived.Test.YtdfenhjibnfdeaaDoorOmAh
namespace Go.Proofs.YtdfenhjibnfdeaaDoor
open Go.RowKit Go.Shelf
theorem infoStrL:(Tryd.prog.info? 9).map (fun i=>(i.zero,i.size,i.bytes))=some (some (.string ⟨#[]⟩),1,16):=by kernel_rfl
theorem quoteB_size (s:ByteArray):(quoteB s).size≤2 * s.size+2:=by
 have h1:=esc_flat (lstB s)
 rw [lstB_len] at h1
 show (quoteL (lstB s)).toArray.size≤_
 simp only [quoteL,List.size_toArray,List.length_append,List.length_cons,List.length_nil]
 omega
def tagB (t:TagD):ByteArray:=(t.key++⟨#[61]⟩)++quoteB t.val
set_option maxRecDepth 100000 in
set_option maxHeartbeats 4000000 in
theorem tagadd_any (t:TagD) (hk:t.key.size≤1000000) (hv:t.val.size≤1000000) (Bw base:Nat) (w:World) (hB:Boxed w Bw 26 (.slice none 0 0)) (hb1:base≤Bw) (hb2:base≤w.heap.size) :
  Calls Tryd.prog 35 #[.agg #[.string t.key,.string t.val],.pointer (some ⟨Bw,0,none⟩)] w fun e w'=>e=.returned (.tuple #[])∧∃g c,w'.heap[Bw]?=some (.cells #[.slice (some ⟨g,0,none⟩) 1 c] 26 (0,0))∧w'.cell? ⟨g,0,none⟩=some (.string (tagB t))∧g<w'.heap.size∧1≤c∧Below base w w':=by
 obtain ⟨i0,hi,hi0,hi1,hi2⟩:=info_parts infoStrL
 have QT:=Lib.hid (fun W=>quote_any t.val hv W)
 have hq1:(⟨#[61]⟩:ByteArray).size=1:=rfl
 have hq2:=quoteB_size t.val
 have e1:∀w,(Op.stringOp .add t.key ⟨#[61]⟩).run Tryd.prog w=.ok (.string (t.key++⟨#[61]⟩)) w:=fun w=>run_string_add_sum w _ _ (by omega)
 have e2:∀w,(Op.stringOp .add (t.key++⟨#[61]⟩) (quoteB t.val)).run Tryd.prog w=.ok (.string (tagB t)) w:=fun w=>run_string_add_sum w _ _ (by simp only [ByteArray.size_append];omega)
 obtain ⟨W1,hW1⟩:∃z,z=w.alloc (.cells #[.string t.key,.string t.val] 38):=⟨_,rfl⟩
 have HX1:=Lib.hid (show W1.drew.heap[w.heap.size]?=some (.cells #[.string t.key,.string t.val] 38 (0,0)) by rw [hW1];exact row_drew (row_new w _))
 have hB':Boxed W1.drew Bw 26 (.slice none 0 0):=by rw [hW1];exact row_drew (hB.alloc _)
 have hL1:Below base w W1.drew:=by rw [hW1];exact ((Below.refl _ w).alloc hb2 _).drew
 have HBX:=Lib.hid hB'
 have hw0:=hB'.cell
 have hwf:=hB'.frozen
 have hsz:=hL1.size
 have hbw:=hB'.lt
 have xz:=lt_of_block HX1.out
 have x0:=cell_of_row W1.drew _ 0 _ _ _ HX1.out
 have x1:=cell_of_row W1.drew _ 1 _ _ _ HX1.out
 simp only [List.getElem?_toArray,List.getElem?_cons_zero,List.getElem?_cons_succ] at x0 x1
 clear hB hB'
 go_enter Tryd.func35,Tryd.ntmps35
 go_wp2
 rw [←hW1]
 clear hW1
 go_region_with (go_at_call 36;refine (QT.out _).mono ?_;rintro e W2 ⟨rfl,hbq⟩;have y0:=cell_later hbq hw0;have yf:=(hbq.frozen (p:=⟨Bw,0,none⟩) hbw).trans hwf;have ylt:=lt_of_cell' y0;have z0:=cell_later hbq x0;have z1:=cell_later hbq x1)
 all_goals
  go_wp2
  go_end0
  have hW2:=row_later hbq HBX.out
  have hc1:=grownCap_ge W2 1 0 9
  have hs2:=hbq.size
  refine ⟨rfl,W2.heap.size+1,grownCap W2 1 0 9,?_,?_,?_,hc1,?_⟩
  ·refine row_drew (row_past (row_past ?_))
   exact row_set (i:=0) (v:=.slice (some ⟨W2.heap.size+1,0,none⟩) 1 (grownCap W2 1 0 9)) hW2
  ·have:=row_new1 (W2.setCell ⟨Bw,0,none⟩ (.slice (some ⟨W2.heap.size+1,0,none⟩) 1 (grownCap W2 1 0 9))) (.cells #[.string (tagB t)] 9) (.cells (#[.string (tagB t)]++Builtin.zeroCells #[.string ⟨#[]⟩] (grownCap W2 1 0 9 - 1)) 9)
   rw [World.size_setCell] at this
   have h2:=cell_of_row _ _ 0 _ _ _ (row_drew this)
   rw [Array.getElem?_append_left (by simp)] at h2
   exact h2
  ·show _<((_:World).alloc _).heap.size
   simp
  ·exact ((((hL1.trans (hbq.mono (Nat.le_trans hb2 hL1.size))).setCell (p:=⟨Bw,0,none⟩) hb1 _).alloc (by simp;omega) _).alloc (by simp;omega) _).drew
end Go.Proofs.YtdfenhjibnfdeaaDoor
