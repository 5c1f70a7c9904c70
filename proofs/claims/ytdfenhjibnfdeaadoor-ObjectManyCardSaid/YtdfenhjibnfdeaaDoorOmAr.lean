/-  -/
import Derived.Test.YtdfenhjibnfdeaaDoorOmAp
import Derived.Test.YtdfenhjibnfdeaaDoorOmAq
namespace Go.Proofs.YtdfenhjibnfdeaaDoor
open Go.RowKit Go.Shelf
set_option maxRecDepth 100000 in
set_option maxHeartbeats 4000000 in
theorem many_2false (raw kd:Nat) (hr:raw<65536) (hk:kd<256) (hq:kd % 4=0) (w:World) :
  Calls Tryd.prog 3 #[.int .u16 raw,.int .u8 kd,.bool false] w fun e w'=>e=.returned (.bool true)∧Below w.heap.size w w':=by
 have HD:=Lib.hid (fun W=>head_any W)
 have j0:IntKind.i64.wrap (raw:Int)=(raw:Int):=IntWalk.i64_in _ (by omega)
 have j1:IntKind.i64.wrap (kd:Int)=(kd:Int):=IntWalk.i64_in _ (by omega)
 obtain ⟨n,hn⟩:∃n,n=raw % 2011:=⟨_,rfl⟩
 have j2:(raw:Int).tmod 2011=(n:Int):=by rw [Int.tmod_eq_emod_of_nonneg (by omega)];omega
 have j3:(kd:Int).tmod 4=0:=by rw [Int.tmod_eq_emod_of_nonneg (by omega)];omega
 have hn1:n<2011:=by omega
 clear hn hk hq
 go_enter Tryd.func3,Tryd.ntmps3
 go_wp2_with fail
 refine (HD.out _).mono ?_
 rintro e w1 ⟨rfl,hb⟩
 have HO1:=Lib.hid (row_past (o':=.cells #[.string ⟨#[119,97,121]⟩,.string ⟨#[97,114,101,97]⟩,.string ⟨#[114,111,117,116,101]⟩,.string ⟨#[116,117,114,110]⟩] 9) (row_new w1 (.cells (obA ⟨#[120]⟩ 2 0 0 (.slice none 0 0) (.slice none 0 0)) 29)))
 have B2:Below w.heap.size w ((w1.alloc (.cells (obA ⟨#[120]⟩ 2 0 0 (.slice none 0 0) (.slice none 0 0)) 29)).alloc (.cells #[.string ⟨#[119,97,121]⟩,.string ⟨#[97,114,101,97]⟩,.string ⟨#[114,111,117,116,101]⟩,.string ⟨#[116,117,114,110]⟩] 9)):=(hb.alloc hb.size _).alloc (by have:=hb.size;simp;omega) _
 obtain ⟨i0,hi,hi0,hi1,hi2⟩:=info_parts infoStrL
 go_wp2
 go_loopw [10,11,12] (fun sz i s wr=>∃(k:Nat) (v:Value),k≤n∧i=.int .i64 k∧sz=.int .i64 ((szM false k:Int)+8)∧wr.heap[w1.heap.size]?=some (.cells (obA ⟨#[120]⟩ 2 0 0 v (.slice none 0 0)) 29 (0,0))∧wr.ownsRow w1.heap.size 9 1 v k (((List.range k).map (refM false)).map Value.string)∧Below w.heap.size w wr) (fun _ i _ _=>n - (intOf i).toNat)
 case atStart=>exact ⟨0,_,by omega,rfl,rfl,HO1.out,World.ownsRow_nil _ _ _ _,B2⟩
 case round =>
  obtain ⟨k,v,hk,rfl,rfl,hO,hrow,hbk⟩:=hrel
  clear HO1 B2
  have HO7:=Lib.hid hO
  have HRW:=Lib.hid hrow
  have hbs7:=hbk.size
  have hwb:=hb.size
  have hol:=lt_of_block hO
  clear hO hrow
  by_cases hlt:k<n
  ·have RD:=Lib.hid (fun W=>rdecimal_any k (by omega) W)
   have hS:=Lib.hid (refM_size (long:=false) (show k<2011 by omega))
   have hL:=dec_len (show k<2011 by omega)
   have hZ:=szM_le false k (by omega)
   obtain ⟨S,hSe⟩:∃z,z=bytesOf (decL k):=⟨_,rfl⟩
   rw [←hSe] at RD
   have HSE:=Lib.hid hSe
   have hS1:S.size≤4:=by rw [hSe,bytes_size];exact hL.1
   have HRE:=Lib.hid (show refM false k=(⟨#[114]⟩:ByteArray)++S by rw [refM,hSe];rfl)
   have HRS:=Lib.hid (show (refM false k).size=1+S.size by rw [HRE.out,ByteArray.size_append];rfl)
   clear hSe hL
   obtain ⟨oz,o0,o1,o2,o3,o4,o5⟩:=rk6 HO7.out
   go_wp2_with fail
   refine (RD.out _).mono ?_
   rintro e w2 ⟨rfl,hww⟩
   subst w2
   skip
   have HNE:=Lib.hid (show some w1.heap.size≠v.ownBlock from fun e=>by
    rcases HRW.out.2 with ⟨rfl,_⟩ | ⟨g,cap2,cur,rfl,_,hgb,_⟩
    ·simp [Value.ownBlock] at e
    ·obtain rfl:w1.heap.size=g:=by simpa [Value.ownBlock] using e
     rw [HO7.out] at hgb;injection hgb with hgb;injection hgb with _ hgb;exact absurd hgb (by decide))
   have HCN:=Lib.hid (cells_newL wr [Value.string ((⟨#[114]⟩:ByteArray)++S)] 9)
   have HO8:=Lib.hid (row_past (o':=.cells #[.string ((⟨#[114]⟩:ByteArray)++S)] 9) HO7.out)
   have hn1:¬w1.heap.size=wr.heap.size:=by omega
   go_wp2_with (at_builtin;refine wpList_append_own _ rfl _ _ 26 rfl w1.heap.size 9 i0 (.string ⟨#[]⟩) 1 16 Tryd.underlying26 hi hi0 hi1 hi2 rfl (by decide) _ _ _ rfl (HRW.out.alloc _) ⟨wr.heap.size,0,none⟩ 1 1 [.string ((⟨#[114]⟩:ByteArray)++S)] (by first | rfl | simp) (by first | rfl | simp) HCN.out (by intro u hu;rw [List.mem_singleton.1 hu];rfl) (by unfold maxLen;omega) (by omega) (by simp;omega) ?_;intro v' w5 hown5 hgr5 _;have HO5:=row_grownL (row:=v.ownBlock) hgr5 HO8.out HNE.out;have q4:=cell_of_row w5 _ 4 _ _ _ HO5;have qf:=frozen_of_row w5 _ 4 _ _ HO5;simp only [List.getElem?_toArray,List.getElem?_cons_zero,List.getElem?_cons_succ] at q4;obtain ⟨g',cap',rfl⟩:=ownsRow_succ hown5)
   all_goals
    have HO9:=Lib.hid HO5
    have B5:Below w.heap.size w w5:=(hbk.alloc hbs7 _).grown (row:=v.ownBlock) hgr5 (by simp;omega) (fun j ej=>by have:=(HRW.out.lt j ej).1;omega)
    have HOW5:=Lib.hid (show (w5.setCell ⟨w1.heap.size,4,none⟩ (.slice (some ⟨g',0,none⟩) (k+1) cap')).ownsRow w1.heap.size 9 1 (.slice (some ⟨g',0,none⟩) (k+1) cap') (k+1) (((List.range (k+1)).map (refM false)).map Value.string) by
     rw [range_snoc,HRE.out]
     refine own_set hown5 (fun e=>?_)
     rcases hown5.2 with ⟨h,_⟩ | ⟨g2,cap2,cur,h,_,hgb,_⟩
     ·cases h
     ·injection h with h _ _;injection h with h;injection h with h
      subst h
      have e2:w1.heap.size=g':=by simpa [Value.ownBlock] using e
      rw [←e2,HO5] at hgb;injection hgb with hgb;injection hgb with _ hgb;exact absurd hgb (by decide))
    clear hown5 hgr5 HO5
    go_roundw
    case rel=>exact ⟨k+1,_,by omega,by go_num,congrArg (Value.int .i64) (by rw [szM,HRS.out];split<;>omega),row_set (i:=4) HO9.out,HOW5.out,B5.setCell (by simp only;omega) _⟩
    case measure=>simp [intOf];omega
  ·obtain rfl:k=n:=by omega
   obtain ⟨av,cv,rfl,hcv⟩:∃a c,v=.slice a k c∧k≤c:=by
    rcases HRW.out.2 with ⟨rfl,h0⟩ | ⟨g,cap2,cur,rfl,_,_,h1,_⟩
    ·exact ⟨none,0,by rw [h0],by omega⟩
    ·exact ⟨_,_,rfl,h1⟩
   have HST:=Lib.hid (show StrRow wr (.slice av k cv) ((List.range k).map (refM false)) from strRow_own HRW.out (by simp) (by simp;omega) (fun s hs=>by
    obtain ⟨i,hi,rfl⟩:=List.mem_map.1 hs
    have:=(refM_size (long:=false) (show i<2011 by have:=List.mem_range.1 hi;omega)).1
    omega))
   have TX:=Lib.hid (fun W (h:StrRow W (.slice av k cv) ((List.range k).map (refM false)))=>text_any ⟨#[120]⟩ 2 0 0 (.slice av k cv) (.slice none 0 0) ((List.range k).map (refM false)) [] W (by decide) h (ObIn.nil W).tags (fun a n c h=>by injection h with _ h1 h2;omega) (by simp) (fun h=>absurd h (by decide)))
   have VX:=Lib.hid (fun W (h:StrRow W (.slice av k cv) ((List.range k).map (refM false)))=>validO_any ⟨#[120]⟩ 2 0 0 (.slice av k cv) (.slice none 0 0) ((List.range k).map (refM false)) [] W (by decide) h (ObIn.nil W).tags)
   obtain ⟨oz,o0,o1,o2,o3,o4,o5⟩:=rk6 HO7.out
   have bq:Below wr.heap.size wr (wr.alloc (.cells #[.int .i64 2,.int .i64 3,.int .i64 1,.int .i64 3] 3)):=(Below.refl _ _).alloc (Nat.le_refl _) _
   have HO2:=Lib.hid (row_later bq HO7.out)
   have HS2:=Lib.hid (HST.out.later bq)
   clear bq
   have hp1:=many_ok false k (by omega) 2 2 (by decide)
   have hp2:=many_len false k 2 8 (by decide)
   by_cases hA:2≤k∧k≤2000
   ·by_cases hB:szM false k+8≤20000
    ·have hTV:textV ⟨⟨#[120]⟩,2,0,0,(List.range k).map (refM false),[]⟩=.tuple #[.string (bytesOf (textL ⟨⟨#[120]⟩,2,0,0,(List.range k).map (refM false),[]⟩)),.int .i64 0]:=textV_ok (by rw [hp1];simp;omega) (by omega) rfl
     obtain ⟨S,hS⟩:∃z,z=bytesOf (textL ⟨⟨#[120]⟩,2,0,0,(List.range k).map (refM false),[]⟩):=⟨_,rfl⟩
     have hSz:S.size=szM false k+8:=by rw [hS,bytes_size,hp2]
     have hV:objOK ⟨⟨#[120]⟩,2,0,0,(List.range k).map (refM false),[]⟩=true:=by rw [hp1];simp;omega
     rw [←hS] at hTV
     rw [hTV] at TX
     rw [hV] at VX
     clear hTV hV hS hp1 hp2
     have d1:decide ((szM false k:Int)+8≤20000)=true:=by rw [decide_eq_true_eq];omega
     have d2:((S.size:Int)==(szM false k:Int)+8)=true:=by rw [beq_iff_eq];omega
     clear hSz hB
     go_wp2_with fail
     refine (TX.out _ HS2.out).mono ?_
     rintro e w2 ⟨rfl,hb2⟩
     have HO3:=Lib.hid (row_later hb2 HO2.out)
     have HS3:=Lib.hid (HS2.out.later hb2)
     have BW1:=below_step (hbk.alloc hbs7 _) (Nat.le_refl _) hb2
     clear hb2
     clear o0 o1 o2 o3 o4 o5 oz
     obtain ⟨oz,o0,o1,o2,o3,o4,o5⟩:=rk6 HO3.out
     go_wp2_with fail
     refine (VX.out _ HS3.out).mono ?_
     rintro e w3 ⟨rfl,hb3⟩
     have BW2:=below_step BW1 (Nat.le_refl _) hb3
     clear BW1 hb3
     clear o0 o1 o2 o3 o4 o5 oz
     go_wp2
     go_ret
     exact ⟨rfl,BW2⟩
    ·have hTV:textV ⟨⟨#[120]⟩,2,0,0,(List.range k).map (refM false),[]⟩=.tuple #[.string ⟨#[]⟩,.int .i64 2]:=by
      unfold textV;rw [if_pos (by rw [hp1];simp;omega),if_pos (by omega)]
     have hV:objOK ⟨⟨#[120]⟩,2,0,0,(List.range k).map (refM false),[]⟩=true:=by rw [hp1];simp;omega
     rw [hTV] at TX
     rw [hV] at VX
     clear hTV hV hp1 hp2
     have d1:decide ((szM false k:Int)+8≤20000)=false:=by rw [decide_eq_false_iff_not];omega
     clear hB
     go_wp2_with fail
     refine (TX.out _ HS2.out).mono ?_
     rintro e w2 ⟨rfl,hb2⟩
     have HO3:=Lib.hid (row_later hb2 HO2.out)
     have HS3:=Lib.hid (HS2.out.later hb2)
     have BW1:=below_step (hbk.alloc hbs7 _) (Nat.le_refl _) hb2
     clear hb2
     clear o0 o1 o2 o3 o4 o5 oz
     obtain ⟨oz,o0,o1,o2,o3,o4,o5⟩:=rk6 HO3.out
     go_wp2_with fail
     refine (VX.out _ HS3.out).mono ?_
     rintro e w3 ⟨rfl,hb3⟩
     have BW2:=below_step BW1 (Nat.le_refl _) hb3
     clear BW1 hb3
     clear o0 o1 o2 o3 o4 o5 oz
     go_wp2
     go_ret
     exact ⟨rfl,BW2⟩
   ·have hV:objOK ⟨⟨#[120]⟩,2,0,0,(List.range k).map (refM false),[]⟩=false:=by rw [hp1];rw [decide_eq_false_iff_not];exact hA
    rw [textV_bad hV] at TX
    rw [hV] at VX
    clear hV hp1 hp2
    by_cases hC:2≤k
    ·have hD:2000<k:=by omega
     clear hA
     go_wp2_with fail
     refine (TX.out _ HS2.out).mono ?_
     rintro e w2 ⟨rfl,hb2⟩
     have HO3:=Lib.hid (row_later hb2 HO2.out)
     have HS3:=Lib.hid (HS2.out.later hb2)
     have BW1:=below_step (hbk.alloc hbs7 _) (Nat.le_refl _) hb2
     clear hb2
     clear o0 o1 o2 o3 o4 o5 oz
     obtain ⟨oz,o0,o1,o2,o3,o4,o5⟩:=rk6 HO3.out
     go_wp2_with fail
     refine (VX.out _ HS3.out).mono ?_
     rintro e w3 ⟨rfl,hb3⟩
     have BW2:=below_step BW1 (Nat.le_refl _) hb3
     clear BW1 hb3
     clear o0 o1 o2 o3 o4 o5 oz
     go_wp2
     go_ret
     exact ⟨rfl,BW2⟩
    ·have hD:k<2:=by omega
     clear hA hC
     go_wp2_with fail
     refine (TX.out _ HS2.out).mono ?_
     rintro e w2 ⟨rfl,hb2⟩
     have HO3:=Lib.hid (row_later hb2 HO2.out)
     have HS3:=Lib.hid (HS2.out.later hb2)
     have BW1:=below_step (hbk.alloc hbs7 _) (Nat.le_refl _) hb2
     clear hb2
     clear o0 o1 o2 o3 o4 o5 oz
     obtain ⟨oz,o0,o1,o2,o3,o4,o5⟩:=rk6 HO3.out
     go_wp2_with fail
     refine (VX.out _ HS3.out).mono ?_
     rintro e w3 ⟨rfl,hb3⟩
     have BW2:=below_step BW1 (Nat.le_refl _) hb3
     clear BW1 hb3
     clear o0 o1 o2 o3 o4 o5 oz
     go_wp2
     go_ret
     exact ⟨rfl,BW2⟩
set_option maxRecDepth 100000 in
set_option maxHeartbeats 4000000 in
theorem many_2true (raw kd:Nat) (hr:raw<65536) (hk:kd<256) (hq:kd % 4=0) (w:World) :
  Calls Tryd.prog 3 #[.int .u16 raw,.int .u8 kd,.bool true] w fun e w'=>e=.returned (.bool true)∧Below w.heap.size w w':=by
 have HD:=Lib.hid (fun W=>head_any W)
 have j0:IntKind.i64.wrap (raw:Int)=(raw:Int):=IntWalk.i64_in _ (by omega)
 have j1:IntKind.i64.wrap (kd:Int)=(kd:Int):=IntWalk.i64_in _ (by omega)
 obtain ⟨n,hn⟩:∃n,n=raw % 2011:=⟨_,rfl⟩
 have j2:(raw:Int).tmod 2011=(n:Int):=by rw [Int.tmod_eq_emod_of_nonneg (by omega)];omega
 have j3:(kd:Int).tmod 4=0:=by rw [Int.tmod_eq_emod_of_nonneg (by omega)];omega
 have hn1:n<2011:=by omega
 clear hn hk hq
 go_enter Tryd.func3,Tryd.ntmps3
 go_wp2_with fail
 refine (HD.out _).mono ?_
 rintro e w1 ⟨rfl,hb⟩
 have HO1:=Lib.hid (row_past (o':=.cells #[.string ⟨#[119,97,121]⟩,.string ⟨#[97,114,101,97]⟩,.string ⟨#[114,111,117,116,101]⟩,.string ⟨#[116,117,114,110]⟩] 9) (row_new w1 (.cells (obA ⟨#[120]⟩ 2 0 0 (.slice none 0 0) (.slice none 0 0)) 29)))
 have B2:Below w.heap.size w ((w1.alloc (.cells (obA ⟨#[120]⟩ 2 0 0 (.slice none 0 0) (.slice none 0 0)) 29)).alloc (.cells #[.string ⟨#[119,97,121]⟩,.string ⟨#[97,114,101,97]⟩,.string ⟨#[114,111,117,116,101]⟩,.string ⟨#[116,117,114,110]⟩] 9)):=(hb.alloc hb.size _).alloc (by have:=hb.size;simp;omega) _
 obtain ⟨i0,hi,hi0,hi1,hi2⟩:=info_parts infoStrL
 go_wp2
 go_loopw [10,11,12] (fun sz i s wr=>∃(k:Nat) (v:Value),k≤n∧i=.int .i64 k∧sz=.int .i64 ((szM true k:Int)+8)∧wr.heap[w1.heap.size]?=some (.cells (obA ⟨#[120]⟩ 2 0 0 v (.slice none 0 0)) 29 (0,0))∧wr.ownsRow w1.heap.size 9 1 v k (((List.range k).map (refM true)).map Value.string)∧Below w.heap.size w wr) (fun _ i _ _=>n - (intOf i).toNat)
 case atStart=>exact ⟨0,_,by omega,rfl,rfl,HO1.out,World.ownsRow_nil _ _ _ _,B2⟩
 case round =>
  obtain ⟨k,v,hk,rfl,rfl,hO,hrow,hbk⟩:=hrel
  clear HO1 B2
  have HO7:=Lib.hid hO
  have HRW:=Lib.hid hrow
  have hbs7:=hbk.size
  have hwb:=hb.size
  have hol:=lt_of_block hO
  clear hO hrow
  by_cases hlt:k<n
  ·have RD:=Lib.hid (fun W=>rdecimal_any k (by omega) W)
   have hS:=Lib.hid (refM_size (long:=true) (show k<2011 by omega))
   have hL:=dec_len (show k<2011 by omega)
   have hZ:=szM_le true k (by omega)
   obtain ⟨S,hSe⟩:∃z,z=bytesOf (decL k):=⟨_,rfl⟩
   rw [←hSe] at RD
   have HSE:=Lib.hid hSe
   have hS1:S.size≤4:=by rw [hSe,bytes_size];exact hL.1
   have HRE:=Lib.hid (show refM true k=(⟨#[114,95,50,51,52,53,54,55,56,57,48,49,50,51,52,53,54,55,56,57]⟩:ByteArray)++S by rw [refM,hSe];rfl)
   have HRS:=Lib.hid (show (refM true k).size=20+S.size by rw [HRE.out,ByteArray.size_append];rfl)
   clear hSe hL
   obtain ⟨oz,o0,o1,o2,o3,o4,o5⟩:=rk6 HO7.out
   go_wp2_with fail
   refine (RD.out _).mono ?_
   rintro e w2 ⟨rfl,hww⟩
   subst w2
   (go_wp2_with fail;refine (RD.out _).mono ?_;rintro e w2 ⟨rfl,hww⟩;subst w2)
   have HNE:=Lib.hid (show some w1.heap.size≠v.ownBlock from fun e=>by
    rcases HRW.out.2 with ⟨rfl,_⟩ | ⟨g,cap2,cur,rfl,_,hgb,_⟩
    ·simp [Value.ownBlock] at e
    ·obtain rfl:w1.heap.size=g:=by simpa [Value.ownBlock] using e
     rw [HO7.out] at hgb;injection hgb with hgb;injection hgb with _ hgb;exact absurd hgb (by decide))
   have HCN:=Lib.hid (cells_newL wr [Value.string ((⟨#[114,95,50,51,52,53,54,55,56,57,48,49,50,51,52,53,54,55,56,57]⟩:ByteArray)++S)] 9)
   have HO8:=Lib.hid (row_past (o':=.cells #[.string ((⟨#[114,95,50,51,52,53,54,55,56,57,48,49,50,51,52,53,54,55,56,57]⟩:ByteArray)++S)] 9) HO7.out)
   have hn1:¬w1.heap.size=wr.heap.size:=by omega
   go_wp2_with (at_builtin;refine wpList_append_own _ rfl _ _ 26 rfl w1.heap.size 9 i0 (.string ⟨#[]⟩) 1 16 Tryd.underlying26 hi hi0 hi1 hi2 rfl (by decide) _ _ _ rfl (HRW.out.alloc _) ⟨wr.heap.size,0,none⟩ 1 1 [.string ((⟨#[114,95,50,51,52,53,54,55,56,57,48,49,50,51,52,53,54,55,56,57]⟩:ByteArray)++S)] (by first | rfl | simp) (by first | rfl | simp) HCN.out (by intro u hu;rw [List.mem_singleton.1 hu];rfl) (by unfold maxLen;omega) (by omega) (by simp;omega) ?_;intro v' w5 hown5 hgr5 _;have HO5:=row_grownL (row:=v.ownBlock) hgr5 HO8.out HNE.out;have q4:=cell_of_row w5 _ 4 _ _ _ HO5;have qf:=frozen_of_row w5 _ 4 _ _ HO5;simp only [List.getElem?_toArray,List.getElem?_cons_zero,List.getElem?_cons_succ] at q4;obtain ⟨g',cap',rfl⟩:=ownsRow_succ hown5)
   all_goals
    have HO9:=Lib.hid HO5
    have B5:Below w.heap.size w w5:=(hbk.alloc hbs7 _).grown (row:=v.ownBlock) hgr5 (by simp;omega) (fun j ej=>by have:=(HRW.out.lt j ej).1;omega)
    have HOW5:=Lib.hid (show (w5.setCell ⟨w1.heap.size,4,none⟩ (.slice (some ⟨g',0,none⟩) (k+1) cap')).ownsRow w1.heap.size 9 1 (.slice (some ⟨g',0,none⟩) (k+1) cap') (k+1) (((List.range (k+1)).map (refM true)).map Value.string) by
     rw [range_snoc,HRE.out]
     refine own_set hown5 (fun e=>?_)
     rcases hown5.2 with ⟨h,_⟩ | ⟨g2,cap2,cur,h,_,hgb,_⟩
     ·cases h
     ·injection h with h _ _;injection h with h;injection h with h
      subst h
      have e2:w1.heap.size=g':=by simpa [Value.ownBlock] using e
      rw [←e2,HO5] at hgb;injection hgb with hgb;injection hgb with _ hgb;exact absurd hgb (by decide))
    clear hown5 hgr5 HO5
    go_roundw
    case rel=>exact ⟨k+1,_,by omega,by go_num,congrArg (Value.int .i64) (by rw [szM,HRS.out];split<;>omega),row_set (i:=4) HO9.out,HOW5.out,B5.setCell (by simp only;omega) _⟩
    case measure=>simp [intOf];omega
  ·obtain rfl:k=n:=by omega
   obtain ⟨av,cv,rfl,hcv⟩:∃a c,v=.slice a k c∧k≤c:=by
    rcases HRW.out.2 with ⟨rfl,h0⟩ | ⟨g,cap2,cur,rfl,_,_,h1,_⟩
    ·exact ⟨none,0,by rw [h0],by omega⟩
    ·exact ⟨_,_,rfl,h1⟩
   have HST:=Lib.hid (show StrRow wr (.slice av k cv) ((List.range k).map (refM true)) from strRow_own HRW.out (by simp) (by simp;omega) (fun s hs=>by
    obtain ⟨i,hi,rfl⟩:=List.mem_map.1 hs
    have:=(refM_size (long:=true) (show i<2011 by have:=List.mem_range.1 hi;omega)).1
    omega))
   have TX:=Lib.hid (fun W (h:StrRow W (.slice av k cv) ((List.range k).map (refM true)))=>text_any ⟨#[120]⟩ 2 0 0 (.slice av k cv) (.slice none 0 0) ((List.range k).map (refM true)) [] W (by decide) h (ObIn.nil W).tags (fun a n c h=>by injection h with _ h1 h2;omega) (by simp) (fun h=>absurd h (by decide)))
   have VX:=Lib.hid (fun W (h:StrRow W (.slice av k cv) ((List.range k).map (refM true)))=>validO_any ⟨#[120]⟩ 2 0 0 (.slice av k cv) (.slice none 0 0) ((List.range k).map (refM true)) [] W (by decide) h (ObIn.nil W).tags)
   obtain ⟨oz,o0,o1,o2,o3,o4,o5⟩:=rk6 HO7.out
   have bq:Below wr.heap.size wr (wr.alloc (.cells #[.int .i64 2,.int .i64 3,.int .i64 1,.int .i64 3] 3)):=(Below.refl _ _).alloc (Nat.le_refl _) _
   have HO2:=Lib.hid (row_later bq HO7.out)
   have HS2:=Lib.hid (HST.out.later bq)
   clear bq
   have hp1:=many_ok true k (by omega) 2 2 (by decide)
   have hp2:=many_len true k 2 8 (by decide)
   by_cases hA:2≤k∧k≤2000
   ·by_cases hB:szM true k+8≤20000
    ·have hTV:textV ⟨⟨#[120]⟩,2,0,0,(List.range k).map (refM true),[]⟩=.tuple #[.string (bytesOf (textL ⟨⟨#[120]⟩,2,0,0,(List.range k).map (refM true),[]⟩)),.int .i64 0]:=textV_ok (by rw [hp1];simp;omega) (by omega) rfl
     obtain ⟨S,hS⟩:∃z,z=bytesOf (textL ⟨⟨#[120]⟩,2,0,0,(List.range k).map (refM true),[]⟩):=⟨_,rfl⟩
     have hSz:S.size=szM true k+8:=by rw [hS,bytes_size,hp2]
     have hV:objOK ⟨⟨#[120]⟩,2,0,0,(List.range k).map (refM true),[]⟩=true:=by rw [hp1];simp;omega
     rw [←hS] at hTV
     rw [hTV] at TX
     rw [hV] at VX
     clear hTV hV hS hp1 hp2
     have d1:decide ((szM true k:Int)+8≤20000)=true:=by rw [decide_eq_true_eq];omega
     have d2:((S.size:Int)==(szM true k:Int)+8)=true:=by rw [beq_iff_eq];omega
     clear hSz hB
     go_wp2_with fail
     refine (TX.out _ HS2.out).mono ?_
     rintro e w2 ⟨rfl,hb2⟩
     have HO3:=Lib.hid (row_later hb2 HO2.out)
     have HS3:=Lib.hid (HS2.out.later hb2)
     have BW1:=below_step (hbk.alloc hbs7 _) (Nat.le_refl _) hb2
     clear hb2
     clear o0 o1 o2 o3 o4 o5 oz
     obtain ⟨oz,o0,o1,o2,o3,o4,o5⟩:=rk6 HO3.out
     go_wp2_with fail
     refine (VX.out _ HS3.out).mono ?_
     rintro e w3 ⟨rfl,hb3⟩
     have BW2:=below_step BW1 (Nat.le_refl _) hb3
     clear BW1 hb3
     clear o0 o1 o2 o3 o4 o5 oz
     go_wp2
     go_ret
     exact ⟨rfl,BW2⟩
    ·have hTV:textV ⟨⟨#[120]⟩,2,0,0,(List.range k).map (refM true),[]⟩=.tuple #[.string ⟨#[]⟩,.int .i64 2]:=by
      unfold textV;rw [if_pos (by rw [hp1];simp;omega),if_pos (by omega)]
     have hV:objOK ⟨⟨#[120]⟩,2,0,0,(List.range k).map (refM true),[]⟩=true:=by rw [hp1];simp;omega
     rw [hTV] at TX
     rw [hV] at VX
     clear hTV hV hp1 hp2
     have d1:decide ((szM true k:Int)+8≤20000)=false:=by rw [decide_eq_false_iff_not];omega
     clear hB
     go_wp2_with fail
     refine (TX.out _ HS2.out).mono ?_
     rintro e w2 ⟨rfl,hb2⟩
     have HO3:=Lib.hid (row_later hb2 HO2.out)
     have HS3:=Lib.hid (HS2.out.later hb2)
     have BW1:=below_step (hbk.alloc hbs7 _) (Nat.le_refl _) hb2
     clear hb2
     clear o0 o1 o2 o3 o4 o5 oz
     obtain ⟨oz,o0,o1,o2,o3,o4,o5⟩:=rk6 HO3.out
     go_wp2_with fail
     refine (VX.out _ HS3.out).mono ?_
     rintro e w3 ⟨rfl,hb3⟩
     have BW2:=below_step BW1 (Nat.le_refl _) hb3
     clear BW1 hb3
     clear o0 o1 o2 o3 o4 o5 oz
     go_wp2
     go_ret
     exact ⟨rfl,BW2⟩
   ·have hV:objOK ⟨⟨#[120]⟩,2,0,0,(List.range k).map (refM true),[]⟩=false:=by rw [hp1];rw [decide_eq_false_iff_not];exact hA
    rw [textV_bad hV] at TX
    rw [hV] at VX
    clear hV hp1 hp2
    by_cases hC:2≤k
    ·have hD:2000<k:=by omega
     clear hA
     go_wp2_with fail
     refine (TX.out _ HS2.out).mono ?_
     rintro e w2 ⟨rfl,hb2⟩
     have HO3:=Lib.hid (row_later hb2 HO2.out)
     have HS3:=Lib.hid (HS2.out.later hb2)
     have BW1:=below_step (hbk.alloc hbs7 _) (Nat.le_refl _) hb2
     clear hb2
     clear o0 o1 o2 o3 o4 o5 oz
     obtain ⟨oz,o0,o1,o2,o3,o4,o5⟩:=rk6 HO3.out
     go_wp2_with fail
     refine (VX.out _ HS3.out).mono ?_
     rintro e w3 ⟨rfl,hb3⟩
     have BW2:=below_step BW1 (Nat.le_refl _) hb3
     clear BW1 hb3
     clear o0 o1 o2 o3 o4 o5 oz
     go_wp2
     go_ret
     exact ⟨rfl,BW2⟩
    ·have hD:k<2:=by omega
     clear hA hC
     go_wp2_with fail
     refine (TX.out _ HS2.out).mono ?_
     rintro e w2 ⟨rfl,hb2⟩
     have HO3:=Lib.hid (row_later hb2 HO2.out)
     have HS3:=Lib.hid (HS2.out.later hb2)
     have BW1:=below_step (hbk.alloc hbs7 _) (Nat.le_refl _) hb2
     clear hb2
     clear o0 o1 o2 o3 o4 o5 oz
     obtain ⟨oz,o0,o1,o2,o3,o4,o5⟩:=rk6 HO3.out
     go_wp2_with fail
     refine (VX.out _ HS3.out).mono ?_
     rintro e w3 ⟨rfl,hb3⟩
     have BW2:=below_step BW1 (Nat.le_refl _) hb3
     clear BW1 hb3
     clear o0 o1 o2 o3 o4 o5 oz
     go_wp2
     go_ret
     exact ⟨rfl,BW2⟩
set_option maxRecDepth 100000 in
set_option maxHeartbeats 4000000 in
theorem many_3false (raw kd:Nat) (hr:raw<65536) (hk:kd<256) (hq:kd % 4=1) (w:World) :
  Calls Tryd.prog 3 #[.int .u16 raw,.int .u8 kd,.bool false] w fun e w'=>e=.returned (.bool true)∧Below w.heap.size w w':=by
 have HD:=Lib.hid (fun W=>head_any W)
 have j0:IntKind.i64.wrap (raw:Int)=(raw:Int):=IntWalk.i64_in _ (by omega)
 have j1:IntKind.i64.wrap (kd:Int)=(kd:Int):=IntWalk.i64_in _ (by omega)
 obtain ⟨n,hn⟩:∃n,n=raw % 2011:=⟨_,rfl⟩
 have j2:(raw:Int).tmod 2011=(n:Int):=by rw [Int.tmod_eq_emod_of_nonneg (by omega)];omega
 have j3:(kd:Int).tmod 4=1:=by rw [Int.tmod_eq_emod_of_nonneg (by omega)];omega
 have hn1:n<2011:=by omega
 clear hn hk hq
 go_enter Tryd.func3,Tryd.ntmps3
 go_wp2_with fail
 refine (HD.out _).mono ?_
 rintro e w1 ⟨rfl,hb⟩
 have HO1:=Lib.hid (row_past (o':=.cells #[.string ⟨#[119,97,121]⟩,.string ⟨#[97,114,101,97]⟩,.string ⟨#[114,111,117,116,101]⟩,.string ⟨#[116,117,114,110]⟩] 9) (row_new w1 (.cells (obA ⟨#[120]⟩ 3 0 0 (.slice none 0 0) (.slice none 0 0)) 29)))
 have B2:Below w.heap.size w ((w1.alloc (.cells (obA ⟨#[120]⟩ 3 0 0 (.slice none 0 0) (.slice none 0 0)) 29)).alloc (.cells #[.string ⟨#[119,97,121]⟩,.string ⟨#[97,114,101,97]⟩,.string ⟨#[114,111,117,116,101]⟩,.string ⟨#[116,117,114,110]⟩] 9)):=(hb.alloc hb.size _).alloc (by have:=hb.size;simp;omega) _
 obtain ⟨i0,hi,hi0,hi1,hi2⟩:=info_parts infoStrL
 go_wp2
 go_loopw [10,11,12] (fun sz i s wr=>∃(k:Nat) (v:Value),k≤n∧i=.int .i64 k∧sz=.int .i64 ((szM false k:Int)+9)∧wr.heap[w1.heap.size]?=some (.cells (obA ⟨#[120]⟩ 3 0 0 v (.slice none 0 0)) 29 (0,0))∧wr.ownsRow w1.heap.size 9 1 v k (((List.range k).map (refM false)).map Value.string)∧Below w.heap.size w wr) (fun _ i _ _=>n - (intOf i).toNat)
 case atStart=>exact ⟨0,_,by omega,rfl,rfl,HO1.out,World.ownsRow_nil _ _ _ _,B2⟩
 case round =>
  obtain ⟨k,v,hk,rfl,rfl,hO,hrow,hbk⟩:=hrel
  clear HO1 B2
  have HO7:=Lib.hid hO
  have HRW:=Lib.hid hrow
  have hbs7:=hbk.size
  have hwb:=hb.size
  have hol:=lt_of_block hO
  clear hO hrow
  by_cases hlt:k<n
  ·have RD:=Lib.hid (fun W=>rdecimal_any k (by omega) W)
   have hS:=Lib.hid (refM_size (long:=false) (show k<2011 by omega))
   have hL:=dec_len (show k<2011 by omega)
   have hZ:=szM_le false k (by omega)
   obtain ⟨S,hSe⟩:∃z,z=bytesOf (decL k):=⟨_,rfl⟩
   rw [←hSe] at RD
   have HSE:=Lib.hid hSe
   have hS1:S.size≤4:=by rw [hSe,bytes_size];exact hL.1
   have HRE:=Lib.hid (show refM false k=(⟨#[114]⟩:ByteArray)++S by rw [refM,hSe];rfl)
   have HRS:=Lib.hid (show (refM false k).size=1+S.size by rw [HRE.out,ByteArray.size_append];rfl)
   clear hSe hL
   obtain ⟨oz,o0,o1,o2,o3,o4,o5⟩:=rk6 HO7.out
   go_wp2_with fail
   refine (RD.out _).mono ?_
   rintro e w2 ⟨rfl,hww⟩
   subst w2
   skip
   have HNE:=Lib.hid (show some w1.heap.size≠v.ownBlock from fun e=>by
    rcases HRW.out.2 with ⟨rfl,_⟩ | ⟨g,cap2,cur,rfl,_,hgb,_⟩
    ·simp [Value.ownBlock] at e
    ·obtain rfl:w1.heap.size=g:=by simpa [Value.ownBlock] using e
     rw [HO7.out] at hgb;injection hgb with hgb;injection hgb with _ hgb;exact absurd hgb (by decide))
   have HCN:=Lib.hid (cells_newL wr [Value.string ((⟨#[114]⟩:ByteArray)++S)] 9)
   have HO8:=Lib.hid (row_past (o':=.cells #[.string ((⟨#[114]⟩:ByteArray)++S)] 9) HO7.out)
   have hn1:¬w1.heap.size=wr.heap.size:=by omega
   go_wp2_with (at_builtin;refine wpList_append_own _ rfl _ _ 26 rfl w1.heap.size 9 i0 (.string ⟨#[]⟩) 1 16 Tryd.underlying26 hi hi0 hi1 hi2 rfl (by decide) _ _ _ rfl (HRW.out.alloc _) ⟨wr.heap.size,0,none⟩ 1 1 [.string ((⟨#[114]⟩:ByteArray)++S)] (by first | rfl | simp) (by first | rfl | simp) HCN.out (by intro u hu;rw [List.mem_singleton.1 hu];rfl) (by unfold maxLen;omega) (by omega) (by simp;omega) ?_;intro v' w5 hown5 hgr5 _;have HO5:=row_grownL (row:=v.ownBlock) hgr5 HO8.out HNE.out;have q4:=cell_of_row w5 _ 4 _ _ _ HO5;have qf:=frozen_of_row w5 _ 4 _ _ HO5;simp only [List.getElem?_toArray,List.getElem?_cons_zero,List.getElem?_cons_succ] at q4;obtain ⟨g',cap',rfl⟩:=ownsRow_succ hown5)
   all_goals
    have HO9:=Lib.hid HO5
    have B5:Below w.heap.size w w5:=(hbk.alloc hbs7 _).grown (row:=v.ownBlock) hgr5 (by simp;omega) (fun j ej=>by have:=(HRW.out.lt j ej).1;omega)
    have HOW5:=Lib.hid (show (w5.setCell ⟨w1.heap.size,4,none⟩ (.slice (some ⟨g',0,none⟩) (k+1) cap')).ownsRow w1.heap.size 9 1 (.slice (some ⟨g',0,none⟩) (k+1) cap') (k+1) (((List.range (k+1)).map (refM false)).map Value.string) by
     rw [range_snoc,HRE.out]
     refine own_set hown5 (fun e=>?_)
     rcases hown5.2 with ⟨h,_⟩ | ⟨g2,cap2,cur,h,_,hgb,_⟩
     ·cases h
     ·injection h with h _ _;injection h with h;injection h with h
      subst h
      have e2:w1.heap.size=g':=by simpa [Value.ownBlock] using e
      rw [←e2,HO5] at hgb;injection hgb with hgb;injection hgb with _ hgb;exact absurd hgb (by decide))
    clear hown5 hgr5 HO5
    go_roundw
    case rel=>exact ⟨k+1,_,by omega,by go_num,congrArg (Value.int .i64) (by rw [szM,HRS.out];split<;>omega),row_set (i:=4) HO9.out,HOW5.out,B5.setCell (by simp only;omega) _⟩
    case measure=>simp [intOf];omega
  ·obtain rfl:k=n:=by omega
   obtain ⟨av,cv,rfl,hcv⟩:∃a c,v=.slice a k c∧k≤c:=by
    rcases HRW.out.2 with ⟨rfl,h0⟩ | ⟨g,cap2,cur,rfl,_,_,h1,_⟩
    ·exact ⟨none,0,by rw [h0],by omega⟩
    ·exact ⟨_,_,rfl,h1⟩
   have HST:=Lib.hid (show StrRow wr (.slice av k cv) ((List.range k).map (refM false)) from strRow_own HRW.out (by simp) (by simp;omega) (fun s hs=>by
    obtain ⟨i,hi,rfl⟩:=List.mem_map.1 hs
    have:=(refM_size (long:=false) (show i<2011 by have:=List.mem_range.1 hi;omega)).1
    omega))
   have TX:=Lib.hid (fun W (h:StrRow W (.slice av k cv) ((List.range k).map (refM false)))=>text_any ⟨#[120]⟩ 3 0 0 (.slice av k cv) (.slice none 0 0) ((List.range k).map (refM false)) [] W (by decide) h (ObIn.nil W).tags (fun a n c h=>by injection h with _ h1 h2;omega) (by simp) (fun h=>absurd h (by decide)))
   have VX:=Lib.hid (fun W (h:StrRow W (.slice av k cv) ((List.range k).map (refM false)))=>validO_any ⟨#[120]⟩ 3 0 0 (.slice av k cv) (.slice none 0 0) ((List.range k).map (refM false)) [] W (by decide) h (ObIn.nil W).tags)
   obtain ⟨oz,o0,o1,o2,o3,o4,o5⟩:=rk6 HO7.out
   have bq:Below wr.heap.size wr (wr.alloc (.cells #[.int .i64 2,.int .i64 3,.int .i64 1,.int .i64 3] 3)):=(Below.refl _ _).alloc (Nat.le_refl _) _
   have HO2:=Lib.hid (row_later bq HO7.out)
   have HS2:=Lib.hid (HST.out.later bq)
   clear bq
   have hp1:=many_ok false k (by omega) 3 3 (by decide)
   have hp2:=many_len false k 3 9 (by decide)
   by_cases hA:3≤k∧k≤2000
   ·by_cases hB:szM false k+9≤20000
    ·have hTV:textV ⟨⟨#[120]⟩,3,0,0,(List.range k).map (refM false),[]⟩=.tuple #[.string (bytesOf (textL ⟨⟨#[120]⟩,3,0,0,(List.range k).map (refM false),[]⟩)),.int .i64 0]:=textV_ok (by rw [hp1];simp;omega) (by omega) rfl
     obtain ⟨S,hS⟩:∃z,z=bytesOf (textL ⟨⟨#[120]⟩,3,0,0,(List.range k).map (refM false),[]⟩):=⟨_,rfl⟩
     have hSz:S.size=szM false k+9:=by rw [hS,bytes_size,hp2]
     have hV:objOK ⟨⟨#[120]⟩,3,0,0,(List.range k).map (refM false),[]⟩=true:=by rw [hp1];simp;omega
     rw [←hS] at hTV
     rw [hTV] at TX
     rw [hV] at VX
     clear hTV hV hS hp1 hp2
     have d1:decide ((szM false k:Int)+9≤20000)=true:=by rw [decide_eq_true_eq];omega
     have d2:((S.size:Int)==(szM false k:Int)+9)=true:=by rw [beq_iff_eq];omega
     clear hSz hB
     go_wp2_with fail
     refine (TX.out _ HS2.out).mono ?_
     rintro e w2 ⟨rfl,hb2⟩
     have HO3:=Lib.hid (row_later hb2 HO2.out)
     have HS3:=Lib.hid (HS2.out.later hb2)
     have BW1:=below_step (hbk.alloc hbs7 _) (Nat.le_refl _) hb2
     clear hb2
     clear o0 o1 o2 o3 o4 o5 oz
     obtain ⟨oz,o0,o1,o2,o3,o4,o5⟩:=rk6 HO3.out
     go_wp2_with fail
     refine (VX.out _ HS3.out).mono ?_
     rintro e w3 ⟨rfl,hb3⟩
     have BW2:=below_step BW1 (Nat.le_refl _) hb3
     clear BW1 hb3
     clear o0 o1 o2 o3 o4 o5 oz
     go_wp2
     go_ret
     exact ⟨rfl,BW2⟩
    ·have hTV:textV ⟨⟨#[120]⟩,3,0,0,(List.range k).map (refM false),[]⟩=.tuple #[.string ⟨#[]⟩,.int .i64 2]:=by
      unfold textV;rw [if_pos (by rw [hp1];simp;omega),if_pos (by omega)]
     have hV:objOK ⟨⟨#[120]⟩,3,0,0,(List.range k).map (refM false),[]⟩=true:=by rw [hp1];simp;omega
     rw [hTV] at TX
     rw [hV] at VX
     clear hTV hV hp1 hp2
     have d1:decide ((szM false k:Int)+9≤20000)=false:=by rw [decide_eq_false_iff_not];omega
     clear hB
     go_wp2_with fail
     refine (TX.out _ HS2.out).mono ?_
     rintro e w2 ⟨rfl,hb2⟩
     have HO3:=Lib.hid (row_later hb2 HO2.out)
     have HS3:=Lib.hid (HS2.out.later hb2)
     have BW1:=below_step (hbk.alloc hbs7 _) (Nat.le_refl _) hb2
     clear hb2
     clear o0 o1 o2 o3 o4 o5 oz
     obtain ⟨oz,o0,o1,o2,o3,o4,o5⟩:=rk6 HO3.out
     go_wp2_with fail
     refine (VX.out _ HS3.out).mono ?_
     rintro e w3 ⟨rfl,hb3⟩
     have BW2:=below_step BW1 (Nat.le_refl _) hb3
     clear BW1 hb3
     clear o0 o1 o2 o3 o4 o5 oz
     go_wp2
     go_ret
     exact ⟨rfl,BW2⟩
   ·have hV:objOK ⟨⟨#[120]⟩,3,0,0,(List.range k).map (refM false),[]⟩=false:=by rw [hp1];rw [decide_eq_false_iff_not];exact hA
    rw [textV_bad hV] at TX
    rw [hV] at VX
    clear hV hp1 hp2
    by_cases hC:3≤k
    ·have hD:2000<k:=by omega
     clear hA
     go_wp2_with fail
     refine (TX.out _ HS2.out).mono ?_
     rintro e w2 ⟨rfl,hb2⟩
     have HO3:=Lib.hid (row_later hb2 HO2.out)
     have HS3:=Lib.hid (HS2.out.later hb2)
     have BW1:=below_step (hbk.alloc hbs7 _) (Nat.le_refl _) hb2
     clear hb2
     clear o0 o1 o2 o3 o4 o5 oz
     obtain ⟨oz,o0,o1,o2,o3,o4,o5⟩:=rk6 HO3.out
     go_wp2_with fail
     refine (VX.out _ HS3.out).mono ?_
     rintro e w3 ⟨rfl,hb3⟩
     have BW2:=below_step BW1 (Nat.le_refl _) hb3
     clear BW1 hb3
     clear o0 o1 o2 o3 o4 o5 oz
     go_wp2
     go_ret
     exact ⟨rfl,BW2⟩
    ·have hD:k<3:=by omega
     clear hA hC
     go_wp2_with fail
     refine (TX.out _ HS2.out).mono ?_
     rintro e w2 ⟨rfl,hb2⟩
     have HO3:=Lib.hid (row_later hb2 HO2.out)
     have HS3:=Lib.hid (HS2.out.later hb2)
     have BW1:=below_step (hbk.alloc hbs7 _) (Nat.le_refl _) hb2
     clear hb2
     clear o0 o1 o2 o3 o4 o5 oz
     obtain ⟨oz,o0,o1,o2,o3,o4,o5⟩:=rk6 HO3.out
     go_wp2_with fail
     refine (VX.out _ HS3.out).mono ?_
     rintro e w3 ⟨rfl,hb3⟩
     have BW2:=below_step BW1 (Nat.le_refl _) hb3
     clear BW1 hb3
     clear o0 o1 o2 o3 o4 o5 oz
     go_wp2
     go_ret
     exact ⟨rfl,BW2⟩
set_option maxRecDepth 100000 in
set_option maxHeartbeats 4000000 in
theorem many_3true (raw kd:Nat) (hr:raw<65536) (hk:kd<256) (hq:kd % 4=1) (w:World) :
  Calls Tryd.prog 3 #[.int .u16 raw,.int .u8 kd,.bool true] w fun e w'=>e=.returned (.bool true)∧Below w.heap.size w w':=by
 have HD:=Lib.hid (fun W=>head_any W)
 have j0:IntKind.i64.wrap (raw:Int)=(raw:Int):=IntWalk.i64_in _ (by omega)
 have j1:IntKind.i64.wrap (kd:Int)=(kd:Int):=IntWalk.i64_in _ (by omega)
 obtain ⟨n,hn⟩:∃n,n=raw % 2011:=⟨_,rfl⟩
 have j2:(raw:Int).tmod 2011=(n:Int):=by rw [Int.tmod_eq_emod_of_nonneg (by omega)];omega
 have j3:(kd:Int).tmod 4=1:=by rw [Int.tmod_eq_emod_of_nonneg (by omega)];omega
 have hn1:n<2011:=by omega
 clear hn hk hq
 go_enter Tryd.func3,Tryd.ntmps3
 go_wp2_with fail
 refine (HD.out _).mono ?_
 rintro e w1 ⟨rfl,hb⟩
 have HO1:=Lib.hid (row_past (o':=.cells #[.string ⟨#[119,97,121]⟩,.string ⟨#[97,114,101,97]⟩,.string ⟨#[114,111,117,116,101]⟩,.string ⟨#[116,117,114,110]⟩] 9) (row_new w1 (.cells (obA ⟨#[120]⟩ 3 0 0 (.slice none 0 0) (.slice none 0 0)) 29)))
 have B2:Below w.heap.size w ((w1.alloc (.cells (obA ⟨#[120]⟩ 3 0 0 (.slice none 0 0) (.slice none 0 0)) 29)).alloc (.cells #[.string ⟨#[119,97,121]⟩,.string ⟨#[97,114,101,97]⟩,.string ⟨#[114,111,117,116,101]⟩,.string ⟨#[116,117,114,110]⟩] 9)):=(hb.alloc hb.size _).alloc (by have:=hb.size;simp;omega) _
 obtain ⟨i0,hi,hi0,hi1,hi2⟩:=info_parts infoStrL
 go_wp2
 go_loopw [10,11,12] (fun sz i s wr=>∃(k:Nat) (v:Value),k≤n∧i=.int .i64 k∧sz=.int .i64 ((szM true k:Int)+9)∧wr.heap[w1.heap.size]?=some (.cells (obA ⟨#[120]⟩ 3 0 0 v (.slice none 0 0)) 29 (0,0))∧wr.ownsRow w1.heap.size 9 1 v k (((List.range k).map (refM true)).map Value.string)∧Below w.heap.size w wr) (fun _ i _ _=>n - (intOf i).toNat)
 case atStart=>exact ⟨0,_,by omega,rfl,rfl,HO1.out,World.ownsRow_nil _ _ _ _,B2⟩
 case round =>
  obtain ⟨k,v,hk,rfl,rfl,hO,hrow,hbk⟩:=hrel
  clear HO1 B2
  have HO7:=Lib.hid hO
  have HRW:=Lib.hid hrow
  have hbs7:=hbk.size
  have hwb:=hb.size
  have hol:=lt_of_block hO
  clear hO hrow
  by_cases hlt:k<n
  ·have RD:=Lib.hid (fun W=>rdecimal_any k (by omega) W)
   have hS:=Lib.hid (refM_size (long:=true) (show k<2011 by omega))
   have hL:=dec_len (show k<2011 by omega)
   have hZ:=szM_le true k (by omega)
   obtain ⟨S,hSe⟩:∃z,z=bytesOf (decL k):=⟨_,rfl⟩
   rw [←hSe] at RD
   have HSE:=Lib.hid hSe
   have hS1:S.size≤4:=by rw [hSe,bytes_size];exact hL.1
   have HRE:=Lib.hid (show refM true k=(⟨#[114,95,50,51,52,53,54,55,56,57,48,49,50,51,52,53,54,55,56,57]⟩:ByteArray)++S by rw [refM,hSe];rfl)
   have HRS:=Lib.hid (show (refM true k).size=20+S.size by rw [HRE.out,ByteArray.size_append];rfl)
   clear hSe hL
   obtain ⟨oz,o0,o1,o2,o3,o4,o5⟩:=rk6 HO7.out
   go_wp2_with fail
   refine (RD.out _).mono ?_
   rintro e w2 ⟨rfl,hww⟩
   subst w2
   (go_wp2_with fail;refine (RD.out _).mono ?_;rintro e w2 ⟨rfl,hww⟩;subst w2)
   have HNE:=Lib.hid (show some w1.heap.size≠v.ownBlock from fun e=>by
    rcases HRW.out.2 with ⟨rfl,_⟩ | ⟨g,cap2,cur,rfl,_,hgb,_⟩
    ·simp [Value.ownBlock] at e
    ·obtain rfl:w1.heap.size=g:=by simpa [Value.ownBlock] using e
     rw [HO7.out] at hgb;injection hgb with hgb;injection hgb with _ hgb;exact absurd hgb (by decide))
   have HCN:=Lib.hid (cells_newL wr [Value.string ((⟨#[114,95,50,51,52,53,54,55,56,57,48,49,50,51,52,53,54,55,56,57]⟩:ByteArray)++S)] 9)
   have HO8:=Lib.hid (row_past (o':=.cells #[.string ((⟨#[114,95,50,51,52,53,54,55,56,57,48,49,50,51,52,53,54,55,56,57]⟩:ByteArray)++S)] 9) HO7.out)
   have hn1:¬w1.heap.size=wr.heap.size:=by omega
   go_wp2_with (at_builtin;refine wpList_append_own _ rfl _ _ 26 rfl w1.heap.size 9 i0 (.string ⟨#[]⟩) 1 16 Tryd.underlying26 hi hi0 hi1 hi2 rfl (by decide) _ _ _ rfl (HRW.out.alloc _) ⟨wr.heap.size,0,none⟩ 1 1 [.string ((⟨#[114,95,50,51,52,53,54,55,56,57,48,49,50,51,52,53,54,55,56,57]⟩:ByteArray)++S)] (by first | rfl | simp) (by first | rfl | simp) HCN.out (by intro u hu;rw [List.mem_singleton.1 hu];rfl) (by unfold maxLen;omega) (by omega) (by simp;omega) ?_;intro v' w5 hown5 hgr5 _;have HO5:=row_grownL (row:=v.ownBlock) hgr5 HO8.out HNE.out;have q4:=cell_of_row w5 _ 4 _ _ _ HO5;have qf:=frozen_of_row w5 _ 4 _ _ HO5;simp only [List.getElem?_toArray,List.getElem?_cons_zero,List.getElem?_cons_succ] at q4;obtain ⟨g',cap',rfl⟩:=ownsRow_succ hown5)
   all_goals
    have HO9:=Lib.hid HO5
    have B5:Below w.heap.size w w5:=(hbk.alloc hbs7 _).grown (row:=v.ownBlock) hgr5 (by simp;omega) (fun j ej=>by have:=(HRW.out.lt j ej).1;omega)
    have HOW5:=Lib.hid (show (w5.setCell ⟨w1.heap.size,4,none⟩ (.slice (some ⟨g',0,none⟩) (k+1) cap')).ownsRow w1.heap.size 9 1 (.slice (some ⟨g',0,none⟩) (k+1) cap') (k+1) (((List.range (k+1)).map (refM true)).map Value.string) by
     rw [range_snoc,HRE.out]
     refine own_set hown5 (fun e=>?_)
     rcases hown5.2 with ⟨h,_⟩ | ⟨g2,cap2,cur,h,_,hgb,_⟩
     ·cases h
     ·injection h with h _ _;injection h with h;injection h with h
      subst h
      have e2:w1.heap.size=g':=by simpa [Value.ownBlock] using e
      rw [←e2,HO5] at hgb;injection hgb with hgb;injection hgb with _ hgb;exact absurd hgb (by decide))
    clear hown5 hgr5 HO5
    go_roundw
    case rel=>exact ⟨k+1,_,by omega,by go_num,congrArg (Value.int .i64) (by rw [szM,HRS.out];split<;>omega),row_set (i:=4) HO9.out,HOW5.out,B5.setCell (by simp only;omega) _⟩
    case measure=>simp [intOf];omega
  ·obtain rfl:k=n:=by omega
   obtain ⟨av,cv,rfl,hcv⟩:∃a c,v=.slice a k c∧k≤c:=by
    rcases HRW.out.2 with ⟨rfl,h0⟩ | ⟨g,cap2,cur,rfl,_,_,h1,_⟩
    ·exact ⟨none,0,by rw [h0],by omega⟩
    ·exact ⟨_,_,rfl,h1⟩
   have HST:=Lib.hid (show StrRow wr (.slice av k cv) ((List.range k).map (refM true)) from strRow_own HRW.out (by simp) (by simp;omega) (fun s hs=>by
    obtain ⟨i,hi,rfl⟩:=List.mem_map.1 hs
    have:=(refM_size (long:=true) (show i<2011 by have:=List.mem_range.1 hi;omega)).1
    omega))
   have TX:=Lib.hid (fun W (h:StrRow W (.slice av k cv) ((List.range k).map (refM true)))=>text_any ⟨#[120]⟩ 3 0 0 (.slice av k cv) (.slice none 0 0) ((List.range k).map (refM true)) [] W (by decide) h (ObIn.nil W).tags (fun a n c h=>by injection h with _ h1 h2;omega) (by simp) (fun h=>absurd h (by decide)))
   have VX:=Lib.hid (fun W (h:StrRow W (.slice av k cv) ((List.range k).map (refM true)))=>validO_any ⟨#[120]⟩ 3 0 0 (.slice av k cv) (.slice none 0 0) ((List.range k).map (refM true)) [] W (by decide) h (ObIn.nil W).tags)
   obtain ⟨oz,o0,o1,o2,o3,o4,o5⟩:=rk6 HO7.out
   have bq:Below wr.heap.size wr (wr.alloc (.cells #[.int .i64 2,.int .i64 3,.int .i64 1,.int .i64 3] 3)):=(Below.refl _ _).alloc (Nat.le_refl _) _
   have HO2:=Lib.hid (row_later bq HO7.out)
   have HS2:=Lib.hid (HST.out.later bq)
   clear bq
   have hp1:=many_ok true k (by omega) 3 3 (by decide)
   have hp2:=many_len true k 3 9 (by decide)
   by_cases hA:3≤k∧k≤2000
   ·by_cases hB:szM true k+9≤20000
    ·have hTV:textV ⟨⟨#[120]⟩,3,0,0,(List.range k).map (refM true),[]⟩=.tuple #[.string (bytesOf (textL ⟨⟨#[120]⟩,3,0,0,(List.range k).map (refM true),[]⟩)),.int .i64 0]:=textV_ok (by rw [hp1];simp;omega) (by omega) rfl
     obtain ⟨S,hS⟩:∃z,z=bytesOf (textL ⟨⟨#[120]⟩,3,0,0,(List.range k).map (refM true),[]⟩):=⟨_,rfl⟩
     have hSz:S.size=szM true k+9:=by rw [hS,bytes_size,hp2]
     have hV:objOK ⟨⟨#[120]⟩,3,0,0,(List.range k).map (refM true),[]⟩=true:=by rw [hp1];simp;omega
     rw [←hS] at hTV
     rw [hTV] at TX
     rw [hV] at VX
     clear hTV hV hS hp1 hp2
     have d1:decide ((szM true k:Int)+9≤20000)=true:=by rw [decide_eq_true_eq];omega
     have d2:((S.size:Int)==(szM true k:Int)+9)=true:=by rw [beq_iff_eq];omega
     clear hSz hB
     go_wp2_with fail
     refine (TX.out _ HS2.out).mono ?_
     rintro e w2 ⟨rfl,hb2⟩
     have HO3:=Lib.hid (row_later hb2 HO2.out)
     have HS3:=Lib.hid (HS2.out.later hb2)
     have BW1:=below_step (hbk.alloc hbs7 _) (Nat.le_refl _) hb2
     clear hb2
     clear o0 o1 o2 o3 o4 o5 oz
     obtain ⟨oz,o0,o1,o2,o3,o4,o5⟩:=rk6 HO3.out
     go_wp2_with fail
     refine (VX.out _ HS3.out).mono ?_
     rintro e w3 ⟨rfl,hb3⟩
     have BW2:=below_step BW1 (Nat.le_refl _) hb3
     clear BW1 hb3
     clear o0 o1 o2 o3 o4 o5 oz
     go_wp2
     go_ret
     exact ⟨rfl,BW2⟩
    ·have hTV:textV ⟨⟨#[120]⟩,3,0,0,(List.range k).map (refM true),[]⟩=.tuple #[.string ⟨#[]⟩,.int .i64 2]:=by
      unfold textV;rw [if_pos (by rw [hp1];simp;omega),if_pos (by omega)]
     have hV:objOK ⟨⟨#[120]⟩,3,0,0,(List.range k).map (refM true),[]⟩=true:=by rw [hp1];simp;omega
     rw [hTV] at TX
     rw [hV] at VX
     clear hTV hV hp1 hp2
     have d1:decide ((szM true k:Int)+9≤20000)=false:=by rw [decide_eq_false_iff_not];omega
     clear hB
     go_wp2_with fail
     refine (TX.out _ HS2.out).mono ?_
     rintro e w2 ⟨rfl,hb2⟩
     have HO3:=Lib.hid (row_later hb2 HO2.out)
     have HS3:=Lib.hid (HS2.out.later hb2)
     have BW1:=below_step (hbk.alloc hbs7 _) (Nat.le_refl _) hb2
     clear hb2
     clear o0 o1 o2 o3 o4 o5 oz
     obtain ⟨oz,o0,o1,o2,o3,o4,o5⟩:=rk6 HO3.out
     go_wp2_with fail
     refine (VX.out _ HS3.out).mono ?_
     rintro e w3 ⟨rfl,hb3⟩
     have BW2:=below_step BW1 (Nat.le_refl _) hb3
     clear BW1 hb3
     clear o0 o1 o2 o3 o4 o5 oz
     go_wp2
     go_ret
     exact ⟨rfl,BW2⟩
   ·have hV:objOK ⟨⟨#[120]⟩,3,0,0,(List.range k).map (refM true),[]⟩=false:=by rw [hp1];rw [decide_eq_false_iff_not];exact hA
    rw [textV_bad hV] at TX
    rw [hV] at VX
    clear hV hp1 hp2
    by_cases hC:3≤k
    ·have hD:2000<k:=by omega
     clear hA
     go_wp2_with fail
     refine (TX.out _ HS2.out).mono ?_
     rintro e w2 ⟨rfl,hb2⟩
     have HO3:=Lib.hid (row_later hb2 HO2.out)
     have HS3:=Lib.hid (HS2.out.later hb2)
     have BW1:=below_step (hbk.alloc hbs7 _) (Nat.le_refl _) hb2
     clear hb2
     clear o0 o1 o2 o3 o4 o5 oz
     obtain ⟨oz,o0,o1,o2,o3,o4,o5⟩:=rk6 HO3.out
     go_wp2_with fail
     refine (VX.out _ HS3.out).mono ?_
     rintro e w3 ⟨rfl,hb3⟩
     have BW2:=below_step BW1 (Nat.le_refl _) hb3
     clear BW1 hb3
     clear o0 o1 o2 o3 o4 o5 oz
     go_wp2
     go_ret
     exact ⟨rfl,BW2⟩
    ·have hD:k<3:=by omega
     clear hA hC
     go_wp2_with fail
     refine (TX.out _ HS2.out).mono ?_
     rintro e w2 ⟨rfl,hb2⟩
     have HO3:=Lib.hid (row_later hb2 HO2.out)
     have HS3:=Lib.hid (HS2.out.later hb2)
     have BW1:=below_step (hbk.alloc hbs7 _) (Nat.le_refl _) hb2
     clear hb2
     clear o0 o1 o2 o3 o4 o5 oz
     obtain ⟨oz,o0,o1,o2,o3,o4,o5⟩:=rk6 HO3.out
     go_wp2_with fail
     refine (VX.out _ HS3.out).mono ?_
     rintro e w3 ⟨rfl,hb3⟩
     have BW2:=below_step BW1 (Nat.le_refl _) hb3
     clear BW1 hb3
     clear o0 o1 o2 o3 o4 o5 oz
     go_wp2
     go_ret
     exact ⟨rfl,BW2⟩
set_option maxRecDepth 100000 in
set_option maxHeartbeats 4000000 in
theorem many_4false (raw kd:Nat) (hr:raw<65536) (hk:kd<256) (hq:kd % 4=2) (w:World) :
  Calls Tryd.prog 3 #[.int .u16 raw,.int .u8 kd,.bool false] w fun e w'=>e=.returned (.bool true)∧Below w.heap.size w w':=by
 have HD:=Lib.hid (fun W=>head_any W)
 have j0:IntKind.i64.wrap (raw:Int)=(raw:Int):=IntWalk.i64_in _ (by omega)
 have j1:IntKind.i64.wrap (kd:Int)=(kd:Int):=IntWalk.i64_in _ (by omega)
 obtain ⟨n,hn⟩:∃n,n=raw % 2011:=⟨_,rfl⟩
 have j2:(raw:Int).tmod 2011=(n:Int):=by rw [Int.tmod_eq_emod_of_nonneg (by omega)];omega
 have j3:(kd:Int).tmod 4=2:=by rw [Int.tmod_eq_emod_of_nonneg (by omega)];omega
 have hn1:n<2011:=by omega
 clear hn hk hq
 go_enter Tryd.func3,Tryd.ntmps3
 go_wp2_with fail
 refine (HD.out _).mono ?_
 rintro e w1 ⟨rfl,hb⟩
 have HO1:=Lib.hid (row_past (o':=.cells #[.string ⟨#[119,97,121]⟩,.string ⟨#[97,114,101,97]⟩,.string ⟨#[114,111,117,116,101]⟩,.string ⟨#[116,117,114,110]⟩] 9) (row_new w1 (.cells (obA ⟨#[120]⟩ 4 0 0 (.slice none 0 0) (.slice none 0 0)) 29)))
 have B2:Below w.heap.size w ((w1.alloc (.cells (obA ⟨#[120]⟩ 4 0 0 (.slice none 0 0) (.slice none 0 0)) 29)).alloc (.cells #[.string ⟨#[119,97,121]⟩,.string ⟨#[97,114,101,97]⟩,.string ⟨#[114,111,117,116,101]⟩,.string ⟨#[116,117,114,110]⟩] 9)):=(hb.alloc hb.size _).alloc (by have:=hb.size;simp;omega) _
 obtain ⟨i0,hi,hi0,hi1,hi2⟩:=info_parts infoStrL
 go_wp2
 go_loopw [10,11,12] (fun sz i s wr=>∃(k:Nat) (v:Value),k≤n∧i=.int .i64 k∧sz=.int .i64 ((szM false k:Int)+10)∧wr.heap[w1.heap.size]?=some (.cells (obA ⟨#[120]⟩ 4 0 0 v (.slice none 0 0)) 29 (0,0))∧wr.ownsRow w1.heap.size 9 1 v k (((List.range k).map (refM false)).map Value.string)∧Below w.heap.size w wr) (fun _ i _ _=>n - (intOf i).toNat)
 case atStart=>exact ⟨0,_,by omega,rfl,rfl,HO1.out,World.ownsRow_nil _ _ _ _,B2⟩
 case round =>
  obtain ⟨k,v,hk,rfl,rfl,hO,hrow,hbk⟩:=hrel
  clear HO1 B2
  have HO7:=Lib.hid hO
  have HRW:=Lib.hid hrow
  have hbs7:=hbk.size
  have hwb:=hb.size
  have hol:=lt_of_block hO
  clear hO hrow
  by_cases hlt:k<n
  ·have RD:=Lib.hid (fun W=>rdecimal_any k (by omega) W)
   have hS:=Lib.hid (refM_size (long:=false) (show k<2011 by omega))
   have hL:=dec_len (show k<2011 by omega)
   have hZ:=szM_le false k (by omega)
   obtain ⟨S,hSe⟩:∃z,z=bytesOf (decL k):=⟨_,rfl⟩
   rw [←hSe] at RD
   have HSE:=Lib.hid hSe
   have hS1:S.size≤4:=by rw [hSe,bytes_size];exact hL.1
   have HRE:=Lib.hid (show refM false k=(⟨#[114]⟩:ByteArray)++S by rw [refM,hSe];rfl)
   have HRS:=Lib.hid (show (refM false k).size=1+S.size by rw [HRE.out,ByteArray.size_append];rfl)
   clear hSe hL
   obtain ⟨oz,o0,o1,o2,o3,o4,o5⟩:=rk6 HO7.out
   go_wp2_with fail
   refine (RD.out _).mono ?_
   rintro e w2 ⟨rfl,hww⟩
   subst w2
   skip
   have HNE:=Lib.hid (show some w1.heap.size≠v.ownBlock from fun e=>by
    rcases HRW.out.2 with ⟨rfl,_⟩ | ⟨g,cap2,cur,rfl,_,hgb,_⟩
    ·simp [Value.ownBlock] at e
    ·obtain rfl:w1.heap.size=g:=by simpa [Value.ownBlock] using e
     rw [HO7.out] at hgb;injection hgb with hgb;injection hgb with _ hgb;exact absurd hgb (by decide))
   have HCN:=Lib.hid (cells_newL wr [Value.string ((⟨#[114]⟩:ByteArray)++S)] 9)
   have HO8:=Lib.hid (row_past (o':=.cells #[.string ((⟨#[114]⟩:ByteArray)++S)] 9) HO7.out)
   have hn1:¬w1.heap.size=wr.heap.size:=by omega
   go_wp2_with (at_builtin;refine wpList_append_own _ rfl _ _ 26 rfl w1.heap.size 9 i0 (.string ⟨#[]⟩) 1 16 Tryd.underlying26 hi hi0 hi1 hi2 rfl (by decide) _ _ _ rfl (HRW.out.alloc _) ⟨wr.heap.size,0,none⟩ 1 1 [.string ((⟨#[114]⟩:ByteArray)++S)] (by first | rfl | simp) (by first | rfl | simp) HCN.out (by intro u hu;rw [List.mem_singleton.1 hu];rfl) (by unfold maxLen;omega) (by omega) (by simp;omega) ?_;intro v' w5 hown5 hgr5 _;have HO5:=row_grownL (row:=v.ownBlock) hgr5 HO8.out HNE.out;have q4:=cell_of_row w5 _ 4 _ _ _ HO5;have qf:=frozen_of_row w5 _ 4 _ _ HO5;simp only [List.getElem?_toArray,List.getElem?_cons_zero,List.getElem?_cons_succ] at q4;obtain ⟨g',cap',rfl⟩:=ownsRow_succ hown5)
   all_goals
    have HO9:=Lib.hid HO5
    have B5:Below w.heap.size w w5:=(hbk.alloc hbs7 _).grown (row:=v.ownBlock) hgr5 (by simp;omega) (fun j ej=>by have:=(HRW.out.lt j ej).1;omega)
    have HOW5:=Lib.hid (show (w5.setCell ⟨w1.heap.size,4,none⟩ (.slice (some ⟨g',0,none⟩) (k+1) cap')).ownsRow w1.heap.size 9 1 (.slice (some ⟨g',0,none⟩) (k+1) cap') (k+1) (((List.range (k+1)).map (refM false)).map Value.string) by
     rw [range_snoc,HRE.out]
     refine own_set hown5 (fun e=>?_)
     rcases hown5.2 with ⟨h,_⟩ | ⟨g2,cap2,cur,h,_,hgb,_⟩
     ·cases h
     ·injection h with h _ _;injection h with h;injection h with h
      subst h
      have e2:w1.heap.size=g':=by simpa [Value.ownBlock] using e
      rw [←e2,HO5] at hgb;injection hgb with hgb;injection hgb with _ hgb;exact absurd hgb (by decide))
    clear hown5 hgr5 HO5
    go_roundw
    case rel=>exact ⟨k+1,_,by omega,by go_num,congrArg (Value.int .i64) (by rw [szM,HRS.out];split<;>omega),row_set (i:=4) HO9.out,HOW5.out,B5.setCell (by simp only;omega) _⟩
    case measure=>simp [intOf];omega
  ·obtain rfl:k=n:=by omega
   obtain ⟨av,cv,rfl,hcv⟩:∃a c,v=.slice a k c∧k≤c:=by
    rcases HRW.out.2 with ⟨rfl,h0⟩ | ⟨g,cap2,cur,rfl,_,_,h1,_⟩
    ·exact ⟨none,0,by rw [h0],by omega⟩
    ·exact ⟨_,_,rfl,h1⟩
   have HST:=Lib.hid (show StrRow wr (.slice av k cv) ((List.range k).map (refM false)) from strRow_own HRW.out (by simp) (by simp;omega) (fun s hs=>by
    obtain ⟨i,hi,rfl⟩:=List.mem_map.1 hs
    have:=(refM_size (long:=false) (show i<2011 by have:=List.mem_range.1 hi;omega)).1
    omega))
   have TX:=Lib.hid (fun W (h:StrRow W (.slice av k cv) ((List.range k).map (refM false)))=>text_any ⟨#[120]⟩ 4 0 0 (.slice av k cv) (.slice none 0 0) ((List.range k).map (refM false)) [] W (by decide) h (ObIn.nil W).tags (fun a n c h=>by injection h with _ h1 h2;omega) (by simp) (fun h=>absurd h (by decide)))
   have VX:=Lib.hid (fun W (h:StrRow W (.slice av k cv) ((List.range k).map (refM false)))=>validO_any ⟨#[120]⟩ 4 0 0 (.slice av k cv) (.slice none 0 0) ((List.range k).map (refM false)) [] W (by decide) h (ObIn.nil W).tags)
   obtain ⟨oz,o0,o1,o2,o3,o4,o5⟩:=rk6 HO7.out
   have bq:Below wr.heap.size wr (wr.alloc (.cells #[.int .i64 2,.int .i64 3,.int .i64 1,.int .i64 3] 3)):=(Below.refl _ _).alloc (Nat.le_refl _) _
   have HO2:=Lib.hid (row_later bq HO7.out)
   have HS2:=Lib.hid (HST.out.later bq)
   clear bq
   have hp1:=many_ok false k (by omega) 4 1 (by decide)
   have hp2:=many_len false k 4 10 (by decide)
   by_cases hA:1≤k∧k≤2000
   ·by_cases hB:szM false k+10≤20000
    ·have hTV:textV ⟨⟨#[120]⟩,4,0,0,(List.range k).map (refM false),[]⟩=.tuple #[.string (bytesOf (textL ⟨⟨#[120]⟩,4,0,0,(List.range k).map (refM false),[]⟩)),.int .i64 0]:=textV_ok (by rw [hp1];simp;omega) (by omega) rfl
     obtain ⟨S,hS⟩:∃z,z=bytesOf (textL ⟨⟨#[120]⟩,4,0,0,(List.range k).map (refM false),[]⟩):=⟨_,rfl⟩
     have hSz:S.size=szM false k+10:=by rw [hS,bytes_size,hp2]
     have hV:objOK ⟨⟨#[120]⟩,4,0,0,(List.range k).map (refM false),[]⟩=true:=by rw [hp1];simp;omega
     rw [←hS] at hTV
     rw [hTV] at TX
     rw [hV] at VX
     clear hTV hV hS hp1 hp2
     have d1:decide ((szM false k:Int)+10≤20000)=true:=by rw [decide_eq_true_eq];omega
     have d2:((S.size:Int)==(szM false k:Int)+10)=true:=by rw [beq_iff_eq];omega
     clear hSz hB
     go_wp2_with fail
     refine (TX.out _ HS2.out).mono ?_
     rintro e w2 ⟨rfl,hb2⟩
     have HO3:=Lib.hid (row_later hb2 HO2.out)
     have HS3:=Lib.hid (HS2.out.later hb2)
     have BW1:=below_step (hbk.alloc hbs7 _) (Nat.le_refl _) hb2
     clear hb2
     clear o0 o1 o2 o3 o4 o5 oz
     obtain ⟨oz,o0,o1,o2,o3,o4,o5⟩:=rk6 HO3.out
     go_wp2_with fail
     refine (VX.out _ HS3.out).mono ?_
     rintro e w3 ⟨rfl,hb3⟩
     have BW2:=below_step BW1 (Nat.le_refl _) hb3
     clear BW1 hb3
     clear o0 o1 o2 o3 o4 o5 oz
     go_wp2
     go_ret
     exact ⟨rfl,BW2⟩
    ·have hTV:textV ⟨⟨#[120]⟩,4,0,0,(List.range k).map (refM false),[]⟩=.tuple #[.string ⟨#[]⟩,.int .i64 2]:=by
      unfold textV;rw [if_pos (by rw [hp1];simp;omega),if_pos (by omega)]
     have hV:objOK ⟨⟨#[120]⟩,4,0,0,(List.range k).map (refM false),[]⟩=true:=by rw [hp1];simp;omega
     rw [hTV] at TX
     rw [hV] at VX
     clear hTV hV hp1 hp2
     have d1:decide ((szM false k:Int)+10≤20000)=false:=by rw [decide_eq_false_iff_not];omega
     clear hB
     go_wp2_with fail
     refine (TX.out _ HS2.out).mono ?_
     rintro e w2 ⟨rfl,hb2⟩
     have HO3:=Lib.hid (row_later hb2 HO2.out)
     have HS3:=Lib.hid (HS2.out.later hb2)
     have BW1:=below_step (hbk.alloc hbs7 _) (Nat.le_refl _) hb2
     clear hb2
     clear o0 o1 o2 o3 o4 o5 oz
     obtain ⟨oz,o0,o1,o2,o3,o4,o5⟩:=rk6 HO3.out
     go_wp2_with fail
     refine (VX.out _ HS3.out).mono ?_
     rintro e w3 ⟨rfl,hb3⟩
     have BW2:=below_step BW1 (Nat.le_refl _) hb3
     clear BW1 hb3
     clear o0 o1 o2 o3 o4 o5 oz
     go_wp2
     go_ret
     exact ⟨rfl,BW2⟩
   ·have hV:objOK ⟨⟨#[120]⟩,4,0,0,(List.range k).map (refM false),[]⟩=false:=by rw [hp1];rw [decide_eq_false_iff_not];exact hA
    rw [textV_bad hV] at TX
    rw [hV] at VX
    clear hV hp1 hp2
    by_cases hC:1≤k
    ·have hD:2000<k:=by omega
     clear hA
     go_wp2_with fail
     refine (TX.out _ HS2.out).mono ?_
     rintro e w2 ⟨rfl,hb2⟩
     have HO3:=Lib.hid (row_later hb2 HO2.out)
     have HS3:=Lib.hid (HS2.out.later hb2)
     have BW1:=below_step (hbk.alloc hbs7 _) (Nat.le_refl _) hb2
     clear hb2
     clear o0 o1 o2 o3 o4 o5 oz
     obtain ⟨oz,o0,o1,o2,o3,o4,o5⟩:=rk6 HO3.out
     go_wp2_with fail
     refine (VX.out _ HS3.out).mono ?_
     rintro e w3 ⟨rfl,hb3⟩
     have BW2:=below_step BW1 (Nat.le_refl _) hb3
     clear BW1 hb3
     clear o0 o1 o2 o3 o4 o5 oz
     go_wp2
     go_ret
     exact ⟨rfl,BW2⟩
    ·have hD:k<1:=by omega
     clear hA hC
     go_wp2_with fail
     refine (TX.out _ HS2.out).mono ?_
     rintro e w2 ⟨rfl,hb2⟩
     have HO3:=Lib.hid (row_later hb2 HO2.out)
     have HS3:=Lib.hid (HS2.out.later hb2)
     have BW1:=below_step (hbk.alloc hbs7 _) (Nat.le_refl _) hb2
     clear hb2
     clear o0 o1 o2 o3 o4 o5 oz
     obtain ⟨oz,o0,o1,o2,o3,o4,o5⟩:=rk6 HO3.out
     go_wp2_with fail
     refine (VX.out _ HS3.out).mono ?_
     rintro e w3 ⟨rfl,hb3⟩
     have BW2:=below_step BW1 (Nat.le_refl _) hb3
     clear BW1 hb3
     clear o0 o1 o2 o3 o4 o5 oz
     go_wp2
     go_ret
     exact ⟨rfl,BW2⟩
set_option maxRecDepth 100000 in
set_option maxHeartbeats 4000000 in
theorem many_4true (raw kd:Nat) (hr:raw<65536) (hk:kd<256) (hq:kd % 4=2) (w:World) :
  Calls Tryd.prog 3 #[.int .u16 raw,.int .u8 kd,.bool true] w fun e w'=>e=.returned (.bool true)∧Below w.heap.size w w':=by
 have HD:=Lib.hid (fun W=>head_any W)
 have j0:IntKind.i64.wrap (raw:Int)=(raw:Int):=IntWalk.i64_in _ (by omega)
 have j1:IntKind.i64.wrap (kd:Int)=(kd:Int):=IntWalk.i64_in _ (by omega)
 obtain ⟨n,hn⟩:∃n,n=raw % 2011:=⟨_,rfl⟩
 have j2:(raw:Int).tmod 2011=(n:Int):=by rw [Int.tmod_eq_emod_of_nonneg (by omega)];omega
 have j3:(kd:Int).tmod 4=2:=by rw [Int.tmod_eq_emod_of_nonneg (by omega)];omega
 have hn1:n<2011:=by omega
 clear hn hk hq
 go_enter Tryd.func3,Tryd.ntmps3
 go_wp2_with fail
 refine (HD.out _).mono ?_
 rintro e w1 ⟨rfl,hb⟩
 have HO1:=Lib.hid (row_past (o':=.cells #[.string ⟨#[119,97,121]⟩,.string ⟨#[97,114,101,97]⟩,.string ⟨#[114,111,117,116,101]⟩,.string ⟨#[116,117,114,110]⟩] 9) (row_new w1 (.cells (obA ⟨#[120]⟩ 4 0 0 (.slice none 0 0) (.slice none 0 0)) 29)))
 have B2:Below w.heap.size w ((w1.alloc (.cells (obA ⟨#[120]⟩ 4 0 0 (.slice none 0 0) (.slice none 0 0)) 29)).alloc (.cells #[.string ⟨#[119,97,121]⟩,.string ⟨#[97,114,101,97]⟩,.string ⟨#[114,111,117,116,101]⟩,.string ⟨#[116,117,114,110]⟩] 9)):=(hb.alloc hb.size _).alloc (by have:=hb.size;simp;omega) _
 obtain ⟨i0,hi,hi0,hi1,hi2⟩:=info_parts infoStrL
 go_wp2
 go_loopw [10,11,12] (fun sz i s wr=>∃(k:Nat) (v:Value),k≤n∧i=.int .i64 k∧sz=.int .i64 ((szM true k:Int)+10)∧wr.heap[w1.heap.size]?=some (.cells (obA ⟨#[120]⟩ 4 0 0 v (.slice none 0 0)) 29 (0,0))∧wr.ownsRow w1.heap.size 9 1 v k (((List.range k).map (refM true)).map Value.string)∧Below w.heap.size w wr) (fun _ i _ _=>n - (intOf i).toNat)
 case atStart=>exact ⟨0,_,by omega,rfl,rfl,HO1.out,World.ownsRow_nil _ _ _ _,B2⟩
 case round =>
  obtain ⟨k,v,hk,rfl,rfl,hO,hrow,hbk⟩:=hrel
  clear HO1 B2
  have HO7:=Lib.hid hO
  have HRW:=Lib.hid hrow
  have hbs7:=hbk.size
  have hwb:=hb.size
  have hol:=lt_of_block hO
  clear hO hrow
  by_cases hlt:k<n
  ·have RD:=Lib.hid (fun W=>rdecimal_any k (by omega) W)
   have hS:=Lib.hid (refM_size (long:=true) (show k<2011 by omega))
   have hL:=dec_len (show k<2011 by omega)
   have hZ:=szM_le true k (by omega)
   obtain ⟨S,hSe⟩:∃z,z=bytesOf (decL k):=⟨_,rfl⟩
   rw [←hSe] at RD
   have HSE:=Lib.hid hSe
   have hS1:S.size≤4:=by rw [hSe,bytes_size];exact hL.1
   have HRE:=Lib.hid (show refM true k=(⟨#[114,95,50,51,52,53,54,55,56,57,48,49,50,51,52,53,54,55,56,57]⟩:ByteArray)++S by rw [refM,hSe];rfl)
   have HRS:=Lib.hid (show (refM true k).size=20+S.size by rw [HRE.out,ByteArray.size_append];rfl)
   clear hSe hL
   obtain ⟨oz,o0,o1,o2,o3,o4,o5⟩:=rk6 HO7.out
   go_wp2_with fail
   refine (RD.out _).mono ?_
   rintro e w2 ⟨rfl,hww⟩
   subst w2
   (go_wp2_with fail;refine (RD.out _).mono ?_;rintro e w2 ⟨rfl,hww⟩;subst w2)
   have HNE:=Lib.hid (show some w1.heap.size≠v.ownBlock from fun e=>by
    rcases HRW.out.2 with ⟨rfl,_⟩ | ⟨g,cap2,cur,rfl,_,hgb,_⟩
    ·simp [Value.ownBlock] at e
    ·obtain rfl:w1.heap.size=g:=by simpa [Value.ownBlock] using e
     rw [HO7.out] at hgb;injection hgb with hgb;injection hgb with _ hgb;exact absurd hgb (by decide))
   have HCN:=Lib.hid (cells_newL wr [Value.string ((⟨#[114,95,50,51,52,53,54,55,56,57,48,49,50,51,52,53,54,55,56,57]⟩:ByteArray)++S)] 9)
   have HO8:=Lib.hid (row_past (o':=.cells #[.string ((⟨#[114,95,50,51,52,53,54,55,56,57,48,49,50,51,52,53,54,55,56,57]⟩:ByteArray)++S)] 9) HO7.out)
   have hn1:¬w1.heap.size=wr.heap.size:=by omega
   go_wp2_with (at_builtin;refine wpList_append_own _ rfl _ _ 26 rfl w1.heap.size 9 i0 (.string ⟨#[]⟩) 1 16 Tryd.underlying26 hi hi0 hi1 hi2 rfl (by decide) _ _ _ rfl (HRW.out.alloc _) ⟨wr.heap.size,0,none⟩ 1 1 [.string ((⟨#[114,95,50,51,52,53,54,55,56,57,48,49,50,51,52,53,54,55,56,57]⟩:ByteArray)++S)] (by first | rfl | simp) (by first | rfl | simp) HCN.out (by intro u hu;rw [List.mem_singleton.1 hu];rfl) (by unfold maxLen;omega) (by omega) (by simp;omega) ?_;intro v' w5 hown5 hgr5 _;have HO5:=row_grownL (row:=v.ownBlock) hgr5 HO8.out HNE.out;have q4:=cell_of_row w5 _ 4 _ _ _ HO5;have qf:=frozen_of_row w5 _ 4 _ _ HO5;simp only [List.getElem?_toArray,List.getElem?_cons_zero,List.getElem?_cons_succ] at q4;obtain ⟨g',cap',rfl⟩:=ownsRow_succ hown5)
   all_goals
    have HO9:=Lib.hid HO5
    have B5:Below w.heap.size w w5:=(hbk.alloc hbs7 _).grown (row:=v.ownBlock) hgr5 (by simp;omega) (fun j ej=>by have:=(HRW.out.lt j ej).1;omega)
    have HOW5:=Lib.hid (show (w5.setCell ⟨w1.heap.size,4,none⟩ (.slice (some ⟨g',0,none⟩) (k+1) cap')).ownsRow w1.heap.size 9 1 (.slice (some ⟨g',0,none⟩) (k+1) cap') (k+1) (((List.range (k+1)).map (refM true)).map Value.string) by
     rw [range_snoc,HRE.out]
     refine own_set hown5 (fun e=>?_)
     rcases hown5.2 with ⟨h,_⟩ | ⟨g2,cap2,cur,h,_,hgb,_⟩
     ·cases h
     ·injection h with h _ _;injection h with h;injection h with h
      subst h
      have e2:w1.heap.size=g':=by simpa [Value.ownBlock] using e
      rw [←e2,HO5] at hgb;injection hgb with hgb;injection hgb with _ hgb;exact absurd hgb (by decide))
    clear hown5 hgr5 HO5
    go_roundw
    case rel=>exact ⟨k+1,_,by omega,by go_num,congrArg (Value.int .i64) (by rw [szM,HRS.out];split<;>omega),row_set (i:=4) HO9.out,HOW5.out,B5.setCell (by simp only;omega) _⟩
    case measure=>simp [intOf];omega
  ·obtain rfl:k=n:=by omega
   obtain ⟨av,cv,rfl,hcv⟩:∃a c,v=.slice a k c∧k≤c:=by
    rcases HRW.out.2 with ⟨rfl,h0⟩ | ⟨g,cap2,cur,rfl,_,_,h1,_⟩
    ·exact ⟨none,0,by rw [h0],by omega⟩
    ·exact ⟨_,_,rfl,h1⟩
   have HST:=Lib.hid (show StrRow wr (.slice av k cv) ((List.range k).map (refM true)) from strRow_own HRW.out (by simp) (by simp;omega) (fun s hs=>by
    obtain ⟨i,hi,rfl⟩:=List.mem_map.1 hs
    have:=(refM_size (long:=true) (show i<2011 by have:=List.mem_range.1 hi;omega)).1
    omega))
   have TX:=Lib.hid (fun W (h:StrRow W (.slice av k cv) ((List.range k).map (refM true)))=>text_any ⟨#[120]⟩ 4 0 0 (.slice av k cv) (.slice none 0 0) ((List.range k).map (refM true)) [] W (by decide) h (ObIn.nil W).tags (fun a n c h=>by injection h with _ h1 h2;omega) (by simp) (fun h=>absurd h (by decide)))
   have VX:=Lib.hid (fun W (h:StrRow W (.slice av k cv) ((List.range k).map (refM true)))=>validO_any ⟨#[120]⟩ 4 0 0 (.slice av k cv) (.slice none 0 0) ((List.range k).map (refM true)) [] W (by decide) h (ObIn.nil W).tags)
   obtain ⟨oz,o0,o1,o2,o3,o4,o5⟩:=rk6 HO7.out
   have bq:Below wr.heap.size wr (wr.alloc (.cells #[.int .i64 2,.int .i64 3,.int .i64 1,.int .i64 3] 3)):=(Below.refl _ _).alloc (Nat.le_refl _) _
   have HO2:=Lib.hid (row_later bq HO7.out)
   have HS2:=Lib.hid (HST.out.later bq)
   clear bq
   have hp1:=many_ok true k (by omega) 4 1 (by decide)
   have hp2:=many_len true k 4 10 (by decide)
   by_cases hA:1≤k∧k≤2000
   ·by_cases hB:szM true k+10≤20000
    ·have hTV:textV ⟨⟨#[120]⟩,4,0,0,(List.range k).map (refM true),[]⟩=.tuple #[.string (bytesOf (textL ⟨⟨#[120]⟩,4,0,0,(List.range k).map (refM true),[]⟩)),.int .i64 0]:=textV_ok (by rw [hp1];simp;omega) (by omega) rfl
     obtain ⟨S,hS⟩:∃z,z=bytesOf (textL ⟨⟨#[120]⟩,4,0,0,(List.range k).map (refM true),[]⟩):=⟨_,rfl⟩
     have hSz:S.size=szM true k+10:=by rw [hS,bytes_size,hp2]
     have hV:objOK ⟨⟨#[120]⟩,4,0,0,(List.range k).map (refM true),[]⟩=true:=by rw [hp1];simp;omega
     rw [←hS] at hTV
     rw [hTV] at TX
     rw [hV] at VX
     clear hTV hV hS hp1 hp2
     have d1:decide ((szM true k:Int)+10≤20000)=true:=by rw [decide_eq_true_eq];omega
     have d2:((S.size:Int)==(szM true k:Int)+10)=true:=by rw [beq_iff_eq];omega
     clear hSz hB
     go_wp2_with fail
     refine (TX.out _ HS2.out).mono ?_
     rintro e w2 ⟨rfl,hb2⟩
     have HO3:=Lib.hid (row_later hb2 HO2.out)
     have HS3:=Lib.hid (HS2.out.later hb2)
     have BW1:=below_step (hbk.alloc hbs7 _) (Nat.le_refl _) hb2
     clear hb2
     clear o0 o1 o2 o3 o4 o5 oz
     obtain ⟨oz,o0,o1,o2,o3,o4,o5⟩:=rk6 HO3.out
     go_wp2_with fail
     refine (VX.out _ HS3.out).mono ?_
     rintro e w3 ⟨rfl,hb3⟩
     have BW2:=below_step BW1 (Nat.le_refl _) hb3
     clear BW1 hb3
     clear o0 o1 o2 o3 o4 o5 oz
     go_wp2
     go_ret
     exact ⟨rfl,BW2⟩
    ·have hTV:textV ⟨⟨#[120]⟩,4,0,0,(List.range k).map (refM true),[]⟩=.tuple #[.string ⟨#[]⟩,.int .i64 2]:=by
      unfold textV;rw [if_pos (by rw [hp1];simp;omega),if_pos (by omega)]
     have hV:objOK ⟨⟨#[120]⟩,4,0,0,(List.range k).map (refM true),[]⟩=true:=by rw [hp1];simp;omega
     rw [hTV] at TX
     rw [hV] at VX
     clear hTV hV hp1 hp2
     have d1:decide ((szM true k:Int)+10≤20000)=false:=by rw [decide_eq_false_iff_not];omega
     clear hB
     go_wp2_with fail
     refine (TX.out _ HS2.out).mono ?_
     rintro e w2 ⟨rfl,hb2⟩
     have HO3:=Lib.hid (row_later hb2 HO2.out)
     have HS3:=Lib.hid (HS2.out.later hb2)
     have BW1:=below_step (hbk.alloc hbs7 _) (Nat.le_refl _) hb2
     clear hb2
     clear o0 o1 o2 o3 o4 o5 oz
     obtain ⟨oz,o0,o1,o2,o3,o4,o5⟩:=rk6 HO3.out
     go_wp2_with fail
     refine (VX.out _ HS3.out).mono ?_
     rintro e w3 ⟨rfl,hb3⟩
     have BW2:=below_step BW1 (Nat.le_refl _) hb3
     clear BW1 hb3
     clear o0 o1 o2 o3 o4 o5 oz
     go_wp2
     go_ret
     exact ⟨rfl,BW2⟩
   ·have hV:objOK ⟨⟨#[120]⟩,4,0,0,(List.range k).map (refM true),[]⟩=false:=by rw [hp1];rw [decide_eq_false_iff_not];exact hA
    rw [textV_bad hV] at TX
    rw [hV] at VX
    clear hV hp1 hp2
    by_cases hC:1≤k
    ·have hD:2000<k:=by omega
     clear hA
     go_wp2_with fail
     refine (TX.out _ HS2.out).mono ?_
     rintro e w2 ⟨rfl,hb2⟩
     have HO3:=Lib.hid (row_later hb2 HO2.out)
     have HS3:=Lib.hid (HS2.out.later hb2)
     have BW1:=below_step (hbk.alloc hbs7 _) (Nat.le_refl _) hb2
     clear hb2
     clear o0 o1 o2 o3 o4 o5 oz
     obtain ⟨oz,o0,o1,o2,o3,o4,o5⟩:=rk6 HO3.out
     go_wp2_with fail
     refine (VX.out _ HS3.out).mono ?_
     rintro e w3 ⟨rfl,hb3⟩
     have BW2:=below_step BW1 (Nat.le_refl _) hb3
     clear BW1 hb3
     clear o0 o1 o2 o3 o4 o5 oz
     go_wp2
     go_ret
     exact ⟨rfl,BW2⟩
    ·have hD:k<1:=by omega
     clear hA hC
     go_wp2_with fail
     refine (TX.out _ HS2.out).mono ?_
     rintro e w2 ⟨rfl,hb2⟩
     have HO3:=Lib.hid (row_later hb2 HO2.out)
     have HS3:=Lib.hid (HS2.out.later hb2)
     have BW1:=below_step (hbk.alloc hbs7 _) (Nat.le_refl _) hb2
     clear hb2
     clear o0 o1 o2 o3 o4 o5 oz
     obtain ⟨oz,o0,o1,o2,o3,o4,o5⟩:=rk6 HO3.out
     go_wp2_with fail
     refine (VX.out _ HS3.out).mono ?_
     rintro e w3 ⟨rfl,hb3⟩
     have BW2:=below_step BW1 (Nat.le_refl _) hb3
     clear BW1 hb3
     clear o0 o1 o2 o3 o4 o5 oz
     go_wp2
     go_ret
     exact ⟨rfl,BW2⟩
set_option maxRecDepth 100000 in
set_option maxHeartbeats 4000000 in
theorem many_5false (raw kd:Nat) (hr:raw<65536) (hk:kd<256) (hq:kd % 4=3) (w:World) :
  Calls Tryd.prog 3 #[.int .u16 raw,.int .u8 kd,.bool false] w fun e w'=>e=.returned (.bool true)∧Below w.heap.size w w':=by
 have HD:=Lib.hid (fun W=>head_any W)
 have j0:IntKind.i64.wrap (raw:Int)=(raw:Int):=IntWalk.i64_in _ (by omega)
 have j1:IntKind.i64.wrap (kd:Int)=(kd:Int):=IntWalk.i64_in _ (by omega)
 obtain ⟨n,hn⟩:∃n,n=raw % 2011:=⟨_,rfl⟩
 have j2:(raw:Int).tmod 2011=(n:Int):=by rw [Int.tmod_eq_emod_of_nonneg (by omega)];omega
 have j3:(kd:Int).tmod 4=3:=by rw [Int.tmod_eq_emod_of_nonneg (by omega)];omega
 have hn1:n<2011:=by omega
 clear hn hk hq
 go_enter Tryd.func3,Tryd.ntmps3
 go_wp2_with fail
 refine (HD.out _).mono ?_
 rintro e w1 ⟨rfl,hb⟩
 have HO1:=Lib.hid (row_past (o':=.cells #[.string ⟨#[119,97,121]⟩,.string ⟨#[97,114,101,97]⟩,.string ⟨#[114,111,117,116,101]⟩,.string ⟨#[116,117,114,110]⟩] 9) (row_new w1 (.cells (obA ⟨#[120]⟩ 5 0 0 (.slice none 0 0) (.slice none 0 0)) 29)))
 have B2:Below w.heap.size w ((w1.alloc (.cells (obA ⟨#[120]⟩ 5 0 0 (.slice none 0 0) (.slice none 0 0)) 29)).alloc (.cells #[.string ⟨#[119,97,121]⟩,.string ⟨#[97,114,101,97]⟩,.string ⟨#[114,111,117,116,101]⟩,.string ⟨#[116,117,114,110]⟩] 9)):=(hb.alloc hb.size _).alloc (by have:=hb.size;simp;omega) _
 obtain ⟨i0,hi,hi0,hi1,hi2⟩:=info_parts infoStrL
 go_wp2
 go_loopw [10,11,12] (fun sz i s wr=>∃(k:Nat) (v:Value),k≤n∧i=.int .i64 k∧sz=.int .i64 ((szM false k:Int)+9)∧wr.heap[w1.heap.size]?=some (.cells (obA ⟨#[120]⟩ 5 0 0 v (.slice none 0 0)) 29 (0,0))∧wr.ownsRow w1.heap.size 9 1 v k (((List.range k).map (refM false)).map Value.string)∧Below w.heap.size w wr) (fun _ i _ _=>n - (intOf i).toNat)
 case atStart=>exact ⟨0,_,by omega,rfl,rfl,HO1.out,World.ownsRow_nil _ _ _ _,B2⟩
 case round =>
  obtain ⟨k,v,hk,rfl,rfl,hO,hrow,hbk⟩:=hrel
  clear HO1 B2
  have HO7:=Lib.hid hO
  have HRW:=Lib.hid hrow
  have hbs7:=hbk.size
  have hwb:=hb.size
  have hol:=lt_of_block hO
  clear hO hrow
  by_cases hlt:k<n
  ·have RD:=Lib.hid (fun W=>rdecimal_any k (by omega) W)
   have hS:=Lib.hid (refM_size (long:=false) (show k<2011 by omega))
   have hL:=dec_len (show k<2011 by omega)
   have hZ:=szM_le false k (by omega)
   obtain ⟨S,hSe⟩:∃z,z=bytesOf (decL k):=⟨_,rfl⟩
   rw [←hSe] at RD
   have HSE:=Lib.hid hSe
   have hS1:S.size≤4:=by rw [hSe,bytes_size];exact hL.1
   have HRE:=Lib.hid (show refM false k=(⟨#[114]⟩:ByteArray)++S by rw [refM,hSe];rfl)
   have HRS:=Lib.hid (show (refM false k).size=1+S.size by rw [HRE.out,ByteArray.size_append];rfl)
   clear hSe hL
   obtain ⟨oz,o0,o1,o2,o3,o4,o5⟩:=rk6 HO7.out
   go_wp2_with fail
   refine (RD.out _).mono ?_
   rintro e w2 ⟨rfl,hww⟩
   subst w2
   skip
   have HNE:=Lib.hid (show some w1.heap.size≠v.ownBlock from fun e=>by
    rcases HRW.out.2 with ⟨rfl,_⟩ | ⟨g,cap2,cur,rfl,_,hgb,_⟩
    ·simp [Value.ownBlock] at e
    ·obtain rfl:w1.heap.size=g:=by simpa [Value.ownBlock] using e
     rw [HO7.out] at hgb;injection hgb with hgb;injection hgb with _ hgb;exact absurd hgb (by decide))
   have HCN:=Lib.hid (cells_newL wr [Value.string ((⟨#[114]⟩:ByteArray)++S)] 9)
   have HO8:=Lib.hid (row_past (o':=.cells #[.string ((⟨#[114]⟩:ByteArray)++S)] 9) HO7.out)
   have hn1:¬w1.heap.size=wr.heap.size:=by omega
   go_wp2_with (at_builtin;refine wpList_append_own _ rfl _ _ 26 rfl w1.heap.size 9 i0 (.string ⟨#[]⟩) 1 16 Tryd.underlying26 hi hi0 hi1 hi2 rfl (by decide) _ _ _ rfl (HRW.out.alloc _) ⟨wr.heap.size,0,none⟩ 1 1 [.string ((⟨#[114]⟩:ByteArray)++S)] (by first | rfl | simp) (by first | rfl | simp) HCN.out (by intro u hu;rw [List.mem_singleton.1 hu];rfl) (by unfold maxLen;omega) (by omega) (by simp;omega) ?_;intro v' w5 hown5 hgr5 _;have HO5:=row_grownL (row:=v.ownBlock) hgr5 HO8.out HNE.out;have q4:=cell_of_row w5 _ 4 _ _ _ HO5;have qf:=frozen_of_row w5 _ 4 _ _ HO5;simp only [List.getElem?_toArray,List.getElem?_cons_zero,List.getElem?_cons_succ] at q4;obtain ⟨g',cap',rfl⟩:=ownsRow_succ hown5)
   all_goals
    have HO9:=Lib.hid HO5
    have B5:Below w.heap.size w w5:=(hbk.alloc hbs7 _).grown (row:=v.ownBlock) hgr5 (by simp;omega) (fun j ej=>by have:=(HRW.out.lt j ej).1;omega)
    have HOW5:=Lib.hid (show (w5.setCell ⟨w1.heap.size,4,none⟩ (.slice (some ⟨g',0,none⟩) (k+1) cap')).ownsRow w1.heap.size 9 1 (.slice (some ⟨g',0,none⟩) (k+1) cap') (k+1) (((List.range (k+1)).map (refM false)).map Value.string) by
     rw [range_snoc,HRE.out]
     refine own_set hown5 (fun e=>?_)
     rcases hown5.2 with ⟨h,_⟩ | ⟨g2,cap2,cur,h,_,hgb,_⟩
     ·cases h
     ·injection h with h _ _;injection h with h;injection h with h
      subst h
      have e2:w1.heap.size=g':=by simpa [Value.ownBlock] using e
      rw [←e2,HO5] at hgb;injection hgb with hgb;injection hgb with _ hgb;exact absurd hgb (by decide))
    clear hown5 hgr5 HO5
    go_roundw
    case rel=>exact ⟨k+1,_,by omega,by go_num,congrArg (Value.int .i64) (by rw [szM,HRS.out];split<;>omega),row_set (i:=4) HO9.out,HOW5.out,B5.setCell (by simp only;omega) _⟩
    case measure=>simp [intOf];omega
  ·obtain rfl:k=n:=by omega
   obtain ⟨av,cv,rfl,hcv⟩:∃a c,v=.slice a k c∧k≤c:=by
    rcases HRW.out.2 with ⟨rfl,h0⟩ | ⟨g,cap2,cur,rfl,_,_,h1,_⟩
    ·exact ⟨none,0,by rw [h0],by omega⟩
    ·exact ⟨_,_,rfl,h1⟩
   have HST:=Lib.hid (show StrRow wr (.slice av k cv) ((List.range k).map (refM false)) from strRow_own HRW.out (by simp) (by simp;omega) (fun s hs=>by
    obtain ⟨i,hi,rfl⟩:=List.mem_map.1 hs
    have:=(refM_size (long:=false) (show i<2011 by have:=List.mem_range.1 hi;omega)).1
    omega))
   have TX:=Lib.hid (fun W (h:StrRow W (.slice av k cv) ((List.range k).map (refM false)))=>text_any ⟨#[120]⟩ 5 0 0 (.slice av k cv) (.slice none 0 0) ((List.range k).map (refM false)) [] W (by decide) h (ObIn.nil W).tags (fun a n c h=>by injection h with _ h1 h2;omega) (by simp) (fun h=>absurd h (by decide)))
   have VX:=Lib.hid (fun W (h:StrRow W (.slice av k cv) ((List.range k).map (refM false)))=>validO_any ⟨#[120]⟩ 5 0 0 (.slice av k cv) (.slice none 0 0) ((List.range k).map (refM false)) [] W (by decide) h (ObIn.nil W).tags)
   obtain ⟨oz,o0,o1,o2,o3,o4,o5⟩:=rk6 HO7.out
   have bq:Below wr.heap.size wr (wr.alloc (.cells #[.int .i64 2,.int .i64 3,.int .i64 1,.int .i64 3] 3)):=(Below.refl _ _).alloc (Nat.le_refl _) _
   have HO2:=Lib.hid (row_later bq HO7.out)
   have HS2:=Lib.hid (HST.out.later bq)
   clear bq
   have hp1:=many_turn false k (by omega)
   have hp2:=many_len false k 5 9 (by decide)
   by_cases hA:k=3
   ·have hle:=szM_le false k (by omega)
    have hTV:textV ⟨⟨#[120]⟩,5,0,0,(List.range k).map (refM false),[]⟩=.tuple #[.string (bytesOf (textL ⟨⟨#[120]⟩,5,0,0,(List.range k).map (refM false),[]⟩)),.int .i64 0]:=textV_ok (by rw [hp1];simp;omega) (by omega) rfl
    obtain ⟨S,hS⟩:∃z,z=bytesOf (textL ⟨⟨#[120]⟩,5,0,0,(List.range k).map (refM false),[]⟩):=⟨_,rfl⟩
    have hSz:S.size=szM false k+9:=by rw [hS,bytes_size,hp2]
    have hV:objOK ⟨⟨#[120]⟩,5,0,0,(List.range k).map (refM false),[]⟩=true:=by rw [hp1];simp;omega
    rw [←hS] at hTV
    rw [hTV] at TX
    rw [hV] at VX
    clear hTV hV hS hp1 hp2
    have d1:decide ((szM false k:Int)+9≤20000)=true:=by rw [decide_eq_true_eq];omega
    have d2:((S.size:Int)==(szM false k:Int)+9)=true:=by rw [beq_iff_eq];omega
    have d3:((k:Int)==3)=true:=by rw [beq_iff_eq];omega
    have d4:decide ((3:Int)≤(k:Int))=true:=by rw [decide_eq_true_eq];omega
    have d5:decide ((k:Int)≤2000)=true:=by rw [decide_eq_true_eq];omega
    clear hSz hle hA
    go_wp2_with fail
    refine (TX.out _ HS2.out).mono ?_
    rintro e w2 ⟨rfl,hb2⟩
    have HO3:=Lib.hid (row_later hb2 HO2.out)
    have HS3:=Lib.hid (HS2.out.later hb2)
    have BW1:=below_step (hbk.alloc hbs7 _) (Nat.le_refl _) hb2
    clear hb2
    clear o0 o1 o2 o3 o4 o5 oz
    obtain ⟨oz,o0,o1,o2,o3,o4,o5⟩:=rk6 HO3.out
    go_wp2_with fail
    refine (VX.out _ HS3.out).mono ?_
    rintro e w3 ⟨rfl,hb3⟩
    have BW2:=below_step BW1 (Nat.le_refl _) hb3
    clear BW1 hb3
    clear o0 o1 o2 o3 o4 o5 oz
    go_wp2
    go_ret
    exact ⟨rfl,BW2⟩
   ·have hV:objOK ⟨⟨#[120]⟩,5,0,0,(List.range k).map (refM false),[]⟩=false:=by rw [hp1];rw [decide_eq_false_iff_not];exact hA
    rw [textV_bad hV] at TX
    rw [hV] at VX
    clear hV hp1 hp2
    have d3:((k:Int)==3)=false:=by rw [beq_eq_false_iff_ne];omega
    by_cases hC:3≤k
    ·have d4:decide ((3:Int)≤(k:Int))=true:=by rw [decide_eq_true_eq];omega
     by_cases hD:2000<k
     ·have d5:decide ((k:Int)≤2000)=false:=by rw [decide_eq_false_iff_not];omega
      go_wp2_with fail
      refine (TX.out _ HS2.out).mono ?_
      rintro e w2 ⟨rfl,hb2⟩
      have HO3:=Lib.hid (row_later hb2 HO2.out)
      have HS3:=Lib.hid (HS2.out.later hb2)
      have BW1:=below_step (hbk.alloc hbs7 _) (Nat.le_refl _) hb2
      clear hb2
      clear o0 o1 o2 o3 o4 o5 oz
      obtain ⟨oz,o0,o1,o2,o3,o4,o5⟩:=rk6 HO3.out
      go_wp2_with fail
      refine (VX.out _ HS3.out).mono ?_
      rintro e w3 ⟨rfl,hb3⟩
      have BW2:=below_step BW1 (Nat.le_refl _) hb3
      clear BW1 hb3
      clear o0 o1 o2 o3 o4 o5 oz
      go_wp2
      go_ret
      exact ⟨rfl,BW2⟩
     ·have d5:decide ((k:Int)≤2000)=true:=by rw [decide_eq_true_eq];omega
      go_wp2_with fail
      refine (TX.out _ HS2.out).mono ?_
      rintro e w2 ⟨rfl,hb2⟩
      have HO3:=Lib.hid (row_later hb2 HO2.out)
      have HS3:=Lib.hid (HS2.out.later hb2)
      have BW1:=below_step (hbk.alloc hbs7 _) (Nat.le_refl _) hb2
      clear hb2
      clear o0 o1 o2 o3 o4 o5 oz
      obtain ⟨oz,o0,o1,o2,o3,o4,o5⟩:=rk6 HO3.out
      go_wp2_with fail
      refine (VX.out _ HS3.out).mono ?_
      rintro e w3 ⟨rfl,hb3⟩
      have BW2:=below_step BW1 (Nat.le_refl _) hb3
      clear BW1 hb3
      clear o0 o1 o2 o3 o4 o5 oz
      go_wp2
      go_ret
      exact ⟨rfl,BW2⟩
    ·have hD:k<3:=by omega
     clear hA
     go_wp2_with fail
     refine (TX.out _ HS2.out).mono ?_
     rintro e w2 ⟨rfl,hb2⟩
     have HO3:=Lib.hid (row_later hb2 HO2.out)
     have HS3:=Lib.hid (HS2.out.later hb2)
     have BW1:=below_step (hbk.alloc hbs7 _) (Nat.le_refl _) hb2
     clear hb2
     clear o0 o1 o2 o3 o4 o5 oz
     obtain ⟨oz,o0,o1,o2,o3,o4,o5⟩:=rk6 HO3.out
     go_wp2_with fail
     refine (VX.out _ HS3.out).mono ?_
     rintro e w3 ⟨rfl,hb3⟩
     have BW2:=below_step BW1 (Nat.le_refl _) hb3
     clear BW1 hb3
     clear o0 o1 o2 o3 o4 o5 oz
     go_wp2
     go_ret
     exact ⟨rfl,BW2⟩
set_option maxRecDepth 100000 in
set_option maxHeartbeats 4000000 in
theorem many_5true (raw kd:Nat) (hr:raw<65536) (hk:kd<256) (hq:kd % 4=3) (w:World) :
  Calls Tryd.prog 3 #[.int .u16 raw,.int .u8 kd,.bool true] w fun e w'=>e=.returned (.bool true)∧Below w.heap.size w w':=by
 have HD:=Lib.hid (fun W=>head_any W)
 have j0:IntKind.i64.wrap (raw:Int)=(raw:Int):=IntWalk.i64_in _ (by omega)
 have j1:IntKind.i64.wrap (kd:Int)=(kd:Int):=IntWalk.i64_in _ (by omega)
 obtain ⟨n,hn⟩:∃n,n=raw % 2011:=⟨_,rfl⟩
 have j2:(raw:Int).tmod 2011=(n:Int):=by rw [Int.tmod_eq_emod_of_nonneg (by omega)];omega
 have j3:(kd:Int).tmod 4=3:=by rw [Int.tmod_eq_emod_of_nonneg (by omega)];omega
 have hn1:n<2011:=by omega
 clear hn hk hq
 go_enter Tryd.func3,Tryd.ntmps3
 go_wp2_with fail
 refine (HD.out _).mono ?_
 rintro e w1 ⟨rfl,hb⟩
 have HO1:=Lib.hid (row_past (o':=.cells #[.string ⟨#[119,97,121]⟩,.string ⟨#[97,114,101,97]⟩,.string ⟨#[114,111,117,116,101]⟩,.string ⟨#[116,117,114,110]⟩] 9) (row_new w1 (.cells (obA ⟨#[120]⟩ 5 0 0 (.slice none 0 0) (.slice none 0 0)) 29)))
 have B2:Below w.heap.size w ((w1.alloc (.cells (obA ⟨#[120]⟩ 5 0 0 (.slice none 0 0) (.slice none 0 0)) 29)).alloc (.cells #[.string ⟨#[119,97,121]⟩,.string ⟨#[97,114,101,97]⟩,.string ⟨#[114,111,117,116,101]⟩,.string ⟨#[116,117,114,110]⟩] 9)):=(hb.alloc hb.size _).alloc (by have:=hb.size;simp;omega) _
 obtain ⟨i0,hi,hi0,hi1,hi2⟩:=info_parts infoStrL
 go_wp2
 go_loopw [10,11,12] (fun sz i s wr=>∃(k:Nat) (v:Value),k≤n∧i=.int .i64 k∧sz=.int .i64 ((szM true k:Int)+9)∧wr.heap[w1.heap.size]?=some (.cells (obA ⟨#[120]⟩ 5 0 0 v (.slice none 0 0)) 29 (0,0))∧wr.ownsRow w1.heap.size 9 1 v k (((List.range k).map (refM true)).map Value.string)∧Below w.heap.size w wr) (fun _ i _ _=>n - (intOf i).toNat)
 case atStart=>exact ⟨0,_,by omega,rfl,rfl,HO1.out,World.ownsRow_nil _ _ _ _,B2⟩
 case round =>
  obtain ⟨k,v,hk,rfl,rfl,hO,hrow,hbk⟩:=hrel
  clear HO1 B2
  have HO7:=Lib.hid hO
  have HRW:=Lib.hid hrow
  have hbs7:=hbk.size
  have hwb:=hb.size
  have hol:=lt_of_block hO
  clear hO hrow
  by_cases hlt:k<n
  ·have RD:=Lib.hid (fun W=>rdecimal_any k (by omega) W)
   have hS:=Lib.hid (refM_size (long:=true) (show k<2011 by omega))
   have hL:=dec_len (show k<2011 by omega)
   have hZ:=szM_le true k (by omega)
   obtain ⟨S,hSe⟩:∃z,z=bytesOf (decL k):=⟨_,rfl⟩
   rw [←hSe] at RD
   have HSE:=Lib.hid hSe
   have hS1:S.size≤4:=by rw [hSe,bytes_size];exact hL.1
   have HRE:=Lib.hid (show refM true k=(⟨#[114,95,50,51,52,53,54,55,56,57,48,49,50,51,52,53,54,55,56,57]⟩:ByteArray)++S by rw [refM,hSe];rfl)
   have HRS:=Lib.hid (show (refM true k).size=20+S.size by rw [HRE.out,ByteArray.size_append];rfl)
   clear hSe hL
   obtain ⟨oz,o0,o1,o2,o3,o4,o5⟩:=rk6 HO7.out
   go_wp2_with fail
   refine (RD.out _).mono ?_
   rintro e w2 ⟨rfl,hww⟩
   subst w2
   (go_wp2_with fail;refine (RD.out _).mono ?_;rintro e w2 ⟨rfl,hww⟩;subst w2)
   have HNE:=Lib.hid (show some w1.heap.size≠v.ownBlock from fun e=>by
    rcases HRW.out.2 with ⟨rfl,_⟩ | ⟨g,cap2,cur,rfl,_,hgb,_⟩
    ·simp [Value.ownBlock] at e
    ·obtain rfl:w1.heap.size=g:=by simpa [Value.ownBlock] using e
     rw [HO7.out] at hgb;injection hgb with hgb;injection hgb with _ hgb;exact absurd hgb (by decide))
   have HCN:=Lib.hid (cells_newL wr [Value.string ((⟨#[114,95,50,51,52,53,54,55,56,57,48,49,50,51,52,53,54,55,56,57]⟩:ByteArray)++S)] 9)
   have HO8:=Lib.hid (row_past (o':=.cells #[.string ((⟨#[114,95,50,51,52,53,54,55,56,57,48,49,50,51,52,53,54,55,56,57]⟩:ByteArray)++S)] 9) HO7.out)
   have hn1:¬w1.heap.size=wr.heap.size:=by omega
   go_wp2_with (at_builtin;refine wpList_append_own _ rfl _ _ 26 rfl w1.heap.size 9 i0 (.string ⟨#[]⟩) 1 16 Tryd.underlying26 hi hi0 hi1 hi2 rfl (by decide) _ _ _ rfl (HRW.out.alloc _) ⟨wr.heap.size,0,none⟩ 1 1 [.string ((⟨#[114,95,50,51,52,53,54,55,56,57,48,49,50,51,52,53,54,55,56,57]⟩:ByteArray)++S)] (by first | rfl | simp) (by first | rfl | simp) HCN.out (by intro u hu;rw [List.mem_singleton.1 hu];rfl) (by unfold maxLen;omega) (by omega) (by simp;omega) ?_;intro v' w5 hown5 hgr5 _;have HO5:=row_grownL (row:=v.ownBlock) hgr5 HO8.out HNE.out;have q4:=cell_of_row w5 _ 4 _ _ _ HO5;have qf:=frozen_of_row w5 _ 4 _ _ HO5;simp only [List.getElem?_toArray,List.getElem?_cons_zero,List.getElem?_cons_succ] at q4;obtain ⟨g',cap',rfl⟩:=ownsRow_succ hown5)
   all_goals
    have HO9:=Lib.hid HO5
    have B5:Below w.heap.size w w5:=(hbk.alloc hbs7 _).grown (row:=v.ownBlock) hgr5 (by simp;omega) (fun j ej=>by have:=(HRW.out.lt j ej).1;omega)
    have HOW5:=Lib.hid (show (w5.setCell ⟨w1.heap.size,4,none⟩ (.slice (some ⟨g',0,none⟩) (k+1) cap')).ownsRow w1.heap.size 9 1 (.slice (some ⟨g',0,none⟩) (k+1) cap') (k+1) (((List.range (k+1)).map (refM true)).map Value.string) by
     rw [range_snoc,HRE.out]
     refine own_set hown5 (fun e=>?_)
     rcases hown5.2 with ⟨h,_⟩ | ⟨g2,cap2,cur,h,_,hgb,_⟩
     ·cases h
     ·injection h with h _ _;injection h with h;injection h with h
      subst h
      have e2:w1.heap.size=g':=by simpa [Value.ownBlock] using e
      rw [←e2,HO5] at hgb;injection hgb with hgb;injection hgb with _ hgb;exact absurd hgb (by decide))
    clear hown5 hgr5 HO5
    go_roundw
    case rel=>exact ⟨k+1,_,by omega,by go_num,congrArg (Value.int .i64) (by rw [szM,HRS.out];split<;>omega),row_set (i:=4) HO9.out,HOW5.out,B5.setCell (by simp only;omega) _⟩
    case measure=>simp [intOf];omega
  ·obtain rfl:k=n:=by omega
   obtain ⟨av,cv,rfl,hcv⟩:∃a c,v=.slice a k c∧k≤c:=by
    rcases HRW.out.2 with ⟨rfl,h0⟩ | ⟨g,cap2,cur,rfl,_,_,h1,_⟩
    ·exact ⟨none,0,by rw [h0],by omega⟩
    ·exact ⟨_,_,rfl,h1⟩
   have HST:=Lib.hid (show StrRow wr (.slice av k cv) ((List.range k).map (refM true)) from strRow_own HRW.out (by simp) (by simp;omega) (fun s hs=>by
    obtain ⟨i,hi,rfl⟩:=List.mem_map.1 hs
    have:=(refM_size (long:=true) (show i<2011 by have:=List.mem_range.1 hi;omega)).1
    omega))
   have TX:=Lib.hid (fun W (h:StrRow W (.slice av k cv) ((List.range k).map (refM true)))=>text_any ⟨#[120]⟩ 5 0 0 (.slice av k cv) (.slice none 0 0) ((List.range k).map (refM true)) [] W (by decide) h (ObIn.nil W).tags (fun a n c h=>by injection h with _ h1 h2;omega) (by simp) (fun h=>absurd h (by decide)))
   have VX:=Lib.hid (fun W (h:StrRow W (.slice av k cv) ((List.range k).map (refM true)))=>validO_any ⟨#[120]⟩ 5 0 0 (.slice av k cv) (.slice none 0 0) ((List.range k).map (refM true)) [] W (by decide) h (ObIn.nil W).tags)
   obtain ⟨oz,o0,o1,o2,o3,o4,o5⟩:=rk6 HO7.out
   have bq:Below wr.heap.size wr (wr.alloc (.cells #[.int .i64 2,.int .i64 3,.int .i64 1,.int .i64 3] 3)):=(Below.refl _ _).alloc (Nat.le_refl _) _
   have HO2:=Lib.hid (row_later bq HO7.out)
   have HS2:=Lib.hid (HST.out.later bq)
   clear bq
   have hp1:=many_turn true k (by omega)
   have hp2:=many_len true k 5 9 (by decide)
   by_cases hA:k=3
   ·have hle:=szM_le true k (by omega)
    have hTV:textV ⟨⟨#[120]⟩,5,0,0,(List.range k).map (refM true),[]⟩=.tuple #[.string (bytesOf (textL ⟨⟨#[120]⟩,5,0,0,(List.range k).map (refM true),[]⟩)),.int .i64 0]:=textV_ok (by rw [hp1];simp;omega) (by omega) rfl
    obtain ⟨S,hS⟩:∃z,z=bytesOf (textL ⟨⟨#[120]⟩,5,0,0,(List.range k).map (refM true),[]⟩):=⟨_,rfl⟩
    have hSz:S.size=szM true k+9:=by rw [hS,bytes_size,hp2]
    have hV:objOK ⟨⟨#[120]⟩,5,0,0,(List.range k).map (refM true),[]⟩=true:=by rw [hp1];simp;omega
    rw [←hS] at hTV
    rw [hTV] at TX
    rw [hV] at VX
    clear hTV hV hS hp1 hp2
    have d1:decide ((szM true k:Int)+9≤20000)=true:=by rw [decide_eq_true_eq];omega
    have d2:((S.size:Int)==(szM true k:Int)+9)=true:=by rw [beq_iff_eq];omega
    have d3:((k:Int)==3)=true:=by rw [beq_iff_eq];omega
    have d4:decide ((3:Int)≤(k:Int))=true:=by rw [decide_eq_true_eq];omega
    have d5:decide ((k:Int)≤2000)=true:=by rw [decide_eq_true_eq];omega
    clear hSz hle hA
    go_wp2_with fail
    refine (TX.out _ HS2.out).mono ?_
    rintro e w2 ⟨rfl,hb2⟩
    have HO3:=Lib.hid (row_later hb2 HO2.out)
    have HS3:=Lib.hid (HS2.out.later hb2)
    have BW1:=below_step (hbk.alloc hbs7 _) (Nat.le_refl _) hb2
    clear hb2
    clear o0 o1 o2 o3 o4 o5 oz
    obtain ⟨oz,o0,o1,o2,o3,o4,o5⟩:=rk6 HO3.out
    go_wp2_with fail
    refine (VX.out _ HS3.out).mono ?_
    rintro e w3 ⟨rfl,hb3⟩
    have BW2:=below_step BW1 (Nat.le_refl _) hb3
    clear BW1 hb3
    clear o0 o1 o2 o3 o4 o5 oz
    go_wp2
    go_ret
    exact ⟨rfl,BW2⟩
   ·have hV:objOK ⟨⟨#[120]⟩,5,0,0,(List.range k).map (refM true),[]⟩=false:=by rw [hp1];rw [decide_eq_false_iff_not];exact hA
    rw [textV_bad hV] at TX
    rw [hV] at VX
    clear hV hp1 hp2
    have d3:((k:Int)==3)=false:=by rw [beq_eq_false_iff_ne];omega
    by_cases hC:3≤k
    ·have d4:decide ((3:Int)≤(k:Int))=true:=by rw [decide_eq_true_eq];omega
     by_cases hD:2000<k
     ·have d5:decide ((k:Int)≤2000)=false:=by rw [decide_eq_false_iff_not];omega
      go_wp2_with fail
      refine (TX.out _ HS2.out).mono ?_
      rintro e w2 ⟨rfl,hb2⟩
      have HO3:=Lib.hid (row_later hb2 HO2.out)
      have HS3:=Lib.hid (HS2.out.later hb2)
      have BW1:=below_step (hbk.alloc hbs7 _) (Nat.le_refl _) hb2
      clear hb2
      clear o0 o1 o2 o3 o4 o5 oz
      obtain ⟨oz,o0,o1,o2,o3,o4,o5⟩:=rk6 HO3.out
      go_wp2_with fail
      refine (VX.out _ HS3.out).mono ?_
      rintro e w3 ⟨rfl,hb3⟩
      have BW2:=below_step BW1 (Nat.le_refl _) hb3
      clear BW1 hb3
      clear o0 o1 o2 o3 o4 o5 oz
      go_wp2
      go_ret
      exact ⟨rfl,BW2⟩
     ·have d5:decide ((k:Int)≤2000)=true:=by rw [decide_eq_true_eq];omega
      go_wp2_with fail
      refine (TX.out _ HS2.out).mono ?_
      rintro e w2 ⟨rfl,hb2⟩
      have HO3:=Lib.hid (row_later hb2 HO2.out)
      have HS3:=Lib.hid (HS2.out.later hb2)
      have BW1:=below_step (hbk.alloc hbs7 _) (Nat.le_refl _) hb2
      clear hb2
      clear o0 o1 o2 o3 o4 o5 oz
      obtain ⟨oz,o0,o1,o2,o3,o4,o5⟩:=rk6 HO3.out
      go_wp2_with fail
      refine (VX.out _ HS3.out).mono ?_
      rintro e w3 ⟨rfl,hb3⟩
      have BW2:=below_step BW1 (Nat.le_refl _) hb3
      clear BW1 hb3
      clear o0 o1 o2 o3 o4 o5 oz
      go_wp2
      go_ret
      exact ⟨rfl,BW2⟩
    ·have hD:k<3:=by omega
     clear hA
     go_wp2_with fail
     refine (TX.out _ HS2.out).mono ?_
     rintro e w2 ⟨rfl,hb2⟩
     have HO3:=Lib.hid (row_later hb2 HO2.out)
     have HS3:=Lib.hid (HS2.out.later hb2)
     have BW1:=below_step (hbk.alloc hbs7 _) (Nat.le_refl _) hb2
     clear hb2
     clear o0 o1 o2 o3 o4 o5 oz
     obtain ⟨oz,o0,o1,o2,o3,o4,o5⟩:=rk6 HO3.out
     go_wp2_with fail
     refine (VX.out _ HS3.out).mono ?_
     rintro e w3 ⟨rfl,hb3⟩
     have BW2:=below_step BW1 (Nat.le_refl _) hb3
     clear BW1 hb3
     clear o0 o1 o2 o3 o4 o5 oz
     go_wp2
     go_ret
     exact ⟨rfl,BW2⟩
theorem many_any (raw kd:Nat) (hr:raw<65536) (hk:kd<256) (long:Bool) (w:World) :
  Calls Tryd.prog 3 #[.int .u16 raw,.int .u8 kd,.bool long] w fun e w'=>e=.returned (.bool true)∧Below w.heap.size w w':=by
 obtain h | h | h | h:kd % 4=0∨kd % 4=1∨kd % 4=2∨kd % 4=3:=by omega
 all_goals cases long
 ·exact many_2false raw kd hr hk h w
 ·exact many_2true raw kd hr hk h w
 ·exact many_3false raw kd hr hk h w
 ·exact many_3true raw kd hr hk h w
 ·exact many_4false raw kd hr hk h w
 ·exact many_4true raw kd hr hk h w
 ·exact many_5false raw kd hr hk h w
 ·exact many_5true raw kd hr hk h w
end Go.Proofs.YtdfenhjibnfdeaaDoor
