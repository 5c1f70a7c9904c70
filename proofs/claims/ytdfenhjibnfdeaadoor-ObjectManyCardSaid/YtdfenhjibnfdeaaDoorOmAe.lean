/-       -/
import Derived.Test.YtdfenhjibnfdeaaDoorOmAd
import Derived.Test.YtdfenhjibnfdeaaDoorOmAc
import Derived.Laws.EntriesVeiled
namespace Go.Proofs.YtdfenhjibnfdeaaDoor
open Go.RowKit
theorem clsF_cases (n:Nat) (h:n<256):(97≤n∧n≤122∨65≤n∧n≤90→clsF n=3)∧(48≤n∧n≤57→clsF n=4)∧(n=95→clsF n=5) ∧
  (¬(97≤n∧n≤122∨65≤n∧n≤90)→¬(48≤n∧n≤57)→n≠95→clsF n≠3∧clsF n≠4∧clsF n≠5):=by
 simp only [clsF,putF,cutF,if_pos h]
 refine ⟨fun h1=>?_,fun h1=>?_,fun h1=>?_,fun h1 h2 h3=>?_⟩
 ·rw [if_neg (by omega),if_neg (by omega),if_neg (by omega),cls0,if_pos h1]
 ·rw [if_neg (by omega),if_neg (by omega),if_neg (by omega),cls0,if_neg (by omega),if_pos h1]
 ·rw [if_neg (by omega),if_pos h1]
 ·rw [if_neg h3,cls0,if_neg h1,if_neg h2]
  split
  ·omega
  ·split
   ·omega
   ·split
    ·omega
    ·split<;>omega
theorem take_snoc (s:ByteArray) (k:Nat) (h:k<s.size):s.data.toList.take (k+1)=s.data.toList.take k++[s[k]]:=by
 rw [List.take_succ_eq_append_getElem (by simpa using h)];rfl
theorem str_nil {s:ByteArray} (h:s.size=0):s.toList=[]:=by
 rw [ByteArray.toList_eq]
 exact List.eq_nil_of_length_eq_zero (by rw [Array.length_toList];exact h)
theorem str_not_empty {s:ByteArray} (h:0<s.size):s.toList.isEmpty=false:=by
 rw [ByteArray.toList_eq,List.isEmpty_eq_false_iff]
 intro e
 have:=congrArg List.length e
 rw [Array.length_toList] at this
 have h2:s.data.size=s.size:=rfl
 simp only [List.length_nil] at this
 omega
theorem str_ne_nil {s:ByteArray} (h:0<s.size):(s.toList==[])=false:=by
 rw [beq_eq_false_iff_ne]
 intro e
 have:=str_not_empty h
 rw [e] at this
 simp at this
set_option maxRecDepth 100000 in
set_option maxHeartbeats 1000000 in
theorem name_any (s:ByteArray) (hs:s.size≤140737488355328) (w:World) :
  Calls Tryd.prog 20 #[.string s] w fun e w'=>e=.returned (.bool (nameB s))∧Below w.heap.size w w':=by
 go_enter Tryd.func20,Tryd.ntmps20
 go_wp2_with fail
 refine (classes_tab _).mono ?_;rintro e w1 ⟨rfl,hb1⟩
 have HS:=Lib.hid (show (Tryd.prog.info? 80).map (·.size)=some (tabU clsF).size by rw [tabU_size];kernel_rfl)
 have H2:=Lib.hid (show Tryd.zeroCells80.size=(tabU clsF).size by rw [←tabU_zero,tabU_size,tabU_size])
 go_wp2_with (refine wpList_store_row rfl 80 (.tmp 3) (.tmp 6) rfl w1.heap.size (tabU clsF) rfl rfl 80 Tryd.zeroCells80 (heap_alloc_new w1 _) HS.out H2.out (tabU_one _) ?_)
 have HB:=Lib.hid (setRow_heap _ w1.heap.size Tryd.zeroCells80 (tabU clsF) 80 (0,0) (heap_alloc_new w1 (.cells Tryd.zeroCells80 80)))
 have B2:Below w.heap.size w ((w1.alloc (.cells Tryd.zeroCells80 80)).setRow w1.heap.size (tabU clsF)):=below_setRow' (hb1.alloc hb1.size _) hb1.size _
 generalize hw2:(w1.alloc (.cells Tryd.zeroCells80 80)).setRow w1.heap.size (tabU clsF)=w2
 rw [hw2] at HB B2
 clear hw2 HS H2 hb1
 have bz:=lt_of_block HB.out
 go_loop [9] (fun i=>∃k:Nat,k≤s.size∧i=.int .i64 k∧preOK (s.data.toList.take k)=true) (fun i=>s.size - (intOf i).toNat)
 case atStart=>exact ⟨0,by omega,rfl,rfl⟩
 case round =>
  obtain ⟨k,hk,rfl,hpre⟩:=hrel
  have HP:=Lib.hid hpre
  clear hpre
  by_cases hlt:k<s.size
  ·have hu:=UInt8.toNat_lt s[k]
   have CL:=clsF_cases s[k].toNat hu
   have HT:=Lib.hid (take_snoc s k hlt)
   have HL:=Lib.hid (show (s.data.toList.take k).length=k by rw [List.length_take];simp;omega)
   have c0:w2.cell? ⟨w1.heap.size,s[k].toNat,none⟩=some (.int .u8 (clsF s[k].toNat)):=(cell_of_row w2 _ s[k].toNat _ _ _ HB.out).trans (tabU_get _ _ hu)
   have hts:=tabU_size clsF
   have HN:=Lib.hid (show preOK (s.data.toList.take (k+1))=if k=0 then letterC s[k] else wordC s[k] by rw [HT.out,preOK_snoc,HL.out,HP.out];simp)
   by_cases hl:97≤s[k].toNat∧s[k].toNat≤122∨65≤s[k].toNat∧s[k].toNat≤90
   ·rw [CL.1 hl] at c0
    have HG:=Lib.hid (show preOK (s.data.toList.take (k+1))=true by
     have h1:letterC s[k]=true:=by rw [letterC,decide_eq_true_eq];exact hl
     rw [HN.out,wordC,h1];simp)
    clear CL hl
    go_wp2
    go_round
    case rel=>exact ⟨k+1,by omega,by go_num,HG.out⟩
    case measure=>simp [intOf];omega
   have h1:letterC s[k]=false:=by rw [letterC,decide_eq_false_iff_not];exact hl
   by_cases h0:k=0
   ·have HF:=Lib.hid (show preOK (s.data.toList.take (k+1))=false by rw [HN.out,if_pos h0,h1])
    have h3:(clsF s[k].toNat != 3)=true:=by
     rw [bne_iff_ne]
     by_cases hd:48≤s[k].toNat∧s[k].toNat≤57
     ·rw [CL.2.1 hd];decide
     ·by_cases hu:s[k].toNat=95
      ·rw [CL.2.2.1 hu];decide
      ·exact (CL.2.2.2 hl hd hu).1
    have h3':¬clsF s[k].toNat=3:=by rw [bne_iff_ne] at h3;exact h3
    generalize clsF s[k].toNat=cv at *
    have k0:((k:Int)==0)=true:=by rw [beq_iff_eq];omega
    clear CL hl h1 h0
    have HB2:=Lib.hid (show nameB s=false by
     have h2:=preOK_app (s.data.toList.drop (k+1)) HF.out
     rw [List.take_append_drop] at h2
     rw [nameB,nameL,h2];simp)
    go_wp2
    go_ret
    exact ⟨ret_bool HB2.out.symm,B2⟩
   have k0:((k:Int)==0)=false:=by rw [beq_eq_false_iff_ne];omega
   by_cases hd:48≤s[k].toNat∧s[k].toNat≤57
   ·rw [CL.2.1 hd] at c0
    have HG:=Lib.hid (show preOK (s.data.toList.take (k+1))=true by
     have h2:digitC s[k]=true:=by rw [digitC,decide_eq_true_eq];exact hd
     rw [HN.out,if_neg h0,wordC,h2];simp)
    clear CL hl h1 h0 hd
    go_wp2
    go_round
    case rel=>exact ⟨k+1,by omega,by go_num,HG.out⟩
    case measure=>simp [intOf];omega
   by_cases hu5:s[k].toNat=95
   ·rw [CL.2.2.1 hu5] at c0
    have HG:=Lib.hid (show preOK (s.data.toList.take (k+1))=true by
     rw [HN.out,if_neg h0,wordC,hu5];simp)
    clear CL hl h1 h0 hd hu5
    go_wp2
    go_round
    case rel=>exact ⟨k+1,by omega,by go_num,HG.out⟩
    case measure=>simp [intOf];omega
   have HF:=Lib.hid (show preOK (s.data.toList.take (k+1))=false by
    have h2:digitC s[k]=false:=by rw [digitC,decide_eq_false_iff_not];exact hd
    rw [HN.out,if_neg h0,wordC,h1,h2];simp [hu5])
   obtain ⟨n3,n4,n5⟩:=CL.2.2.2 hl hd hu5
   have h3:(clsF s[k].toNat != 3)=true:=by rw [bne_iff_ne];exact n3
   have h4:(clsF s[k].toNat != 4)=true:=by rw [bne_iff_ne];exact n4
   have h5:(clsF s[k].toNat != 5)=true:=by rw [bne_iff_ne];exact n5
   generalize clsF s[k].toNat=cv at *
   clear CL hl h1 h0 hd hu5
   have HB2:=Lib.hid (show nameB s=false by
    have h2:=preOK_app (s.data.toList.drop (k+1)) HF.out
    rw [List.take_append_drop] at h2
    rw [nameB,nameL,h2];simp)
   go_wp2
   go_ret
   exact ⟨ret_bool HB2.out.symm,B2⟩
  ·obtain rfl:k=s.size:=by omega
   have hall:s.data.toList.take s.size=s.data.toList:=List.take_of_length_le (by simp)
   have HE:=Lib.hid (show nameB s=(decide (0<s.size) && decide (s.size≤24)) by
    have h:=HP.out
    rw [hall] at h
    rw [nameB,nameL,h];simp)
   clear hall
   by_cases z:0<s.size
   ·have e0:(s.toList==[])=false:=str_ne_nil z
    have e1:s.toList.isEmpty=false:=str_not_empty z
    by_cases z2:s.size≤24
    ·go_wp2
     go_ret
     exact ⟨ret_bool (by rw [HE.out];simp [z];omega),B2⟩
    ·go_wp2
     go_ret
     exact ⟨ret_bool (by rw [HE.out];simp [z];omega),B2⟩
   ·have e0:s.toList=[]:=str_nil (by omega)
    have e1:s.toList.isEmpty=true:=by rw [e0];rfl
    go_wp2
    go_ret
    exact ⟨ret_bool (by rw [HE.out];simp [z]),B2⟩
end Go.Proofs.YtdfenhjibnfdeaaDoor

namespace Go.Proofs.YtdfenhjibnfdeaaDoor
open Go.RowKit Go.Shelf
theorem bldW:BldT 51:=⟨by kernel_rfl,by decide⟩
theorem cells_str (l:List UInt8) (s:ByteArray):Lib.byteCells l++Lib.strCells s=Lib.byteCells (l++lstB s):=by simp [Lib.byteCells,Lib.strCells,lstB]
theorem cells_byte (l:List UInt8) (c:UInt8):Lib.byteCells l++[.int .u8 c.toNat]=Lib.byteCells (l++[c]):=by simp [Lib.byteCells]
def putL (l:List UInt8) (s:ByteArray):List UInt8:=(if l.length=0 then l else l++[32])++lstB s
theorem lstB_len (s:ByteArray):(lstB s).length=s.size:=by rw [lstB,Array.length_toList];rfl
set_option maxHeartbeats 1000000 in
theorem put_any (B b:Nat) (l:List UInt8) (s:ByteArray) (w:World) (h:BldF 51 B b (Lib.byteCells l) w) (hl:l.length≤1000000000) (hs:s.size≤1000000000) (hBw:B≤w.heap.size) :
  Calls Tryd.prog 13 #[.pointer (some ⟨b,0,none⟩),.string s] w fun e w'=>e=.returned (.tuple #[])∧BldU 51 B b (Lib.byteCells (putL l s)) w'∧Below B w w'∧Lib.OthersKept 5 (some b) w w':=by
 have LN:=Lib.hid (blen_any B b _ w h)
 rw [Lib.byteCells_length] at LN
 by_cases h0:l.length=0
 ·have ST:=Lib.hid (bstr_any bldW B b _ s w h (by rw [Lib.byteCells_length];omega) hBw)
  have HE:=Lib.hid (show putL l s=l++lstB s by rw [putL,if_pos h0])
  have D:=(show decide ((0:Int)<(l.length:Int))=false by rw [decide_eq_false_iff_not];omega)
  have D2:=(show decide (0<l.length)=false by rw [decide_eq_false_iff_not];omega)
  go_enter Tryd.func13,Tryd.ntmps13
  go_wp2_with (go_at_call 18;refine LN.out.mono ?_;rintro e w1 ⟨rfl,rfl⟩)
  go_wp2_with fail
  refine ST.out.mono ?_
  rintro e w2 ⟨rfl,h2,hb2,hk2⟩
  rw [cells_str,←HE.out] at h2
  go_wp2
  go_end0
  exact ⟨rfl,h2,hb2,hk2⟩
 ·have SP:=Lib.hid (bbyte_any bldW B b _ 32 w h (by rw [Lib.byteCells_length];omega) hBw)
  have HE:=Lib.hid (show putL l s=(l++[32])++lstB s by rw [putL,if_neg h0])
  have D:=(show decide ((0:Int)<(l.length:Int))=true by rw [decide_eq_true_eq];omega)
  have D2:=(show decide (0<l.length)=true by rw [decide_eq_true_eq];omega)
  go_enter Tryd.func13,Tryd.ntmps13
  go_wp2_with (go_at_call 18;refine LN.out.mono ?_;rintro e w1 ⟨rfl,rfl⟩)
  go_wp2_with fail
  refine SP.out.mono ?_
  rintro e w1 ⟨rfl,h1,hb1,hk1⟩
  have h1':BldU 51 B b (Lib.byteCells (l++[32])) w1:=by rw [←cells_byte];exact h1
  have ST:=Lib.hid (bstr_any bldW B b _ s w1 (.inr h1') (by rw [Lib.byteCells_length];simp;omega) (Nat.le_trans hBw hb1.size))
  clear h1 h1'
  go_wp2_with fail
  refine ST.out.mono ?_
  rintro e w2 ⟨rfl,h2,hb2,hk2⟩
  rw [cells_str,←HE.out] at h2
  go_wp2
  go_end0
  exact ⟨rfl,h2,hb1.trans hb2,hk1.trans hk2⟩
def quoteB (s:ByteArray):ByteArray:=bytesOf (quoteL (lstB s))
theorem quote_take (s:ByteArray) (k:Nat) (h:k<s.size):(34 :: ((lstB s).take (k+1)).flatMap escC:List UInt8)=(34 :: ((lstB s).take k).flatMap escC)++escC s[k]:=by
 show (34 :: (s.data.toList.take (k+1)).flatMap escC:List UInt8)=_
 rw [take_snoc s k h,List.flatMap_append];simp [lstB]
theorem esc_len (c:UInt8):(escC c).length≤2:=by unfold escC;split<;>(try split)<;>simp
theorem esc_flat (l:List UInt8):(l.flatMap escC).length≤2 * l.length:=by
 induction l with
 |nil=>simp
 |cons a r ih=>have:=esc_len a;simp only [List.flatMap_cons,List.length_append,List.length_cons];omega
set_option maxRecDepth 100000 in
set_option maxHeartbeats 4000000 in
theorem quote_any (s:ByteArray) (hs:s.size≤1000000) (w:World) :
  Calls Tryd.prog 36 #[.string s] w fun e w'=>e=.returned (.string (quoteB s))∧Below w.heap.size w w':=by
 have hb0:Below w.heap.size w (w.alloc (.cells #[.pointer none,.slice none 0 0] 49)):=(Below.refl _ w).alloc (Nat.le_refl _) _
 have h0:BldF 49 w.heap.size w.heap.size (Lib.byteCells []) (w.alloc (.cells #[.pointer none,.slice none 0 0] 49)) :=
  .inl ⟨Nat.le_refl _,_,row_new w _,World.ownsRowF_of (World.ownsRow_nil _ _ _ _),by simp [Value.ownBlock]⟩
 have C0:=Lib.hid (bbyte_any bldB w.heap.size w.heap.size _ 34 _ h0 (by simp [Lib.byteCells]) hb0.size)
 clear h0
 go_enter Tryd.func36,Tryd.ntmps36
 go_wp2_with fail
 refine C0.out.mono ?_
 rintro e w1 ⟨rfl,h1,hb1,-⟩
 have h1':BldU 49 w.heap.size w.heap.size (Lib.byteCells (34 :: ((lstB s).take 0).flatMap escC)) w1:=h1
 have B1:=hb0.trans hb1
 clear h1 hb1 hb0 C0
 go_wp2
 go_loopw [9] (fun i wr=>∃k:Nat,k≤s.size∧i=.int .i64 k∧BldU 49 w.heap.size w.heap.size (Lib.byteCells (34 :: ((lstB s).take k).flatMap escC)) wr∧Below w.heap.size w wr) (fun i _=>s.size - (intOf i).toNat)
 case atStart=>exact ⟨0,by omega,rfl,h1',B1⟩
 case round =>
  clear h1' B1
  obtain ⟨k,hk,rfl,hW,hbr⟩:=hrel
  have hsz:=hbr.size
  have hlen:(34 :: ((lstB s).take k).flatMap escC:List UInt8).length≤3000000:=by
   have h1:=esc_flat ((lstB s).take k)
   have h2:((lstB s).take k).length≤s.size:=by rw [List.length_take,lstB_len];omega
   simp only [List.length_cons];omega
  by_cases hlt:k<s.size
  ·have HQ:=Lib.hid (quote_take s k hlt)
   have hu:=UInt8.toNat_lt s[k]
   by_cases e1:s[k].toNat=10
   ·have C1:=Lib.hid (bstr_any bldB _ _ _ (⟨#[92,110]⟩:ByteArray) wr (.inr hW) (by rw [Lib.byteCells_length];have:(⟨#[92,110]⟩:ByteArray).size=2:=rfl;omega) hsz)
    rw [cells_str] at C1
    have HC:=Lib.hid (show lstB (⟨#[92,110]⟩:ByteArray)=escC s[k] by rw [escC,if_pos e1];rfl)
    rw [HC.out] at C1
    clear hW
    go_wp2_with (go_at_call 30;refine C1.out.mono ?_;rintro e w2 ⟨rfl,h2,hb2,-⟩)
    go_wp2
    go_roundw
    case rel=>exact ⟨k+1,by omega,by go_num,by rw [HQ.out];exact h2,hbr.trans hb2⟩
    case measure=>simp [intOf];omega
   by_cases e2:s[k].toNat=34∨s[k].toNat=92
   ·have HC:=Lib.hid (show escC s[k]=[92]++[s[k]] by rw [escC,if_neg e1,if_pos e2];rfl)
    have C1:=Lib.hid (bbyte_any bldB _ _ _ 92 wr (.inr hW) (by rw [Lib.byteCells_length];omega) hsz)
    have C2:∀w2,BldU 49 w.heap.size w.heap.size (Lib.byteCells ((34 :: ((lstB s).take k).flatMap escC)++[92])) w2→w.heap.size≤w2.heap.size→Calls Tryd.prog 32 #[.pointer (some ⟨w.heap.size,0,none⟩),.int .u8 s[k].toNat] w2 fun e w'=>e=.returned .nilIface∧BldU 49 w.heap.size w.heap.size (Lib.byteCells (((34 :: ((lstB s).take k).flatMap escC)++[92])++[s[k]])) w'∧Below w.heap.size w2 w':=fun w2 h hz =>
     (bbyte_any bldB _ _ _ s[k].toNat w2 (.inr h) (by rw [Lib.byteCells_length];simp only [List.length_append,List.length_cons,List.length_nil] at *;omega) hz).mono fun e w' h=>⟨h.1,by have:=h.2.1;rw [cells_byte] at this;exact this,h.2.2.1⟩
    have HC2:=Lib.hid (show (34 :: ((lstB s).take k).flatMap escC)++escC s[k]=((34 :: ((lstB s).take k).flatMap escC)++[92])++[s[k]] by rw [HC.out,List.append_assoc])
    generalize 34 :: ((lstB s).take k).flatMap escC=X at *
    have HH:=Lib.hid hW
    clear hW
    rcases e2 with e2 | e2
    all_goals
     rw [e2] at C2
     have C2:=Lib.hid C2
     go_wp2_with fail
     refine C1.out.mono ?_
     rintro e w2 ⟨rfl,h2,hb2,-⟩
     have h2':BldU 49 w.heap.size w.heap.size (Lib.byteCells (X++[92])) w2:=by rw [←cells_byte];exact h2
     have C3:=Lib.hid (C2.out w2 h2' (Nat.le_trans hsz hb2.size))
     clear h2 h2'
     go_wp2_with fail
     refine C3.out.mono ?_
     rintro e w3 ⟨rfl,h3,hb3⟩
     go_wp2
     go_roundw
     case rel=>exact ⟨k+1,by omega,by go_num,by rw [HQ.out];exact (by rw [HC2.out];exact h3),(hbr.trans hb2).trans hb3⟩
     case measure=>simp [intOf];omega
   have HC:=Lib.hid (show escC s[k]=[s[k]] by rw [escC,if_neg e1,if_neg e2])
   have C1:=Lib.hid (bbyte_any bldB _ _ _ s[k].toNat wr (.inr hW) (by rw [Lib.byteCells_length];omega) hsz)
   rw [cells_byte] at C1
   have e3:¬s[k].toNat=34:=fun h=>e2 (.inl h)
   have e4:¬s[k].toNat=92:=fun h=>e2 (.inr h)
   clear hW e2
   go_wp2_with (go_at_call 32;refine C1.out.mono ?_;rintro e w2 ⟨rfl,h2,hb2,-⟩)
   go_wp2
   go_roundw
   case rel=>exact ⟨k+1,by omega,by go_num,by rw [HQ.out];exact (by rw [HC.out];exact h2),hbr.trans hb2⟩
   case measure=>simp [intOf];omega
  ·obtain rfl:k=s.size:=by omega
   have HA:=Lib.hid (show quoteL (lstB s)=(34 :: ((lstB s).take s.size).flatMap escC)++[34] by
    rw [List.take_of_length_le (by rw [lstB_len];exact Nat.le_refl _)];rfl)
   have C1:=Lib.hid (bbyte_any bldB _ _ _ 34 wr (.inr hW) (by rw [Lib.byteCells_length];omega) hsz)
   clear hW
   go_wp2_with fail
   refine C1.out.mono ?_
   rintro e w2 ⟨rfl,h2,hb2,-⟩
   have h2':BldU 49 w.heap.size w.heap.size (Lib.byteCells ((34 :: ((lstB s).take s.size).flatMap escC)++[34])) w2:=by rw [←cells_byte];exact h2
   rw [←HA.out] at h2'
   have C2:=Lib.hid (bstring_any _ _ _ w2 (.inr h2') (by unfold quoteL;simp))
   clear h2 h2'
   go_wp2_with fail
   refine C2.out.mono ?_
   rintro e w3 ⟨rfl,hb3,-⟩
   go_wp2
   go_ret
   exact ⟨rfl,(hbr.trans hb2).trans hb3⟩
end Go.Proofs.YtdfenhjibnfdeaaDoor

namespace Go.Proofs.YtdfenhjibnfdeaaDoor
open Go.RowKit
def StrRow (w:World) (v:Value) (l:List ByteArray):Prop :=
 ∃(a:Option Addr) (cap:Nat),v=.slice a l.length cap∧l.length≤140737488355328∧(∀s∈l,s.size≤140737488355328) ∧
  (0<l.length→∃b off,a=some ⟨b,off,none⟩∧∀(i:Nat) (s:ByteArray),l[i]?=some s→w.cell? ⟨b,off+i,none⟩=some (.string s))
theorem StrRow.later {w w':World} {v:Value} {l:List ByteArray} (h:StrRow w v l) (hb:Below w.heap.size w w'):StrRow w' v l:=by
 obtain ⟨a,cap,h1,h2,h3,h4⟩:=h
 refine ⟨a,cap,h1,h2,h3,fun h0=>?_⟩
 obtain ⟨b,off,e,hc⟩:=h4 h0
 exact ⟨b,off,e,fun i s hi=>cell_later hb (hc i s hi)⟩
def TagRow (w:World) (v:Value) (l:List TagD):Prop :=
 ∃(a:Option Addr) (cap:Nat),v=.slice a l.length cap∧l.length≤140737488355328∧(∀t∈l,t.key.size≤140737488355328∧t.val.size≤140737488355328) ∧
  (0<l.length→∃b off,a=some ⟨b,off,none⟩∧∀(i:Nat) (t:TagD),l[i]?=some t→w.cell? ⟨b,off+i * 2,none⟩=some (.string t.key)∧w.cell? ⟨b,off+i * 2+1,none⟩=some (.string t.val))
theorem TagRow.later {w w':World} {v:Value} {l:List TagD} (h:TagRow w v l) (hb:Below w.heap.size w w'):TagRow w' v l:=by
 obtain ⟨a,cap,h1,h2,h3,h4⟩:=h
 refine ⟨a,cap,h1,h2,h3,fun h0=>?_⟩
 obtain ⟨b,off,e,hc⟩:=h4 h0
 exact ⟨b,off,e,fun i s hi=>⟨cell_later hb (hc i s hi).1,cell_later hb (hc i s hi).2⟩⟩
theorem lt_of_cell {w:World} {b o:Nat} {v:Value} (h:w.cell? ⟨b,o,none⟩=some v):b<w.heap.size:=by
 rcases Nat.lt_or_ge b w.heap.size with h' | h'
 ·exact h'
 ·simp [World.cell?,Array.getElem?_eq_none h'] at h
theorem tagsFrom_drop (ls:ByteArray) (l:List TagD) (k:Nat) (t:TagD) (ht:l[k]?=some t):tagsFrom ls (l.drop k)=(nameB t.key && ltB ls t.key && decide (0<t.val.size∧t.val.size≤200) && tagsFrom t.key (l.drop (k+1))):=by
 obtain ⟨hk,rfl⟩:=List.getElem?_eq_some_iff.1 ht
 rw [List.drop_eq_getElem_cons hk];rfl
set_option maxRecDepth 100000 in
set_option maxHeartbeats 1000000 in
theorem tags_any (v:Value) (l:List TagD) (w:World) (h:TagRow w v l) :
  Calls Tryd.prog 21 #[v] w fun e w'=>e=.returned (.bool (tagsOK l))∧Below w.heap.size w w':=by
 obtain ⟨a,cap,rfl,hn,hsz,hc⟩:=h
 generalize hN:l.length=N at *
 have HN:=Lib.hid hN
 have HZ:=Lib.hid hsz
 have HC:=Lib.hid hc
 clear hN hsz hc
 go_enter Tryd.func21,Tryd.ntmps21
 go_wp2
 go_loopw [3,8] (fun s i wr=>∃(k:Nat) (ls:ByteArray),k≤N∧i=.int .i64 k∧s=.string ls∧tagsFrom ⟨#[]⟩ l=tagsFrom ls (l.drop k)∧Below w.heap.size w wr) (fun _ i _=>N - (intOf i).toNat)
 case atStart=>exact ⟨0,⟨#[]⟩,by omega,rfl,rfl,rfl,Below.refl _ _⟩
 case round =>
  obtain ⟨k,ls,hk,rfl,rfl,hT,hbr⟩:=hrel
  have HT:=Lib.hid hT
  clear hT
  by_cases hlt:k<N
  ·obtain ⟨t,ht⟩:∃t,l[k]?=some t:=⟨l[k]'(by rw [HN.out];exact hlt),List.getElem?_eq_getElem _⟩
   obtain ⟨b,off,ha,hcell⟩:=HC.out (by omega)
   subst ha
   have hz:=HZ.out t (List.mem_of_getElem? ht)
   obtain ⟨z1,z2⟩:=hz
   have c0:=cell_later hbr (hcell k t ht).1
   have c1:=cell_later hbr (hcell k t ht).2
   have bz:=lt_of_cell c0
   have HD:=Lib.hid (tagsFrom_drop ls l k t ht)
   clear hcell ht
   go_wp2_with fail
   refine (name_any t.key z1 _).mono ?_;rintro e w2 ⟨rfl,hb2⟩
   have B2:=below_step (hbr.alloc hbr.size (.cells #[.string t.key,.string t.val] 38)) (Nat.le_refl _) hb2
   have HB:=row_later hb2 (row_new wr (.cells #[.string t.key,.string t.val] 38))
   clear c0 c1
   obtain ⟨cz,c0,c1⟩:=rk2 HB
   have HB':=Lib.hid HB
   clear HB
   clear hb2 HB'
   cases hnm:nameB t.key
   case false =>
    have HR:=Lib.hid (show tagsFrom ⟨#[]⟩ l=false by rw [HT.out,HD.out,hnm];rfl)
    clear hnm
    go_wp2
    go_ret
    exact ⟨ret_bool (by rw [tagsOK,HR.out];simp),B2⟩
   have LQ:=leqB t.key ls
   cases hlt2:ltB ls t.key
   case false =>
    have HR:=Lib.hid (show tagsFrom ⟨#[]⟩ l=false by rw [HT.out,HD.out,hlt2];simp)
    rw [hlt2] at LQ
    clear hnm hlt2
    go_wp2
    go_ret
    exact ⟨ret_bool (by rw [tagsOK,HR.out];simp),B2⟩
   rw [hlt2] at LQ
   by_cases v0:0<t.val.size
   case neg =>
    have e0:t.val.toList=[]:=str_nil (by omega)
    have e1:t.val.toList.isEmpty=true:=by rw [e0];rfl
    have HR:=Lib.hid (show tagsFrom ⟨#[]⟩ l=false by rw [HT.out,HD.out];simp [v0])
    clear hnm hlt2 e0
    go_wp2
    go_ret
    exact ⟨ret_bool (by rw [tagsOK,HR.out];simp),B2⟩
   have e1:t.val.toList.isEmpty=false:=str_not_empty v0
   have e0:¬t.val.toList=[]:=by
    intro e;rw [e] at e1;simp at e1
   by_cases v1:t.val.size≤200
   case neg =>
    have HR:=Lib.hid (show tagsFrom ⟨#[]⟩ l=false by rw [HT.out,HD.out];simp [v1])
    clear hnm hlt2
    go_wp2
    go_ret
    exact ⟨ret_bool (by rw [tagsOK,HR.out];simp),B2⟩
   have HG:=Lib.hid (show tagsFrom ⟨#[]⟩ l=tagsFrom t.key (l.drop (k+1)) by rw [HT.out,HD.out,hnm,hlt2];simp [v0,v1])
   clear hnm hlt2
   go_wp2
   go_roundw
   case rel=>exact ⟨k+1,t.key,by omega,by go_num,rfl,HG.out,B2⟩
   case measure=>simp [intOf];omega
  ·obtain rfl:k=N:=by omega
   have HE:=Lib.hid (show tagsOK l=decide (k≤60) by
    rw [tagsOK,HT.out,HN.out,List.drop_of_length_le (by rw [HN.out];exact Nat.le_refl _)]
    simp [tagsFrom])
   by_cases h6:k≤60
   ·go_wp2
    go_ret
    exact ⟨ret_bool (by rw [HE.out];simp;omega),hbr⟩
   ·go_wp2
    go_ret
    exact ⟨ret_bool (by rw [HE.out];simp;omega),hbr⟩
end Go.Proofs.YtdfenhjibnfdeaaDoor

namespace Go.Proofs.YtdfenhjibnfdeaaDoor
open Go.RowKit
def clsQ (n:Nat):Int :=
 if n=32∨n=9∨n=10 then 1 else if n=35 then 2 else if 97≤n∧n≤122∨65≤n∧n≤90 then 3 else if 48≤n∧n≤57 then 4 else if n=95 then 5
 else if ([59,44,46,58,40,41,123,125,91,93,61,60,62,47,45]:List Nat).contains n then 6 else if n=34 then 7 else 0
theorem cls_all:((List.range 256).all fun n=>decide (clsF n=clsQ n))=true:=by decide +kernel
theorem cls_eq {n:Nat} (h:n<256):clsF n=clsQ n:=by
 have:=List.all_eq_true.1 cls_all n (List.mem_range.2 h)
 simpa using this
def clAt (s:ByteArray) (i:Nat):Int:=if h:i<s.size then clsF s[i].toNat else 0
theorem clAt_lt {s:ByteArray} {i:Nat} (h:i<s.size):clAt s i=clsF s[i].toNat:=by rw [clAt,dif_pos h]
theorem clAt_ge {s:ByteArray} {i:Nat} (h:¬i<s.size):clAt s i=0:=by rw [clAt,dif_neg h]
set_option maxRecDepth 100000 in
set_option maxHeartbeats 1000000 in
theorem at_any (i Bt Bc:Nat) (s:ByteArray) (w:World) (ht:w.heap[Bt]?=some (.cells #[.string s] 9 (0,0))) (hc:w.heap[Bc]?=some (.cells (tabU clsF) 80 (0,0))) :
  Calls Tryd.prog 50 #[.int .i64 i,.pointer (some ⟨Bt,0,none⟩),.pointer (some ⟨Bc,0,none⟩)] w fun e w'=>e=.returned (.int .u8 (clAt s i))∧w'=w:=by
 obtain ⟨tz,t0⟩:=rk1 ht
 have ht':=Lib.hid ht
 clear ht
 by_cases hi:i<s.size
 ·have hu:=UInt8.toNat_lt s[i]
  have c0:w.cell? ⟨Bc,s[i].toNat,none⟩=some (.int .u8 (clsF s[i].toNat)):=(cell_of_row w _ s[i].toNat _ _ _ hc).trans (tabU_get _ _ hu)
  have HE:=Lib.hid (clAt_lt hi)
  have D1:decide ((s.size:Int)≤(i:Int))=false:=by rw [decide_eq_false_iff_not];omega
  have D2:decide (s.size≤i)=false:=by rw [decide_eq_false_iff_not];omega
  clear hc
  go_enter Tryd.func50,Tryd.ntmps50
  go_wp2
  go_ret
  exact ⟨ret_int HE.out.symm,rfl⟩
 ·have HE:=Lib.hid (clAt_ge hi)
  have D1:decide ((s.size:Int)≤(i:Int))=true:=by rw [decide_eq_true_eq];omega
  have D2:decide (s.size≤i)=true:=by rw [decide_eq_true_eq];omega
  clear hc
  go_enter Tryd.func50,Tryd.ntmps50
  go_wp2
  go_ret
  exact ⟨ret_int HE.out.symm,rfl⟩
set_option maxRecDepth 100000 in
theorem tokens_any (s:ByteArray) (w:World) :
  Calls Tryd.prog 39 #[.string s] w fun e w'=>∃Bt Bc Bf,e=.returned (.func (.func 51) #[] #[.pointer (some ⟨Bt,0,none⟩),.pointer (some ⟨Bf,0,none⟩)])∧w.heap.size≤Bt∧w.heap.size≤Bc∧w.heap.size≤Bf ∧
   w'.heap[Bt]?=some (.cells #[.string s] 9 (0,0))∧w'.heap[Bc]?=some (.cells (tabU clsF) 80 (0,0))∧w'.heap[Bf]?=some (.cells #[.func (.func 50) #[] #[.pointer (some ⟨Bt,0,none⟩),.pointer (some ⟨Bc,0,none⟩)]] 100 (0,0))∧Below w.heap.size w w':=by
 have hmf:∀(fn:Fn) (first cap:Array Value) (w:World),(Instr.makeFunc fn first cap).run Tryd.prog w=.ok (.func fn first cap) w:=fun _ _ _ _=>rfl
 go_enter Tryd.func39,Tryd.ntmps39
 go_wp2_with fail
 refine (classes_tab _).mono ?_;rintro e w1 ⟨rfl,hb1⟩
 have HS:=Lib.hid (show (Tryd.prog.info? 80).map (·.size)=some (tabU clsF).size by rw [tabU_size];kernel_rfl)
 have H2:=Lib.hid (show Tryd.zeroCells80.size=(tabU clsF).size by rw [←tabU_zero,tabU_size,tabU_size])
 go_wp2_with (refine wpList_store_row rfl 80 (.tmp 3) (.tmp 5) rfl w1.heap.size (tabU clsF) rfl rfl 80 Tryd.zeroCells80 (heap_alloc_new w1 _) HS.out H2.out (tabU_one _) ?_)
 have HB:=Lib.hid (setRow_heap _ w1.heap.size Tryd.zeroCells80 (tabU clsF) 80 (0,0) (heap_alloc_new w1 (.cells Tryd.zeroCells80 80)))
 have hb1s:=hb1.size
 have B2:Below w.heap.size w ((w1.alloc (.cells Tryd.zeroCells80 80)).setRow w1.heap.size (tabU clsF)):=below_setRow' ((((Below.refl _ w).alloc (Nat.le_refl _) _).trans (hb1.mono (by simp))).alloc (by simp at hb1s;omega) _) (by simp at hb1s;omega) _
 have HT:=Lib.hid (show ((w1.alloc (.cells Tryd.zeroCells80 80)).setRow w1.heap.size (tabU clsF)).heap[w.heap.size]?=some (.cells #[.string s] 9 (0,0)) by
  rw [setRow_other _ _ _ _ (by simp at hb1s;omega)]
  exact row_past (row_later hb1 (row_new w _)))
 have HZ:=Lib.hid (show ((w1.alloc (.cells Tryd.zeroCells80 80)).setRow w1.heap.size (tabU clsF)).heap.size=w1.heap.size+1 by simp)
 generalize hw2:(w1.alloc (.cells Tryd.zeroCells80 80)).setRow w1.heap.size (tabU clsF)=w2
 rw [hw2] at HB B2 HT HZ
 have bz:=lt_of_block HB.out
 clear hw2 HS H2 hb1
 go_wp2
 go_ret
 exact ⟨w.heap.size,w1.heap.size,w1.heap.size+1,rfl,Nat.le_refl _,by simp at hb1s;omega,by simp at hb1s;omega,row_past HT.out,row_past HB.out,by rw [←HZ.out];exact row_new w2 _,B2.alloc B2.size _⟩
end Go.Proofs.YtdfenhjibnfdeaaDoor

namespace Go.Proofs.YtdfenhjibnfdeaaDoor
open Go.RowKit Go.Shelf
def ib3 (k:Nat):Int:=Lib.indexByte (⟨#[92,34,110]⟩:ByteArray).data.toList k.toUInt8
theorem ib3_any (k:Nat) (w:World):Calls Tryd.prog 49 #[.string ⟨#[92,34,110]⟩,.int .u8 k] w fun e w'=>e=.returned (.int .i64 (ib3 k))∧w'=w :=
 (Tryd.strings_IndexByte _ _ w).mono fun _ _ h=>⟨h.1,h.2⟩
theorem ib3_all:((List.range 256).all fun n=>decide (ib3 n=if n=92 then 0 else if n=34 then 1 else if n=110 then 2 else -1))=true:=by decide +kernel
theorem ib3_eq {n:Nat} (h:n<256):ib3 n=if n=92 then 0 else if n=34 then 1 else if n=110 then 2 else -1:=by
 have:=List.all_eq_true.1 ib3_all n (List.mem_range.2 h)
 simpa using this
theorem drop_at (s:ByteArray) (k:Nat) (h:k<s.size):(lstB s).drop k=s[k] :: (lstB s).drop (k+1):=List.drop_eq_getElem_cons (by rw [lstB_len];exact h)
theorem drop_end (s:ByteArray) (k:Nat) (h:s.size≤k):(lstB s).drop k=[]:=List.drop_of_length_le (by rw [lstB_len];exact h)
def UqI (s:ByteArray) (k:Nat) (acc:List UInt8):Prop:=1≤k∧acc.length≤k∧unqL ((lstB s).drop 1)=(unqL ((lstB s).drop k)).map fun x=>(acc++x.1,x.2+(k - 1))
theorem UqI.one {s:ByteArray} {k:Nat} {acc:List UInt8} (h:UqI s k acc) (hk:k<s.size) (h1:¬s[k].toNat=34) (h2:¬s[k].toNat=10) (h3:¬s[k].toNat=92):UqI s (k+1) (acc++[s[k]]):=by
 obtain ⟨a,b,c⟩:=h
 refine ⟨by omega,by simp;omega,?_⟩
 rw [c,drop_at s k hk,unq_one _ h1 h2 h3,Option.map_map]
 congr 1;funext x;simp;omega
theorem UqI.esc {s:ByteArray} {k:Nat} {acc:List UInt8} (h:UqI s k acc) (hk:k+1<s.size) (h3:s[k].toNat=92) {d:UInt8} (hd:s[k+1].toNat=92∧d=92∨s[k+1].toNat=34∧d=34∨s[k+1].toNat=110∧d=10):UqI s (k+1+1) (acc++[d]):=by
 obtain ⟨a,b,c⟩:=h
 refine ⟨by omega,by simp;omega,?_⟩
 rw [c,drop_at s k (by omega),drop_at s (k+1) hk,unq_esc _ h3]
 rcases hd with ⟨hd,rfl⟩ | ⟨hd,rfl⟩ | ⟨hd,rfl⟩
 ·simp only [if_pos hd,Option.map_map]
  congr 1;funext x;simp;omega
 ·simp only [if_neg (show ¬s[k+1].toNat=92 by omega),if_pos hd,Option.map_map]
  congr 1;funext x;simp;omega
 ·simp only [if_neg (show ¬s[k+1].toNat=92 by omega),if_neg (show ¬s[k+1].toNat=34 by omega),if_pos hd,Option.map_map]
  congr 1;funext x;simp;omega
theorem UqI.done {s:ByteArray} {k:Nat} {acc:List UInt8} (h:UqI s k acc) (hk:k<s.size) (h1:s[k].toNat=34):unqL ((lstB s).drop 1)=some (acc,k):=by
 obtain ⟨a,b,c⟩:=h
 rw [c,drop_at s k hk,unq_end _ h1]
 simp;omega
theorem UqI.fail {s:ByteArray} {k:Nat} {acc:List UInt8} (h:UqI s k acc) (hn:unqL ((lstB s).drop k)=none):unqL ((lstB s).drop 1)=none:=by
 rw [h.2.2,hn];rfl
def unqV (s:ByteArray):Value:=match unqL ((lstB s).drop 1) with
 |some (t,n)=>.tuple #[.string (bytesOf t),.int .i64 (n+1:Nat)]
 |none=>.tuple #[.string ⟨#[]⟩,.int .i64 0]
theorem UqI.ret {s:ByteArray} {k:Nat} {acc:List UInt8} (h:UqI s k acc) (hn:unqL ((lstB s).drop k)=none):Ending.returned (.tuple #[.string ⟨#[]⟩,.int .i64 0])=.returned (unqV s):=by
 rw [unqV,h.fail hn]
theorem UqI.ret2 {s:ByteArray} {k:Nat} {acc:List UInt8} (h:UqI s k acc) (hk:k<s.size) (h1:s[k].toNat=34) {i:Int} (hi:i=(k:Int)+1):Ending.returned (.tuple #[.string (bytesOf acc),.int .i64 i])=.returned (unqV s):=by
 rw [unqV,h.done hk h1,hi];rfl
set_option maxRecDepth 100000 in
set_option maxHeartbeats 4000000 in
theorem unquoted_any (s:ByteArray) (h1:1≤s.size) (hs:s.size≤20000) (w:World) :
  Calls Tryd.prog 52 #[.string s] w fun e w'=>e=.returned (unqV s)∧Below w.heap.size w w':=by
 have hb0:Below w.heap.size w (w.alloc (.cells #[.pointer none,.slice none 0 0] 49)):=(Below.refl _ w).alloc (Nat.le_refl _) _
 have h0:BldF 49 w.heap.size w.heap.size (Lib.byteCells []) (w.alloc (.cells #[.pointer none,.slice none 0 0] 49)) :=
  .inl ⟨Nat.le_refl _,_,row_new w _,World.ownsRowF_of (World.ownsRow_nil _ _ _ _),by simp [Value.ownBlock]⟩
 have HU0:=Lib.hid (show UqI s 1 [] from ⟨by omega,by simp,by simp⟩)
 go_enter Tryd.func52,Tryd.ntmps52
 go_wp2
 go_loopw [5] (fun i wr=>∃(k:Nat) (acc:List UInt8),k≤s.size∧i=.int .i64 k∧UqI s k acc∧BldF 49 w.heap.size w.heap.size (Lib.byteCells acc) wr∧Below w.heap.size w wr) (fun i _=>s.size - (intOf i).toNat)
 case atStart=>exact ⟨1,[],by omega,rfl,HU0.out,h0,hb0⟩
 case round =>
  clear h0 hb0 HU0
  obtain ⟨k,acc,hk,rfl,hU,hW,hbr⟩:=hrel
  have hsz:=hbr.size
  have HU:=Lib.hid hU
  have hal:=hU.2.1
  clear hU
  by_cases hlt:k<s.size
  ·have hu:=UInt8.toNat_lt s[k]
   by_cases e1:s[k].toNat=34
   ·have C1:=Lib.hid (Tryd.Builder_String_any_k _ _ acc wr hW hsz)
    have HR:=Lib.hid (fun (i:Int) (hi:i=(k:Int)+1)=>HU.out.ret2 hlt e1 hi)
    clear hW
    go_wp2_with fail
    refine C1.out.mono ?_
    rintro e w2 ⟨rfl,-,hb2,-⟩
    go_wp2
    go_ret2
    exact ⟨HR.out _ (by go_num),hbr.trans hb2⟩
   by_cases e2:s[k].toNat=10
   ·go_wp2
    go_ret2
    exact ⟨UqI.ret HU.out (by rw [drop_at s k hlt,unq_line _ e2]),hbr⟩
   by_cases e3:s[k].toNat=92
   ·by_cases hk1:k+1<s.size
    ·have hu1:=UInt8.toNat_lt s[k+1]
     have hib:=ib3_eq hu1
     by_cases f1:s[k+1].toNat=92
     ·rw [if_pos f1] at hib
      have HN:=Lib.hid (HU.out.esc hk1 e3 (d:=92) (.inl ⟨f1,rfl⟩))
      have C1:=Lib.hid (bbyte_any bldB _ _ _ 92 wr hW (by rw [Lib.byteCells_length];omega) hsz)
      have C2:Calls Tryd.prog 32 #[.pointer (some ⟨w.heap.size,0,none⟩),.int .u8 92] wr fun e w'=>e=.returned .nilIface∧BldU 49 w.heap.size w.heap.size (Lib.byteCells (acc++[92])) w'∧Below w.heap.size wr w':=C1.out.mono fun e w' h=>⟨h.1,by have:=h.2.1;rw [show (Value.int .u8 92)=.int .u8 ((92:UInt8).toNat:Int) from rfl,cells_byte] at this;exact this,h.2.2.1⟩
      have C2:=Lib.hid C2
      clear hW C1
      go_wp2_with (first | (go_at_call 49;refine (ib3_any _ _).mono ?_;rintro e w' ⟨rfl,rfl⟩) | (go_at_call 32;refine C2.out.mono ?_;rintro e w2 ⟨rfl,h2,hb2⟩))
      go_roundw
      case rel=>exact ⟨k+1+1,acc++[92],by omega,by go_num,HN.out,.inr h2,hbr.trans hb2⟩
      case measure=>simp [intOf];omega
     rw [if_neg f1] at hib
     by_cases f2:s[k+1].toNat=34
     ·rw [if_pos f2] at hib
      have HN:=Lib.hid (HU.out.esc hk1 e3 (d:=34) (.inr (.inl ⟨f2,rfl⟩)))
      have C1:=Lib.hid (bbyte_any bldB _ _ _ 34 wr hW (by rw [Lib.byteCells_length];omega) hsz)
      have C2:Calls Tryd.prog 32 #[.pointer (some ⟨w.heap.size,0,none⟩),.int .u8 34] wr fun e w'=>e=.returned .nilIface∧BldU 49 w.heap.size w.heap.size (Lib.byteCells (acc++[34])) w'∧Below w.heap.size wr w':=C1.out.mono fun e w' h=>⟨h.1,by have:=h.2.1;rw [show (Value.int .u8 34)=.int .u8 ((34:UInt8).toNat:Int) from rfl,cells_byte] at this;exact this,h.2.2.1⟩
      have C2:=Lib.hid C2
      clear hW C1
      go_wp2_with (first | (go_at_call 49;refine (ib3_any _ _).mono ?_;rintro e w' ⟨rfl,rfl⟩) | (go_at_call 32;refine C2.out.mono ?_;rintro e w2 ⟨rfl,h2,hb2⟩))
      go_roundw
      case rel=>exact ⟨k+1+1,acc++[34],by omega,by go_num,HN.out,.inr h2,hbr.trans hb2⟩
      case measure=>simp [intOf];omega
     rw [if_neg f2] at hib
     by_cases f3:s[k+1].toNat=110
     ·rw [if_pos f3] at hib
      have HN:=Lib.hid (HU.out.esc hk1 e3 (d:=10) (.inr (.inr ⟨f3,rfl⟩)))
      have C1:=Lib.hid (bbyte_any bldB _ _ _ 10 wr hW (by rw [Lib.byteCells_length];omega) hsz)
      have C2:Calls Tryd.prog 32 #[.pointer (some ⟨w.heap.size,0,none⟩),.int .u8 10] wr fun e w'=>e=.returned .nilIface∧BldU 49 w.heap.size w.heap.size (Lib.byteCells (acc++[10])) w'∧Below w.heap.size wr w':=C1.out.mono fun e w' h=>⟨h.1,by have:=h.2.1;rw [show (Value.int .u8 10)=.int .u8 ((10:UInt8).toNat:Int) from rfl,cells_byte] at this;exact this,h.2.2.1⟩
      have C2:=Lib.hid C2
      clear hW C1
      go_wp2_with (first | (go_at_call 49;refine (ib3_any _ _).mono ?_;rintro e w' ⟨rfl,rfl⟩) | (go_at_call 32;refine C2.out.mono ?_;rintro e w2 ⟨rfl,h2,hb2⟩))
      go_roundw
      case rel=>exact ⟨k+1+1,acc++[10],by omega,by go_num,HN.out,.inr h2,hbr.trans hb2⟩
      case measure=>simp [intOf];omega
     rw [if_neg f3] at hib
     have HN:=Lib.hid (show unqL ((lstB s).drop k)=none by rw [drop_at s k hlt,drop_at s (k+1) hk1,unq_esc _ e3,if_neg f1,if_neg f2,if_neg f3])
     clear hW
     go_wp2_with (go_at_call 49;refine (ib3_any _ _).mono ?_;rintro e w' ⟨rfl,rfl⟩)
     go_ret2
     exact ⟨UqI.ret HU.out HN.out,hbr⟩
    ·have HN:=Lib.hid (show unqL ((lstB s).drop k)=none by rw [drop_at s k hlt,drop_end s (k+1) (by omega),unq_bs e3])
     clear hW
     go_wp2
     go_ret2
     exact ⟨UqI.ret HU.out HN.out,hbr⟩
   have HN:=Lib.hid (HU.out.one hlt e1 e2 e3)
   have C1:=Lib.hid (bbyte_any bldB _ _ _ s[k].toNat wr hW (by rw [Lib.byteCells_length];omega) hsz)
   rw [cells_byte] at C1
   clear hW
   go_wp2_with (go_at_call 32;refine C1.out.mono ?_;rintro e w2 ⟨rfl,h2,hb2,-⟩)
   go_roundw
   case rel=>exact ⟨k+1,acc++[s[k]],by omega,by go_num,HN.out,.inr h2,hbr.trans hb2⟩
   case measure=>simp [intOf];omega
  ·have HN:=Lib.hid (show unqL ((lstB s).drop k)=none by rw [drop_end s k (by omega)];rfl)
   clear hW
   go_wp2
   go_ret2
   exact ⟨UqI.ret HU.out HN.out,hbr⟩
end Go.Proofs.YtdfenhjibnfdeaaDoor

namespace Go.Proofs.YtdfenhjibnfdeaaDoor
open Go
def tkF (s:ByteArray) (i:Nat):List FndD:=toks (s.size - i) i ((lstB s).drop i)
theorem toks_fuel:∀(f g i:Nat) (l:List UInt8),l.length≤f→l.length≤g→toks f i l=toks g i l
 |0,0,_,_,_,_=>rfl
 |0,g+1,_,[],_,_=>by simp [toks]
 |f+1,0,_,[],_,_=>by simp [toks]
 |0,_+1,_,_ :: _,h,_=>by simp at h
 |_+1,0,_,_ :: _,_,h=>by simp at h
 |f+1,g+1,i,[],_,_=>by simp [toks]
 |f+1,g+1,i,c :: r,hf,hg=>by
  have hd:∀n,n≠0→((c :: r).drop n).length≤f∧((c :: r).drop n).length≤g:=fun n hn=>by
   simp only [List.length_drop,List.length_cons] at *;omega
  simp only [toks]
  rcases hs:scan1 (c :: r) with ⟨n,_ | ⟨k,t,e⟩⟩
  ·simp only
   by_cases hn:n=0
   ·exfalso
    subst hn
    unfold scan1 at hs
    repeat' split at hs
    all_goals (try cases hs)
    all_goals simp_all [spanN]
   ·exact toks_fuel f g _ _ (hd n hn).1 (hd n hn).2
  ·simp only
   by_cases he:e=0
   ·rw [if_pos he,if_pos he]
    by_cases hn:n=0
    ·exfalso
     subst hn
     unfold scan1 at hs
     repeat' split at hs
     all_goals (try cases hs)
     all_goals simp_all [spanN,wordC]
    ·rw [toks_fuel f g _ _ (hd n hn).1 (hd n hn).2]
   ·rw [if_neg he,if_neg he]
theorem tk_end {s:ByteArray} {i:Nat} (h:s.size≤i):tkF s i=[]:=by
 rw [tkF,drop_end s i h];cases s.size - i<;>simp [toks]
theorem tk_cons {s:ByteArray} {i:Nat} (h:i<s.size):∃r,(lstB s).drop i=s[i] :: r∧s.size - i=(s.size - (i+1))+1:=⟨_,drop_at s i h,by omega⟩
theorem tk_skip {s:ByteArray} {i n:Nat} (h:i<s.size) (hn:1≤n) (hs:scan1 ((lstB s).drop i)=(n,none)):tkF s i=tkF s (i+n):=by
 obtain ⟨r,hr,hz⟩:=tk_cons h
 rw [tkF,hz]
 rw [hr] at hs ⊢
 rw [toks,hs]
 show toks _ _ _=_
 rw [←hr,List.drop_drop,tkF]
 exact toks_fuel _ _ _ _ (by rw [List.length_drop,lstB_len];omega) (by rw [List.length_drop,lstB_len];omega)
theorem tk_tok {s:ByteArray} {i n:Nat} {k:Int} {t:ByteArray} (h:i<s.size) (hn:1≤n) (hs:scan1 ((lstB s).drop i)=(n,some (k,t,0))):tkF s i=⟨⟨k,t,i⟩,0⟩ :: tkF s (i+n):=by
 obtain ⟨r,hr,hz⟩:=tk_cons h
 rw [tkF,hz]
 rw [hr] at hs ⊢
 rw [toks,hs]
 show (⟨⟨k,t,i⟩,0⟩:FndD) :: (if (0:Int)=0 then _ else _)=_
 rw [if_pos rfl,←hr,List.drop_drop,tkF]
 congr 1
 exact toks_fuel _ _ _ _ (by rw [List.length_drop,lstB_len];omega) (by rw [List.length_drop,lstB_len];omega)
theorem tk_err {s:ByteArray} {i n:Nat} {k e:Int} {t:ByteArray} (h:i<s.size) (he:e≠0) (hs:scan1 ((lstB s).drop i)=(n,some (k,t,e))):tkF s i=[⟨⟨k,t,i⟩,e⟩]:=by
 obtain ⟨r,hr,hz⟩:=tk_cons h
 rw [tkF,hz]
 rw [hr] at hs ⊢
 rw [toks,hs]
 show (⟨⟨k,t,i⟩,e⟩:FndD) :: (if e=0 then _ else _)=_
 rw [if_neg he]
end Go.Proofs.YtdfenhjibnfdeaaDoor
