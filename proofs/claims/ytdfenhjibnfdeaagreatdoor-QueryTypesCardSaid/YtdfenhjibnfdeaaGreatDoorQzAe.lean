/-        -/
import Derived.Test.YtdfenhjibnfdeaaGreatDoorQzAd
import Derived.Test.YtdfenhjibnfdeaaGreatDoorQzAb
import Derived.Lib.ItoaLen
import Derived.ShutString
import Derived.Lib.AtoiAll
import Derived.LaidSub
import Derived.LaidMore
import Derived.Test.YtdfenhjibnfdeaaGreatDoorQzAc
import Derived.Shelf.GgClosure.StringsIndexFunc
namespace Go.Proofs.YtdfenhjibnfdeaaGreatDoor
open Go.RowKit
theorem clsF_cases (n:Nat) (h:n<256):(97≤n∧n≤122∨65≤n∧n≤90→clsF n=3)∧(48≤n∧n≤57→clsF n=4)∧(n=95→clsF n=5) ∧
  (¬(97≤n∧n≤122∨65≤n∧n≤90)→¬(48≤n∧n≤57)→n≠95→clsF n≠3∧clsF n≠4∧clsF n≠5):=by
 simp only [clsF,putF,cutF,if_pos h]
 refine ⟨fun h1=>?_,fun h1=>?_,fun h1=>?_,fun h1 h2 h3=>?_⟩
 ·rw [if_neg (by omega),if_neg (by omega),if_neg (by omega),cls0,if_pos h1]
 ·rw [if_neg (by omega),if_neg (by omega),if_neg (by omega),cls0,if_neg (by omega),if_pos h1]
 ·rw [if_neg (by omega),if_pos h1]
 ·rw [if_neg h3,cls0,if_neg h1,if_neg h2]
  split
  ·omega
  ·split
   ·omega
   ·split
    ·omega
    ·split<;>omega
theorem take_snoc (s:ByteArray) (k:Nat) (h:k<s.size):s.data.toList.take (k+1)=s.data.toList.take k++[s[k]]:=by
 rw [List.take_succ_eq_append_getElem (by simpa using h)];rfl
theorem str_nil {s:ByteArray} (h:s.size=0):s.toList=[]:=by
 rw [ByteArray.toList_eq]
 exact List.eq_nil_of_length_eq_zero (by rw [Array.length_toList];exact h)
theorem str_not_empty {s:ByteArray} (h:0<s.size):s.toList.isEmpty=false:=by
 rw [ByteArray.toList_eq,List.isEmpty_eq_false_iff]
 intro e
 have:=congrArg List.length e
 rw [Array.length_toList] at this
 have h2:s.data.size=s.size:=rfl
 simp only [List.length_nil] at this
 omega
theorem str_ne_nil {s:ByteArray} (h:0<s.size):(s.toList==[])=false:=by
 rw [beq_eq_false_iff_ne]
 intro e
 have:=str_not_empty h
 rw [e] at this
 simp at this
set_option maxRecDepth 100000 in
set_option maxHeartbeats 1000000 in
theorem name_any (s:ByteArray) (hs:s.size≤140737488355328) (w:World) :
  Calls Tryz.prog 36 #[.string s] w fun e w'=>e=.returned (.bool (nameB s))∧Below w.heap.size w w':=by
 go_enter Tryz.func36,Tryz.ntmps36
 go_wp2_with fail
 refine (classes_tab _).mono ?_;rintro e w1 ⟨rfl,hb1⟩
 have HS:=Lib.hid (show (Tryz.prog.info? 106).map (·.size)=some (tabU clsF).size by rw [tabU_size];kernel_rfl)
 have H2:=Lib.hid (show Tryz.zeroCells106.size=(tabU clsF).size by rw [←tabU_zero,tabU_size,tabU_size])
 go_wp2_with (refine wpList_store_row rfl 106 (.tmp 3) (.tmp 6) rfl w1.heap.size (tabU clsF) rfl rfl 106 Tryz.zeroCells106 (heap_alloc_new w1 _) HS.out H2.out (tabU_one _) ?_)
 have HB:=Lib.hid (setRow_heap _ w1.heap.size Tryz.zeroCells106 (tabU clsF) 106 (0,0) (heap_alloc_new w1 (.cells Tryz.zeroCells106 106)))
 have B2:Below w.heap.size w ((w1.alloc (.cells Tryz.zeroCells106 106)).setRow w1.heap.size (tabU clsF)):=below_setRow' (hb1.alloc hb1.size _) hb1.size _
 generalize hw2:(w1.alloc (.cells Tryz.zeroCells106 106)).setRow w1.heap.size (tabU clsF)=w2
 rw [hw2] at HB B2
 clear hw2 HS H2 hb1
 have bz:=lt_of_block HB.out
 go_loop [9] (fun i=>∃k:Nat,k≤s.size∧i=.int .i64 k∧preOK (s.data.toList.take k)=true) (fun i=>s.size - (intOf i).toNat)
 case atStart=>exact ⟨0,by omega,rfl,rfl⟩
 case round =>
  obtain ⟨k,hk,rfl,hpre⟩:=hrel
  have HP:=Lib.hid hpre
  clear hpre
  by_cases hlt:k<s.size
  ·have hu:=UInt8.toNat_lt s[k]
   have CL:=clsF_cases s[k].toNat hu
   have HT:=Lib.hid (take_snoc s k hlt)
   have HL:=Lib.hid (show (s.data.toList.take k).length=k by rw [List.length_take];simp;omega)
   have c0:w2.cell? ⟨w1.heap.size,s[k].toNat,none⟩=some (.int .u8 (clsF s[k].toNat)):=(cell_of_row w2 _ s[k].toNat _ _ _ HB.out).trans (tabU_get _ _ hu)
   have hts:=tabU_size clsF
   have HN:=Lib.hid (show preOK (s.data.toList.take (k+1))=if k=0 then letterC s[k] else wordC s[k] by rw [HT.out,preOK_snoc,HL.out,HP.out];simp)
   by_cases hl:97≤s[k].toNat∧s[k].toNat≤122∨65≤s[k].toNat∧s[k].toNat≤90
   ·rw [CL.1 hl] at c0
    have HG:=Lib.hid (show preOK (s.data.toList.take (k+1))=true by
     have h1:letterC s[k]=true:=by rw [letterC,decide_eq_true_eq];exact hl
     rw [HN.out,wordC,h1];simp)
    clear CL hl
    go_wp2
    go_round
    case rel=>exact ⟨k+1,by omega,by go_num,HG.out⟩
    case measure=>simp [intOf];omega
   have h1:letterC s[k]=false:=by rw [letterC,decide_eq_false_iff_not];exact hl
   by_cases h0:k=0
   ·have HF:=Lib.hid (show preOK (s.data.toList.take (k+1))=false by rw [HN.out,if_pos h0,h1])
    have h3:(clsF s[k].toNat != 3)=true:=by
     rw [bne_iff_ne]
     by_cases hd:48≤s[k].toNat∧s[k].toNat≤57
     ·rw [CL.2.1 hd];decide
     ·by_cases hu:s[k].toNat=95
      ·rw [CL.2.2.1 hu];decide
      ·exact (CL.2.2.2 hl hd hu).1
    have h3':¬clsF s[k].toNat=3:=by rw [bne_iff_ne] at h3;exact h3
    generalize clsF s[k].toNat=cv at *
    have k0:((k:Int)==0)=true:=by rw [beq_iff_eq];omega
    clear CL hl h1 h0
    have HB2:=Lib.hid (show nameB s=false by
     have h2:=preOK_app (s.data.toList.drop (k+1)) HF.out
     rw [List.take_append_drop] at h2
     rw [nameB,nameL,h2];simp)
    go_wp2
    go_ret
    exact ⟨ret_bool HB2.out.symm,B2⟩
   have k0:((k:Int)==0)=false:=by rw [beq_eq_false_iff_ne];omega
   by_cases hd:48≤s[k].toNat∧s[k].toNat≤57
   ·rw [CL.2.1 hd] at c0
    have HG:=Lib.hid (show preOK (s.data.toList.take (k+1))=true by
     have h2:digitC s[k]=true:=by rw [digitC,decide_eq_true_eq];exact hd
     rw [HN.out,if_neg h0,wordC,h2];simp)
    clear CL hl h1 h0 hd
    go_wp2
    go_round
    case rel=>exact ⟨k+1,by omega,by go_num,HG.out⟩
    case measure=>simp [intOf];omega
   by_cases hu5:s[k].toNat=95
   ·rw [CL.2.2.1 hu5] at c0
    have HG:=Lib.hid (show preOK (s.data.toList.take (k+1))=true by
     rw [HN.out,if_neg h0,wordC,hu5];simp)
    clear CL hl h1 h0 hd hu5
    go_wp2
    go_round
    case rel=>exact ⟨k+1,by omega,by go_num,HG.out⟩
    case measure=>simp [intOf];omega
   have HF:=Lib.hid (show preOK (s.data.toList.take (k+1))=false by
    have h2:digitC s[k]=false:=by rw [digitC,decide_eq_false_iff_not];exact hd
    rw [HN.out,if_neg h0,wordC,h1,h2];simp [hu5])
   obtain ⟨n3,n4,n5⟩:=CL.2.2.2 hl hd hu5
   have h3:(clsF s[k].toNat != 3)=true:=by rw [bne_iff_ne];exact n3
   have h4:(clsF s[k].toNat != 4)=true:=by rw [bne_iff_ne];exact n4
   have h5:(clsF s[k].toNat != 5)=true:=by rw [bne_iff_ne];exact n5
   generalize clsF s[k].toNat=cv at *
   clear CL hl h1 h0 hd hu5
   have HB2:=Lib.hid (show nameB s=false by
    have h2:=preOK_app (s.data.toList.drop (k+1)) HF.out
    rw [List.take_append_drop] at h2
    rw [nameB,nameL,h2];simp)
   go_wp2
   go_ret
   exact ⟨ret_bool HB2.out.symm,B2⟩
  ·obtain rfl:k=s.size:=by omega
   have hall:s.data.toList.take s.size=s.data.toList:=List.take_of_length_le (by simp)
   have HE:=Lib.hid (show nameB s=(decide (0<s.size) && decide (s.size≤24)) by
    have h:=HP.out
    rw [hall] at h
    rw [nameB,nameL,h];simp)
   clear hall
   by_cases z:0<s.size
   ·have e0:(s.toList==[])=false:=str_ne_nil z
    have e1:s.toList.isEmpty=false:=str_not_empty z
    by_cases z2:s.size≤24
    ·go_wp2
     go_ret
     exact ⟨ret_bool (by rw [HE.out];simp [z];omega),B2⟩
    ·go_wp2
     go_ret
     exact ⟨ret_bool (by rw [HE.out];simp [z];omega),B2⟩
   ·have e0:s.toList=[]:=str_nil (by omega)
    have e1:s.toList.isEmpty=true:=by rw [e0];rfl
    go_wp2
    go_ret
    exact ⟨ret_bool (by rw [HE.out];simp [z]),B2⟩
end Go.Proofs.YtdfenhjibnfdeaaGreatDoor

namespace Go.Proofs.YtdfenhjibnfdeaaGreatDoor
open Go.RowKit
set_option maxHeartbeats 400000 in
theorem rletter_any (c:UInt8) (w:World) :
  Calls Tryz.prog 81 #[.int .u8 c.toNat] w fun e w'=>e=.returned (.bool (letterC c))∧w=w':=by
 have hu:=UInt8.toNat_lt c
 go_enter Tryz.func81,Tryz.ntmps81
 by_cases h1:97≤c.toNat
 ·by_cases h2:c.toNat≤122
  ·go_wp2
   go_ret
   exact ⟨ret_bool (by rw [letterC,Bool.eq_iff_iff];first | (simp;done) | (simp;omega)),rfl⟩
  ·go_wp2
   go_ret
   exact ⟨ret_bool (by rw [letterC,Bool.eq_iff_iff];first | (simp;done) | (simp;omega)),rfl⟩
 ·by_cases h2:65≤c.toNat
  ·by_cases h3:c.toNat≤90
   ·go_wp2
    go_ret
    exact ⟨ret_bool (by rw [letterC,Bool.eq_iff_iff];first | (simp;done) | (simp;omega)),rfl⟩
   ·go_wp2
    go_ret
    exact ⟨ret_bool (by rw [letterC,Bool.eq_iff_iff];first | (simp;done) | (simp;omega)),rfl⟩
  ·go_wp2
   go_ret
   exact ⟨ret_bool (by rw [letterC,Bool.eq_iff_iff];first | (simp;done) | (simp;omega)),rfl⟩
theorem rdigit_any (c:UInt8) (w:World) :
  Calls Tryz.prog 109 #[.int .u8 c.toNat] w fun e w'=>e=.returned (.bool (digitC c))∧w=w':=by
 have hu:=UInt8.toNat_lt c
 go_enter Tryz.func109,Tryz.ntmps109
 by_cases h1:48≤c.toNat
 ·by_cases h2:c.toNat≤57
  ·go_wp2
   go_ret
   exact ⟨ret_bool (by rw [digitC,Bool.eq_iff_iff];first | (simp;done) | (simp;omega)),rfl⟩
  ·go_wp2
   go_ret
   exact ⟨ret_bool (by rw [digitC,Bool.eq_iff_iff];first | (simp;done) | (simp;omega)),rfl⟩
 ·go_wp2
  go_ret
  exact ⟨ret_bool (by rw [digitC,Bool.eq_iff_iff];first | (simp;done) | (simp;omega)),rfl⟩
set_option maxHeartbeats 400000 in
theorem rword_any (c:UInt8) (w:World) :
  Calls Tryz.prog 80 #[.int .u8 c.toNat] w fun e w'=>e=.returned (.bool (wordC c))∧w=w':=by
 have hu:=UInt8.toNat_lt c
 go_enter Tryz.func80,Tryz.ntmps80
 go_wp2_with fail
 refine (rletter_any _ _).mono ?_;rintro e w' ⟨rfl,rfl⟩
 cases h1:letterC c
 ·go_wp2_with fail
  refine (rdigit_any _ _).mono ?_;rintro e w' ⟨rfl,rfl⟩
  cases h2:digitC c
  ·by_cases h3:c.toNat=95
   ·have h3':((c.toNat:Int)==95)=true:=by rw [beq_iff_eq];omega
    clear h1 h2
    go_wp2
    go_ret
    exact ⟨ret_bool (by rw [wordC,h3];simp),rfl⟩
   ·have h3':((c.toNat:Int)==95)=false:=by rw [beq_eq_false_iff_ne];omega
    have H1:=Lib.hid h1
    have H2:=Lib.hid h2
    clear h1 h2
    go_wp2
    go_ret
    exact ⟨ret_bool (by rw [wordC,H1.out,H2.out];simp [h3]),rfl⟩
  ·have H2:=Lib.hid h2
   clear h1 h2
   go_wp2
   go_ret
   exact ⟨ret_bool (by rw [wordC,H2.out];simp),rfl⟩
 ·have H1:=Lib.hid h1
  clear h1
  go_wp2
  go_ret
  exact ⟨ret_bool (by rw [wordC,H1.out];simp),rfl⟩
theorem letter_word {c:UInt8} (h:letterC c=true):wordC c=true:=by rw [wordC,h];rfl
theorem nameL_eq (l:List UInt8):nameL l=(decide (0<l.length) && decide (l.length≤24) && l.all wordC && (match l with | []=>false | c :: _=>letterC c)):=by
 cases l with
 |nil=>simp [nameL]
 |cons c r =>
  simp only [nameL,preOK,List.all_cons]
  cases h:letterC c
  ·simp
  ·rw [letter_word h];simp
set_option maxHeartbeats 1000000 in
theorem rname_any (s:ByteArray) (hs:s.size≤140737488355328) (w:World) :
  Calls Tryz.prog 50 #[.string s] w fun e w'=>e=.returned (.bool (nameB s))∧w=w':=by
 go_enter Tryz.func50,Tryz.ntmps50
 go_wp2
 go_loop [3] (fun i=>∃k:Nat,k≤s.size∧i=.int .i64 k∧(s.data.toList.take k).all wordC=true) (fun i=>s.size - (intOf i).toNat)
 case atStart=>exact ⟨0,by omega,rfl,rfl⟩
 case round =>
  obtain ⟨k,hk,rfl,hpre⟩:=hrel
  have HP:=Lib.hid hpre
  clear hpre
  by_cases hlt:k<s.size
  ·have HT:=Lib.hid (take_snoc s k hlt)
   go_wp2_with fail
   refine (rword_any _ _).mono ?_;rintro e w' ⟨rfl,rfl⟩
   cases hw:wordC s[k]
   ·have HB2:=Lib.hid (show nameB s=false by
     have h1:(s.data.toList.take (k+1)).all wordC=false:=by rw [HT.out,List.all_append];simp [hw]
     have h2:s.data.toList.all wordC=false:=by
      rw [←List.take_append_drop (k+1) s.data.toList,List.all_append,h1];rfl
     rw [nameB,nameL_eq,h2];simp)
    clear hw
    go_wp2
    go_ret
    exact ⟨ret_bool HB2.out.symm,rfl⟩
   ·have HG:=Lib.hid (show (s.data.toList.take (k+1)).all wordC=true by rw [HT.out,List.all_append,HP.out];simp [hw])
    clear hw
    go_wp2
    go_round
    case rel=>exact ⟨k+1,by omega,by go_num,HG.out⟩
    case measure=>simp [intOf];omega
  ·obtain rfl:k=s.size:=by omega
   have hall:s.data.toList.take s.size=s.data.toList:=List.take_of_length_le (by simp)
   have HA:=HP.out
   rw [hall] at HA
   by_cases z:0<s.size
   ·have HH:=Lib.hid (show nameB s=(decide (s.size≤24) && letterC s[0]) by
     rw [nameB,nameL_eq,HA]
     have hl:s.data.toList.length=s.size:=by simp
     cases hd:s.data.toList with
     |nil=>rw [hd] at hl;simp at hl;omega
     |cons c r =>
      have hc:s[0]=c:=by
       have:s.data.toList[0]?=some c:=by rw [hd];rfl
       have h2:s.data.toList[0]?=some s[0]:=by
        rw [List.getElem?_eq_getElem (by omega)];rfl
       rw [h2] at this
       exact Option.some.inj this
      rw [hd] at hl
      simp only [hl,hc]
      simp [z])
    clear HP hall HA
    have z':(0:Int)<s.size:=by omega
    by_cases z2:s.size≤24
    ·go_wp2_with fail
     refine (rletter_any _ _).mono ?_;rintro e w' ⟨rfl,rfl⟩
     go_wp2
     go_ret
     exact ⟨ret_bool (by rw [HH.out];simp [z2]),rfl⟩
    ·go_wp2
     go_ret
     exact ⟨ret_bool (by rw [HH.out];simp [z2]),rfl⟩
   ·have HH:=Lib.hid (show nameB s=false by rw [nameB,nameL];simp [z])
    clear HP hall HA
    go_wp2
    go_ret
    exact ⟨ret_bool HH.out.symm,rfl⟩
end Go.Proofs.YtdfenhjibnfdeaaGreatDoor

namespace Go.Proofs.YtdfenhjibnfdeaaGreatDoor
open Go.RowKit
def StrRow (w:World) (v:Value) (l:List ByteArray):Prop :=
 ∃(a:Option Addr) (cap:Nat),v=.slice a l.length cap∧l.length≤140737488355328∧(∀s∈l,s.size≤140737488355328) ∧
  (0<l.length→∃b off,a=some ⟨b,off,none⟩∧∀(i:Nat) (s:ByteArray),l[i]?=some s→w.cell? ⟨b,off+i,none⟩=some (.string s))
theorem StrRow.later {w w':World} {v:Value} {l:List ByteArray} (h:StrRow w v l) (hb:Below w.heap.size w w'):StrRow w' v l:=by
 obtain ⟨a,cap,h1,h2,h3,h4⟩:=h
 refine ⟨a,cap,h1,h2,h3,fun h0=>?_⟩
 obtain ⟨b,off,e,hc⟩:=h4 h0
 exact ⟨b,off,e,fun i s hi=>cell_later hb (hc i s hi)⟩
def TagRow (w:World) (v:Value) (l:List TagD):Prop :=
 ∃(a:Option Addr) (cap:Nat),v=.slice a l.length cap∧l.length≤140737488355328∧(∀t∈l,t.key.size≤140737488355328∧t.val.size≤140737488355328) ∧
  (0<l.length→∃b off,a=some ⟨b,off,none⟩∧∀(i:Nat) (t:TagD),l[i]?=some t→w.cell? ⟨b,off+i * 2,none⟩=some (.string t.key)∧w.cell? ⟨b,off+i * 2+1,none⟩=some (.string t.val))
theorem TagRow.later {w w':World} {v:Value} {l:List TagD} (h:TagRow w v l) (hb:Below w.heap.size w w'):TagRow w' v l:=by
 obtain ⟨a,cap,h1,h2,h3,h4⟩:=h
 refine ⟨a,cap,h1,h2,h3,fun h0=>?_⟩
 obtain ⟨b,off,e,hc⟩:=h4 h0
 exact ⟨b,off,e,fun i s hi=>⟨cell_later hb (hc i s hi).1,cell_later hb (hc i s hi).2⟩⟩
theorem lt_of_cell {w:World} {b o:Nat} {v:Value} (h:w.cell? ⟨b,o,none⟩=some v):b<w.heap.size:=by
 rcases Nat.lt_or_ge b w.heap.size with h' | h'
 ·exact h'
 ·simp [World.cell?,Array.getElem?_eq_none h'] at h
theorem tagsFrom_drop (ls:ByteArray) (l:List TagD) (k:Nat) (t:TagD) (ht:l[k]?=some t):tagsFrom ls (l.drop k)=(nameB t.key && ltB ls t.key && decide (0<t.val.size∧t.val.size≤200) && tagsFrom t.key (l.drop (k+1))):=by
 obtain ⟨hk,rfl⟩:=List.getElem?_eq_some_iff.1 ht
 rw [List.drop_eq_getElem_cons hk];rfl
set_option maxRecDepth 100000 in
set_option maxHeartbeats 1000000 in
theorem tags_any (v:Value) (l:List TagD) (w:World) (h:TagRow w v l) :
  Calls Tryz.prog 111 #[v] w fun e w'=>e=.returned (.bool (tagsOK l))∧Below w.heap.size w w':=by
 obtain ⟨a,cap,rfl,hn,hsz,hc⟩:=h
 generalize hN:l.length=N at *
 have HN:=Lib.hid hN
 have HZ:=Lib.hid hsz
 have HC:=Lib.hid hc
 clear hN hsz hc
 go_enter Tryz.func111,Tryz.ntmps111
 go_wp2
 go_loopw [3,8] (fun s i wr=>∃(k:Nat) (ls:ByteArray),k≤N∧i=.int .i64 k∧s=.string ls∧tagsFrom ⟨#[]⟩ l=tagsFrom ls (l.drop k)∧Below w.heap.size w wr) (fun _ i _=>N - (intOf i).toNat)
 case atStart=>exact ⟨0,⟨#[]⟩,by omega,rfl,rfl,rfl,Below.refl _ _⟩
 case round =>
  obtain ⟨k,ls,hk,rfl,rfl,hT,hbr⟩:=hrel
  have HT:=Lib.hid hT
  clear hT
  by_cases hlt:k<N
  ·obtain ⟨t,ht⟩:∃t,l[k]?=some t:=⟨l[k]'(by rw [HN.out];exact hlt),List.getElem?_eq_getElem _⟩
   obtain ⟨b,off,ha,hcell⟩:=HC.out (by omega)
   subst ha
   have hz:=HZ.out t (List.mem_of_getElem? ht)
   obtain ⟨z1,z2⟩:=hz
   have c0:=cell_later hbr (hcell k t ht).1
   have c1:=cell_later hbr (hcell k t ht).2
   have bz:=lt_of_cell c0
   have HD:=Lib.hid (tagsFrom_drop ls l k t ht)
   clear hcell ht
   go_wp2_with fail
   refine (name_any t.key z1 _).mono ?_;rintro e w2 ⟨rfl,hb2⟩
   have B2:=below_step (hbr.alloc hbr.size (.cells #[.string t.key,.string t.val] 58)) (Nat.le_refl _) hb2
   have HB:=row_later hb2 (row_new wr (.cells #[.string t.key,.string t.val] 58))
   clear c0 c1
   obtain ⟨cz,c0,c1⟩:=rk2 HB
   have HB':=Lib.hid HB
   clear HB
   clear hb2 HB'
   cases hnm:nameB t.key
   case false =>
    have HR:=Lib.hid (show tagsFrom ⟨#[]⟩ l=false by rw [HT.out,HD.out,hnm];rfl)
    clear hnm
    go_wp2
    go_ret
    exact ⟨ret_bool (by rw [tagsOK,HR.out];simp),B2⟩
   have LQ:=leqB t.key ls
   cases hlt2:ltB ls t.key
   case false =>
    have HR:=Lib.hid (show tagsFrom ⟨#[]⟩ l=false by rw [HT.out,HD.out,hlt2];simp)
    rw [hlt2] at LQ
    clear hnm hlt2
    go_wp2
    go_ret
    exact ⟨ret_bool (by rw [tagsOK,HR.out];simp),B2⟩
   rw [hlt2] at LQ
   by_cases v0:0<t.val.size
   case neg =>
    have e0:t.val.toList=[]:=str_nil (by omega)
    have e1:t.val.toList.isEmpty=true:=by rw [e0];rfl
    have HR:=Lib.hid (show tagsFrom ⟨#[]⟩ l=false by rw [HT.out,HD.out];simp [v0])
    clear hnm hlt2 e0
    go_wp2
    go_ret
    exact ⟨ret_bool (by rw [tagsOK,HR.out];simp),B2⟩
   have e1:t.val.toList.isEmpty=false:=str_not_empty v0
   have e0:¬t.val.toList=[]:=by
    intro e;rw [e] at e1;simp at e1
   by_cases v1:t.val.size≤200
   case neg =>
    have HR:=Lib.hid (show tagsFrom ⟨#[]⟩ l=false by rw [HT.out,HD.out];simp [v1])
    clear hnm hlt2
    go_wp2
    go_ret
    exact ⟨ret_bool (by rw [tagsOK,HR.out];simp),B2⟩
   have HG:=Lib.hid (show tagsFrom ⟨#[]⟩ l=tagsFrom t.key (l.drop (k+1)) by rw [HT.out,HD.out,hnm,hlt2];simp [v0,v1])
   clear hnm hlt2
   go_wp2
   go_roundw
   case rel=>exact ⟨k+1,t.key,by omega,by go_num,rfl,HG.out,B2⟩
   case measure=>simp [intOf];omega
  ·obtain rfl:k=N:=by omega
   have HE:=Lib.hid (show tagsOK l=decide (k≤60) by
    rw [tagsOK,HT.out,HN.out,List.drop_of_length_le (by rw [HN.out];exact Nat.le_refl _)]
    simp [tagsFrom])
   by_cases h6:k≤60
   ·go_wp2
    go_ret
    exact ⟨ret_bool (by rw [HE.out];simp;omega),hbr⟩
   ·go_wp2
    go_ret
    exact ⟨ret_bool (by rw [HE.out];simp;omega),hbr⟩
theorem rname_still (s:ByteArray) (hs:s.size≤140737488355328) (w:World) :
  Calls Tryz.prog 50 #[.string s] w fun e w'=>e=.returned (.bool (nameB s))∧w'=w :=
 (rname_any s hs w).mono fun _ _ h=>⟨h.1,h.2.symm⟩
def lastK (l:List TagD):Nat→ByteArray
 |0=>⟨#[]⟩
 |m+1=>((l[m]?).map (·.key)).getD ⟨#[]⟩
theorem lt_empty {s:ByteArray} (h:nameB s=true):ltB ⟨#[]⟩ s=true:=by
 have h0:0<s.data.toList.length:=by
  simp only [nameB,nameL,Bool.and_eq_true,decide_eq_true_eq] at h
  exact h.1.1
 rw [ltB,ByteArray.toList_eq,ByteArray.toList_eq]
 cases hs:s.data.toList with
 |nil=>rw [hs] at h0;simp at h0
 |cons c r=>simp [Op.bytesLess]
set_option maxRecDepth 100000 in
set_option maxHeartbeats 1000000 in
theorem rtags_any (v:Value) (l:List TagD) (w:World) (h:TagRow w v l) :
  Calls Tryz.prog 52 #[v] w fun e w'=>e=.returned (.bool (tagsOK l))∧Below w.heap.size w w':=by
 obtain ⟨a,cap,rfl,hn,hsz,hc⟩:=h
 generalize hN:l.length=N at *
 have HN:=Lib.hid hN
 have HZ:=Lib.hid hsz
 have HC:=Lib.hid hc
 clear hN hsz hc
 by_cases h6:60<N
 ·have HE:=Lib.hid (show tagsOK l=false by rw [tagsOK,HN.out];simp;omega)
  go_enter Tryz.func52,Tryz.ntmps52
  go_wp2
  go_ret
  exact ⟨ret_bool HE.out.symm,Below.refl _ _⟩
 have HL:=Lib.hid (show decide (N≤60)=true by rw [decide_eq_true_eq];omega)
 go_enter Tryz.func52,Tryz.ntmps52
 go_wp2
 go_loopw [3] (fun i wr=>∃k:Nat,k≤N∧i=.int .i64 k∧tagsFrom ⟨#[]⟩ l=tagsFrom (lastK l k) (l.drop k)∧Below w.heap.size w wr) (fun i _=>N - (intOf i).toNat)
 case atStart=>exact ⟨0,by omega,rfl,rfl,Below.refl _ _⟩
 case round =>
  obtain ⟨k,hk,rfl,hT,hbr⟩:=hrel
  have HT:=Lib.hid hT
  clear hT
  by_cases hlt:k<N
  ·obtain ⟨t,ht⟩:∃t,l[k]?=some t:=⟨l[k]'(by rw [HN.out];exact hlt),List.getElem?_eq_getElem _⟩
   obtain ⟨b,off,ha,hcell⟩:=HC.out (by omega)
   subst ha
   obtain ⟨z1,z2⟩:=HZ.out t (List.mem_of_getElem? ht)
   have c0:=cell_later hbr (hcell k t ht).1
   have c1:=cell_later hbr (hcell k t ht).2
   have bz:=lt_of_cell c0
   have HD:=Lib.hid (tagsFrom_drop (lastK l k) l k t ht)
   have HK:=Lib.hid (show lastK l (k+1)=t.key by simp [lastK,ht])
   have RN:=Lib.hid (fun w=>rname_still t.key z1 w)
   have HCL:=Lib.hid hcell
   clear hcell ht
   cases hnm:nameB t.key
   case false =>
    have HR:=Lib.hid (show tagsFrom ⟨#[]⟩ l=false by rw [HT.out,HD.out,hnm];rfl)
    rw [hnm] at RN
    clear hnm
    go_wp2
    go_quiet ((go_at_call 50;exact Calls.quiet_of_same (RN.out _)))
    go_wp2
    go_ret
    exact ⟨ret_bool (by rw [tagsOK,HR.out];simp),hbr.drewN'⟩
   rw [hnm] at RN
   by_cases v0:0<t.val.size
   case neg =>
    have HR:=Lib.hid (show tagsFrom ⟨#[]⟩ l=false by rw [HT.out,HD.out];simp [v0])
    have D1:decide ((t.val.size:Int)<1)=true:=by rw [decide_eq_true_eq];omega
    clear hnm
    go_wp2
    go_quiet ((go_at_call 50;exact Calls.quiet_of_same (RN.out _)))
    go_wp2
    go_ret
    exact ⟨ret_bool (by rw [tagsOK,HR.out];simp),hbr.drewN'⟩
   have D1:decide ((t.val.size:Int)<1)=false:=by rw [decide_eq_false_iff_not];omega
   by_cases v1:t.val.size≤200
   case neg =>
    have HR:=Lib.hid (show tagsFrom ⟨#[]⟩ l=false by rw [HT.out,HD.out];simp [v1])
    have D2:decide ((200:Int)<t.val.size)=true:=by rw [decide_eq_true_eq];omega
    clear hnm
    go_wp2
    go_quiet ((go_at_call 50;exact Calls.quiet_of_same (RN.out _)))
    go_wp2
    go_ret
    exact ⟨ret_bool (by rw [tagsOK,HR.out];simp),hbr.drewN'⟩
   have D2:decide ((200:Int)<t.val.size)=false:=by rw [decide_eq_false_iff_not];omega
   rcases k with _ | m
   ·have HG:=Lib.hid (show tagsFrom ⟨#[]⟩ l=tagsFrom (lastK l (0+1)) (l.drop (0+1)) by
     rw [HT.out,HD.out,hnm,HK.out]
     have:ltB (lastK l 0) t.key=true:=lt_empty hnm
     rw [this];simp [v0,v1])
    clear hnm
    simp only [Nat.zero_mul,Nat.add_zero] at c0 c1
    go_wp2
    go_quiet ((go_at_call 50;exact Calls.quiet_of_same (RN.out _)))
    go_wp2
    go_roundw
    case rel=>exact ⟨0+1,by omega,by go_num,HG.out,hbr.drewN'⟩
    case measure=>simp [intOf];try omega
   ·obtain ⟨p,hp⟩:∃p,l[m]?=some p:=⟨l[m]'(by rw [HN.out];omega),List.getElem?_eq_getElem _⟩
    have p0:=cell_later hbr (HCL.out m p hp).1
    have HKP:=Lib.hid (show lastK l (m+1)=p.key by simp [lastK,hp])
    have WM:IntKind.i64.wrap (((m+1:Nat):Int) - 1)=(m:Int):=(IntWalk.i64_in _ (by omega)).trans (by omega)
    have WG:decide ((0:Int)<((m+1:Nat):Int))=true:=by rw [decide_eq_true_eq];omega
    clear hp
    cases hlt2:ltB p.key t.key
    case false =>
     have HR:=Lib.hid (show tagsFrom ⟨#[]⟩ l=false by rw [HT.out,HD.out,HKP.out,hlt2];simp)
     have LQ:Op.bytesLess p.key.toList t.key.toList=false:=hlt2
     clear hnm hlt2
     go_wp2
     go_quiet ((go_at_call 50;exact Calls.quiet_of_same (RN.out _)))
     go_wp2
     go_ret
     exact ⟨ret_bool (by rw [tagsOK,HR.out];simp),hbr.drewN'⟩
    have LQ:Op.bytesLess p.key.toList t.key.toList=true:=hlt2
    have HG:=Lib.hid (show tagsFrom ⟨#[]⟩ l=tagsFrom (lastK l (m+1+1)) (l.drop (m+1+1)) by
     rw [HT.out,HD.out,hnm,HK.out,HKP.out,hlt2];simp [v0,v1])
    clear hnm hlt2
    go_wp2
    go_quiet ((go_at_call 50;exact Calls.quiet_of_same (RN.out _)))
    go_wp2
    go_roundw
    case rel=>exact ⟨m+1+1,by omega,by go_num,HG.out,hbr.drewN'⟩
    case measure=>simp [intOf];try omega
  ·obtain rfl:k=N:=by omega
   have HE:=Lib.hid (show tagsOK l=true by
    rw [tagsOK,HT.out,HN.out,HL.out,List.drop_of_length_le (by rw [HN.out];exact Nat.le_refl _)]
    simp [tagsFrom])
   go_wp2
   go_ret
   exact ⟨ret_bool HE.out.symm,hbr⟩
end Go.Proofs.YtdfenhjibnfdeaaGreatDoor

namespace Go.Proofs.YtdfenhjibnfdeaaGreatDoor
open Go.RowKit Go.Shelf
structure Env (w:World):Prop where
 pow10:Lib.TabIs Tryz.prog w "internal/strconv.uint64pow10" .u64 Lib.pow10Tab
 synt:∃tp p,World.var? Tryz.prog w "strconv.ErrSyntax"=some #[.iface tp p]
 rng:∃tp p,World.var? Tryz.prog w "strconv.ErrRange"=some #[.iface tp p]
theorem var_lt {P:Program} {w:World} {n:String} {cs:Array Value} (h:World.var? P w n=some cs):∃g,P.globalNamed n=some g∧g<w.heap.size:=by
 unfold World.var? at h
 cases hg:P.globalNamed n with
 |none=>simp [hg] at h
 |some g =>
  refine ⟨g,rfl,?_⟩
  rcases Nat.lt_or_ge g w.heap.size with h' | h'
  ·exact h'
  ·simp [hg,Array.getElem?_eq_none h'] at h
theorem var_later {P:Program} {w w':World} {n:String} {cs:Array Value} (hb:Below w.heap.size w w') (h:World.var? P w n=some cs):World.var? P w' n=some cs:=by
 obtain ⟨g,hg,hlt⟩:=var_lt h
 exact var?_below hb hg hlt h
theorem Env.later {w w':World} (h:Env w) (hb:Below w.heap.size w w'):Env w' :=
 ⟨var_later hb h.pow10,by obtain ⟨t,p,e⟩:=h.synt;exact ⟨t,p,var_later hb e⟩,by obtain ⟨t,p,e⟩:=h.rng;exact ⟨t,p,var_later hb e⟩⟩
def itoaB (n:Int):ByteArray:=⟨(Lib.itoa n).toArray⟩
theorem itoaB_size (n:Int) (h0:-9223372036854775808≤n) (h1:n≤9223372036854775807):(itoaB n).size≤21:=by
 simp only [itoaB,size_of_list];exact Lib.itoa_length_le n h0 h1
theorem below_grow {w:World} {k:Nat} {os:Array Obj}:Below w.heap.size w (Sort.grow (w.drewN k) os) :=
 ⟨rfl,rfl,rfl,by simp [Sort.grow,World.drewN],fun j hj=>by show (w.heap++os)[j]?=_;rw [Array.getElem?_append_left hj]⟩
theorem itoa_below (n:Int) (h0:-9223372036854775808≤n) (h1:n≤9223372036854775807) (w:World) (he:Env w) :
  Calls Tryz.prog 30 #[.int .i64 n] w fun e w'=>e=.returned (.string (itoaB n))∧Below w.heap.size w w':=by
 refine (Tryz.strconv_Itoa n h0 h1 w he.pow10).mono ?_
 rintro e w' ⟨he,k,os,rfl⟩
 exact ⟨he,below_grow⟩
theorem below_bytes {w:World} {c t:_}:Below w.heap.size w (Lib.bytesWorld w c t):=by
 unfold Lib.bytesWorld
 refine Below.trans (b:=w.drew.alloc (.cells (Lib.bytesCells w c t) c)) ((Below.refl _ _).drew.alloc (Nat.le_refl _) _) ⟨rfl,rfl,rfl,?_,fun j hj=>?_⟩
 ·simp [World.freeze]
 ·simp only [World.freeze]
  rw [if_neg (by omega)]
  simp only [Array.getElem?_modify]
  rw [if_neg (by omega)]
end Go.Proofs.YtdfenhjibnfdeaaGreatDoor

namespace Go.Proofs.YtdfenhjibnfdeaaGreatDoor
open Go
def blankC (c:UInt8):Bool:=decide (c.toNat=32∨c.toNat=9∨c.toNat=10)
def symC (c:UInt8):Bool:=([59,44,46,58,40,41,123,125,91,93,61,60,62,47,45]:List UInt8).contains c
def spanN (p:UInt8→Bool):List UInt8→Nat
 |[]=>0
 |c :: r=>if p c then spanN p r+1 else 0
def unqL:List UInt8→Option (List UInt8 × Nat)
 |[]=>none
 |c :: r =>
  if c.toNat=34 then some ([],1) else if c.toNat=10 then none else if c.toNat=92 then
   match r with
   |[]=>none
   |d :: q=>if d.toNat=92 then (unqL q).map fun x=>(92 :: x.1,x.2+2) else if d.toNat=34 then (unqL q).map fun x=>(34 :: x.1,x.2+2)
    else if d.toNat=110 then (unqL q).map fun x=>(10 :: x.1,x.2+2) else none
  else (unqL r).map fun x=>(c :: x.1,x.2+1)
theorem unq_end {c:UInt8} (r:List UInt8) (h:c.toNat=34):unqL (c :: r)=some ([],1):=by rw [unqL.eq_def];simp only [if_pos h]
theorem unq_line {c:UInt8} (r:List UInt8) (h:c.toNat=10):unqL (c :: r)=none:=by rw [unqL.eq_def];simp only [if_pos h,if_neg (show ¬c.toNat=34 by omega)]
theorem unq_one {c:UInt8} (r:List UInt8) (h1:¬c.toNat=34) (h2:¬c.toNat=10) (h3:¬c.toNat=92):unqL (c :: r)=(unqL r).map fun x=>(c :: x.1,x.2+1):=by rw [unqL.eq_def];simp only [if_neg h1,if_neg h2,if_neg h3]
theorem unq_bs {c:UInt8} (h:c.toNat=92):unqL [c]=none:=by rw [unqL.eq_def];simp only [if_pos h,if_neg (show ¬c.toNat=34 by omega),if_neg (show ¬c.toNat=10 by omega)]
theorem unq_esc {c d:UInt8} (q:List UInt8) (h:c.toNat=92):unqL (c :: d :: q)=if d.toNat=92 then (unqL q).map fun x=>(92 :: x.1,x.2+2) else if d.toNat=34 then (unqL q).map fun x=>(34 :: x.1,x.2+2)
    else if d.toNat=110 then (unqL q).map fun x=>(10 :: x.1,x.2+2) else none:=by
 rw [unqL.eq_def];simp only [if_pos h,if_neg (show ¬c.toNat=34 by omega),if_neg (show ¬c.toNat=10 by omega)]
structure TokD where
 kind:Int
 text:ByteArray
 off:Nat
 deriving DecidableEq
structure FndD where
 tok:TokD
 err:Int
 deriving DecidableEq
def bytesOf (l:List UInt8):ByteArray:=⟨l.toArray⟩
def scan1:List UInt8→Nat × Option (Int × ByteArray × Int)
 |[]=>(0,none)
 |c :: r =>
  if blankC c then (1,none)
  else if c.toNat=35 then (spanN (fun d=>decide (d.toNat≠10)) (c :: r),none)
  else if letterC c then let n:=spanN wordC (c :: r);(n,some (1,bytesOf ((c :: r).take n),if 24<n then 2 else 0))
  else if digitC c then
   let n:=spanN digitC (c :: r)
   (n,some (2,bytesOf ((c :: r).take n),if 7<n∨(((c :: r).drop n).head?.elim false fun d=>letterC d || decide (d.toNat=95))=true then 4 else 0))
  else if c.toNat=34 then
   match unqL r with
   |some (s,n)=>(n+1,some (3,bytesOf s,0))
   |none=>(0,some (0,⟨#[]⟩,3))
  else if symC c then (1,some (4,bytesOf [c],0))
  else (0,some (0,⟨#[]⟩,3))
def toks:Nat→Nat→List UInt8→List FndD
 |0,_,_=>[]
 |_,_,[]=>[]
 |f+1,at',c :: r =>
  match scan1 (c :: r) with
  |(n,none)=>toks f (at'+n) ((c :: r).drop n)
  |(n,some (k,t,e))=>⟨⟨k,t,at'⟩,e⟩ :: if e=0 then toks f (at'+n) ((c :: r).drop n) else []
def toksB (s:ByteArray):List FndD:=toks s.size 0 s.data.toList
def lexF:List TokD→List FndD→List TokD × Int × Int
 |acc,[]=>(acc,0,0)
 |acc,f :: r=>if f.err≠0 then ([],f.err,f.tok.off) else if acc.length=5000 then ([],2,f.tok.off) else lexF (acc++[f.tok]) r
def lexP (s:ByteArray):List TokD × Int × Int:=if 20000<s.size then ([],2,-1) else lexF [] (toksB s)
end Go.Proofs.YtdfenhjibnfdeaaGreatDoor

namespace Go.Proofs.YtdfenhjibnfdeaaGreatDoor
open Go
def escC (c:UInt8):List UInt8:=if c.toNat=10 then [92,110] else if c.toNat=34∨c.toNat=92 then [92,c] else [c]
def quoteL (l:List UInt8):List UInt8:=34 :: l.flatMap escC++[34]
def lstB (s:ByteArray):List UInt8:=s.data.toList
end Go.Proofs.YtdfenhjibnfdeaaGreatDoor

namespace Go.Proofs.YtdfenhjibnfdeaaGreatDoor
open Go
inductive CondD where
 |mk (op:Int) (key val:ByteArray) (n:Int) (kids:List CondD)
def CondD.op:CondD→Int
 |.mk o _ _ _ _=>o
def CondD.key:CondD→ByteArray
 |.mk _ k _ _ _=>k
def CondD.val:CondD→ByteArray
 |.mk _ _ v _ _=>v
def CondD.n:CondD→Int
 |.mk _ _ _ n _=>n
def CondD.kids:CondD→List CondD
 |.mk _ _ _ _ ks=>ks
def wAlways:ByteArray:=⟨#[97,108,119,97,121,115]⟩
def wAnd:ByteArray:=⟨#[97,110,100]⟩
def wNot:ByteArray:=⟨#[110,111,116]⟩
def wOr:ByteArray:=⟨#[111,114]⟩
def wWhere:ByteArray:=⟨#[119,104,101,114,101]⟩
def wAll:ByteArray:=⟨#[97,108,108]⟩
def wInside:ByteArray:=⟨#[105,110,115,105,100,101]⟩
def wAlong:ByteArray:=⟨#[97,108,111,110,103]⟩
def wNearest:ByteArray:=⟨#[110,101,97,114,101,115,116]⟩
def wReach:ByteArray:=⟨#[114,101,97,99,104]⟩
def wCount:ByteArray:=⟨#[99,111,117,110,116]⟩
def wBy:ByteArray:=⟨#[98,121]⟩
def wTo:ByteArray:=⟨#[116,111]⟩
def wIn:ByteArray:=⟨#[105,110]⟩
def wAt:ByteArray:=⟨#[97,116]⟩
def wAny:ByteArray:=⟨#[97,110,121]⟩
def wNode:ByteArray:=⟨#[110,111,100,101]⟩
def wWay:ByteArray:=⟨#[119,97,121]⟩
def wArea:ByteArray:=⟨#[97,114,101,97]⟩
def wRoute:ByteArray:=⟨#[114,111,117,116,101]⟩
def wTurn:ByteArray:=⟨#[116,117,114,110]⟩
def wOpen:ByteArray:=⟨#[40]⟩
def wClose:ByteArray:=⟨#[41]⟩
def wIs:ByteArray:=⟨#[61]⟩
def wMore:ByteArray:=⟨#[62]⟩
def resB (s:ByteArray):Bool:=decide (s=wAlways∨s=wAnd∨s=wNot∨s=wOr∨s=wWhere)
def keyB (s:ByteArray):Bool:=nameB s && !resB s
def kindsW:List ByteArray:=[wAny,wNode,wWay,wArea,wRoute,wTurn]
def emptyB:ByteArray:=⟨#[]⟩
def nodeB (o:Int) (k v:ByteArray) (n:Int) (K:Nat):Bool :=
 if o=1 then decide (k.size=0) && decide (v.size=0) && decide (n=0) && decide (K=0)
 else if o=2 then keyB k && decide (v.size=0) && decide (n=0) && decide (K=0)
 else if o=3 then keyB k && decide (0<v.size) && decide (v.size≤200) && decide (n=0) && decide (K=0)
 else if o=7 then keyB k && decide (v.size=0) && decide (0≤n) && decide (n≤9999999) && decide (K=0)
 else if o=4 then decide (k.size=0) && decide (v.size=0) && decide (n=0) && decide (K=1)
 else if o=5∨o=6 then decide (k.size=0) && decide (v.size=0) && decide (n=0) && decide (1<K)
 else false
def nodeOK (c:CondD):Bool:=nodeB c.op c.key c.val c.n c.kids.length
mutual
def cnodes:CondD→Nat
 |.mk _ _ _ _ ks=>cnodesL ks+1
def cnodesL:List CondD→Nat
 |[]=>0
 |c :: r=>cnodes c+cnodesL r
end
mutual
def callC (p:CondD→Bool):CondD→Bool
 |.mk o k v n ks=>p (.mk o k v n ks) && callL p ks
def callL (p:CondD→Bool):List CondD→Bool
 |[]=>true
 |c :: r=>callC p c && callL p r
end
def validC (c:CondD):Bool:=decide (cnodes c≤60) && callC nodeOK c
def getB (key:ByteArray):List TagD→Option ByteArray
 |[]=>none
 |t :: l=>if t.key=key then some t.val else getB key l
def numS (s:ByteArray):Option Int:=match Lib.atoiAll s.data.toList with
 |.ok v=>some v
 |_=>none
def notDig (x:Nat):Bool:=decide (x<48) || decide (57<x)
def digsB (s:ByteArray):Bool:=!decide (0≤Lib.idxFunc notDig true s)
def moreT (s:ByteArray) (n:Int):Bool:=digsB s && decide (s.size≤7) && (numS s).any fun v=>decide (n<v)
mutual
def holdsC (l:List TagD):CondD→Bool
 |.mk o k v n ks =>
  if o=2 then (getB k l).isSome
  else if o=3 then decide (getB k l=some v)
  else if o=7 then (getB k l).any fun s=>moreT s n
  else if o=4 then !allK l ks
  else if o=5 then allK l ks
  else if o=6 then anyK l ks
  else true
def allK (l:List TagD):List CondD→Bool
 |[]=>true
 |c :: r=>holdsC l c && allK l r
def anyK (l:List TagD):List CondD→Bool
 |[]=>false
 |c :: r=>holdsC l c || anyK l r
end
structure QryD where
 ask:Int
 kind:Int
 wher:CondD
 id:ByteArray
 n:Int
 x:Int
 y:Int
 key:ByteArray
 prof:ByteArray
 minute:Int
def validQ (q:QryD):Bool :=
 decide (0≤q.kind∧q.kind<6) && validC q.wher &&
  (if q.ask=1 then decide (q.id=emptyB∧q.n=0∧q.x=0∧q.y=0∧q.key=emptyB∧q.prof=emptyB∧q.minute=0)
  else if q.ask=2 then nameB q.id && decide (q.n=0∧q.x=0∧q.y=0∧q.key=emptyB∧q.prof=emptyB∧q.minute=0)
  else if q.ask=3 then nameB q.id && decide (0≤q.n∧q.n≤1048576∧q.x=0∧q.y=0∧q.key=emptyB∧q.prof=emptyB∧q.minute=0)
  else if q.ask=4 then decide (1≤q.n∧q.n≤10000∧0≤q.x∧q.x≤1048575∧0≤q.y∧q.y≤1048575) && decide (q.id=emptyB∧q.key=emptyB∧q.prof=emptyB∧q.minute=0)
  else if q.ask=5 then nameB q.id && decide (0≤q.n∧q.n≤10080) && nameB q.prof && decide (0≤q.minute∧q.minute≤9999999∧q.x=0∧q.y=0∧q.key=emptyB)
  else if q.ask=6 then nameB q.key && decide (q.id=emptyB∧q.n=0∧q.x=0∧q.y=0∧q.prof=emptyB∧q.minute=0)
  else false)
inductive PR (α:Type) where
 |ok (a:α) (rest:List TokD)
 |bad (err:Int) (off:Nat)
def PR.bind {α β:Type} (x:PR α) (f:α→List TokD→PR β):PR β:=match x with
 |.ok a r=>f a r
 |.bad e o=>.bad e o
def failP {α:Type} (fin:Nat) (e:Int):List TokD→PR α
 |[]=>.bad 6 fin
 |t :: _=>.bad e t.off
def isP (s:ByteArray):List TokD→Bool
 |[]=>false
 |t :: _=>decide (t.text=s) && decide (t.kind=1∨t.kind=4)
def wantP (fin:Nat) (s:ByteArray) (ts:List TokD):PR Unit:=if isP s ts then .ok () ts.tail else failP fin 5 ts
def nextP (fin:Nat) (kind:Int) (check:ByteArray→Bool) (ts:List TokD):PR ByteArray:=match ts with
 |[]=>.bad 6 fin
 |t :: r=>if t.kind=kind then (if check t.text then .ok t.text r else .bad 10 t.off) else .bad 5 t.off
def nameP (fin:Nat) (ts:List TokD):PR ByteArray:=nextP fin 1 nameB ts
def atoiN (s:ByteArray):Int:=(numS s).getD 0
def numP (fin:Nat) (low high:Int) (ts:List TokD):PR Int:=(nextP fin 2 (fun s=>decide (low≤atoiN s∧atoiN s≤high)) ts).bind fun s r=>.ok (atoiN s) r
def moreP (one:List TokD→PR CondD) (word:ByteArray):Nat→List CondD→List TokD→PR (List CondD)
 |0,acc,ts=>.ok acc ts
 |k+1,acc,ts=>if isP word ts then (one ts.tail).bind fun c r=>moreP one word k (acc++[c]) r else .ok acc ts
def mkP (op:Int):List CondD→CondD
 |[c]=>c
 |l=>.mk op emptyB emptyB 0 l
def seriesP (one:List TokD→PR CondD) (word:ByteArray) (op:Int) (ts:List TokD):PR CondD :=
 (one ts).bind fun c r=>(moreP one word r.length [c] r).bind fun l r=>.ok (mkP op l) r
def notP (fin:Nat):Nat→List TokD→PR CondD
 |0,ts=>failP fin 5 ts
 |f+1,ts =>
  if isP wNot ts then (notP fin f ts.tail).bind fun c r=>.ok (.mk 4 emptyB emptyB 0 [c]) r
  else if isP wOpen ts then (seriesP (seriesP (notP fin f) wAnd 5) wOr 6 ts.tail).bind fun c r=>(wantP fin wClose r).bind fun _ r=>.ok c r
  else if isP wAlways ts then .ok (.mk 1 emptyB emptyB 0 []) ts.tail
  else if (ts.head?.any fun t=>resB t.text) then failP fin 5 ts
  else (nameP fin ts).bind fun k r =>
   if isP wIs r then (nextP fin 3 (fun s=>decide (s≠emptyB∧s.size≤200)) r.tail).bind fun v r=>.ok (.mk 3 k v 0 []) r
   else if isP wMore r then (numP fin 0 9999999 r.tail).bind fun n r=>.ok (.mk 7 k emptyB n []) r
   else .ok (.mk 2 k emptyB 0 []) r
def andP (fin f:Nat):List TokD→PR CondD:=seriesP (notP fin f) wAnd 5
def condP (fin f:Nat):List TokD→PR CondD:=seriesP (andP fin f) wOr 6
def allW:CondD:=.mk 1 emptyB emptyB 0 []
def askP (fin:Nat) (ts:List TokD):PR QryD:=match ts with
 |[]=>.bad 6 fin
 |t :: r=>if t.kind=1 then
   let q:QryD:=⟨0,0,.mk 0 emptyB emptyB 0 [],emptyB,0,0,0,emptyB,emptyB,0⟩
   if t.text=wAll then .ok { q with ask:=1 } r
   else if t.text=wInside then (nameP fin r).bind fun i r=>.ok { q with ask:=2,id:=i } r
   else if t.text=wAlong then (nameP fin r).bind fun i r=>(wantP fin wBy r).bind fun _ r=>(numP fin 0 1048576 r).bind fun n r=>.ok { q with ask:=3,id:=i,n:=n } r
   else if t.text=wNearest then (numP fin 1 10000 r).bind fun n r=>(wantP fin wTo r).bind fun _ r=>(numP fin 0 1048575 r).bind fun x r=>(numP fin 0 1048575 r).bind fun y r=>.ok { q with ask:=4,n:=n,x:=x,y:=y } r
   else if t.text=wReach then (nameP fin r).bind fun i r=>(wantP fin wIn r).bind fun _ r=>(numP fin 0 10080 r).bind fun n r=>(wantP fin wBy r).bind fun _ r=>(nameP fin r).bind fun p r=>(wantP fin wAt r).bind fun _ r=>(numP fin 0 9999999 r).bind fun m r=>.ok { q with ask:=5,id:=i,n:=n,prof:=p,minute:=m } r
   else if t.text=wCount then (nameP fin r).bind fun k r=>.ok { q with ask:=6,key:=k } r
   else .bad 5 t.off
  else .bad 5 t.off
def wordP:List ByteArray→List TokD→Option Nat
 |[],_=>none
 |w :: l,ts=>if isP w ts then some 0 else (wordP l ts).map (·+1)
def queryP (fin:Nat) (ts:List TokD):PR QryD :=
 (askP fin ts).bind fun q r=>match wordP kindsW r with
  |none=>failP fin 5 r
  |some k =>
   let r:=r.tail
   let q:={ q with kind:=(k:Int),wher:=allW }
   if isP wWhere r then (condP fin r.length r.tail).bind fun c r=>if r=[] then .ok { q with wher:=c } r else failP fin 5 r
   else if r=[] then .ok q r else failP fin 5 r
end Go.Proofs.YtdfenhjibnfdeaaGreatDoor
