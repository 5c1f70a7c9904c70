/-  -/
import Derived.Test.YtdfenhjibnfdeaaGreatDoorRows
import Derived.Test.YtdfenhjibnfdeaaGreatDoorQyAb
import Derived.Test.YtdfenhjibnfdeaaGreatDoorQyAc
namespace Go.Proofs.YtdfenhjibnfdeaaGreatDoor
open Go.RowKit
def ib1 (k:Nat):Int:=Lib.indexByte (⟨#[32,9,10]⟩:ByteArray).data.toList k.toUInt8
def ib2 (k:Nat):Int:=Lib.indexByte (⟨#[59,44,46,58,40,41,123,125,91,93,61,60,62,47,45]⟩:ByteArray).data.toList k.toUInt8
theorem ib1_any (k:Nat) (w:World):Calls Tryz.prog 89 #[.string ⟨#[32,9,10]⟩,.int .u8 k] w fun e w'=>e=.returned (.int .i64 (ib1 k))∧w=w' :=
 (Tryz.strings_IndexByte _ _ w).mono fun _ _ h=>⟨h.1,h.2.symm⟩
theorem ib2_any (k:Nat) (w:World):Calls Tryz.prog 89 #[.string ⟨#[59,44,46,58,40,41,123,125,91,93,61,60,62,47,45]⟩,.int .u8 k] w fun e w'=>e=.returned (.int .i64 (ib2 k))∧w=w' :=
 (Tryz.strings_IndexByte _ _ w).mono fun _ _ h=>⟨h.1,h.2.symm⟩
def cls0 (k:Nat):Int :=
 if 97≤k∧k≤122∨65≤k∧k≤90 then 3 else if 48≤k∧k≤57 then 4 else if 0≤ib1 k then 1 else if 0≤ib2 k then 6 else 0
def tabU (f:Nat→Int):Array Value:=((List.range 256).map fun i=>Value.int .u8 (f i)).toArray
def cutF (f:Nat→Int) (k:Nat):Nat→Int:=fun i=>if i<k then f i else 0
def putF (f:Nat→Int) (k:Nat) (v:Int):Nat→Int:=fun i=>if i=k then v else f i
theorem tabU_size (f:Nat→Int):(tabU f).size=256:=by simp [tabU]
theorem tabU_get (f:Nat→Int) (k:Nat) (h:k<256):(tabU f)[k]?=some (.int .u8 (f k)):=by simp [tabU,h]
theorem tabU_set (f:Nat→Int) (k:Nat) (v:Int):(tabU f).setIfInBounds k (.int .u8 v)=tabU (putF f k v):=by
 apply Array.ext
 ·simp [tabU]
 ·intro i h1 h2
  simp only [tabU,List.setIfInBounds_toArray,List.getElem_toArray,List.getElem_set,List.getElem_map,List.getElem_range,putF]
  by_cases h:i=k
  ·subst h;simp
  ·rw [if_neg (fun e=>h e.symm),if_neg h]
theorem put_cut (f:Nat→Int) (k:Nat):putF (cutF f k) k (f k)=cutF f (k+1):=by
 funext i
 simp only [putF,cutF]
 by_cases h:i=k
 ·subst h;simp
 ·rw [if_neg h]
  by_cases h2:i<k
  ·rw [if_pos h2,if_pos (by omega)]
  ·rw [if_neg h2,if_neg (by omega)]
theorem skip_cut (f:Nat→Int) (k:Nat) (h:f k=0):cutF f k=cutF f (k+1):=by
 rw [←put_cut,h]
 funext i
 simp only [putF,cutF]
 by_cases h:i=k
 ·subst h;simp
 ·rw [if_neg h]
theorem tabU_one (f:Nat→Int):(tabU f).all (·.oneCell')=true:=by simp [tabU,Value.oneCell']
set_option maxRecDepth 100000 in
theorem tabU_zeros:tabU (fun _=>0)=Tryz.zeroCells106:=by rfl
set_option maxRecDepth 100000 in
theorem tabU_zero:tabU (cutF cls0 0)=Tryz.zeroCells106:=tabU_zeros
def clsF:Nat→Int:=putF (putF (putF (cutF cls0 256) 35 2) 95 5) 34 7
set_option maxRecDepth 100000 in
set_option maxHeartbeats 2000000 in
theorem classes_tab (w:World) :
  Calls Tryz.prog 61 #[] w fun e w'=>e=.returned (.agg (tabU clsF))∧Below w.heap.size w w':=by
 have hz:=Lib.hid tabU_zero
 go_enter Tryz.func61,Tryz.ntmps61
 go_wp2
 go_loopw [4] (fun i wr=>∃k:Nat,k≤256∧i=.int .i64 k∧wr=(w.alloc (.cells Tryz.zeroCells106 106)).alloc (.cells (tabU (cutF cls0 k)) 106)) (fun i _=>256 - (intOf i).toNat)
 case atStart=>exact ⟨0,by omega,rfl,by rw [hz.out]⟩
 case round =>
  obtain ⟨k,hk,rfl,rfl⟩:=hrel
  by_cases hlt:k<256
  ·have hs:=tabU_size (cutF cls0 k)
   have hg:(tabU (cutF cls0 k))[k]?=some (.int .u8 0):=by rw [tabU_get _ _ hlt];simp [cutF]
   by_cases h1:97≤k∧k≤122
   ·obtain ⟨a1,a2⟩:=h1
    have HC:=Lib.hid (show (tabU (cutF cls0 k)).setIfInBounds k (.int .u8 3)=tabU (cutF cls0 (k+1)) by rw [tabU_set,←put_cut];congr 2;rw [cls0,if_pos (by omega)])
    go_wp2_with (first | (go_at_call 89;refine (ib1_any k _).mono ?_;rintro e w' ⟨rfl,rfl⟩) | (go_at_call 89;refine (ib2_any k _).mono ?_;rintro e w' ⟨rfl,rfl⟩))
    all_goals
     go_roundw
     case rel=>exact ⟨k+1,by omega,by go_num,by rw [←HC.out]⟩
     case measure=>simp [intOf];omega
   by_cases h2:65≤k∧k≤90
   ·obtain ⟨a1,a2⟩:=h2
    have HC:=Lib.hid (show (tabU (cutF cls0 k)).setIfInBounds k (.int .u8 3)=tabU (cutF cls0 (k+1)) by rw [tabU_set,←put_cut];congr 2;rw [cls0,if_pos (by omega)])
    go_wp2_with (first | (go_at_call 89;refine (ib1_any k _).mono ?_;rintro e w' ⟨rfl,rfl⟩) | (go_at_call 89;refine (ib2_any k _).mono ?_;rintro e w' ⟨rfl,rfl⟩))
    all_goals
     go_roundw
     case rel=>exact ⟨k+1,by omega,by go_num,by rw [←HC.out]⟩
     case measure=>simp [intOf];omega
   by_cases h3:48≤k∧k≤57
   ·obtain ⟨a1,a2⟩:=h3
    have HC:=Lib.hid (show (tabU (cutF cls0 k)).setIfInBounds k (.int .u8 4)=tabU (cutF cls0 (k+1)) by rw [tabU_set,←put_cut];congr 2;rw [cls0,if_neg (by omega),if_pos (by omega)])
    clear h1 h2
    go_wp2_with (first | (go_at_call 89;refine (ib1_any k _).mono ?_;rintro e w' ⟨rfl,rfl⟩) | (go_at_call 89;refine (ib2_any k _).mono ?_;rintro e w' ⟨rfl,rfl⟩))
    all_goals
     go_roundw
     case rel=>exact ⟨k+1,by omega,by go_num,by rw [←HC.out]⟩
     case measure=>simp [intOf];omega
   have hl:¬(97≤k∧k≤122∨65≤k∧k≤90):=by omega
   by_cases h4:0≤ib1 k
   ·have HC:=Lib.hid (show (tabU (cutF cls0 k)).setIfInBounds k (.int .u8 1)=tabU (cutF cls0 (k+1)) by rw [tabU_set,←put_cut];congr 2;rw [cls0,if_neg hl,if_neg h3,if_pos h4])
    clear hl
    go_wp2_with (first | (go_at_call 89;refine (ib1_any k _).mono ?_;rintro e w' ⟨rfl,rfl⟩) | (go_at_call 89;refine (ib2_any k _).mono ?_;rintro e w' ⟨rfl,rfl⟩))
    all_goals
     go_roundw
     case rel=>exact ⟨k+1,by omega,by go_num,by rw [←HC.out]⟩
     case measure=>simp [intOf];omega
   have h4':ib1 k<0:=by omega
   by_cases h5:0≤ib2 k
   ·have HC:=Lib.hid (show (tabU (cutF cls0 k)).setIfInBounds k (.int .u8 6)=tabU (cutF cls0 (k+1)) by rw [tabU_set,←put_cut];congr 2;rw [cls0,if_neg hl,if_neg h3,if_neg h4,if_pos h5])
    clear hl
    go_wp2_with (first | (go_at_call 89;refine (ib1_any k _).mono ?_;rintro e w' ⟨rfl,rfl⟩) | (go_at_call 89;refine (ib2_any k _).mono ?_;rintro e w' ⟨rfl,rfl⟩))
    all_goals
     go_roundw
     case rel=>exact ⟨k+1,by omega,by go_num,by rw [←HC.out]⟩
     case measure=>simp [intOf];omega
   have h5':ib2 k<0:=by omega
   have HC:=Lib.hid (show tabU (cutF cls0 k)=tabU (cutF cls0 (k+1)) by rw [skip_cut];rw [cls0,if_neg hl,if_neg h3,if_neg h4,if_neg h5])
   clear hl
   go_wp2_with (first | (go_at_call 89;refine (ib1_any k _).mono ?_;rintro e w' ⟨rfl,rfl⟩) | (go_at_call 89;refine (ib2_any k _).mono ?_;rintro e w' ⟨rfl,rfl⟩))
   all_goals
    go_roundw
    case rel=>exact ⟨k+1,by omega,by go_num,by rw [←HC.out]⟩
    case measure=>simp [intOf];omega
  ·obtain rfl:k=256:=by omega
   clear hlt hk
   have g1:(tabU (cutF cls0 256))[35]?=some (.int .u8 (cutF cls0 256 35)):=tabU_get _ _ (by omega)
   have hs:=tabU_size (cutF cls0 256)
   have g2:((tabU (cutF cls0 256)).setIfInBounds 35 (.int .u8 2))[95]?=some (.int .u8 (putF (cutF cls0 256) 35 2 95)):=by rw [tabU_set];exact tabU_get _ _ (by omega)
   have g3:(((tabU (cutF cls0 256)).setIfInBounds 35 (.int .u8 2)).setIfInBounds 95 (.int .u8 5))[34]?=some (.int .u8 (putF (putF (cutF cls0 256) 35 2) 95 5 34)):=by rw [tabU_set,tabU_set];exact tabU_get _ _ (by omega)
   have E3:=Lib.hid (show ((((tabU (cutF cls0 256)).setIfInBounds 35 (.int .u8 2)).setIfInBounds 95 (.int .u8 5)).setIfInBounds 34 (.int .u8 7))=tabU clsF by rw [tabU_set,tabU_set,tabU_set];rfl)
   have hsz:(Tryz.prog.info? 106).map (·.size)=some ((((tabU (cutF cls0 256)).setIfInBounds 35 (.int .u8 2)).setIfInBounds 95 (.int .u8 5)).setIfInBounds 34 (.int .u8 7)).size:=by rw [E3.out,tabU_size];kernel_rfl
   have hz2:Tryz.zeroCells106.size=((((tabU (cutF cls0 256)).setIfInBounds 35 (.int .u8 2)).setIfInBounds 95 (.int .u8 5)).setIfInBounds 34 (.int .u8 7)).size:=by rw [E3.out,←hz.out,tabU_size,tabU_size]
   have h1:((((tabU (cutF cls0 256)).setIfInBounds 35 (.int .u8 2)).setIfInBounds 95 (.int .u8 5)).setIfInBounds 34 (.int .u8 7)).all (·.oneCell')=true:=by rw [E3.out];exact tabU_one _
   have HS:=Lib.hid hsz
   have H2:=Lib.hid hz2
   have H1:=Lib.hid h1
   clear hsz hz2 h1
   go_wp2_with (first
    |(refine wpList_load_row rfl 106 (.tmp 1) rfl (w.heap.size+1) rfl 106 ((((tabU (cutF cls0 256)).setIfInBounds 35 (.int .u8 2)).setIfInBounds 95 (.int .u8 5)).setIfInBounds 34 (.int .u8 7)) (0,0) _ (heap_alloc2_new w _ _) Tryz.underlying106 rfl HS.out ?_)
    |(refine wpList_store_row rfl 106 (.tmp 0) (.tmp 49) rfl w.heap.size ((((tabU (cutF cls0 256)).setIfInBounds 35 (.int .u8 2)).setIfInBounds 95 (.int .u8 5)).setIfInBounds 34 (.int .u8 7)) rfl rfl 106 Tryz.zeroCells106 (heap_alloc2_old w _ _) HS.out H2.out H1.out ?_))
   rw [←E3.out]
   refine bodyPost_ret (v:=.agg ((((tabU (cutF cls0 256)).setIfInBounds 35 (.int .u8 2)).setIfInBounds 95 (.int .u8 5)).setIfInBounds 34 (.int .u8 7))) ?_ rfl ⟨rfl,?_⟩
   ·exact results_cell_row (p:=0) rfl _ _ w.heap.size 106 ((((tabU (cutF cls0 256)).setIfInBounds 35 (.int .u8 2)).setIfInBounds 95 (.int .u8 5)).setIfInBounds 34 (.int .u8 7)) (0,0) _ rfl (setRow_heap _ _ Tryz.zeroCells106 _ _ _ (heap_alloc2_old w _ _)) Tryz.underlying106 rfl HS.out
   ·exact below_setRow' (((Below.refl _ _).alloc (Nat.le_refl _) _).alloc (by simp) _) (Nat.le_refl _) _
end Go.Proofs.YtdfenhjibnfdeaaGreatDoor
