/-     -/
import Derived.Test.YtdfenhjibnfdeaaDoorOmAl
import Derived.Lib.LazyBuf
import Derived.Laws.BitsAllLaws
import Derived.Laws.IdiomStrings
namespace Go.Proofs.YtdfenhjibnfdeaaDoor
open Go.RowKit Go.Shelf
def dgF (i:Nat):Int:=if i<10 then 48+i else 87+i
def tabH (f:Nat→Int):Array Value:=((List.range 16).map fun i=>Value.int .u8 (f i)).toArray
theorem tabH_size (f:Nat→Int):(tabH f).size=16:=by simp [tabH]
theorem tabH_get (f:Nat→Int) (k:Nat) (h:k<16):(tabH f)[k]?=some (.int .u8 (f k)):=by simp [tabH,h]
theorem tabH_set (f:Nat→Int) (k:Nat) (v:Int):(tabH f).setIfInBounds k (.int .u8 v)=tabH (putF f k v):=by
 apply Array.ext
 ·simp [tabH]
 ·intro i h1 h2
  simp only [tabH,List.setIfInBounds_toArray,List.getElem_toArray,List.getElem_set,List.getElem_map,List.getElem_range,putF]
  by_cases h:i=k
  ·subst h;simp
  ·rw [if_neg (fun e=>h e.symm),if_neg h]
abbrev zc16:Array Value:=#[.int .u8 0,.int .u8 0,.int .u8 0,.int .u8 0,.int .u8 0,.int .u8 0,.int .u8 0,.int .u8 0,.int .u8 0,.int .u8 0,.int .u8 0,.int .u8 0,.int .u8 0,.int .u8 0,.int .u8 0,.int .u8 0]
theorem tabH_zero (f:Nat→Int):tabH (cutF f 0)=(zc16:Array Value):=by
 have:cutF f 0=fun _=>0:=by funext i;simp [cutF]
 rw [this];rfl
theorem tabH_one (f:Nat→Int):(tabH f).all (·.oneCell')=true:=by simp [tabH,Value.oneCell']
set_option maxRecDepth 100000 in
set_option maxHeartbeats 2000000 in
theorem digits_any (w:World) :
  Calls Tryd.prog 46 #[] w fun e w'=>e=.returned (.agg (tabH dgF))∧Below w.heap.size w w':=by
 have hz:=Lib.hid (tabH_zero dgF)
 go_enter Tryd.func46,Tryd.ntmps46
 go_wp2
 go_loopw [3] (fun i wr=>∃k:Nat,k≤16∧i=.int .i64 k∧wr=(w.alloc (.cells #[.int .u8 0,.int .u8 0,.int .u8 0,.int .u8 0,.int .u8 0,.int .u8 0,.int .u8 0,.int .u8 0,.int .u8 0,.int .u8 0,.int .u8 0,.int .u8 0,.int .u8 0,.int .u8 0,.int .u8 0,.int .u8 0] 96)).alloc (.cells (tabH (cutF dgF k)) 96)) (fun i _=>16 - (intOf i).toNat)
 case atStart=>exact ⟨0,by omega,rfl,by rw [hz.out]⟩
 case round =>
  obtain ⟨k,hk,rfl,rfl⟩:=hrel
  by_cases hlt:k<16
  ·have hs:=tabH_size (cutF dgF k)
   have hg:(tabH (cutF dgF k))[k]?=some (.int .u8 0):=by rw [tabH_get _ _ hlt];simp [cutF]
   by_cases h1:k<10
   ·have HC:=Lib.hid (show (tabH (cutF dgF k)).setIfInBounds k (.int .u8 (48+(k:Int)))=tabH (cutF dgF (k+1)) by rw [tabH_set,←put_cut];congr 2;rw [dgF,if_pos h1])
    have D:decide ((10:Int)≤(k:Int))=false:=by rw [decide_eq_false_iff_not];omega
    have w1:IntKind.i64.wrap (48+(k:Int))=48+(k:Int):=IntWalk.i64_in _ (by omega)
    have w2:IntKind.u8.wrap (48+(k:Int))=48+(k:Int):=by rw [IntKind.wrap_u8'];omega
    go_wp2
    go_roundw
    case rel=>exact ⟨k+1,by omega,by go_num,by rw [←HC.out]⟩
    case measure=>simp [intOf];omega
   ·have hg2:((tabH (cutF dgF k)).setIfInBounds k (.int .u8 (48+(k:Int))))[k]?=some (.int .u8 (48+(k:Int))):=by rw [tabH_set,tabH_get _ _ hlt];simp [putF]
    have HC:=Lib.hid (show (tabH (cutF dgF k)).setIfInBounds k (.int .u8 (97+(k:Int) - 10))=tabH (cutF dgF (k+1)) by
     rw [tabH_set,←put_cut];congr 2;rw [dgF,if_neg h1];omega)
    have D:decide ((10:Int)≤(k:Int))=true:=by rw [decide_eq_true_eq];omega
    have w1:IntKind.i64.wrap (48+(k:Int))=48+(k:Int):=IntWalk.i64_in _ (by omega)
    have w2:IntKind.u8.wrap (48+(k:Int))=48+(k:Int):=by rw [IntKind.wrap_u8'];omega
    have w3:IntKind.i64.wrap (97+(k:Int))=97+(k:Int):=IntWalk.i64_in _ (by omega)
    have w4:IntKind.i64.wrap (97+(k:Int) - 10)=97+(k:Int) - 10:=IntWalk.i64_in _ (by omega)
    have w5:IntKind.u8.wrap (97+(k:Int) - 10)=97+(k:Int) - 10:=by rw [IntKind.wrap_u8'];omega
    go_wp2
    go_roundw
    case rel=>exact ⟨k+1,by omega,by go_num,by rw [←HC.out]⟩
    case measure=>simp [intOf];omega
  ·obtain rfl:k=16:=by omega
   have E3:=Lib.hid (show tabH (cutF dgF 16)=tabH dgF by
    unfold tabH
    congr 1)
   have HS:=Lib.hid (show (Tryd.prog.info? 96).map (·.size)=some (tabH (cutF dgF 16)).size by rw [tabH_size];kernel_rfl)
   have H2:=Lib.hid (show (zc16:Array Value).size=(tabH (cutF dgF 16)).size by rw [tabH_size];rfl)
   have H1:=Lib.hid (tabH_one (cutF dgF 16))
   clear hlt hk
   go_wp2_with (first
    |(refine wpList_load_row rfl 96 (.tmp 1) rfl (w.heap.size+1) rfl 96 (tabH (cutF dgF 16)) (0,0) _ (heap_alloc2_new w _ _) Tryd.underlying96 rfl HS.out ?_)
    |(refine wpList_store_row rfl 96 (.tmp 0) (.tmp 20) rfl w.heap.size (tabH (cutF dgF 16)) rfl rfl 96 zc16 (heap_alloc2_old w _ _) HS.out H2.out H1.out ?_))
   rw [←E3.out]
   refine bodyPost_ret (v:=.agg (tabH (cutF dgF 16))) ?_ rfl ⟨rfl,?_⟩
   ·exact results_cell_row (p:=0) rfl _ _ w.heap.size 96 (tabH (cutF dgF 16)) (0,0) _ rfl (setRow_heap _ _ zc16 _ _ _ (heap_alloc2_old w _ _)) Tryd.underlying96 rfl HS.out
   ·exact below_setRow' (((Below.refl _ _).alloc (Nat.le_refl _) _).alloc (by simp) _) (Nat.le_refl _) _
end Go.Proofs.YtdfenhjibnfdeaaDoor

namespace Go.Proofs.YtdfenhjibnfdeaaDoor
open Go.RowKit Go.Shelf
def byteAt (s:ByteArray) (i:Nat):Nat:=if h:i<s.size then s[i].toNat else 0
theorem byteAt_lt (s:ByteArray) (i:Nat):byteAt s i<256:=by
 unfold byteAt;split
 ·exact UInt8.toNat_lt _
 ·omega
def stepN (n b:Nat):Nat:=(n * 256 % 18446744073709551616) ||| b
theorem stepN_lt (n:Nat) {b:Nat} (h:b<256):stepN n b<18446744073709551616:=Nat.or_lt_two_pow (n:=64) (Nat.mod_lt _ (by decide)) (by omega)
def pk (s:ByteArray):Nat→Nat
 |0=>0
 |k+1=>stepN (pk s k) (byteAt s k)
theorem pk_lt (s:ByteArray) (k:Nat):pk s k<18446744073709551616:=by
 cases k with
 |zero=>simp [pk]
 |succ k=>exact stepN_lt _ (byteAt_lt s k)
abbrev zc8:Array Value:=#[.int .u8 0,.int .u8 0,.int .u8 0,.int .u8 0,.int .u8 0,.int .u8 0,.int .u8 0,.int .u8 0]
set_option maxRecDepth 100000 in
set_option maxHeartbeats 1000000 in
theorem take_any (s:ByteArray) (hs:s.size≤8) (Bs st base:Nat) (w:World) (hB:w.heap[Bs]?=some (.cells #[.int .u64 st] 45 (0,0))) (hst:st<18446744073709551616) (hb1:base≤Bs) (hb2:base≤w.heap.size) :
  Calls Tryd.prog 44 #[.string s,.pointer (some ⟨Bs,0,none⟩)] w fun e w'=>e=.returned (.tuple #[])∧w'.heap[Bs]?=some (.cells #[.int .u64 (mixN (st ^^^ pk s 8):Nat)] 45 (0,0))∧Below base w w':=by
 have hBl:=lt_of_block hB
 have HC:(Builtin.copy_ #[47,9] 3 #[.slice (some ⟨w.heap.size,0,none⟩) 8 8,.string s]).run Tryd.prog (w.alloc (.cells zc8 93))=.ok (goInt s.size) ((w.alloc (.cells zc8 93)).setCells w.heap.size 0 (s.data.toList.map fun x=>Value.int .u8 (x.toNat:Int))):=by
  refine run_copy_string _ _ _ _ 5 _ _ _ _ _ Tryd.underlying47 Tryd.sizeOf5 hs (fun j hj=>?_) (fun j hj=>frozen_of_row _ _ _ _ _ (row_new w _))
  rw [cell_of_row _ _ _ _ _ _ (row_new w _)]
  simp
  omega
 obtain ⟨W2,hW2⟩:∃z,z=(w.alloc (.cells zc8 93)).setCells w.heap.size 0 (s.data.toList.map fun x=>Value.int .u8 (x.toNat:Int)):=⟨_,rfl⟩
 have HR:=Lib.hid (show ∀i,i<8→W2.cell? ⟨w.heap.size,i,none⟩=some (.int .u8 (byteAt s i)) by
  intro i hi
  have h0:(w.alloc (.cells zc8 93)).rowIs w.heap.size 93 8 (fun _=>.int .u8 0):=⟨zc8,row_new w _,rfl,fun j hj=>by
   match j,hj with
   |0,_ | 1,_ | 2,_ | 3,_ | 4,_ | 5,_ | 6,_ | 7,_=>rfl⟩
  have h1:=rowIs_setCells (s.data.toList.map fun x=>Value.int .u8 (x.toNat:Int)) 0 _ _ h0
  rw [←hW2] at h1
  rw [h1.cell hi]
  congr 1
  simp only [Nat.zero_le,true_and,Nat.zero_add,List.length_map,Array.length_toList,Nat.sub_zero]
  unfold byteAt
  rw [show s.data.size=s.size from rfl]
  by_cases hl:i<s.size
  ·rw [dif_pos hl,if_pos hl]
   have e:s.data.toList[i]?=some s[i]:=by rw [List.getElem?_eq_getElem (by simpa using hl)];rfl
   rw [List.getElem?_map,e];rfl
  ·rw [dif_neg hl,if_neg hl];rfl)
 have hB2:W2.heap[Bs]?=some (.cells #[.int .u64 st] 45 (0,0)):=by
  rw [hW2]
  exact ((below_setCells (B:=w.heap.size) (Nat.le_refl _) _ _ _ ((Below.refl _ w).alloc (Nat.le_refl _) _)).block _ hBl).trans hB
 have hL2:Below base w W2:=by
  rw [hW2]
  exact below_setCells (by omega) _ _ _ ((Below.refl _ w).alloc (by omega) _)
 rw [←hW2] at HC
 have HBB:=Lib.hid hB2
 clear hB2 hW2
 go_enter Tryd.func44,Tryd.ntmps44
 go_wp2
 go_loop [4,9] (fun n i=>∃k:Nat,k≤8∧n=.int .u64 (pk s k:Nat)∧i=.int .i64 k) (fun _ i=>8 - (intOf i).toNat)
 case atStart=>exact ⟨0,by omega,rfl,rfl⟩
 case round =>
  clear HC
  obtain ⟨k,hk,rfl,rfl⟩:=hrel
  by_cases hlt:k<8
  ·have c0:=HR.out k hlt
   have hp:=pk_lt s k
   have hbb:=byteAt_lt s k
   have HP:=Lib.hid (show pk s (k+1)=stepN (pk s k) (byteAt s k) from rfl)
   obtain ⟨p,hpp⟩:∃z,z=pk s k:=⟨_,rfl⟩
   obtain ⟨b,hbq⟩:∃z,z=byteAt s k:=⟨_,rfl⟩
   rw [←hpp] at HP hp ⊢
   rw [←hbq] at HP hbb c0
   have w1:IntKind.u64.wrap ((p:Int) * 256)=((p * 256 % 18446744073709551616:Nat):Int):=by rw [IntKind.wrap_u64];omega
   have w2:IntKind.u64.wrap (b:Int)=(b:Int):=by rw [IntKind.wrap_u64];omega
   have w3:bits .or .u64 ((p * 256 % 18446744073709551616:Nat):Int) (b:Int)=((stepN p b:Nat):Int):=u64_or_nat _ _ (Nat.mod_lt _ (by decide)) (by omega)
   clear hpp hbq
   obtain ⟨q,hq⟩:∃z,z=p * 256 % 18446744073709551616:=⟨_,rfl⟩
   rw [←hq] at w1 w3
   clear hq hp
   go_wp2
   go_round
   case rel=>exact ⟨k+1,by omega,by rw [HP.out],by go_num⟩
   case measure=>simp [intOf];omega
  ·obtain rfl:k=8:=by omega
   have hp:=pk_lt s 8
   obtain ⟨p,hpp⟩:∃z,z=pk s 8:=⟨_,rfl⟩
   have HPP:=Lib.hid hpp
   rw [←hpp] at hp ⊢
   clear hpp
   have w3:bits .xor .u64 (st:Int) (p:Int)=((st ^^^ p:Nat):Int):=u64_xor_nat _ _ hst hp
   have hx:st ^^^ p<18446744073709551616:=Nat.xor_lt_two_pow (n:=64) hst hp
   obtain ⟨x,hxx⟩:∃z,z=st ^^^ p:=⟨_,rfl⟩
   have HXX:=Lib.hid hxx
   rw [←hxx] at w3 hx
   clear hxx hp hst
   have MX:=Lib.hid (fun W=>mix_any x hx W)
   clear hx
   obtain ⟨cz,c0⟩:=rk1 HBB.out
   have cf0:=frozen_of_row W2 _ 0 _ _ HBB.out
   go_wp2_with (go_at_call 45;refine (MX.out _).mono ?_;rintro e w' ⟨rfl,hww⟩;subst w')
   go_end0
   rw [←HPP.out,←HXX.out]
   refine ⟨rfl,?_,hL2.setCell (p:=⟨Bs,0,none⟩) hb1 _⟩
   have:=row_set (i:=0) (v:=.int .u64 (mixN x:Nat)) HBB.out
   simpa using this
end Go.Proofs.YtdfenhjibnfdeaaDoor

namespace Go.Proofs.YtdfenhjibnfdeaaDoor
open Go.RowKit Go.Shelf
def runs:Nat→ByteArray→Nat→Nat
 |0,_,_=>0
 |f+1,tx,st=>if 8≤tx.size then runs f (tx.extract 8 tx.size) (mixN (st ^^^ pk (tx.extract 0 8) 8)) else mixN (st ^^^ pk tx 8)
theorem runs_lt:∀(f:Nat) (tx:ByteArray) (st:Nat),runs f tx st<18446744073709551616
 |0,_,_=>by simp [runs]
 |f+1,tx,st=>by
  rw [runs];split
  ·exact runs_lt f _ _
  ·exact mixN_lt _
def nib (st i:Nat):Nat:=(st / 2 ^ (60 - 4 * i)) &&& 15
theorem nib_lt (st i:Nat):nib st i<16:=Nat.lt_of_le_of_lt Nat.and_le_right (by decide)
def hexF (st i:Nat):Int:=dgF (nib st i)
def hexL (st:Nat):List UInt8:=(List.range 16).map fun i=>(hexF st i).toNat.toUInt8
def st0 (s:ByteArray):Nat:=1181783497276652981 ^^^ s.size
def sumB (s:ByteArray):ByteArray:=bytesOf (hexL (runs (s.size+1) s (st0 s)))
theorem hex_byte (st i:Nat):(((hexF st i).toNat.toUInt8).toNat:Int)=hexF st i:=by
 have h:=nib_lt st i
 unfold hexF dgF
 split<;>(rw [UInt8.toNat_ofNat'];omega)
set_option maxRecDepth 100000 in
set_option maxHeartbeats 1000000 in
theorem sum_any (s:ByteArray) (hs:s.size≤100000000) (w:World) :
  Calls Tryd.prog 31 #[.string s] w fun e w'=>e=.returned (.string (sumB s))∧Below w.heap.size w w':=by
 have hmf:∀(fn:Fn) (first cap:Array Value) (w:World),(Instr.makeFunc fn first cap).run Tryd.prog w=.ok (.func fn first cap) w:=fun _ _ _ _=>rfl
 have w0:IntKind.u64.wrap (s.size:Int)=(s.size:Int):=by rw [IntKind.wrap_u64];omega
 have x0:bits .xor .u64 1181783497276652981 (s.size:Int)=((st0 s:Nat):Int):=u64_xor_nat 1181783497276652981 s.size (by decide) (by omega)
 have hst0:st0 s<18446744073709551616:=Nat.xor_lt_two_pow (n:=64) (by decide) (by omega)
 obtain ⟨st,hst⟩:∃z,z=st0 s:=⟨_,rfl⟩
 obtain ⟨FIN,hF⟩:∃z,z=runs (s.size+1) s (st0 s):=⟨_,rfl⟩
 have HF:=Lib.hid hF
 have HR0:=Lib.hid (show runs (s.size+1) s st=FIN by rw [hF,hst])
 rw [←hst] at x0 hst0
 have HS0:=Lib.hid hst0
 have HN0:=Lib.hid (row_new w (.cells #[.int .u64 st] 45))
 have B0:Below w.heap.size w (w.alloc (.cells #[.int .u64 st] 45)):=(Below.refl _ w).alloc (Nat.le_refl _) _
 clear hst hF hst0
 go_enter Tryd.func31,Tryd.ntmps31
 go_wp2
 go_loopw [0] (fun t wr=>∃(tx:ByteArray) (c f:Nat),t=.string tx∧tx.size≤100000000∧tx.size<f∧runs f tx c=FIN∧c<18446744073709551616∧wr.heap[w.heap.size]?=some (.cells #[.int .u64 c] 45 (0,0))∧Below w.heap.size w wr) (fun t _=>match t with | .string tx=>tx.size | _=>0)
 case atStart=>exact ⟨s,st,s.size+1,rfl,hs,by omega,HR0.out,HS0.out,HN0.out,B0⟩
 case round =>
  obtain ⟨tx,c,f,rfl,htx,hf,hrun,hc,hrow,hbr⟩:=hrel
  clear HS0 HN0 HR0 B0 x0 w0
  have HRN:=Lib.hid hrun
  have HRW:=Lib.hid hrow
  have hbs:=hbr.size
  clear hrun hrow
  by_cases h8:8≤tx.size
  ·obtain ⟨g,rfl⟩:∃g,f=g+1:=⟨f - 1,by omega⟩
   have e1:(tx.extract 0 8).size=8:=by rw [ByteArray.size_extract];omega
   have e2:(tx.extract 8 tx.size).size=tx.size - 8:=by rw [ByteArray.size_extract];omega
   have HR2:=Lib.hid (show runs g (tx.extract 8 tx.size) (mixN (c ^^^ pk (tx.extract 0 8) 8))=FIN by rw [←HRN.out,runs,if_pos h8])
   have TK:=Lib.hid (take_any (tx.extract 0 8) (by omega) w.heap.size c w.heap.size wr HRW.out hc (Nat.le_refl _) hbs)
   have D:decide ((8:Int)≤(tx.size:Int))=true:=by rw [decide_eq_true_eq];omega
   go_wp2_with fail
   refine TK.out.mono ?_
   rintro e w2 ⟨rfl,hr2,hb2⟩
   go_wp2
   go_roundw
   case rel=>exact ⟨_,_,g,rfl,by omega,by omega,HR2.out,mixN_lt _,hr2,hbr.trans hb2⟩
   case measure=>simp only [];omega
  ·have HR2:=Lib.hid (show mixN (c ^^^ pk tx 8)=FIN by
    obtain ⟨g,rfl⟩:∃g,f=g+1:=⟨f - 1,by omega⟩
    rw [←HRN.out,runs,if_neg h8])
   have TK:=Lib.hid (take_any tx (by omega) w.heap.size c w.heap.size wr HRW.out hc (Nat.le_refl _) hbs)
   rw [HR2.out] at TK
   have D:decide ((8:Int)≤(tx.size:Int))=false:=by rw [decide_eq_false_iff_not];omega
   go_wp2_with fail
   refine TK.out.mono ?_
   rintro e w2 ⟨rfl,hr2,hb2⟩
   have B2:=hbr.trans hb2
   clear TK HRW HRN D h8 hbr hb2 hbs hc htx hf
   go_wp2_with fail
   refine (digits_any w2).mono ?_
   rintro e w3 ⟨rfl,hb3⟩
   have hr3:=row_later hb3 hr2
   have B3:=below_step B2 (Nat.le_refl _) hb3
   clear hb3 hr2 B2
   have HS:=Lib.hid (show (Tryd.prog.info? 96).map (·.size)=some (tabH dgF).size by rw [tabH_size];kernel_rfl)
   have H2:=Lib.hid (show (zc16:Array Value).size=(tabH dgF).size by rw [tabH_size];rfl)
   have hs3:=B3.size
   go_wp2_with (refine wpList_store_row rfl 96 (.tmp 5) (.tmp 25) rfl w3.heap.size (tabH dgF) rfl rfl 96 zc16 (heap_alloc_new w3 _) HS.out H2.out (tabH_one _) ?_)
   have hA4:=setRow_heap _ w3.heap.size zc16 (tabH dgF) 96 (0,0) (heap_alloc_new w3 (.cells zc16 96))
   have hB4:Below w.heap.size w ((w3.alloc (.cells zc16 96)).setRow w3.heap.size (tabH dgF)):=below_setRow' (B3.alloc hs3 _) hs3 _
   have hz4:((w3.alloc (.cells zc16 96)).setRow w3.heap.size (tabH dgF)).heap.size=w3.heap.size+1:=by simp
   have hr4:((w3.alloc (.cells zc16 96)).setRow w3.heap.size (tabH dgF)).heap[w.heap.size]?=some (.cells #[.int .u64 FIN] 45 (0,0)):=by
    rw [setRow_other _ _ _ _ (by have:=lt_of_block hr3;omega)]
    exact row_past hr3
   generalize hw4:(w3.alloc (.cells zc16 96)).setRow w3.heap.size (tabH dgF)=w4
   rw [hw4] at hA4 hB4 hz4 hr4
   obtain ⟨A,hA⟩:∃z,z=w3.heap.size:=⟨_,rfl⟩
   have hlt:=lt_of_block hr3
   rw [←hA] at hA4 hz4 hlt hs3 ⊢
   clear hw4 hr3 B3 HS H2 hA
   have HZ4:=Lib.hid hz4
   have hAl:A<w4.heap.size:=by omega
   clear hz4
   have hO5:(w4.alloc (.cells zc16 96)).heap[A+1]?=some (.cells (tabH (cutF (hexF FIN) 0)) 96 (0,0)):=by rw [←HZ4.out,tabH_zero];exact row_new w4 _
   have hA5:=row_past (o':=.cells zc16 96) hA4
   have hr5:=row_past (o':=.cells zc16 96) hr4
   have hB5:Below w.heap.size w (w4.alloc (.cells zc16 96)):=hB4.alloc hB4.size _
   have HL5:=Lib.hid (And.intro hO5 (And.intro hA5 (And.intro hr5 hB5)))
   clear hA4 hr4 hB4 hO5 hA5 hr5 hB5 hAl
   go_wp2
   go_loopw [26] (fun i wr=>∃k:Nat,k≤16∧i=.int .i64 k∧wr.heap[A+1]?=some (.cells (tabH (cutF (hexF FIN) k)) 96 (0,0))∧wr.heap[A]?=some (.cells (tabH dgF) 96 (0,0))∧wr.heap[w.heap.size]?=some (.cells #[.int .u64 FIN] 45 (0,0))∧Below w.heap.size w wr) (fun i _=>16 - (intOf i).toNat)
   case atStart=>exact ⟨0,by omega,rfl,HL5.out.1,HL5.out.2.1,HL5.out.2.2.1,HL5.out.2.2.2⟩
   case round =>
    obtain ⟨k,hk,rfl,hO,hA,hS,hbr⟩:=hrel
    clear HL5 HZ4
    by_cases h16:k<16
    ·have hnl:=nib_lt FIN k
     have cO:wr.cell? ⟨A+1,k,none⟩=some (.int .u8 0):=by rw [cell_of_row _ _ _ _ _ _ hO,tabH_get _ _ h16];simp [cutF]
     have cOf:=frozen_of_row _ _ k _ _ hO
     have cA:wr.cell? ⟨A,nib FIN k,none⟩=some (.int .u8 (hexF FIN k)):=by rw [cell_of_row _ _ _ _ _ _ hA,tabH_get _ _ hnl];rfl
     have cS:wr.cell? ⟨w.heap.size,0,none⟩=some (.int .u64 FIN):=by rw [cell_of_row _ _ _ _ _ _ hS];rfl
     have k1:IntKind.i64.wrap (4 * (k:Int))=4 * (k:Int):=IntWalk.i64_in _ (by omega)
     have k2:IntKind.i64.wrap (60 - 4 * (k:Int))=60 - 4 * (k:Int):=IntWalk.i64_in _ (by omega)
     have hF2:FIN<18446744073709551616:=by rw [HF.out];exact runs_lt _ _ _
     have k4:bits .and .u64 ((FIN:Int) / 2 ^ (60 - 4 * k)) 15=((nib FIN k:Nat):Int):=by
      have:=u64_and_nat (FIN / 2 ^ (60 - 4 * k)) 15 (Nat.lt_of_le_of_lt (Nat.div_le_self _ _) hF2) (by decide)
      rw [Int.natCast_ediv,Int.natCast_pow] at this
      exact this
     have HH:=Lib.hid (And.intro hO (And.intro hA (And.intro hS hbr)))
     have HT:=Lib.hid (show (tabH (cutF (hexF FIN) k)).setIfInBounds k (.int .u8 (hexF FIN k))=tabH (cutF (hexF FIN) (k+1)) by rw [tabH_set,put_cut])
     have hbs:=hbr.size
     have hAl:=lt_of_block hA
     have hOl:=lt_of_block hO
     have hSl:=lt_of_block hS
     clear hF2 hO hA hS hbr
     go_wp2
     go_roundw
     case rel=>exact ⟨k+1,by omega,by go_num,by rw [←HT.out];exact row_set HH.out.1,row_set_other HH.out.2.1 (by simp only;omega),row_set_other HH.out.2.2.1 (by simp only;omega),HH.out.2.2.2.setCell (by simp only;omega) _⟩
     case measure=>simp [intOf];omega
    ·obtain rfl:k=16:=by omega
     have hlen:(hexL FIN).length=16:=by simp [hexL]
     have HCV:=Lib.hid (show (convert 47 9 (.slice (some ⟨A+1,0,none⟩) 16 16)).run Tryd.prog wr=.ok (.string (bytesOf (hexL FIN))) wr by
      have:=run_convert_bytes_back (P:=Tryd.prog) wr 47 9 5 ⟨A+1,0,none⟩ 16 (hexL FIN) Tryd.underlying47 Tryd.underlying5 Tryd.underlying9 (fun j hj=>by
       rw [hlen] at hj
       rw [Addr.add_lit,cell_of_row _ _ _ _ _ _ hO,Nat.zero_add,tabH_get _ _ hj]
       have h1:=hex_byte FIN j
       simp only [cutF,if_pos hj,hexL,List.getElem_map,List.getElem_range]
       rw [h1])
      rw [hlen] at this
      exact this)
     have hcv:=HCV.out
     have hbs:=hbr
     have HFF:=Lib.hid (show sumB s=bytesOf (hexL FIN) by rw [sumB,HF.out])
     clear hO hA hS HCV
     go_wp2
     go_ret
     exact ⟨by rw [HFF.out];rfl,hbs⟩
end Go.Proofs.YtdfenhjibnfdeaaDoor

namespace Go.Proofs.YtdfenhjibnfdeaaDoor
open Go.RowKit Go.Shelf
def itemB (s:ByteArray):ByteArray:=(decB s.size++⟨#[58]⟩)++s
def listL (l:List ByteArray):List UInt8:=l.flatMap fun s=>lstB (itemB s)
def listB (l:List ByteArray):ByteArray:=sumB (bytesOf (listL l))
theorem listL_take {l:List ByteArray} {k:Nat} {s:ByteArray} (h:l[k]?=some s):listL (l.take (k+1))=listL (l.take k)++lstB (itemB s):=by
 rw [take_snoc' h,listL,List.flatMap_append];simp [listL]
theorem itemB_size (s:ByteArray) (h:s.size<100):(itemB s).size≤103:=by
 have:=decB_size s.size h
 have h1:(⟨#[58]⟩:ByteArray).size=1:=rfl
 unfold itemB
 simp only [ByteArray.size_append];omega
theorem listL_len:∀l:List ByteArray,(∀s∈l,s.size<100)→(listL l).length≤103 * l.length
 |[],_=>by simp [listL]
 |a :: r,h=>by
  have ih:=listL_len r (fun s hs=>h s (List.mem_cons_of_mem _ hs))
  have h1:=itemB_size a (h a (by simp))
  have e:listL (a :: r)=lstB (itemB a)++listL r:=by simp [listL]
  rw [e,List.length_append,lstB_len,List.length_cons];omega
set_option maxRecDepth 100000 in
set_option maxHeartbeats 1000000 in
theorem list_any (v:Value) (l:List ByteArray) (w:World) (hv:StrRow w v l) (hz:∀s∈l,s.size<100) (hn:l.length≤10000) :
  Calls Tryd.prog 11 #[v] w fun e w'=>e=.returned (.string (listB l))∧Below w.heap.size w w':=by
 have hb0:Below w.heap.size w (w.alloc (.cells #[.pointer none,.slice none 0 0] 49)):=(Below.refl _ w).alloc (Nat.le_refl _) _
 have h0:BldF 49 w.heap.size w.heap.size (Lib.byteCells (listL (l.take 0))) (w.alloc (.cells #[.pointer none,.slice none 0 0] 49)) :=
  .inl ⟨Nat.le_refl _,_,row_new w _,World.ownsRowF_of (World.ownsRow_nil _ _ _ _),by simp [Value.ownBlock]⟩
 obtain ⟨a,cap,rfl,-,-,hc⟩:=hv
 obtain ⟨N,hN⟩:∃N,l.length=N:=⟨_,rfl⟩
 rw [hN] at hc hn ⊢
 have HN:=Lib.hid hN
 have HC:=Lib.hid hc
 have HZ:=Lib.hid hz
 clear hN hc hz
 go_enter Tryd.func11,Tryd.ntmps11
 go_wp2
 go_loopw [8] (fun i wr=>∃k:Nat,k≤N∧i=.int .i64 k∧BldF 49 w.heap.size w.heap.size (Lib.byteCells (listL (l.take k))) wr∧Below w.heap.size w wr) (fun i _=>N - (intOf i).toNat)
 case atStart=>exact ⟨0,by omega,rfl,h0,hb0⟩
 case round =>
  clear h0 hb0
  obtain ⟨k,hk,rfl,hW,hbr⟩:=hrel
  have hbs:=hbr.size
  have hll:=listL_len (l.take k) (fun s hs=>HZ.out s (List.mem_of_mem_take hs))
  have hlt2:(l.take k).length≤10000:=by rw [List.length_take,HN.out];omega
  by_cases hlt:k<N
  ·obtain ⟨s,hs⟩:∃s,l[k]?=some s:=⟨l[k]'(by rw [HN.out];exact hlt),List.getElem?_eq_getElem _⟩
   have hsz:=HZ.out s (List.mem_of_getElem? hs)
   have hiz:=itemB_size s hsz
   obtain ⟨b,off,ha,hcell⟩:=HC.out (by omega)
   subst ha
   have c0:=cell_later hbr (hcell k s hs)
   have HT:=Lib.hid (listL_take hs)
   have IT:=Lib.hid (fun W=>Tryd.strconv_Itoa_small s.size hsz W)
   have hd:=decB_size s.size hsz
   have h58:(⟨#[58]⟩:ByteArray).size=1:=rfl
   have e1:∀w,(Op.stringOp .add ⟨(Lib.decDigits s.size).toArray⟩ ⟨#[58]⟩).run Tryd.prog w=.ok (.string (decB s.size++⟨#[58]⟩)) w:=fun w=>run_string_add_sum w _ _ (by show (decB s.size).size+_≤_;omega)
   have e2:∀w,(Op.stringOp .add (decB s.size++⟨#[58]⟩) s).run Tryd.prog w=.ok (.string (itemB s)) w:=fun w=>run_string_add_sum w _ _ (by simp only [ByteArray.size_append];omega)
   have WS:=Lib.hid (bstr_any bldB _ _ _ (itemB s) wr hW (by rw [Lib.byteCells_length];omega) hbs)
   rw [cells_str,←HT.out] at WS
   clear hW hs hcell
   go_wp2_with (first | (go_at_call 15;refine (IT.out _).mono ?_;rintro e w' ⟨rfl,hww⟩;subst w') | (go_at_call 30;refine WS.out.mono ?_;rintro e w2 ⟨rfl,h2,hb2,-⟩))
   go_roundw
   case rel=>exact ⟨k+1,by omega,by go_num,.inr h2,hbr.trans hb2⟩
   case measure=>simp [intOf];omega
  ·obtain rfl:k=N:=by omega
   have HA:=Lib.hid (show listL (l.take k)=listL l by rw [List.take_of_length_le (by rw [HN.out];exact Nat.le_refl _)])
   have ST:=Lib.hid (Tryd.Builder_String_any_k _ _ _ wr hW hbs)
   rw [HA.out] at ST hll
   have hbz:(bytesOf (listL l)).size≤100000000:=by
    show (List.toArray _).size≤_
    rw [List.size_toArray];omega
   have SM:=Lib.hid (fun W=>sum_any (bytesOf (listL l)) hbz W)
   clear hW
   go_wp2_with fail
   refine ST.out.mono ?_
   rintro e w2 ⟨rfl,-,hb2,-⟩
   go_wp2_with fail
   refine (SM.out _).mono ?_
   rintro e w3 ⟨rfl,hb3⟩
   go_wp2
   go_ret
   exact ⟨rfl,below_step (hbr.trans hb2) (Nat.le_refl _) hb3⟩
end Go.Proofs.YtdfenhjibnfdeaaDoor
