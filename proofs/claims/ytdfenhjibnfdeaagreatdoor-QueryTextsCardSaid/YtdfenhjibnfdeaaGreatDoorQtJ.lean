/-      -/
import Derived.Test.YtdfenhjibnfdeaaGreatDoorQyAe
import Derived.Test.YtdfenhjibnfdeaaGreatDoorQyAa
import Derived.Test.YtdfenhjibnfdeaaGreatDoorQyAi
import Derived.SizedLaws
import Derived.Deep.SlicePairs
import Derived.Test.YtdfenhjibnfdeaaGreatDoorQyAg
namespace Go.Proofs.YtdfenhjibnfdeaaGreatDoor
open Go.RowKit
def ObjAt (w:World) (b off:Nat) (o:ObjD):Prop :=
 ∃(vr vt:Value),w.cell? ⟨b,off,none⟩=some (.string o.id)∧w.cell? ⟨b,off+1,none⟩=some (.int .i64 o.kind)∧w.cell? ⟨b,off+2,none⟩=some (.int .i64 o.x) ∧
  w.cell? ⟨b,off+3,none⟩=some (.int .i64 o.y)∧w.cell? ⟨b,off+4,none⟩=some vr∧w.cell? ⟨b,off+5,none⟩=some vt ∧
  StrRow w vr o.refs∧TagRow w vt o.tags∧o.id.size≤140737488355328
theorem ObjAt.later {w w':World} {b off:Nat} {o:ObjD} (h:ObjAt w b off o) (hb:Below w.heap.size w w'):ObjAt w' b off o:=by
 obtain ⟨vr,vt,h0,h1,h2,h3,h4,h5,hr,ht,hz⟩:=h
 exact ⟨vr,vt,cell_later hb h0,cell_later hb h1,cell_later hb h2,cell_later hb h3,cell_later hb h4,cell_later hb h5,hr.later hb,ht.later hb,hz⟩
def ObjsIs (w:World) (v:Value) (l:List ObjD):Prop :=
 ∃(a:Option Addr) (cap:Nat),v=.slice a l.length cap∧l.length≤140737488355328 ∧
  (0<l.length→∃b off,a=some ⟨b,off,none⟩∧∀(i:Nat) (o:ObjD),l[i]?=some o→ObjAt w b (off+i * 6) o)
theorem ObjsIs.later {w w':World} {v:Value} {l:List ObjD} (h:ObjsIs w v l) (hb:Below w.heap.size w w'):ObjsIs w' v l:=by
 obtain ⟨a,cap,h1,h2,h3⟩:=h
 refine ⟨a,cap,h1,h2,fun h0=>?_⟩
 obtain ⟨b,off,e,hc⟩:=h3 h0
 exact ⟨b,off,e,fun i o hi=>(hc i o hi).later hb⟩
end Go.Proofs.YtdfenhjibnfdeaaGreatDoor

namespace Go.Proofs.YtdfenhjibnfdeaaGreatDoor
open Go.ChangeShapes Go.WideShapes Go.ChangeAt Go.RowKit Go.Shelf Go.Joins
open Go.ChangeMaps (open_string shut_string)
theorem gES:Tryz.prog.globalNamed "strconv.ErrSyntax"=some 2:=by kernel_rfl
theorem gER:Tryz.prog.globalNamed "strconv.ErrRange"=some 3:=by kernel_rfl
theorem gPT:Tryz.prog.globalNamed "internal/strconv.uint64pow10"=some 0:=by kernel_rfl
theorem gESType:(Tryz.prog.globals[2]?).map (·.type)=some 94:=by kernel_rfl
theorem gERType:(Tryz.prog.globals[3]?).map (·.type)=some 94:=by kernel_rfl
theorem gPTType:(Tryz.prog.globals[0]?).map (·.type)=some 157:=by kernel_rfl
theorem cellsES:Tryz.prog.cellsOf 174=1:=by kernel_rfl
theorem cellsString:Tryz.prog.cellsOf 9=1:=by kernel_rfl
theorem cellsU64:Tryz.prog.cellsOf 140=1:=by kernel_rfl
theorem cellsTab:Tryz.prog.cellsOf 157=20:=by kernel_rfl
theorem star:"*"++"errors.errorString"="*errors.errorString":=by decide
theorem rowES (u:TypeId) (h:Tryz.prog.typeName? 3 u=some "*errors.errorString"):u=172 :=
 typeName_ptr_named (nm:="errors.errorString") (by rw [star];kernel_rfl) (by kernel_rfl) (by decide) u (by rw [star];exact h)
theorem only (n:String) (l:List (String × DataW Unit)) (d:DataW Unit) {P:Program} {w:World} (h:laidMet P l w) (he:(l.filter fun x=>x.1==n)=[(n,d)]):laidMet P [(n,d)] w:=by
 rw [←he]
 exact h.filter _
theorem env_of {W:World} (hL:laidMetH Tryz.prog laidL W):Env W:=by
 rw [MakeChecks.laidMetH_plain _ _ _ (by kernel_rfl)] at hL
 refine ⟨?_,?_,?_⟩
 ·exact Lib.tabIs_of_head gPT gPTType Tryz.underlying157 Tryz.underlying140 cellsU64 cellsTab (rest:=[]) (only "internal/strconv.uint64pow10" laidL (Lib.tabData .u64 Lib.pow10Tab) hL (by kernel_rfl))
 ·obtain ⟨a0,s0,hv0,-,-,-⟩:=laid_sentinel (only "strconv.ErrSyntax" laidL Rows.laid_strconv_ErrSyntax hL (by kernel_rfl)) gES gESType Tryz.underlying94 rowES Tryz.underlying172 Tryz.underlying174 rfl rfl Tryz.underlying9 cellsES cellsString
  exact ⟨_,_,hv0⟩
 ·obtain ⟨a0,s0,hv0,-,-,-⟩:=laid_sentinel (only "strconv.ErrRange" laidL Rows.laid_strconv_ErrRange hL (by kernel_rfl)) gER gERType Tryz.underlying94 rowES Tryz.underlying172 Tryz.underlying174 rfl rfl Tryz.underlying9 cellsES cellsString
  exact ⟨_,_,hv0⟩
instance:Inhabited TagD:=⟨⟨⟨#[]⟩,⟨#[]⟩⟩⟩
instance:Inhabited ObjD:=⟨⟨⟨#[]⟩,0,0,0,[],[]⟩⟩
def Light {H:Type} (t:TypeId) (d:DataW H):Prop:=∀n∈d.weights Tryz.prog t,n≤reachBytes
theorem light_of {H:Type} {ts:List TypeId} {ds:List (DataW H)} (h:(DataW.weightsEach Tryz.prog ts ds).all (·≤reachBytes)=true) {j:Nat} {t:TypeId} {d:DataW H} (ht:ts[j]?=some t) (hd:ds[j]?=some d):Light t d:=by
 intro n hn
 simpa using List.all_eq_true.1 h n (DataW.weights_mem_each ht hd n hn)
section
variable {H:Type} {enc:TypeId × Value→H} {W:World}
instance:Inhabited CondD:=⟨.mk 0 ⟨#[]⟩ ⟨#[]⟩ 0 []⟩
end
end Go.Proofs.YtdfenhjibnfdeaaGreatDoor

namespace Go.Proofs.YtdfenhjibnfdeaaGreatDoor
open Go.RowKit
end Go.Proofs.YtdfenhjibnfdeaaGreatDoor

namespace Go.Proofs.YtdfenhjibnfdeaaGreatDoor
open Go.RowKit Go.Shelf
theorem ne_str {a b:ByteArray} (h:a≠b):(a.toList==b.toList)=false:=by
 rw [ByteArray.toList_eq,ByteArray.toList_eq]
 exact beq_false_of_ne (fun c=>h (ByteArray.ext (Array.toList_inj.mp c)))
def NodesP (w:World) (c:CondD) (most:Nat) (e:Ending) (w':World):Prop :=
 ∃n:Nat,e=.returned (.int .i64 n)∧1≤n∧(n=1∨n≤most+1)∧(n≤most→n=cnodes c)∧Below w.heap.size w w'
def NodesK (k:Nat):Prop:=∀(c:CondD) (a:Option Addr) (cap:Nat) (w:World) (most:Nat),cnodes c≤k→CondIs w c a→most≤100 →
 Calls Tryz.prog 45 #[condV c a cap,.int .i64 most] w (NodesP w c most)
set_option maxRecDepth 100000 in
set_option maxHeartbeats 4000000 in
theorem nodes_step (k:Nat) (IH:NodesK k):NodesK (k+1):=by
 intro c a cap w most hk hc hm
 obtain ⟨op,key,val,n,ks⟩:=c
 have hk2:cnodesL ks≤k:=by rw [cnodes] at hk;omega
 obtain ⟨h1,h2,h3,h4⟩:=hc.open
 show Calls Tryz.prog 45 #[.agg #[.int .i64 op,.string key,.string val,.int .i64 n,.slice a ks.length cap],.int .i64 most] w _
 have h3:ks.length≤140737488355328:=h3
 have HRES:=Lib.hid (show cnodes (.mk op key val n ks)=cnodesL ks+1 from by rw [cnodes])
 have B1:=(Below.refl w.heap.size w).alloc (Nat.le_refl _) (.cells #[.int .i64 op,.string key,.string val,.int .i64 n,.slice a ks.length cap] 24)
 have HC0:=Lib.hid (row_new w (.cells #[.int .i64 op,.string key,.string val,.int .i64 n,.slice a ks.length cap] 24))
 obtain ⟨N,hN⟩:∃N,ks.length=N:=⟨_,rfl⟩
 rw [hN] at h3 HC0 B1 ⊢
 have HN:=Lib.hid hN
 have H4:=Lib.hid (show 0<ks.length→∃b off,a=some ⟨b,off,none⟩∧KidsIs w b ks off from h4)
 clear hc h4 hk hN h1 h2
 go_enter Tryz.func45,Tryz.ntmps45
 go_wp2
 go_loopw [5,6] (fun v i wr=>∃(j m:Nat),j≤N∧i=.int .i64 j∧v=.int .i64 m∧1≤m∧(m=1∨m≤most+1)∧(m≤most∨j=0→m=cnodesL (ks.take j)+1)∧Below w.heap.size w wr∧wr.heap[w.heap.size]?=some (.cells #[.int .i64 op,.string key,.string val,.int .i64 n,.slice a N cap] 24 (0,0))) (fun _ i _=>N - (intOf i).toNat)
 case atStart=>exact ⟨0,1,by omega,rfl,rfl,by omega,.inl rfl,fun _=>by simp [cnodesL],B1,HC0.out⟩
 case round =>
  obtain ⟨j,m,hj,rfl,rfl,hm1,hm2,hm3,hbr,hbx⟩:=hrel
  have HM3:=Lib.hid hm3
  have HBX:=Lib.hid hbx
  clear hbx hm3
  by_cases hlt:j<N
  ·by_cases hle:m≤most
   ·obtain ⟨c,hcj⟩:∃c,ks[j]?=some c:=⟨ks[j]'(by rw [HN.out];exact hlt),List.getElem?_eq_getElem _⟩
    obtain ⟨b,off,ha,hrow⟩:=H4.out (by rw [HN.out];omega)
    subst ha
    obtain ⟨a',cap',⟨q0,q1,q2,q3,q4⟩,hci⟩:=KidsIs.at _ _ j c hrow hcj
    have c0:=cell_later hbr q0
    have c1:=cell_later hbr q1
    have c2:=cell_later hbr q2
    have c3:=cell_later hbr q3
    have c4:=cell_later hbr q4
    have hm:=List.mem_of_getElem? hcj
    have CL:=Lib.hid (IH c a' cap' wr (most - m) (Nat.le_trans (cnodes_kid _ _ _ hcj) hk2) (hci.later hbr) (by omega))
    have HTK:=Lib.hid (cnodesL_take ks j c hcj)
    have d1:decide ((m:Int)≤most)=true:=decide_eq_true (by omega)
    have d0:decide ((j:Int)<N)=true:=decide_eq_true (by omega)
    clear q0 q1 q2 q3 q4 hci hrow hcj hm
    rw [cond_cells,show (((most - m:Nat)):Int)=(most:Int) - m by omega] at CL
    obtain ⟨zz,z0,z1,z2,z3,z4⟩:=rk5 HBX.out
    go_wp2_with fail
    refine CL.out.mono ?_
    rintro e w2 ⟨r,rfl,hr1,hr2,hr3,hb2⟩
    have HB2:=Lib.hid (row_later hb2 HBX.out)
    have B2:=below_step hbr (Nat.le_refl _) hb2
    have HM4:=Lib.hid (show m+r≤most∨j+1=0→m+r=cnodesL (ks.take (j+1))+1 from fun h=>by
     rw [HTK.out]
     have h5:=HM3.out (.inl hle)
     have h6:=hr3 (by omega)
     omega)
    clear hb2 hr3 CL HM3
    go_wp2
    go_roundw
    case rel=>exact ⟨j+1,m+r,by omega,by go_num,by go_num,by omega,by omega,HM4.out,B2,HB2.out⟩
    case measure=>simp [intOf];omega
   ·have d1:decide ((m:Int)≤most)=false:=decide_eq_false (by omega)
    have d0:decide ((j:Int)<N)=true:=decide_eq_true (by omega)
    obtain ⟨zz,z0,z1,z2,z3,z4⟩:=rk5 HBX.out
    go_wp2
    go_ret
    exact ⟨m,rfl,hm1,hm2,fun h=>absurd h hle,hbr⟩
  ·obtain rfl:j=N:=by omega
   have hm4:=HM3.out
   rw [List.take_of_length_le (by rw [HN.out];exact Nat.le_refl _)] at hm4
   have HM4:=Lib.hid hm4
   clear hm4 HM3
   obtain ⟨zz,z0,z1,z2,z3,z4⟩:=rk5 HBX.out
   go_wp2
   go_ret
   exact ⟨m,rfl,hm1,hm2,fun h=>(HM4.out (.inl h)).trans HRES.out.symm,hbr⟩
theorem nodes_all:∀k,NodesK k
 |0=>fun c _ _ _ _ hk=>by have:=cnodes_pos c;omega
 |k+1=>nodes_step k (nodes_all k)
theorem nodes_any (c:CondD) (a:Option Addr) (cap:Nat) (w:World) (most:Nat) (hc:CondIs w c a) (hm:most≤100) :
  Calls Tryz.prog 45 #[condV c a cap,.int .i64 most] w (NodesP w c most):=nodes_all (cnodes c) c a cap w most (Nat.le_refl _) hc hm
end Go.Proofs.YtdfenhjibnfdeaaGreatDoor

namespace Go.Proofs.YtdfenhjibnfdeaaGreatDoor
open Go.RowKit Go.Shelf
end Go.Proofs.YtdfenhjibnfdeaaGreatDoor
