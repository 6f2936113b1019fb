/-
 What the batch lacks.
-/
import Derived.Test.YtmffejnigppbpaaGreatDoorDXCardItem
import Derived.Test.YtmffejnigppbpaaGreatDoorDXCardOf
import Derived.Test.YtmffejnigppbpaaGreatDoorDXCardOne
import Derived.Test.YtmffejnigppbpaaGreatDoorDXCardPrint
import Derived.Test.YtmffejnigppbpaaGreatDoorDXCardRight
import Derived.Test.YtmffejnigppbpaaGreatDoorDXFold
import Derived.Test.YtmffejnigppbpaaGreatDoorDXLinePrint
import Derived.Test.YtmffejnigppbpaaGreatDoorDXMA52
import Derived.Test.YtmffejnigppbpaaGreatDoorDXMA56
import Derived.Test.YtmffejnigppbpaaGreatDoorDXMA59
import Derived.Test.YtmffejnigppbpaaGreatDoorDXMA60
import Derived.Test.YtmffejnigppbpaaGreatDoorDXMA62
import Derived.Test.YtmffejnigppbpaaGreatDoorDXMA63
import Derived.Test.YtmffejnigppbpaaGreatDoorDXMA64
import Derived.Test.YtmffejnigppbpaaGreatDoorDXMA65
import Derived.Test.YtmffejnigppbpaaGreatDoorDXMA66
import Derived.Test.YtmffejnigppbpaaGreatDoorDXMA67
import Derived.Test.YtmffejnigppbpaaGreatDoorDXMA68
import Derived.Test.YtmffejnigppbpaaGreatDoorDXMA69
import Derived.Test.YtmffejnigppbpaaGreatDoorDXMA70
import Derived.Test.YtmffejnigppbpaaGreatDoorDXMA71
import Derived.Test.YtmffejnigppbpaaGreatDoorDXMA72
import Derived.Test.YtmffejnigppbpaaGreatDoorDXMA73
import Derived.Test.YtmffejnigppbpaaGreatDoorDXMA74
import Derived.Test.YtmffejnigppbpaaGreatDoorDXMA75
import Derived.Test.YtmffejnigppbpaaGreatDoorDXMA76
import Derived.Test.YtmffejnigppbpaaGreatDoorDXMA77
import Derived.Test.YtmffejnigppbpaaGreatDoorDXMA78
import Derived.Test.YtmffejnigppbpaaGreatDoorDXMA79
import Derived.Test.YtmffejnigppbpaaGreatDoorDXMLaws
import Derived.Test.YtmffejnigppbpaaGreatDoorDXMLineP
import Derived.Test.YtmffejnigppbpaaGreatDoorDXMLineR
import Derived.Test.YtmffejnigppbpaaGreatDoorDXMParse
import Derived.Test.YtmffejnigppbpaaGreatDoorDXMPieces
import Derived.Test.YtmffejnigppbpaaGreatDoorDXMRepl
import Derived.Test.YtmffejnigppbpaaGreatDoorDXMRules
import Derived.Test.YtmffejnigppbpaaGreatDoorDXMTell
import Derived.Test.YtmffejnigppbpaaGreatDoorDXMUtf
import Derived.Test.YtmffejnigppbpaaGreatDoorDXMVal
import Derived.Test.YtmffejnigppbpaaGreatDoorDXMVeil
import Derived.Test.YtmffejnigppbpaaGreatDoorDXParts
import Derived.Test.YtmffejnigppbpaaGreatDoorDXShelf
import Derived.Test.YtmffejnigppbpaaGreatDoorDXValRight
import Derived.Test.YtmffejnigppbpaaGreatDoorDXWhenPrint
import Derived.Lib.AppendZerosOnto
import Derived.Lib.AppendZeros
import Derived.Laws.AppendOwnNone
set_option linter.unusedVariables false
set_option linter.unusedSimpArgs false
set_option maxHeartbeats 16000000
set_option maxRecDepth 100000
namespace Go.Proofs.YtmffejnigppbpaaGreatDoor
open Go.RowKit
section
variable {P:Program} {ops:Array Oper} {md:Region.Mode} {E:Array Bool}
theorem gAny2{Ra:Bool→World→World→Prop}{R R1:World→World→Prop}{j0 m:Nat}{a:Act}{w0:World}{Φ:Bool→Nat→Value→World→Prop}{Q:Exit→Act→World→Prop}(hR0:∀x,R x x)(hR1:∀x,R1 x x)(hRa:∀b x y z,Ra b x y→R y z→Ra b x z)(hRb:∀x y z v,Ra false x y→R1 y z→Φ true j0 v z→Ra true x z)(hst:∀b k v w w',R w w'→Φ b k v w→Φ b k v w')(hst1:∀k v w w',R1 w w'→Φ false k v w→Φ true k v w')(hF:amf md ops E m)(hj0:j0<m)(hops:∀j o,ops[j]?=some o→E.getD j true=false→j<m→j≠j0→∀(b:Bool),(b=true→afO md ops ops.size j0 j=false)→∀(vals:Nat→Value) W,Ra b w0 W→(∀k∈aeB md ops E o,Φ b k (vals k) W)→gOp P ops R (Φ b j) o (aff ops vals (aeB md ops E o) a) W)(hop1:∀o,ops[j0]?=some o→E.getD j0 true=false→∀(vals:Nat→Value) W,Ra false w0 W→(∀k∈aeB md ops E o,Φ false k (vals k) W)→gOp P ops R1 (Φ true j0) o (aff ops vals (aeB md ops E o) a) W)(hend:∀(vals:Nat→Value) W,Ra true w0 W→(∀k∈agc E m,Φ true k (vals k) W)→wpList P ops Q (afe E (ops.toList.drop m) m) (aff ops vals (agc E m) a) W) :
  ∀(fuel:Nat) (listed:Array Bool) (vals:Nat→Value) (a':Act) (W:World),anj md ops E m a (Ra (listed.getD j0 true)) w0 (Φ (listed.getD j0 true)) listed vals a' W→afS listed ops.size≤fuel→wpAny P md ops Q fuel listed a' W:=by
 intro fuel
 induction fuel with
 |zero=>
  intro listed vals a' W hI hl
  have hall:=aiW (n:=ops.size) (listed:=listed) (by omega)
  have hc:∀k,k<m→listed.getD k true=true:=fun k hk=>hall k (by have:=hF.le;omega)
  have hq:=hend vals W (by have:=hI.g;rw[hc j0 hj0]at this;exact this) fun k hk=>by
    have:=hI.phi k (acW.1 hk).1 (acW.1 hk).2 (hc k (acW.1 hk).1)
    rw[hc j0 hj0]at this;exact this
  rw[←asw hF hI hc]at hq
  have hle:∀k,m≤k→k<ops.size→listed.getD k true=E.getD k true:=fun k hk hks=>by
   cases h:E.getD k true
   ·exact hI.late k hk hks h
   ·exact hI.early k h
  have hlen:=agd (E:=E) (listed:=listed) (ops.toList.drop m) m ops.size (by have:=hF.le;simp;omega) hle
  exact anS (ops.toList.drop m) m listed a' W 0 (fun i=>by simp) hc hle hI.ls (fun k o hk ho hE i hi hEi=>hF.tail k o ho hE hk i hi hEi) ⟨hF.back,hF.shut⟩ (by omega) hq
 |succ fuel ih=>
  intro listed vals a' W hI hl
  have hle:∀k,m≤k→k<ops.size→listed.getD k true=E.getD k true:=fun k hk hks=>by
   cases h:E.getD k true
   ·exact hI.late k hk hks h
   ·exact hI.early k h
  by_cases hc:∀k,k<m→listed.getD k true=true
  ·have hq:=hend vals W (by have:=hI.g;rw[hc j0 hj0]at this;exact this) fun k hk=>by
    have:=hI.phi k (acW.1 hk).1 (acW.1 hk).2 (hc k (acW.1 hk).1)
    rw[hc j0 hj0]at this;exact this
   rw[←asw hF hI hc]at hq
   have hlen:=agd (E:=E) (listed:=listed) (ops.toList.drop m) m ops.size (by have:=hF.le;simp;omega) hle
   exact anS (ops.toList.drop m) m listed a' W (fuel+1) (fun i=>by simp) hc hle hI.ls (fun k o hk ho hE i hi hEi=>hF.tail k o ho hE hk i hi hEi) ⟨hF.back,hF.shut⟩ (by omega) hq
  ·have hun:∃k,k<m∧listed.getD k true=false:=by
    apply Classical.byContradiction
    intro h
    refine hc fun k hk=>?_
    cases hh:listed.getD k true
    ·exact absurd ⟨k,hk,hh⟩ h
    ·rfl
   obtain⟨k,hk,hkl,hkm⟩:=ami hun
   have hks:k<ops.size:=by have:=hF.le;omega
   have hEk:E.getD k true=false:=by
    cases h:E.getD k true
    ·rfl
    ·rw[hI.early k h]at hkl;cases hkl
   have hkr:k∈Region.ready md ops listed:=mem_ready.2 ⟨hkl,_,Array.getElem?_eq_getElem hks,fun e he hb=>by
    have h1:=hF.back k _ (Array.getElem?_eq_getElem hks) e.on (agL.2 ⟨e,he,hb,rfl⟩)
    have h2:=hkm e.on h1
    have hlt:e.on<listed.size:=by rw[hI.ls];omega
    simp[hlt]at h2⊢;exact h2⟩
   refine⟨fun hr=>absurd hkr (by rw[hr];simp),fun j hj=>?_⟩
   obtain⟨hjl,o,ho,_⟩:=mem_ready.1 hj
   obtain⟨_,hlis⟩:=agb ho hj
   have hEj:E.getD j true=false:=by
    cases h:E.getD j true
    ·rfl
    ·rw[hI.early j h]at hjl;cases hjl
   have hjm:j<m:=by
    rcases Nat.lt_or_ge j m with h|h
    ·exact h
    ·exfalso
     have:=agM (md:=md) (L:=fun x=>listed.getD x true=true) (fun x q hq hx d hd=>hI.closed x q hq hx d hd) _ _ _ (hF.tail j o ho hEj h k (by omega) hEk) (fun q hq d hd=>by rw[ho]at hq;cases hq;exact hlis d hd)
     rw[hkl]at this;cases this
   have hfx:∀i∈aeB md ops E o,Φ (listed.getD j0 true) i (vals i) W:=fun i hi=>by
    obtain⟨hi,hEi⟩:=af9.1 (aga.1 hi).1
    exact hI.phi i (by have:=hF.back j o ho i hi;omega) hEi (hlis i hi)
   have hle2:afS (listed.setIfInBounds j true) ops.size≤fuel:=by
    have:=akr hjl ops.size
    have hjs:=(Array.getElem?_eq_some_iff.1 ho).1
    rw[if_pos hjs]at this
    omega
   have hbb:listed.getD j0 true=true→afO md ops ops.size j0 j=false:=fun h0=>by
    cases hr:afO md ops ops.size j0 j
    ·rfl
    ·have:=agM (md:=md) (L:=fun x=>listed.getD x true=true) (fun x q hq hx d hd=>hI.closed x q hq hx d hd) _ _ _ hr (fun q hq d hd=>hI.closed j0 q hq h0 d hd)
     rw[hjl]at this;cases this
   by_cases hjj:j=j0
   ·subst hjj
    rw[hjl]at hfx hI
    refine amh hR1 ho hF.sel (fun t ht=>arn hF hI ho hjm hj t ht) (by rw[hI.sz,ah9]) (hop1 o ho hEj vals W hI.g hfx) fun v W' hg hp=>?_
    refine ih _ (fun k=>if k=j then agK o (a'.put o.dst v)else vals k) _ _ ?_ hle2
    have hjs:=(Array.getElem?_eq_some_iff.1 ho).1
    rw[show(listed.setIfInBounds j true).getD j true=true by simp[show j<listed.size by rw[hI.ls];exact hjs]]
    exact hI.stepTo hF ho hjm hj v (hRb _ _ _ _ hI.g hg hp) (fun k u h=>hst1 k u _ _ hg h) hp
   ·refine amh hR0 ho hF.sel (fun t ht=>arn hF hI ho hjm hj t ht) (by rw[hI.sz,ah9]) (hops j o ho hEj hjm hjj _ hbb vals W hI.g hfx) fun v W' hg hp=>?_
    refine ih _ (fun k=>if k=j then agK o (a'.put o.dst v)else vals k) _ _ ?_ hle2
    rw[getD_set_ne true (fun e=>hjj e)]
    exact hI.stepTo hF ho hjm hj v (hRa _ _ _ _ hI.g hg) (fun k u h=>hst _ k u _ _ hg h) hp
def gAll2(P:Program)(ops:Array Oper)(Ra:Bool→World→World→Prop)(R R1:World→World→Prop)(j0:Nat)(Φ:Bool→Nat→Value→World→Prop)(a:Act)(w0:World):List Oper→List (Option (List (Nat×Tmp)))→Nat→Prop
 |o::l,some u::U,j=>(if j=j0 then(∀(vals:Nat→Value) W,Ra false w0 W→afg (Φ false) vals W u→gOp P ops R1 (Φ true j) o (gFr vals u a) W)else(∀(b:Bool),(b=true→afO .any ops ops.size j0 j=false)→∀(vals:Nat→Value) W,Ra b w0 W→afg (Φ b) vals W u→gOp P ops R (Φ b j) o (gFr vals u a) W))∧gAll2 P ops Ra R R1 j0 Φ a w0 l U (j+1)
 |_::l,none::U,j=>gAll2 P ops Ra R R1 j0 Φ a w0 l U (j+1)
 |_,_,_=>True
section
variable {Ra:Bool→World→World→Prop} {R R1:World→World→Prop} {j0:Nat} {Φ:Bool→Nat→Value→World→Prop} {a:Act} {w0:World}
theorem gAll2_some{o:Oper}{l:List Oper}{u:List (Nat×Tmp)}{U:List (Option (List (Nat×Tmp)))}{j:Nat}(hj:j≠j0)(h:∀(b:Bool) (vals:Nat→Value) W,Ra b w0 W→afg (Φ b) vals W u→gOp P ops R (Φ b j) o (gFr vals u a) W)(t:gAll2 P ops Ra R R1 j0 Φ a w0 l U (j+1)):gAll2 P ops Ra R R1 j0 Φ a w0 (o::l) (some u::U) j:=⟨by rw[if_neg hj];exact fun b _=>h b,t⟩
theorem gAll2_ahead{o:Oper}{l:List Oper}{u:List (Nat×Tmp)}{U:List (Option (List (Nat×Tmp)))}{j:Nat}(hj:j≠j0)(hr:afO .any ops ops.size j0 j=true)(h:∀(vals:Nat→Value) W,Ra false w0 W→afg (Φ false) vals W u→gOp P ops R (Φ false j) o (gFr vals u a) W)(t:gAll2 P ops Ra R R1 j0 Φ a w0 l U (j+1)):gAll2 P ops Ra R R1 j0 Φ a w0 (o::l) (some u::U) j:=⟨by
  rw[if_neg hj]
  intro b hb
  cases b with
  |false=>exact h
  |true=>rw[hr]at hb;exact absurd (hb rfl) (by simp),t⟩
theorem gAll2_here{o:Oper}{l:List Oper}{u:List (Nat×Tmp)}{U:List (Option (List (Nat×Tmp)))}{j:Nat}(hj:j=j0)(h:∀(vals:Nat→Value) W,Ra false w0 W→afg (Φ false) vals W u→gOp P ops R1 (Φ true j) o (gFr vals u a) W)(t:gAll2 P ops Ra R R1 j0 Φ a w0 l U (j+1)):gAll2 P ops Ra R R1 j0 Φ a w0 (o::l) (some u::U) j:=⟨by rw[if_pos hj];exact h,t⟩
theorem gAll2_none{o:Oper}{l:List Oper}{U:List (Option (List (Nat×Tmp)))}{j:Nat}(t:gAll2 P ops Ra R R1 j0 Φ a w0 l U (j+1)):gAll2 P ops Ra R R1 j0 Φ a w0 (o::l) (none::U) j:=t
theorem gAll2_nil{U:List (Option (List (Nat×Tmp)))}{j:Nat}:gAll2 P ops Ra R R1 j0 Φ a w0 [] U j:=trivial
theorem gAll2_at{m:Nat}:∀(l:List Oper) (j:Nat),gAll2 P ops Ra R R1 j0 Φ a w0 l (gU md ops E m l j) j→∀i o,l[i]?=some o→E.getD (j+i) true=false→j+i<m →
  (j+i≠j0→∀(b:Bool),(b=true→afO .any ops ops.size j0 (j+i)=false)→∀(vals:Nat→Value) W,Ra b w0 W→(∀k∈aeB md ops E o,Φ b k (vals k) W)→gOp P ops R (Φ b (j+i)) o (aff ops vals (aeB md ops E o) a) W) ∧
  (j+i=j0→∀(vals:Nat→Value) W,Ra false w0 W→(∀k∈aeB md ops E o,Φ false k (vals k) W)→gOp P ops R1 (Φ true (j+i)) o (aff ops vals (aeB md ops E o) a) W)
 |[],_,_,i,o,h=>by simp at h
 |p::l,j,h,0,o,ho=>by
  simp at ho;subst ho
  intro hE hm
  rw[gU,if_neg (by simp at hE hm⊢;exact⟨hE,hm⟩)]at h
  have h1:=h.1
  refine⟨fun hj b hb vals W hg hd=>?_,fun hj vals W hg hd=>?_⟩
  ·rw[if_neg (by simpa using hj)]at h1
   have:=h1 b (by simpa using hb) vals W hg (by unfold arl;exact afo _ hd)
   unfold arl at this
   rw[ahE]at this
   exact this
  ·rw[if_pos (by simpa using hj)]at h1
   have:=h1 vals W hg (by unfold arl;exact afo _ hd)
   unfold arl at this
   rw[ahE]at this
   exact this
 |p::l,j,h,i+1,o,ho=>by
  have h':gAll2 P ops Ra R R1 j0 Φ a w0 l (gU md ops E m l (j+1)) (j+1):=by
   rw[gU]at h
   split at h
   ·exact h
   ·exact h.2
  have:=gAll2_at l (j+1) h' i o (by simpa using ho)
  have e:j+1+i=j+(i+1):=by omega
  rw[e]at this;exact this
end
end
theorem wpAny_turned2{P:Program}{Q:Exit→Act→World→Prop}{a:Act}{w w0:World}{l:List Oper}{fuel:Nat}{E:Array Bool}(Ra:Bool→World→World→Prop)(R R1:World→World→Prop)(j0 m:Nat)(Φ:Bool→Nat→Value→World→Prop)(U:List (Option (List (Nat×Tmp))))(V:List (Nat×Tmp))(T:List Oper)(hB:apW .any l.toArray E m=true)(hj0:decide (j0<m)=true)(hE0:E.getD j0 true=false)(hfu:afS E l.length≤fuel)(hU:gU .any l.toArray E m l 0=U)(hV:atp l.toArray E m=V)(hT:afe E (l.drop m) m=T)(hR0:∀x,R x x)(hR1:∀x,R1 x x)(hRa:∀b x y z,Ra b x y→R y z→Ra b x z)(hRb:∀x y z v,Ra false x y→R1 y z→Φ true j0 v z→Ra true x z)(hw0:Ra false w0 w)(hst:∀b k v w w',R w w'→Φ b k v w→Φ b k v w')(hst1:∀k v w w',R1 w w'→Φ false k v w→Φ true k v w')(hops0:gAll2 P l.toArray Ra R R1 j0 Φ a w0 l U 0)(hend0:∀(vals:Nat→Value) W,Ra true w0 W→afg (Φ true) vals W V→ahX (wpList P l.toArray Q T (gFr vals V a) W)):wpAny P .any l.toArray Q fuel E a w:=by
 have hF:=amg hB
 have hend:=fun vals W (h:Ra true w0 W) d=>(hend0 vals W h d).out
 subst hU hV hT
 refine gAny2 (a:=a) (w0:=w0) (m:=m) (Φ:=Φ) (R:=R) (E:=E) hR0 hR1 hRa hRb hst hst1 hF (of_decide_eq_true hj0) (fun j o ho hE hj hne b hb vals W hg hd=>?_) (fun o ho hE vals W hg hd=>?_) (fun vals W hg hp=>?_) fuel E (fun _=>undef) a _ ?_ (by simpa using hfu)
 ·have:=(gAll2_at l 0 hops0 j o (by simpa using ho) (by simpa using hE) (by omega)).1 (by simpa using hne) b (by simpa using hb) vals W hg hd
  simpa using this
 ·have:=(gAll2_at l 0 hops0 j0 o (by simpa using ho) (by simpa using hE) (by have:=of_decide_eq_true hj0;omega)).2 (by simp) vals W hg hd
  simpa using this
 ·have:=hend vals W hg (by unfold atp;exact afo _ fun k hk=>hp k (List.mem_filter.1 hk).1)
  unfold atp at this
  rw[ahE,ajD]at this
  simpa using this
 ·refine⟨rfl,rfl,hF.es,fun k o ho hE hl=>?_,fun _ _=>rfl,fun k hk hE hl=>?_,by rw[hE0];exact hw0,fun k o ho hl i hi=>?_,fun k hk=>hk,fun k hk hks hE=>hE⟩
  ·rw[hE]at hl;cases hl
  ·rw[hE]at hl;cases hl
  ·exact hF.shut k o ho hl i hi
end Go.Proofs.YtmffejnigppbpaaGreatDoor
namespace Go.Proofs.YtmffejnigppbpaaGreatDoor
open Go.RowKit
theorem cntN_perm{u:List UInt8}{a b:List (List UInt8)}(h:a.Perm b):aek u a=aek u b:=by
 unfold aek
 exact(h.filter _).length_eq
theorem rightC_perm{v:Int}{xs ys:List It}(h:xs.Perm ys):acN v xs=acN v ys:=by
 rw[Bool.eq_iff_iff,aed,aed,h.length_eq]
 have e:∀u,aek u (xs.map It.n)=aek u (ys.map It.n):=fun u=>cntN_perm (h.map _)
 simp only[e,h.mem_iff]
end Go.Proofs.YtmffejnigppbpaaGreatDoor
namespace Go.Proofs.YtmffejnigppbpaaGreatDoor
open Go.RowKit
theorem info_item:(Tryz.prog.info? 38).map (fun i=>(i.zero,i.size,i.bytes))=some (some (.agg #[.string ⟨#[]⟩,.string ⟨#[]⟩,.slice none 0 0,.int .i64 0,.string ⟨#[]⟩,.slice none 0 0,.int .i64 0,.int .i64 0,.int .i64 0,.int .i64 0,.int .i64 0,.int .i64 0,.bool false,.int .i64 0,.int .i64 0]),15,176):=by kernel_rfl
theorem grow_item(n:Nat)(w:World)(hn:n≤1000000):Uz 79 #[.slice none 0 0,.int .i64 n] w (fun v w'=>w'.ownsRow w.heap.size 38 15 v 0 []∧(n=0→v=.slice none 0 0)):=by
 by_cases h0:n=0
 ·subst h0
  go_enter Tryz.func79,Tryz.ntmps79
  go_wp2
  go_ret
  exact⟨_,rfl,⟨World.ownsRow_nil _ _ _ _,fun _=>rfl⟩,G.refl _⟩
 ·obtain⟨i0,hi,hz0,hz1,hz2⟩:=info_parts info_item
  have hrz:∀ty,∃C:Array Value,C.size=grownCap w n 0 38*15∧(Builtin.append_ #[22,3] ty #[.slice none 0 0,.int .i64 (n:Int)]).run Tryz.prog w=.ok (.slice (some ⟨w.heap.size,0,none⟩) n (grownCap w n 0 38)) (w.drew.alloc (.cells C 38)):=fun ty=>by
   have h:=Lib.run_append_grow_zeros (P:=Tryz.prog) w 22 3 ty 38 i0 (.agg #[.string ⟨#[]⟩,.string ⟨#[]⟩,.slice none 0 0,.int .i64 0,.string ⟨#[]⟩,.slice none 0 0,.int .i64 0,.int .i64 0,.int .i64 0,.int .i64 0,.int .i64 0,.int .i64 0,.bool false,.int .i64 0,.int .i64 0]) .i64 .i64 Tryz.underlying22 Tryz.underlying3 hi hz0 none 0 0 [] (run_firstCells_none w.drew i0.size 0 0 0) n (by omega) (by omega) (by omega) (by omega) (by rw[hz2];omega) (by rw[Nat.zero_add];exact growslice_fits (by omega) (by rw[hz2];omega))
   rw[Nat.zero_add]at h
   refine⟨_,?_,h⟩
   have hG:=grownCap_ge w n 0 38
   simp[Builtin.zeroCells,Value.cells,hz1]
   omega
  obtain⟨C,hC,hr⟩:=hrz 22
  have hG:=grownCap_ge w n 0 38
  have hG2:=grownCap_le_maxLen w n 0 38 (by unfold maxLen;omega)
  unfold maxLen at hG2
  have hn0:0<(n:Int):=by omega
  have Hown:∀cap,grownCap w n 0 38=cap→(w.drew.alloc (.cells C 38)).ownsRow w.heap.size 38 15 (.slice (some ⟨w.heap.size,0,none⟩) 0 cap) 0 []:=fun cap hcap=>
   World.ownsRow_made (e:=38) (size:=15) (base:=w.heap.size) w.drew C cap (Nat.le_refl _) (by unfold maxLen;omega) (by rw[←hcap];exact hC)
  have HO:=hid Hown
  clear Hown hC
  generalize hcap:grownCap w n 0 38=cap at *
  have hcap':=hid hcap
  clear hcap
  go_enter Tryz.func79,Tryz.ntmps79
  go_wp2_with (at_builtin;refine Lib.wpList_append_run _ rfl _ _ _ _ rfl _ _ rfl rfl _ _ hr ?_)
  go_ret
  exact⟨_,rfl,⟨HO.out cap rfl,fun h=>absurd h h0⟩,((G.refl w).alloc _).drew⟩
theorem wpList_append_item{ops:Array Oper}{rest:List Oper}{o:Oper}{a:Act}{Q:Exit→Act→World→Prop}{w wr:World}(hgd:o.guard=none)(s x:Operand)(ho:o.op=.call { callee:=.builtin .append,args:=#[s,x],argTypes:=#[22,22] })(v:Value)(n:Nat)(xs:List Value)(hs:a.eval s=v)(hown:wr.ownsRow w.heap.size 38 15 v n xs)(hg:G w wr)(src:Value)(m:Nat)(ys:List Value)(hx:a.eval x=src)(hsrc:afJ 15 wr src m ys)(hb:n+m≤1000000)(h:∀v' w',w'.ownsRow w.heap.size 38 15 v' (n+m) (xs++ys)→G w w'→(v'=.slice none 0 0↔v=.slice none 0 0∧m=0)→wpList Tryz.prog ops Q rest (a.put o.dst v') w') :
  wpList Tryz.prog ops Q (o::rest) a wr:=by
 obtain⟨i0,hi,hz0,hz1,hz2⟩:=info_parts info_item
 obtain⟨hyl,h1c,hsrc⟩:=hsrc
 have key:∀(ad:Addr) (c:Nat),src=.slice (some ad) m c→(∀j u,ys[j]?=some u→wr.cell? (ad.add j)=some u)→wpList Tryz.prog ops Q (o::rest) a wr:=by
  intro ad c hv hc
  refine wpList_append_own _ hgd s x 22 ho w.heap.size 38 i0 _ 15 176 Tryz.underlying22 hi hz0 hz1 hz2 rfl (by decide) v n _ hs hown ad m c ys (by rw[hx,hv]) hyl hc h1c (by unfold maxLen;omega) (by omega) (by have:=hg.size;omega) ?_
  intro v' w' h2 h3 h4
  refine h v' w' h2 ?_ ?_
  ·exact Below.grown hg h3 (by have:=hg.size;omega) (fun k hk=>(hown.lt k hk).1)
  ·rw[h4]
 rcases hsrc with⟨rfl,hv|⟨ad,c,hv⟩⟩|⟨b,off,cap,hv,hlt,hm0,hc⟩
 ·have hy0:ys=[]:=List.eq_nil_of_length_eq_zero (by omega)
  subst hy0
  exact wpList_append_own_none hgd s x 22 ho w.heap.size 38 i0 15 Tryz.underlying22 hi v n _ hs hown (by rw[hx,hv]) (h v wr (by simpa using hown) hg (by simp))
 ·have hy0:ys=[]:=List.eq_nil_of_length_eq_zero (by omega)
  subst hy0
  exact key ad c hv (by intro j u hj;simp at hj)
 ·refine key ⟨b,off,none⟩ cap hv ?_
  intro j u hj
  have hjl:j<ys.length:=by
   rcases Nat.lt_or_ge j ys.length with h|h
   ·exact h
   ·rw[List.getElem?_eq_none h]at hj;cases hj
  have e:(⟨b,off,none⟩:Addr).add j=⟨b,off+j,none⟩:=by unfold Addr.add;split<;>simp_all
  rw[e,hc j hjl]
  simpa[List.getElem?_eq_getElem hjl]using hj
theorem concat_item{q:Nat}{a b:Value}{n m:Nat}{xs ys:List Value}{w:World}(h0:w.cell? ⟨q,0,none⟩=some a)(h1:w.cell? ⟨q,1,none⟩=some b)(hq:q<w.heap.size)(ha:afJ 15 w a n xs)(hb:afJ 15 w b m ys)(lx:n≤100000)(ly:m≤100000) :
  Uz 41 #[.slice (some ⟨q,0,none⟩) 2 2] w (fun v w'=>w'.ownsRow w.heap.size 38 15 v (n+m) (xs++ys)∧(n+m=0→v=.slice none 0 0)):=by
 obtain⟨pa,ca,hva⟩:=ha.len
 obtain⟨pb,cb,hvb⟩:=hb.len
 subst hva;subst hvb
 have Ha:=hid ha
 have Hb:=hid hb
 clear ha hb
 go_enter Tryz.func41,Tryz.ntmps41
 go_wp2
 refine wp_loop_rounds 3 ?_
 rw[rounds_succ]
 go_wp2
 rw[rounds_succ]
 go_wp2
 rw[rounds_succ]
 go_wp2_with fail
 have Hg:=grow_item (n+m) w (by omega)
 rw[show((n+m:Nat):Int)=(n:Int)+m from by omega]at Hg
 refine Hg.use ?_
 rintro v w1 ⟨hown,hnil⟩ g1
 have Hn:=hid hnil
 clear hnil Hg
 have c0:=h0
 rw[←g1.cell (p:=⟨q,0,none⟩) hq]at c0
 have c1:=h1
 rw[←g1.cell (p:=⟨q,1,none⟩) hq]at c1
 go_wp2_with fail
 refine wp_loop_rounds 3 ?_
 rw[rounds_succ]
 go_wp2_with (at_builtin;refine wpList_append_item (w:=w) rfl _ _ rfl _ 0 [] rfl hown g1 _ n xs rfl (Ha.out.grow g1) (by omega) ?_;intro v2 w2 hown2 g2 hn2)
 rw[rounds_succ]
 have c2:=h1
 rw[←g2.cell (p:=⟨q,1,none⟩) hq]at c2
 have HN2:=hid hn2
 clear hn2 c0 c1
 go_wp2_with (at_builtin;refine wpList_append_item (w:=w) rfl _ _ rfl _ _ _ rfl hown2 g2 _ m ys rfl (Hb.out.grow g2) (by omega) ?_;intro v3 w3 hown3 g3 hn3)
 rw[rounds_succ]
 have HN3:=hid hn3
 clear hn3
 go_wp2_with fail
 go_ret
 refine⟨_,rfl,⟨by simpa using hown3,?_⟩,g3⟩
 intro he
 show v3=_
 exact HN3.out.2 ⟨HN2.out.2 ⟨Hn.out he,by omega⟩,by omega⟩
end Go.Proofs.YtmffejnigppbpaaGreatDoor
namespace Go.Proofs.YtmffejnigppbpaaGreatDoor
open Go.RowKit
theorem BR.put{w0:World}{B:Nat}{T:TypeId}:∀(vs:List Value) (o:Nat) {cur:List Value} {W:World},BR w0 B T cur W→o+vs.length≤cur.length→∃cur',BR w0 B T cur' (W.setCells B o vs)∧cur'.length=cur.length∧∀k,cur'[k]?=if o≤k∧k<o+vs.length then vs[k-o]? else cur[k]?
 |[],o,cur,W,h,_=>⟨cur,h,rfl,fun k=>by rw[if_neg (by rintro⟨h1,h2⟩;simp at h2;omega)]⟩
 |v::vs,o,cur,W,h,hl=>by
  obtain⟨cur',h1,h2,h3⟩:=BR.put vs (o+1) (h.set o v) (by simp at hl⊢;omega)
  refine⟨cur',h1,by simpa using h2,fun k=>?_⟩
  rw[h3 k]
  by_cases e:k=o
  ·subst e
   rw[if_neg (by omega),if_pos (by simp),List.getElem?_set,if_pos rfl,if_pos (by simp at hl;omega),Nat.sub_self]
   rfl
  ·by_cases c:o+1≤k∧k<o+1+vs.length
   ·rw[if_pos c,if_pos (by simp;omega),show k-o=(k-(o+1))+1 by omega,List.getElem?_cons_succ]
   ·rw[if_neg c,if_neg (by simp;omega),List.getElem?_set,if_neg (fun h=>e h.symm)]
theorem EX.putAll{w0 W:World}{D cap:Nat}{xs:List It}(h:EX w0 D cap xs (fun _=>Wo D) W){i:Nat}{x:It}(hx:xs[i]?=some x)(y:It)(pv' lv':Value)(hok:adE (Wo D W) y pv' lv'):EX w0 D cap (xs.set i y) (fun _=>Wo D) (W.setCells D (i*15) (y.cells pv' lv')):=by
 obtain⟨cur,h1,h2,h3,h4⟩:=h
 have hi:=(List.getElem?_eq_some_iff.1 hx).1
 have hm:=Nat.mul_le_mul_right 15 (show i+1≤cap by omega)
 have hW:∀(vs:List Value) (o:Nat) (V:World),Wo D (V.setCells D o vs)=Wo D V:=fun vs=>by
  induction vs with
  |nil=>intro o V;rfl
  |cons v vs ih=>intro o V;exact(ih (o+1) (V.setCell ⟨D,o,none⟩ v)).trans (Wo.set _ _ _ _)
 obtain⟨cur',b1,b2,b3⟩:=BR.put (y.cells pv' lv') (i*15) h1 (by show i*15+15≤_;omega)
 refine⟨cur',b1,by rw[b2];exact h2,by simpa using h3,fun j z hz=>?_⟩
 rw[List.getElem?_set]at hz
 by_cases e:i=j
 ·subst e
  rw[if_pos rfl,if_pos hi]at hz
  cases hz
  refine⟨pv',lv',by show adE (Wo D _) y pv' lv';rw[hW];exact hok,fun k u hu=>?_⟩
  have hk:k<15:=(List.getElem?_eq_some_iff.1 hu).1
  rw[b3,if_pos ⟨by omega,by show _<i*15+15;omega⟩,Nat.add_sub_cancel_left]
  exact hu
 ·rw[if_neg e]at hz
  obtain⟨qv,mv,k1,k2⟩:=h4 j z hz
  refine⟨qv,mv,by show adE (Wo D _) z qv mv;rw[hW];exact k1,fun k u hu=>?_⟩
  have hk:k<15:=(List.getElem?_eq_some_iff.1 hu).1
  rw[b3,if_neg (by show ¬(_∧_<i*15+15);omega)]
  exact k2 k u hu
end Go.Proofs.YtmffejnigppbpaaGreatDoor
namespace Go.Proofs.YtmffejnigppbpaaGreatDoor
open Go.RowKit
def revRa(w0 wr:World)(D cap:Nat)(M':List It)(b:Bool)(x W:World):Prop:=cond b (EX w0 D cap M' (fun _=>Wo D) W∧G (Wo D wr) (Wo D W)) (G wr W)
theorem revRa.grow{w0 wr:World}{D cap:Nat}{M':List It}{b:Bool}{x y z:World}(h:revRa w0 wr D cap M' b x y)(g:G y z):revRa w0 wr D cap M' b x z:=by
 cases b with
 |false=>exact G.trans h g
 |true=>exact⟨h.1.grow (fun _ _ _ h=>Wo.g h) g,h.2.trans (Wo.g g)⟩
theorem wo_sets(D:Nat)(vs:List Value)(o:Nat)(V:World):Wo D (V.setCells D o vs)=Wo D V:=by
 induction vs generalizing o V with
 |nil=>rfl
 |cons v vs ih=>exact(ih (o+1) (V.setCell ⟨D,o,none⟩ v)).trans (Wo.set _ _ _ _)
def revPhi3(w0 wr:World)(D n cap i j:Nat)(M:List It)(x y:It)(pa la pb lb:Value)(b:Bool)(k:Nat)(v:Value)(W:World):Prop:=
 match k with
 |0=>v=.slice (some ⟨D,0,none⟩) n cap
 |1=>v=.int .i64 (i:Int)
 |2=>v=.slice (some ⟨D,0,none⟩) n cap
 |3=>v=.int .i64 (j:Int)
 |4=>v=.slice (some ⟨D,0,none⟩) n cap
 |5=>v=.int .i64 (j:Int)
 |6=>v=.pointer (some ⟨D,j*15,none⟩)
 |7=>v=y.val pb lb
 |8=>v=.slice (some ⟨D,0,none⟩) n cap
 |9=>v=.int .i64 (i:Int)
 |10=>v=.pointer (some ⟨D,i*15,none⟩)
 |11=>v=x.val pa la
 |12=>v=.pointer (some ⟨D,i*15,none⟩)
 |13=>b=true∧EX w0 D cap (M.set i y) (fun _=>Wo D) W∧G (Wo D wr) (Wo D W)
 |_=>True
theorem reverse_perm{w0:World}{D cap:Nat}(L:List It)(w:World)(h:EX w0 D cap L (fun _=>Wo D) w)(hl:L.length≤100000) :
  Calls Tryz.prog 42 #[.slice (some ⟨D,0,none⟩) L.length cap] w fun e w'=>e=.returned (.tuple #[])∧∃L':List It,L'.Perm L∧EX w0 D cap L' (fun _=>Wo D) w':=by
 have HEX0:=hid h
 obtain⟨n,hn⟩:∃n,L.length=n:=⟨_,rfl⟩
 have HN:=hid hn
 rw[hn]
 clear h
 go_enter Tryz.func42,Tryz.ntmps42
 go_wp2_with fail
 go_loopw [2,3] (fun iv jv wr=>∃i:Nat,∃M:List It,i≤n∧iv=.int .i64 i∧jv=.int .i64 ((n:Int)-1-i)∧M.Perm L∧EX w0 D cap M (fun _=>Wo D) wr) (fun iv _ _=>n-(intOf iv).toNat)
 case atStart=>exact⟨0,L,Nat.zero_le _,rfl,by simp,List.Perm.refl _,HEX0.out⟩
 case round=>
  obtain⟨i,M,hi,rfl,rfl,hp,hex⟩:=hrel
  have HP:=hid hp
  have HEX:=hid hex
  have hml:M.length=n:=by rw[hp.length_eq];exact HN.out
  clear hp hex
  by_cases hlt:(i:Int)<(n:Int)-1-i
  ·obtain⟨j,hj⟩:∃j:Nat,n-1-i=j:=⟨_,rfl⟩
   have hji:(n:Int)-1-i=(j:Int):=by omega
   rw[hji]at hlt⊢
   have hxi:=List.getElem?_eq_getElem (l:=M) (i:=i) (by omega)
   have hxj:=List.getElem?_eq_getElem (l:=M) (i:=j) (by omega)
   have HPM:=hid (@List.set_set_perm It M i j (by omega) (by omega))
   obtain⟨x,hx⟩:∃x,M[i]'(by omega)=x:=⟨_,rfl⟩
   obtain⟨y,hy⟩:∃y,M[j]'(by omega)=y:=⟨_,rfl⟩
   rw[hx]at hxi HPM
   rw[hy]at hxj HPM
   obtain⟨pva,lva,oka,ca⟩:=HEX.out.at_ hxi
   obtain⟨pvb,lvb,okb,cb⟩:=HEX.out.at_ hxj
   obtain⟨pa,pc,rfl⟩:=oka.pv
   obtain⟨la,lc,rfl⟩:=oka.lv
   obtain⟨pb,pd,rfl⟩:=okb.pv
   obtain⟨lb,ld,rfl⟩:=okb.lv
   have HATA:=hid (show alo wr D (i*15) x _ _ from⟨ca,oka.sub (Wo.sub D wr)⟩)
   have HATB:=hid (show alo wr D (j*15) y _ _ from⟨cb,okb.sub (Wo.sub D wr)⟩)
   have hDl:=HEX.out.lt
   have hin:(i:Int)<(n:Int):=by omega
   have hjn:(j:Int)<(n:Int):=by omega
   have OKA:=hid oka
   have OKB:=hid okb
   have HXI:=hid hxi
   have HXJ:=hid hxj
   clear ca cb oka okb hxi hxj hx hy
   go_upto_region 3 with fail
   refine wp_region_any (by kernel_rfl) ?_
   refine wpAny_turned2 (E:=#[false,false,false,false,false,false,false,false,false,false,false,false,false,false,false,false]) (revRa w0 wr D cap (M.set i y)) G (fun _ _=>True) 13 14 (revPhi3 w0 wr D n cap i j M x y (.slice pa x.ps.length pc) (.slice la x.v.ps.length lc) (.slice pb y.ps.length pd) (.slice lb y.v.ps.length ld)) [some [],some [],some [],some [],some [],some [],some [(4,18),(5,19)],some [(6,20)],some [],some [],some [(8,22),(9,23)],some [(10,24)],some [(0,14),(1,15),(0,14),(1,15)],some [(12,26),(7,21),(7,21)],none,none] [(0,14),(1,15),(2,16),(3,17),(4,18),(5,19),(6,20),(7,21),(8,22),(9,23),(10,24),(11,25),(12,26)] _ (by kernel_rfl) (by kernel_rfl) rfl (by decide) (by kernel_rfl) (by kernel_rfl) rfl G.refl (fun _=>trivial) (fun b x y z h g=>revRa.grow h g) (fun x y z v h g p=>p.2) (w0:=wr) ((G.refl wr).drew) ?_ ?_ ?_ ?_
   ·intro b k v W W' g h
    match k,h with
    |0,h=>exact h
    |1,h=>exact h
    |2,h=>exact h
    |3,h=>exact h
    |4,h=>exact h
    |5,h=>exact h
    |6,h=>exact h
    |7,h=>exact h
    |8,h=>exact h
    |9,h=>exact h
    |10,h=>exact h
    |11,h=>exact h
    |12,h=>exact h
    |13,h=>exact by obtain⟨e,h1,h2⟩:=h;exact⟨e,h1.grow (fun _ _ _ h=>Wo.g h) g,h2.trans (Wo.g g)⟩
    |n+14,h=>trivial
   ·intro k v W W' g h
    match k,h with
    |0,h=>exact h
    |1,h=>exact h
    |2,h=>exact h
    |3,h=>exact h
    |4,h=>exact h
    |5,h=>exact h
    |6,h=>exact h
    |7,h=>exact h
    |8,h=>exact h
    |9,h=>exact h
    |10,h=>exact h
    |11,h=>exact h
    |12,h=>exact h
    |13,h=>exact by obtain⟨e,_⟩:=h;cases e
    |n+14,h=>trivial
   ·refine gAll2_ahead (by decide) (by kernel_rfl) (fun vals W g d=>?_)<|gAll2_ahead (by decide) (by kernel_rfl) (fun vals W g d=>?_)<|gAll2_some (by decide) (fun b vals W g d=>?_)<|gAll2_some (by decide) (fun b vals W g d=>?_)<|gAll2_ahead (by decide) (by kernel_rfl) (fun vals W g d=>?_)<|gAll2_ahead (by decide) (by kernel_rfl) (fun vals W g d=>?_)<|gAll2_ahead (by decide) (by kernel_rfl) (fun vals W g d=>?_)<|gAll2_ahead (by decide) (by kernel_rfl) (fun vals W g d=>?_)<|gAll2_ahead (by decide) (by kernel_rfl) (fun vals W g d=>?_)<|gAll2_ahead (by decide) (by kernel_rfl) (fun vals W g d=>?_)<|gAll2_ahead (by decide) (by kernel_rfl) (fun vals W g d=>?_)<|gAll2_ahead (by decide) (by kernel_rfl) (fun vals W g d=>?_)<|gAll2_ahead (by decide) (by kernel_rfl) (fun vals W g d=>?_)<|gAll2_here rfl (fun vals W g d=>?_)<|gAll2_none<|gAll2_none gAll2_nil
    ·refine nX rfl rfl rfl fun K hK=>?_
     simp only[gFr]at hK⊢
     go_simp
     exact hK _ _ (G.refl _) rfl
    ·refine nX rfl rfl rfl fun K hK=>?_
     simp only[gFr]at hK⊢
     go_simp
     exact hK _ _ (G.refl _) rfl
    ·refine nX rfl rfl rfl fun K hK=>?_
     simp only[gFr]at hK⊢
     go_simp
     exact hK _ _ (G.refl _) rfl
    ·refine nX rfl rfl rfl fun K hK=>?_
     simp only[gFr]at hK⊢
     go_simp
     exact hK _ _ (G.refl _) rfl
    ·refine nX rfl rfl rfl fun K hK=>?_
     simp only[gFr]at hK⊢
     go_simp
     exact hK _ _ (G.refl _) rfl
    ·refine nX rfl rfl rfl fun K hK=>?_
     simp only[gFr]at hK⊢
     go_simp
     exact hK _ _ (G.refl _) rfl
    ·obtain⟨d4,d5,_⟩:=d
     change vals 4=_ at d4
     change vals 5=_ at d5
     refine nX rfl rfl rfl fun K hK=>?_
     simp only[gFr,d4,d5]at hK⊢
     have hmm:=hjn
     go_simp
     exact hK _ _ (G.refl _) rfl
    ·obtain⟨d6,_⟩:=d
     change vals 6=_ at d6
     refine nX rfl rfl rfl fun K hK=>?_
     simp only[gFr,d6]at hK⊢
     have g':G wr W:=g
     obtain⟨b0,b1,b2,b3,b4,b5,b6,b7,b8,b9,b10,b11,b12,b13,b14⟩:=(HATB.out.grow hDl g').e
     go_simp
     exact hK _ _ (G.refl _) rfl
    ·refine nX rfl rfl rfl fun K hK=>?_
     simp only[gFr]at hK⊢
     go_simp
     exact hK _ _ (G.refl _) rfl
    ·refine nX rfl rfl rfl fun K hK=>?_
     simp only[gFr]at hK⊢
     go_simp
     exact hK _ _ (G.refl _) rfl
    ·obtain⟨d8,d9,_⟩:=d
     change vals 8=_ at d8
     change vals 9=_ at d9
     refine nX rfl rfl rfl fun K hK=>?_
     simp only[gFr,d8,d9]at hK⊢
     have hmm:=hin
     go_simp
     exact hK _ _ (G.refl _) rfl
    ·obtain⟨d10,_⟩:=d
     change vals 10=_ at d10
     refine nX rfl rfl rfl fun K hK=>?_
     simp only[gFr,d10]at hK⊢
     have g':G wr W:=g
     obtain⟨a0,a1,a2,a3,a4,a5,a6,a7,a8,a9,a10,a11,a12,a13,a14⟩:=(HATA.out.grow hDl g').e
     go_simp
     exact hK _ _ (G.refl _) rfl
    ·obtain⟨d0,d1,_,_,_⟩:=d
     change vals 0=_ at d0
     change vals 1=_ at d1
     refine nX rfl rfl rfl fun K hK=>?_
     simp only[gFr,d0,d1]at hK⊢
     have hmm:=hin
     go_simp
     exact hK _ _ (G.refl _) rfl
    ·obtain⟨d12,d7,_,_⟩:=d
     change vals 12=_ at d12
     change vals 7=_ at d7
     refine afb rfl rfl fun K hK=>?_
     have g':G wr W:=g
     obtain⟨a0,a1,a2,a3,a4,a5,a6,a7,a8,a9,a10,a11,a12,a13,a14⟩:=(HATA.out.grow hDl g').e
     have ex:=HEX.out.grow (fun _ _ _ h=>Wo.g h) g'
     have fz:=fun k=>ex.fz k
     simp only[gFr,d12,d7]at hK⊢
     go_simp
     refine hK _ trivial ⟨rfl,ex.putAll HXI.out y _ _ (OKB.out.grow (Wo.g g')),?_⟩
     exact(Wo.g g').trans (show G (Wo D W) (Wo D (W.setCells D (i*15) (y.cells (.slice pb y.ps.length pd) (.slice lb y.v.ps.length ld)))) by rw[wo_sets];exact G.refl _)
   ·intro vals W g d
    simp only[acS,ac1]at d
    obtain⟨d0,d1,d2,d3,d4,d5,d6,d7,d8,d9,d10,d11,d12,_⟩:=d
    change vals 0=_ at d0
    change vals 1=_ at d1
    change vals 2=_ at d2
    change vals 3=_ at d3
    change vals 4=_ at d4
    change vals 5=_ at d5
    change vals 6=_ at d6
    change vals 7=_ at d7
    change vals 8=_ at d8
    change vals 9=_ at d9
    change vals 10=_ at d10
    change vals 11=_ at d11
    change vals 12=_ at d12
    obtain⟨ex,gw⟩:=g
    have EXW:=hid ex
    have GW:=hid gw
    have hxj2:(M.set i y)[j]?=some y:=by rw[List.getElem?_set,if_neg (by omega)];exact HXJ.out
    obtain⟨pv3,lv3,ok3,c3⟩:=ex.at_ hxj2
    have hat3:alo W D (j*15) y pv3 lv3:=⟨c3,ok3.sub (Wo.sub D W)⟩
    obtain⟨a0,a1,a2,a3,a4,a5,a6,a7,a8,a9,a10,a11,a12,a13,a14⟩:=hat3.e
    have fz:=fun k=>EXW.out.fz k
    have HXJ2:=hid hxj2
    clear ex gw ok3 c3 hat3 hxj2
    refine⟨?_⟩
    show wpList _ _ _ [_,_] _ _
    simp only[gFr,d0,d1,d2,d3,d4,d5,d6,d7,d8,d9,d10,d11,d12]
    clear d0 d1 d2 d3 d4 d5 d6 d7 d8 d9 d10 d11 d12
    go_upto_region 2 with fail
    generalize hwz:World.setCell _ _ _=wz
    have EXZ:=hid (show EX w0 D cap ((M.set i y).set j x) (fun _=>Wo D) wz by rw[←hwz];exact EXW.out.putAll HXJ2.out x _ _ (OKA.out.grow GW.out))
    clear hwz a0 a1 a2 a3 a4 a5 a6 a7 a8 a9 a10 a11 a12 a13 a14 fz
    go_wp2_with fail
    go_roundw
    case measure=>simp[intOf];omega
    case rel=>exact⟨i+1,_,by omega,by go_num,by go_num,HPM.out.trans HP.out,EXZ.out⟩
  ·go_wp2_with fail
   exact bodyPost_end (results_none rfl _ _ _) rfl ⟨rfl,M,HP.out,HEX.out⟩
end Go.Proofs.YtmffejnigppbpaaGreatDoor
namespace Go.Proofs.YtmffejnigppbpaaGreatDoor
open Go.RowKit
theorem acK.parts{w:World}:∀(k:Nat) {xs:List It} {cs:List Value},acK w xs cs→acK w (xs.take k) (cs.take (k*15))∧acK w (xs.drop k) (cs.drop (k*15))
 |0,xs,cs,h=>by rw[Nat.zero_mul];exact⟨rfl,h⟩
 |k+1,[],cs,h=>by rw[show cs=[] from h];simp only[List.take_nil,List.drop_nil];exact⟨rfl,rfl⟩
 |k+1,x::xs,cs,⟨pv,lv,ds,e,h1,h2⟩=>by
  obtain⟨a,b⟩:=h2.parts k
  have hl:(x.cells pv lv).length=15:=rfl
  subst e
  have e1:(x.cells pv lv++ds).take ((k+1)*15)=x.cells pv lv++ds.take (k*15):=by rw[List.take_append,hl,List.take_of_length_le (by rw[hl];omega)];congr 2;omega
  have e2:(x.cells pv lv++ds).drop ((k+1)*15)=ds.drop (k*15):=by rw[List.drop_append,hl,List.drop_of_length_le (by rw[hl];omega),List.nil_append];congr 1;omega
  rw[e1,e2]
  exact⟨⟨pv,lv,_,rfl,h1,a⟩,b⟩
def NilIf(ok:Bool)(v:Value):Prop:=(ok=true∧v=.nilIface)∨(ok=false∧∃t e,v=.iface t e)
theorem nil_of{ver:Int}{xs:List It}{r:Value}{w:World}{ok:Bool}(h:ado ver xs r w)(ho:acN ver xs=ok):NilIf ok r:=by
 rcases h with⟨h1,h2⟩|⟨h1,c,k,he,_⟩
 ·exact .inl ⟨ho.symm.trans h1,h2⟩
 ·obtain⟨t,e,rfl⟩:=ad8.iface he
  exact .inr ⟨ho.symm.trans h1,_,_,rfl⟩
def turPhi7(cb ib off n ic i:Nat)(k:Nat)(v:Value)(W:World):Prop:=
 match k with
 |0=>v=.pointer (some ⟨cb,1,none⟩)
 |1=>v=.slice (some ⟨ib,off,none⟩) n ic
 |2=>v=.int .i64 (i:Int)
 |3=>v=.slice (some ⟨ib,off+i*15,none⟩) (n-i) (ic-i)
 |4=>v=.pointer (some ⟨cb,1,none⟩)
 |5=>v=.slice (some ⟨ib,off,none⟩) n ic
 |6=>v=.int .i64 (i:Int)
 |7=>v=.slice (some ⟨ib,off,none⟩) i ic
 |_=>True
def turPhi9(cv dv:Value)(ok:Bool)(k:Nat)(v:Value)(W:World):Prop:=
 match k with
 |0=>v=cv
 |1=>NilIf ok v
 |2=>v=.bool ok
 |3=>v=dv
 |4=>NilIf ok v
 |5=>v=.bool ok
 |_=>True
theorem cardTurned_walk(ver:Int)(iv:Value)(xs:List It)(at_:Int)(w:World)(h:UA w iv xs)(hf:iv=.slice none 0 0∨∃a n c,iv=.slice (some a) n c)(hl:xs.length≤1048576)(hL:∀y∈xs,ajS y≤1048576)(za : -9223372036854775808≤at_∧at_≤9223372036854775807)(hR:aeV w)(hE:UO w) :
  Um 8 #[acH ver iv,.int .i64 at_] w (.bool true):=by
 have WR:=hid (fun W (g:G w W)=>ah2 W (hR.grow g) (hR.grow g).hm (hE.grow g))
 have BG:=hid (fun W (g:G w W)=>asi ver iv xs W (h.grow g) (fun y hy=>avv (hL y hy)) hl)
 have HI:=hid h
 have HR:=hid hR
 have HE:=hid hE
 obtain⟨bb,hbb⟩:∃bb,ajl xs=bb:=⟨_,rfl⟩
 rw[hbb]at BG
 have HBB:=hid hbb
 obtain⟨ia,ic,rfl,_⟩:=h.len
 clear h hf hl hL hR hE hbb
 unfold acH at BG
 unfold acH
 go_enter Tryz.func8,Tryz.ntmps8
 go_wp2_with fail
 generalize hw1:w.alloc _=w1
 have HB1:=hid (show w1.heap[w.heap.size]?=some (.cells #[.int .i64 ver,.slice ia xs.length ic] 24 (0,0)) by rw[←hw1];exact heap_alloc_new w _)
 have G1:=hid (show G w w1 by rw[←hw1];exact(G.refl w).alloc _)
 clear hw1
 refine(WR.out w1 G1.out).use ?_
 intro w2 g2
 have G2:=hid (G1.out.trans g2)
 have HB2:=hid (uU HB1.out g2)
 clear g2 WR
 obtain⟨c0,c1⟩:=acP HB2.out
 go_wp2_with fail
 refine(BG.out w2 G2.out).use ?_
 intro w4 g4
 have G4:=hid (G2.out.trans g4)
 have HB4:=hid (uU HB2.out g4)
 clear g4 BG c0 c1
 cases bb with
 |true=>
  go_wp2_with fail
  go_ret
  exact⟨rfl,G4.out⟩
 |false=>
 obtain⟨h40,hsm⟩:=ajF HBB.out
 obtain⟨c0,c1⟩:=acP HB4.out
 by_cases h0:xs=[]
 ·have b0:((xs.length:Int)==0)=true:=by subst h0;rfl
  go_wp2_with fail
  go_ret
  exact⟨rfl,G4.out⟩
 have hpos:0<xs.length:=List.length_pos_iff.2 h0
 have b0:((xs.length:Int)==0)=false:=by rw[beq_eq_false_iff_ne];omega
 obtain⟨cs,hlies,hrow⟩:=(HI.out.grow G4.out).lies
 obtain⟨hcl,hone,a',cap',e,hcap,hcells⟩:=hlies
 obtain⟨ib,off,rfl,hb4,hcells⟩:=hcells (by omega)
 cases e
 have PK0:=fun W=>aqo at_ (xs.length:Int) W (by omega) (by omega)
 have hp:=amB at_ (n:=(xs.length:Int)) (by omega)
 obtain⟨i,hi2⟩:∃i,ak0 at_ (xs.length:Int)=i:=⟨_,rfl⟩
 rw[hi2]at PK0 hp
 have PK:=hid PK0
 have hilt:(i:Int)<(xs.length:Int):=hp
 have hil:i<xs.length:=by omega
 have HCL:=hid hcl
 have HONE:=hid hone
 have HROW:=hid hrow
 have HCC:=hid hcells
 have HSM:=hid hsm
 clear hcl hone hrow hcells PK0 hp hi2 hsm
 go_wp2_with fail
 refine(PK.out _).use ?_
 go_upto_region 7 with fail
 generalize hw5:w4.alloc _=w5
 have G45:=hid (show G w4 w5 by rw[←hw5];exact(G.refl w4).alloc _)
 have HD5:=hid (show w5.heap[w4.heap.size]?=some (.cells #[.int .i64 ver,.slice (some ⟨ib,off,none⟩) xs.length ic] 24 (0,0)) by rw[←hw5];exact heap_alloc_new w4 _)
 have HC5:=hid (uU HB4.out G45.out)
 clear hw5 c0 c1
 refine wp_region_any (by kernel_rfl) ?_
 refine acJ (E:=#[false,false,false,false,false,false,false,false,false,false,false,false]) G 8 (turPhi7 w.heap.size ib off xs.length ic i) [some [],some [(0,22)],some [],some [(1,23),(2,24)],some [],some [(4,26)],some [],some [(5,27),(6,28)],none,none,none,none] [(0,22),(1,23),(2,24),(3,25),(4,26),(5,27),(6,28),(7,29)] _ (by kernel_rfl) (by decide) (by kernel_rfl) (by kernel_rfl) rfl G.refl (fun _ _ _=>G.trans) (w0:=w5) ((G.refl w5).drew) ?_ ?_ ?_
 ·intro k v W W' g h
  match k,h with
  |0,h=>exact h
  |1,h=>exact h
  |2,h=>exact h
  |3,h=>exact h
  |4,h=>exact h
  |5,h=>exact h
  |6,h=>exact h
  |7,h=>exact h
  |n+8,h=>trivial
 ·refine lW (fun vals W g d=>?_)<|lW (fun vals W g d=>?_)<|lW (fun vals W g d=>?_)<|lW (fun vals W g d=>?_)<|lW (fun vals W g d=>?_)<|lW (fun vals W g d=>?_)<|lW (fun vals W g d=>?_)<|lW (fun vals W g d=>?_)<|UB<|UB<|UB<|UB adJ
  ·refine nX rfl rfl rfl fun K hK=>?_
   simp only[gFr]at hK⊢
   go_simp
   exact hK _ _ (G.refl _) rfl
  ·obtain⟨d0,_⟩:=d
   change vals 0=_ at d0
   refine nX rfl rfl rfl fun K hK=>?_
   simp only[gFr,d0]at hK⊢
   obtain⟨c0,c1⟩:=acP (uU HC5.out g)
   go_simp
   exact hK _ _ (G.refl _) rfl
  ·refine nX rfl rfl rfl fun K hK=>?_
   simp only[gFr]at hK⊢
   go_simp
   exact hK _ _ (G.refl _) rfl
  ·obtain⟨d1,d2,_⟩:=d
   change vals 1=_ at d1
   change vals 2=_ at d2
   refine nX rfl rfl rfl fun K hK=>?_
   simp only[gFr,d1,d2]at hK⊢
   have hle:i≤xs.length:=by omega
   have hne:¬ic=i:=by omega
   go_simp
   exact hK _ _ (G.refl _) rfl
  ·refine nX rfl rfl rfl fun K hK=>?_
   simp only[gFr]at hK⊢
   go_simp
   exact hK _ _ (G.refl _) rfl
  ·obtain⟨d4,_⟩:=d
   change vals 4=_ at d4
   refine nX rfl rfl rfl fun K hK=>?_
   simp only[gFr,d4]at hK⊢
   obtain⟨c0,c1⟩:=acP (uU HC5.out g)
   go_simp
   exact hK _ _ (G.refl _) rfl
  ·refine nX rfl rfl rfl fun K hK=>?_
   simp only[gFr]at hK⊢
   go_simp
   exact hK _ _ (G.refl _) rfl
  ·obtain⟨d5,d6,_⟩:=d
   change vals 5=_ at d5
   change vals 6=_ at d6
   refine nX rfl rfl rfl fun K hK=>?_
   simp only[gFr,d5,d6]at hK⊢
   have hle:i≤ic:=by omega
   go_simp
   exact hK _ _ (G.refl _) rfl
 ·intro vals W g d
  simp only[acS,ac1]at d
  obtain⟨d0,d1,d2,d3,d4,d5,d6,d7,_⟩:=d
  change vals 0=_ at d0
  change vals 1=_ at d1
  change vals 2=_ at d2
  change vals 3=_ at d3
  change vals 4=_ at d4
  change vals 5=_ at d5
  change vals 6=_ at d6
  change vals 7=_ at d7
  have GW:=hid g
  clear g
  refine⟨?_⟩
  show wpList _ _ _ [_,_,_,_] _ _
  simp only[gFr,d0,d1,d2,d3,d4,d5,d6,d7]
  clear d0 d1 d2 d3 d4 d5 d6 d7
  go_wp2_with fail
  generalize hwc:W.alloc _=wc
  have GC:=hid (show G W wc by rw[←hwc];exact(G.refl W).alloc _)
  have HQ:=hid (show wc.heap[W.heap.size]?=some (.cells #[.slice (some ⟨ib,off+i*15,none⟩) (xs.length-i) (ic-i),.slice (some ⟨ib,off,none⟩) i ic] 22 (0,0)) by rw[←hwc];exact heap_alloc_new W _)
  have G4C:=hid (G45.out.trans (GW.out.trans GC.out))
  clear hwc
  obtain⟨q0,q1⟩:=acP HQ.out
  have hcl:=HCL.out
  have hbc:ib<wc.heap.size:=Nat.lt_of_lt_of_le hb4 G4C.out.size
  have hcell:∀(j:Nat) (u:Value),cs[j]?=some u→wc.cell? ⟨ib,off+j,none⟩=some u:=fun j u hu=>by rw[G4C.out.cell (p:=⟨ib,off+j,none⟩) hb4];exact HCC.out j u hu
  have RA:afJ 15 wc (.slice (some ⟨ib,off+i*15,none⟩) (xs.length-i) (ic-i)) (xs.length-i) (cs.drop (i*15)):=by
   refine⟨by rw[List.length_drop,hcl];omega,fun u hu=>HONE.out u (List.mem_of_mem_drop hu),.inr ⟨ib,off+i*15,ic-i,rfl,hbc,by omega,fun j hj=>?_⟩⟩
   rw[List.length_drop]at hj
   have:=hcell (i*15+j) _ (List.getElem?_eq_getElem (by omega))
   rw[←Nat.add_assoc]at this
   rw[this,List.getElem_drop]
  have RB:afJ 15 wc (.slice (some ⟨ib,off,none⟩) i ic) i (cs.take (i*15)):=by
   refine⟨by rw[List.length_take,hcl];omega,fun u hu=>HONE.out u (List.mem_of_mem_take hu),?_⟩
   by_cases hi0:i=0
   ·exact .inl ⟨hi0,.inr ⟨_,_,by rw[hi0]⟩⟩
   ·refine .inr ⟨ib,off,ic,rfl,hbc,by omega,fun j hj=>?_⟩
    rw[List.length_take]at hj
    rw[hcell j _ (List.getElem?_eq_getElem (by omega)),List.getElem_take]
  have CT:=hid (concat_item q0 q1 (UI HQ.out) RA RB (by omega) (by omega))
  clear RA RB hcell q0 q1
  refine CT.out.use ?_
  rintro v w6 ⟨hown,_⟩ g6
  have hni:xs.length-i+i=xs.length:=by omega
  rw[hni]at hown
  have G46:=hid (G4C.out.trans g6)
  have HD6:=hid (uU HD5.out (GW.out.trans (GC.out.trans g6)))
  have HC6:=hid (uU HC5.out (GW.out.trans (GC.out.trans g6)))
  have hdb:w4.heap.size<wc.heap.size:=UI (uU HD5.out (GW.out.trans GC.out))
  clear g6 CT
  rcases hown.2 with⟨_,hz⟩|⟨D,cap,cur,rfl,hD,_⟩
  ·omega
  have HOWN:=hid hown
  clear hown
  obtain⟨d0,d1⟩:=acP HD6.out
  have fd:=fun i=>Lib.frozen_of_heap HD6.out i
  go_upto_region 8 with fail
  generalize hw7:World.setCell w6 _ _=w7
  have hwc4:w.heap.size<w4.heap.size:=UI HB4.out
  have HD7:=hid (show w7.heap[w4.heap.size]?=some (.cells #[.int .i64 ver,.slice (some ⟨D,0,none⟩) xs.length cap] 24 (0,0)) by rw[←hw7];exact UJ HD6.out rfl)
  have HC7:=hid (show w7.heap[w.heap.size]?=some (.cells #[.int .i64 ver,.slice (some ⟨ib,off,none⟩) xs.length ic] 24 (0,0)) by rw[←hw7];exact((afi w6 w4.heap.size 1 _).block _ (UI HC6.out) (by intro e;have:=Option.some.inj e;omega)).trans HC6.out)
  have G47:=hid (show G w4 w7 by rw[←hw7];exact afK G46.out (Nat.le_refl _))
  have OWN7:=hid (show aeP wc.heap.size w7 (.slice (some ⟨D,0,none⟩) xs.length cap) xs.length (cs.drop (i*15)++cs.take (i*15)) by rw[←hw7];exact aj3 HOWN.out hdb)
  have hLn:(xs.drop i++xs.take i).length=xs.length:=by simp;omega
  have EX7:=hid (EX.start OWN7.out ((acK.parts i HROW.out).2.append (acK.parts i HROW.out).1) hLn G47.out (by omega))
  have G7:=hid (G4.out.trans G47.out)
  clear hw7 d0 d1 fd HOWN OWN7
  have RV:=reverse_perm (xs.drop i++xs.take i) w7 EX7.out (by omega)
  rw[hLn]at RV
  obtain⟨d0,d1⟩:=acP HD7.out
  go_wp2_with fail
  refine RV.mono ?_
  rintro e w8 ⟨rfl,L,hp,hex⟩
  have hperm:L.Perm xs:=hp.trans (List.perm_append_comm.trans (by rw[List.take_append_drop]))
  have hmv:=hex.mv
  have HC8:=hid ((hmv.block _ (UI HC7.out) (by intro e;have:=Option.some.inj e;omega)).trans HC7.out)
  have HD8:=hid ((hmv.block _ (UI HD7.out) (by intro e;have:=Option.some.inj e;omega)).trans HD7.out)
  have G8:=hid (alz G7.out hmv (by omega))
  have hit:UA w8 (.slice (some ⟨D,0,none⟩) xs.length cap) L:=by
   have:=hex.items (fun _=>Wo.sub D w8)
   rwa [hperm.length_eq]at this
  obtain⟨ok,hok⟩:∃ok,acN ver xs=ok:=⟨_,rfl⟩
  have RC:=hid (fun V (g:G w8 V)=>show Uz 30 #[.agg #[.int .i64 ver,.slice (some ⟨ib,off,none⟩) xs.length ic]] V (fun r _=>NilIf ok r)from by
   have gg:=G8.out.trans g
   refine Calls.mono (aem ver _ xs V (HI.out.grow gg) (by omega) HSM.out (HR.out.grow gg) (HR.out.grow gg).hm (HE.out.grow gg)) ?_
   rintro e w' ⟨r,rfl,hr,hg⟩
   exact⟨_,rfl,nil_of hr hok,hg⟩)
  have RD:=hid (fun V (g:G w8 V)=>show Uz 30 #[.agg #[.int .i64 ver,.slice (some ⟨D,0,none⟩) xs.length cap]] V (fun r _=>NilIf ok r)from by
   have gg:=G8.out.trans g
   refine Calls.mono (aem ver _ L V (hit.grow g) (by rw[hperm.length_eq];omega) (fun y hy=>HSM.out y (hperm.mem_iff.1 hy)) (HR.out.grow gg) (HR.out.grow gg).hm (HE.out.grow gg)) ?_
   rintro e w' ⟨r,rfl,hr,hg⟩
   exact⟨_,rfl,nil_of hr ((rightC_perm hperm).trans hok),hg⟩)
  clear hit hp hex hmv d0 d1 RV hperm
  go_upto_region 9 with fail
  refine wp_region_any (by kernel_rfl) ?_
  refine acJ (E:=#[false,false,false,false,false,false,false,false]) G 6 (turPhi9 (.agg #[.int .i64 ver,.slice (some ⟨ib,off,none⟩) xs.length ic]) (.agg #[.int .i64 ver,.slice (some ⟨D,0,none⟩) xs.length cap]) ok) [some [],some [(0,36)],some [(1,37)],some [],some [(3,39)],some [(4,40)],none,none] [(0,36),(1,37),(2,38),(3,39),(4,40),(5,41)] _ (by kernel_rfl) (by decide) (by kernel_rfl) (by kernel_rfl) rfl G.refl (fun _ _ _=>G.trans) (w0:=w8) ((G.refl w8).drew) ?_ ?_ ?_
  ·intro k v W W' g h
   match k,h with
   |0,h=>exact h
   |1,h=>exact h
   |2,h=>exact h
   |3,h=>exact h
   |4,h=>exact h
   |5,h=>exact h
   |n+6,h=>trivial
  ·refine lW (fun vals W g d=>?_)<|lW (fun vals W g d=>?_)<|lW (fun vals W g d=>?_)<|lW (fun vals W g d=>?_)<|lW (fun vals W g d=>?_)<|lW (fun vals W g d=>?_)<|UB<|UB adJ
   ·refine nX rfl rfl rfl fun K hK=>?_
    simp only[gFr]at hK⊢
    obtain⟨c0,c1⟩:=acP (uU HC8.out g)
    go_simp
    exact hK _ _ (G.refl _) rfl
   ·obtain⟨d0,_⟩:=d
    change vals 0=_ at d0
    refine nX rfl rfl rfl fun K hK=>?_
    simp only[gFr,d0]at hK⊢
    go_simp
    refine(RC.out W g).use ?_
    intro r W' hr hg
    exact hK _ _ hg hr
   ·obtain⟨d1,_⟩:=d
    rcases d1 with⟨ho,e1⟩|⟨ho,ty,e,e1⟩
    ·refine nX rfl rfl rfl fun K hK=>?_
     simp only[gFr,e1]at hK⊢
     go_simp
     exact hK _ _ (G.refl _) (by rw[ho];rfl)
    ·refine nX rfl rfl rfl fun K hK=>?_
     simp only[gFr,e1]at hK⊢
     go_simp
     exact hK _ _ (G.refl _) (by rw[ho];rfl)
   ·refine nX rfl rfl rfl fun K hK=>?_
    simp only[gFr]at hK⊢
    obtain⟨d0',d1'⟩:=acP (uU HD8.out g)
    go_simp
    exact hK _ _ (G.refl _) rfl
   ·obtain⟨d3,_⟩:=d
    change vals 3=_ at d3
    refine nX rfl rfl rfl fun K hK=>?_
    simp only[gFr,d3]at hK⊢
    go_simp
    refine(RD.out W g).use ?_
    intro r W' hr hg
    exact hK _ _ hg hr
   ·obtain⟨d4,_⟩:=d
    rcases d4 with⟨ho,e1⟩|⟨ho,ty,e,e1⟩
    ·refine nX rfl rfl rfl fun K hK=>?_
     simp only[gFr,e1]at hK⊢
     go_simp
     exact hK _ _ (G.refl _) (by rw[ho];rfl)
    ·refine nX rfl rfl rfl fun K hK=>?_
     simp only[gFr,e1]at hK⊢
     go_simp
     exact hK _ _ (G.refl _) (by rw[ho];rfl)
  ·intro vals W g d
   simp only[acS,ac1]at d
   obtain⟨d0,d1,d2,d3,d4,d5,_⟩:=d
   change vals 0=_ at d0
   change vals 2=_ at d2
   change vals 3=_ at d3
   change vals 5=_ at d5
   have GZ:=hid (G8.out.trans g)
   clear g d1 d4
   refine⟨?_⟩
   show wpList _ _ _ [_,_] _ _
   simp only[gFr,d0,d2,d3,d5]
   clear d0 d2 d3 d5
   go_wp2_with fail
   go_ret
   exact⟨rfl,GZ.out⟩
end Go.Proofs.YtmffejnigppbpaaGreatDoor
