/-
  Texts merged into one: GenMake, GenRepl, Link, Held, FoldWidth.
-/
import Derived.Test.YtmffejnigppbpaaGreatDoorDXMA78
import Derived.Test.YtmffejnigppbpaaGreatDoorDXMRepl
import Derived.Deep.MidRow
import Derived.Deep.OwnRows
import Derived.Test.YtmffejnigppbpaaGreatDoorDXMVeil
import Derived.Test.YtmffejnigppbpaaGreatDoorDXCardRight
import Derived.Test.YtmffejnigppbpaaGreatDoorDXMA73
import Derived.Test.YtmffejnigppbpaaGreatDoorDXMA56
import Derived.Test.YtmffejnigppbpaaGreatDoorDXMA60
import Derived.Test.YtmffejnigppbpaaGreatDoorDXMA52
import Derived.Shelf.LaysM
set_option linter.unusedVariables false
set_option linter.unusedSimpArgs false
namespace Go.Proofs.YtmffejnigppbpaaGreatDoor
open Go.RowKit
def arj(w:World)(o:Nat)(xs:List (List UInt8)):Prop:=o<w.heap.size∧∀(j:Nat) (h:j<xs.length),w.cell? ⟨o,j,none⟩=some (.string (S xs[j]))
theorem arj.grow{w w':World}{o:Nat}{xs:List (List UInt8)}(h:arj w o xs)(g:G w w'):arj w' o xs:=⟨Nat.lt_of_lt_of_le h.1 g.size,fun j hj=>by rw[g.cell h.1];exact h.2 j hj⟩
structure MS(w0 w:World)(R:Nat)(f:UInt8→Int)(ts:Int):Prop where
 g:G w0 w
 rl:w0.heap.size≤R
 root:alr w R 0 [] 0 [] (.pointer none) (.slice none 0 0)
 c5:w.cell? ⟨R,5,none⟩=some (.int .i64 ts)
 map:∀c:UInt8,w.cell? ⟨R,6+c.toNat,none⟩=some (.int .u8 (f c))
theorem MS.put{w0 w:World}{R:Nat}{f:UInt8→Int}{ts:Int}(h:MS w0 w R f ts)(c:UInt8)(v:Int):MS w0 (w.setCell ⟨R,6+c.toNat,none⟩ (.int .u8 v)) R (fun c'=>if c'=c then v else f c') ts:=by
 have r:=h.root
 have o:∀j,j<6→(w.setCell ⟨R,6+c.toNat,none⟩ (.int .u8 v)).cell? ⟨R,j,none⟩=w.cell? ⟨R,j,none⟩:=fun j hj=>World.cell?_setCell_other _ _ _ _ (by first|(simp;done)|(simp;omega))
 refine⟨h.g.below.setCell (p:=⟨R,6+c.toNat,none⟩) h.rl _,h.rl,⟨(o _ (by omega)).trans r.c0,(o _ (by omega)).trans r.c1,(o _ (by omega)).trans r.c2,(o _ (by omega)).trans r.c3,(o _ (by omega)).trans r.c4,fun j=>by rw[World.frozen?_setCell];exact r.fz j⟩,(o _ (by omega)).trans h.c5,fun d=>?_⟩
 by_cases e:d=c
 ·subst e
  rw[if_pos rfl]
  exact World.cell?_setCell_same _ _ _ (h.map d)
 ·rw[if_neg e,World.cell?_setCell_other _ _ _ _ (by simp;intro e2;exact e (UInt8.toNat_inj.1 e2.symm))]
  exact h.map d
theorem MS.sum{w0 w:World}{R:Nat}{f:UInt8→Int}{ts:Int}(h:MS w0 w R f ts)(t:Int):MS w0 (w.setCell ⟨R,5,none⟩ (.int .i64 t)) R f t:=by
 have r:=h.root
 have o:∀j,j≠5→(w.setCell ⟨R,5,none⟩ (.int .i64 t)).cell? ⟨R,j,none⟩=w.cell? ⟨R,j,none⟩:=fun j hj=>World.cell?_setCell_other _ _ _ _ (by first|(simp;done)|(simp;omega))
 exact⟨h.g.below.setCell (p:=⟨R,5,none⟩) h.rl _,h.rl,⟨(o _ (by omega)).trans r.c0,(o _ (by omega)).trans r.c1,(o _ (by omega)).trans r.c2,(o _ (by omega)).trans r.c3,(o _ (by omega)).trans r.c4,fun j=>by rw[World.frozen?_setCell];exact r.fz j⟩,World.cell?_setCell_same _ _ _ h.c5,fun d=>(o _ (by omega)).trans (h.map d)⟩
theorem MS.drew{w0 w:World}{R:Nat}{f:UInt8→Int}{ts:Int}(h:MS w0 w R f ts):MS w0 w.drew R f ts:=
 ⟨h.g.drew,h.rl,⟨h.root.c0,h.root.c1,h.root.c2,h.root.c3,h.root.c4,h.root.fz⟩,h.c5,h.map⟩
def apV(f:UInt8→Int):List Value:=(List.range 256).map fun i=>.int .u8 (f (UInt8.ofNat i))
theorem ato(f:UInt8→Int):(apV f).length=256:=by simp[apV]
theorem ava(f:UInt8→Int)(i:Nat)(h:i<256):(apV f)[i]?=some (.int .u8 (f (UInt8.ofNat i))):=by simp[apV,h]
theorem MS.row{w0 w:World}{R:Nat}{f:UInt8→Int}{ts:Int}(h:MS w0 w R f ts):w.rangeAt R 6 (apV f):=fun j v hv=>by
 have hj:j<256:=by
  have:=(List.getElem?_eq_some_iff.1 hv).1
  rw[ato]at this;exact this
 rw[ava f j hj]at hv
 injection hv with hv
 have:=h.map (UInt8.ofNat j)
 rw[show(UInt8.ofNat j).toNat=j from by simp<;>omega]at this
 rw[this,hv]
end Go.Proofs.YtmffejnigppbpaaGreatDoor

namespace Go.Proofs.YtmffejnigppbpaaGreatDoor
open Go.RowKit
theorem aqC.away{bs:List Nat}{w w':World}{R A B C D T U:Nat}(h:aqC w R A B C D T U)(a:afP bs w w')(hn:∀b∈[R,A,B,C,D,T,U],b∉bs):aqC w' R A B C D T U:=by
 have hR:R∉bs:=hn R (by simp)
 have hA:A∉bs:=hn A (by simp)
 have hB:B∉bs:=hn B (by simp)
 have hC:C∉bs:=hn C (by simp)
 have hD:D∉bs:=hn D (by simp)
 have hT:T∉bs:=hn T (by simp)
 have hU:U∉bs:=hn U (by simp)
 exact⟨⟨a.held h.root.v1 hR,a.held h.root.v4 hR⟩,a.held h.size hR,fun c=>a.held (h.map c) hR,a.held h.t0 hT,a.held h.t1 hT,a.held h.t2 hT,⟨a.held h.inner.v1 hA,a.held h.inner.v4 hA⟩,a.held h.u0 hU,a.held h.u1 hU,a.held h.u2 hU,
  ⟨a.held h.lb.v0 hB,a.held h.lb.v1 hB,a.held h.lb.v2 hB,a.held h.lb.v4 hB⟩,⟨a.held h.lc.v0 hC,a.held h.lc.v1 hC,a.held h.lc.v2 hC,a.held h.lc.v4 hC⟩,⟨a.held h.ld.v0 hD,a.held h.ld.v1 hD,a.held h.ld.v2 hD,a.held h.ld.v4 hD⟩⟩
structure ark(w0 w:World)(X R A B C D T U:Nat)(d m:Int):Prop where
 g:G w0 w
 tr:aqC w R A B C D T U
 hi:∀x∈[R,A,B,C,D,T,U],x≠X
 c0:w.cell? ⟨X,0,none⟩=some (.int .u32 d)
 c1:w.cell? ⟨X,1,none⟩=some (.int .i32 m)
 c3:w.cell? ⟨X,3,none⟩=some (.iface 314 (.pointer (some ⟨R,0,none⟩)))
 fz:∀k,w.frozen? ⟨X,k,none⟩=false
theorem ark.drew{w0 w:World}{X R A B C D T U:Nat}{d m:Int}(h:ark w0 w X R A B C D T U d m):ark w0 w.drew X R A B C D T U d m:=
 ⟨h.g.drew,h.tr.away (afP.refl [] w).drew (by simp),h.hi,h.c0,h.c1,h.c3,h.fz⟩
end Go.Proofs.YtmffejnigppbpaaGreatDoor

namespace Go.Proofs.YtmffejnigppbpaaGreatDoor
open Go.RowKit
section
variable {P:Program} {ops:Array Oper} {md:Region.Mode} {E:Array Bool}
def ahL(vals:Nat→Value)(j:Nat)(v:Value):Nat→Value:=fun k=>if k=j then v else vals k
def axa(md:Region.Mode)(ops:Array Oper)(D:Nat→List Nat)(m:Nat):Bool:=(List.range m).all fun k=>match ops[k]? with|some o=>(D k).all fun i=>(aeA md o).contains i|none=>true
theorem atE{D:Nat→List Nat}{m:Nat}(h:axa md ops D m=true){k:Nat}(hk:k<m){o:Oper}(ho:ops[k]?=some o):∀i∈D k,i∈aeA md o:=by
 unfold axa at h
 rw[List.all_eq_true]at h
 have:=h k (List.mem_range.2 hk)
 rw[ho]at this
 simp only[List.all_eq_true,List.contains_eq_mem,decide_eq_true_eq]at this
 exact this
theorem ay0{Ra:Bool→World→World→Prop}{R R1:World→World→Prop}{j0 m:Nat}{a:Act}{w0:World}{Ψ:Bool→Nat→(Nat→Value)→World→Prop}{D:Nat→List Nat}{Q:Exit→Act→World→Prop}(hR0:∀x,R x x)(hR1:∀x,R1 x x)(hRa:∀b x y z,Ra b x y→R y z→Ra b x z)(hRb:∀x y z,Ra false x y→R1 y z→Ra true x z)(hD:axa md ops D m=true)(hloc:∀b k vals vals' W,vals k=vals' k→(∀i∈D k,vals i=vals' i)→Ψ b k vals W→Ψ b k vals' W)(hst:∀b k vals w w',R w w'→Ψ b k vals w→Ψ b k vals w')(hst1:∀k vals w w',k≠j0→R1 w w'→Ψ false k vals w→Ψ true k vals w')(hF:amf md ops E m)(hj0:j0<m)(hops:∀j o,ops[j]?=some o→E.getD j true=false→j<m→j≠j0→∀(b:Bool),(b=true→afO md ops ops.size j0 j=false)→∀(vals:Nat→Value) W,Ra b w0 W→(∀k∈aeB md ops E o,Ψ b k vals W)→gOp P ops R (fun v W'=>Ψ b j (ahL vals j v) W') o (aff ops vals (aeB md ops E o) a) W)(hop1:∀o,ops[j0]?=some o→E.getD j0 true=false→∀(vals:Nat→Value) W,Ra false w0 W→(∀k∈aeB md ops E o,Ψ false k vals W)→gOp P ops R1 (fun v W'=>Ψ true j0 (ahL vals j0 v) W') o (aff ops vals (aeB md ops E o) a) W)(hend:∀(vals:Nat→Value) W,Ra true w0 W→(∀k∈agc E m,Ψ true k vals W)→wpList P ops Q (afe E (ops.toList.drop m) m) (aff ops vals (agc E m) a) W) :
  ∀(fuel:Nat) (listed:Array Bool) (vals:Nat→Value) (a':Act) (W:World),anj md ops E m a (Ra (listed.getD j0 true)) w0 (fun _ _ _=>True) listed vals a' W→(∀k,k<m→E.getD k true=false→listed.getD k true=true→Ψ (listed.getD j0 true) k vals W)→afS listed ops.size≤fuel→wpAny P md ops Q fuel listed a' W:=by
 intro fuel
 induction fuel with
 |zero=>
  intro listed vals a' W hI hphi hl
  have hall:=aiW (n:=ops.size) (listed:=listed) (by omega)
  have hc:∀k,k<m→listed.getD k true=true:=fun k hk=>hall k (by have:=hF.le;omega)
  have hq:=hend vals W (by have:=hI.g;rw[hc j0 hj0]at this;exact this) fun k hk=>by
    have:=hphi k (acW.1 hk).1 (acW.1 hk).2 (hc k (acW.1 hk).1)
    rw[hc j0 hj0]at this;exact this
  rw[←asw hF hI hc]at hq
  have hle:∀k,m≤k→k<ops.size→listed.getD k true=E.getD k true:=fun k hk hks=>by
   cases h:E.getD k true
   ·exact hI.late k hk hks h
   ·exact hI.early k h
  have hlen:=agd (E:=E) (listed:=listed) (ops.toList.drop m) m ops.size (by have:=hF.le;simp;omega) hle
  exact anS (ops.toList.drop m) m listed a' W 0 (fun i=>by simp) hc hle hI.ls (fun k o hk ho hE i hi hEi=>hF.tail k o ho hE hk i hi hEi) ⟨hF.back,hF.shut⟩ (by omega) hq
 |succ fuel ih=>
  intro listed vals a' W hI hphi hl
  have hle:∀k,m≤k→k<ops.size→listed.getD k true=E.getD k true:=fun k hk hks=>by
   cases h:E.getD k true
   ·exact hI.late k hk hks h
   ·exact hI.early k h
  by_cases hc:∀k,k<m→listed.getD k true=true
  ·have hq:=hend vals W (by have:=hI.g;rw[hc j0 hj0]at this;exact this) fun k hk=>by
    have:=hphi k (acW.1 hk).1 (acW.1 hk).2 (hc k (acW.1 hk).1)
    rw[hc j0 hj0]at this;exact this
   rw[←asw hF hI hc]at hq
   have hlen:=agd (E:=E) (listed:=listed) (ops.toList.drop m) m ops.size (by have:=hF.le;simp;omega) hle
   exact anS (ops.toList.drop m) m listed a' W (fuel+1) (fun i=>by simp) hc hle hI.ls (fun k o hk ho hE i hi hEi=>hF.tail k o ho hE hk i hi hEi) ⟨hF.back,hF.shut⟩ (by omega) hq
  ·have hun:∃k,k<m∧listed.getD k true=false:=by
    apply Classical.byContradiction
    intro h
    refine hc fun k hk=>?_
    cases hh:listed.getD k true
    ·exact absurd ⟨k,hk,hh⟩ h
    ·rfl
   obtain⟨k,hk,hkl,hkm⟩:=ami hun
   have hks:k<ops.size:=by have:=hF.le;omega
   have hEk:E.getD k true=false:=by
    cases h:E.getD k true
    ·rfl
    ·rw[hI.early k h]at hkl;cases hkl
   have hkr:k∈Region.ready md ops listed:=mem_ready.2 ⟨hkl,_,Array.getElem?_eq_getElem hks,fun e he hb=>by
    have h1:=hF.back k _ (Array.getElem?_eq_getElem hks) e.on (agL.2 ⟨e,he,hb,rfl⟩)
    have h2:=hkm e.on h1
    have hlt:e.on<listed.size:=by rw[hI.ls];omega
    simp[hlt]at h2⊢;exact h2⟩
   refine⟨fun hr=>absurd hkr (by rw[hr];simp),fun j hj=>?_⟩
   obtain⟨hjl,o,ho,_⟩:=mem_ready.1 hj
   obtain⟨_,hlis⟩:=agb ho hj
   have hEj:E.getD j true=false:=by
    cases h:E.getD j true
    ·rfl
    ·rw[hI.early j h]at hjl;cases hjl
   have hjm:j<m:=by
    rcases Nat.lt_or_ge j m with h|h
    ·exact h
    ·exfalso
     have:=agM (md:=md) (L:=fun x=>listed.getD x true=true) (fun x q hq hx d hd=>hI.closed x q hq hx d hd) _ _ _ (hF.tail j o ho hEj h k (by omega) hEk) (fun q hq d hd=>by rw[ho]at hq;cases hq;exact hlis d hd)
     rw[hkl]at this;cases this
   have hfx:∀i∈aeB md ops E o,Ψ (listed.getD j0 true) i vals W:=fun i hi=>by
    obtain⟨hi,hEi⟩:=af9.1 (aga.1 hi).1
    exact hphi i (by have:=hF.back j o ho i hi;omega) hEi (hlis i hi)
   have hle2:afS (listed.setIfInBounds j true) ops.size≤fuel:=by
    have:=akr hjl ops.size
    have hjs:=(Array.getElem?_eq_some_iff.1 ho).1
    rw[if_pos hjs]at this
    omega
   have hbb:listed.getD j0 true=true→afO md ops ops.size j0 j=false:=fun h0=>by
    cases hr:afO md ops ops.size j0 j
    ·rfl
    ·have:=agM (md:=md) (L:=fun x=>listed.getD x true=true) (fun x q hq hx d hd=>hI.closed x q hq hx d hd) _ _ _ hr (fun q hq d hd=>hI.closed j0 q hq h0 d hd)
     rw[hjl]at this;cases this
   have hjs:=(Array.getElem?_eq_some_iff.1 ho).1
   have hother:∀(b:Bool) (v:Value) (W':World) (k:Nat),k<m→k≠j→listed.getD k true=true→Ψ b k vals W'→Ψ b k (ahL vals j v) W':=fun b v W' k hk hkj hlk h=>by
    refine hloc b k vals (ahL vals j v) W' (by unfold ahL;rw[if_neg hkj]) (fun i hi=>?_) h
    have hks:k<ops.size:=by have:=hF.le;omega
    have h1:=hI.closed k _ (Array.getElem?_eq_getElem hks) hlk i (atE hD hk (Array.getElem?_eq_getElem hks) i hi)
    unfold ahL
    rw[if_neg]
    rintro rfl
    rw[hjl]at h1;cases h1
   have hset:∀k,k≠j→(listed.setIfInBounds j true).getD k true=listed.getD k true:=fun k hk=>getD_set_ne true (Ne.symm hk)
   by_cases hjj:j=j0
   ·subst hjj
    rw[hjl]at hfx hI hphi
    refine amh hR1 ho hF.sel (fun t ht=>arn hF hI ho hjm hj t ht) (by rw[hI.sz,ah9]) (hop1 o ho hEj vals W hI.g hfx) fun v W' hg hp=>?_
    have e1:(listed.setIfInBounds j true).getD j true=true:=by simp[show j<listed.size by rw[hI.ls];exact hjs]
    refine ih _ (ahL vals j (agK o (a'.put o.dst v))) _ _ ?_ ?_ hle2
    ·rw[e1]
     exact hI.stepTo hF ho hjm hj v (hRb _ _ _ hI.g hg) (fun _ _ _=>trivial) trivial
    ·rw[e1]
     intro k hk hEk hlk
     by_cases hkj:k=j
     ·subst hkj;exact hp
     ·rw[hset k hkj]at hlk
      exact hother true _ _ k hk hkj hlk (hst1 k vals _ _ hkj hg (hphi k hk hEk hlk))
   ·refine amh hR0 ho hF.sel (fun t ht=>arn hF hI ho hjm hj t ht) (by rw[hI.sz,ah9]) (hops j o ho hEj hjm hjj _ hbb vals W hI.g hfx) fun v W' hg hp=>?_
    have e1:(listed.setIfInBounds j true).getD j0 true=listed.getD j0 true:=getD_set_ne true (fun e=>hjj e)
    refine ih _ (ahL vals j (agK o (a'.put o.dst v))) _ _ ?_ ?_ hle2
    ·rw[e1]
     exact hI.stepTo hF ho hjm hj v (hRa _ _ _ _ hI.g hg) (fun _ _ _=>trivial) trivial
    ·rw[e1]
     intro k hk hEk hlk
     by_cases hkj:k=j
     ·subst hkj;exact hp
     ·rw[hset k hkj]at hlk
      exact hother _ _ _ k hk hkj hlk (hst _ k vals _ _ hg (hphi k hk hEk hlk))
def agv(P:Program)(ops:Array Oper)(Ra:Bool→World→World→Prop)(R R1:World→World→Prop)(j0:Nat)(Ψ:Bool→Nat→(Nat→Value)→World→Prop)(a:Act)(w0:World):List Oper→List (Option (List (Nat×Tmp)))→Nat→Prop
 |o::l,some u::U,j=>(if j=j0 then(∀(vals:Nat→Value) W,Ra false w0 W→afg (fun k _ W=>Ψ false k vals W) vals W u→gOp P ops R1 (fun v W'=>Ψ true j (ahL vals j v) W') o (gFr vals u a) W)else(∀(b:Bool),(b=true→afO .any ops ops.size j0 j=false)→∀(vals:Nat→Value) W,Ra b w0 W→afg (fun k _ W=>Ψ b k vals W) vals W u→gOp P ops R (fun v W'=>Ψ b j (ahL vals j v) W') o (gFr vals u a) W))∧agv P ops Ra R R1 j0 Ψ a w0 l U (j+1)
 |_::l,none::U,j=>agv P ops Ra R R1 j0 Ψ a w0 l U (j+1)
 |_,_,_=>True
section
variable {Ra:Bool→World→World→Prop} {R R1:World→World→Prop} {j0:Nat} {Ψ:Bool→Nat→(Nat→Value)→World→Prop} {a:Act} {w0:World}
theorem aeE{o:Oper}{l:List Oper}{u:List (Nat×Tmp)}{U:List (Option (List (Nat×Tmp)))}{j:Nat}(hj:j≠j0)(h:∀(b:Bool) (vals:Nat→Value) W,Ra b w0 W→afg (fun k _ W=>Ψ b k vals W) vals W u→gOp P ops R (fun v W'=>Ψ b j (ahL vals j v) W') o (gFr vals u a) W)(t:agv P ops Ra R R1 j0 Ψ a w0 l U (j+1)):agv P ops Ra R R1 j0 Ψ a w0 (o::l) (some u::U) j:=⟨by rw[if_neg hj];exact fun b _=>h b,t⟩
theorem aqa{o:Oper}{l:List Oper}{u:List (Nat×Tmp)}{U:List (Option (List (Nat×Tmp)))}{j:Nat}(hj:j≠j0)(hr:afO .any ops ops.size j0 j=true)(h:∀(vals:Nat→Value) W,Ra false w0 W→afg (fun k _ W=>Ψ false k vals W) vals W u→gOp P ops R (fun v W'=>Ψ false j (ahL vals j v) W') o (gFr vals u a) W)(t:agv P ops Ra R R1 j0 Ψ a w0 l U (j+1)):agv P ops Ra R R1 j0 Ψ a w0 (o::l) (some u::U) j:=⟨by
  rw[if_neg hj]
  intro b hb
  cases b with
  |false=>exact h
  |true=>rw[hr]at hb;exact absurd (hb rfl) (by simp),t⟩
theorem arD{o:Oper}{l:List Oper}{u:List (Nat×Tmp)}{U:List (Option (List (Nat×Tmp)))}{j:Nat}(hj:j=j0)(h:∀(vals:Nat→Value) W,Ra false w0 W→afg (fun k _ W=>Ψ false k vals W) vals W u→gOp P ops R1 (fun v W'=>Ψ true j (ahL vals j v) W') o (gFr vals u a) W)(t:agv P ops Ra R R1 j0 Ψ a w0 l U (j+1)):agv P ops Ra R R1 j0 Ψ a w0 (o::l) (some u::U) j:=⟨by rw[if_pos hj];exact h,t⟩
theorem arE{o:Oper}{l:List Oper}{U:List (Option (List (Nat×Tmp)))}{j:Nat}(t:agv P ops Ra R R1 j0 Ψ a w0 l U (j+1)):agv P ops Ra R R1 j0 Ψ a w0 (o::l) (none::U) j:=t
theorem atF{U:List (Option (List (Nat×Tmp)))}{j:Nat}:agv P ops Ra R R1 j0 Ψ a w0 [] U j:=trivial
theorem amw{m:Nat}:∀(l:List Oper) (j:Nat),agv P ops Ra R R1 j0 Ψ a w0 l (gU md ops E m l j) j→∀i o,l[i]?=some o→E.getD (j+i) true=false→j+i<m →
  (j+i≠j0→∀(b:Bool),(b=true→afO .any ops ops.size j0 (j+i)=false)→∀(vals:Nat→Value) W,Ra b w0 W→(∀k∈aeB md ops E o,Ψ b k vals W)→gOp P ops R (fun v W'=>Ψ b (j+i) (ahL vals (j+i) v) W') o (aff ops vals (aeB md ops E o) a) W) ∧
  (j+i=j0→∀(vals:Nat→Value) W,Ra false w0 W→(∀k∈aeB md ops E o,Ψ false k vals W)→gOp P ops R1 (fun v W'=>Ψ true (j+i) (ahL vals (j+i) v) W') o (aff ops vals (aeB md ops E o) a) W)
 |[],_,_,i,o,h=>by simp at h
 |p::l,j,h,0,o,ho=>by
  simp at ho;subst ho
  intro hE hm
  rw[gU,if_neg (by simp at hE hm⊢;exact⟨hE,hm⟩)]at h
  have h1:=h.1
  refine⟨fun hj b hb vals W hg hd=>?_,fun hj vals W hg hd=>?_⟩
  ·rw[if_neg (by simpa using hj)]at h1
   have:=h1 b (by simpa using hb) vals W hg (by unfold arl;exact afo _ hd)
   unfold arl at this
   rw[ahE]at this
   exact this
  ·rw[if_pos (by simpa using hj)]at h1
   have:=h1 vals W hg (by unfold arl;exact afo _ hd)
   unfold arl at this
   rw[ahE]at this
   exact this
 |p::l,j,h,i+1,o,ho=>by
  have h':agv P ops Ra R R1 j0 Ψ a w0 l (gU md ops E m l (j+1)) (j+1):=by
   rw[gU]at h
   split at h
   ·exact h
   ·exact h.2
  have:=amw l (j+1) h' i o (by simpa using ho)
  have e:j+1+i=j+(i+1):=by omega
  rw[e]at this;exact this
end
end
theorem aoE{P:Program}{Q:Exit→Act→World→Prop}{a:Act}{w w0:World}{l:List Oper}{fuel:Nat}{E:Array Bool}(Ra:Bool→World→World→Prop)(R R1:World→World→Prop)(j0 m:Nat)(D:Nat→List Nat)(Ψ:Bool→Nat→(Nat→Value)→World→Prop)(U:List (Option (List (Nat×Tmp))))(V:List (Nat×Tmp))(T:List Oper)(hB:apW .any l.toArray E m=true)(hj0:decide (j0<m)=true)(hE0:E.getD j0 true=false)(hfu:afS E l.length≤fuel)(hU:gU .any l.toArray E m l 0=U)(hV:atp l.toArray E m=V)(hT:afe E (l.drop m) m=T)(hR0:∀x,R x x)(hR1:∀x,R1 x x)(hRa:∀b x y z,Ra b x y→R y z→Ra b x z)(hRb:∀x y z,Ra false x y→R1 y z→Ra true x z)(hD:axa .any l.toArray D m=true)(hloc:∀b k vals vals' W,vals k=vals' k→(∀i∈D k,vals i=vals' i)→Ψ b k vals W→Ψ b k vals' W)(hw0:Ra false w0 w)(hst:∀b k vals w w',R w w'→Ψ b k vals w→Ψ b k vals w')(hst1:∀k vals w w',k≠j0→R1 w w'→Ψ false k vals w→Ψ true k vals w')(hops0:agv P l.toArray Ra R R1 j0 Ψ a w0 l U 0)(hend0:∀(vals:Nat→Value) W,Ra true w0 W→(∀k,k<m→E.getD k true=false→Ψ true k vals W)→ahX (wpList P l.toArray Q T (gFr vals V a) W)):wpAny P .any l.toArray Q fuel E a w:=by
 have hF:=amg hB
 have hend:=fun vals W (h:Ra true w0 W) d=>(hend0 vals W h d).out
 subst hU hV hT
 refine ay0 (a:=a) (w0:=w0) (m:=m) (D:=D) (Ψ:=Ψ) (R:=R) (E:=E) hR0 hR1 hRa hRb hD hloc hst hst1 hF (of_decide_eq_true hj0) (fun j o ho hE hj hne b hb vals W hg hd=>?_) (fun o ho hE vals W hg hd=>?_) (fun vals W hg hp=>?_) fuel E (fun _=>undef) a _ ?_ (fun k hk hE hl=>by rw[hE]at hl;cases hl) (by simpa using hfu)
 ·have:=(amw l 0 hops0 j o (by simpa using ho) (by simpa using hE) (by omega)).1 (by simpa using hne) b (by simpa using hb) vals W hg hd
  simpa using this
 ·have:=(amw l 0 hops0 j0 o (by simpa using ho) (by simpa using hE) (by have:=of_decide_eq_true hj0;omega)).2 (by simp) vals W hg hd
  simpa using this
 ·have:=hend vals W hg (fun k hk hE=>hp k (acW.2 ⟨hk,hE⟩))
  unfold atp at this
  rw[ahE,ajD]at this
  simpa using this
 ·refine⟨rfl,rfl,hF.es,fun k o ho hE hl=>?_,fun _ _=>rfl,fun _ _ _ _=>trivial,by rw[hE0];exact hw0,fun k o ho hl i hi=>?_,fun k hk=>hk,fun k hk hks hE=>hE⟩
  ·rw[hE]at hl;cases hl
  ·exact hF.shut k o ho hl i hi
end Go.Proofs.YtmffejnigppbpaaGreatDoor

set_option maxHeartbeats 4000000
set_option maxRecDepth 100000
namespace Go.Proofs.YtmffejnigppbpaaGreatDoor
open Go.RowKit
theorem ajF{xs:List It}(h:ajl xs=false):xs.length≤40∧∀x∈xs,Sml x:=by
 unfold ajl at h
 rw[Bool.or_eq_false_iff,decide_eq_false_iff_not,List.any_eq_false]at h
 refine⟨by omega,fun x hx=>?_⟩
 have hb:=h.2 x hx
 unfold akg awm awn at hb
 simp only[Bool.or_eq_true,decide_eq_true_eq,not_or]at hb
 obtain⟨h1,h2⟩:=hb
 exact⟨by omega,by omega,by omega⟩
def amj(ver:Int)(xs:List It):Bool:=!ajl xs&&acN ver xs
theorem apZ(ver:Int)(iv:Value)(xs:List It)(w:World)(h:UA w iv xs)(hl:xs.length≤1048576)(hL:∀y∈xs,ajS y≤1048576)(hR:aeV w)(hE:UO w):Um 13 #[acH ver iv] w (.bool (amj ver xs)):=by
 have BG:=hid (fun W (g:G w W)=>asi ver iv xs W (h.grow g) (fun y hy=>avv (hL y hy)) hl)
 have HI:=hid h
 have HR:=hid hR
 have HE:=hid hE
 obtain⟨bb,hbb⟩:∃bb,ajl xs=bb:=⟨_,rfl⟩
 have hh:amj ver xs=(!bb&&acN ver xs):=by unfold amj;rw[hbb]
 rw[hh]
 rw[hbb]at BG
 have HBB:=hid hbb
 obtain⟨ia,ic,rfl,_⟩:=h.len
 clear h hl hL hR hE hbb hh
 unfold acH at BG
 unfold acH
 go_enter Tryz.func13,Tryz.ntmps13
 go_wp2_with fail
 generalize hw1:w.alloc _=w1
 have HB1:=hid (show w1.heap[w.heap.size]?=some (.cells #[.int .i64 ver,.slice ia xs.length ic] 24 (0,0)) by rw[←hw1];exact heap_alloc_new w _)
 have G1:=hid (show G w w1 by rw[←hw1];exact(G.refl w).alloc _)
 clear hw1
 refine(BG.out w1 G1.out).use ?_
 intro w2 g2
 have G2:=hid (G1.out.trans g2)
 have HB2:=hid (uU HB1.out g2)
 clear g2 BG
 cases bb with
 |true=>
  go_wp2_with fail
  go_ret
  exact⟨rfl,G2.out⟩
 |false=>
  obtain⟨h40,hsm⟩:=ajF HBB.out
  have RT:=hid (aem ver (.slice ia xs.length ic) xs w2 (HI.out.grow G2.out) (by omega) hsm (HR.out.grow G2.out) (HR.out.grow G2.out).hm (HE.out.grow G2.out))
  unfold acH at RT
  obtain⟨c0,c1⟩:=acP HB2.out
  go_wp2_with fail
  refine RT.out.use ?_
  intro r w3 hr g3
  rcases hr with⟨hok,rfl⟩|⟨hno,c,k,he,_⟩
  ·have HOK:=hid hok
   clear hok
   go_wp2_with fail
   go_ret
   exact⟨zF (by rw[HOK.out];rfl),G2.out.trans g3⟩
  ·have HNO:=hid hno
   obtain⟨t,e,rfl⟩:=ad8.iface he
   clear hno he
   go_wp2_with fail
   go_ret
   exact⟨zF (by rw[HNO.out];rfl),G2.out.trans g3⟩
end Go.Proofs.YtmffejnigppbpaaGreatDoor

namespace Go.Proofs.YtmffejnigppbpaaGreatDoor
open Go.RowKit
theorem akQ(x:UInt8)(ps:List (List UInt8)):∀p,afR x p ps=Uu [13,10] p (ps.map (x::·)++[[]]):=by
 induction ps with
 |nil=>intro p;simp[afR,Uu]
 |cons q ps ih=>
  intro p
  have e:afR x (x::q) ps=x::afR x q ps:=by cases ps<;>rfl
  show p++13::10::x::afR x q ps=_
  rw[←e,ih (x::q)]
  simp[Uu]
theorem ari{s:List UInt8}(hs:ahC s)(width:Nat)(hw:10≤width) :
  ∃p ps,ac6 s width width=Uu [13,10] p (ps++[[]])∧(Uu [13,10] p (ps++[[]])).length≤10000∧ps.length≤1500 ∧
   (∀q∈p::ps,q.length≤width∧UL q=none∧∀c∈q,nlB c=false)∧∀q∈ps,∃t,q=32::t:=by
 obtain⟨g1,g2,g3⟩:=hs
 obtain⟨p,ps,h1,h2,h3,h4,h5,h6,h7⟩:=akO width (by omega) s.length s width (Nat.le_refl _) g1 (by omega)
 have hc:=anR g2
 have hle:(p++ps.flatten).length=s.length:=by rw[h2]
 have hle2:=hle
 rw[List.length_append]at hle2
 have hp:=anQ ps fun q hq=>(h4 q hq).2.1
 refine⟨p,ps.map (32::·),by rw[h1,akQ],?_,by simp;omega,?_,?_⟩
 ·rw[←akQ,ajA,hle];omega
 ·intro q hq
  rcases List.mem_cons.1 hq with rfl|hq
  ·exact⟨h3,h5,fun c hc'=>hc c (by rw[←h2];exact List.mem_append_left _ hc')⟩
  ·obtain⟨q',hq',rfl⟩:=List.mem_map.1 hq
   obtain⟨l1,l2,l3⟩:=h4 q' hq'
   refine⟨by simp;omega,?_,?_⟩
   ·rw[aeo (by rw[agq 32 q' (by decide)];decide),agq 32 q' (by decide)]
    show(UL q').map _=_
    rw[l3];rfl
   ·intro c hc'
    rcases List.mem_cons.1 hc' with rfl|hc'
    ·rfl
    ·exact hc c (by rw[←h2];exact List.mem_append_right _ (List.mem_flatten.2 ⟨q',hq',hc'⟩))
 ·intro q hq
  obtain⟨q',_,rfl⟩:=List.mem_map.1 hq
  exact⟨q',rfl⟩
theorem ayU{q:List UInt8}(h:∀c∈q,nlB c=false):(13:UInt8)∉q:=fun hm=>by have:=h 13 hm;cases this
theorem awG{q:List UInt8}(h:∀c∈q,nlB c=false):Lib.containsAny q [13,10]=false:=by
 unfold Lib.containsAny
 rw[ag0 (fun c hc=>by
  have:=h c hc
  have hcc:([13,10]:List UInt8).contains c=nlB c:=of_decide_eq_true (aei (fun c=>decide (([13,10]:List UInt8).contains c=nlB c)) (by decide +kernel) c)
  rw[hcc];exact this)]
 rfl
end Go.Proofs.YtmffejnigppbpaaGreatDoor
