/-
  Texts merged into one: Builder, Reset, TextPlain, Pieces, Pieces2.
-/
import Derived.Test.YtmffejnigppbpaaGreatDoorDXMA69
import Derived.Lib.Strings
import Derived.Lib.Slices
import Derived.Lib.Walk
import Derived.Lib.Builder
import Derived.Lib.AppendStr
import Derived.Lib.UnsafeStr
import Derived.Lib.MakeNoZero
import Derived.Laws.Tables
import Derived.Laws.CopyOwn
import Derived.Deep.AppendLies
import Derived.Test.YtmffejnigppbpaaGreatDoorDXMA52
import Derived.Test.YtmffejnigppbpaaGreatDoorDXMA59
import Derived.Test.YtmffejnigppbpaaGreatDoorDXMA65
import Derived.Deep.RegionLaw
set_option linter.unusedVariables false
set_option linter.unusedSimpArgs false
set_option maxHeartbeats 2000000
set_option maxRecDepth 100000
namespace Go.Proofs.YtmffejnigppbpaaGreatDoor
open Go.RowKit
theorem sizeBuilder:(Tryz.prog.info? 124).map (·.size)=some 2:=by kernel_rfl
theorem liesBuilder:liesAt Tryz.prog Tryz.prog.depth 124 (2/Tryz.prog.cellsOf 124) 0 124 1=true:=by kernel_rfl
theorem infoByte:(Tryz.prog.info? 5).map (fun i=>(i.zero,i.size,i.bytes))=some (some (.int .u8 0),1,1):=by kernel_rfl
theorem cellsByte:Tryz.prog.cellsOf 5=1:=by kernel_rfl
theorem alO(b:Nat)(w:World)(h0:w.cell? ⟨b,0,none⟩=some (.pointer (some ⟨b,0,none⟩))) :
  Calls Tryz.prog 128 #[.pointer (some ⟨b,0,none⟩)] w fun e w'=>e=.returned (.tuple #[])∧w'=w:=by
 obtain⟨j,hj,_⟩:=Option.map_eq_some_iff.1 sizeBuilder
 go_enter Tryz.func128,Tryz.ntmps128
 go_wp2
 rw[Lib.run_neq_ptr_same w _ Tryz.underlying121 hj]
 go_wp2
 go_end0
 exact⟨rfl,rfl⟩
theorem ali(b:Nat)(w:World)(h0:w.cell? ⟨b,0,none⟩=some (.pointer none))(hsh:w.shape? b=some (124,2))(hfz:w.frozen? ⟨b,0,none⟩=false) :
  Calls Tryz.prog 128 #[.pointer (some ⟨b,0,none⟩)] w fun e w'=>e=.returned (.tuple #[])∧w'=w.setCell ⟨b,0,none⟩ (.pointer (some ⟨b,0,none⟩)):=by
 obtain⟨j,hj,hjs⟩:=Option.map_eq_some_iff.1 sizeBuilder
 go_enter Tryz.func128,Tryz.ntmps128
 go_wp2
 rw[Lib.run_to_unsafe w ⟨b,0,none⟩ Tryz.underlying121 Tryz.underlying155 hj (by rw[hjs];decide) hsh (Nat.zero_lt_succ 1)]
 simp only[Result.andThen]
 rw[Oper.upon_value]
 go_wp2
 rw[run_callFunc_extern Tryz.func176 (by kernel_rfl) (by kernel_rfl) (by kernel_rfl) (e:=Extern.AbiNoEscape.same) (by kernel_rfl)]
 rw[Lib.run_noEscape]
 simp only[Result.andThen]
 rw[Oper.upon_value]
 go_wp2
 rw[Lib.run_from_unsafe w ⟨b,0,none⟩ Tryz.underlying155 Tryz.underlying121 hj hsh liesBuilder]
 simp only[Result.andThen]
 rw[Oper.upon_value]
 go_wp2
 go_end0
 exact⟨rfl,rfl⟩
def IsB(w0 w:World)(b:Nat)(l:List UInt8):Prop:=Lib.IsBuilder 124 5 w0.heap.size b (Lib.byteCells l) w
def ad2(w:World)(b:Nat):Option Nat:=match w.heap[b]? with|some (.cells cs _ _)=>(cs.getD 1 undef).ownBlock|_=>none
def akH(w w':World)(b:Nat):Prop:=∀k,k<w.heap.size→k≠b→ad2 w b≠some k→w'.heap[k]?=w.heap[k]?
theorem aej{w:World}{b:Nat}{p v:Value}{T:TypeId}(h:w.heap[b]?=some (.cells #[p,v] T (0,0))):ad2 w b=v.ownBlock:=by
 unfold ad2;rw[h];rfl
theorem aix(B b:Nat)(bs:List Value)(w:World)(h:Lib.IsBuilder 124 5 B b bs w) :
  Calls Tryz.prog 128 #[.pointer (some ⟨b,0,none⟩)] w fun e w'=>e=.returned (.tuple #[])∧(Lib.BuilderAt 124 5 B b (.pointer (some ⟨b,0,none⟩)) bs w'∧Below B w w'∧w.heap.size=w'.heap.size∧ad2 w' b=ad2 w b∧∀k,k≠b→w'.heap[k]?=w.heap[k]?):=by
 rcases h with h|h
 ·refine(ali b w h.cell0 h.shape h.frozen0).mono ?_
  rintro e w' ⟨rfl,rfl⟩
  refine⟨rfl,h.used _,(Below.refl B w).setCell (p:=⟨b,0,none⟩) h.1 _,by simp,?_,fun k hk=>Below.heap_setCell _ _ _ _ hk⟩
  obtain⟨_,v,hb,_⟩:=h
  rw[aej hb]
  have:(w.setCell ⟨b,0,none⟩ (.pointer (some ⟨b,0,none⟩))).heap[b]?=some (.cells #[.pointer (some ⟨b,0,none⟩),v] 124 (0,0)):=by
   simp[World.setCell,Array.getElem?_modify,hb]
  rw[aej this]
 ·refine(alO b w h.cell0).mono ?_
  rintro e w' ⟨rfl,rfl⟩
  exact⟨rfl,h,Below.refl B _,rfl,rfl,fun _ _=>rfl⟩
theorem Rx{w0 w:World}{b:Nat}{l:List UInt8}(h:IsB w0 w b l)(g:G w0 w)(s:List UInt8)(hlen:l.length+s.length≤140737488355328) :
  Calls Tryz.prog 84 #[.pointer (some ⟨b,0,none⟩),.string (S s)] w fun e w'=>e=.returned (.tuple #[.int .i64 s.length,.nilIface])∧IsB w0 w' b (l++s)∧G w0 w'∧akH w w' b:=by
 obtain⟨i0,hi,hz0,hz1,hz2⟩:=info_parts infoByte
 have hbl:(Lib.byteCells l).length=l.length:=Lib.byteCells_length l
 have hBw:=g.size
 have H:=hid h
 have HG:=hid g
 clear h g
 go_enter Tryz.func84,Tryz.ntmps84
 go_wp2_with fail
 refine(aix w0.heap.size b _ _ H.out).mono ?_
 rintro e w1 ⟨rfl,h1,hb1,hsz,hbf,hk1⟩
 obtain⟨hB,v,hbk,hown,hne⟩:=h1
 have HK1:=hid hk1
 have HBF:=hid hbf
 have hszl:w.heap.size≤w1.heap.size:=by omega
 clear hk1 hbf hsz
 have c0:w1.cell? ⟨b,0,none⟩=some (.pointer (some ⟨b,0,none⟩)):=by rw[Lib.cell_of_heap hbk];rfl
 have c1:w1.cell? ⟨b,1,none⟩=some v:=by rw[Lib.cell_of_heap hbk];rfl
 have HBK:=hid hbk
 have HB1:=hid hb1
 clear hbk hb1
 go_wp2_with (at_builtin;refine Lib.wpList_append_own_string _ rfl _ _ 122 9 rfl w0.heap.size 5 i0 Tryz.underlying122 Tryz.underlying9 hi hz0 hz1 hz2 _ _ _ rfl hown (S s) rfl ?c3 ?c4 ?c5 ?_)
 case c3=>simp;unfold maxLen;omega
 case c4=>simp;omega
 case c5=>omega
 intro v' w2 hown' hgrow _
 have hbk:=HBK.out
 have hlt:b<w1.heap.size:=by
  rcases Nat.lt_or_ge b w1.heap.size with h'|h'
  ·exact h'
  ·rw[Array.getElem?_eq_none h']at hbk;cases hbk
 have hb2:w2.heap[b]?=some (.cells #[.pointer (some ⟨b,0,none⟩),v] 124 (0,0)):=by
  rw[hgrow.block b hlt (fun e=>hne e.symm)]
  exact hbk
 have d0:w2.cell? ⟨b,0,none⟩=some (.pointer (some ⟨b,0,none⟩)):=by rw[Lib.cell_of_heap hb2];rfl
 have d1:w2.cell? ⟨b,1,none⟩=some v:=by rw[Lib.cell_of_heap hb2];rfl
 have f1:w2.frozen? ⟨b,1,none⟩=false:=Lib.frozen_of_heap hb2 1
 obtain⟨ao,n',cap,rfl⟩:∃ao n' cap,v'=.slice ao n' cap:=by
  rcases hown'.2 with⟨hv,_⟩|⟨q,cap,cur,hv,_⟩
  ·exact⟨_,_,_,hv⟩
  ·exact⟨_,_,_,hv⟩
 have HB2:=hid hb2
 have HGR:=hid hgrow
 clear hbk hb2 hgrow
 go_wp2
 go_ret2
 have hgg:G w0 (w2.setCell ⟨b,1,none⟩ (.slice ao n' cap)):=by
  have x1:Below w0.heap.size w0 w1:=HG.out.below.trans HB1.out
  exact(x1.grown HGR.out (by omega) (fun k hk=>(hown.lt k hk).1)).setCell (p:=⟨b,1,none⟩) hB _
 refine⟨rfl,Or.inr ?_,hgg,?_⟩
 ·have e:Lib.byteCells (l++s)=Lib.byteCells l++Lib.strCells (S s):=by
   simp[Lib.byteCells,Lib.strCells]
  rw[e]
  exact Lib.BuilderAt.put (T:=124) (e:=5) hB HB2.out (bs':=Lib.byteCells l++Lib.strCells (S s)) (by simpa[Lib.byteCells_length,Lib.strCells_length]using hown') (by decide)
 ·intro k hk hkb hkv
  rw[Below.heap_setCell _ _ _ _ hkb]
  rw[←HBF.out,aej HBK.out]at hkv
  rw[HGR.out.block k (by omega) (fun e=>hkv e.symm)]
  exact HK1.out k hkb
def alP(w w':World)(b:Nat):Prop:=w.heap.size≤w'.heap.size∧∀k,k<w.heap.size→ad2 w b≠some k→w'.heap[k]?=w.heap[k]?
theorem apu(w:World)(p:Addr)(n:Nat):(w.freeze p n).heap.size=w.heap.size:=by
 unfold World.freeze
 split
 ·rfl
 ·simp
theorem apv(w:World)(p:Addr)(n k:Nat)(h:k≠p.block):(w.freeze p n).heap[k]?=w.heap[k]?:=by
 unfold World.freeze
 split
 ·rfl
 ·simp only[Array.getElem?_modify]
  rw[if_neg (by omega)]
theorem aqY{w0 w:World}{b:Nat}{p:Value}(g:G w0 w)(hbk:w.heap[b]?=some (.cells #[p,.slice none 0 0] 124 (0,0))) :
  Calls Tryz.prog 86 #[.pointer (some ⟨b,0,none⟩)] w fun e w'=>e=.returned (.string (S []))∧G w0 w'∧alP w w' b:=by
 have hUS:=fun q=>Lib.run_unsafeString_none (P:=Tryz.prog) w.drew 174 3 9 q
 have c1:w.drew.cell? ⟨b,1,none⟩=some (.slice none 0 0):=by
  have:w.drew.heap[b]?=some (.cells #[p,.slice none 0 0] 124 (0,0)):=hbk
  rw[Lib.cell_of_heap this];rfl
 have hSD:(Builtin.unsafeSliceData_ #[122] 174 #[.slice none 0 0]).run Tryz.prog w.drew=.ok (.pointer none) w.drew:=rfl
 have HG:=hid g
 clear hbk g
 go_enter Tryz.func86,Tryz.ntmps86
 go_wp2
 go_region
 all_goals (go_wp2;go_ret;exact⟨rfl,HG.out.drew,Nat.le_refl _,fun k _ _=>rfl⟩)
theorem ane{w0 w:World}{b q:Nat}{p:Value}{cur:Array Value}(g:G w0 w)(hbk:w.heap[b]?=some (.cells #[p,.slice (some ⟨q,0,none⟩) 0 0] 124 (0,0)))(hq:w.heap[q]?=some (.cells cur 5 (0,0))) :
  Calls Tryz.prog 86 #[.pointer (some ⟨b,0,none⟩)] w fun e w'=>e=.returned (.string (S []))∧G w0 w'∧alP w w' b:=by
 have hUS:=fun W q=>Lib.run_unsafeString_none (P:=Tryz.prog) W 174 3 9 q
 have hlt:b<w.heap.size:=by
  rcases Nat.lt_or_ge b w.heap.size with h'|h'
  ·exact h'
  ·rw[Array.getElem?_eq_none h']at hbk;cases hbk
 have c1:w.drew.cell? ⟨b,1,none⟩=some (.slice (some ⟨q,0,none⟩) 0 0):=by
  have:w.drew.heap[b]?=some (.cells #[p,.slice (some ⟨q,0,none⟩) 0 0] 124 (0,0)):=hbk
  rw[Lib.cell_of_heap this];rfl
 have hSD:(Builtin.unsafeSliceData_ #[122] 174 #[.slice (some ⟨q,0,none⟩) 0 0]).run Tryz.prog w.drew=.ok (.pointer (some ⟨w.drew.heap.size,0,none⟩)) (w.drew.alloc (.view ⟨q,0,none⟩ 5)):=
  Lib.run_unsafeSliceData_zero w.drew _ _ 5 Tryz.underlying174 ⟨q,0,none⟩ 0 (5,cur.size) (by have hg':w.drew.heap[q]?=some (.cells cur 5 (0,0)):=hq;simp[World.shape?,hg'])
 have c2:(w.drew.alloc (.view ⟨q,0,none⟩ 5)).cell? ⟨b,1,none⟩=some (.slice (some ⟨q,0,none⟩) 0 0):=by
  have:(w.drew.alloc (.view ⟨q,0,none⟩ 5)).heap[b]?=_:=(Lib.alloc_old w.drew _ b hlt).trans hbk
  rw[Lib.cell_of_heap this];rfl
 have c3:(w.alloc (.view ⟨q,0,none⟩ 5)).drew.cell? ⟨b,1,none⟩=some (.slice (some ⟨q,0,none⟩) 0 0):=c2
 have c0:w.cell? ⟨b,1,none⟩=some (.slice (some ⟨q,0,none⟩) 0 0):=c1
 have HG:=hid g
 have HK:Hid (alP w (w.alloc (.view ⟨q,0,none⟩ 5)).drew b):=hid ⟨by show _≤(w.alloc (.view ⟨q,0,none⟩ 5)).heap.size;simp,fun k hk _=>Lib.alloc_old w _ k hk⟩
 clear hbk hq g
 go_enter Tryz.func86,Tryz.ntmps86
 go_wp2
 go_region
 all_goals (go_wp2;go_ret;exact⟨rfl,(HG.out.alloc _).drew,HK.out⟩)
theorem apw{w0 w:World}{b q cap:Nat}{p:Value}(g:G w0 w)(hc0:cap≠0)(hbk:w.heap[b]?=some (.cells #[p,.slice (some ⟨q,0,none⟩) 0 cap] 124 (0,0))) :
  Calls Tryz.prog 86 #[.pointer (some ⟨b,0,none⟩)] w fun e w'=>e=.returned (.string (S []))∧G w0 w'∧alP w w' b:=by
 have hUS:=fun q=>Lib.run_unsafeString_none (P:=Tryz.prog) w.drew 174 3 9 q
 have c1:w.drew.cell? ⟨b,1,none⟩=some (.slice (some ⟨q,0,none⟩) 0 cap):=by
  have:w.drew.heap[b]?=some (.cells #[p,.slice (some ⟨q,0,none⟩) 0 cap] 124 (0,0)):=hbk
  rw[Lib.cell_of_heap this];rfl
 have hSD:(Builtin.unsafeSliceData_ #[122] 174 #[.slice (some ⟨q,0,none⟩) 0 cap]).run Tryz.prog w.drew=.ok (.pointer (some ⟨q,0,none⟩)) w.drew:=
  Lib.run_unsafeSliceData_row _ _ _ _ _ _ hc0
 have HG:=hid g
 clear hc0 hbk g
 go_enter Tryz.func86,Tryz.ntmps86
 go_wp2
 go_region
 all_goals (go_wp2;go_ret;exact⟨rfl,HG.out.drew,Nat.le_refl _,fun k _ _=>rfl⟩)
theorem apx{w0 w:World}{b q cap:Nat}{cur:Array Value}{p:Value}{l:List UInt8}(g:G w0 w)(h0:l≠[])(hbk:w.heap[b]?=some (.cells #[p,.slice (some ⟨q,0,none⟩) l.length cap] 124 (0,0)))(hown:w.ownsRow w0.heap.size 5 1 (.slice (some ⟨q,0,none⟩) l.length cap) l.length (Lib.byteCells l))(hbq:w0.heap.size≤q)(hq:w.heap[q]?=some (.cells cur 5 (0,0)))(hnc:l.length≤cap)(hcm:cap≤maxLen)(hcs:cur.size=cap*1) :
  Calls Tryz.prog 86 #[.pointer (some ⟨b,0,none⟩)] w fun e w'=>e=.returned (.string (S l))∧G w0 w'∧alP w w' b:=by
 have hl0:l.length≠0:=by simpa using h0
 have c1:w.drew.cell? ⟨b,1,none⟩=some (.slice (some ⟨q,0,none⟩) l.length cap):=by
  have:w.drew.heap[b]?=some (.cells #[p,.slice (some ⟨q,0,none⟩) l.length cap] 124 (0,0)):=hbk
  rw[Lib.cell_of_heap this];rfl
 have hSD:(Builtin.unsafeSliceData_ #[122] 174 #[.slice (some ⟨q,0,none⟩) l.length cap]).run Tryz.prog w.drew=.ok (.pointer (some ⟨q,0,none⟩)) w.drew:=
  Lib.run_unsafeSliceData_row _ _ _ _ _ _ (by omega)
 have hUS:(Builtin.unsafeString_ #[174,3] 9 #[.pointer (some ⟨q,0,none⟩),.int .i64 l.length]).run Tryz.prog w.drew=.ok (.string (S l)) (w.drew.freeze ⟨q,0,none⟩ l.length):=by
  refine Lib.run_unsafeString_row (P:=Tryz.prog) w.drew 174 3 9 5 Tryz.underlying174 cellsByte q cur.size (by have hg':w.drew.heap[q]?=some (.cells cur 5 (0,0)):=hq;simp[World.shape?,hg']) l h0 (by omega) (by unfold maxLen at hcm;omega) ?_
  intro j x hx
  exact hown.cells (g:=q) rfl j (.int .u8 x.toNat) (by simp[Lib.byteCells,hx])
 have HG:=hid g
 have HK:Hid (alP w (w.drew.freeze ⟨q,0,none⟩ l.length) b):=hid ⟨by rw[apu];exact Nat.le_refl _,fun k hk hb=>by
  rw[aej hbk]at hb
  exact apv w.drew ⟨q,0,none⟩ l.length k (fun e=>hb (by rw[e];rfl))⟩
 clear hbk hown hq hnc hcm hcs g h0
 go_enter Tryz.func86,Tryz.ntmps86
 go_wp2
 go_region
 all_goals (go_wp2;go_ret;exact⟨rfl,Lib.below_freeze (HG.out.drew).below (p:=⟨q,0,none⟩) hbq _,HK.out⟩)
theorem ag1{w0 w:World}{b:Nat}{l:List UInt8}(h:IsB w0 w b l)(g:G w0 w) :
  Calls Tryz.prog 86 #[.pointer (some ⟨b,0,none⟩)] w fun e w'=>e=.returned (.string (S l))∧G w0 w'∧alP w w' b:=by
 obtain⟨p,hB,v,hbk,hown,hne⟩:∃p,Lib.BuilderAt 124 5 w0.heap.size b p (Lib.byteCells l) w:=by
  rcases h with h|h
  ·exact⟨_,h⟩
  ·exact⟨_,h⟩
 rw[Lib.byteCells_length]at hown
 by_cases h0:l=[]
 ·subst h0
  rcases hown.2 with⟨rfl,_⟩|⟨q,cap,cur,rfl,hbq,hq,_,_,_,_⟩
  ·exact aqY g hbk
  ·by_cases hc0:cap=0
   ·subst hc0
    exact ane g hbk hq
   ·exact apw g hc0 hbk
 ·rcases hown.2 with⟨_,hz⟩|⟨q,cap,cur,rfl,hbq,hq,hnc,hcm,hcs,htake⟩
  ·exact absurd (by simpa using hz) h0
  ·exact apx g h0 hbk hown hbq hq hnc hcm hcs
theorem IsB.new{w0 w:World}(g:G w0 w):IsB w0 (w.alloc (.cells #[.pointer none,.slice none 0 0] 124)) w.heap.size []:=by
 refine Or.inl ⟨g.size,.slice none 0 0,?_,World.ownsRow_nil _ _ _ _,by simp[Value.ownBlock]⟩
 show(w.heap.push _)[w.heap.size]?=_
 simp
theorem IsB.lt{w0 w:World}{b:Nat}{l:List UInt8}(h:IsB w0 w b l):w0.heap.size≤b∧b<w.heap.size:=by
 rcases h with h|h
 ·exact⟨h.1,h.lt⟩
 ·exact⟨h.1,h.lt⟩
theorem IsB.grow{w0 w w':World}{b:Nat}{l:List UInt8}(h:IsB w0 w b l)(g:G w w'):IsB w0 w' b l:=by
 have key:∀p,Lib.BuilderAt 124 5 w0.heap.size b p (Lib.byteCells l) w→Lib.BuilderAt 124 5 w0.heap.size b p (Lib.byteCells l) w':=by
  intro p h
  have hlt:=h.lt
  obtain⟨hB,v,hbk,hown,hne⟩:=h
  refine⟨hB,v,?_,⟨hown.1,?_⟩,hne⟩
  ·rw[g.below.block b hlt];exact hbk
  ·rcases hown.2 with h|⟨q,cap,cur,hv,hbq,hq,r⟩
   ·exact Or.inl h
   ·refine Or.inr ⟨q,cap,cur,hv,hbq,?_,r⟩
    have:q<w.heap.size:=by
     rcases Nat.lt_or_ge q w.heap.size with h'|h'
     ·exact h'
     ·rw[Array.getElem?_eq_none h']at hq;cases hq
    rw[g.below.block q this];exact hq
 rcases h with h|h
 ·exact Or.inl (key _ h)
 ·exact Or.inr (key _ h)
end Go.Proofs.YtmffejnigppbpaaGreatDoor

set_option maxHeartbeats 2000000
set_option maxRecDepth 100000
namespace Go.Proofs.YtmffejnigppbpaaGreatDoor
open Go.RowKit
theorem atT{w0 w:World}{b:Nat}{p v:Value}(g:G w0 w)(hb:w0.heap.size≤b)(hbk:w.heap[b]?=some (.cells #[p,v] 124 (0,0))) :
  Calls Tryz.prog 253 #[.pointer (some ⟨b,0,none⟩)] w fun e w'=>e=.returned (.tuple #[])∧G w0 w'∧IsB w0 w' b []∧w'.heap.size=w.heap.size∧ad2 w' b=none∧∀k,k≠b→w'.heap[k]?=w.heap[k]?:=by
 have c0:w.cell? ⟨b,0,none⟩=some p:=by rw[cell_of_row w b 0 _ _ _ hbk];rfl
 have c1:w.cell? ⟨b,1,none⟩=some v:=by rw[cell_of_row w b 1 _ _ _ hbk];rfl
 have z0:w.frozen? ⟨b,0,none⟩=false:=frozen_of_row w b 0 _ _ hbk
 have z1:w.frozen? ⟨b,1,none⟩=false:=frozen_of_row w b 1 _ _ hbk
 have e1:w.setCell ⟨b,0,none⟩ (.pointer none)=w.setRow b #[.pointer none,v]:=by
  rw[setCell_eq_setRow w b 0 _ _ _ _ hbk];rfl
 have h1:(w.setRow b #[.pointer none,v]).heap[b]?=some (.cells #[.pointer none,v] 124 (0,0)):=setRow_heap w b _ _ _ _ hbk
 have e2:(w.setCell ⟨b,0,none⟩ (.pointer none)).setCell ⟨b,1,none⟩ (.slice none 0 0)=w.setRow b #[.pointer none,.slice none 0 0]:=by
  rw[e1,setCell_eq_setRow _ b 1 _ _ _ _ h1,setRow_setRow];rfl
 have hrow:(w.setRow b #[.pointer none,.slice none 0 0]).heap[b]?=some (.cells #[.pointer none,.slice none 0 0] 124 (0,0)):=setRow_heap w b _ _ _ _ hbk
 have E2:=hid e2
 have HROW:=hid hrow
 clear e1 e2 h1 hrow hbk
 go_enter Tryz.func253,Tryz.ntmps253
 go_wp2
 go_end0
 rw[E2.out]
 refine⟨rfl,?_,?_,by simp,aej HROW.out,fun k hk=>setRow_other w b k _ hk⟩
 ·exact below_setRow g.below hb _
 ·exact Or.inl ⟨hb,.slice none 0 0,HROW.out,World.ownsRow_nil _ _ _ _,by simp[Value.ownBlock]⟩
theorem aoR{w0 w:World}{b:Nat}{l:List UInt8}(h:IsB w0 w b l)(g:G w0 w)(c:Int)(hc0:0≤c)(hc1:c<256)(hlen:l.length+1≤140737488355328) :
  Calls Tryz.prog 212 #[.pointer (some ⟨b,0,none⟩),.int .u8 c] w fun e w'=>e=.returned .nilIface∧IsB w0 w' b (l++[acR c])∧G w0 w'∧akH w w' b∧(ad2 w' b=ad2 w b∨∃q,ad2 w' b=some q∧w.heap.size≤q):=by
 obtain⟨i0,hi,hz0,hz1,hz2⟩:=info_parts infoByte
 have hbl:(Lib.byteCells l).length=l.length:=Lib.byteCells_length l
 have hBw:=g.size
 have H:=hid h
 have HG:=hid g
 clear h g
 go_enter Tryz.func212,Tryz.ntmps212
 go_wp2_with fail
 refine(aix w0.heap.size b _ _ H.out).mono ?_
 rintro e w1 ⟨rfl,h1,hb1,hsz,hbf,hk1⟩
 obtain⟨hB,v,hbk,hown,hne⟩:=h1
 have HK1:=hid hk1
 have HBF:=hid hbf
 have HSZ:=hid hsz
 have hszl:w.heap.size≤w1.heap.size:=by omega
 clear hk1 hbf hsz
 have c0:w1.cell? ⟨b,0,none⟩=some (.pointer (some ⟨b,0,none⟩)):=by rw[Lib.cell_of_heap hbk];rfl
 have c1:w1.cell? ⟨b,1,none⟩=some v:=by rw[Lib.cell_of_heap hbk];rfl
 have HBK:=hid hbk
 have HB1:=hid hb1
 clear hbk hb1
 go_wp2_with (at_builtin;refine wpList_append_lies _ rfl _ _ 122 rfl w0.heap.size 5 i0 (.int .u8 0) 1 1 Tryz.underlying122 hi hz0 hz1 hz2 rfl (by decide) _ _ _ rfl (hown.alloc _) ⟨w1.heap.size,0,none⟩ 1 1 [.int .u8 c] rfl rfl ?c1 ?c2 (by omega) ?c3 ?c4 ?c5 _ rfl ?_)
 case c1=>
  intro j u hj
  match j,hj with
  |0,hj=>simp at hj;subst hj;simp[Addr.add]
 case c2=>intro u hu;simp at hu;subst hu;rfl
 case c3=>unfold maxLen;omega
 case c4=>omega
 case c5=>simp;omega
 intro q cap w2 hown' hgrow hat _
 have hbk:=HBK.out
 have hlt:b<w1.heap.size:=by
  rcases Nat.lt_or_ge b w1.heap.size with h'|h'
  ·exact h'
  ·rw[Array.getElem?_eq_none h']at hbk;cases hbk
 have hb2:w2.heap[b]?=some (.cells #[.pointer (some ⟨b,0,none⟩),v] 124 (0,0)):=by
  rw[hgrow.block b (by simp;omega) (fun e=>hne e.symm),Lib.alloc_old w1 _ b hlt]
  exact hbk
 have d0:w2.cell? ⟨b,0,none⟩=some (.pointer (some ⟨b,0,none⟩)):=by rw[Lib.cell_of_heap hb2];rfl
 have d1:w2.cell? ⟨b,1,none⟩=some v:=by rw[Lib.cell_of_heap hb2];rfl
 have f1:w2.frozen? ⟨b,1,none⟩=false:=Lib.frozen_of_heap hb2 1
 have HB2:=hid hb2
 have HGR:=hid hgrow
 have HAT:=hid hat
 clear hbk hb2 hgrow hat
 go_wp2
 go_ret
 have hgg:G w0 (w2.setCell ⟨b,1,none⟩ (.slice (some ⟨q,0,none⟩) (l.length+1) cap)):=by
  have x1:Below w0.heap.size w0 w1:=HG.out.below.trans HB1.out
  exact((x1.alloc (by omega) _).grown HGR.out (by simp;omega) (fun k hk=>(hown.lt k hk).1)).setCell (p:=⟨b,1,none⟩) hB _
 refine⟨rfl,Or.inr ?_,hgg,?_,?_⟩
 ·have e:Lib.byteCells (l++[acR c])=Lib.byteCells l++[.int .u8 c]:=by
   simp[Lib.byteCells];exact(ac9 hc0 hc1)
  rw[e]
  exact Lib.BuilderAt.put (T:=124) (e:=5) hB HB2.out (bs':=Lib.byteCells l++[.int .u8 c]) (by simpa[Lib.byteCells_length]using hown') (by decide)
 ·intro k hk hkb hkv
  rw[Below.heap_setCell _ _ _ _ hkb]
  rw[←HBF.out,aej HBK.out]at hkv
  rw[HGR.out.block k (by simp;omega) (fun e=>hkv e.symm),Lib.alloc_old w1 _ k (by omega)]
  exact HK1.out k hkb
 ·have hbuf:ad2 (w2.setCell ⟨b,1,none⟩ (.slice (some ⟨q,0,none⟩) (l.length+1) cap)) b=some q:=by
   rw[setCell_eq_setRow w2 b 1 _ _ _ _ HB2.out]
   exact aej (setRow_heap w2 b _ _ _ _ HB2.out)
  rw[hbuf]
  rcases HAT.out with h|h
  ·left
   rw[←HBF.out,aej HBK.out,h]
  ·right
   refine⟨q,rfl,?_⟩
   have:=HSZ.out;omega
end Go.Proofs.YtmffejnigppbpaaGreatDoor

namespace Go.Proofs.YtmffejnigppbpaaGreatDoor
open Go.RowKit
theorem arY(a:List UInt8):∀(n:Nat) (s:List UInt8),s.length≤n→∀(k:Nat) (cur:List UInt8) (ts:List (List UInt8)) (cs:List UInt8) (T:List (List UInt8)) (C:List UInt8),C9 a s k cur ts cs=.good T C →
  ∃T' C',T=ts++T'∧C=cs++C'∧T'.length=C'.length+1∧∀k' ts' cs',C9 a s k' cur ts' cs'=.good (ts'++T') (cs'++C'):=by
 intro n
 induction n with
 |zero=>
  intro s hs k cur ts cs T C h
  have:s=[]:=List.eq_nil_of_length_eq_zero (by omega)
  subst this
  rw[adc]at h
  injection h with h1 h2
  exact⟨[cur],[],h1.symm,by simp[h2],rfl,fun k' ts' cs'=>by rw[adc];simp⟩
 |succ n ih=>
  intro s hs k cur ts cs T C h
  match s,hs,h with
  |[],_,h=>
   rw[adc]at h
   injection h with h1 h2
   exact⟨[cur],[],h1.symm,by simp[h2],rfl,fun k' ts' cs'=>by rw[adc];simp⟩
  |c::t,hs,h=>
   by_cases h92:c=92
   ·subst h92
    match t,hs,h with
    |[],_,h=>rw[agi]at h;cases h
    |d::t,hs,h=>
     cases hu:afs d with
     |none=>rw[afI hu]at h;cases h
     |some x=>
      rw[ae4 hu]at h
      obtain⟨T',C',h1,h2,h3,h4⟩:=ih t (by simp at hs;omega) _ _ _ _ _ _ h
      exact⟨T',C',h1,h2,h3,fun k' ts' cs'=>by rw[ae4 hu];exact h4 _ _ _⟩
   ·cases hc:a.contains c with
    |true=>
     rw[aeG h92 hc]at h
     obtain⟨T',C',h1,h2,h3,h4⟩:=ih t (by simp at hs;omega) _ _ _ _ _ _ h
     exact⟨cur::T',c::C',by rw[h1];simp,by rw[h2];simp,by simp[h3],fun k' ts' cs'=>by rw[aeG h92 hc,h4];simp⟩
    |false=>
     rw[ae5 h92 hc]at h
     obtain⟨T',C',h1,h2,h3,h4⟩:=ih t (by simp at hs;omega) _ _ _ _ _ _ h
     exact⟨T',C',h1,h2,h3,fun k' ts' cs'=>by rw[ae5 h92 hc];exact h4 _ _ _⟩
def UD:List (List UInt8)→List UInt8→List (List UInt8)→List (List (List UInt8))
 |cur,[],_=>[cur]
 |cur,_::_,[]=>[cur]
 |cur,c::cs,t::ts=>if c=59 then cur::UD [t] cs ts else UD (cur++[t]) cs ts
theorem aoZ(Cb:List UInt8)(t0:List UInt8)(Tb:List (List UInt8)):∀(Ca:List UInt8) (Ta:List (List UInt8)) (cur:List (List UInt8)),Ta.length=Ca.length →
  UD cur (Ca++59::Cb) (Ta++t0::Tb)=UD cur Ca Ta++UD [t0] Cb Tb:=by
 intro Ca
 induction Ca with
 |nil=>
  intro Ta cur h
  have:Ta=[]:=List.eq_nil_of_length_eq_zero (by simpa using h)
  subst this
  rfl
 |cons c Ca ih=>
  intro Ta cur h
  cases Ta with
  |nil=>simp at h
  |cons t Ta=>
   have e:∀(X:List UInt8) (Y:List (List UInt8)),UD cur (c::X) (t::Y)=if c=59 then cur::UD [t] X Y else UD (cur++[t]) X Y:=fun _ _=>rfl
   rw[List.cons_append,List.cons_append,e,e]
   split
   ·rw[ih Ta [t] (by simpa using h)];rfl
   ·exact ih Ta (cur++[t]) (by simpa using h)
def acT:List (List UInt8)→List UInt8
 |[]=>[]
 |x::xs=>Uu [44] (adK x) (xs.map adK)
theorem ahj(a:List UInt8)(ha:∀c∈a,c=44∨c=59)(h44:a.contains 44=true)(xs:List (List UInt8)):∀(x:List UInt8) (r:List UInt8) (k:Nat) (ts:List (List UInt8)) (cs:List UInt8),
  ∃k' init last,x::xs=init++[last]∧C9 a (acT (x::xs)++r) k [] ts cs=C9 a r k' last (ts++init) (cs++List.replicate xs.length 44):=by
 induction xs with
 |nil=>
  intro x r k ts cs
  refine⟨k+(adK x).length,[],x,rfl,?_⟩
  show C9 a (adK x++r) k [] ts cs=_
  rw[ahS a ha]
  simp
 |cons y xs ih=>
  intro x r k ts cs
  obtain⟨k',init,last,h1,h2⟩:=ih y r (k+(adK x).length+1) (ts++[x]) (cs++[44])
  refine⟨k',x::init,last,by rw[h1];rfl,?_⟩
  have e:acT (x::y::xs)++r=adK x++(44::(acT (y::xs)++r)):=by
   show(adK x++([44]++Uu [44] (adK y) (xs.map adK)))++r=_
   simp[acT]
  rw[e,ahS a ha,aeG (by decide) h44]
  simp only[List.nil_append]
  rw[h2]
  simp[List.replicate_succ]
theorem at6(x:List UInt8)(xs:List (List UInt8)):C9 [44] (acT (x::xs)) 0 [] [] []=.good (x::xs) (List.replicate xs.length 44):=by
 obtain⟨k',init,last,h1,h2⟩:=ahj [44] (by simp) rfl xs x [] 0 [] []
 rw[List.append_nil]at h2
 rw[h2,adc,h1];simp
def aeY:List (List (List UInt8))→List UInt8
 |[]=>[]
 |x::xs=>Uu [59] (acT x) (xs.map acT)
theorem an6:∀(xs:List (List UInt8)) (cur:List (List UInt8)),UD cur (List.replicate xs.length 44) xs=[cur++xs]:=by
 intro xs
 induction xs with
 |nil=>intro cur;simp[UD]
 |cons y ys ih=>
  intro cur
  show(if (44:UInt8)=59 then _ else UD (cur++[y]) (List.replicate ys.length 44) ys)=_
  rw[if_neg (by decide),ih];simp
theorem ao0(ls:List (List (List UInt8))):∀(l:List (List UInt8)),l≠[]→(∀m∈ls,m≠[])→∀(k:Nat) (ts:List (List UInt8)) (cs:List UInt8),
  ∃x xs C,C9 [44,59] (aeY (l::ls)) k [] ts cs=.good (ts++x::xs) (cs++C)∧xs.length=C.length∧UD [x] C xs=l::ls:=by
 induction ls with
 |nil=>
  intro l hl _ k ts cs
  obtain⟨x,xs,rfl⟩:∃x xs,l=x::xs:=by cases l with|nil=>exact absurd rfl hl|cons x xs=>exact⟨x,xs,rfl⟩
  obtain⟨k',init,last,h1,h2⟩:=ahj [44,59] (by simp) rfl xs x [] k ts cs
  rw[List.append_nil]at h2
  refine⟨x,xs,List.replicate xs.length 44,?_,by simp,an6 xs [x]⟩
  show C9 [44,59] (acT (x::xs)) k [] ts cs=_
  rw[h2,adc,h1];simp
 |cons m ls ih=>
  intro l hl hls k ts cs
  obtain⟨x,xs,rfl⟩:∃x xs,l=x::xs:=by cases l with|nil=>exact absurd rfl hl|cons x xs=>exact⟨x,xs,rfl⟩
  obtain⟨k',init,last,h1,h2⟩:=ahj [44,59] (by simp) rfl xs x (59::aeY (m::ls)) k ts cs
  obtain⟨y,ys,C,h3,h4,h5⟩:=ih m (hls m List.mem_cons_self) (fun q hq=>hls q (List.mem_cons_of_mem _ hq)) (k'+1) (ts++init++[last]) (cs++List.replicate xs.length 44++[59])
  refine⟨x,xs++y::ys,List.replicate xs.length 44++59::C,?_,by simp[h4],?_⟩
  ·have e:aeY ((x::xs)::m::ls)=acT (x::xs)++59::aeY (m::ls):=by
    show acT (x::xs)++([59]++Uu [59] (acT m) (ls.map acT))=_
    rfl
   rw[e,h2,aeG (by decide) rfl,h3]
   have:x::(xs++y::ys)=init++[last]++y::ys:=by rw[←h1];rfl
   rw[this];simp
  ·rw[aoZ C y ys (List.replicate xs.length 44) xs [x] (by simp),an6,h5];rfl
end Go.Proofs.YtmffejnigppbpaaGreatDoor

namespace Go.Proofs.YtmffejnigppbpaaGreatDoor
open Go.RowKit
theorem Uy{w w':World}{base:Nat}{e:TypeId}{size:Nat}{v:Value}{n:Nat}{xs:List Value}(h:w.ownsRow base e size v n xs)(hb:∀k,v.ownBlock=some k→k<w.heap.size→w'.heap[k]?=w.heap[k]?):w'.ownsRow base e size v n xs:=by
 refine⟨h.1,?_⟩
 rcases h.2 with hn|⟨q,cap,cur,rfl,hbg,hgg,rest⟩
 ·exact .inl hn
 ·have hq:q<w.heap.size:=by
   rcases Nat.lt_or_ge q w.heap.size with h'|h'
   ·exact h'
   ·rw[Array.getElem?_eq_none h']at hgg;cases hgg
  exact .inr ⟨q,cap,cur,rfl,hbg,by rw[hb q rfl hq];exact hgg,rest⟩
structure adv(w0 w:World)(b:Nat)(tv cv:Value)(cur:List UInt8)(ts:List (List UInt8))(cs:List UInt8):Prop where
 g:G w0 w
 ib:IsB w0 w b cur
 ot:w.ownsRow w0.heap.size 9 1 tv ts.length (ts.map fun t=>.string (S t))
 oc:w.ownsRow w0.heap.size 5 1 cv cs.length (cs.map fun c=>.int .u8 (c.toNat:Int))
 tb:tv.ownBlock≠some b
 cb:cv.ownBlock≠some b
 tu:∀q,ad2 w b=some q→tv.ownBlock≠some q∧cv.ownBlock≠some q
theorem adv.wrote{w0 w w':World}{b:Nat}{tv cv:Value}{cur cur':List UInt8}{ts:List (List UInt8)}{cs:List UInt8}(h:adv w0 w b tv cv cur ts cs)(ib':IsB w0 w' b cur')(g':G w0 w')(hk:akH w w' b)(hb:ad2 w' b=ad2 w b∨∃q,ad2 w' b=some q∧w.heap.size≤q):adv w0 w' b tv cv cur' ts cs:=by
 refine⟨g',ib',Uy h.ot fun k hv hlt=>hk k hlt ?_ ?_,Uy h.oc fun k hv hlt=>hk k hlt ?_ ?_,h.tb,h.cb,fun q hq=>?_⟩
 ·rintro rfl;exact h.tb hv
 ·intro e;exact(h.tu k e).1 hv
 ·rintro rfl;exact h.cb hv
 ·intro e;exact(h.tu k e).2 hv
 ·rcases hb with e|⟨q',e,hle⟩
  ·exact h.tu q (by rw[←e];exact hq)
  ·rw[e]at hq
   injection hq with hq
   subst hq
   refine⟨fun e=>?_,fun e=>?_⟩
   ·have:=(h.ot.lt _ e).2;omega
   ·have:=(h.oc.lt _ e).2;omega
theorem adv.blk{w0 w:World}{b:Nat}{tv cv:Value}{cur:List UInt8}{ts:List (List UInt8)}{cs:List UInt8}(h:adv w0 w b tv cv cur ts cs):w0.heap.size≤b∧∃p v,w.heap[b]?=some (.cells #[p,v] 124 (0,0)):=by
 rcases h.ib with h|h
 ·obtain⟨hB,v,hbk,_⟩:=h;exact⟨hB,_,v,hbk⟩
 ·obtain⟨hB,v,hbk,_⟩:=h;exact⟨hB,_,v,hbk⟩
structure aeS(w0 w:World)(b:Nat)(tv cv:Value)(ts:List (List UInt8))(cs:List UInt8):Prop where
 g:G w0 w
 hb:w0.heap.size≤b
 blk:∃p v,w.heap[b]?=some (.cells #[p,v] 124 (0,0))
 ot:w.ownsRow w0.heap.size 9 1 tv ts.length (ts.map fun t=>.string (S t))
 oc:w.ownsRow w0.heap.size 5 1 cv cs.length (cs.map fun c=>.int .u8 (c.toNat:Int))
 tb:tv.ownBlock≠some b
 cb:cv.ownBlock≠some b
theorem adv.q{w0 w:World}{b:Nat}{tv cv:Value}{cur:List UInt8}{ts:List (List UInt8)}{cs:List UInt8}(h:adv w0 w b tv cv cur ts cs):aeS w0 w b tv cv ts cs:=
 ⟨h.g,h.blk.1,h.blk.2,h.ot,h.oc,h.tb,h.cb⟩
theorem aif{w:World}{b:Nat}{o:Obj}(h:w.heap[b]?=some o):b<w.heap.size:=by
 rcases Nat.lt_or_ge b w.heap.size with h'|h'
 ·exact h'
 ·rw[Array.getElem?_eq_none h']at h;cases h
theorem aqp{w0 w:World}{tv cv:Value}{n m:Nat}{xs ys:List Value}(ht:w.ownsRow w0.heap.size 9 1 tv n xs)(hc:w.ownsRow w0.heap.size 5 1 cv m ys)(q:Nat)(hq:tv.ownBlock=some q):cv.ownBlock≠some q:=by
 intro e
 rcases ht.2 with⟨rfl,_⟩|⟨g1,c1,u1,rfl,_,h1,_⟩
 ·cases hq
 ·rcases hc.2 with⟨rfl,_⟩|⟨g2,c2,u2,rfl,_,h2,_⟩
  ·cases e
  ·simp only[Value.ownBlock,Option.some.injEq]at hq e
   subst hq
   subst e
   rw[h1]at h2
   injection h2 with h2
   injection h2 with _ h2 _
   exact absurd h2 (by decide)
theorem aeS.grow{w0 w w':World}{b:Nat}{tv cv:Value}{ts:List (List UInt8)}{cs:List UInt8}(h:aeS w0 w b tv cv ts cs)(g:G w w'):aeS w0 w' b tv cv ts cs:=by
 obtain⟨p,v,hbk⟩:=h.blk
 exact⟨h.g.trans g,h.hb,⟨p,v,by rw[g.below.block b (aif hbk)];exact hbk⟩,Uy h.ot fun k _ hk=>g.below.block k hk,Uy h.oc fun k _ hk=>g.below.block k hk,h.tb,h.cb⟩
theorem amC{w0 w:World}{b:Nat}{l:List UInt8}(h:IsB w0 w b l):∀q,ad2 w b=some q→q<w.heap.size∧q≠b:=by
 have key:∀p,Lib.BuilderAt 124 5 w0.heap.size b p (Lib.byteCells l) w→∀q,ad2 w b=some q→q<w.heap.size∧q≠b:=by
  rintro p ⟨hB,v,hbk,hown,hne⟩ q hq
  rw[aej hbk]at hq
  exact⟨(hown.lt q hq).2,by rintro rfl;exact hne hq⟩
 rcases h with h|h
 ·exact key _ h
 ·exact key _ h
theorem IsB.same{w0 w w':World}{b:Nat}{l:List UInt8}(h:IsB w0 w b l)(hb:w'.heap[b]?=w.heap[b]?)(hq:∀q,ad2 w b=some q→w'.heap[q]?=w.heap[q]?):IsB w0 w' b l:=by
 have key:∀p,Lib.BuilderAt 124 5 w0.heap.size b p (Lib.byteCells l) w→Lib.BuilderAt 124 5 w0.heap.size b p (Lib.byteCells l) w':=by
  rintro p ⟨hB,v,hbk,hown,hne⟩
  refine⟨hB,v,by rw[hb];exact hbk,Uy hown fun k hv _=>hq k ?_,hne⟩
  rw[aej hbk];exact hv
 rcases h with h|h
 ·exact Or.inl (key _ h)
 ·exact Or.inr (key _ h)
theorem amD{w w':World}{b:Nat}(hb:w'.heap[b]?=w.heap[b]?):ad2 w' b=ad2 w b:=by unfold ad2;rw[hb]
theorem adv.grow{w0 w w':World}{b:Nat}{tv cv:Value}{cur:List UInt8}{ts:List (List UInt8)}{cs:List UInt8}(h:adv w0 w b tv cv cur ts cs)(g:G w w'):adv w0 w' b tv cv cur ts cs:=by
 have q:=h.q.grow g
 have hbl:=h.ib.lt.2
 refine⟨q.g,h.ib.grow g,q.ot,q.oc,q.tb,q.cb,?_⟩
 rw[amD (g.below.block b hbl)]
 exact h.tu
theorem adv.new{w0 w:World}(g:G w0 w):adv w0 (w.alloc (.cells #[.pointer none,.slice none 0 0] 124)) w.heap.size (.slice none 0 0) (.slice none 0 0) [] [] []:=by
 refine⟨g.alloc _,IsB.new g,World.ownsRow_nil _ _ _ _,World.ownsRow_nil _ _ _ _,by simp[Value.ownBlock],by simp[Value.ownBlock],fun q _=>⟨by simp[Value.ownBlock],by simp[Value.ownBlock]⟩⟩
theorem adv.str{w0 w:World}{b:Nat}{tv cv:Value}{cur:List UInt8}{ts:List (List UInt8)}{cs:List UInt8}(h:adv w0 w b tv cv cur ts cs) :
  Calls Tryz.prog 86 #[.pointer (some ⟨b,0,none⟩)] w fun e w'=>e=.returned (.string (S cur))∧aeS w0 w' b tv cv ts cs∧w.heap.size≤w'.heap.size∧∀k,k<w.heap.size→ad2 w b≠some k→w'.heap[k]?=w.heap[k]?:=by
 refine(ag1 h.ib h.g).mono ?_
 rintro e w' ⟨rfl,g',hsz,hk⟩
 obtain⟨hb,p,v,hbk⟩:=h.blk
 have hbl:=aif hbk
 have hbb:w'.heap[b]?=w.heap[b]?:=hk b hbl (fun e=>(amC h.ib b e).2 rfl)
 refine⟨rfl,⟨g',hb,⟨p,v,by rw[hbb];exact hbk⟩,Uy h.ot fun k hv hlt=>hk k hlt fun e=>(h.tu k e).1 hv,Uy h.oc fun k hv hlt=>hk k hlt fun e=>(h.tu k e).2 hv,h.tb,h.cb⟩,hsz,hk⟩
theorem agh{w w':World}{v:Value}{k:Nat}(hg:w.grownBy w' v.ownBlock)(hk:k<w.heap.size)(hne:v.ownBlock≠some k):w'.heap[k]?=w.heap[k]?:=hg.block k hk (fun e=>hne e.symm)
theorem aeS.pushT{w0 w w':World}{b g cap H:Nat}{tv cv:Value}{ts:List (List UInt8)}{cs:List UInt8}(h:aeS w0 w b tv cv ts cs)(t:List UInt8)(ho:w'.ownsRow w0.heap.size 9 1 (.slice (some ⟨g,0,none⟩) (ts.length+1) cap) (ts.length+1) ((ts.map fun t=>Value.string (S t))++[.string (S t)]))(hg:w.grownBy w' tv.ownBlock)(hat:tv.ownBlock=some g∨g=H)(hH:w.heap.size=H) :
  aeS w0 w' b (.slice (some ⟨g,0,none⟩) (ts.length+1) cap) cv (ts++[t]) cs:=by
 obtain⟨p,v,hbk⟩:=h.blk
 have hbl:=aif hbk
 refine⟨Below.grown h.g hg h.g.size (fun k hk=>(h.ot.lt k hk).1),h.hb,⟨p,v,by rw[agh hg hbl h.tb];exact hbk⟩,by simpa using ho,Uy h.oc fun k hv hk=>agh hg hk fun e=>aqp h.ot h.oc k e hv,?_,h.cb⟩
 simp only[Value.ownBlock,ne_eq,Option.some.injEq]
 rintro rfl
 rcases hat with hat|hat
 ·exact h.tb hat
 ·omega
theorem aeS.pushC{w0 w w':World}{b g cap H:Nat}{tv cv:Value}{ts:List (List UInt8)}{cs:List UInt8}(h:aeS w0 w b tv cv ts cs)(c:UInt8)(ho:w'.ownsRow w0.heap.size 5 1 (.slice (some ⟨g,0,none⟩) (cs.length+1) cap) (cs.length+1) ((cs.map fun c=>Value.int .u8 (c.toNat:Int))++[.int .u8 (c.toNat:Int)]))(hg:w.grownBy w' cv.ownBlock)(hat:cv.ownBlock=some g∨g=H)(hH:w.heap.size=H) :
  aeS w0 w' b tv (.slice (some ⟨g,0,none⟩) (cs.length+1) cap) ts (cs++[c]):=by
 obtain⟨p,v,hbk⟩:=h.blk
 have hbl:=aif hbk
 refine⟨Below.grown h.g hg h.g.size (fun k hk=>(h.oc.lt k hk).1),h.hb,⟨p,v,by rw[agh hg hbl h.cb];exact hbk⟩,Uy h.ot fun k hv hk=>agh hg hk fun e=>aqp h.ot h.oc k hv e,by simpa using ho,h.tb,?_⟩
 simp only[Value.ownBlock,ne_eq,Option.some.injEq]
 rintro rfl
 rcases hat with hat|hat
 ·exact h.cb hat
 ·omega
theorem adv.pushC{w0 w w':World}{b g cap H:Nat}{tv cv:Value}{cur:List UInt8}{ts:List (List UInt8)}{cs:List UInt8}(h:adv w0 w b tv cv cur ts cs)(c:UInt8)(ho:w'.ownsRow w0.heap.size 5 1 (.slice (some ⟨g,0,none⟩) (cs.length+1) cap) (cs.length+1) ((cs.map fun c=>Value.int .u8 (c.toNat:Int))++[.int .u8 (c.toNat:Int)]))(hg:w.grownBy w' cv.ownBlock)(hat:cv.ownBlock=some g∨g=H)(hH:w.heap.size=H) :
  adv w0 w' b tv (.slice (some ⟨g,0,none⟩) (cs.length+1) cap) cur ts (cs++[c]):=by
 have q:=h.q.pushC c ho hg hat hH
 have hbl:=h.ib.lt.2
 have hbb:w'.heap[b]?=w.heap[b]?:=agh hg hbl h.cb
 refine⟨q.g,h.ib.same hbb fun k hk=>agh hg (amC h.ib k hk).1 (h.tu k hk).2,q.ot,q.oc,q.tb,q.cb,?_⟩
 rw[amD hbb]
 intro k hk
 refine⟨(h.tu k hk).1,?_⟩
 simp only[Value.ownBlock,ne_eq,Option.some.injEq]
 rintro rfl
 rcases hat with hat|hat
 ·exact(h.tu _ hk).2 hat
 ·have:=(amC h.ib _ hk).1;omega
theorem aeS.reset{w0 w:World}{b:Nat}{tv cv:Value}{ts:List (List UInt8)}{cs:List UInt8}(h:aeS w0 w b tv cv ts cs) :
  Calls Tryz.prog 253 #[.pointer (some ⟨b,0,none⟩)] w fun e w'=>e=.returned (.tuple #[])∧adv w0 w' b tv cv [] ts cs:=by
 obtain⟨p,v,hbk⟩:=h.blk
 refine(atT h.g h.hb hbk).mono ?_
 rintro e w' ⟨rfl,g',ib',hsz,hbf,hk⟩
 refine⟨rfl,g',ib',Uy h.ot fun k hv _=>hk k ?_,Uy h.oc fun k hv _=>hk k ?_,h.tb,h.cb,fun q hq=>by rw[hbf]at hq;cases hq⟩
 ·rintro rfl;exact h.tb hv
 ·rintro rfl;exact h.cb hv
theorem adv.byte{w0 w:World}{b:Nat}{tv cv:Value}{cur:List UInt8}{ts:List (List UInt8)}{cs:List UInt8}(h:adv w0 w b tv cv cur ts cs)(c:UInt8)(hl:cur.length≤1000000) :
  Calls Tryz.prog 212 #[.pointer (some ⟨b,0,none⟩),.int .u8 (c.toNat:Int)] w fun e w'=>e=.returned .nilIface∧adv w0 w' b tv cv (cur++[c]) ts cs:=by
 refine(aoR h.ib h.g (c.toNat:Int) (by omega) (by have:=c.toNat_lt;omega) (by omega)).mono ?_
 rintro e w' ⟨rfl,ib',g',hk,hb⟩
 rw[aps]at ib'
 exact⟨rfl,h.wrote ib' g' hk hb⟩
theorem adv.byteI{w0 w:World}{b:Nat}{tv cv:Value}{cur:List UInt8}{ts:List (List UInt8)}{cs:List UInt8}(h:adv w0 w b tv cv cur ts cs)(n:Int)(c:UInt8)(hn:n=(c.toNat:Int))(hl:cur.length≤1000000) :
  Calls Tryz.prog 212 #[.pointer (some ⟨b,0,none⟩),.int .u8 n] w fun e w'=>e=.returned .nilIface∧adv w0 w' b tv cv (cur++[c]) ts cs:=by
 subst hn;exact h.byte c hl
end Go.Proofs.YtmffejnigppbpaaGreatDoor

set_option maxHeartbeats 4000000
set_option maxRecDepth 100000
namespace Go.Proofs.YtmffejnigppbpaaGreatDoor
open Go.RowKit
theorem ajU(a:List UInt8)(c:UInt8):(0≤Lib.indexByte a c↔a.contains c=true):=by
 induction a with
 |nil=>simp[Lib.indexByte]
 |cons b l ih=>
  have hge:=Lib.indexByte_ge l c
  unfold Lib.indexByte
  by_cases h:b=c
  ·subst h;simp
  ·have h1:(b==c)=false:=by simpa using h
   have h2:((b::l).contains c)=l.contains c:=by
    have:¬c=b:=fun e=>h e.symm
    simp[this]
   rw[h1,h2,←ih]
   simp only[Bool.false_eq_true,if_false]
   split
   ·rename_i h3;have:=eq_of_beq h3;omega
   ·rename_i h3;have:Lib.indexByte l c ≠ -1:=fun e=>h3 (by rw[e];rfl);omega
def ahd(w:World)(v:Value)(l:List UInt8):Prop:=afJ 1 w v l.length (l.map fun c=>.int .u8 (c.toNat:Int))
theorem aoN{w:World}{base:Nat}{v:Value}{l:List UInt8}(h:w.ownsRow base 5 1 v l.length (l.map fun c=>.int .u8 (c.toNat:Int))):ahd w v l:=
 ai5 h (by intro u hu;obtain⟨c,_,rfl⟩:=List.mem_map.1 hu;rfl)
def afr(r:adb)(v:Value)(w':World):Prop:=
 match r with
 |.good ts cs=>∃tv cv,v=.tuple #[tv,cv,.nilIface]∧Ux w' tv ts∧ahd w' cv cs
 |.bad c p=>∃e,v=.tuple #[.slice none 0 0,.slice none 0 0,e]∧UE w' e c p
def afx(n:Nat)(r:adb)(v:Value)(w':World):Prop:=
 match r with
 |.good ts cs=>∃tv cv,v=.tuple #[tv,cv,.nilIface]∧w'.ownsRow n 9 1 tv ts.length (ts.map fun t=>.string (S t))∧ahd w' cv cs
 |.bad c p=>∃e,v=.tuple #[.slice none 0 0,.slice none 0 0,e]∧UE w' e c p
theorem afx.good{n:Nat}{r:adb}{ts:List (List UInt8)}{cs:List UInt8}{tv cv:Value}{w':World}(h:r=.good ts cs)(h1:w'.ownsRow n 9 1 tv ts.length (ts.map fun t=>.string (S t)))(h2:ahd w' cv cs):afx n r (.tuple #[tv,cv,.nilIface]) w':=by subst h;exact⟨_,_,rfl,h1,h2⟩
theorem afx.bad{n:Nat}{r:adb}{c:Int}{p:Nat}{e:Value}{w':World}(h:r=.bad c p)(he:UE w' e c p):afx n r (.tuple #[.slice none 0 0,.slice none 0 0,e]) w':=by subst h;exact⟨e,rfl,he⟩
theorem afx.p{n:Nat}{r:adb}{v:Value}{w':World}(h:afx n r v w'):afr r v w':=by
 cases r with
 |good ts cs=>obtain⟨tv,cv,e,h1,h2⟩:=h;exact⟨tv,cv,e,aeF h1,h2⟩
 |bad c p=>exact h
theorem afr.good{r:adb}{ts:List (List UInt8)}{cs:List UInt8}{tv cv:Value}{w':World}(h:r=.good ts cs)(h1:Ux w' tv ts)(h2:ahd w' cv cs):afr r (.tuple #[tv,cv,.nilIface]) w':=by subst h;exact⟨_,_,rfl,h1,h2⟩
theorem afr.bad{r:adb}{c:Int}{p:Nat}{e:Value}{w':World}(h:r=.bad c p)(he:UE w' e c p):afr r (.tuple #[.slice none 0 0,.slice none 0 0,e]) w':=by subst h;exact⟨e,rfl,he⟩
def atN(a s:List UInt8)(w wr:World)(k:Nat)(tv cv:Value)(cur:List UInt8)(ts:List (List UInt8))(cs:List UInt8):Prop:=
 k≤s.length∧C9 a s 0 [] [] []=C9 a (s.drop k) k cur ts cs∧adv w wr w.heap.size tv cv cur ts cs∧cur.length≤k∧ts.length≤k∧cs.length≤k
theorem arN{d:UInt8}(h:afs d=none):((d.toNat:Int)==92)=false∧((d.toNat:Int)==44)=false∧((d.toNat:Int)==59)=false∧((d.toNat:Int)==110)=false∧((d.toNat:Int)==78)=false:=
 of_decide_eq_true (aei (fun d=>decide (afs d=none→((d.toNat:Int)==92)=false∧((d.toNat:Int)==44)=false∧((d.toNat:Int)==59)=false∧((d.toNat:Int)==110)=false∧((d.toNat:Int)==78)=false)) (by decide +kernel) d) h
theorem arO{d x:UInt8}(h:afs d=some x):(d=92∧x=92)∨(d=44∧x=44)∨(d=59∧x=59)∨(d=110∧x=10)∨(d=78∧x=10):=by
 unfold afs at h
 split at h
 ·rename_i h1
  injection h with h
  subst h
  rcases h1 with rfl|rfl|rfl<;>simp
 ·split at h
  ·rename_i h1
   injection h with h
   subst h
   rcases h1 with rfl|rfl<;>simp
  ·cases h
theorem arP(s a:List UInt8)(w:World)(hs:s.length≤100000)(ha:a.length≤100):Uz 239 #[.string (S s),.string (S a)] w (afx w.heap.size (C9 a s 0 [] [] [])):=by
 obtain⟨i0,hi,hz0,hz1,hz2⟩:=info_parts ajT
 obtain⟨i1,hi1,hz10,hz11,hz12⟩:=info_parts infoByte
 go_enter Tryz.func239,Tryz.ntmps239
 go_wp2
 go_loopw [4,5,8] (fun tv cv i wr=>∃k cur ts cs,i=.int .i64 (k:Nat)∧atN a s w wr k tv cv cur ts cs) (fun _ _ i _=>s.length-(intOf i).toNat)
 case atStart=>exact⟨0,[],[],[],rfl,Nat.zero_le _,by simp,adv.new (G.refl _),Nat.le_refl _,Nat.le_refl _,Nat.le_refl _⟩
 case round=>
  obtain⟨k,cur,ts,cs,rfl,hk,hgo,hst,hl1,hl2,hl3⟩:=hrel
  have HGO:=hid hgo
  have HST:=hid hst
  clear hgo hst
  by_cases hlt:k<s.length
  ·obtain⟨c,hc⟩:∃c,s[k]=c:=⟨_,rfl⟩
   have hdr:Hid (s.drop k=c::s.drop (k+1)):=hid (by rw[←hc];exact List.drop_eq_getElem_cons hlt)
   by_cases h92:c=92
   ·subst h92
    by_cases hend:k+1<s.length
    ·obtain⟨d,hd⟩:∃d,s[k+1]=d:=⟨_,rfl⟩
     have hdr2:Hid (s.drop (k+1)=d::s.drop (k+1+1)):=hid (by rw[←hd];exact List.drop_eq_getElem_cons hend)
     cases hu:afs d with
     |none=>
      have HR:Hid (C9 a s 0 [] [] []=.bad 3 (k+1:Nat)):=hid (by
       rw[HGO.out,hdr.out,hdr2.out];exact afI hu)
      obtain⟨f1,f2,f3,f4,f5⟩:=arN hu
      clear hu
      go_wp2_with fail
      go_ret3
      exact⟨_,rfl,afx.bad HR.out (UE.new _ _ _ _),HST.out.g.alloc _⟩
     |some x=>
      have HR:Hid (C9 a s 0 [] [] []=C9 a (s.drop (k+2)) (k+2) (cur++[x]) ts cs):=hid (by
       rw[HGO.out,hdr.out,hdr2.out];exact ae4 hu)
      rcases arO hu with⟨rfl,rfl⟩|⟨rfl,rfl⟩|⟨rfl,rfl⟩|⟨rfl,rfl⟩|⟨rfl,rfl⟩
      ·clear hu
       go_wp2_with fail
       refine(HST.out.byteI 92 92 (by decide) (by omega)).mono ?_
       rintro e w1 ⟨rfl,hst1⟩
       have H1:=hid hst1
       clear hst1
       go_wp2_with fail
       go_roundw
       case rel=>exact⟨k+2,_,_,_,by go_num,by omega,HR.out,H1.out,by simp;omega,by omega,by omega⟩
       case measure=>simp[intOf];omega
      ·clear hu
       go_wp2_with fail
       refine(HST.out.byteI 44 44 (by decide) (by omega)).mono ?_
       rintro e w1 ⟨rfl,hst1⟩
       have H1:=hid hst1
       clear hst1
       go_wp2_with fail
       go_roundw
       case rel=>exact⟨k+2,_,_,_,by go_num,by omega,HR.out,H1.out,by simp;omega,by omega,by omega⟩
       case measure=>simp[intOf];omega
      ·clear hu
       go_wp2_with fail
       refine(HST.out.byteI 59 59 (by decide) (by omega)).mono ?_
       rintro e w1 ⟨rfl,hst1⟩
       have H1:=hid hst1
       clear hst1
       go_wp2_with fail
       go_roundw
       case rel=>exact⟨k+2,_,_,_,by go_num,by omega,HR.out,H1.out,by simp;omega,by omega,by omega⟩
       case measure=>simp[intOf];omega
      ·clear hu
       go_wp2_with fail
       refine(HST.out.byteI 10 10 (by decide) (by omega)).mono ?_
       rintro e w1 ⟨rfl,hst1⟩
       have H1:=hid hst1
       clear hst1
       go_wp2_with fail
       go_roundw
       case rel=>exact⟨k+2,_,_,_,by go_num,by omega,HR.out,H1.out,by simp;omega,by omega,by omega⟩
       case measure=>simp[intOf];omega
      ·clear hu
       go_wp2_with fail
       refine(HST.out.byteI 10 10 (by decide) (by omega)).mono ?_
       rintro e w1 ⟨rfl,hst1⟩
       have H1:=hid hst1
       clear hst1
       go_wp2_with fail
       go_roundw
       case rel=>exact⟨k+2,_,_,_,by go_num,by omega,HR.out,H1.out,by simp;omega,by omega,by omega⟩
       case measure=>simp[intOf];omega
    ·have HR:Hid (C9 a s 0 [] [] []=.bad 7 (k+1:Nat)):=hid (by
      rw[HGO.out,hdr.out,List.drop_eq_nil_of_le (by omega)];exact agi ..)
     have b1:((k:Int)+1==(s.length:Int))=true:=beq_iff_eq.2 (by omega)
     go_wp2_with fail
     go_ret3
     exact⟨_,rfl,afx.bad HR.out (UE.new _ _ _ _),HST.out.g.alloc _⟩
   ·have b92:((c.toNat:Int)==92)=false:=beq_eq_false_iff_ne.2 (fun e=>h92 (UInt8.toNat_inj.1 (by show c.toNat=92;omega)))
    cases hcon:a.contains c with
    |true=>
     have HR:Hid (C9 a s 0 [] [] []=C9 a (s.drop (k+1)) (k+1) [] (ts++[cur]) (cs++[c])):=hid (by
      rw[HGO.out,hdr.out];exact aeG h92 hcon)
     have hix:0≤Lib.indexByte a c:=(ajU a c).2 hcon
     go_wp2_with fail
     refine(aeW a c _).use ?_
     go_wp2_with fail
     refine(HST.out.str).mono ?_
     rintro e w1 ⟨rfl,hq,_,_⟩
     have Q1:=hid hq
     clear hq
     go_wp2_with (at_builtin;refine wpList_append_lies _ rfl (.tmp 58) (.tmp 60) 39 rfl w.heap.size 9 i0 _ 1 16 Tryz.underlying39 hi hz0 hz1 hz2 rfl (by decide) _ _ _ rfl (Q1.out.ot.alloc _) ⟨w1.heap.size,0,none⟩ 1 1 [.string (S cur)] rfl rfl (aiL _ _ _) (aiM _ rfl) (by omega) ?c3 ?c4 ?c5 _ rfl ?_)
     case c3=>unfold maxLen;omega
     case c4=>omega
     case c5=>have:=Q1.out.g.size;simp;omega
     intro g1 cap1 w2 hown2 hgrow2 hat2 hlt2
     have Q2:Hid (aeS w w2 w.heap.size (.slice (some ⟨g1,0,none⟩) (ts.length+1) cap1) _ (ts++[cur]) cs):=hid ((Q1.out.grow ((G.refl _).alloc (.cells #[.string (S cur)] 9))).pushT cur hown2 hgrow2 hat2 (by simp))
     clear hown2 hgrow2 hat2 Q1
     go_wp2_with (at_builtin;refine wpList_append_lies _ rfl (.tmp 62) (.tmp 64) 122 rfl w.heap.size 5 i1 _ 1 1 Tryz.underlying122 hi1 hz10 hz11 hz12 rfl (by decide) _ _ _ rfl (Q2.out.oc.alloc _) ⟨w2.heap.size,0,none⟩ 1 1 [.int .u8 (c.toNat:Int)] rfl rfl (aiL _ _ _) (aiM _ rfl) (by omega) ?d3 ?d4 ?d5 _ rfl ?_)
     case d3=>unfold maxLen;omega
     case d4=>omega
     case d5=>have:=Q2.out.g.size;simp;omega
     intro g2 cap2 w3 hown3 hgrow3 hat3 hlt3
     have Q3:Hid (aeS w w3 w.heap.size (.slice (some ⟨g1,0,none⟩) (ts.length+1) cap1) (.slice (some ⟨g2,0,none⟩) (cs.length+1) cap2) (ts++[cur]) (cs++[c])):=hid ((Q2.out.grow ((G.refl _).alloc (.cells #[.int .u8 (c.toNat:Int)] 5))).pushC c hown3 hgrow3 hat3 (by simp))
     clear hown3 hgrow3 hat3 Q2
     go_wp2_with fail
     refine(Q3.out.reset).mono ?_
     rintro e w4 ⟨rfl,hst1⟩
     have H1:=hid hst1
     clear hst1
     go_wp2_with fail
     go_roundw
     case rel=>exact⟨k+1,_,_,_,by go_num,by omega,HR.out,H1.out,by simp,by simp;omega,by simp;omega⟩
     case measure=>simp[intOf];omega
    |false=>
     have HR:Hid (C9 a s 0 [] [] []=C9 a (s.drop (k+1)) (k+1) (cur++[c]) ts cs):=hid (by
      rw[HGO.out,hdr.out];exact ae5 h92 hcon)
     have hix:Lib.indexByte a c<0:=by
      have h1:=(ajU a c).1
      rcases Int.lt_or_le (Lib.indexByte a c) 0 with h|h
      ·exact h
      ·rw[h1 h]at hcon;cases hcon
     go_wp2_with fail
     refine(aeW a c _).use ?_
     go_wp2_with fail
     refine(HST.out.byte c (by omega)).mono ?_
     rintro e w1 ⟨rfl,hst1⟩
     have H1:=hid hst1
     clear hst1
     go_wp2_with fail
     go_roundw
     case rel=>exact⟨k+1,_,_,_,by go_num,by omega,HR.out,H1.out,by simp;omega,by omega,by omega⟩
     case measure=>simp[intOf];omega
  ·have HR:Hid (C9 a s 0 [] [] []=.good (ts++[cur]) cs):=hid (by
    rw[HGO.out,List.drop_eq_nil_of_le (by omega)];exact adc ..)
   go_wp2_with fail
   refine(HST.out.str).mono ?_
   rintro e w1 ⟨rfl,hq,_,_⟩
   have Q1:=hid hq
   clear hq
   go_wp2_with (at_builtin;refine wpList_append_lies _ rfl (.tmp 67) (.tmp 69) 39 rfl w.heap.size 9 i0 _ 1 16 Tryz.underlying39 hi hz0 hz1 hz2 rfl (by decide) _ _ _ rfl (Q1.out.ot.alloc _) ⟨w1.heap.size,0,none⟩ 1 1 [.string (S cur)] rfl rfl (aiL _ _ _) (aiM _ rfl) (by omega) ?c3 ?c4 ?c5 _ rfl ?_)
   case c3=>unfold maxLen;omega
   case c4=>omega
   case c5=>have:=Q1.out.g.size;simp;omega
   intro g1 cap1 w2 hown2 hgrow2 hat2 hlt2
   have Q2:Hid (aeS w w2 w.heap.size (.slice (some ⟨g1,0,none⟩) (ts.length+1) cap1) _ (ts++[cur]) cs):=hid ((Q1.out.grow ((G.refl _).alloc (.cells #[.string (S cur)] 9))).pushT cur hown2 hgrow2 hat2 (by simp))
   clear hown2 hgrow2 hat2 Q1
   go_wp2_with fail
   go_ret3
   exact⟨_,rfl,afx.good HR.out (by simpa using Q2.out.ot) (aoN Q2.out.oc),Q2.out.g⟩
theorem amE(s a:List UInt8)(w:World)(hs:s.length≤100000)(ha:a.length≤100):Uz 239 #[.string (S s),.string (S a)] w (afr (C9 a s 0 [] [] [])):=
 (arP s a w hs ha).mono fun _ _ _ h=>h.p
end Go.Proofs.YtmffejnigppbpaaGreatDoor
