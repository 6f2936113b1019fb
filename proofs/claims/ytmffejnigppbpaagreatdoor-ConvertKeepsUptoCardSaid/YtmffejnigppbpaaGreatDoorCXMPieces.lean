/-
  Texts merged into one: Builder, TextPlain, Pieces, Pieces2.
-/
import Derived.Test.YtmffejnigppbpaaGreatDoorCXMA59
import Derived.Lib.Strings
import Derived.Lib.Slices
import Derived.Lib.Walk
import Derived.Lib.Builder
import Derived.Lib.AppendStr
import Derived.Lib.UnsafeStr
import Derived.Lib.MakeNoZero
import Derived.Test.YtmffejnigppbpaaGreatDoorCXMA66
import Derived.Test.YtmffejnigppbpaaGreatDoorCXMA49
import Derived.Laws.Tables
import Derived.Laws.CopyOwn
import Derived.Deep.AppendLies
import Derived.Test.YtmffejnigppbpaaGreatDoorCXMA52
import Derived.Deep.RegionLaw
set_option linter.unusedVariables false
set_option linter.unusedSimpArgs false
set_option maxHeartbeats 2000000
set_option maxRecDepth 100000
namespace Go.Proofs.YtmffejnigppbpaaGreatDoor
open Go.RowKit
theorem sizeBuilder:(Tryz.prog.info? 124).map (·.size)=some 2:=by kernel_rfl
theorem liesBuilder:liesAt Tryz.prog Tryz.prog.depth 124 (2/Tryz.prog.cellsOf 124) 0 124 1=true:=by kernel_rfl
theorem infoByte:(Tryz.prog.info? 5).map (fun i=>(i.zero,i.size,i.bytes))=some (some (.int .u8 0),1,1):=by kernel_rfl
theorem cellsByte:Tryz.prog.cellsOf 5=1:=by kernel_rfl
theorem Gt(b:Nat)(w:World)(h0:w.cell? ⟨b,0,none⟩=some (.pointer (some ⟨b,0,none⟩))) :
  Calls Tryz.prog 128 #[.pointer (some ⟨b,0,none⟩)] w fun e w'=>e=.returned (.tuple #[])∧w'=w:=by
 obtain⟨j,hj,_⟩:=Option.map_eq_some_iff.1 sizeBuilder
 go_enter Tryz.func128,Tryz.ntmps128
 go_wp2
 rw[Lib.run_neq_ptr_same w _ Tryz.underlying121 hj]
 go_wp2
 go_end0
 exact⟨rfl,rfl⟩
theorem FM(b:Nat)(w:World)(h0:w.cell? ⟨b,0,none⟩=some (.pointer none))(hsh:w.shape? b=some (124,2))(hfz:w.frozen? ⟨b,0,none⟩=false) :
  Calls Tryz.prog 128 #[.pointer (some ⟨b,0,none⟩)] w fun e w'=>e=.returned (.tuple #[])∧w'=w.setCell ⟨b,0,none⟩ (.pointer (some ⟨b,0,none⟩)):=by
 obtain⟨j,hj,hjs⟩:=Option.map_eq_some_iff.1 sizeBuilder
 go_enter Tryz.func128,Tryz.ntmps128
 go_wp2
 rw[Lib.run_to_unsafe w ⟨b,0,none⟩ Tryz.underlying121 Tryz.underlying155 hj (by rw[hjs];decide) hsh (Nat.zero_lt_succ 1)]
 simp only[Result.andThen]
 rw[Oper.upon_value]
 go_wp2
 rw[run_callFunc_extern Tryz.func176 (by kernel_rfl) (by kernel_rfl) (by kernel_rfl) (e:=Extern.AbiNoEscape.same) (by kernel_rfl)]
 rw[Lib.run_noEscape]
 simp only[Result.andThen]
 rw[Oper.upon_value]
 go_wp2
 rw[Lib.run_from_unsafe w ⟨b,0,none⟩ Tryz.underlying155 Tryz.underlying121 hj hsh liesBuilder]
 simp only[Result.andThen]
 rw[Oper.upon_value]
 go_wp2
 go_end0
 exact⟨rfl,rfl⟩
def IsB(w0 w:World)(b:Nat)(l:List UInt8):Prop:=Lib.IsBuilder 124 5 w0.heap.size b (Lib.byteCells l) w
def ui(w:World)(b:Nat):Option Nat:=match w.heap[b]? with|some (.cells cs _ _)=>(cs.getD 1 undef).ownBlock|_=>none
def Om(w w':World)(b:Nat):Prop:=∀k,k<w.heap.size→k≠b→ui w b≠some k→w'.heap[k]?=w.heap[k]?
theorem vg{w:World}{b:Nat}{p v:Value}{T:TypeId}(h:w.heap[b]?=some (.cells #[p,v] T (0,0))):ui w b=v.ownBlock:=by
 unfold ui;rw[h];rfl
theorem zC(B b:Nat)(bs:List Value)(w:World)(h:Lib.IsBuilder 124 5 B b bs w) :
  Calls Tryz.prog 128 #[.pointer (some ⟨b,0,none⟩)] w fun e w'=>e=.returned (.tuple #[])∧(Lib.BuilderAt 124 5 B b (.pointer (some ⟨b,0,none⟩)) bs w'∧Below B w w'∧w.heap.size=w'.heap.size∧ui w' b=ui w b∧∀k,k≠b→w'.heap[k]?=w.heap[k]?):=by
 rcases h with h|h
 ·refine(FM b w h.cell0 h.shape h.frozen0).mono ?_
  rintro e w' ⟨rfl,rfl⟩
  refine⟨rfl,h.used _,(Below.refl B w).setCell (p:=⟨b,0,none⟩) h.1 _,by simp,?_,fun k hk=>Below.heap_setCell _ _ _ _ hk⟩
  obtain⟨_,v,hb,_⟩:=h
  rw[vg hb]
  have:(w.setCell ⟨b,0,none⟩ (.pointer (some ⟨b,0,none⟩))).heap[b]?=some (.cells #[.pointer (some ⟨b,0,none⟩),v] 124 (0,0)):=by
   simp[World.setCell,Array.getElem?_modify,hb]
  rw[vg this]
 ·refine(Gt b w h.cell0).mono ?_
  rintro e w' ⟨rfl,rfl⟩
  exact⟨rfl,h,Below.refl B _,rfl,rfl,fun _ _=>rfl⟩
theorem iy{w0 w:World}{b:Nat}{l:List UInt8}(h:IsB w0 w b l)(g:G w0 w)(c:Int)(hc0:0≤c)(hc1:c<256)(hlen:l.length+1≤140737488355328) :
  Calls Tryz.prog 212 #[.pointer (some ⟨b,0,none⟩),.int .u8 c] w fun e w'=>e=.returned .nilIface∧IsB w0 w' b (l++[dL c])∧G w0 w'∧Om w w' b:=by
 obtain⟨i0,hi,hz0,hz1,hz2⟩:=info_parts infoByte
 have hbl:(Lib.byteCells l).length=l.length:=Lib.byteCells_length l
 have hBw:=g.size
 have H:=hid h
 have HG:=hid g
 clear h g
 go_enter Tryz.func212,Tryz.ntmps212
 go_wp2_with fail
 refine(zC w0.heap.size b _ _ H.out).mono ?_
 rintro e w1 ⟨rfl,h1,hb1,hsz,hbf,hk1⟩
 obtain⟨hB,v,hbk,hown,hne⟩:=h1
 have HK1:=hid hk1
 have HBF:=hid hbf
 have HSZ:=hid hsz
 have hszl:w.heap.size≤w1.heap.size:=by omega
 clear hk1 hbf hsz
 have c0:w1.cell? ⟨b,0,none⟩=some (.pointer (some ⟨b,0,none⟩)):=by rw[Lib.cell_of_heap hbk];rfl
 have c1:w1.cell? ⟨b,1,none⟩=some v:=by rw[Lib.cell_of_heap hbk];rfl
 have HBK:=hid hbk
 have HB1:=hid hb1
 clear hbk hb1
 go_wp2_with (at_builtin;refine wpList_append_own _ rfl _ _ 122 rfl w0.heap.size 5 i0 (.int .u8 0) 1 1 Tryz.underlying122 hi hz0 hz1 hz2 rfl (by decide) _ _ _ rfl (hown.alloc _) ⟨w1.heap.size,0,none⟩ 1 1 [.int .u8 c] rfl rfl ?c1 ?c2 ?c3 ?c4 ?c5 ?_)
 case c1=>
  intro j u hj
  match j,hj with
  |0,hj=>simp at hj;subst hj;simp[Addr.add]
 case c2=>intro u hu;simp at hu;subst hu;rfl
 case c3=>unfold maxLen;omega
 case c4=>omega
 case c5=>simp;omega
 intro v' w2 hown' hgrow _
 have hbk:=HBK.out
 have hlt:b<w1.heap.size:=by
  rcases Nat.lt_or_ge b w1.heap.size with h'|h'
  ·exact h'
  ·rw[Array.getElem?_eq_none h']at hbk;cases hbk
 have hb2:w2.heap[b]?=some (.cells #[.pointer (some ⟨b,0,none⟩),v] 124 (0,0)):=by
  rw[hgrow.block b (by simp;omega) (fun e=>hne e.symm),Lib.alloc_old w1 _ b hlt]
  exact hbk
 have d0:w2.cell? ⟨b,0,none⟩=some (.pointer (some ⟨b,0,none⟩)):=by rw[Lib.cell_of_heap hb2];rfl
 have d1:w2.cell? ⟨b,1,none⟩=some v:=by rw[Lib.cell_of_heap hb2];rfl
 have f1:w2.frozen? ⟨b,1,none⟩=false:=Lib.frozen_of_heap hb2 1
 obtain⟨q,cap,rfl⟩:∃q cap,v'=.slice (some ⟨q,0,none⟩) (l.length+1) cap:=by
  rcases hown'.2 with⟨_,h0⟩|⟨q,cap,cur,hv,_⟩
  ·omega
  ·exact⟨q,cap,hv⟩
 have HB2:=hid hb2
 have HGR:=hid hgrow
 clear hbk hb2 hgrow
 go_wp2
 go_ret
 have hgg:G w0 (w2.setCell ⟨b,1,none⟩ (.slice (some ⟨q,0,none⟩) (l.length+1) cap)):=by
  have x1:Below w0.heap.size w0 w1:=HG.out.below.trans HB1.out
  exact((x1.alloc (by omega) _).grown HGR.out (by simp;omega) (fun k hk=>(hown.lt k hk).1)).setCell (p:=⟨b,1,none⟩) hB _
 refine⟨rfl,Or.inr ?_,hgg,?_⟩
 ·have e:Lib.byteCells (l++[dL c])=Lib.byteCells l++[.int .u8 c]:=by
   simp[Lib.byteCells];exact(dK hc0 hc1)
  rw[e]
  exact Lib.BuilderAt.put (T:=124) (e:=5) hB HB2.out (bs':=Lib.byteCells l++[.int .u8 c]) (by simpa[Lib.byteCells_length]using hown') (by decide)
 ·intro k hk hkb hkv
  rw[Below.heap_setCell _ _ _ _ hkb]
  rw[←HBF.out,vg HBK.out]at hkv
  rw[HGR.out.block k (by simp;omega) (fun e=>hkv e.symm),Lib.alloc_old w1 _ k (by omega)]
  exact HK1.out k hkb
theorem dM{w0 w:World}{b:Nat}{l:List UInt8}(h:IsB w0 w b l)(g:G w0 w)(s:List UInt8)(hlen:l.length+s.length≤140737488355328) :
  Calls Tryz.prog 84 #[.pointer (some ⟨b,0,none⟩),.string (S s)] w fun e w'=>e=.returned (.tuple #[.int .i64 s.length,.nilIface])∧IsB w0 w' b (l++s)∧G w0 w'∧Om w w' b:=by
 obtain⟨i0,hi,hz0,hz1,hz2⟩:=info_parts infoByte
 have hbl:(Lib.byteCells l).length=l.length:=Lib.byteCells_length l
 have hBw:=g.size
 have H:=hid h
 have HG:=hid g
 clear h g
 go_enter Tryz.func84,Tryz.ntmps84
 go_wp2_with fail
 refine(zC w0.heap.size b _ _ H.out).mono ?_
 rintro e w1 ⟨rfl,h1,hb1,hsz,hbf,hk1⟩
 obtain⟨hB,v,hbk,hown,hne⟩:=h1
 have HK1:=hid hk1
 have HBF:=hid hbf
 have hszl:w.heap.size≤w1.heap.size:=by omega
 clear hk1 hbf hsz
 have c0:w1.cell? ⟨b,0,none⟩=some (.pointer (some ⟨b,0,none⟩)):=by rw[Lib.cell_of_heap hbk];rfl
 have c1:w1.cell? ⟨b,1,none⟩=some v:=by rw[Lib.cell_of_heap hbk];rfl
 have HBK:=hid hbk
 have HB1:=hid hb1
 clear hbk hb1
 go_wp2_with (at_builtin;refine Lib.wpList_append_own_string _ rfl _ _ 122 9 rfl w0.heap.size 5 i0 Tryz.underlying122 Tryz.underlying9 hi hz0 hz1 hz2 _ _ _ rfl hown (S s) rfl ?c3 ?c4 ?c5 ?_)
 case c3=>simp;unfold maxLen;omega
 case c4=>simp;omega
 case c5=>omega
 intro v' w2 hown' hgrow _
 have hbk:=HBK.out
 have hlt:b<w1.heap.size:=by
  rcases Nat.lt_or_ge b w1.heap.size with h'|h'
  ·exact h'
  ·rw[Array.getElem?_eq_none h']at hbk;cases hbk
 have hb2:w2.heap[b]?=some (.cells #[.pointer (some ⟨b,0,none⟩),v] 124 (0,0)):=by
  rw[hgrow.block b hlt (fun e=>hne e.symm)]
  exact hbk
 have d0:w2.cell? ⟨b,0,none⟩=some (.pointer (some ⟨b,0,none⟩)):=by rw[Lib.cell_of_heap hb2];rfl
 have d1:w2.cell? ⟨b,1,none⟩=some v:=by rw[Lib.cell_of_heap hb2];rfl
 have f1:w2.frozen? ⟨b,1,none⟩=false:=Lib.frozen_of_heap hb2 1
 obtain⟨ao,n',cap,rfl⟩:∃ao n' cap,v'=.slice ao n' cap:=by
  rcases hown'.2 with⟨hv,_⟩|⟨q,cap,cur,hv,_⟩
  ·exact⟨_,_,_,hv⟩
  ·exact⟨_,_,_,hv⟩
 have HB2:=hid hb2
 have HGR:=hid hgrow
 clear hbk hb2 hgrow
 go_wp2
 go_ret2
 have hgg:G w0 (w2.setCell ⟨b,1,none⟩ (.slice ao n' cap)):=by
  have x1:Below w0.heap.size w0 w1:=HG.out.below.trans HB1.out
  exact(x1.grown HGR.out (by omega) (fun k hk=>(hown.lt k hk).1)).setCell (p:=⟨b,1,none⟩) hB _
 refine⟨rfl,Or.inr ?_,hgg,?_⟩
 ·have e:Lib.byteCells (l++s)=Lib.byteCells l++Lib.strCells (S s):=by
   simp[Lib.byteCells,Lib.strCells]
  rw[e]
  exact Lib.BuilderAt.put (T:=124) (e:=5) hB HB2.out (bs':=Lib.byteCells l++Lib.strCells (S s)) (by simpa[Lib.byteCells_length,Lib.strCells_length]using hown') (by decide)
 ·intro k hk hkb hkv
  rw[Below.heap_setCell _ _ _ _ hkb]
  rw[←HBF.out,vg HBK.out]at hkv
  rw[HGR.out.block k (by omega) (fun e=>hkv e.symm)]
  exact HK1.out k hkb
def Gu(w w':World)(b:Nat):Prop:=w.heap.size≤w'.heap.size∧∀k,k<w.heap.size→ui w b≠some k→w'.heap[k]?=w.heap[k]?
theorem Oo(w:World)(p:Addr)(n:Nat):(w.freeze p n).heap.size=w.heap.size:=by
 unfold World.freeze
 split
 ·rfl
 ·simp
theorem Oq(w:World)(p:Addr)(n k:Nat)(h:k≠p.block):(w.freeze p n).heap[k]?=w.heap[k]?:=by
 unfold World.freeze
 split
 ·rfl
 ·simp only[Array.getElem?_modify]
  rw[if_neg (by omega)]
theorem QL{w0 w:World}{b:Nat}{p:Value}(g:G w0 w)(hbk:w.heap[b]?=some (.cells #[p,.slice none 0 0] 124 (0,0))) :
  Calls Tryz.prog 86 #[.pointer (some ⟨b,0,none⟩)] w fun e w'=>e=.returned (.string (S []))∧G w0 w'∧Gu w w' b:=by
 have hUS:=fun q=>Lib.run_unsafeString_none (P:=Tryz.prog) w.drew 174 3 9 q
 have c1:w.drew.cell? ⟨b,1,none⟩=some (.slice none 0 0):=by
  have:w.drew.heap[b]?=some (.cells #[p,.slice none 0 0] 124 (0,0)):=hbk
  rw[Lib.cell_of_heap this];rfl
 have hSD:(Builtin.unsafeSliceData_ #[122] 174 #[.slice none 0 0]).run Tryz.prog w.drew=.ok (.pointer none) w.drew:=rfl
 have HG:=hid g
 clear hbk g
 go_enter Tryz.func86,Tryz.ntmps86
 go_wp2
 go_region
 all_goals (go_wp2;go_ret;exact⟨rfl,HG.out.drew,Nat.le_refl _,fun k _ _=>rfl⟩)
theorem JA{w0 w:World}{b q:Nat}{p:Value}{cur:Array Value}(g:G w0 w)(hbk:w.heap[b]?=some (.cells #[p,.slice (some ⟨q,0,none⟩) 0 0] 124 (0,0)))(hq:w.heap[q]?=some (.cells cur 5 (0,0))) :
  Calls Tryz.prog 86 #[.pointer (some ⟨b,0,none⟩)] w fun e w'=>e=.returned (.string (S []))∧G w0 w'∧Gu w w' b:=by
 have hUS:=fun W q=>Lib.run_unsafeString_none (P:=Tryz.prog) W 174 3 9 q
 have hlt:b<w.heap.size:=by
  rcases Nat.lt_or_ge b w.heap.size with h'|h'
  ·exact h'
  ·rw[Array.getElem?_eq_none h']at hbk;cases hbk
 have c1:w.drew.cell? ⟨b,1,none⟩=some (.slice (some ⟨q,0,none⟩) 0 0):=by
  have:w.drew.heap[b]?=some (.cells #[p,.slice (some ⟨q,0,none⟩) 0 0] 124 (0,0)):=hbk
  rw[Lib.cell_of_heap this];rfl
 have hSD:(Builtin.unsafeSliceData_ #[122] 174 #[.slice (some ⟨q,0,none⟩) 0 0]).run Tryz.prog w.drew=.ok (.pointer (some ⟨w.drew.heap.size,0,none⟩)) (w.drew.alloc (.view ⟨q,0,none⟩ 5)):=
  Lib.run_unsafeSliceData_zero w.drew _ _ 5 Tryz.underlying174 ⟨q,0,none⟩ 0 (5,cur.size) (by have hg':w.drew.heap[q]?=some (.cells cur 5 (0,0)):=hq;simp[World.shape?,hg'])
 have c2:(w.drew.alloc (.view ⟨q,0,none⟩ 5)).cell? ⟨b,1,none⟩=some (.slice (some ⟨q,0,none⟩) 0 0):=by
  have:(w.drew.alloc (.view ⟨q,0,none⟩ 5)).heap[b]?=_:=(Lib.alloc_old w.drew _ b hlt).trans hbk
  rw[Lib.cell_of_heap this];rfl
 have c3:(w.alloc (.view ⟨q,0,none⟩ 5)).drew.cell? ⟨b,1,none⟩=some (.slice (some ⟨q,0,none⟩) 0 0):=c2
 have c0:w.cell? ⟨b,1,none⟩=some (.slice (some ⟨q,0,none⟩) 0 0):=c1
 have HG:=hid g
 have HK:Hid (Gu w (w.alloc (.view ⟨q,0,none⟩ 5)).drew b):=hid ⟨by show _≤(w.alloc (.view ⟨q,0,none⟩ 5)).heap.size;simp,fun k hk _=>Lib.alloc_old w _ k hk⟩
 clear hbk hq g
 go_enter Tryz.func86,Tryz.ntmps86
 go_wp2
 go_region
 all_goals (go_wp2;go_ret;exact⟨rfl,(HG.out.alloc _).drew,HK.out⟩)
theorem Ot{w0 w:World}{b q cap:Nat}{p:Value}(g:G w0 w)(hc0:cap≠0)(hbk:w.heap[b]?=some (.cells #[p,.slice (some ⟨q,0,none⟩) 0 cap] 124 (0,0))) :
  Calls Tryz.prog 86 #[.pointer (some ⟨b,0,none⟩)] w fun e w'=>e=.returned (.string (S []))∧G w0 w'∧Gu w w' b:=by
 have hUS:=fun q=>Lib.run_unsafeString_none (P:=Tryz.prog) w.drew 174 3 9 q
 have c1:w.drew.cell? ⟨b,1,none⟩=some (.slice (some ⟨q,0,none⟩) 0 cap):=by
  have:w.drew.heap[b]?=some (.cells #[p,.slice (some ⟨q,0,none⟩) 0 cap] 124 (0,0)):=hbk
  rw[Lib.cell_of_heap this];rfl
 have hSD:(Builtin.unsafeSliceData_ #[122] 174 #[.slice (some ⟨q,0,none⟩) 0 cap]).run Tryz.prog w.drew=.ok (.pointer (some ⟨q,0,none⟩)) w.drew:=
  Lib.run_unsafeSliceData_row _ _ _ _ _ _ hc0
 have HG:=hid g
 clear hc0 hbk g
 go_enter Tryz.func86,Tryz.ntmps86
 go_wp2
 go_region
 all_goals (go_wp2;go_ret;exact⟨rfl,HG.out.drew,Nat.le_refl _,fun k _ _=>rfl⟩)
theorem Ou{w0 w:World}{b q cap:Nat}{cur:Array Value}{p:Value}{l:List UInt8}(g:G w0 w)(h0:l≠[])(hbk:w.heap[b]?=some (.cells #[p,.slice (some ⟨q,0,none⟩) l.length cap] 124 (0,0)))(hown:w.ownsRow w0.heap.size 5 1 (.slice (some ⟨q,0,none⟩) l.length cap) l.length (Lib.byteCells l))(hbq:w0.heap.size≤q)(hq:w.heap[q]?=some (.cells cur 5 (0,0)))(hnc:l.length≤cap)(hcm:cap≤maxLen)(hcs:cur.size=cap*1) :
  Calls Tryz.prog 86 #[.pointer (some ⟨b,0,none⟩)] w fun e w'=>e=.returned (.string (S l))∧G w0 w'∧Gu w w' b:=by
 have hl0:l.length≠0:=by simpa using h0
 have c1:w.drew.cell? ⟨b,1,none⟩=some (.slice (some ⟨q,0,none⟩) l.length cap):=by
  have:w.drew.heap[b]?=some (.cells #[p,.slice (some ⟨q,0,none⟩) l.length cap] 124 (0,0)):=hbk
  rw[Lib.cell_of_heap this];rfl
 have hSD:(Builtin.unsafeSliceData_ #[122] 174 #[.slice (some ⟨q,0,none⟩) l.length cap]).run Tryz.prog w.drew=.ok (.pointer (some ⟨q,0,none⟩)) w.drew:=
  Lib.run_unsafeSliceData_row _ _ _ _ _ _ (by omega)
 have hUS:(Builtin.unsafeString_ #[174,3] 9 #[.pointer (some ⟨q,0,none⟩),.int .i64 l.length]).run Tryz.prog w.drew=.ok (.string (S l)) (w.drew.freeze ⟨q,0,none⟩ l.length):=by
  refine Lib.run_unsafeString_row (P:=Tryz.prog) w.drew 174 3 9 5 Tryz.underlying174 cellsByte q cur.size (by have hg':w.drew.heap[q]?=some (.cells cur 5 (0,0)):=hq;simp[World.shape?,hg']) l h0 (by omega) (by unfold maxLen at hcm;omega) ?_
  intro j x hx
  exact hown.cells (g:=q) rfl j (.int .u8 x.toNat) (by simp[Lib.byteCells,hx])
 have HG:=hid g
 have HK:Hid (Gu w (w.drew.freeze ⟨q,0,none⟩ l.length) b):=hid ⟨by rw[Oo];exact Nat.le_refl _,fun k hk hb=>by
  rw[vg hbk]at hb
  exact Oq w.drew ⟨q,0,none⟩ l.length k (fun e=>hb (by rw[e];rfl))⟩
 clear hbk hown hq hnc hcm hcs g h0
 go_enter Tryz.func86,Tryz.ntmps86
 go_wp2
 go_region
 all_goals (go_wp2;go_ret;exact⟨rfl,Lib.below_freeze (HG.out.drew).below (p:=⟨q,0,none⟩) hbq _,HK.out⟩)
theorem Gv{w0 w:World}{b:Nat}{l:List UInt8}(h:IsB w0 w b l)(g:G w0 w) :
  Calls Tryz.prog 86 #[.pointer (some ⟨b,0,none⟩)] w fun e w'=>e=.returned (.string (S l))∧G w0 w'∧Gu w w' b:=by
 obtain⟨p,hB,v,hbk,hown,hne⟩:∃p,Lib.BuilderAt 124 5 w0.heap.size b p (Lib.byteCells l) w:=by
  rcases h with h|h
  ·exact⟨_,h⟩
  ·exact⟨_,h⟩
 rw[Lib.byteCells_length]at hown
 by_cases h0:l=[]
 ·subst h0
  rcases hown.2 with⟨rfl,_⟩|⟨q,cap,cur,rfl,hbq,hq,_,_,_,_⟩
  ·exact QL g hbk
  ·by_cases hc0:cap=0
   ·subst hc0
    exact JA g hbk hq
   ·exact Ot g hc0 hbk
 ·rcases hown.2 with⟨_,hz⟩|⟨q,cap,cur,rfl,hbq,hq,hnc,hcm,hcs,htake⟩
  ·exact absurd (by simpa using hz) h0
  ·exact Ou g h0 hbk hown hbq hq hnc hcm hcs
theorem IsB.new{w0 w:World}(g:G w0 w):IsB w0 (w.alloc (.cells #[.pointer none,.slice none 0 0] 124)) w.heap.size []:=by
 refine Or.inl ⟨g.size,.slice none 0 0,?_,World.ownsRow_nil _ _ _ _,by simp[Value.ownBlock]⟩
 show(w.heap.push _)[w.heap.size]?=_
 simp
theorem IsB.lt{w0 w:World}{b:Nat}{l:List UInt8}(h:IsB w0 w b l):w0.heap.size≤b∧b<w.heap.size:=by
 rcases h with h|h
 ·exact⟨h.1,h.lt⟩
 ·exact⟨h.1,h.lt⟩
theorem IsB.grow{w0 w w':World}{b:Nat}{l:List UInt8}(h:IsB w0 w b l)(g:G w w'):IsB w0 w' b l:=by
 have key:∀p,Lib.BuilderAt 124 5 w0.heap.size b p (Lib.byteCells l) w→Lib.BuilderAt 124 5 w0.heap.size b p (Lib.byteCells l) w':=by
  intro p h
  have hlt:=h.lt
  obtain⟨hB,v,hbk,hown,hne⟩:=h
  refine⟨hB,v,?_,⟨hown.1,?_⟩,hne⟩
  ·rw[g.below.block b hlt];exact hbk
  ·rcases hown.2 with h|⟨q,cap,cur,hv,hbq,hq,r⟩
   ·exact Or.inl h
   ·refine Or.inr ⟨q,cap,cur,hv,hbq,?_,r⟩
    have:q<w.heap.size:=by
     rcases Nat.lt_or_ge q w.heap.size with h'|h'
     ·exact h'
     ·rw[Array.getElem?_eq_none h']at hq;cases hq
    rw[g.below.block q this];exact hq
 rcases h with h|h
 ·exact Or.inl (key _ h)
 ·exact Or.inr (key _ h)
end Go.Proofs.YtmffejnigppbpaaGreatDoor

namespace Go.Proofs.YtmffejnigppbpaaGreatDoor
open Go.RowKit
theorem TA(a:List UInt8):∀(n:Nat) (s:List UInt8),s.length≤n→∀(k:Nat) (cur:List UInt8) (ts:List (List UInt8)) (cs:List UInt8) (T:List (List UInt8)) (C:List UInt8),eH a s k cur ts cs=.good T C →
  ∃T' C',T=ts++T'∧C=cs++C'∧T'.length=C'.length+1∧∀k' ts' cs',eH a s k' cur ts' cs'=.good (ts'++T') (cs'++C'):=by
 intro n
 induction n with
 |zero=>
  intro s hs k cur ts cs T C h
  have:s=[]:=List.eq_nil_of_length_eq_zero (by omega)
  subst this
  rw[mO]at h
  injection h with h1 h2
  exact⟨[cur],[],h1.symm,by simp[h2],rfl,fun k' ts' cs'=>by rw[mO];simp⟩
 |succ n ih=>
  intro s hs k cur ts cs T C h
  match s,hs,h with
  |[],_,h=>
   rw[mO]at h
   injection h with h1 h2
   exact⟨[cur],[],h1.symm,by simp[h2],rfl,fun k' ts' cs'=>by rw[mO];simp⟩
  |c::t,hs,h=>
   by_cases h92:c=92
   ·subst h92
    match t,hs,h with
    |[],_,h=>rw[IK]at h;cases h
    |d::t,hs,h=>
     cases hu:Ed d with
     |none=>rw[EW hu]at h;cases h
     |some x=>
      rw[wQ hu]at h
      obtain⟨T',C',h1,h2,h3,h4⟩:=ih t (by simp at hs;omega) _ _ _ _ _ _ h
      exact⟨T',C',h1,h2,h3,fun k' ts' cs'=>by rw[wQ hu];exact h4 _ _ _⟩
   ·cases hc:a.contains c with
    |true=>
     rw[tC h92 hc]at h
     obtain⟨T',C',h1,h2,h3,h4⟩:=ih t (by simp at hs;omega) _ _ _ _ _ _ h
     exact⟨cur::T',c::C',by rw[h1];simp,by rw[h2];simp,by simp[h3],fun k' ts' cs'=>by rw[tC h92 hc,h4];simp⟩
    |false=>
     rw[wR h92 hc]at h
     obtain⟨T',C',h1,h2,h3,h4⟩:=ih t (by simp at hs;omega) _ _ _ _ _ _ h
     exact⟨T',C',h1,h2,h3,fun k' ts' cs'=>by rw[wR h92 hc];exact h4 _ _ _⟩
def iR:List (List UInt8)→List UInt8→List (List UInt8)→List (List (List UInt8))
 |cur,[],_=>[cur]
 |cur,_::_,[]=>[cur]
 |cur,c::cs,t::ts=>if c=59 then cur::iR [t] cs ts else iR (cur++[t]) cs ts
theorem NH(Cb:List UInt8)(t0:List UInt8)(Tb:List (List UInt8)):∀(Ca:List UInt8) (Ta:List (List UInt8)) (cur:List (List UInt8)),Ta.length=Ca.length →
  iR cur (Ca++59::Cb) (Ta++t0::Tb)=iR cur Ca Ta++iR [t0] Cb Tb:=by
 intro Ca
 induction Ca with
 |nil=>
  intro Ta cur h
  have:Ta=[]:=List.eq_nil_of_length_eq_zero (by simpa using h)
  subst this
  rfl
 |cons c Ca ih=>
  intro Ta cur h
  cases Ta with
  |nil=>simp at h
  |cons t Ta=>
   have e:∀(X:List UInt8) (Y:List (List UInt8)),iR cur (c::X) (t::Y)=if c=59 then cur::iR [t] X Y else iR (cur++[t]) X Y:=fun _ _=>rfl
   rw[List.cons_append,List.cons_append,e,e]
   split
   ·rw[ih Ta [t] (by simpa using h)];rfl
   ·exact ih Ta (cur++[t]) (by simpa using h)
def iJ:List (List UInt8)→List UInt8
 |[]=>[]
 |x::xs=>gp [44] (kN x) (xs.map kN)
theorem wW(a:List UInt8)(ha:∀c∈a,c=44∨c=59)(h44:a.contains 44=true)(xs:List (List UInt8)):∀(x:List UInt8) (r:List UInt8) (k:Nat) (ts:List (List UInt8)) (cs:List UInt8),
  ∃k' init last,x::xs=init++[last]∧eH a (iJ (x::xs)++r) k [] ts cs=eH a r k' last (ts++init) (cs++List.replicate xs.length 44):=by
 induction xs with
 |nil=>
  intro x r k ts cs
  refine⟨k+(kN x).length,[],x,rfl,?_⟩
  show eH a (kN x++r) k [] ts cs=_
  rw[yu a ha]
  simp
 |cons y xs ih=>
  intro x r k ts cs
  obtain⟨k',init,last,h1,h2⟩:=ih y r (k+(kN x).length+1) (ts++[x]) (cs++[44])
  refine⟨k',x::init,last,by rw[h1];rfl,?_⟩
  have e:iJ (x::y::xs)++r=kN x++(44::(iJ (y::xs)++r)):=by
   show(kN x++([44]++gp [44] (kN y) (xs.map kN)))++r=_
   simp[iJ]
  rw[e,yu a ha,tC (by decide) h44]
  simp only[List.nil_append]
  rw[h2]
  simp[List.replicate_succ]
theorem WP(x:List UInt8)(xs:List (List UInt8)):eH [44] (iJ (x::xs)) 0 [] [] []=.good (x::xs) (List.replicate xs.length 44):=by
 obtain⟨k',init,last,h1,h2⟩:=wW [44] (by simp) rfl xs x [] 0 [] []
 rw[List.append_nil]at h2
 rw[h2,mO,h1];simp
def oH:List (List (List UInt8))→List UInt8
 |[]=>[]
 |x::xs=>gp [59] (iJ x) (xs.map iJ)
theorem Ll:∀(xs:List (List UInt8)) (cur:List (List UInt8)),iR cur (List.replicate xs.length 44) xs=[cur++xs]:=by
 intro xs
 induction xs with
 |nil=>intro cur;simp[iR]
 |cons y ys ih=>
  intro cur
  show(if (44:UInt8)=59 then _ else iR (cur++[y]) (List.replicate ys.length 44) ys)=_
  rw[if_neg (by decide),ih];simp
theorem NI(ls:List (List (List UInt8))):∀(l:List (List UInt8)),l≠[]→(∀m∈ls,m≠[])→∀(k:Nat) (ts:List (List UInt8)) (cs:List UInt8),
  ∃x xs C,eH [44,59] (oH (l::ls)) k [] ts cs=.good (ts++x::xs) (cs++C)∧xs.length=C.length∧iR [x] C xs=l::ls:=by
 induction ls with
 |nil=>
  intro l hl _ k ts cs
  obtain⟨x,xs,rfl⟩:∃x xs,l=x::xs:=by cases l with|nil=>exact absurd rfl hl|cons x xs=>exact⟨x,xs,rfl⟩
  obtain⟨k',init,last,h1,h2⟩:=wW [44,59] (by simp) rfl xs x [] k ts cs
  rw[List.append_nil]at h2
  refine⟨x,xs,List.replicate xs.length 44,?_,by simp,Ll xs [x]⟩
  show eH [44,59] (iJ (x::xs)) k [] ts cs=_
  rw[h2,mO,h1];simp
 |cons m ls ih=>
  intro l hl hls k ts cs
  obtain⟨x,xs,rfl⟩:∃x xs,l=x::xs:=by cases l with|nil=>exact absurd rfl hl|cons x xs=>exact⟨x,xs,rfl⟩
  obtain⟨k',init,last,h1,h2⟩:=wW [44,59] (by simp) rfl xs x (59::oH (m::ls)) k ts cs
  obtain⟨y,ys,C,h3,h4,h5⟩:=ih m (hls m List.mem_cons_self) (fun q hq=>hls q (List.mem_cons_of_mem _ hq)) (k'+1) (ts++init++[last]) (cs++List.replicate xs.length 44++[59])
  refine⟨x,xs++y::ys,List.replicate xs.length 44++59::C,?_,by simp[h4],?_⟩
  ·have e:oH ((x::xs)::m::ls)=iJ (x::xs)++59::oH (m::ls):=by
    show iJ (x::xs)++([59]++gp [59] (iJ m) (ls.map iJ))=_
    rfl
   rw[e,h2,tC (by decide) rfl,h3]
   have:x::(xs++y::ys)=init++[last]++y::ys:=by rw[←h1];rfl
   rw[this];simp
  ·rw[NH C y ys (List.replicate xs.length 44) xs [x] (by simp),Ll,h5];rfl
end Go.Proofs.YtmffejnigppbpaaGreatDoor

namespace Go.Proofs.YtmffejnigppbpaaGreatDoor
open Go.RowKit
theorem pW{w w':World}{base:Nat}{e:TypeId}{size:Nat}{v:Value}{n:Nat}{xs:List Value}(h:w.ownsRow base e size v n xs)(hb:∀k,v.ownBlock=some k→k<w.heap.size→w'.heap[k]?=w.heap[k]?):w'.ownsRow base e size v n xs:=by
 refine⟨h.1,?_⟩
 rcases h.2 with hn|⟨q,cap,cur,rfl,hbg,hgg,rest⟩
 ·exact .inl hn
 ·have hq:q<w.heap.size:=by
   rcases Nat.lt_or_ge q w.heap.size with h'|h'
   ·exact h'
   ·rw[Array.getElem?_eq_none h']at hgg;cases hgg
  exact .inr ⟨q,cap,cur,rfl,hbg,by rw[hb q rfl hq];exact hgg,rest⟩
structure wK(w0 w:World)(b:Nat)(tv cv:Value)(cur:List UInt8)(ts:List (List UInt8))(cs:List UInt8):Prop where
 g:G w0 w
 ib:IsB w0 w b cur
 ot:w.ownsRow w0.heap.size 9 1 tv ts.length (ts.map fun t=>.string (S t))
 oc:w.ownsRow w0.heap.size 5 1 cv cs.length (cs.map fun c=>.int .u8 (c.toNat:Int))
 tb:tv.ownBlock≠some b
 cb:cv.ownBlock≠some b
 tu:∀q,ui w b=some q→tv.ownBlock≠some q∧cv.ownBlock≠some q
theorem wK.blk{w0 w:World}{b:Nat}{tv cv:Value}{cur:List UInt8}{ts:List (List UInt8)}{cs:List UInt8}(h:wK w0 w b tv cv cur ts cs):w0.heap.size≤b∧∃p v,w.heap[b]?=some (.cells #[p,v] 124 (0,0)):=by
 rcases h.ib with h|h
 ·obtain⟨hB,v,hbk,_⟩:=h;exact⟨hB,_,v,hbk⟩
 ·obtain⟨hB,v,hbk,_⟩:=h;exact⟨hB,_,v,hbk⟩
structure Nr(w0 w:World)(b:Nat)(tv cv:Value)(ts:List (List UInt8))(cs:List UInt8):Prop where
 g:G w0 w
 hb:w0.heap.size≤b
 blk:∃p v,w.heap[b]?=some (.cells #[p,v] 124 (0,0))
 ot:w.ownsRow w0.heap.size 9 1 tv ts.length (ts.map fun t=>.string (S t))
 oc:w.ownsRow w0.heap.size 5 1 cv cs.length (cs.map fun c=>.int .u8 (c.toNat:Int))
 tb:tv.ownBlock≠some b
 cb:cv.ownBlock≠some b
theorem wK.q{w0 w:World}{b:Nat}{tv cv:Value}{cur:List UInt8}{ts:List (List UInt8)}{cs:List UInt8}(h:wK w0 w b tv cv cur ts cs):Nr w0 w b tv cv ts cs:=
 ⟨h.g,h.blk.1,h.blk.2,h.ot,h.oc,h.tb,h.cb⟩
theorem Wq{w:World}{b:Nat}{o:Obj}(h:w.heap[b]?=some o):b<w.heap.size:=by
 rcases Nat.lt_or_ge b w.heap.size with h'|h'
 ·exact h'
 ·rw[Array.getElem?_eq_none h']at h;cases h
theorem Nr.grow{w0 w w':World}{b:Nat}{tv cv:Value}{ts:List (List UInt8)}{cs:List UInt8}(h:Nr w0 w b tv cv ts cs)(g:G w w'):Nr w0 w' b tv cv ts cs:=by
 obtain⟨p,v,hbk⟩:=h.blk
 exact⟨h.g.trans g,h.hb,⟨p,v,by rw[g.below.block b (Wq hbk)];exact hbk⟩,pW h.ot fun k _ hk=>g.below.block k hk,pW h.oc fun k _ hk=>g.below.block k hk,h.tb,h.cb⟩
theorem SS{w w':World}{b:Nat}(hb:w'.heap[b]?=w.heap[b]?):ui w' b=ui w b:=by unfold ui;rw[hb]
theorem wK.grow{w0 w w':World}{b:Nat}{tv cv:Value}{cur:List UInt8}{ts:List (List UInt8)}{cs:List UInt8}(h:wK w0 w b tv cv cur ts cs)(g:G w w'):wK w0 w' b tv cv cur ts cs:=by
 have q:=h.q.grow g
 have hbl:=h.ib.lt.2
 refine⟨q.g,h.ib.grow g,q.ot,q.oc,q.tb,q.cb,?_⟩
 rw[SS (g.below.block b hbl)]
 exact h.tu
theorem wK.new{w0 w:World}(g:G w0 w):wK w0 (w.alloc (.cells #[.pointer none,.slice none 0 0] 124)) w.heap.size (.slice none 0 0) (.slice none 0 0) [] [] []:=by
 refine⟨g.alloc _,IsB.new g,World.ownsRow_nil _ _ _ _,World.ownsRow_nil _ _ _ _,by simp[Value.ownBlock],by simp[Value.ownBlock],fun q _=>⟨by simp[Value.ownBlock],by simp[Value.ownBlock]⟩⟩
end Go.Proofs.YtmffejnigppbpaaGreatDoor

namespace Go.Proofs.YtmffejnigppbpaaGreatDoor
open Go.RowKit
def yQ(w:World)(v:Value)(l:List UInt8):Prop:=mi 1 w v l.length (l.map fun c=>.int .u8 (c.toNat:Int))
def tq(r:jD)(v:Value)(w':World):Prop:=
 match r with
 |.good ts cs=>∃tv cv,v=.tuple #[tv,cv,.nilIface]∧di w' tv ts∧yQ w' cv cs
 |.bad c p=>∃e,v=.tuple #[.slice none 0 0,.slice none 0 0,e]∧ji w' e c p
def yR(n:Nat)(r:jD)(v:Value)(w':World):Prop:=
 match r with
 |.good ts cs=>∃tv cv,v=.tuple #[tv,cv,.nilIface]∧w'.ownsRow n 9 1 tv ts.length (ts.map fun t=>.string (S t))∧yQ w' cv cs
 |.bad c p=>∃e,v=.tuple #[.slice none 0 0,.slice none 0 0,e]∧ji w' e c p
theorem yR.good{n:Nat}{r:jD}{ts:List (List UInt8)}{cs:List UInt8}{tv cv:Value}{w':World}(h:r=.good ts cs)(h1:w'.ownsRow n 9 1 tv ts.length (ts.map fun t=>.string (S t)))(h2:yQ w' cv cs):yR n r (.tuple #[tv,cv,.nilIface]) w':=by subst h;exact⟨_,_,rfl,h1,h2⟩
theorem yR.bad{n:Nat}{r:jD}{c:Int}{p:Nat}{e:Value}{w':World}(h:r=.bad c p)(he:ji w' e c p):yR n r (.tuple #[.slice none 0 0,.slice none 0 0,e]) w':=by subst h;exact⟨e,rfl,he⟩
theorem yR.p{n:Nat}{r:jD}{v:Value}{w':World}(h:yR n r v w'):tq r v w':=by
 cases r with
 |good ts cs=>obtain⟨tv,cv,e,h1,h2⟩:=h;exact⟨tv,cv,e,qO h1,h2⟩
 |bad c p=>exact h
theorem tq.good{r:jD}{ts:List (List UInt8)}{cs:List UInt8}{tv cv:Value}{w':World}(h:r=.good ts cs)(h1:di w' tv ts)(h2:yQ w' cv cs):tq r (.tuple #[tv,cv,.nilIface]) w':=by subst h;exact⟨_,_,rfl,h1,h2⟩
theorem tq.bad{r:jD}{c:Int}{p:Nat}{e:Value}{w':World}(h:r=.bad c p)(he:ji w' e c p):tq r (.tuple #[.slice none 0 0,.slice none 0 0,e]) w':=by subst h;exact⟨e,rfl,he⟩
end Go.Proofs.YtmffejnigppbpaaGreatDoor
