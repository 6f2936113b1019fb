/-
  Texts merged into one: Del, FnP, PmRow, FnS.
-/
import Derived.Test.YtmffejnigppbpaaGreatDoorCXMA52
import Derived.Lib.SliceRun
import Derived.Test.YtmffejnigppbpaaGreatDoorCXMA59
import Derived.Test.YtmffejnigppbpaaGreatDoorCXMA63
import Derived.Test.YtmffejnigppbpaaGreatDoorCXMA54
set_option linter.unusedVariables false
set_option linter.unusedSimpArgs false
namespace Go.Proofs.YtmffejnigppbpaaGreatDoor
open Go.RowKit
structure BR(w0:World)(B:Nat)(T:TypeId)(cur:List Value)(W:World):Prop where
 mv:w0.grownBy W (some B)
 b:W.heap[B]?=some (.cells cur.toArray T (0,0))
section
variable {w0 W W':World} {B:Nat} {T:TypeId} {cur:List Value}
theorem BR.lt(h:BR w0 B T cur W):B<W.heap.size:=(Array.getElem?_eq_some_iff.1 h.b).1
theorem BR.cell(h:BR w0 B T cur W){i:Nat}{v:Value}(hv:cur[i]?=some v):W.cell? ⟨B,i,none⟩=some v:=by rw[cell_of_row W B i _ _ _ h.b];simpa using hv
theorem BR.fz(h:BR w0 B T cur W)(i:Nat):W.frozen? ⟨B,i,none⟩=false:=frozen_of_row W B i _ _ h.b
theorem BR.grow(h:BR w0 B T cur W)(g:G W W'):BR w0 B T cur W':=⟨Wy h.mv g,(g.below.block _ h.lt).trans h.b⟩
theorem BR.set(h:BR w0 B T cur W)(i:Nat)(v:Value):BR w0 B T (cur.set i v) (W.setCell ⟨B,i,none⟩ v):=by
 refine⟨Yv h.mv,?_⟩
 have:=h.b
 rw[World.setCell]
 simp[Array.getElem?_modify,this]
theorem BR.sets:∀(vs:List Value) (i:Nat) {cur:List Value} {W:World},BR w0 B T cur W→∃cur',BR w0 B T cur' (W.setCells B i vs)∧cur'.length=cur.length∧cur'.take i=cur.take i
 |[],_,cur,_,h=>⟨cur,h,rfl,rfl⟩
 |v::vs,i,cur,W,h=>by
  obtain⟨cur',h1,h2,h3⟩:=BR.sets vs (i+1) (h.set i v)
  refine⟨cur',h1,by simpa using h2,?_⟩
  have e:=congrArg (List.take i) h3
  rw[List.take_take,List.take_take,Nat.min_eq_left (by omega)]at e
  rw[e,List.take_set_of_le (Nat.le_refl _)]
end
theorem JD{z:Array Value}(hz:0<z.size)(h1:∀v∈z.toList,v.oneCell'=true)(n:Nat):(Builtin.zeroCells z n).toList.length=n*z.size∧∀v∈(Builtin.zeroCells z n).toList,v.oneCell'=true:=by
 unfold Builtin.zeroCells
 constructor
 ·simp
 ·intro v hv
  obtain⟨i,hi,rfl⟩:=List.mem_iff_getElem.1 hv
  refine h1 _ ?_
  simp only[Array.getElem_toList,Array.getElem_ofFn]
  simp
  rw[getElem!_pos z _ (Nat.mod_lt _ hz)]
  exact Array.getElem_mem _
theorem zH{P:Program}{w0 W:World}{B:Nat}{T:TypeId}{cur:List Value}(h:BR w0 B T cur W)(t e:TypeId)(z:Value)(k:Nat)(hk:z.cells.size=k)(hk0:0<k)(ht:P.underlying t=some (.slice e))(hv:∀w,(zeroValue e).run P w=.ok z w)(h1:∀v∈z.cells.toList,v.oneCell'=true)(o i n c:Nat)(ho:o=i*k)(hn:i<n)(hl:n*k≤cur.length) :
  ∃cur' W',(∀ty,(Builtin.clear_ #[t] ty #[.slice (some ⟨B,o,none⟩) (n-i) c]).run P W=.ok (.tuple #[]) W')∧BR w0 B T cur' W'∧cur'.length=cur.length∧cur'.take (i*k)=cur.take (i*k):=by
 subst ho
 obtain⟨hz1,hz2⟩:=JD (by omega) h1 (n-i)
 rw[hk]at hz1
 have hm:(n-i)*k+i*k=n*k:=by rw[←Nat.add_mul];congr 1;omega
 have hst:=run_storeCells_cells (P:=P) B (i*k) (Builtin.zeroCells z.cells (n-i)).toList 0 W
  (fun j hj=>by
   rw[hz1]at hj
   rw[Nat.add_zero,h.cell (List.getElem?_eq_getElem (by omega))];rfl)
  (fun j hj=>h.fz _) hz2
 obtain⟨cur',c1,c2,c3⟩:=h.sets (Builtin.zeroCells z.cells (n-i)).toList (i*k)
 refine⟨cur',_,fun ty=>?_,c1,c2,c3⟩
 simp only[Nat.add_zero]at hst
 obtain⟨m,hm2⟩:∃m,n-i=m+1:=⟨n-i-1,by omega⟩
 rw[hm2]at hst⊢
 simp[Builtin.clear_,run_underlying ht,hv,hst]
structure uh{α:Type}(p:α→Bool)(cells:α→List Value)(k:Nat)(xs:List α)(cur0 cur:List Value)(i j:Nat):Prop where
 len:cur.length=cur0.length
 low:cur.take (i*k)=((xs.take j).filter fun x=>!p x).flatMap cells
 cnt:((xs.take j).filter fun x=>!p x).length=i
 high:cur.drop (j*k)=cur0.drop (j*k)
 lt:i<j
section
variable {α:Type} {p:α→Bool} {cells:α→List Value} {k:Nat} {xs:List α} {cur0 cur:List Value} {i j:Nat}
theorem Ht(hk:∀x,(cells x).length=k):∀(xs:List α) (i:Nat),(xs.flatMap cells).take (i*k)=(xs.take i).flatMap cells
 |[],i=>by simp
 |x::xs,0=>by simp
 |x::xs,i+1=>by
  rw[List.flatMap_cons,List.take_append,hk,Nat.succ_mul,Nat.add_sub_cancel,Ht hk xs i,List.take_of_length_le (by rw[hk];omega),List.take_succ_cons,List.flatMap_cons]
theorem mZ(hk:∀x,(cells x).length=k)(xs:List α):(xs.flatMap cells).length=xs.length*k:=by
 induction xs with
 |nil=>simp
 |cons x xs ih=>rw[List.flatMap_cons,List.length_append,hk,ih,List.length_cons,Nat.succ_mul];omega
theorem xP(hk:∀x,(cells x).length=k){xs:List α}{j:Nat}{x:α}(h:xs[j]?=some x)(t:Nat)(ht:t<k):(xs.flatMap cells)[j*k+t]?=(cells x)[t]?:=by
 induction xs generalizing j with
 |nil=>simp at h
 |cons y ys ih=>
  rw[List.flatMap_cons]
  cases j with
  |zero=>
   simp at h
   subst h
   rw[Nat.zero_mul,Nat.zero_add,List.getElem?_append_left (by rw[hk];exact ht)]
  |succ j=>
   rw[List.getElem?_append_right (by rw[hk,Nat.succ_mul];omega),hk,show(j+1)*k+t-k=j*k+t by rw[Nat.succ_mul];omega]
   exact ih (by simpa using h)
theorem uh.start(hk:∀x,(cells x).length=k)(h0:cur0.take (xs.length*k)=xs.flatMap cells)(hi:xs.findIdx? p=some i):uh p cells k xs cur0 cur0 i (i+1):=by
 rw[List.findIdx?_eq_some_iff_getElem]at hi
 obtain⟨hl,h1,h2⟩:=hi
 have e:(xs.take (i+1)).filter (fun x=>!p x)=xs.take i:=by
  rw[List.take_add_one,List.getElem?_eq_getElem hl,List.filter_append]
  simp only[Option.toList_some,List.filter_cons,h1,List.filter_nil]
  simp only[Bool.not_true,Bool.false_eq_true,if_false,List.append_nil]
  refine List.filter_eq_self.2 fun x hx=>?_
  obtain⟨j,hj,rfl⟩:=List.mem_iff_getElem.1 hx
  have:=h2 j (by simp at hj;omega)
  simpa using this
 refine⟨rfl,?_,by rw[e];simp;omega,rfl,Nat.lt_succ_self _⟩
 rw[e,←Ht hk,←h0,List.take_take,Nat.min_eq_left (Nat.mul_le_mul_right k (by omega))]
theorem uh.cell(hk:∀x,(cells x).length=k)(h:uh p cells k xs cur0 cur i j)(h0:cur0.take (xs.length*k)=xs.flatMap cells){x:α}(hx:xs[j]?=some x)(t:Nat)(ht:t<k):cur[j*k+t]?=(cells x)[t]?:=by
 have hj:=(List.getElem?_eq_some_iff.1 hx).1
 have h1:=congrArg (fun l=>l[t]?) h.high
 simp only[List.getElem?_drop]at h1
 rw[h1,←xP hk hx t ht,←h0,List.getElem?_take,if_pos]
 have:=Nat.mul_le_mul_right k (show j+1≤xs.length by omega)
 rw[Nat.succ_mul]at this
 omega
theorem uh.has(h:uh p cells k xs cur0 cur i j)(hk0:0<k)(h0:cur0.length≥j*k)(t:Nat)(ht:t<k):∃u,cur[i*k+t]?=some u:=by
 have h1:=Nat.mul_le_mul_right k (show i+1≤j from h.lt)
 rw[Nat.succ_mul]at h1
 have h2:=h.len
 exact⟨_,List.getElem?_eq_getElem (by omega)⟩
theorem uh.skip(h:uh p cells k xs cur0 cur i j){x:α}(hx:xs[j]?=some x)(hp:p x=true):uh p cells k xs cur0 cur i (j+1):=by
 have e:(xs.take (j+1)).filter (fun x=>!p x)=(xs.take j).filter fun x=>!p x:=by
  rw[List.take_add_one,hx,List.filter_append];simp[hp]
 refine⟨h.len,by rw[e];exact h.low,by rw[e];exact h.cnt,?_,by have:=h.lt;omega⟩
 have:=congrArg (List.drop k) h.high
 rw[List.drop_drop,List.drop_drop]at this
 rw[Nat.succ_mul]
 exact this
theorem uh.keep(h:uh p cells k xs cur0 cur i j){x:α}(hx:xs[j]?=some x)(hp:p x=false){cur':List Value}(hl:cur'.length=cur.length)(hlo:cur'.take (i*k+k)=cur.take (i*k)++cells x)(hhi:cur'.drop (j*k)=cur.drop (j*k)):uh p cells k xs cur0 cur' (i+1) (j+1):=by
 have e:(xs.take (j+1)).filter (fun x=>!p x)=((xs.take j).filter fun x=>!p x)++[x]:=by
  rw[List.take_add_one,hx,List.filter_append];simp[hp]
 refine⟨hl.trans h.len,?_,by rw[e,List.length_append,h.cnt];rfl,?_,by have:=h.lt;omega⟩
 ·rw[e,List.flatMap_append,Nat.succ_mul,hlo,h.low];simp
 ·have:=congrArg (List.drop k) (hhi.trans h.high)
  rw[List.drop_drop,List.drop_drop]at this
  rw[Nat.succ_mul]
  exact this
theorem Hu{cur:List Value}{i:Nat}(h:i<cur.length)(c:Value):(cur.set i c).take (i+1)=cur.take i++[c]:=by
 rw[List.take_add_one,List.take_set_of_le (Nat.le_refl _),List.getElem?_set_self h];rfl
theorem DJ{cur:List Value}{i j:Nat}(h:i<j)(c:Value):(cur.set i c).drop j=cur.drop j:=by
 rw[List.drop_set_of_lt h]
theorem uh.keep1{cells:α→List Value}(h:uh p cells 1 xs cur0 cur i j){x:α}{c:Value}(hc:cells x=[c])(hx:xs[j]?=some x)(hp:p x=false)(h0:j≤cur0.length):uh p cells 1 xs cur0 (cur.set i c) (i+1) (j+1):=by
 have h1:=h.lt
 have h2:=h.len
 refine h.keep hx hp (by simp) ?_ ?_
 ·rw[hc,Nat.mul_one];exact Hu (by omega) c
 ·rw[Nat.mul_one];exact DJ h1 c
theorem uh.keep2{cells:α→List Value}(h:uh p cells 2 xs cur0 cur i j){x:α}{c d:Value}(hc:cells x=[c,d])(hx:xs[j]?=some x)(hp:p x=false)(h0:j*2≤cur0.length):uh p cells 2 xs cur0 ((cur.set (i*2) c).set (i*2+1) d) (i+1) (j+1):=by
 have h1:=h.lt
 have h2:=h.len
 refine h.keep hx hp (by simp) ?_ ?_
 ·rw[hc,Hu (by simp;omega),Hu (by omega)];simp
 ·rw[DJ (by omega),DJ (by omega)]
end
end Go.Proofs.YtmffejnigppbpaaGreatDoor

set_option maxHeartbeats 8000000
set_option maxRecDepth 100000
namespace Go.Proofs.YtmffejnigppbpaaGreatDoor
open Go.RowKit
abbrev PmC:=Pm×Option Addr×Nat×Nat
def lU(x:PmC):List Value:=[.string (S x.1.1),.slice x.2.1 x.2.2.1 x.2.2.2]
abbrev aa3(x:PmC):Value:=.agg #[.string (S x.1.1),.slice x.2.1 x.2.2.1 x.2.2.2]
theorem kH(x:PmC):(lU x).length=2:=rfl
theorem acd:(Tryz.prog.info? 41).map (fun i=>(i.zero,i.size,i.bytes))=some (some (.agg #[.string ⟨#[]⟩,.slice none 0 0]),2,40):=by kernel_rfl
def aa4(g:Nat)(lb:Array Value)(q:PmC→Bool)(xs:List (PmC))(w:World)(row:Option Nat):Prop:=∀W,w.grownBy W row→∀x∈xs,dA g (#[aa3 x]++lb) W (.bool (q x))
theorem H9(g:Nat)(lb:Array Value)(eg:∀args w,(callFunc g args).run Tryz.prog w=.ok (.enter g args) w)(q:PmC→Bool)(v:Value)(xs:List (PmC))(w:World)(h:mi 2 w v xs.length (xs.flatMap lU))(hl:xs.length≤1000000)(hP:aa4 g lb q xs w none) :
  dA 60 #[v,.func (.func g) #[] lb] w (.int .i64 (kF (xs.findIdx? q))):=by
 have H:=hid h
 have HP:=hid hP
 obtain⟨a,cap,rfl⟩:=h.len
 clear h hP
 go_enter Tryz.func60,Tryz.ntmps60
 go_wp2_with fail
 go_loopw [8] (fun i wr=>∃k:Nat,k≤xs.length∧i=.int .i64 k∧(∀j (h:j<xs.length),j<k→q xs[j]=false)∧G w wr) (fun i _=>xs.length-(intOf i).toNat)
 case atStart=>exact⟨0,Nat.zero_le _,rfl,fun j _ h=>by omega,G.refl _⟩
 case round=>
  obtain⟨k,hk,rfl,hn,gr⟩:=hrel
  have HN:=hid hn
  have GR:=hid gr
  clear hn gr
  by_cases hlt:k<xs.length
  ·obtain⟨_,_,hh⟩:=H.out.grow GR.out
   rcases hh with⟨h0,_⟩|⟨b,off,cp,e,hb,_,hc⟩
   ·omega
   cases e
   obtain⟨x,hx⟩:∃x,xs[k]=x:=⟨_,rfl⟩
   have hxk:xs[k]?=some x:=by rw[List.getElem?_eq_getElem hlt,hx]
   have c0:wr.cell? ⟨b,off+k*2,none⟩=some (.string (S x.1.1)):=by
    have e1:=xP kH hxk 0 (by omega)
    have e2:k*2+0<(xs.flatMap lU).length:=by rw[mZ kH];omega
    have:=hc _ e2
    rw[List.getElem?_eq_getElem e2]at e1
    have e3:=Option.some.inj e1
    rw[e3]at this
    simpa[Nat.add_assoc]using this
   have c1:wr.cell? ⟨b,off+k*2+1,none⟩=some (.slice x.2.1 x.2.2.1 x.2.2.2):=by
    have e1:=xP kH hxk 1 (by omega)
    have e2:k*2+1<(xs.flatMap lU).length:=by rw[mZ kH];omega
    have:=hc _ e2
    rw[List.getElem?_eq_getElem e2]at e1
    have e3:=Option.some.inj e1
    rw[e3]at this
    simpa[Nat.add_assoc]using this
   have CL:=hid (HP.out wr (rM none GR.out) x (hx▸List.getElem_mem hlt))
   have HX:=hid hx
   clear hc hxk
   cases hq:q x with
   |true=>
    have CQ:=CL
    rw[hq]at CQ
    have HF:Hid (xs.findIdx? q=some k):=hid (by
     rw[List.findIdx?_eq_some_iff_getElem]
     exact⟨hlt,by rw[HX.out];exact hq,fun j hj=>by rw[HN.out j (by omega) hj];simp⟩)
    clear hq hx
    go_wp2_with (go_at_fn g;refine CQ.out.use ?_)
    intro w2 g2
    have G2:Hid (G w w2):=hid (GR.out.trans g2)
    clear g2
    go_wp2_with fail
    go_ret
    exact⟨kX (by rw[HF.out];rfl),G2.out⟩
   |false=>
    have CQ:=CL
    rw[hq]at CQ
    have HF:Hid (∀j (h:j<xs.length),j<k+1→q xs[j]=false):=hid (fun j h hj=>by
     rcases Nat.lt_or_ge j k with h1|h1
     ·exact HN.out j h h1
     ·obtain rfl:j=k:=by omega
      rw[HX.out];exact hq)
    clear hq hx
    go_wp2_with (go_at_fn g;refine CQ.out.use ?_)
    intro w2 g2
    have G2:Hid (G w w2):=hid (GR.out.trans g2)
    clear g2
    go_wp2_with fail
    go_roundw
    case rel=>exact⟨k+1,by omega,by go_num,HF.out,G2.out⟩
    case measure=>simp[intOf];omega
  ·obtain rfl:k=xs.length:=by omega
   have HF:Hid (xs.findIdx? q=none):=hid (by
    rw[List.findIdx?_eq_none_iff]
    intro x hx
    obtain⟨j,hj,rfl⟩:=List.mem_iff_getElem.1 hx
    rw[HN.out j hj hj])
   go_wp2_with fail
   go_ret
   exact⟨kX (by rw[HF.out];rfl),GR.out⟩
theorem Rw(q:PmC→Bool)(xs:List (PmC)):decide ((0:Int)≤kF (xs.findIdx? q))=xs.any q:=by
 cases h:xs.findIdx? q with
 |none=>
  rw[List.findIdx?_eq_none_iff]at h
  have:xs.any q=false:=by rw[List.any_eq_false];intro x hx;simp[h x hx]
  rw[this];decide
 |some k=>
  rw[List.findIdx?_eq_some_iff_getElem]at h
  obtain⟨hk,h1,_⟩:=h
  have:xs.any q=true:=List.any_eq_true.2 ⟨_,List.getElem_mem hk,h1⟩
  rw[this];simp[kF]
theorem MR(g:Nat)(lb:Array Value)(eg:∀args w,(callFunc g args).run Tryz.prog w=.ok (.enter g args) w)(q:PmC→Bool)(v:Value)(xs:List (PmC))(w:World)(h:mi 2 w v xs.length (xs.flatMap lU))(hl:xs.length≤1000000)(hP:aa4 g lb q xs w none) :
  dA 21 #[v,.func (.func g) #[] lb] w (.bool (xs.any q)):=by
 have HIX:=hid (H9 g lb eg q v xs w h hl hP)
 have HE:=hid (Rw q xs)
 obtain⟨a,cap,rfl⟩:=h.len
 clear h hP
 go_enter Tryz.func21,Tryz.ntmps21
 go_wp2_with fail
 refine HIX.out.use ?_
 intro w1 g1
 go_wp2_with fail
 go_ret
 exact⟨cO HE.out,g1⟩
theorem OL(g:Nat)(lb:Array Value)(eg:∀args w,(callFunc g args).run Tryz.prog w=.ok (.enter g args) w)(q:PmC→Bool)(base:Nat)(v:Value)(xs:List (PmC))(w:World)(h:w.ownsRow base 41 2 v xs.length (xs.flatMap lU))(hl:xs.length≤1000000)(hP:aa4 g lb q xs w v.ownBlock) :
  Calls Tryz.prog 143 #[v,.func (.func g) #[] lb] w fun e w'=>∃u,e=.returned u∧w'.ownsRow base 41 2 u (xs.filter fun x=>!q x).length ((xs.filter fun x=>!q x).flatMap lU)∧w.grownBy w' v.ownBlock∧u.ownBlock=v.ownBlock:=by
 have H:=hid h
 have HP:=hid hP
 have hrow:mi 2 w v xs.length (xs.flatMap lU):=by
  refine⟨mZ kH xs,fun u hu=>?_,?_⟩
  ·obtain⟨x,_,hx⟩:=List.mem_flatMap.1 hu
   simp[lU]at hx
   rcases hx with rfl|rfl<;>rfl
  ·rcases h.2 with⟨e,h0⟩|⟨b,cap,cur,e,hb,hg,hn,hm,hs,ht⟩
   ·exact .inl ⟨h0,.inl e⟩
   ·rcases Nat.eq_zero_or_pos xs.length with h0|h0
    ·exact .inl ⟨h0,.inr ⟨_,_,by rw[e,h0]⟩⟩
    ·exact .inr ⟨b,0,cap,e,(Array.getElem?_eq_some_iff.1 hg).1,h0,fun j hj=>by
      rw[cell_of_row w b (0+j) _ _ _ hg,Nat.zero_add]
      have:=congrArg (fun z=>z[j]?) ht
      simp only[List.getElem?_take]at this
      rw[mZ kH]at hj
      rw[if_pos hj]at this
      have e2:j<(xs.flatMap lU).length:=by rw[mZ kH];exact hj
      rw[List.getElem?_eq_getElem e2]at this
      simpa using this⟩
 have HIX:=hid (H9 g lb eg q v xs w hrow hl fun W gW x hx=>hP W ⟨gW.os,gW.tape,gW.output,gW.size,fun k hk _=>gW.block k hk (by simp)⟩ x hx)
 clear hrow
 obtain⟨r,hr⟩:∃r,xs.findIdx? q=r:=⟨_,rfl⟩
 rw[hr]at HIX
 have HR:=hid hr
 clear hr hP
 rcases h.2 with⟨rfl,h0⟩|⟨b,cap,cur,rfl,hb,hg,hn,hm,hs,ht⟩
 ·have hx0:xs=[]:=List.eq_nil_of_length_eq_zero h0
  obtain rfl:r=none:=by rw[←HR.out,hx0];rfl
  have HX0:=hid hx0
  clear h hx0 h0
  go_enter Tryz.func143,Tryz.ntmps143
  go_wp2_with fail
  refine HIX.out.use ?_
  intro w1 g1
  simp only[kF]
  go_wp2_with fail
  go_ret
  refine⟨_,rfl,?_,rM _ g1,rfl⟩
  rw[HX0.out]
  exact⟨rfl,.inl ⟨rfl,rfl⟩⟩
 cases r with
 |none=>
  have HF:Hid ((xs.filter fun x=>!q x)=xs):=hid (List.filter_eq_self.2 fun x hx=>by have:=List.findIdx?_eq_none_iff.1 HR.out x hx;simp[this])
  clear h ht hg
  go_enter Tryz.func143,Tryz.ntmps143
  go_wp2_with fail
  refine HIX.out.use ?_
  intro w1 g1
  simp only[kF]
  go_wp2_with fail
  go_ret
  refine⟨_,rfl,?_,rM _ g1,rfl⟩
  rw[HF.out]
  exact World.ownsRow.kept H.out (rM none g1) (by simp[Value.ownBlock])
 |some i0=>
  have h9:cur.toList.length=cap*2:=by rw[Array.length_toList];exact hs
  have HC0:Hid (cur.toList.take (xs.length*2)=xs.flatMap lU∧xs.length*2≤cur.toList.length):=hid ⟨ht,by rw[h9];exact Nat.mul_le_mul_right _ hn⟩
  clear h9
  have HD:=hid (uh.start (p:=q) kH HC0.out.1 HR.out)
  have HB:=hid (show BR w b 41 cur.toList w from⟨BU _ _,by simpa using hg⟩)
  have HSZ:=hid (⟨hs,hb,hm⟩:cur.size=cap*2∧base≤b∧cap≤maxLen)
  have hi0:i0<xs.length:=by have:=HR.out;rw[List.findIdx?_eq_some_iff_getElem]at this;exact this.1
  clear h ht hg hs hm
  go_enter Tryz.func143,Tryz.ntmps143
  go_wp2_with fail
  refine HIX.out.use ?_
  intro w1 g1
  simp only[kF]
  have HB1:=hid (HB.out.grow g1)
  clear g1
  have hne:((i0:Int) == -1)=false:=beq_eq_false_iff_ne.2 (by omega)
  go_wp2_with fail
  go_loopw [5,6,7] (fun s5 s6 _ wr=>∃(i j:Nat) (cu:List Value),s5=.int .i64 (i:Int)∧s6=.int .i64 (j:Int)∧j≤xs.length∧BR w b 41 cu wr∧uh q lU 2 xs cur.toList cu i j) (fun _ s6 _ _=>xs.length-(intOf s6).toNat)
  case atStart=>exact⟨i0,i0+1,cur.toList,rfl,by go_num,by omega,HB1.out,HD.out⟩
  case round=>
   obtain⟨i,j,cu,rfl,rfl,hj,hB,hD⟩:=hrel
   have hij:=hD.lt
   have HB2:=hid hB
   have HD2:=hid hD
   obtain⟨hc0,hc1⟩:=HC0.out
   by_cases hlt:j<xs.length
   ·obtain⟨x,hx⟩:∃x,xs[j]=x:=⟨_,rfl⟩
    have hxj:xs[j]?=some x:=by rw[List.getElem?_eq_getElem hlt,hx]
    have hjl:j*2+2≤cur.toList.length:=by omega
    have c0:=hB.cell (hD.cell kH hc0 hxj 0 (by omega))
    obtain⟨u0,hu0⟩:=hD.has (by omega) (by omega) 0 (by omega)
    have d0:=hB.cell hu0
    have f0:=hB.fz (i*2+0)
    have c1:=hB.cell (hD.cell kH hc0 hxj 1 (by omega))
    obtain⟨u1,hu1⟩:=hD.has (by omega) (by omega) 1 (by omega)
    have d1:=hB.cell hu1
    have f1:=hB.fz (i*2+1)
    simp only[lU,List.getElem?_cons_zero,List.getElem?_cons_succ,Nat.mul_one,Nat.add_zero]at c0 c1 d0 d1 f0 f1
    have CL:=hid (fun W (gW:G wr W)=>HP.out W (Wy hB.mv gW) x (hx▸List.getElem_mem hlt))
    have HX:=hid hxj
    have HJL:=hid hjl
    clear hx hxj hB hD hc0 hc1 hjl hu0 hu1
    have hltz:(j:Int)<(xs.length:Int):=by omega
    obtain⟨⟨n,vs⟩,sa,sn,sc⟩:=x
    cases hq:q ((n,vs),sa,sn,sc)with
    |false=>
     have CQ:=CL.out _ ((G.refl wr).alloc (.cells #[.string (S n),.slice sa sn sc] 41))
     rw[hq]at CQ
     have HQ:=hid hq
     clear hq
     have hbl:=HB2.out.lt
     go_wp2_with (go_at_fn g;refine CQ.use ?_)
     intro w3 g3
     have g4:G wr w3:=((G.refl _).alloc _).trans g3
     have HB3:=hid (HB2.out.grow g4)
     have hz0:w3.cell? ⟨wr.heap.size,0,none⟩=some (.string (S n)):=by rw[g3.cell (by simp)];simp[go_sem]
     have hz1:w3.cell? ⟨wr.heap.size,1,none⟩=some (.slice sa sn sc):=by rw[g3.cell (by simp)];simp[go_sem]
     rw[←g4.cell (p:=⟨b,i*2,none⟩) hbl]at d0
     rw[←g4.cell (p:=⟨b,i*2+1,none⟩) hbl]at d1
     rw[←g4.below.frozen (p:=⟨b,i*2,none⟩) hbl]at f0
     rw[←g4.below.frozen (p:=⟨b,i*2+1,none⟩) hbl]at f1
     clear g3 g4 c0 c1 CQ
     go_wp2_with fail
     go_roundw
     case rel=>exact⟨i+1,j+1,_,by go_num,by go_num,by omega,(HB3.out.set (i*2) _).set (i*2+1) _,HD2.out.keep2 rfl HX.out HQ.out (by have:=HJL.out;omega)⟩
     case measure=>simp[intOf];omega
    |true=>
     have CQ:=CL.out _ ((G.refl wr).alloc (.cells #[.string (S n),.slice sa sn sc] 41))
     rw[hq]at CQ
     have HQ:=hid hq
     clear hq
     have hbl:=HB2.out.lt
     go_wp2_with (go_at_fn g;refine CQ.use ?_)
     intro w3 g3
     have g4:G wr w3:=((G.refl _).alloc _).trans g3
     have HB3:=hid (HB2.out.grow g4)
     clear g3 g4 c0 c1 CQ
     go_wp2_with fail
     go_roundw
     case rel=>exact⟨i,j+1,_,rfl,by go_num,by omega,HB3.out,HD2.out.skip HX.out HQ.out⟩
     case measure=>simp[intOf];omega
   ·obtain rfl:j=xs.length:=by omega
    have hltz:¬(xs.length:Int)<(xs.length:Int):=by omega
    obtain⟨i1,i2,i3,i4⟩:=info_parts acd
    obtain⟨cu2,W2,hrun,hB3,hl3,hlo3⟩:=zH (P:=Tryz.prog) hB 31 41 (.agg #[.string ⟨#[]⟩,.slice none 0 0]) 2 rfl (by omega) Tryz.underlying31 (fun w=>by kernel_rfl) (by decide) (i*2) i xs.length (cap-i) (by omega) hij (by rw[hD.len];exact hc1)
    have hcnt:=hD.cnt
    have hlow:=hD.low
    rw[List.take_length]at hcnt hlow
    have HL:=hid (show w.grownBy W2 (some b)∧W2.ownsRow base 41 2 (.slice (some ⟨b,0,none⟩) i cap) i ((xs.filter fun x=>!q x).flatMap lU)from by
     refine⟨hB3.mv,by rw[mZ kH,hcnt],.inr ⟨b,cap,cu2.toArray,rfl,HSZ.out.2.1,hB3.b,by omega,HSZ.out.2.2,?_,?_⟩⟩
     ·have:=HSZ.out.1
      rw[List.size_toArray,hl3,hD.len,Array.length_toList,this]
     ·rw[List.toList_toArray,hlo3,hlow])
    have HN:=hid hcnt
    clear hcnt hlow hlo3 hl3 hB3 hB hD hc0 hc1
    go_wp2_with fail
    go_ret
    refine⟨_,rfl,?_,HL.out.1,rfl⟩
    rw[HN.out]
    exact HL.out.2
end Go.Proofs.YtmffejnigppbpaaGreatDoor

namespace Go.Proofs.YtmffejnigppbpaaGreatDoor
open Go.RowKit
def slP(x:PmC):Value:=.slice x.2.1 x.2.2.1 x.2.2.2
theorem PN{w:World}:∀(ps:List Pm) (vs:List Value),vs.length=ps.length→(∀(i:Nat) (p:Pm) (x:Value),ps[i]?=some p→vs[i]?=some x→di w x p.2)→∃xs:List PmC,xs.map (·.1)=ps∧xs.map slP=vs∧∀x∈xs,di w (slP x) x.1.2
 |[],vs,hl,_=>⟨[],rfl,by cases vs with|nil=>rfl|cons _ _=>simp at hl,fun x hx=>by cases hx⟩
 |p::ps,[],hl,_=>by simp at hl
 |p::ps,v::vs,hl,h=>by
  obtain⟨xs,h1,h2,h3⟩:=PN ps vs (by simpa using hl) fun i q x hq hx=>h (i+1) q x (by simpa using hq) (by simpa using hx)
  have h0:=h 0 p v rfl rfl
  obtain⟨a,c,rfl,_⟩:=h0.len
  refine⟨(p,a,p.2.length,c)::xs,by simp[h1],by simp[h2,slP],fun x hx=>?_⟩
  rcases List.mem_cons.1 hx with rfl|hx
  ·exact h0
  ·exact h3 x hx
theorem BP:∀xs:List PmC,xs.flatMap lU=lu (xs.map (·.1)) (xs.map slP)
 |[]=>rfl
 |x::xs=>by rw[List.flatMap_cons,List.map_cons,List.map_cons,lu,BP xs];rfl
theorem eu.row{w:World}{v:Value}{ps:List Pm}(h:eu w v ps)(hf:v=.slice none 0 0∨∃a n c,v=.slice (some a) n c) :
  ∃xs:List PmC,xs.map (·.1)=ps∧(∀x∈xs,di w (slP x) x.1.2)∧mi 2 w v xs.length (xs.flatMap lU):=by
 by_cases h0:ps=[]
 ·subst h0
  have hv:v=.slice none 0 0∨∃a c,v=.slice (some a) 0 c:=by
   obtain⟨a,c,e,_⟩:=h
   rcases hf with hf|⟨a',n,c',hf⟩
   ·exact .inl hf
   ·rw[hf]at e;cases e;exact .inr ⟨_,_,hf⟩
  exact⟨[],rfl,fun x hx=>(by cases hx),⟨rfl,fun u hu=>(by cases hu),.inl ⟨rfl,hv⟩⟩⟩
 ·obtain⟨b,off,cap,vs,e,hb,hl,hs,hc⟩:=h.slices h0
  obtain⟨xs,h1,h2,h3⟩:=PN ps vs hl hs
  have hle:xs.length=ps.length:=by rw[←h1];simp
  refine⟨xs,h1,h3,mZ kH xs,fun u hu=>?_,.inr ⟨b,off,cap,by rw[hle];exact e,hb,?_,fun j hj=>hc j _ ?_⟩⟩
  ·obtain⟨x,_,hx⟩:=List.mem_flatMap.1 hu
   simp[lU]at hx
   rcases hx with rfl|rfl<;>rfl
  ·rw[hle];exact List.length_pos_iff.2 h0
  ·rw[←h1,←h2,←BP];exact List.getElem?_eq_getElem hj
theorem di.row{w:World}{v:Value}{ls:List (List UInt8)}(h:di w v ls):mi 1 w v ls.length (ls.flatMap fun x=>[.string (S x)]):=by
 have e:(ls.flatMap fun x=>[Value.string (S x)])=ls.map fun l=>.string (S l):=by
  clear h
  induction ls with
  |nil=>rfl
  |cons l ls ih=>rw[List.flatMap_cons,ih];rfl
 rw[e]
 exact h.1
theorem KU{a b:World}(h:a.grownBy b none):G a b:=⟨h.os,h.tape,h.output,h.size,fun k hk=>h.block k hk (by simp)⟩
end Go.Proofs.YtmffejnigppbpaaGreatDoor

set_option maxHeartbeats 4000000
set_option maxRecDepth 100000
namespace Go.Proofs.YtmffejnigppbpaaGreatDoor
open Go.RowKit
def oh(x:List UInt8):List Value:=[.string (S x)]
abbrev OM(x:List UInt8):Value:=.string (S x)
theorem oL(x:List UInt8):(oh x).length=1:=rfl
theorem ace:(Tryz.prog.info? 9).map (fun i=>(i.zero,i.size,i.bytes))=some (some (.string ⟨#[]⟩),1,16):=by kernel_rfl
def aa5(g:Nat)(lb:Array Value)(q:List UInt8→Bool)(xs:List (List UInt8))(w:World)(row:Option Nat):Prop:=∀W,w.grownBy W row→∀x∈xs,dA g (#[OM x]++lb) W (.bool (q x))
theorem Ry(g:Nat)(lb:Array Value)(eg:∀args w,(callFunc g args).run Tryz.prog w=.ok (.enter g args) w)(q:List UInt8→Bool)(v:Value)(xs:List (List UInt8))(w:World)(h:mi 1 w v xs.length (xs.flatMap oh))(hl:xs.length≤1000000)(hP:aa5 g lb q xs w none) :
  dA 53 #[v,.func (.func g) #[] lb] w (.int .i64 (kF (xs.findIdx? q))):=by
 have H:=hid h
 have HP:=hid hP
 obtain⟨a,cap,rfl⟩:=h.len
 clear h hP
 go_enter Tryz.func53,Tryz.ntmps53
 go_wp2_with fail
 go_loopw [8] (fun i wr=>∃k:Nat,k≤xs.length∧i=.int .i64 k∧(∀j (h:j<xs.length),j<k→q xs[j]=false)∧G w wr) (fun i _=>xs.length-(intOf i).toNat)
 case atStart=>exact⟨0,Nat.zero_le _,rfl,fun j _ h=>by omega,G.refl _⟩
 case round=>
  obtain⟨k,hk,rfl,hn,gr⟩:=hrel
  have HN:=hid hn
  have GR:=hid gr
  clear hn gr
  by_cases hlt:k<xs.length
  ·obtain⟨_,_,hh⟩:=H.out.grow GR.out
   rcases hh with⟨h0,_⟩|⟨b,off,cp,e,hb,_,hc⟩
   ·omega
   cases e
   obtain⟨x,hx⟩:∃x,xs[k]=x:=⟨_,rfl⟩
   have hxk:xs[k]?=some x:=by rw[List.getElem?_eq_getElem hlt,hx]
   have c0:wr.cell? ⟨b,off+k,none⟩=some (.string (S x)):=by
    have e1:=xP oL hxk 0 (by omega)
    have e2:k*1+0<(xs.flatMap oh).length:=by rw[mZ oL];omega
    have:=hc _ e2
    rw[List.getElem?_eq_getElem e2]at e1
    have e3:=Option.some.inj e1
    rw[e3]at this
    simpa[Nat.add_assoc]using this
   have CL:=hid (HP.out wr (rM none GR.out) x (hx▸List.getElem_mem hlt))
   have HX:=hid hx
   clear hc hxk
   cases hq:q x with
   |true=>
    have CQ:=CL
    rw[hq]at CQ
    have HF:Hid (xs.findIdx? q=some k):=hid (by
     rw[List.findIdx?_eq_some_iff_getElem]
     exact⟨hlt,by rw[HX.out];exact hq,fun j hj=>by rw[HN.out j (by omega) hj];simp⟩)
    clear hq hx
    go_wp2_with (go_at_fn g;refine CQ.out.use ?_)
    intro w2 g2
    have G2:Hid (G w w2):=hid (GR.out.trans g2)
    clear g2
    go_wp2_with fail
    go_ret
    exact⟨kX (by rw[HF.out];rfl),G2.out⟩
   |false=>
    have CQ:=CL
    rw[hq]at CQ
    have HF:Hid (∀j (h:j<xs.length),j<k+1→q xs[j]=false):=hid (fun j h hj=>by
     rcases Nat.lt_or_ge j k with h1|h1
     ·exact HN.out j h h1
     ·obtain rfl:j=k:=by omega
      rw[HX.out];exact hq)
    clear hq hx
    go_wp2_with (go_at_fn g;refine CQ.out.use ?_)
    intro w2 g2
    have G2:Hid (G w w2):=hid (GR.out.trans g2)
    clear g2
    go_wp2_with fail
    go_roundw
    case rel=>exact⟨k+1,by omega,by go_num,HF.out,G2.out⟩
    case measure=>simp[intOf];omega
  ·obtain rfl:k=xs.length:=by omega
   have HF:Hid (xs.findIdx? q=none):=hid (by
    rw[List.findIdx?_eq_none_iff]
    intro x hx
    obtain⟨j,hj,rfl⟩:=List.mem_iff_getElem.1 hx
    rw[HN.out j hj hj])
   go_wp2_with fail
   go_ret
   exact⟨kX (by rw[HF.out];rfl),GR.out⟩
theorem Rz(q:List UInt8→Bool)(xs:List (List UInt8)):decide ((0:Int)≤kF (xs.findIdx? q))=xs.any q:=by
 cases h:xs.findIdx? q with
 |none=>
  rw[List.findIdx?_eq_none_iff]at h
  have:xs.any q=false:=by rw[List.any_eq_false];intro x hx;simp[h x hx]
  rw[this];decide
 |some k=>
  rw[List.findIdx?_eq_some_iff_getElem]at h
  obtain⟨hk,h1,_⟩:=h
  have:xs.any q=true:=List.any_eq_true.2 ⟨_,List.getElem_mem hk,h1⟩
  rw[this];simp[kF]
theorem vZ(g:Nat)(lb:Array Value)(eg:∀args w,(callFunc g args).run Tryz.prog w=.ok (.enter g args) w)(q:List UInt8→Bool)(v:Value)(xs:List (List UInt8))(w:World)(h:mi 1 w v xs.length (xs.flatMap oh))(hl:xs.length≤1000000)(hP:aa5 g lb q xs w none) :
  dA 17 #[v,.func (.func g) #[] lb] w (.bool (xs.any q)):=by
 have HIX:=hid (Ry g lb eg q v xs w h hl hP)
 have HE:=hid (Rz q xs)
 obtain⟨a,cap,rfl⟩:=h.len
 clear h hP
 go_enter Tryz.func17,Tryz.ntmps17
 go_wp2_with fail
 refine HIX.out.use ?_
 intro w1 g1
 go_wp2_with fail
 go_ret
 exact⟨cO HE.out,g1⟩
end Go.Proofs.YtmffejnigppbpaaGreatDoor
