/-
  Texts merged into one: ItemsRow, LinePlain, Sub, GenMake, GenRepl.
-/
import Derived.Test.YtmffejnigppbpaaGreatDoorCXMA70
import Derived.Deep.OwnRows
import Derived.Deep.Slices
import Derived.OwnWalk
import Derived.Lib.SliceRun
import Derived.Laws.Cover3
import Derived.Laws.AppendOwn
import Derived.Test.YtmffejnigppbpaaGreatDoorCXMA47
import Derived.Test.YtmffejnigppbpaaGreatDoorCXMA67
import Derived.Test.YtmffejnigppbpaaGreatDoorCXMA66
import Derived.Test.YtmffejnigppbpaaGreatDoorCXMA63
import Derived.Test.YtmffejnigppbpaaGreatDoorCXMRepl
import Derived.Deep.MidRow
import Derived.Deep.RegionHeld3
set_option linter.unusedVariables false
set_option linter.unusedSimpArgs false
set_option maxHeartbeats 1000000
set_option maxRecDepth 100000
namespace Go.Proofs.YtmffejnigppbpaaGreatDoor
open Go.RowKit
theorem mV(b o j:Nat):(⟨b,o,none⟩:Addr).add j=⟨b,o+j,none⟩:=by unfold Addr.add;split<;>simp_all
theorem dG.one{w:World}{x:It}{pv lv:Value}(h:dG w x pv lv):∀u∈x.cells pv lv,u.oneCell'=true:=by
 obtain⟨a,c,rfl⟩:=h.pv
 obtain⟨a',c',rfl⟩:=h.lv
 intro u hu
 simp only[It.cells,List.mem_cons,List.mem_nil_iff,or_false]at hu
 rcases hu with rfl|rfl|rfl|rfl|rfl|rfl|rfl|rfl|rfl|rfl|rfl|rfl|rfl|rfl|rfl<;>rfl
def fO(w:World):List It→List Value→Prop
 |[],cs=>cs=[]
 |x::xs,cs=>∃pv lv ds,cs=x.cells pv lv++ds∧dG w x pv lv∧fO w xs ds
theorem fO.grow{w w':World}(g:G w w'):∀ {xs:List It} {cs:List Value},fO w xs cs→fO w' xs cs
 |[],_,h=>h
 |x::xs,_,⟨pv,lv,ds,e,h1,h2⟩=>⟨pv,lv,ds,e,h1.grow g,h2.grow g⟩
theorem fO.len{w:World}:∀ {xs:List It} {cs:List Value},fO w xs cs→cs.length=xs.length*15
 |[],_,h=>by rw[show _=([]:List Value)from h];rfl
 |x::xs,_,⟨pv,lv,ds,e,h1,h2⟩=>by rw[e,List.length_append,h2.len];simp[It.cells];omega
theorem fO.one{w:World}:∀ {xs:List It} {cs:List Value},fO w xs cs→∀u∈cs,u.oneCell'=true
 |[],_,h,u,hu=>by rw[show _=([]:List Value)from h]at hu;cases hu
 |x::xs,_,⟨pv,lv,ds,e,h1,h2⟩,u,hu=>by
  rw[e]at hu
  rcases List.mem_append.1 hu with hu|hu
  ·exact h1.one u hu
  ·exact h2.one u hu
theorem fO.append{w:World}:∀ {xs ys:List It} {cs ds:List Value},fO w xs cs→fO w ys ds→fO w (xs++ys) (cs++ds)
 |[],_,_,_,h,g=>by rw[show _=([]:List Value)from h];exact g
 |x::xs,_,_,_,⟨pv,lv,es,e,h1,h2⟩,g=>⟨pv,lv,_,by rw[e,List.append_assoc],h1,h2.append g⟩
theorem fO.single{w:World}{x:It}{pv lv:Value}(h:dG w x pv lv):fO w [x] (x.cells pv lv):=⟨pv,lv,[],by simp,h,rfl⟩
theorem fO.at_{w:World}:∀ {xs:List It} {cs:List Value},fO w xs cs→∀(i:Nat) (x:It),xs[i]?=some x→∃pv lv,dG w x pv lv∧∀(j:Nat) (u:Value),(x.cells pv lv)[j]?=some u→cs[i*15+j]?=some u
 |[],_,_,i,x,hx=>by simp at hx
 |y::xs,_,⟨pv,lv,ds,e,h1,h2⟩,0,x,hx=>by
  simp at hx;subst hx
  refine⟨pv,lv,h1,fun j u hu=>?_⟩
  rw[e,Nat.zero_mul,Nat.zero_add,List.getElem?_append_left (List.getElem?_eq_some_iff.1 hu).1]
  exact hu
 |y::xs,_,⟨pv,lv,ds,e,h1,h2⟩,i+1,x,hx=>by
  obtain⟨pv',lv',h3,h4⟩:=h2.at_ i x (by simpa using hx)
  refine⟨pv',lv',h3,fun j u hu=>?_⟩
  have hl:(y.cells pv lv).length=15:=rfl
  rw[e,List.getElem?_append_right (by rw[hl];omega),hl]
  have:(i+1)*15+j-15=i*15+j:=by omega
  rw[this];exact h4 j u hu
theorem sZ{w:World}{b off cap:Nat}{xs:List It}{cs:List Value}(h:fO w xs cs)(hb:b<w.heap.size)(hc:∀(j:Nat) (u:Value),cs[j]?=some u→w.cell? ⟨b,off+j,none⟩=some u)(hn:xs.length≤cap):dX w (.slice (some ⟨b,off,none⟩) xs.length cap) xs:=
 ⟨_,_,rfl,hn,fun _=>⟨b,off,rfl,hb,fun i x hx=>by
  obtain⟨pv,lv,h1,h2⟩:=h.at_ i x hx
  exact⟨pv,lv,fun j u hu=>by rw[Nat.add_assoc];exact hc _ u (h2 j u hu),h1⟩⟩⟩
theorem DV(w:World)(a:Option Addr)(c:Nat):dX w (.slice a 0 c) []:=⟨a,c,rfl,Nat.zero_le _,fun h=>absurd rfl h⟩
theorem rU{W:World}{base base':Nat}{e:TypeId}{size:Nat}{v:Value}{n:Nat}{xs:List Value}(h:W.ownsRow base e size v n xs)(g:base'≤base):W.ownsRow base' e size v n xs:=by
 refine⟨h.1,h.2.imp id ?_⟩
 rintro⟨b,cap,cur,e1,e2,r⟩
 exact⟨b,cap,cur,e1,Nat.le_trans g e2,r⟩
def BJ(w:World)(v:Value)(n:Nat)(cs:List Value):Prop:=
 cs.length=n*15∧(∀u∈cs,u.oneCell'=true)∧∃a cap,v=.slice a n cap∧n≤cap∧(n≠0→∃b off,a=some ⟨b,off,none⟩∧b<w.heap.size∧∀(j:Nat) (u:Value),cs[j]?=some u→w.cell? ⟨b,off+j,none⟩=some u)
theorem BJ.grow{w w':World}{v:Value}{n:Nat}{cs:List Value}(h:BJ w v n cs)(g:G w w'):BJ w' v n cs:=by
 obtain⟨h1,h2,a,cap,e,hc,h⟩:=h
 refine⟨h1,h2,a,cap,e,hc,fun h0=>?_⟩
 obtain⟨b,off,e2,hb,h⟩:=h h0
 exact⟨b,off,e2,Nat.lt_of_lt_of_le hb g.size,fun j u hu=>by rw[g.cell hb];exact h j u hu⟩
theorem BJ.form{w:World}{v:Value}{n:Nat}{cs:List Value}(h:BJ w v n cs):∃a c,v=.slice a n c:=by
 obtain⟨_,_,a,c,e,_⟩:=h
 exact⟨a,c,e⟩
theorem BJ.items{w:World}{v:Value}{xs:List It}{cs:List Value}(h:BJ w v xs.length cs)(hr:fO w xs cs):dX w v xs:=by
 obtain⟨_,_,a,cap,rfl,hc,h⟩:=h
 by_cases h0:xs=[]
 ·subst h0;exact DV _ _ _
 ·obtain⟨b,off,rfl,hb,h⟩:=h (by cases xs<;>simp_all)
  exact sZ hr hb h hc
abbrev kS(n:Nat)(w:World)(v:Value)(k:Nat)(cs:List Value):Prop:=w.ownsRow n 38 15 v k cs
theorem kS.lies{n:Nat}{w:World}{v:Value}{k:Nat}{cs:List Value}(h:kS n w v k cs)(h1:∀u∈cs,u.oneCell'=true):BJ w v k cs:=by
 have hh:=h
 refine⟨h.1,h1,?_⟩
 rcases h.2 with⟨rfl,rfl⟩|⟨g',cap,cur,rfl,hb,hg,hn,hm,hs,ht⟩
 ·exact⟨_,_,rfl,Nat.le_refl _,fun h=>absurd rfl h⟩
 ·exact⟨_,_,rfl,hn,fun _=>⟨g',0,rfl,(Array.getElem?_eq_some_iff.1 hg).1,fun j u hu=>by rw[←mV];exact World.ownsRow.cells hh (g:=g') rfl j u hu⟩⟩
theorem kS.same{n:Nat}{w w':World}{v:Value}{k:Nat}{cs:List Value}(h:kS n w v k cs)(g:∀b,n≤b→b<w.heap.size→w'.heap[b]?=w.heap[b]?):kS n w' v k cs:=by
 refine⟨h.1,?_⟩
 rcases h.2 with h0|⟨g',cap,cur,rfl,hb,hg,r⟩
 ·exact .inl h0
 ·exact .inr ⟨g',cap,cur,rfl,hb,(g g' hb (Array.getElem?_eq_some_iff.1 hg).1).trans hg,r⟩
theorem kS.grow{n:Nat}{w w':World}{v:Value}{k:Nat}{cs:List Value}(h:kS n w v k cs)(g:G w w'):kS n w' v k cs:=h.same fun b _ hb=>g.below.block b hb
theorem kS.snoc{n:Nat}{w2 W w1:World}{v v':Value}{k:Nat}{cs ds:List Value}(r:kS n W v k cs)(g:Below n w2 W)(hn:n≤W.heap.size)(hgrow:W.grownBy w1 v.ownBlock)(h:kS n w1 v' (k+1) ds) :
  (∃b cap,v'=.slice (some ⟨b,0,none⟩) (k+1) cap)∧Below n w2 w1:=by
 refine⟨?_,Below.grown g hgrow hn fun j hj=>(r.lt j hj).1⟩
 rcases h.2 with⟨_,h0⟩|⟨b,cap,cur,e,_⟩
 ·omega
 ·exact⟨b,cap,e⟩
theorem dX.cells{w:World}{v:Value}{xs:List It}(h:dX w v xs)(h0:xs≠[]):∃(b off cap:Nat) (cs:List Value),v=.slice (some ⟨b,off,none⟩) xs.length cap∧b<w.heap.size∧fO w xs cs∧∀(j:Nat) (u:Value),cs[j]?=some u→w.cell? ⟨b,off+j,none⟩=some u:=by
 obtain⟨a,cap,rfl,hc,h⟩:=h
 obtain⟨b,off,rfl,hb,h⟩:=h h0
 refine⟨b,off,cap,?_⟩
 have key:∀(ys:List It) (o:Nat),(∀(i:Nat) (x:It),ys[i]?=some x→∃pv lv,xZ w b (o+i*15) x pv lv)→∃cs,fO w ys cs∧∀(j:Nat) (u:Value),cs[j]?=some u→w.cell? ⟨b,o+j,none⟩=some u:=by
  intro ys
  induction ys with
  |nil=>intro o _;exact⟨[],rfl,by simp⟩
  |cons y ys ih=>
   intro o hy
   obtain⟨pv,lv,h1⟩:=hy 0 y rfl
   obtain⟨ds,h2,h3⟩:=ih (o+15) (fun i x hx=>by
    obtain⟨p,l,h4⟩:=hy (i+1) x (by simpa using hx)
    exact⟨p,l,by have e:o+(i+1)*15=o+15+i*15:=(by omega);rw[e]at h4;exact h4⟩)
   refine⟨y.cells pv lv++ds,⟨pv,lv,ds,rfl,h1.ok,h2⟩,fun j u hu=>?_⟩
   have hl:(y.cells pv lv).length=15:=rfl
   rcases Nat.lt_or_ge j 15 with hj|hj
   ·rw[List.getElem?_append_left (by omega)]at hu
    have:=h1.c j u hu
    rw[Nat.zero_mul,Nat.add_zero]at this
    exact this
   ·rw[List.getElem?_append_right (by omega),hl]at hu
    have:=h3 _ u hu
    have e:o+15+(j-15)=o+j:=by omega
    rw[e]at this;exact this
 obtain⟨cs,h1,h2⟩:=key xs off h
 exact⟨cs,rfl,hb,h1,h2⟩
theorem dX.lies{w:World}{v:Value}{xs:List It}(h:dX w v xs):∃cs,BJ w v xs.length cs∧fO w xs cs:=by
 by_cases h0:xs=[]
 ·subst h0
  obtain⟨a,c,e,hc,_⟩:=h
  exact⟨[],⟨rfl,by simp,a,c,e,hc,fun h=>absurd rfl h⟩,rfl⟩
 ·obtain⟨b,off,cap,cs,rfl,hb,hr,hc⟩:=h.cells h0
  obtain⟨a,c,e,hcap,_⟩:=h
  cases e
  exact⟨cs,⟨hr.len,hr.one,_,_,rfl,hcap,fun _=>⟨b,off,rfl,hb,hc⟩⟩,hr⟩
theorem x8:(Tryz.prog.info? 38).map (fun i=>(i.zero,i.size,i.bytes))=some (some (.agg #[.string ⟨#[]⟩,.string ⟨#[]⟩,.slice none 0 0,.int .i64 0,.string ⟨#[]⟩,.slice none 0 0,.int .i64 0,.int .i64 0,.int .i64 0,.int .i64 0,.int .i64 0,.int .i64 0,.bool false,.int .i64 0,.int .i64 0]),15,176):=by kernel_rfl
theorem O5(v:Value)(k:Nat)(cs:List Value)(w0:World)(hP:BJ w0 v k cs)(hf:v=.slice none 0 0∨∃a n c,v=.slice (some a) n c)(hl:k≤100000)(w:World)(gw:G w0 w)(b0:Nat)(hb0:b0≤w.heap.size) :
  Calls Tryz.prog 35 #[v] w fun e w'=>∃u,e=.returned u∧kS b0 w' u k cs∧G w w':=by
 obtain⟨i0,hi,hz0,hz1,hz2⟩:=info_parts x8
 have heq:=fun W a n c=>Lib.run_eql_slice_nil (P:=Tryz.prog) W 22 38 a n c 0 0 Tryz.underlying22
 obtain⟨hnl,hone,a',cap,rfl,hcap,hP⟩:=hP
 by_cases h0:k=0
 ·subst h0
  obtain rfl:cs=[]:=List.eq_nil_of_length_eq_zero (by simpa using hnl)
  have GW:=hid gw
  clear gw
  rcases hf with hf|⟨a,n,c,hf⟩
  ·cases hf
   go_enter Tryz.func35,Tryz.ntmps35
   go_wp2_with fail
   go_ret
   exact⟨_,rfl,World.ownsRow_nil _ _ _ _,(by repeat (first|exact G.refl _|assumption|apply G.drew|apply G.drewN|apply G.alloc|refine G.trans ?_ (by assumption)))⟩
  ·cases hf
   go_enter Tryz.func35,Tryz.ntmps35
   go_wp2_with fail
   go_ret
   exact⟨_,rfl,World.ownsRow_made w #[] 0 hb0 (by unfold maxLen;omega) rfl,(by repeat (first|exact G.refl _|assumption|apply G.drew|apply G.drewN|apply G.alloc|refine G.trans ?_ (by assumption)))⟩
 ·obtain⟨b,off,rfl,hb,hc⟩:=hP h0
  have HCC:=hid (fun (j:Nat) (u:Value) (hu:cs[j]?=some u)=>show(w.alloc (.cells #[] 38)).cell? ((⟨b,off,none⟩:Addr).add j)=some u by rw[mV,(gw.alloc _).cell (p:=⟨b,off+j,none⟩) hb];exact hc j u hu)
  have HN:=hid hnl
  have HONE:=hid hone
  have hown0:(w.alloc (.cells #[] 38)).ownsRow w.heap.size 38 15 (.slice (some ⟨w.heap.size,0,none⟩) 0 0) 0 []:=World.ownsRow_made w #[] 0 (Nat.le_refl _) (by unfold maxLen;omega) rfl
  have HOWN:=hid hown0
  have GW:=hid gw
  clear hc hnl hone hown0 hP hf hb gw
  go_enter Tryz.func35,Tryz.ntmps35
  go_wp2_with (at_builtin;refine wpList_append_own _ rfl _ _ 22 rfl w.heap.size 38 i0 _ 15 176 Tryz.underlying22 hi hz0 hz1 hz2 rfl (by decide) _ _ _ rfl HOWN.out ⟨b,off,none⟩ k cap cs rfl HN.out HCC.out HONE.out (by unfold maxLen;omega) (by omega) (by simp) ?_;intro v' w1 hown' hgrow _)
  go_ret
  have hgrow':(w.alloc (.cells #[] 38)).grownBy w1 (some w.heap.size):=hgrow
  have hG:G w w1:=Below.grown ((Below.refl w.heap.size w).alloc (Nat.le_refl _) (.cells #[] 38)) hgrow' (by simp) (fun j hj=>by cases hj;exact Nat.le_refl _)
  exact⟨_,rfl,rU (by simpa using hown') hb0,hG⟩
end Go.Proofs.YtmffejnigppbpaaGreatDoor

namespace Go.Proofs.YtmffejnigppbpaaGreatDoor
open Go.RowKit
abbrev L8:=List UInt8
abbrev Er:=Int×Nat
abbrev Rs(α:Type):=Except Er (α×L8)
def Rs.next{α β:Type}(x:Except Er (α×L8))(f:α→L8→Except Er β):Except Er β:=match x with|.ok (a,t)=>f a t|.error e=>.error e
theorem uw{α β:Type}{x:Except Er (α×L8)}{f:α→L8→Except Er β}{b:β}:Rs.next x f=.ok b↔∃a t,x=.ok (a,t)∧f a t=.ok b:=by
 cases x with
 |ok p=>obtain⟨a,t⟩:=p;exact⟨fun h=>⟨a,t,rfl,h⟩,fun ⟨a',t',h,h2⟩=>by injection h with h;injection h with h1 h3;subst h1;subst h3;exact h2⟩
 |error e=>exact⟨fun h=>(by cases h),fun ⟨_,_,h,_⟩=>(by cases h)⟩
def Si(c:UInt8):Bool:=!(uK false c)
def Ij(c:UInt8):Bool:=nG c.toNat
def Yb(l:L8):Rs L8:=if fH (l.takeWhile Ij)then .ok (l.takeWhile Ij,l.dropWhile Ij)else .error (5,l.length)
def isB(c:UInt8):L8→Option L8
 |[]=>none
 |d::r=>if d=c then some r else none
def abw(q:Bool)(c:UInt8):Bool:=c==34||(!q&&(c==44||c==59||c==58))
def Kz(q:Bool):L8→Rs L8
 |[]=>.ok ([],[])
 |c::r=>if abw q c then .ok ([],c::r)else if Si c then .error (3,r.length+1)else
   Rs.next (Kz q r) fun v t=>.ok (c::v,t)
def aci(cf:Bool)(v:L8):L8:=if cf then acC v else v
def Ik(cf:Bool)(l:L8):Rs L8:=
 match isB 34 l with
 |some r=>Rs.next (Kz true r) fun v t=>match isB 34 t with
  |some u=>.ok (aci cf v,u)
  |none=>.error (7,t.length)
 |none=>Rs.next (Kz false l) fun v t=>.ok (aci cf v,t)
theorem abx(c d:UInt8)(r:L8):isB c (d::r)=if d=c then some r else none:=rfl
theorem vJ{c:UInt8}{l r:L8}(h:isB c l=some r):l=c::r:=by
 cases l with
 |nil=>cases h
 |cons d l=>
  rw[abx]at h
  by_cases e:d=c
  ·rw[if_pos e]at h;injection h with h;rw[e,h]
  ·rw[if_neg e]at h;cases h
theorem DX{q:Bool}:∀ {l v t:L8},Kz q l=.ok (v,t)→l=v++t∧(∀c∈v,abw q c=false∧Si c=false)∧(∀c r,t=c::r→abw q c=true)
 |[],v,t,h=>by
  unfold Kz at h
  injection h with h;injection h with h1 h2;subst h1;subst h2
  exact⟨rfl,by simp,by simp⟩
 |c::r,v,t,h=>by
  unfold Kz at h
  split at h
  ·rename_i he
   injection h with h;injection h with h1 h2;subst h1;subst h2
   exact⟨rfl,by simp,fun d r' e=>by injection e with e1 e2;subst e1;exact he⟩
  ·split at h
   ·cases h
   ·rename_i he hc
    obtain⟨v',t',h1,h2⟩:=uw.1 h
    injection h2 with h2;injection h2 with h3 h4;subst h3;subst h4
    obtain⟨a,b,d⟩:=DX h1
    refine⟨by rw[a];rfl,fun x hx=>?_,d⟩
    rcases List.mem_cons.1 hx with rfl|hx
    ·exact⟨by simpa using he,by simpa using hc⟩
    ·exact b x hx
theorem D5{cf:Bool}{l v t:L8}(h:Ik cf l=.ok (v,t)):t.length≤l.length:=by
 unfold Ik at h
 split at h
 ·rename_i r hr
  obtain⟨a,t2,h1,h2⟩:=uw.1 h
  have e:=vJ hr
  obtain⟨e2,_⟩:=DX h1
  split at h2
  ·rename_i u hu
   have e3:=vJ hu
   injection h2 with h2;injection h2 with h3 h4;subst h4
   rw[e,e2,e3];simp;omega
  ·cases h2
 ·obtain⟨a,t2,h1,h2⟩:=uw.1 h
  injection h2 with h2;injection h2 with h3 h4;subst h4
  obtain⟨e2,_⟩:=DX h1
  rw[e2];simp
def EM(cf:Bool)(l:L8):Rs (List L8):=
 match h:isB 44 l with
 |none=>.ok ([],l)
 |some r=>match h2:Ik cf r with
  |.error e=>.error e
  |.ok (v,t)=>Rs.next (EM cf t) fun vs u=>.ok (v::vs,u)
termination_by l.length
decreasing_by
 have e:=vJ h
 have:=D5 h2
 rw[e];simp;omega
theorem KA{cf:Bool}{l:L8}(h:isB 44 l=none):EM cf l=.ok ([],l):=by
 rw[EM]
 split
 ·rfl
 ·rename_i r hr;rw[h]at hr;cases hr
theorem V6{cf:Bool}{l r:L8}(h:isB 44 l=some r):EM cf l=Rs.next (Ik cf r) fun v t=>Rs.next (EM cf t) fun vs u=>.ok (v::vs,u):=by
 rw[EM]
 split
 ·rename_i hr;rw[h]at hr;cases hr
 ·rename_i r' hr
  rw[h]at hr
  injection hr with hr
  subst hr
  split
  ·rename_i e he;rw[he];rfl
  ·rename_i v t he;rw[he];rfl
theorem Yc{cf:Bool}:∀(n:Nat) {l t:L8} {vs:List L8},l.length≤n→EM cf l=.ok (vs,t)→t.length≤l.length:=by
 intro n
 induction n with
 |zero=>
  intro l t vs hl h
  have:l=[]:=List.length_eq_zero_iff.1 (by omega)
  subst this
  rw[KA rfl]at h
  injection h with h;injection h with _ h;subst h;exact Nat.le_refl _
 |succ n ih=>
  intro l t vs hl h
  cases hb:isB 44 l with
  |none=>
   rw[KA hb]at h
   injection h with h;injection h with _ h;subst h;exact Nat.le_refl _
  |some r=>
   rw[V6 hb]at h
   obtain⟨v,t1,h1,h2⟩:=uw.1 h
   obtain⟨vs',u,h3,h4⟩:=uw.1 h2
   injection h4 with h4;injection h4 with _ h4;subst h4
   have e:=vJ hb
   have l1:=D5 h1
   have hl':l.length=r.length+1:=by rw[e];rfl
   have:=ih (by omega) h3
   omega
def pmP(cf:Bool)(l:L8):Rs Pm:=
 Rs.next (Yb l) fun n t=>match isB 61 t with
  |none=>.error (7,t.length)
  |some r=>Rs.next (Ik cf r) fun v t2=>Rs.next (EM cf t2) fun vs t3=>.ok ((n,v::vs),t3)
theorem ZN{l n t:L8}(h:Yb l=.ok (n,t)):l=n++t∧fH n=true∧(∀c r,t=c::r→Ij c=false):=by
 unfold Yb at h
 split at h
 ·rename_i hn
  injection h with h;injection h with h1 h2;subst h1;subst h2
  refine⟨List.takeWhile_append_dropWhile.symm,hn,fun c r e=>?_⟩
  have:=List.head?_dropWhile_not Ij l
  rw[e]at this
  simpa using this
 ·cases h
theorem aby{cf:Bool}{l t:L8}{p:Pm}(h:pmP cf l=.ok (p,t)):t.length≤l.length:=by
 obtain⟨n,t1,h1,h2⟩:=uw.1 h
 obtain⟨e1,_,_⟩:=ZN h1
 split at h2
 ·cases h2
 ·rename_i r hr
  have e2:=vJ hr
  obtain⟨v,t2,h3,h4⟩:=uw.1 h2
  obtain⟨vs,t3,h5,h6⟩:=uw.1 h4
  injection h6 with h6;injection h6 with _ h6;subst h6
  have a:=D5 h3
  have b:=Yc _ (Nat.le_refl _) h5
  have l1:l.length=n.length+t1.length:=by rw[e1];simp
  have l2:t1.length=r.length+1:=by rw[e2];rfl
  omega
def MX(cf:Bool)(k:Nat)(l:L8):Rs (List Pm):=
 match h:isB 59 l with
 |none=>.ok ([],l)
 |some r=>match h2:pmP cf r with
  |.error e=>.error e
  |.ok (p,t)=>if k=20 then .error (4,r.length)else Rs.next (MX cf (k+1) t) fun ps u=>.ok (p::ps,u)
termination_by l.length
decreasing_by
 have e:=vJ h
 have:=aby h2
 rw[e];simp;omega
structure Hd where
 group:L8
 name:L8
 params:List Pm
structure Ln where
 hd:Hd
 value:L8
def Il(cf:Bool)(v:L8):L8:=if cf then Tn v else v
def KC(v:L8):Bool:=v.any fun c=>c==44||c==59||c==58
def zu(cf:Bool)(v:L8):L8:=if KC (Il cf v)then 34::(Il cf v++[34])else Il cf v
def pM(cf:Bool):List L8→L8
 |[]=>[]
 |v::vs=>61::zu cf v++vs.flatMap fun u=>44::zu cf u
def pmW(cf:Bool)(p:Pm):L8:=59::p.1++pM cf p.2
def Yd(cf:Bool)(h:Hd):L8:=(if h.group=[] then[] else h.group++[46])++h.name++h.params.flatMap (pmW cf)
def pO(cf:Bool)(p:Ln):L8:=Yd cf p.hd++58::p.value
def rD(cf:Bool)(v:L8):Bool:=dF (Il cf v) false && !((Il cf v).contains 34)
def pmR(cf:Bool)(p:Pm):Bool:=fH p.1 && !p.2.isEmpty&&p.2.all (rD cf)
def Sj(cf:Bool)(p:Ln):Bool:=fH p.hd.name&&(p.hd.group.isEmpty||fH p.hd.group)&&decide (p.hd.params.length≤20)&&p.hd.params.all (pmR cf)&&dF p.value false
end Go.Proofs.YtmffejnigppbpaaGreatDoor

namespace Go.Proofs.YtmffejnigppbpaaGreatDoor
open Go.RowKit
structure Sub(w w':World):Prop where
 size:w.heap.size≤w'.heap.size
 cell:∀p u,w.cell? p=some u→w'.cell? p=some u
theorem mi.sub{w w':World}{e n:Nat}{v:Value}{cs:List Value}(h:mi e w v n cs)(g:Sub w w'):mi e w' v n cs:=by
 obtain⟨h1,h2,h3⟩:=h
 refine⟨h1,h2,?_⟩
 rcases h3 with h3|⟨b,off,cap,e,hb,hn,hc⟩
 ·exact .inl h3
 ·exact .inr ⟨b,off,cap,e,Nat.lt_of_lt_of_le hb g.size,hn,fun j hj=>g.cell _ _ (hc j hj)⟩
theorem di.sub{w w':World}{v:Value}{ls:List (List UInt8)}(h:di w v ls)(g:Sub w w'):di w' v ls:=⟨h.1.sub g,h.2⟩
theorem fA.sub{w w':World}{v:Value}{ls:List (List (List UInt8))}(h:fA w v ls)(g:Sub w w'):fA w' v ls:=by
 obtain⟨cells,h1,h2,h3⟩:=h
 refine⟨cells,h1.sub g,h2,fun i l hl=>?_⟩
 obtain⟨sv,h4,h5⟩:=h3 i l hl
 exact⟨sv,h4,h5.sub g⟩
theorem eu.sub{w w':World}{v:Value}{ps:List Pm}(h:eu w v ps)(g:Sub w w'):eu w' v ps:=by
 obtain⟨a,cap,e,hc,h⟩:=h
 refine⟨a,cap,e,hc,fun h0=>?_⟩
 obtain⟨b,off,e2,hb,h⟩:=h h0
 refine⟨b,off,e2,Nat.lt_of_lt_of_le hb g.size,fun i p hp=>?_⟩
 obtain⟨sv,h1,h2,h3⟩:=h i p hp
 exact⟨sv,g.cell _ _ h1,g.cell _ _ h2,h3.sub g⟩
theorem dG.sub{w w':World}{x:It}{pv lv:Value}(h:dG w x pv lv)(g:Sub w w'):dG w' x pv lv:=⟨h.p.sub g,h.l.sub g,h.f,h.y,h.t⟩
theorem fO.sub{w w':World}(g:Sub w w'):∀ {xs:List It} {cs:List Value},fO w xs cs→fO w' xs cs
 |[],_,h=>h
 |x::xs,_,⟨pv,lv,ds,e,h1,h2⟩=>⟨pv,lv,ds,e,h1.sub g,h2.sub g⟩
theorem BJ.sub{w w':World}{v:Value}{n:Nat}{cs:List Value}(h:BJ w v n cs)(g:Sub w w'):BJ w' v n cs:=by
 obtain⟨h1,h2,a,cap,e,hc,h⟩:=h
 refine⟨h1,h2,a,cap,e,hc,fun h0=>?_⟩
 obtain⟨b,off,e2,hb,h⟩:=h h0
 exact⟨b,off,e2,Nat.lt_of_lt_of_le hb g.size,fun j u hu=>g.cell _ _ (h j u hu)⟩
theorem dX.sub0{w w':World}{v:Value}{xs:List It}(h:dX w v xs)(g:Sub w w'):dX w' v xs:=by
 obtain⟨cs,h1,h2⟩:=h.lies
 exact(h1.sub g).items (h2.sub g)
def Wo(C:Nat)(w:World):World:={ w with heap:=w.heap.setIfInBounds C (.cells #[] 0 (0,0)) }
theorem Wo.size(C:Nat)(w:World):(Wo C w).heap.size=w.heap.size:=by simp[Wo]
theorem Wo.other(C:Nat)(w:World)(b:Nat)(h:b≠C):(Wo C w).heap[b]?=w.heap[b]?:=by
 unfold Wo
 simp only[Array.getElem?_setIfInBounds]
 rw[if_neg (fun e=>h e.symm)]
theorem Wo.cell(C:Nat)(w:World)(p:Addr)(u:Value)(h:(Wo C w).cell? p=some u):w.cell? p=some u:=by
 by_cases hb:p.block=C
 ·unfold World.cell? at h
  by_cases hl:C<w.heap.size
  ·have:(Wo C w).heap[p.block]?=some (.cells #[] 0 (0,0)):=by rw[hb];unfold Wo;simp[hl]
   rw[this]at h
   simp at h
  ·have:(Wo C w).heap[p.block]?=none:=by rw[hb];exact Array.getElem?_eq_none (by rw[Wo.size];omega)
   rw[this]at h
   simp at h
 ·rw[←World.cell?_of_block (w:=w) (w':=Wo C w) (Wo.other C w _ hb)]
  exact h
theorem Wo.sub(C:Nat)(w:World):Sub (Wo C w) w:=⟨by rw[Wo.size];exact Nat.le_refl _,Wo.cell C w⟩
theorem Wo.set(C:Nat)(w:World)(i:Nat)(v:Value):Wo C (w.setCell ⟨C,i,none⟩ v)=Wo C w:=by
 unfold Wo World.setCell
 congr 1
 apply Array.ext_getElem?
 intro j
 simp only[Array.getElem?_setIfInBounds,Array.getElem?_modify,Array.size_modify]
 split
 ·rfl
 ·rfl
theorem Wo.g{C:Nat}{w w':World}(h:G w w'):G (Wo C w) (Wo C w'):=by
 have hb:=h.below
 refine⟨hb.os,hb.tape,hb.output,by rw[Wo.size,Wo.size];exact h.size,fun b hl=>?_⟩
 rw[Wo.size]at hl
 by_cases hC:b=C
 ·subst hC
  have hl':=Nat.lt_of_lt_of_le hl h.size
  unfold Wo
  simp[hl,hl']
 ·rw[Wo.other C _ _ hC,Wo.other C _ _ hC]
  exact hb.block b hl
theorem Wo.of{C:Nat}{w w':World}(h:G w w')(hC:w.heap.size≤C):G w (Wo C w'):=by
 have hb:=h.below
 refine⟨hb.os,hb.tape,hb.output,by rw[Wo.size];exact h.size,fun b hl=>?_⟩
 rw[Wo.other C _ _ (by omega)]
 exact hb.block b hl
theorem kS.wo{C n:Nat}{w:World}{v:Value}{k:Nat}{cs:List Value}(h:kS n w v k cs)(hC:C<n):kS n (Wo C w) v k cs:=h.same fun b hb _=>Wo.other C w b (by omega)
end Go.Proofs.YtmffejnigppbpaaGreatDoor

namespace Go.Proofs.YtmffejnigppbpaaGreatDoor
open Go.RowKit
def RD(w:World)(o:Nat)(xs:List (List UInt8)):Prop:=o<w.heap.size∧∀(j:Nat) (h:j<xs.length),w.cell? ⟨o,j,none⟩=some (.string (S xs[j]))
theorem RD.grow{w w':World}{o:Nat}{xs:List (List UInt8)}(h:RD w o xs)(g:G w w'):RD w' o xs:=⟨Nat.lt_of_lt_of_le h.1 g.size,fun j hj=>by rw[g.cell h.1];exact h.2 j hj⟩
structure MS(w0 w:World)(R:Nat)(f:UInt8→Int)(ts:Int):Prop where
 g:G w0 w
 rl:w0.heap.size≤R
 root:FQ w R 0 [] 0 [] (.pointer none) (.slice none 0 0)
 c5:w.cell? ⟨R,5,none⟩=some (.int .i64 ts)
 map:∀c:UInt8,w.cell? ⟨R,6+c.toNat,none⟩=some (.int .u8 (f c))
theorem MS.put{w0 w:World}{R:Nat}{f:UInt8→Int}{ts:Int}(h:MS w0 w R f ts)(c:UInt8)(v:Int):MS w0 (w.setCell ⟨R,6+c.toNat,none⟩ (.int .u8 v)) R (fun c'=>if c'=c then v else f c') ts:=by
 have r:=h.root
 have o:∀j,j<6→(w.setCell ⟨R,6+c.toNat,none⟩ (.int .u8 v)).cell? ⟨R,j,none⟩=w.cell? ⟨R,j,none⟩:=fun j hj=>World.cell?_setCell_other _ _ _ _ (by first|(simp;done)|(simp;omega))
 refine⟨h.g.below.setCell (p:=⟨R,6+c.toNat,none⟩) h.rl _,h.rl,⟨(o _ (by omega)).trans r.c0,(o _ (by omega)).trans r.c1,(o _ (by omega)).trans r.c2,(o _ (by omega)).trans r.c3,(o _ (by omega)).trans r.c4,fun j=>by rw[World.frozen?_setCell];exact r.fz j⟩,(o _ (by omega)).trans h.c5,fun d=>?_⟩
 by_cases e:d=c
 ·subst e
  rw[if_pos rfl]
  exact World.cell?_setCell_same _ _ _ (h.map d)
 ·rw[if_neg e,World.cell?_setCell_other _ _ _ _ (by simp;intro e2;exact e (UInt8.toNat_inj.1 e2.symm))]
  exact h.map d
theorem MS.sum{w0 w:World}{R:Nat}{f:UInt8→Int}{ts:Int}(h:MS w0 w R f ts)(t:Int):MS w0 (w.setCell ⟨R,5,none⟩ (.int .i64 t)) R f t:=by
 have r:=h.root
 have o:∀j,j≠5→(w.setCell ⟨R,5,none⟩ (.int .i64 t)).cell? ⟨R,j,none⟩=w.cell? ⟨R,j,none⟩:=fun j hj=>World.cell?_setCell_other _ _ _ _ (by first|(simp;done)|(simp;omega))
 exact⟨h.g.below.setCell (p:=⟨R,5,none⟩) h.rl _,h.rl,⟨(o _ (by omega)).trans r.c0,(o _ (by omega)).trans r.c1,(o _ (by omega)).trans r.c2,(o _ (by omega)).trans r.c3,(o _ (by omega)).trans r.c4,fun j=>by rw[World.frozen?_setCell];exact r.fz j⟩,World.cell?_setCell_same _ _ _ h.c5,fun d=>(o _ (by omega)).trans (h.map d)⟩
theorem MS.drew{w0 w:World}{R:Nat}{f:UInt8→Int}{ts:Int}(h:MS w0 w R f ts):MS w0 w.drew R f ts:=
 ⟨h.g.drew,h.rl,⟨h.root.c0,h.root.c1,h.root.c2,h.root.c3,h.root.c4,h.root.fz⟩,h.c5,h.map⟩
def OX(f:UInt8→Int):List Value:=(List.range 256).map fun i=>.int .u8 (f (UInt8.ofNat i))
theorem V3(f:UInt8→Int):(OX f).length=256:=by simp[OX]
theorem X6(f:UInt8→Int)(i:Nat)(h:i<256):(OX f)[i]?=some (.int .u8 (f (UInt8.ofNat i))):=by simp[OX,h]
theorem MS.row{w0 w:World}{R:Nat}{f:UInt8→Int}{ts:Int}(h:MS w0 w R f ts):w.rangeAt R 6 (OX f):=fun j v hv=>by
 have hj:j<256:=by
  have:=(List.getElem?_eq_some_iff.1 hv).1
  rw[V3]at this;exact this
 rw[X6 f j hj]at hv
 injection hv with hv
 have:=h.map (UInt8.ofNat j)
 rw[show(UInt8.ofNat j).toNat=j from by simp<;>omega]at this
 rw[this,hv]
end Go.Proofs.YtmffejnigppbpaaGreatDoor

namespace Go.Proofs.YtmffejnigppbpaaGreatDoor
open Go.RowKit
theorem Qe.away{bs:List Nat}{w w':World}{R A B C D T U:Nat}(h:Qe w R A B C D T U)(a:pY bs w w')(hn:∀b∈[R,A,B,C,D,T,U],b∉bs):Qe w' R A B C D T U:=by
 have hR:R∉bs:=hn R (by simp)
 have hA:A∉bs:=hn A (by simp)
 have hB:B∉bs:=hn B (by simp)
 have hC:C∉bs:=hn C (by simp)
 have hD:D∉bs:=hn D (by simp)
 have hT:T∉bs:=hn T (by simp)
 have hU:U∉bs:=hn U (by simp)
 exact⟨⟨a.held h.root.v1 hR,a.held h.root.v4 hR⟩,a.held h.size hR,fun c=>a.held (h.map c) hR,a.held h.t0 hT,a.held h.t1 hT,a.held h.t2 hT,⟨a.held h.inner.v1 hA,a.held h.inner.v4 hA⟩,a.held h.u0 hU,a.held h.u1 hU,a.held h.u2 hU,
  ⟨a.held h.lb.v0 hB,a.held h.lb.v1 hB,a.held h.lb.v2 hB,a.held h.lb.v4 hB⟩,⟨a.held h.lc.v0 hC,a.held h.lc.v1 hC,a.held h.lc.v2 hC,a.held h.lc.v4 hC⟩,⟨a.held h.ld.v0 hD,a.held h.ld.v1 hD,a.held h.ld.v2 hD,a.held h.ld.v4 hD⟩⟩
structure DL(w0 w:World)(X R A B C D T U:Nat)(d m:Int):Prop where
 g:G w0 w
 tr:Qe w R A B C D T U
 hi:∀x∈[R,A,B,C,D,T,U],x≠X
 c0:w.cell? ⟨X,0,none⟩=some (.int .u32 d)
 c1:w.cell? ⟨X,1,none⟩=some (.int .i32 m)
 c3:w.cell? ⟨X,3,none⟩=some (.iface 314 (.pointer (some ⟨R,0,none⟩)))
 fz:∀k,w.frozen? ⟨X,k,none⟩=false
theorem DL.set{w0 w:World}{X R A B C D T U k:Nat}{d m d' m':Int}{v:Value}(h:DL w0 w X R A B C D T U d m)(hbl:w0.heap.size≤X)(hk:(k=0∧v=.int .u32 d'∧m'=m)∨(k=1∧v=.int .i32 m'∧d'=d)) :
  DL w0 (w.setCell ⟨X,k,none⟩ v) X R A B C D T U d' m':=by
 refine⟨h.g.below.setCell (p:=⟨X,k,none⟩) hbl _,h.tr.away ((pY.refl [X] w).set X k v (.inl (by simp))) (fun x hx=>by simpa using h.hi x hx),h.hi,?_,?_,?_,fun j=>by rw[World.frozen?_setCell];exact h.fz j⟩
 all_goals rcases hk with⟨rfl,rfl,rfl⟩|⟨rfl,rfl,rfl⟩
 ·exact World.cell?_setCell_same _ _ _ h.c0
 ·rw[World.cell?_setCell_other _ _ _ _ (by simp)];exact h.c0
 ·rw[World.cell?_setCell_other _ _ _ _ (by simp)];exact h.c1
 ·exact World.cell?_setCell_same _ _ _ h.c1
 ·rw[World.cell?_setCell_other _ _ _ _ (by simp)];exact h.c3
 ·rw[World.cell?_setCell_other _ _ _ _ (by simp)];exact h.c3
theorem DL.drew{w0 w:World}{X R A B C D T U:Nat}{d m:Int}(h:DL w0 w X R A B C D T U d m):DL w0 w.drew X R A B C D T U d m:=
 ⟨h.g.drew,h.tr.away (pY.refl [] w).drew (by simp),h.hi,h.c0,h.c1,h.c3,h.fz⟩
end Go.Proofs.YtmffejnigppbpaaGreatDoor
