/-
  Texts merged into one: ItemsRow, CaretPlain, Sub, Wl, NamesPlain.
-/
import Derived.Test.YtmffejnigppbpaaGreatDoorDXMA75
import Derived.Deep.OwnRows
import Derived.Deep.Slices
import Derived.OwnWalk
import Derived.Lib.SliceRun
import Derived.Laws.Cover3
import Derived.Laws.AppendOwn
import Derived.Test.YtmffejnigppbpaaGreatDoorDXMA69
import Derived.Test.YtmffejnigppbpaaGreatDoorDXMA65
import Derived.Test.YtmffejnigppbpaaGreatDoorDXMA70
import Derived.RangeFuncBox
set_option linter.unusedVariables false
set_option linter.unusedSimpArgs false
set_option maxHeartbeats 1000000
set_option maxRecDepth 100000
namespace Go.Proofs.YtmffejnigppbpaaGreatDoor
open Go.RowKit
theorem ajI(b o j:Nat):(⟨b,o,none⟩:Addr).add j=⟨b,o+j,none⟩:=by unfold Addr.add;split<;>simp_all
theorem adE.one{w:World}{x:It}{pv lv:Value}(h:adE w x pv lv):∀u∈x.cells pv lv,u.oneCell'=true:=by
 obtain⟨a,c,rfl⟩:=h.pv
 obtain⟨a',c',rfl⟩:=h.lv
 intro u hu
 simp only[It.cells,List.mem_cons,List.mem_nil_iff,or_false]at hu
 rcases hu with rfl|rfl|rfl|rfl|rfl|rfl|rfl|rfl|rfl|rfl|rfl|rfl|rfl|rfl|rfl<;>rfl
def acK(w:World):List It→List Value→Prop
 |[],cs=>cs=[]
 |x::xs,cs=>∃pv lv ds,cs=x.cells pv lv++ds∧adE w x pv lv∧acK w xs ds
theorem acK.grow{w w':World}(g:G w w'):∀ {xs:List It} {cs:List Value},acK w xs cs→acK w' xs cs
 |[],_,h=>h
 |x::xs,_,⟨pv,lv,ds,e,h1,h2⟩=>⟨pv,lv,ds,e,h1.grow g,h2.grow g⟩
theorem acK.len{w:World}:∀ {xs:List It} {cs:List Value},acK w xs cs→cs.length=xs.length*15
 |[],_,h=>by rw[show _=([]:List Value)from h];rfl
 |x::xs,_,⟨pv,lv,ds,e,h1,h2⟩=>by rw[e,List.length_append,h2.len];simp[It.cells];omega
theorem acK.one{w:World}:∀ {xs:List It} {cs:List Value},acK w xs cs→∀u∈cs,u.oneCell'=true
 |[],_,h,u,hu=>by rw[show _=([]:List Value)from h]at hu;cases hu
 |x::xs,_,⟨pv,lv,ds,e,h1,h2⟩,u,hu=>by
  rw[e]at hu
  rcases List.mem_append.1 hu with hu|hu
  ·exact h1.one u hu
  ·exact h2.one u hu
theorem acK.append{w:World}:∀ {xs ys:List It} {cs ds:List Value},acK w xs cs→acK w ys ds→acK w (xs++ys) (cs++ds)
 |[],_,_,_,h,g=>by rw[show _=([]:List Value)from h];exact g
 |x::xs,_,_,_,⟨pv,lv,es,e,h1,h2⟩,g=>⟨pv,lv,_,by rw[e,List.append_assoc],h1,h2.append g⟩
theorem acK.single{w:World}{x:It}{pv lv:Value}(h:adE w x pv lv):acK w [x] (x.cells pv lv):=⟨pv,lv,[],by simp,h,rfl⟩
theorem acK.at_{w:World}:∀ {xs:List It} {cs:List Value},acK w xs cs→∀(i:Nat) (x:It),xs[i]?=some x→∃pv lv,adE w x pv lv∧∀(j:Nat) (u:Value),(x.cells pv lv)[j]?=some u→cs[i*15+j]?=some u
 |[],_,_,i,x,hx=>by simp at hx
 |y::xs,_,⟨pv,lv,ds,e,h1,h2⟩,0,x,hx=>by
  simp at hx;subst hx
  refine⟨pv,lv,h1,fun j u hu=>?_⟩
  rw[e,Nat.zero_mul,Nat.zero_add,List.getElem?_append_left (List.getElem?_eq_some_iff.1 hu).1]
  exact hu
 |y::xs,_,⟨pv,lv,ds,e,h1,h2⟩,i+1,x,hx=>by
  obtain⟨pv',lv',h3,h4⟩:=h2.at_ i x (by simpa using hx)
  refine⟨pv',lv',h3,fun j u hu=>?_⟩
  have hl:(y.cells pv lv).length=15:=rfl
  rw[e,List.getElem?_append_right (by rw[hl];omega),hl]
  have:(i+1)*15+j-15=i*15+j:=by omega
  rw[this];exact h4 j u hu
theorem agf{w:World}{b off cap:Nat}{xs:List It}{cs:List Value}(h:acK w xs cs)(hb:b<w.heap.size)(hc:∀(j:Nat) (u:Value),cs[j]?=some u→w.cell? ⟨b,off+j,none⟩=some u)(hn:xs.length≤cap):UA w (.slice (some ⟨b,off,none⟩) xs.length cap) xs:=
 ⟨_,_,rfl,hn,fun _=>⟨b,off,rfl,hb,fun i x hx=>by
  obtain⟨pv,lv,h1,h2⟩:=h.at_ i x hx
  exact⟨pv,lv,fun j u hu=>by rw[Nat.add_assoc];exact hc _ u (h2 j u hu),h1⟩⟩⟩
theorem aku(w:World)(a:Option Addr)(c:Nat):UA w (.slice a 0 c) []:=⟨a,c,rfl,Nat.zero_le _,fun h=>absurd rfl h⟩
theorem afV{W:World}{base base':Nat}{e:TypeId}{size:Nat}{v:Value}{n:Nat}{xs:List Value}(h:W.ownsRow base e size v n xs)(g:base'≤base):W.ownsRow base' e size v n xs:=by
 refine⟨h.1,h.2.imp id ?_⟩
 rintro⟨b,cap,cur,e1,e2,r⟩
 exact⟨b,cap,cur,e1,Nat.le_trans g e2,r⟩
def aiv(w:World)(v:Value)(n:Nat)(cs:List Value):Prop:=
 cs.length=n*15∧(∀u∈cs,u.oneCell'=true)∧∃a cap,v=.slice a n cap∧n≤cap∧(n≠0→∃b off,a=some ⟨b,off,none⟩∧b<w.heap.size∧∀(j:Nat) (u:Value),cs[j]?=some u→w.cell? ⟨b,off+j,none⟩=some u)
theorem aiv.grow{w w':World}{v:Value}{n:Nat}{cs:List Value}(h:aiv w v n cs)(g:G w w'):aiv w' v n cs:=by
 obtain⟨h1,h2,a,cap,e,hc,h⟩:=h
 refine⟨h1,h2,a,cap,e,hc,fun h0=>?_⟩
 obtain⟨b,off,e2,hb,h⟩:=h h0
 exact⟨b,off,e2,Nat.lt_of_lt_of_le hb g.size,fun j u hu=>by rw[g.cell hb];exact h j u hu⟩
theorem aiv.form{w:World}{v:Value}{n:Nat}{cs:List Value}(h:aiv w v n cs):∃a c,v=.slice a n c:=by
 obtain⟨_,_,a,c,e,_⟩:=h
 exact⟨a,c,e⟩
theorem aiv.items{w:World}{v:Value}{xs:List It}{cs:List Value}(h:aiv w v xs.length cs)(hr:acK w xs cs):UA w v xs:=by
 obtain⟨_,_,a,cap,rfl,hc,h⟩:=h
 by_cases h0:xs=[]
 ·subst h0;exact aku _ _ _
 ·obtain⟨b,off,rfl,hb,h⟩:=h (by cases xs<;>simp_all)
  exact agf hr hb h hc
abbrev aeP(n:Nat)(w:World)(v:Value)(k:Nat)(cs:List Value):Prop:=w.ownsRow n 38 15 v k cs
theorem aeP.lies{n:Nat}{w:World}{v:Value}{k:Nat}{cs:List Value}(h:aeP n w v k cs)(h1:∀u∈cs,u.oneCell'=true):aiv w v k cs:=by
 have hh:=h
 refine⟨h.1,h1,?_⟩
 rcases h.2 with⟨rfl,rfl⟩|⟨g',cap,cur,rfl,hb,hg,hn,hm,hs,ht⟩
 ·exact⟨_,_,rfl,Nat.le_refl _,fun h=>absurd rfl h⟩
 ·exact⟨_,_,rfl,hn,fun _=>⟨g',0,rfl,(Array.getElem?_eq_some_iff.1 hg).1,fun j u hu=>by rw[←ajI];exact World.ownsRow.cells hh (g:=g') rfl j u hu⟩⟩
theorem aeP.same{n:Nat}{w w':World}{v:Value}{k:Nat}{cs:List Value}(h:aeP n w v k cs)(g:∀b,n≤b→b<w.heap.size→w'.heap[b]?=w.heap[b]?):aeP n w' v k cs:=by
 refine⟨h.1,?_⟩
 rcases h.2 with h0|⟨g',cap,cur,rfl,hb,hg,r⟩
 ·exact .inl h0
 ·exact .inr ⟨g',cap,cur,rfl,hb,(g g' hb (Array.getElem?_eq_some_iff.1 hg).1).trans hg,r⟩
theorem aeP.grow{n:Nat}{w w':World}{v:Value}{k:Nat}{cs:List Value}(h:aeP n w v k cs)(g:G w w'):aeP n w' v k cs:=h.same fun b _ hb=>g.below.block b hb
theorem aeP.snoc{n:Nat}{w2 W w1:World}{v v':Value}{k:Nat}{cs ds:List Value}(r:aeP n W v k cs)(g:Below n w2 W)(hn:n≤W.heap.size)(hgrow:W.grownBy w1 v.ownBlock)(h:aeP n w1 v' (k+1) ds) :
  (∃b cap,v'=.slice (some ⟨b,0,none⟩) (k+1) cap)∧Below n w2 w1:=by
 refine⟨?_,Below.grown g hgrow hn fun j hj=>(r.lt j hj).1⟩
 rcases h.2 with⟨_,h0⟩|⟨b,cap,cur,e,_⟩
 ·omega
 ·exact⟨b,cap,e⟩
theorem UA.cells{w:World}{v:Value}{xs:List It}(h:UA w v xs)(h0:xs≠[]):∃(b off cap:Nat) (cs:List Value),v=.slice (some ⟨b,off,none⟩) xs.length cap∧b<w.heap.size∧acK w xs cs∧∀(j:Nat) (u:Value),cs[j]?=some u→w.cell? ⟨b,off+j,none⟩=some u:=by
 obtain⟨a,cap,rfl,hc,h⟩:=h
 obtain⟨b,off,rfl,hb,h⟩:=h h0
 refine⟨b,off,cap,?_⟩
 have key:∀(ys:List It) (o:Nat),(∀(i:Nat) (x:It),ys[i]?=some x→∃pv lv,alo w b (o+i*15) x pv lv)→∃cs,acK w ys cs∧∀(j:Nat) (u:Value),cs[j]?=some u→w.cell? ⟨b,o+j,none⟩=some u:=by
  intro ys
  induction ys with
  |nil=>intro o _;exact⟨[],rfl,by simp⟩
  |cons y ys ih=>
   intro o hy
   obtain⟨pv,lv,h1⟩:=hy 0 y rfl
   obtain⟨ds,h2,h3⟩:=ih (o+15) (fun i x hx=>by
    obtain⟨p,l,h4⟩:=hy (i+1) x (by simpa using hx)
    exact⟨p,l,by have e:o+(i+1)*15=o+15+i*15:=(by omega);rw[e]at h4;exact h4⟩)
   refine⟨y.cells pv lv++ds,⟨pv,lv,ds,rfl,h1.ok,h2⟩,fun j u hu=>?_⟩
   have hl:(y.cells pv lv).length=15:=rfl
   rcases Nat.lt_or_ge j 15 with hj|hj
   ·rw[List.getElem?_append_left (by omega)]at hu
    have:=h1.c j u hu
    rw[Nat.zero_mul,Nat.add_zero]at this
    exact this
   ·rw[List.getElem?_append_right (by omega),hl]at hu
    have:=h3 _ u hu
    have e:o+15+(j-15)=o+j:=by omega
    rw[e]at this;exact this
 obtain⟨cs,h1,h2⟩:=key xs off h
 exact⟨cs,rfl,hb,h1,h2⟩
theorem UA.lies{w:World}{v:Value}{xs:List It}(h:UA w v xs):∃cs,aiv w v xs.length cs∧acK w xs cs:=by
 by_cases h0:xs=[]
 ·subst h0
  obtain⟨a,c,e,hc,_⟩:=h
  exact⟨[],⟨rfl,by simp,a,c,e,hc,fun h=>absurd rfl h⟩,rfl⟩
 ·obtain⟨b,off,cap,cs,rfl,hb,hr,hc⟩:=h.cells h0
  obtain⟨a,c,e,hcap,_⟩:=h
  cases e
  exact⟨cs,⟨hr.len,hr.one,_,_,rfl,hcap,fun _=>⟨b,off,rfl,hb,hc⟩⟩,hr⟩
theorem amk:(Tryz.prog.info? 38).map (fun i=>(i.zero,i.size,i.bytes))=some (some (.agg #[.string ⟨#[]⟩,.string ⟨#[]⟩,.slice none 0 0,.int .i64 0,.string ⟨#[]⟩,.slice none 0 0,.int .i64 0,.int .i64 0,.int .i64 0,.int .i64 0,.int .i64 0,.int .i64 0,.bool false,.int .i64 0,.int .i64 0]),15,176):=by kernel_rfl
theorem akS(v:Value)(k:Nat)(cs:List Value)(w0:World)(hP:aiv w0 v k cs)(hf:v=.slice none 0 0∨∃a n c,v=.slice (some a) n c)(hl:k≤100000)(w:World)(gw:G w0 w)(b0:Nat)(hb0:b0≤w.heap.size) :
  Calls Tryz.prog 35 #[v] w fun e w'=>∃u,e=.returned u∧aeP b0 w' u k cs∧G w w':=by
 obtain⟨i0,hi,hz0,hz1,hz2⟩:=info_parts amk
 have heq:=fun W a n c=>Lib.run_eql_slice_nil (P:=Tryz.prog) W 22 38 a n c 0 0 Tryz.underlying22
 obtain⟨hnl,hone,a',cap,rfl,hcap,hP⟩:=hP
 by_cases h0:k=0
 ·subst h0
  obtain rfl:cs=[]:=List.eq_nil_of_length_eq_zero (by simpa using hnl)
  have GW:=hid gw
  clear gw
  rcases hf with hf|⟨a,n,c,hf⟩
  ·cases hf
   go_enter Tryz.func35,Tryz.ntmps35
   go_wp2_with fail
   go_ret
   exact⟨_,rfl,World.ownsRow_nil _ _ _ _,(by repeat (first|exact G.refl _|assumption|apply G.drew|apply G.drewN|apply G.alloc|refine G.trans ?_ (by assumption)))⟩
  ·cases hf
   go_enter Tryz.func35,Tryz.ntmps35
   go_wp2_with fail
   go_ret
   exact⟨_,rfl,World.ownsRow_made w #[] 0 hb0 (by unfold maxLen;omega) rfl,(by repeat (first|exact G.refl _|assumption|apply G.drew|apply G.drewN|apply G.alloc|refine G.trans ?_ (by assumption)))⟩
 ·obtain⟨b,off,rfl,hb,hc⟩:=hP h0
  have HCC:=hid (fun (j:Nat) (u:Value) (hu:cs[j]?=some u)=>show(w.alloc (.cells #[] 38)).cell? ((⟨b,off,none⟩:Addr).add j)=some u by rw[ajI,(gw.alloc _).cell (p:=⟨b,off+j,none⟩) hb];exact hc j u hu)
  have HN:=hid hnl
  have HONE:=hid hone
  have hown0:(w.alloc (.cells #[] 38)).ownsRow w.heap.size 38 15 (.slice (some ⟨w.heap.size,0,none⟩) 0 0) 0 []:=World.ownsRow_made w #[] 0 (Nat.le_refl _) (by unfold maxLen;omega) rfl
  have HOWN:=hid hown0
  have GW:=hid gw
  clear hc hnl hone hown0 hP hf hb gw
  go_enter Tryz.func35,Tryz.ntmps35
  go_wp2_with (at_builtin;refine wpList_append_own _ rfl _ _ 22 rfl w.heap.size 38 i0 _ 15 176 Tryz.underlying22 hi hz0 hz1 hz2 rfl (by decide) _ _ _ rfl HOWN.out ⟨b,off,none⟩ k cap cs rfl HN.out HCC.out HONE.out (by unfold maxLen;omega) (by omega) (by simp) ?_;intro v' w1 hown' hgrow _)
  go_ret
  have hgrow':(w.alloc (.cells #[] 38)).grownBy w1 (some w.heap.size):=hgrow
  have hG:G w w1:=Below.grown ((Below.refl w.heap.size w).alloc (Nat.le_refl _) (.cells #[] 38)) hgrow' (by simp) (fun j hj=>by cases hj;exact Nat.le_refl _)
  exact⟨_,rfl,afV (by simpa using hown') hb0,hG⟩
end Go.Proofs.YtmffejnigppbpaaGreatDoor

namespace Go.Proofs.YtmffejnigppbpaaGreatDoor
def mtL:List UInt8→Option UInt8
 |c::d::_=>if c=94 then(if d=94 then some 94 else if d=110 then some 10 else if d=39 then some 34 else none)else none
 |_=>none
theorem ayd{c:UInt8}{r:List UInt8}(h:c≠94):mtL (c::r)=none:=by
 cases r with
 |nil=>rfl
 |cons d r=>simp only[mtL];rw[if_neg h]
theorem awy{l:List UInt8}{v:UInt8}(h:mtL l=some v):2≤l.length:=by
 match l,h with
 |c::d::r,_=>simp
def alk:Nat→List UInt8→List UInt8
 |0,_=>[]
 |f+1,l=>match l with
  |[]=>[]
  |c::r=>match mtL (c::r)with
   |some v=>v::alk f (r.drop 1)
   |none=>c::alk f r
def alm(l:List UInt8):List UInt8:=alk l.length l
theorem akk:∀(f g:Nat) (l:List UInt8),l.length≤f→l.length≤g→alk f l=alk g l
 |0,0,l,_,_=>rfl
 |0,g+1,l,h,_=>by have:l=[]:=List.length_eq_zero_iff.1 (by omega);subst this;rfl
 |f+1,0,l,_,h=>by have:l=[]:=List.length_eq_zero_iff.1 (by omega);subst this;rfl
 |f+1,g+1,[],_,_=>rfl
 |f+1,g+1,c::r,h,h'=>by
  simp only[List.length_cons]at h h'
  simp only[alk]
  cases mtL (c::r)with
  |none=>simp only;rw[akk f g r (by omega) (by omega)]
  |some v=>simp only;rw[akk f g (r.drop 1) (by simp;omega) (by simp;omega)]
theorem anL{c:UInt8}{r:List UInt8}(h:mtL (c::r)=none):alm (c::r)=c::alm r:=by
 unfold alm
 simp only[List.length_cons,alk,h]
theorem ah5{c d:UInt8}{r:List UInt8}{v:UInt8}(h:mtL (c::d::r)=some v):alm (c::d::r)=v::alm r:=by
 have e:alk (r.length+1+1) (c::d::r)=v::alk (r.length+1) r:=by
  rw[alk]
  simp only[h]
  rfl
 show alk (r.length+1+1) (c::d::r)=v::alk r.length r
 rw[e,akk (r.length+1) r.length r (by omega) (Nat.le_refl _)]
theorem atd(c:UInt8)(r:List UInt8):alm (adC afj c++r)=c::alm r:=by
 unfold adC afj
 by_cases h1:c=94
 ·subst h1;exact ah5 rfl
 ·by_cases h2:c=10
  ·subst h2;exact ah5 rfl
  ·by_cases h3:c=34
   ·subst h3;exact ah5 rfl
   ·rw[if_neg h1,if_neg h2,if_neg h3]
    exact anL (ayd h1)
theorem auP(s:List UInt8):alm (aoP s)=s:=by
 unfold aoP UK
 induction s with
 |nil=>rfl
 |cons c s ih=>rw[List.flatMap_cons,atd,ih]
end Go.Proofs.YtmffejnigppbpaaGreatDoor

namespace Go.Proofs.YtmffejnigppbpaaGreatDoor
open Go.RowKit
structure Sub(w w':World):Prop where
 size:w.heap.size≤w'.heap.size
 cell:∀p u,w.cell? p=some u→w'.cell? p=some u
theorem afJ.sub{w w':World}{e n:Nat}{v:Value}{cs:List Value}(h:afJ e w v n cs)(g:Sub w w'):afJ e w' v n cs:=by
 obtain⟨h1,h2,h3⟩:=h
 refine⟨h1,h2,?_⟩
 rcases h3 with h3|⟨b,off,cap,e,hb,hn,hc⟩
 ·exact .inl h3
 ·exact .inr ⟨b,off,cap,e,Nat.lt_of_lt_of_le hb g.size,hn,fun j hj=>g.cell _ _ (hc j hj)⟩
theorem Ux.sub{w w':World}{v:Value}{ls:List (List UInt8)}(h:Ux w v ls)(g:Sub w w'):Ux w' v ls:=⟨h.1.sub g,h.2⟩
theorem Uw.sub{w w':World}{v:Value}{ls:List (List (List UInt8))}(h:Uw w v ls)(g:Sub w w'):Uw w' v ls:=by
 obtain⟨cells,h1,h2,h3⟩:=h
 refine⟨cells,h1.sub g,h2,fun i l hl=>?_⟩
 obtain⟨sv,h4,h5⟩:=h3 i l hl
 exact⟨sv,h4,h5.sub g⟩
theorem UN.sub{w w':World}{v:Value}{ps:List Pm}(h:UN w v ps)(g:Sub w w'):UN w' v ps:=by
 obtain⟨a,cap,e,hc,h⟩:=h
 refine⟨a,cap,e,hc,fun h0=>?_⟩
 obtain⟨b,off,e2,hb,h⟩:=h h0
 refine⟨b,off,e2,Nat.lt_of_lt_of_le hb g.size,fun i p hp=>?_⟩
 obtain⟨sv,h1,h2,h3⟩:=h i p hp
 exact⟨sv,g.cell _ _ h1,g.cell _ _ h2,h3.sub g⟩
theorem adE.sub{w w':World}{x:It}{pv lv:Value}(h:adE w x pv lv)(g:Sub w w'):adE w' x pv lv:=⟨h.p.sub g,h.l.sub g,h.f,h.y,h.t⟩
theorem acK.sub{w w':World}(g:Sub w w'):∀ {xs:List It} {cs:List Value},acK w xs cs→acK w' xs cs
 |[],_,h=>h
 |x::xs,_,⟨pv,lv,ds,e,h1,h2⟩=>⟨pv,lv,ds,e,h1.sub g,h2.sub g⟩
theorem aiv.sub{w w':World}{v:Value}{n:Nat}{cs:List Value}(h:aiv w v n cs)(g:Sub w w'):aiv w' v n cs:=by
 obtain⟨h1,h2,a,cap,e,hc,h⟩:=h
 refine⟨h1,h2,a,cap,e,hc,fun h0=>?_⟩
 obtain⟨b,off,e2,hb,h⟩:=h h0
 exact⟨b,off,e2,Nat.lt_of_lt_of_le hb g.size,fun j u hu=>g.cell _ _ (h j u hu)⟩
def Wo(C:Nat)(w:World):World:={ w with heap:=w.heap.setIfInBounds C (.cells #[] 0 (0,0)) }
theorem Wo.size(C:Nat)(w:World):(Wo C w).heap.size=w.heap.size:=by simp[Wo]
theorem Wo.other(C:Nat)(w:World)(b:Nat)(h:b≠C):(Wo C w).heap[b]?=w.heap[b]?:=by
 unfold Wo
 simp only[Array.getElem?_setIfInBounds]
 rw[if_neg (fun e=>h e.symm)]
theorem Wo.cell(C:Nat)(w:World)(p:Addr)(u:Value)(h:(Wo C w).cell? p=some u):w.cell? p=some u:=by
 by_cases hb:p.block=C
 ·unfold World.cell? at h
  by_cases hl:C<w.heap.size
  ·have:(Wo C w).heap[p.block]?=some (.cells #[] 0 (0,0)):=by rw[hb];unfold Wo;simp[hl]
   rw[this]at h
   simp at h
  ·have:(Wo C w).heap[p.block]?=none:=by rw[hb];exact Array.getElem?_eq_none (by rw[Wo.size];omega)
   rw[this]at h
   simp at h
 ·rw[←World.cell?_of_block (w:=w) (w':=Wo C w) (Wo.other C w _ hb)]
  exact h
theorem Wo.sub(C:Nat)(w:World):Sub (Wo C w) w:=⟨by rw[Wo.size];exact Nat.le_refl _,Wo.cell C w⟩
theorem Wo.set(C:Nat)(w:World)(i:Nat)(v:Value):Wo C (w.setCell ⟨C,i,none⟩ v)=Wo C w:=by
 unfold Wo World.setCell
 congr 1
 apply Array.ext_getElem?
 intro j
 simp only[Array.getElem?_setIfInBounds,Array.getElem?_modify,Array.size_modify]
 split
 ·rfl
 ·rfl
theorem Wo.g{C:Nat}{w w':World}(h:G w w'):G (Wo C w) (Wo C w'):=by
 have hb:=h.below
 refine⟨hb.os,hb.tape,hb.output,by rw[Wo.size,Wo.size];exact h.size,fun b hl=>?_⟩
 rw[Wo.size]at hl
 by_cases hC:b=C
 ·subst hC
  have hl':=Nat.lt_of_lt_of_le hl h.size
  unfold Wo
  simp[hl,hl']
 ·rw[Wo.other C _ _ hC,Wo.other C _ _ hC]
  exact hb.block b hl
theorem Wo.of{C:Nat}{w w':World}(h:G w w')(hC:w.heap.size≤C):G w (Wo C w'):=by
 have hb:=h.below
 refine⟨hb.os,hb.tape,hb.output,by rw[Wo.size];exact h.size,fun b hl=>?_⟩
 rw[Wo.other C _ _ (by omega)]
 exact hb.block b hl
theorem aeP.wo{C n:Nat}{w:World}{v:Value}{k:Nat}{cs:List Value}(h:aeP n w v k cs)(hC:C<n):aeP n (Wo C w) v k cs:=h.same fun b hb _=>Wo.other C w b (by omega)
end Go.Proofs.YtmffejnigppbpaaGreatDoor

namespace Go.Proofs.YtmffejnigppbpaaGreatDoor
open Go.RowKit
theorem awg{w:World}{base:Nat}{t:TypeId}{k n:Nat}{v:Value}{cs:List Value}(h:w.ownsRow base t k v n cs):∃a c,v=.slice a n c:=by
 rcases h.2 with⟨e,h0⟩|⟨g,cap,cur,e,_⟩
 ·exact⟨none,0,by rw[e,h0]⟩
 ·exact⟨_,_,e⟩
theorem axI{w:World}{D base:Nat}{t:TypeId}{k n:Nat}{v:Value}{cs:List Value}(h:w.ownsRow base t k v n cs)(hD:D<base):(Wo D w).ownsRow base t k v n cs:=by
 refine⟨h.1,?_⟩
 rcases h.2 with e|⟨g,cap,cur,e,hb,hg,r⟩
 ·exact .inl e
 ·exact .inr ⟨g,cap,cur,e,hb,by rw[Wo.other D w g (by omega)];exact hg,r⟩
theorem Sub.refl(w:World):Sub w w:=⟨Nat.le_refl _,fun _ _ h=>h⟩
theorem Sub.trans{a b c:World}(h:Sub a b)(k:Sub b c):Sub a c:=⟨Nat.le_trans h.size k.size,fun p u e=>k.cell p u (h.cell p u e)⟩
theorem Wo.not{C:Nat}{w:World}{p:Addr}{u:Value}(h:(Wo C w).cell? p=some u):p.block≠C:=by
 intro hb
 unfold World.cell? at h
 by_cases hl:C<w.heap.size
 ·have:(Wo C w).heap[p.block]?=some (.cells #[] 0 (0,0)):=by rw[hb];unfold Wo;simp[hl]
  rw[this]at h
  simp at h
 ·have:(Wo C w).heap[p.block]?=none:=by rw[hb];exact Array.getElem?_eq_none (by rw[Wo.size];omega)
  rw[this]at h
  simp at h
theorem Sub.wo{a b:World}(h:Sub a b)(C:Nat):Sub (Wo C a) (Wo C b):=⟨by rw[Wo.size,Wo.size];exact h.size,fun p u e=>by
 have hn:=Wo.not e
 rw[World.cell?_of_block (Wo.other C b _ hn)]
 exact h.cell p u (Wo.cell C a p u e)⟩
def Wl:List Nat→World→World
 |[],w=>w
 |X::L,w=>Wl L (Wo X w)
theorem Wl.size:∀(L:List Nat) (w:World),(Wl L w).heap.size=w.heap.size
 |[],w=>rfl
 |X::L,w=>(Wl.size L _).trans (Wo.size X w)
theorem Wl.g{w w':World}(h:G w w'):∀ {L:List Nat},G (Wl L w) (Wl L w'):=by
 intro L
 induction L generalizing w w' with
 |nil=>exact h
 |cons X L ih=>exact ih (Wo.g h)
theorem Wl.sub:∀(L:List Nat) (w:World),Sub (Wl L w) w
 |[],w=>Sub.refl w
 |X::L,w=>(Wl.sub L _).trans (Wo.sub X w)
theorem Wl.mono{a b:World}(h:Sub a b):∀ {L:List Nat},Sub (Wl L a) (Wl L b):=by
 intro L
 induction L generalizing a b with
 |nil=>exact h
 |cons X L ih=>exact ih (h.wo X)
theorem Wl.tail(X:Nat)(L:List Nat)(w:World):Sub (Wl (X::L) w) (Wl L w):=Wl.mono (Wo.sub X w)
theorem Wl.own{base:Nat}{t:TypeId}{k n:Nat}{v:Value}{cs:List Value}:∀ {L:List Nat} {w:World},w.ownsRow base t k v n cs→(∀X∈L,X<base)→(Wl L w).ownsRow base t k v n cs
 |[],w,h,_=>h
 |X::L,w,h,hX=>Wl.own (L:=L) (axI h (hX X List.mem_cons_self)) (fun Y hY=>hX Y (List.mem_cons_of_mem _ hY))
theorem Wl.other{b:Nat}:∀ {L:List Nat} {w:World},(∀X∈L,b≠X)→(Wl L w).heap[b]?=w.heap[b]?
 |[],w,_=>rfl
 |X::L,w,h=>(Wl.other (L:=L) (fun Y hY=>h Y (List.mem_cons_of_mem _ hY))).trans (Wo.other X w b (h X List.mem_cons_self))
theorem Wl.set(X:Nat)(L:List Nat)(w:World)(i:Nat)(v:Value):Wl (X::L) (w.setCell ⟨X,i,none⟩ v)=Wl (X::L) w:=by
 show Wl L (Wo X _)=Wl L (Wo X w)
 rw[Wo.set]
theorem Wo.comm{C X i:Nat}{w:World}{v:Value}(h:C≠X):Wo C (w.setCell ⟨X,i,none⟩ v)=(Wo C w).setCell ⟨X,i,none⟩ v:=by
 unfold Wo World.setCell
 congr 1
 apply Array.ext_getElem?
 intro j
 simp only[Array.getElem?_setIfInBounds,Array.getElem?_modify,Array.size_modify]
 by_cases h1:C=j
 ·subst h1
  have hn:¬X=C:=fun e=>h e.symm
  simp[hn]
 ·simp[h1]
theorem Wl.setm{X i:Nat}{v:Value}:∀ {L:List Nat} {w:World},X∈L→Wl L (w.setCell ⟨X,i,none⟩ v)=Wl L w
 |[],w,h=>by cases h
 |C::L,w,h=>by
  by_cases e:C=X
  ·subst e;exact Wl.set C L w i v
  ·show Wl L (Wo C _)=Wl L (Wo C w)
   rw[Wo.comm e]
   exact Wl.setm (by rcases List.mem_cons.1 h with h|h;(· exact absurd h.symm e);exact h)
theorem aqS{p:Addr}{u:Value}:∀ {L:List Nat} {w:World},(Wl L w).cell? p=some u→∀X∈L,p.block≠X
 |[],_,_,X,h=>by cases h
 |Y::L,w,e,X,h=>by
  rcases List.mem_cons.1 h with rfl|h
  ·exact Wo.not ((Wl.sub L _).cell _ _ e)
  ·exact aqS (L:=L) (w:=Wo Y w) e X h
theorem asP{A B:List Nat}{w:World}(h:∀X∈B,X∈A):Sub (Wl A w) (Wl B w):=⟨by rw[Wl.size,Wl.size];exact Nat.le_refl _,fun p u e=>by
 have hn:=fun X (hX:X∈A)=>aqS e X hX
 rw[World.cell?_of_block (Wl.other (L:=B) (w:=w) (b:=p.block) fun X hX=>hn X (h X hX))]
 exact(Wl.sub A w).cell p u e⟩
theorem ay5{W:World}{X:Nat}{a0 a1 b1:Value}{T:TypeId}(h:W.heap[X]?=some (.cells #[a0,a1] T (0,0))):(W.setCell ⟨X,1,none⟩ b1).heap[X]?=some (.cells #[a0,b1] T (0,0)):=by
 simp[World.setCell,Array.getElem?_modify,h]
theorem aum{a b c:World}{R:Nat}{row:Option Nat}(h:a.grownBy b (some R))(k:b.grownBy c row)(hr:∀j,row=some j→j=R∨a.heap.size≤j):a.grownBy c (some R):=
 ⟨k.os.trans h.os,k.tape.trans h.tape,k.output.trans h.output,Nat.le_trans h.size k.size,fun i hi hne=>(k.block i (Nat.lt_of_lt_of_le hi h.size) (fun e=>by rcases hr i e.symm with h'|h';(· exact hne (by rw[h']));omega)).trans (h.block i hi hne)⟩
end Go.Proofs.YtmffejnigppbpaaGreatDoor

namespace Go.Proofs.YtmffejnigppbpaaGreatDoor
open Go.RowKit
theorem agw{W W':World}{B:Nat}{t:TypeId}{v:Value}(h:Boxed W B t v)(g:Below W.heap.size W W'):Boxed W' B t v:=(g.block B h.lt).trans h
theorem aen{W W':World}{base:Nat}{e:TypeId}{size:Nat}{v:Value}{n:Nat}{xs:List Value}(h:W.ownsRow base e size v n xs)(g:Below W.heap.size W W'):W'.ownsRow base e size v n xs:=by
 refine⟨h.1,h.2.imp id ?_⟩
 rintro⟨b,cap,cur,e1,e2,e3,r⟩
 exact⟨b,cap,cur,e1,e2,(g.block b (Array.getElem?_eq_some_iff.1 e3).1).trans e3,r⟩
theorem aie{W:World}{base base':Nat}{e:TypeId}{size:Nat}{v:Value}{n:Nat}{xs:List Value}(h:W.ownsRow base e size v n xs)(g:base'≤base):W.ownsRow base' e size v n xs:=by
 refine⟨h.1,h.2.imp id ?_⟩
 rintro⟨b,cap,cur,e1,e2,r⟩
 exact⟨b,cap,cur,e1,Nat.le_trans g e2,r⟩
theorem anY{Bp B1 Bz b:Nat}{W:World}(v:Value)(h1:b≠Bp)(h2:b≠B1)(h3:b≠Bz):ajY Bp B1 Bz W (W.setCell ⟨b,0,none⟩ v):=
 ⟨World.cell?_setCell_other _ _ _ _ (by first|(simp;done)|(simp;omega)),World.cell?_setCell_other _ _ _ _ (by first|(simp;done)|(simp;omega)),World.cell?_setCell_other _ _ _ _ (by first|(simp;done)|(simp;omega)),World.frozen?_setCell _ _ _ _⟩
theorem akW{n:Nat}{W w1:World}{e:TypeId}{size:Nat}{v:Value}{k:Nat}{xs:List Value}{tmp:Obj}(hrow:W.ownsRow n e size v k xs)(hn:n≤W.heap.size)(hgrow:(W.alloc tmp).grownBy w1 v.ownBlock):Below n W w1:=by
 refine((Below.refl n W).alloc hn tmp).grown hgrow (by simp;omega) fun j ej=>?_
 rcases hrow.2 with⟨rfl,_⟩|⟨g,cap,cur,rfl,hb,_,_⟩
 ·simp[Value.ownBlock]at ej
 ·obtain rfl:g=j:=by simpa[Value.ownBlock]using ej
  exact hb
theorem anZ:(Tryz.prog.info? 9).map (fun i=>(i.zero,i.size,i.bytes))=some (some (.string ⟨#[]⟩),1,16):=by kernel_rfl
def ag9(x:List UInt8):List UInt8:=(Lib.cut x [32]).1
theorem akX(v:Int):(UG v).map (fun e=>ag9 e.text)=(UG v).map Ent.name:=by
 unfold UG
 split
 ·decide +kernel
 ·decide +kernel
theorem aoG(v:Int):(UG v).length≤100:=by
 unfold UG
 split
 ·decide +kernel
 ·decide +kernel
end Go.Proofs.YtmffejnigppbpaaGreatDoor
