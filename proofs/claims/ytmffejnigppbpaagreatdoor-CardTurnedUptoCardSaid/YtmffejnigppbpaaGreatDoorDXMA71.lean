/-
  Texts merged into one: SortStable, RulesType, FoldPlain, Value, RulesNames3, Ruled, OwnAt.
-/
import Derived.Test.YtmffejnigppbpaaGreatDoorDXMA65
import Derived.Deep.DrawnRows
import Derived.Deep.LoopGhost
import Derived.BigRegion
import Derived.Deep.DeepCutAuto
import Derived.Deep.CutBlock
import Derived.Test.YtmffejnigppbpaaGreatDoorDXMA76
import Derived.Test.YtmffejnigppbpaaGreatDoorDXMRules
import Derived.Test.YtmffejnigppbpaaGreatDoorDXMA75
import Derived.Test.YtmffejnigppbpaaGreatDoorDXMA59
import Derived.Test.YtmffejnigppbpaaGreatDoorDXMUtf
import Derived.Test.YtmffejnigppbpaaGreatDoorDXMVal
import Derived.Test.YtmffejnigppbpaaGreatDoorDXMTell
import Derived.Test.YtmffejnigppbpaaGreatDoorDXMA70
import Derived.Test.YtmffejnigppbpaaGreatDoorDXMA77
import Derived.Test.YtmffejnigppbpaaGreatDoorDXMA52
import Derived.RangeFuncBox
import Derived.OwnWalkIn
import Derived.Test.YtmffejnigppbpaaGreatDoorDXMA63
set_option linter.unusedVariables false
set_option linter.unusedSimpArgs false
namespace Go.Proofs.YtmffejnigppbpaaGreatDoor
open Go.RowKit Stab
theorem axo.two{key:Int→Int}{n:Nat}{D E:List (List Int)}(hn:0<n)(h:axo key n D E)(hl:2*n≤E.flatten.length):∃c d r,E=c::d::r∧c.length=n∧d.length=n:=by
 have hs:=h.2.1
 match E,hs,hl with
 |[],_,hl=>simp at hl;omega
 |[c],hs,hl=>have:=hs.2;simp at hl;omega
 |[c,d],hs,hl=>have h1:=hs.1;have h2:=hs.2.2;simp at hl;exact⟨c,d,[],rfl,h1,by omega⟩
 |c::d::e::r,hs,hl=>exact⟨c,d,e::r,rfl,hs.1,hs.2.1⟩
end Go.Proofs.YtmffejnigppbpaaGreatDoor

set_option maxHeartbeats 4000000
set_option maxRecDepth 100000
namespace Go.Proofs.YtmffejnigppbpaaGreatDoor
open Go.RowKit
theorem amK(s:List UInt8)(v:Int)(w:World)(hv:v=3∨v=4)(hs:s.length≤1000000)(hM:aeV w):Um 20 #[.string (S s),.int .i64 v] w (.tuple #[.agg #[.int .i64 (acX (UG v) (Eg s)).1,.int .i64 (acX (UG v) (Eg s)).2.1,.int .i64 (acX (UG v) (Eg s)).2.2.1,.int .i64 (acX (UG v) (Eg s)).2.2.2],.nilIface]):=by
 rcases hv with rfl|rfl
 ·exact(callsIn_wide (n:=6)).1 (ayn s w hs hM.asp)
 ·exact(callsIn_wide (n:=6)).1 (ayo s w hs hM.asp)
def an5(t:Int)(l:List UInt8):Int:=
 if l=[116,101,120,116] then(if t=2∨t=3 then t else 1)
 else if l=[117,114,105] then 4
 else if l=[100,97,116,101,45,97,110,100,45,111,114,45,116,105,109,101]∨l=[100,97,116,101]∨l=[100,97,116,101,45,116,105,109,101]∨l=[116,105,109,101,115,116,97,109,112] then 5
 else if l=[117,116,99,45,111,102,102,115,101,116] then 6
 else if l=[108,97,110,103,117,97,103,101,45,116,97,103] then 7 else 8
def typeOf(t:Int)(ps:List Pm):Int:=match afm ps [86,65,76,85,69]with
 |none=>t
 |some k=>match ps[k]? with
  |some (_,x::_)=>an5 t (ai2 x)
  |_=>t
theorem aqv{t:Int}{ps:List Pm}(h:afm ps [86,65,76,85,69]=none):typeOf t ps=t:=by unfold typeOf;rw[h]
theorem aqw{t:Int}{ps:List Pm}{k:Nat}{nm x:List UInt8}{xs:List (List UInt8)}(h:afm ps [86,65,76,85,69]=some k)(hk:ps[k]?=some (nm,x::xs)):typeOf t ps=an5 t (ai2 x):=by unfold typeOf;rw[h];simp only[hk]
theorem aoT{t:Int}{ps:List Pm}{k:Nat}{nm:List UInt8}(h:afm ps [86,65,76,85,69]=some k)(hk:ps[k]?=some (nm,[])):typeOf t ps=t:=by unfold typeOf;rw[h];simp only[hk]
theorem axn{ps:List Pm}{s:List UInt8}{k:Nat}(h:afm ps s=some k):k<ps.length:=by
 unfold afm at h
 exact(List.findIdx?_eq_some_iff_getElem.1 h).1
theorem amL(s:List UInt8)(pv:Value)(ps:List Pm)(v:Int)(w:World)(hv:v=3∨v=4)(hs:s.length≤1000000)(hP:UN w pv ps)(hl:ps.length≤1000000)(hp:∀p∈ps,p.1.length≤1000000)(hq:∀p∈ps,∀x∈p.2,x.length≤1000000)(hM:aeV w) :
  Um 54 #[.string (S s),pv,.int .i64 v] w (.tuple #[.int .i64 (typeOf (acX (UG v) (Eg s)).1 ps),.nilIface]):=by
 obtain⟨r,hr⟩:∃r,r=acX (UG v) (Eg s):=⟨_,rfl⟩
 have ho:=amK s v w hv hs hM
 rw[←hr]at ho⊢
 have HO:=hid ho
 have H:=hid hP
 obtain⟨a,cap,rfl,_,_⟩:=hP
 obtain⟨t,ht⟩:∃t,t=typeOf r.1 ps:=⟨_,rfl⟩
 rw[←ht]
 obtain⟨r0,r1,r2,r3⟩:=r
 clear ho hr hM
 go_enter Tryz.func54,Tryz.ntmps54
 go_wp2_with fail
 refine HO.out.use ?_
 intro w1 g1
 go_wp2_with fail
 have g1':G w (w1.alloc (.cells #[.int .i64 r0,.int .i64 r1,.int .i64 r2,.int .i64 r3] 47)):=g1.alloc _
 refine(aqj _ ps [86,65,76,85,69] _ (H.out.grow g1') hl hp (by simp)).use ?_
 intro w2 g2
 have hb:w1.heap.size<w2.heap.size:=Nat.lt_of_lt_of_le (by simp) g2.size
 have c0:w2.cell? ⟨w1.heap.size,0,none⟩=some (.int .i64 r0):=(G.cell g2 (p:=⟨w1.heap.size,0,none⟩) (by simp)).trans (by simp[go_sem])
 have G2:=hid (g1'.trans g2)
 clear g1 g2 g1'
 cases hf:afm ps [86,65,76,85,69]with
 |none=>
  rw[aqv hf]at ht
  have HT:=hid ht
  clear ht
  simp only[akZ]
  clear hf
  go_wp2_with fail
  go_ret2
  exact⟨by rw[HT.out];rfl,G2.out⟩
 |some k=>
  have hk:=axn hf
  obtain⟨a2,cap2,e1,_,hc⟩:=H.out.grow G2.out
  obtain⟨b,off,e2,hb2,hcc⟩:=hc (by rintro rfl;simp at hk)
  clear hc
  simp only[Value.slice.injEq,true_and]at e1
  obtain⟨rfl,rfl⟩:=e1
  subst e2
  obtain⟨sv,c1,c2,c3⟩:=hcc k _ (List.getElem?_eq_getElem hk)
  have hqk:=hq _ (List.getElem_mem hk)
  have hke:ps[k]?=some ps[k]:=List.getElem?_eq_getElem hk
  obtain⟨p,hpe⟩:∃p,ps[k]=p:=⟨_,rfl⟩
  rw[hpe]at c1 c3 hqk hke
  obtain⟨nm,xs⟩:=p
  cases xs with
  |nil=>
   rw[aoT hf hke]at ht
   have HT:=hid ht
   clear ht
   obtain⟨sa,sc,rfl,_⟩:=c3.len
   clear hcc c3 hpe hke hqk
   simp only[akZ,List.length_nil]at c2⊢
   have z0:decide ((k:Int)<0)=false:=decide_eq_false (by omega)
   go_wp2_with fail
   go_ret2
   exact⟨by rw[HT.out];rfl,G2.out⟩
  |cons x xs=>
   rw[aqw hf hke]at ht
   obtain⟨b3,off3,cap3,e3,hc3,hb3,hcell⟩:=c3.at_ (by simp)
   have cx:=hcell 0 x rfl
   simp only[Nat.add_zero]at cx
   subst e3
   have hx:=hqk x (by simp)
   have lo:=anX x w2 (by omega)
   obtain⟨y,hy⟩:∃y,y=ai2 x:=⟨_,rfl⟩
   rw[←hy]at lo ht
   have LO:=hid lo
   clear lo hcc c3 hpe hke hqk hcell hy
   simp only[akZ,List.length_cons]at c2⊢
   have z0:decide ((k:Int)<0)=false:=decide_eq_false (by omega)
   have z1:((xs.length:Int)+1==0)=false:=beq_eq_false_iff_ne.2 (by omega)
   go_wp2_with fail
   refine LO.out.use ?_
   intro w3 g3
   have c4:w3.cell? ⟨w1.heap.size,0,none⟩=some (.int .i64 r0):=(g3.cell hb).trans c0
   have G3:=hid (G2.out.trans g3)
   clear g3 c0 c1 c2 cx LO
   have HT':=ht
   clear ht
   by_cases y1:y=[116,101,120,116]
   ·subst y1
    by_cases t2:r0=2
    ·subst t2
     have HT':t=2:=HT'
     have HT:=hid HT'
     clear HT'
     go_wp2_with fail
     go_ret2
     exact⟨by rw[HT.out];rfl,G3.out⟩
    ·by_cases t3:r0=3
     ·subst t3
      have HT':t=3:=HT'
      have HT:=hid HT'
      clear HT'
      go_wp2_with fail
      go_ret2
      exact⟨by rw[HT.out];rfl,G3.out⟩
     ·have hw:an5 r0 [116,101,120,116]=1:=by unfold an5;rw[if_pos rfl,if_neg (by omega)]
      rw[hw]at HT'
      have HT:=hid HT'
      clear HT'
      have u2:(r0==2)=false:=by simpa using t2
      have u3:(r0==3)=false:=by simpa using t3
      clear t2 t3 hw
      go_wp2_with fail
      go_ret2
      exact⟨by rw[HT.out];rfl,G3.out⟩
   by_cases y2:y=[117,114,105]
   ·subst y2
    have HT':t=4:=HT'
    have HT:=hid HT'
    clear HT'
    go_wp2_with fail
    go_ret2
    exact⟨by rw[HT.out];rfl,G3.out⟩
   by_cases y3:y=[100,97,116,101,45,97,110,100,45,111,114,45,116,105,109,101]∨y=[100,97,116,101]∨y=[100,97,116,101,45,116,105,109,101]∨y=[116,105,109,101,115,116,97,109,112]
   ·rcases y3 with rfl|rfl|rfl|rfl
    all_goals
     have HT':t=5:=HT'
     have HT:=hid HT'
     clear HT'
     go_wp2_with fail
     go_ret2
     exact⟨by rw[HT.out];rfl,G3.out⟩
   by_cases y4:y=[117,116,99,45,111,102,102,115,101,116]
   ·subst y4
    have HT':t=6:=HT'
    have HT:=hid HT'
    clear HT'
    go_wp2_with fail
    go_ret2
    exact⟨by rw[HT.out];rfl,G3.out⟩
   by_cases y5:y=[108,97,110,103,117,97,103,101,45,116,97,103]
   ·subst y5
    have HT':t=7:=HT'
    have HT:=hid HT'
    clear HT'
    go_wp2_with fail
    go_ret2
    exact⟨by rw[HT.out];rfl,G3.out⟩
   have hw:an5 r0 y=8:=by unfold an5;rw[if_neg y1,if_neg y2,if_neg y3,if_neg y4,if_neg y5]
   rw[hw]at HT'
   have HT:=hid HT'
   clear HT'
   have q1:=beq_eq_false_iff_ne.2 y1
   have q2:=beq_eq_false_iff_ne.2 y2
   have q3:=beq_eq_false_iff_ne.2 (fun h=>y3 (.inl h):y≠_)
   have q4:=beq_eq_false_iff_ne.2 (fun h=>y3 (.inr (.inl h)):y≠_)
   have q5:=beq_eq_false_iff_ne.2 (fun h=>y3 (.inr (.inr (.inl h))):y≠_)
   have q6:=beq_eq_false_iff_ne.2 (fun h=>y3 (.inr (.inr (.inr h))):y≠_)
   have q7:=beq_eq_false_iff_ne.2 y4
   have q8:=beq_eq_false_iff_ne.2 y5
   clear y1 y2 y3 y4 y5 hw
   go_wp2_with fail
   go_ret2
   exact⟨by rw[HT.out];rfl,G3.out⟩
end Go.Proofs.YtmffejnigppbpaaGreatDoor

namespace Go.Proofs.YtmffejnigppbpaaGreatDoor
open Go.RowKit
def nlB(c:UInt8):Bool:=c==13||c==10
def aeO(l:List UInt8):Nat:=l.findIdx nlB
structure FLn where
 text:List UInt8
 pos:Nat
 folds:List Nat
def ae3:List UInt8→Bool
 |[]=>false
 |c::_=>c==32||c==9
inductive ahD where
 |good (ls:List FLn)
 |bad (code:Int) (place:Nat)
def acU(s:List UInt8)(k:Nat)(out:List FLn):ahD:=
 if ae3 s=true then
  match out.getLast? with
  |none=>.bad 10 0
  |some l=>if 1500<l.text.length+(s.length-1)then .bad 4 l.pos else .good (out.dropLast++[⟨l.text++s.drop 1,l.pos,l.folds++[l.text.length]⟩])
 else if 1500<s.length then .bad 4 k else .good (out++[⟨s,k,[]⟩])
def Us(r:List UInt8)(k:Nat)(out:List FLn):ahD:=
 if h0:r=[] then .good out
 else if aeO r=r.length then .bad 7 (k+r.length)
 else if alq (r.drop (aeO r)) [13,10]=false then .bad 3 (k+aeO r)
 else match acU (r.take (aeO r)) k out with
  |.bad c p=>.bad c p
  |.good out'=>Us (r.drop (aeO r+2)) (k+aeO r+2) out'
termination_by r.length
decreasing_by
 have:0<r.length:=by cases r with|nil=>exact absurd rfl h0|cons _ _=>simp
 simp;omega
theorem ae8(k:Nat)(out:List FLn):Us [] k out=.good out:=by rw[Us];simp
theorem ajB(l:List UInt8):aeO l≤l.length:=List.findIdx_le_length
theorem awF{l:List UInt8}(h:aeO l<l.length):nlB (l[aeO l])=true:=List.findIdx_getElem
theorem akP{l:List UInt8}{i:Nat}(h:i<aeO l):nlB (l[i]'(by have:=ajB l;omega))=false:=by
 have:=List.not_of_lt_findIdx h
 simpa using this
theorem arf{l:List UInt8}(h:∀c∈l,nlB c=false):aeO l=l.length:=by
 unfold aeO;rw[List.findIdx_eq_length];exact h
theorem au8{p r:List UInt8}(c:UInt8)(h:∀c∈p,nlB c=false)(hc:nlB c=true):aeO (p++c::r)=p.length:=by
 unfold aeO
 rw[List.findIdx_append]
 have h1:List.findIdx nlB p=p.length:=by rw[List.findIdx_eq_length];exact h
 rw[h1,if_neg (Nat.lt_irrefl _),List.findIdx_cons,hc]
 simp
theorem afU{p:List UInt8}(r:List UInt8)(k:Nat)(out:List FLn)(h:∀c∈p,nlB c=false) :
  Us (p++13::10::r) k out=match acU p k out with|.bad c q=>.bad c q|.good out'=>Us r (k+p.length+2) out':=by
 rw[Us,dif_neg (by simp)]
 have hb:aeO (p++13::10::r)=p.length:=au8 13 h rfl
 rw[hb,if_neg (by simp),if_neg (by simp[alq])]
 have h1:(p++13::10::r).take p.length=p:=by simp
 have h2:(p++13::10::r).drop (p.length+2)=r:=by simp[List.drop_append]
 rw[h1,h2]
theorem aiE{r:List UInt8}{k:Nat}{out x:List FLn}(h:Us r k out=.good x) :
  r=[]∧x=out∨∃p r' out',r=p++13::10::r'∧(∀c∈p,nlB c=false)∧acU p k out=.good out'∧Us r' (k+p.length+2) out'=.good x:=by
 by_cases h0:r=[]
 ·subst h0;rw[ae8]at h;left;exact⟨rfl,by injection h with h;exact h.symm⟩
 ·right
  rw[Us,dif_neg h0]at h
  by_cases h1:aeO r=r.length
  ·rw[if_pos h1]at h;cases h
  rw[if_neg h1]at h
  cases h2:alq (r.drop (aeO r)) [13,10]with
  |false=>rw[if_pos h2]at h;cases h
  |true=>
   rw[if_neg (by simp[h2])]at h
   have h3:=asI h2
   rw[List.drop_drop]at h3
   cases h4:acU (r.take (aeO r)) k out with
   |bad c p=>rw[h4]at h;cases h
   |good out'=>
    rw[h4]at h
    have hl:(r.take (aeO r)).length=aeO r:=by have:=ajB r;simp;omega
    refine⟨r.take (aeO r),r.drop (aeO r+2),out',?_,?_,h4,by rw[hl];exact h⟩
    ·conv=>lhs;rw[←List.take_append_drop (aeO r) r,h3]
     rfl
    ·intro c hc
     obtain⟨i,hi,rfl⟩:=List.getElem_of_mem hc
     rw[List.getElem_take]
     exact akP (by rw[hl]at hi;exact hi)
theorem agJ{P:List UInt8→Nat→List FLn→List FLn→Prop}(nil:∀k out,P [] k out out)(step:∀p r k out out' x,(∀c∈p,nlB c=false)→acU p k out=.good out'→Us r (k+p.length+2) out'=.good x→P r (k+p.length+2) out' x→P (p++13::10::r) k out x) :
  ∀(n:Nat) (r:List UInt8) (k:Nat) (out x:List FLn),r.length≤n→Us r k out=.good x→P r k out x:=by
 intro n
 induction n with
 |zero=>
  intro r k out x hl h
  have:r=[]:=List.eq_nil_of_length_eq_zero (by omega)
  subst this
  rcases aiE h with⟨_,rfl⟩|⟨p,r',_,h1,_⟩
  ·exact nil _ _
  ·simp at h1
 |succ n ih=>
  intro r k out x hl h
  rcases aiE h with⟨rfl,rfl⟩|⟨p,r',out',rfl,h2,h3,h4⟩
  ·exact nil _ _
  ·exact step p r' k out out' x h2 h3 h4 (ih r' _ _ _ (by simp at hl;omega) h4)
theorem aov{a:List UInt8}{k:Nat}{out x:List FLn}(b:List UInt8)(h:Us a k out=.good x):Us (a++b) k out=Us b (k+a.length) x:=by
 refine agJ (P:=fun a k out x=>Us (a++b) k out=Us b (k+a.length) x) ?_ ?_ a.length a k out x (Nat.le_refl _) h
 ·intro k out;simp
 ·intro p r k out out' x hp ha hg ih
  have e:(p++13::10::r)++b=p++13::10::(r++b):=by simp
  rw[e,afU _ _ _ hp,ha]
  show Us (r++b) _ _=_
  rw[ih]
  congr 1
  simp;omega
def FLn.shift(n:Nat)(l:FLn):FLn:=⟨l.text,n+l.pos,l.folds⟩
theorem ani{p:List UInt8}{k:Nat}{out out':List FLn}(n:Nat)(x:List FLn)(h:acU p k out=.good out'):acU p (n+k) (x++out.map (FLn.shift n))=.good (x++out'.map (FLn.shift n)):=by
 unfold acU at h⊢
 split at h
 ·rename_i hb
  rw[if_pos hb]
  cases ho:out.getLast? with
  |none=>rw[ho]at h;cases h
  |some l=>
   rw[ho]at h
   have h1:(x++out.map (FLn.shift n)).getLast?=some (l.shift n):=by
    rw[List.getLast?_append,List.getLast?_map,ho];rfl
   have hne:out.map (FLn.shift n)≠[]:=by
    intro e
    have:out=[]:=by simpa using e
    subst this;simp at ho
   rw[h1]
   dsimp only at h⊢
   split at h
   ·cases h
   ·rename_i h5
    injection h with h
    have h6:(l.shift n).text=l.text:=rfl
    rw[if_neg (by rw[h6];exact h5),←h,List.dropLast_append_of_ne_nil hne,←List.map_dropLast]
    simp[FLn.shift]
 ·rename_i hb
  rw[if_neg hb]
  split at h
  ·cases h
  ·rename_i h5
   injection h with h
   rw[if_neg h5,←h]
   simp[FLn.shift]
theorem apT{r:List UInt8}{k:Nat}{out y:List FLn}(n:Nat)(x:List FLn)(h:Us r k out=.good y):Us r (n+k) (x++out.map (FLn.shift n))=.good (x++y.map (FLn.shift n)):=by
 refine agJ (P:=fun r k out y=>Us r (n+k) (x++out.map (FLn.shift n))=.good (x++y.map (FLn.shift n))) ?_ ?_ r.length r k out y (Nat.le_refl _) h
 ·intro k out;rw[ae8]
 ·intro p r k out out' y hp ha hg ih
  rw[afU _ _ _ hp,ani n x ha]
  show Us r _ _=_
  rw[←ih]
  congr 1
  omega
theorem apU{a b:List UInt8}{x y:List FLn}(ha:Us a 0 []=.good x)(hb:Us b 0 []=.good y):Us (a++b) 0 []=.good (x++y.map (FLn.shift a.length)):=by
 rw[aov b ha,Nat.zero_add]
 have:=apT a.length x hb
 simpa using this
def arh(l:FLn)(i:Nat):Nat:=(l.folds.filter fun f=>decide (f≤i)).length
def ad4(l:FLn)(i:Nat):Nat:=l.pos+i+3*arh l i
structure au9(t:List UInt8)(out:List FLn)(k:Nat):Prop where
 here:∀l∈out,∀i,i<l.text.length→ad4 l i<k∧t[ad4 l i]?=l.text[i]?
 next:out.Pairwise fun l l'=>∀i i',i<l.text.length→i'<l'.text.length→ad4 l i<ad4 l' i'
 last:∀l,out.getLast?=some l→k=l.pos+l.text.length+3*l.folds.length+2∧∀f∈l.folds,f≤l.text.length
theorem au9.nil(t:List UInt8)(k:Nat):au9 t [] k:=⟨by simp,by simp,by simp⟩
def ac6(s:List UInt8)(room width:Nat):List UInt8:=
 s.take (adf s room)++13::10::(if h:s.drop (adf s room)=[]∨adf s room=0 then[] else 32::ac6 (s.drop (adf s room)) (width-1) width)
termination_by s.length
decreasing_by
 have:s≠[]:=by rintro rfl;simp at h
 have:0<s.length:=by cases s with|nil=>contradiction|cons _ _=>simp
 simp;omega
end Go.Proofs.YtmffejnigppbpaaGreatDoor

set_option maxHeartbeats 4000000
set_option maxRecDepth 100000
namespace Go.Proofs.YtmffejnigppbpaaGreatDoor
open Go.RowKit
theorem aqO(w:World):Um 162 #[.nilIface] w .nilIface:=by
 go_enter Tryz.func162,Tryz.ntmps162
 go_wp2_with fail
 go_ret
 exact⟨rfl,G.refl _⟩
theorem av5(c:Int)(w:World)(hE:UO w):Um 162 #[eno c] w (eno c):=by
 have h:=agX c w hE
 have H:=hid h
 clear h
 go_enter Tryz.func162,Tryz.ntmps162
 go_wp2_with fail
 refine(H.out).use ?_
 intro w1 g1
 go_wp2_with fail
 go_ret
 exact⟨rfl,g1⟩
theorem apc(v:Value)(c p:Int)(w:World)(hE:UO w)(hv:UE w v c p):Um 162 #[v] w (eno c):=by
 have h:=alA c p v w hE hv
 have H:=hid h
 obtain⟨b,rfl,_⟩:=hv
 clear h
 go_enter Tryz.func162,Tryz.ntmps162
 go_wp2_with fail
 refine(H.out).use ?_
 intro w1 g1
 go_wp2_with fail
 go_ret
 exact⟨rfl,g1⟩
theorem aeI(x:Vl)(a:Option Addr)(cap:Nat)(w:World)(hk:1≤x.ty∧x.ty<9):Um 160 #[x.v (.slice a x.ps.length cap)] w (.bool x.only):=by
 obtain⟨ty,tx,ps,st,n⟩:=x
 obtain⟨y,m,d,h,nn,s,zd,zn⟩:=st
 simp only at hk
 simp only[Vl.v]
 have hty:ty=1∨ty=2∨ty=3∨ty=4∨ty=5∨ty=6∨ty=7∨ty=8:=by omega
 clear hk
 rcases hty with rfl|rfl|rfl|rfl|rfl|rfl|rfl|rfl
 all_goals
  go_enter Tryz.func160,Tryz.ntmps160
  go_wp2_with fail
  all_goals (go_ret;refine⟨zF ?_,(G.refl _).alloc _⟩;simp_all [Vl.only,isT,isL,St.isZero];(try rfl))
end Go.Proofs.YtmffejnigppbpaaGreatDoor

set_option maxHeartbeats 4000000
set_option maxRecDepth 100000
namespace Go.Proofs.YtmffejnigppbpaaGreatDoor
open Go.RowKit Go.Shelf
attribute [local go_sem] Oper.semAt_some
theorem atW(w:World)(hm:aer w) :
  CallsIn Fence.wide 6 Tryz.prog 66 #[.int .i64 3] w fun e w'=>∃v,e=.returned (.tuple #[v,.nilIface])∧w'.ownsRow w.heap.size 9 1 v (UG 3).length ((UG 3).map fun e=>.string (S e.name))∧Below w.heap.size w w':=by
 have tb:=fun W=>aik 3 W
 have TB:=hid tb
 clear tb
 obtain⟨i0,hi,hz0,hz1,hz2⟩:=info_parts anZ
 refine callsIn_of_wp_marks Tryz.func66 rfl trivial ?_ rfl
 simp only[Tryz.ntmps66,List.size_toArray,List.length_cons,List.length_nil,Nat.reduceAdd,Nat.reduceSub,Array.replicate_succ,Array.replicate_zero,List.push_toArray,List.append_toArray,List.nil_append,List.cons_append]
 gi_wp2_with (first|(refine⟨trivial,?_⟩;gi_at_call 57;refine(callsIn_wide.2 (TB.out _)).mono ?_;rintro e w' ⟨rfl,rfl⟩)|(refine⟨trivial,?_⟩;gi_at_call 56;refine(callsIn_wide.2 (afY _ _ _)).mono ?_;rintro e w' ⟨rfl,rfl⟩))
 obtain⟨p,ps,e1,e2,e3,e4⟩:=aii 3
 rw[e2]
 have bO:=Boxed.new w 39 (.slice none 0 0)
 generalize hW0:World.alloc _ (Obj.cells #[Value.int IntKind.i64 0] 3)=W0
 have z0:W0.heap.size=w.heap.size+4:=by rw[←hW0];simp
 have c2:W0.cell? ⟨w.heap.size+1,0,none⟩=some (.string (S (Uu [124] p ps))):=by rw[←hW0];simp[go_sem]
 have c3:W0.cell? ⟨w.heap.size+2,0,none⟩=some (.string (S [124])):=by rw[←hW0];simp[go_sem]
 have c4:W0.cell? ⟨w.heap.size+3,0,none⟩=some (.int .i64 0):=by rw[←hW0];simp[go_sem]
 have f2:W0.frozen? ⟨w.heap.size+1,0,none⟩=false:=by rw[←hW0];simp[go_sem]
 have hbx:Boxed W0 w.heap.size 39 (.slice none 0 0):=by rw[←hW0];exact((bO.alloc _).alloc _).alloc _
 have hB0:Below w.heap.size w W0:=by rw[←hW0];repeat (first|exact Below.refl _ _|(refine Below.alloc ?_ (by simp;try omega) _))
 clear hW0 bO
 refine adT (B:=w.heap.size+1) (by omega) rfl (by decide) (gf:=146) (lb:=#[.pointer (some ⟨w.heap.size+2,0,none⟩),.pointer (some ⟨w.heap.size+1,0,none⟩),.pointer (some ⟨w.heap.size+3,0,none⟩)]) rfl trivial (enters_of Tryz.func146 (by kernel_rfl) rfl)
  (aim 5 (w.heap.size+2) (w.heap.size+1) (w.heap.size+3) (by omega) (by omega) (by omega) p ps e3 e4 W0 (by omega) (by omega) (by omega) c3 c2 c4 f2) aij
  (fun W l o o' hl hW ho hw=>aec (belowK_b (w:=W0) (Nat.le_refl _) W l o o' hl hW ho hw) (by omega) (by omega) (by omega)) (Below.refl _ _) (fun _=>rfl)
  (fun pre W=>((∃v,Boxed W w.heap.size 39 v∧W.ownsRow W0.heap.size 9 1 v pre.length (pre.map fun x=>.string (S (ag9 x)))∧True)∧W0.heap.size≤W.heap.size)∧Below w.heap.size w W)
  (fun _ _ _=>False)
  (OwnFrom.and (OwnFrom.and (Own.from (holdsRow_own W0.heap.size w.heap.size 39 9 1 (fun (pre:List (List UInt8))=>pre.length) (fun pre=>pre.map fun x=>.string (S (ag9 x))) (fun _ _=>True)) _) (fun x A B row hs hg hr=>Nat.le_trans hs hg.size)) (ownFrom_below (Nat.le_refl _) (by omega)))
  (fun x W v hs=>by
   obtain⟨⟨⟨u,hb,hr,_⟩,hsz⟩,hB⟩:=hs
   refine⟨⟨⟨u,hb.kept (grownBy_setCell' W _ v) (by simp),hr.kept (grownBy_setCell' W _ v) ?_,trivial⟩,Nat.le_trans hsz (by simp)⟩,hB.setCell (p:=⟨w.heap.size+1,0,none⟩) (by simp) _⟩
   rcases hr.2 with⟨rfl,_⟩|⟨g,cap,cur,rfl,hg,_⟩
   ·exact .inl rfl
   ·exact .inr (by simp[Value.ownBlock];omega))
  (fun c x A B row hs _ _=>hs.elim)
  ⟨⟨⟨_,hbx,World.ownsRow_nil _ _ _ _,trivial⟩,Nat.le_refl _⟩,hB0⟩
  (fun x=>{ tmps:=#[.int .i64 3,undef,.slice none 0 0,.nilIface,.pointer (some ⟨w.heap.size,0,none⟩),.string (S x),undef,undef,undef,.int .i64 3,.bool false,.bool false,undef,undef,.bool false,undef,.int .i64 3,.string (S (Uu [124] p ps)),.func (.func 146) #[] #[.pointer (some ⟨w.heap.size+2,0,none⟩),.pointer (some ⟨w.heap.size+1,0,none⟩),.pointer (some ⟨w.heap.size+3,0,none⟩)],.string (S x),undef,undef,undef,undef,undef,undef,undef,undef,undef,undef,undef],defers:=[] })
  ?assign ?body ?done ?stop
 case assign=>
  intro l x W K hK
  gi_wp2
  exact hK
 case body=>
  rintro l pre x W ⟨⟨⟨v,hv,hrow,_⟩,hsz⟩,hB⟩ hpre
  have hx:x∈(UG 3).map Ent.text:=by rw[e1];exact hpre.subset (by simp)
  have hpl:pre.length≤100:=by
   have h1:=hpre.length_le
   have h2:(p::ps).length≤100:=by rw[←e1,List.length_map];exact aoG 3
   simp only[List.length_append]at h1
   omega
  have hxl:x.length≤1000:=by
   obtain⟨e,he,rfl⟩:=List.mem_map.1 hx
   have:=(aft 3 e he).2.2.2.2.2.1
   omega
  have cu:=age x [32] W (hm.grow hB) (by omega)
  obtain⟨ca,hca⟩:∃y,y=(Lib.cut x [32]).1:=⟨_,rfl⟩
  obtain⟨cb,hcb⟩:∃y,y=(Lib.cut x [32]).2.1:=⟨_,rfl⟩
  obtain⟨ct,hct⟩:∃y,y=(Lib.cut x [32]).2.2:=⟨_,rfl⟩
  rw[←hca,←hcb,←hct]at cu
  have hno:ag9 x=ca:=hca.symm
  have CU:=hid cu
  have hc:=hv.cell
  have HV:=hid hv
  have HROW:=hid hrow
  clear cu hca hcb hct hx hv hrow hpre
  gi_wp2_with (first
   |(refine⟨trivial,?_⟩;gi_at_call 109;refine(CallsIn.inRound l (callsIn_wide.2 CU.out)).mono ?_;rintro e' w' ⟨rfl,hg'⟩;have hc1:=(agw HV.out hg'.below).cell;have HG:=hid hg';have hgs:=hg'.size;clear hg' hc)
   |(gi_at_builtin;refine wpListIn_append_own _ rfl _ _ 39 rfl W0.heap.size 9 i0 (.string ⟨#[]⟩) 1 16 Tryz.underlying39 hi hz0 hz1 hz2 rfl (by decide) _ _ _ rfl ((aen HROW.out HG.out.below).alloc _) ⟨w'.heap.size,0,none⟩ 1 1 [.string (S ca)] rfl rfl (cell_one_new _ _ _) (by intro u hu;rw[List.mem_singleton.1 hu];rfl) (by unfold maxLen;omega) (by omega) (by simp;omega) ?_;intro v' w1 hown' hgrow _;obtain⟨g',cap',rfl⟩:=ownsRow_succ hown';obtain⟨hv1,hv2,hr2,hk2,hb2⟩:=(agw HV.out HG.out.below).appended (by decide) (aie (aen HROW.out HG.out.below) (show w.heap.size≤W0.heap.size by omega)) (by omega) (Nat.le_refl _) (aie hown' (show w.heap.size≤W0.heap.size by omega)) hgrow;have hc2:=hv1.cell;have hf2:=hv1.frozen;have HOWN:=hid hown';have HGR:=hid hgrow;have HB2:=hid hb2;have HK2:=hid hk2;have HV2:=hid hv2;have HV1:=hid hv1;clear hown' hgrow hb2 hk2 hv2 hr2 hv1))
  have hw1:Below W0.heap.size w' w1:=akW (aen HROW.out HG.out.below) (Nat.le_trans hsz hgs) HGR.out
  have hkp:ajY (w.heap.size+2) (w.heap.size+1) (w.heap.size+3) W w1:=aec ((HG.out.below.mono hsz).trans hw1) (by omega) (by omega) (by omega)
  have hrow3:=HOWN.out.kept (grownBy_setCell' w1 w.heap.size (.slice (some ⟨g',0,none⟩) (pre.length+1) cap')) (.inr (HV1.out.not_row (by decide) HOWN.out).symm)
  have hz3:=HB2.out.size
  refine⟨(adQ HG.out.below).trans (HK2.out.from _),aij hkp (anY _ (by omega) (by omega) (by omega)),⟨⟨_,HV2.out,?_,trivial⟩,Nat.le_trans (Nat.le_trans hsz hgs) hz3⟩,hB.trans ((HG.out.below.mono hB.size).trans HB2.out)⟩
  rw[List.length_append,List.map_append,List.map_cons,List.map_nil,hno]
  exact hrow3
 case done=>
  rintro D W hD ⟨⟨⟨v,hv,hrow,_⟩,hsz⟩,hB⟩ hK
  have hc:=hv.cell
  gi_wp2
  refine⟨by simp,.inl ⟨_,_,rfl,run_takeDeferred hK,?_⟩⟩
  have hl:(UG 3).length=(p::ps).length:=by rw[←e1,List.length_map]
  have hm2:((UG 3).map fun e=>Value.string (S e.name))=(p::ps).map fun x=>.string (S (ag9 x)):=by
   rw[←e1,List.map_map]
   have:=congrArg (List.map fun l=>Value.string (S l)) (akX 3)
   simp only[List.map_map]at this
   exact this.symm
  refine⟨_,results_tmp2 rfl _ _ _,v,rfl,?_,hB.trans (belowK_b (w:=w) (Nat.le_refl _) W D _ _ (by omega) hK rfl rfl)⟩
  rw[hl,hm2]
  exact ownsRow_putObj (aie hrow (show w.heap.size≤W0.heap.size by omega)) _ hK rfl
 case stop=>
  rintro D c pre W _ _ h _
  exact h.elim
end Go.Proofs.YtmffejnigppbpaaGreatDoor

set_option maxHeartbeats 2000000
set_option maxRecDepth 100000
namespace Go.Proofs.YtmffejnigppbpaaGreatDoor
open Go.RowKit
theorem Ux.one1{w:World}{b:Nat}{x:List UInt8}(h:w.cell? ⟨b,0,none⟩=some (.string (S x))):Ux w (.slice (some ⟨b,0,none⟩) 1 1) [x]:=by
 refine⟨⟨by simp,by intro u hu;rw[List.mem_singleton.1 hu];rfl,.inr ⟨b,0,1,rfl,World.block_lt_of_cell? _ _ h,by simp,?_⟩⟩,by simp[ap0]⟩
 intro j hj
 obtain rfl:j=0:=by simpa using hj
 simpa using h
theorem UN.one{w:World}{b c:Nat}{nm x:List UInt8}(h:w.cell? ⟨b,0,none⟩=some (.string (S x)))(h1:w.cell? ⟨c,0,none⟩=some (.string (S nm)))(h2:w.cell? ⟨c,1,none⟩=some (.slice (some ⟨b,0,none⟩) 1 1)) :
  UN w (.slice (some ⟨c,0,none⟩) 1 1) [(nm,[x])]:=by
 refine⟨_,_,rfl,by simp,fun _=>⟨c,0,rfl,World.block_lt_of_cell? _ _ h1,?_⟩⟩
 intro i p hp
 match i,hp with
 |0,hp=>
  simp at hp
  subst hp
  exact⟨_,by simpa using h1,by simpa using h2,Ux.one1 h⟩
 |n+1,hp=>simp at hp
theorem arS:acX (UG 4) (Eg [97,100,114])=(3,0,0,7):=by decide +kernel
theorem arT:typeOf (acX (UG 4) (Eg [84,90])).1 [([118,97,108,117,101],[[85,84,67,45,79,70,70,83,69,84]])]=6:=by decide +kernel
theorem atU(w:World)(hM:aeV w):Um 19 #[] w (.bool true):=by
 have ho:=amK [97,100,114] 4 w (.inr rfl) (by simp) hM
 rw[arS]at ho
 have HO:=hid ho
 have HM:=hid hM
 have kd:=fun W=>avH 8 W
 have KD:=hid kd
 clear ho hM kd
 go_enter Tryz.func19,Tryz.ntmps19
 go_wp2_with fail
 refine HO.out.use ?_
 intro w1 g1
 have hA:=g1.alloc (.cells #[.int .i64 3,.int .i64 0,.int .i64 0,.int .i64 7] 47)
 go_wp2_with fail
 generalize hW:World.alloc _ _=W4
 have gW:G w W4:=by rw[←hW];exact(hA.alloc _).alloc _
 have p1:W4.cell? ⟨w1.heap.size+1,0,none⟩=some (.string (S [85,84,67,45,79,70,70,83,69,84])):=by rw[←hW];simp[go_sem];rfl
 have p2:W4.cell? ⟨w1.heap.size+1+1,0,none⟩=some (.string (S [118,97,108,117,101])):=by rw[←hW];simp[go_sem];rfl
 have p3:W4.cell? ⟨w1.heap.size+1+1,1,none⟩=some (.slice (some ⟨w1.heap.size+1,0,none⟩) 1 1):=by rw[←hW];simp[go_sem]
 have q0:W4.cell? ⟨w1.heap.size,0,none⟩=some (.int .i64 3):=by rw[←hW];simp[go_sem]
 have q1:W4.cell? ⟨w1.heap.size,1,none⟩=some (.int .i64 0):=by rw[←hW];simp[go_sem]
 have q2:W4.cell? ⟨w1.heap.size,2,none⟩=some (.int .i64 0):=by rw[←hW];simp[go_sem]
 have q3:W4.cell? ⟨w1.heap.size,3,none⟩=some (.int .i64 7):=by rw[←hW];simp[go_sem]
 have hb:w1.heap.size<W4.heap.size:=World.block_lt_of_cell? _ _ q0
 have ht:=amL [84,90] (.slice (some ⟨w1.heap.size+1+1,0,none⟩) 1 1) [([118,97,108,117,101],[[85,84,67,45,79,70,70,83,69,84]])] 4 W4 (.inr rfl) (by simp) (UN.one p1 p2 p3) (by simp) (by simp) (by simp) (HM.out.grow gW)
 rw[arT]at ht
 refine ht.use ?_
 intro w5 g5
 have r0:=(g5.cell (p:=⟨w1.heap.size,0,none⟩) hb).trans q0
 have r1:=(g5.cell (p:=⟨w1.heap.size,1,none⟩) hb).trans q1
 have r2:=(g5.cell (p:=⟨w1.heap.size,2,none⟩) hb).trans q2
 have r3:=(g5.cell (p:=⟨w1.heap.size,3,none⟩) hb).trans q3
 have GG:=hid (gW.trans g5)
 clear hW ht p1 p2 p3 q0 q1 q2 q3 g5 gW hA HO
 go_wp2_with fail
 refine(KD.out _).use ?_
 go_wp2_with fail
 go_ret
 exact⟨rfl,GG.out⟩
end Go.Proofs.YtmffejnigppbpaaGreatDoor

namespace Go.Proofs.YtmffejnigppbpaaGreatDoor
open Go.RowKit
theorem aym{w:World}{g n k base:Nat}{cs:Array Value}{e:TypeId}(h:w.heap[g]?=some (.cells cs e (0,0)))(hb:base≤g)(hm:n≤maxLen)(hs:cs.size=n*k):w.ownsRow base e k (.slice (some ⟨g,0,none⟩) n n) n cs.toList:=
 ⟨by simp[hs],.inr ⟨g,n,cs,rfl,hb,h,Nat.le_refl _,hm,hs,by rw[←hs,←Array.length_toList];exact List.take_length⟩⟩
theorem aqi{w:World}{base:Nat}{t:TypeId}{k n:Nat}{v:Value}{cs:List Value}(h:w.ownsRow base t k v n cs):∃a c,v=.slice a n c:=by
 rcases h.2 with⟨e,h0⟩|⟨g,cap,cur,e,_⟩
 ·exact⟨none,0,by rw[e,h0]⟩
 ·exact⟨_,_,e⟩
end Go.Proofs.YtmffejnigppbpaaGreatDoor
