/-
  Texts merged into one: Holds, ValPlain, ValSpec.
-/
import Derived.Test.YtmffejnigppbpaaGreatDoorDXMUtf
import Derived.Test.YtmffejnigppbpaaGreatDoorDXMA77
import Derived.Test.YtmffejnigppbpaaGreatDoorDXMA59
import Derived.Test.YtmffejnigppbpaaGreatDoorDXMLaws
set_option linter.unusedVariables false
set_option linter.unusedSimpArgs false
set_option maxHeartbeats 1000000
set_option maxRecDepth 100000
namespace Go.Proofs.YtmffejnigppbpaaGreatDoor
open Go.RowKit
theorem afZ(s:List UInt8)(lines:Bool)(w:World)(hs:s.length≤1000000):adV 161 #[.string (S s),.bool lines] w (.bool (Af s lines)):=by
 have hbad:=fun W=>alF s W (by omega)
 have HB:=hid hbad
 obtain⟨o,ho⟩:∃o,UL s=o:=⟨_,rfl⟩
 rw[ho]at HB
 have HO:=hid ho
 clear hbad ho
 cases lines with
 |false=>
  go_enter Tryz.func161,Tryz.ntmps161
  go_wp2_with fail
  go_loop [9] (fun i=>∃k:Nat,k≤s.length∧i=.int .i64 k∧(s.take k).all (af7 false)=true) (fun i=>s.length-(intOf i).toNat)
  case atStart=>exact⟨0,Nat.zero_le _,rfl,rfl⟩
  case round=>
   obtain⟨k,hk,rfl,hr⟩:=hrel
   have HR:=hid hr;clear hr
   by_cases hlt:k<s.length
   case neg=>
    have HA:=hid (alB HR.out (by omega))
    cases o with
    |none=>
     go_wp2_with fail
     refine(HB.out _).use ?_
     simp only[anx]
     go_wp2_with fail
     go_ret
     exact⟨zF (akn HA.out HO.out).symm,rfl⟩
    |some p=>
     go_wp2_with fail
     refine(HB.out _).use ?_
     simp only[anx]
     go_wp2_with fail
     go_ret
     exact⟨zF (akm HO.out).symm,rfl⟩
   have hb:=s[k].toNat_lt
   go_wp2_with fail
   all_goals try (go_ret;refine⟨zF (al4 (arZ hlt (by unfold af7;rw[decide_eq_false_iff_not];(try simp only[Bool.false_eq_true,and_false,or_false,and_true]);((try simp only[beq_iff_eq,beq_eq_false_iff_ne,bne_iff_ne,bne_eq_false_iff_eq,Bool.not_eq_true,ne_eq]at *);omega)))).symm,rfl⟩;done)
   all_goals go_round
   all_goals try (case measure=>simp[intOf];omega)
   all_goals exact⟨k+1,by omega,by go_num,aj6 HR.out hlt (by unfold af7;rw[decide_eq_true_iff];(try simp only[Bool.false_eq_true,and_false,or_false,and_true]);((try simp only[beq_iff_eq,beq_eq_false_iff_ne,bne_iff_ne,bne_eq_false_iff_eq,Bool.not_eq_true,ne_eq]at *);omega))⟩
 |true=>
  go_enter Tryz.func161,Tryz.ntmps161
  go_wp2_with fail
  go_loop [9] (fun i=>∃k:Nat,k≤s.length∧i=.int .i64 k∧(s.take k).all (af7 true)=true) (fun i=>s.length-(intOf i).toNat)
  case atStart=>exact⟨0,Nat.zero_le _,rfl,rfl⟩
  case round=>
   obtain⟨k,hk,rfl,hr⟩:=hrel
   have HR:=hid hr;clear hr
   by_cases hlt:k<s.length
   case neg=>
    have HA:=hid (alB HR.out (by omega))
    cases o with
    |none=>
     go_wp2_with fail
     refine(HB.out _).use ?_
     simp only[anx]
     go_wp2_with fail
     go_ret
     exact⟨zF (akn HA.out HO.out).symm,rfl⟩
    |some p=>
     go_wp2_with fail
     refine(HB.out _).use ?_
     simp only[anx]
     go_wp2_with fail
     go_ret
     exact⟨zF (akm HO.out).symm,rfl⟩
   have hb:=s[k].toNat_lt
   go_wp2_with fail
   all_goals try (go_ret;refine⟨zF (al4 (arZ hlt (by unfold af7;rw[decide_eq_false_iff_not];(try simp only[Bool.false_eq_true,and_false,or_false,and_true]);((try simp only[beq_iff_eq,beq_eq_false_iff_ne,bne_iff_ne,bne_eq_false_iff_eq,Bool.not_eq_true,ne_eq]at *);omega)))).symm,rfl⟩;done)
   all_goals go_round
   all_goals try (case measure=>simp[intOf];omega)
   all_goals exact⟨k+1,by omega,by go_num,aj6 HR.out hlt (by unfold af7;rw[decide_eq_true_iff];(try simp only[Bool.false_eq_true,and_false,or_false,and_true]);((try simp only[beq_iff_eq,beq_eq_false_iff_ne,bne_iff_ne,bne_eq_false_iff_eq,Bool.not_eq_true,ne_eq]at *);omega))⟩
end Go.Proofs.YtmffejnigppbpaaGreatDoor

namespace Go.Proofs.YtmffejnigppbpaaGreatDoor
open Go.RowKit
theorem auc{p:List UInt8}(h:∀b∈p,128≤b.toNat):adK p=p:=by
 induction p with
 |nil=>rfl
 |cons b t ih=>
  have hb:=h b List.mem_cons_self
  have e:adC agV b=[b]:=by
   unfold adC agV
   rw[if_neg (by rintro rfl;exact absurd hb (by decide)),if_neg (by rintro rfl;exact absurd hb (by decide)),if_neg (by rintro rfl;exact absurd hb (by decide)),if_neg (by rintro rfl;exact absurd hb (by decide))];rfl
  show adC agV b++adK t=_
  rw[e,ih fun x hx=>h x (List.mem_cons_of_mem _ hx)];rfl
theorem aud(c:UInt8)(h:c.toNat<128):∀b∈adC agV c,b.toNat<128:=by
 have key:=aei (fun c=>decide (c.toNat<128→∀b∈adC agV c,b.toNat<128)) (by decide +kernel) c
 exact(of_decide_eq_true key) h
theorem av3:∀l,UL l=none→UL (adK l)=none:=by
 refine amZ ?_ ?_
 ·exact aea
 ·intro l h ih
  have e:l=l.take (Ut l)++l.drop (Ut l):=(List.take_append_drop _ _).symm
  rcases ate h with⟨h1,b,t,rfl,hb⟩|hh
  ·rw[h1]at ih
   show UL (adC agV b++adK t)=none
   exact ae1 (akl _ (aud b hb)) ih
  ·rw[e,show adK (l.take (Ut l)++l.drop (Ut l))=adK (l.take (Ut l))++adK (l.drop (Ut l))from ahg _ _ _,auc hh]
   exact ae1 (auR h) ih
theorem axv(c:UInt8)(h:af7 true c=true):∀b∈adC agV c,af7 false b=true:=by
 have key:=aei (fun c=>decide (af7 true c=true→∀b∈adC agV c,af7 false b=true)) (by decide +kernel) c
 exact(of_decide_eq_true key) h
theorem aje{s:List UInt8}(h:Af s true=true):Af (adK s) false=true:=by
 obtain⟨h1,h2⟩:=adH.1 h
 refine adH.2 ⟨?_,av3 s h2⟩
 intro b hb
 obtain⟨c,hc,hb⟩:=List.mem_flatMap.1 hb
 exact axv c (h1 c hc) b hb
theorem ala:∀(x:List UInt8) (xs:List (List UInt8)),(∀s∈x::xs,Af s true=true)→Af (acT (x::xs)) false=true
 |x,[],h=>by
  have:acT [x]=adK x:=by rw[agk];simp[Uu]
  rw[this];exact aje (h x List.mem_cons_self)
 |x,y::ys,h=>by
  have:=aoY [x] (y::ys) (by simp) (by simp)
  rw[List.singleton_append]at this
  rw[this]
  have e:acT [x]=adK x:=by rw[agk];simp[Uu]
  rw[e]
  exact adp (aje (h x List.mem_cons_self)) (aez (by decide) (by decide) (ala y ys fun s hs=>h s (List.mem_cons_of_mem _ hs)))
theorem ahl{l:List (List UInt8)}(h0:l≠[])(h:∀s∈l,Af s true=true):Af (acT l) false=true:=by
 cases l with
 |nil=>exact absurd rfl h0
 |cons x xs=>exact ala x xs h
theorem alb:∀(x:List (List UInt8)) (xs:List (List (List UInt8))),(∀l∈x::xs,l≠[]∧∀s∈l,Af s true=true)→Af (aeY (x::xs)) false=true
 |x,[],h=>by
  have:aeY [x]=acT x:=by rw[agZ];simp[Uu]
  obtain⟨h1,h2⟩:=h x List.mem_cons_self
  rw[this];exact ahl h1 h2
 |x,y::ys,h=>by
  have e:aeY (x::y::ys)=acT x++59::aeY (y::ys):=by
   rw[agZ,agZ];simp[Uu]
  obtain⟨h1,h2⟩:=h x List.mem_cons_self
  rw[e]
  exact adp (ahl h1 h2) (aez (by decide) (by decide) (alb y ys fun l hl=>h l (List.mem_cons_of_mem _ hl)))
theorem am2{b:UInt8}(h:dd b):32≤b.toNat∧b.toNat≤126:=by
 rcases h with h|rfl
 ·have:=asN h;omega
 ·decide
theorem aj8{z:Int}(hz:adF z=true):∀b∈adA z,32≤b.toNat∧b.toNat≤126:=by
 have hr : -840≤z∧z≤840:=by unfold adF at hz;simpa using hz
 have key:∀k:Fin 1681,(adA ((k.val:Int)-840)).all (fun b=>decide (32≤b.toNat∧b.toNat≤126))=true:=by decide +kernel
 intro b hb
 have h2:=key ⟨(z+840).toNat,by omega⟩
 have e:(((z+840).toNat:Nat):Int)-840=z:=by omega
 simp only[e]at h2
 simpa using List.all_eq_true.1 h2 b hb
theorem ar2(x:St)(hr:x.right=0):∀b∈x.text,32≤b.toNat∧b.toNat≤126:=by
 have g:=St.good hr
 obtain⟨f1,f2,f3⟩:=aof (St.right_zero hr).1
 obtain⟨_,hdd⟩:=am6 x g f1
 intro b hb
 unfold St.text at hb
 split at hb
 ·exact am2 (hdd b hb)
 ·rename_i ht
  have hc:=(am7 x g f2 ht).bytes
  rcases List.mem_append.1 hb with h|h
  ·exact am2 (hdd b h)
  ·rcases List.mem_cons.1 h with rfl|h
   ·decide
   ·rcases List.mem_append.1 h with h|h
    ·exact am2 (hc b h)
    ·split at h
     ·exact aj8 g.z b h
     ·cases h
theorem ao7{c:UInt8}(h:aeh c.toNat=true):32≤c.toNat∧c.toNat≤126:=by
 unfold aeh at h
 rw[decide_eq_true_iff]at h
 omega
theorem ajf:∀(l:List UInt8) (first:Bool) (cur:Nat),aiG first cur l=true→∀b∈l,32≤b.toNat∧b.toNat≤126
 |[],_,_,_,b,hb=>by cases hb
 |c::t,first,cur,h,b,hb=>by
  unfold aiG at h
  split at h
  ·rename_i hc
   rw[Bool.and_eq_true]at h
   rcases List.mem_cons.1 hb with rfl|hb
   ·rw[hc];decide
   ·exact ajf t false 0 h.2 b hb
  ·rw[Bool.and_eq_true]at h
   rcases List.mem_cons.1 hb with rfl|hb
   ·unfold aiY at h
    rw[Bool.and_eq_true]at h
    exact ao7 h.1.1
   ·exact ajf t first (cur+1) h.2 b hb
theorem agB{s:List UInt8}{l:Bool}(h:∀c∈s,32≤c.toNat∧c.toNat≤126):Af s l=true:=afD h
end Go.Proofs.YtmffejnigppbpaaGreatDoor

namespace Go.Proofs.YtmffejnigppbpaaGreatDoor
open Go.RowKit
def isT(k:Int):Bool:=decide (k=1∨k=4∨k=7∨k=8)
def isL(k:Int):Bool:=decide (k=2∨k=3)
def St.isZero(t:St):Bool:=decide (t.y=0∧t.m=0∧t.d=0∧t.h=0∧t.n=0∧t.s=0∧t.zd=false∧t.zn=0)
theorem St.zero_iff{t:St}:t.isZero=true↔t=St0:=by
 obtain⟨y,m,d,h,n,s,zd,zn⟩:=t
 unfold St.isZero St0
 rw[decide_eq_true_iff]
 simp
def Vl.only(v:Vl):Bool:=(isT v.ty||decide (v.tx=[]))&&(isL v.ty||decide (v.ps=[]))&&(decide (v.ty=5)||v.st.isZero)&&(decide (v.ty=6)||decide (v.n=0))
def aj9(l:List UInt8):Bool:=decide (agl l≠0)&&(ak8 ak7 l).isNone&&decide (agl l+1≠l.length)
def ar6(ps:List (List (List UInt8))):Bool:=ps.all fun l=>l.all fun s=>Af s true
def Vl.body(v:Vl):Bool:=
 if v.ty=2∨v.ty=3 then !(decide (v.ps=[])||decide (v.ty=2∧v.ps.length≠1)) && !(v.ps.any fun l=>l.isEmpty)&&ar6 v.ps
 else if v.ty=4 then aj9 v.tx
 else if v.ty=5 then decide (v.st.right=0)
 else if v.ty=6 then adF v.n
 else if v.ty=7 then afh v.tx
 else Af v.tx (decide (v.ty=1))
def Vl.ok(v:Vl):Bool:=decide (1≤v.ty∧v.ty<9)&&v.only&&v.body
def Vl.text(v:Vl):List UInt8:=
 if v.ty=1 then adK v.tx else if v.ty=2∨v.ty=3 then aeY v.ps else if v.ty=5 then v.st.text else if v.ty=6 then adA v.n else v.tx
def tV(k:Int)(s:List UInt8):Vl:=⟨k,s,[],St0,0⟩
def ady(s:List UInt8)(k:Int):Option Vl:=
 if ¬(1≤k∧k<9)then none
 else if Af s false=false then none
 else if k=1 then(match C9 [] s 0 [] [] []with|.good (t::_) _=>some (tV 1 t)|_=>none)
 else if k=2 then(match C9 [44] s 0 [] [] []with|.good T _=>some ⟨2,[],[T],St0,0⟩|_=>none)
 else if k=3 then(match C9 [44,59] s 0 [] [] []with|.good (t::ts) cs=>some ⟨3,[],UD [t] cs ts,St0,0⟩|_=>none)
 else if k=4 then(if aj9 s=true then some (tV 4 s)else none)
 else if k=5 then(if (afw s).2=0 then some ⟨5,[],[],(afw s).1,0⟩else none)
 else if k=6 then(if (aji s).2=0 then some ⟨6,[],[],St0,(aji s).1⟩else none)
 else if k=7 then(if afh s=true then some (tV 7 s)else none)
 else some (tV 8 s)
theorem ar7(x:List UInt8):C9 [] (adK x) 0 [] [] []=.good [x] []:=by
 have:=ahS [] (by simp) x [] 0 [] [] []
 rw[List.append_nil]at this
 rw[this,adc];rfl
theorem axw{x:List (List UInt8)}(h:x≠[]):C9 [44] (acT x) 0 [] [] []=.good x (List.replicate (x.length-1) 44):=by
 cases x with
 |nil=>exact absurd rfl h
 |cons a t=>exact at6 a t
theorem av4{ps:List (List (List UInt8))}(h0:ps≠[])(h:∀l∈ps,l≠[]):∃t ts cs,C9 [44,59] (aeY ps) 0 [] [] []=.good (t::ts) cs∧UD [t] cs ts=ps:=by
 cases ps with
 |nil=>exact absurd rfl h0
 |cons l ls=>
  obtain⟨x,xs,C,e1,_,e3⟩:=ao0 ls l (h l List.mem_cons_self) (fun m hm=>h m (List.mem_cons_of_mem _ hm)) 0 [] []
  exact⟨x,xs,C,by simpa using e1,e3⟩
theorem ar8{v:Vl}(h:v.only=true):(isT v.ty=false→v.tx=[])∧(isL v.ty=false→v.ps=[])∧(v.ty≠5→v.st=St0)∧(v.ty≠6→v.n=0):=by
 unfold Vl.only at h
 simp only[Bool.and_eq_true,Bool.or_eq_true,decide_eq_true_eq,St.zero_iff]at h
 obtain⟨⟨⟨h1,h2⟩,h3⟩,h4⟩:=h
 refine⟨fun e=>?_,fun e=>?_,fun e=>?_,fun e=>?_⟩
 ·rcases h1 with h|h
  ·rw[e]at h;cases h
  ·exact h
 ·rcases h2 with h|h
  ·rw[e]at h;cases h
  ·exact h
 ·rcases h3 with h|h
  ·exact absurd h e
  ·exact h
 ·rcases h4 with h|h
  ·exact absurd h e
  ·exact h
theorem ajg{ps:List (List (List UInt8))}:ar6 ps=true↔∀l∈ps,∀s∈l,Af s true=true:=by
 unfold ar6;simp[List.all_eq_true]
theorem aue{s:List UInt8}(h:aj9 s=true):Af s false=true:=by
 unfold aj9 at h
 simp only[Bool.and_eq_true,Option.isNone_iff_eq_none]at h
 have:=amT.1 h.1.2
 refine agB fun c hc=>?_
 have:=List.all_eq_true.1 this c hc
 unfold ak7 at this
 rw[decide_eq_true_iff]at this
 omega
theorem aka(v:Vl)(h:v.ok=true):ady v.text v.ty=some v∧Af v.text false=true:=by
 unfold Vl.ok at h
 simp only[Bool.and_eq_true,decide_eq_true_eq]at h
 obtain⟨⟨⟨h1,h9⟩,ho⟩,hb⟩:=h
 obtain⟨o1,o2,o3,o4⟩:=ar8 ho
 obtain⟨ty,tx,ps,st,n⟩:=v
 simp only at h1 h9 o1 o2 o3 o4
 have hk:ty=1∨ty=2∨ty=3∨ty=4∨ty=5∨ty=6∨ty=7∨ty=8:=by omega
 rcases hk with rfl|rfl|rfl|rfl|rfl|rfl|rfl|rfl
 ·obtain rfl:=o2 rfl
  obtain rfl:=o3 (by decide)
  obtain rfl:=o4 (by decide)
  have hb:Af tx true=true:=hb
  have hh:=aje hb
  refine⟨?_,hh⟩
  show ady (adK tx) 1=_
  unfold ady
  rw[if_neg (by decide),if_neg (by rw[hh];decide),if_pos rfl,ar7];rfl
 ·obtain rfl:=o1 rfl
  obtain rfl:=o3 (by decide)
  obtain rfl:=o4 (by decide)
  unfold Vl.body at hb
  rw[if_pos (.inl rfl)]at hb
  simp only[Bool.and_eq_true,Bool.not_eq_true',Bool.or_eq_false_iff,decide_eq_false_iff_not]at hb
  obtain⟨⟨⟨b1,b2⟩,b3⟩,b4⟩:=hb
  have hl:ps.length=1:=by simpa using b2
  obtain⟨l,rfl⟩:=List.length_eq_one_iff.1 hl
  have hne:l≠[]:=by
   intro e;subst e;simp at b3
  have hj:aeY [l]=acT l:=by rw[agZ];simp[Uu]
  have hh:=ahl hne (ajg.1 b4 l List.mem_cons_self)
  show ady (aeY [l]) 2=_∧Af (aeY [l]) false=true
  rw[hj]
  refine⟨?_,hh⟩
  unfold ady
  rw[if_neg (by decide),if_neg (by rw[hh];decide),if_neg (by decide),if_pos rfl,axw hne]
 ·obtain rfl:=o1 rfl
  obtain rfl:=o3 (by decide)
  obtain rfl:=o4 (by decide)
  unfold Vl.body at hb
  rw[if_pos (.inr rfl)]at hb
  simp only[Bool.and_eq_true,Bool.not_eq_true',Bool.or_eq_false_iff,decide_eq_false_iff_not]at hb
  obtain⟨⟨⟨b1,b2⟩,b3⟩,b4⟩:=hb
  have hne:∀l∈ps,l≠[]:=by
   intro l hl e
   subst e
   rw[List.any_eq_false]at b3
   exact b3 [] hl rfl
  have hh:Af (aeY ps) false=true:=by
   cases ps with
   |nil=>exact absurd rfl b1
   |cons x xs=>exact alb x xs fun l hl=>⟨hne l hl,ajg.1 b4 l hl⟩
  obtain⟨t,ts,cs,e1,e2⟩:=av4 b1 hne
  show ady (aeY ps) 3=_∧Af (aeY ps) false=true
  refine⟨?_,hh⟩
  unfold ady
  rw[if_neg (by decide),if_neg (by rw[hh];decide),if_neg (by decide),if_neg (by decide),if_pos rfl,e1]
  simp only[e2]
 ·obtain rfl:=o2 rfl
  obtain rfl:=o3 (by decide)
  obtain rfl:=o4 (by decide)
  have hb:aj9 tx=true:=hb
  have hh:=aue hb
  show ady tx 4=_∧Af tx false=true
  refine⟨?_,hh⟩
  unfold ady
  rw[if_neg (by decide),if_neg (by rw[hh];decide),if_neg (by decide),if_neg (by decide),if_neg (by decide),if_pos rfl,if_pos hb];rfl
 ·obtain rfl:=o1 rfl
  obtain rfl:=o2 rfl
  obtain rfl:=o4 (by decide)
  have hb:decide (st.right=0)=true:=hb
  have hr:st.right=0:=by simpa using hb
  have hh:Af st.text false=true:=agB (ar2 st hr)
  show ady st.text 5=_∧Af st.text false=true
  refine⟨?_,hh⟩
  unfold ady
  rw[if_neg (by decide),if_neg (by rw[hh];decide),if_neg (by decide),if_neg (by decide),if_neg (by decide),if_neg (by decide),if_pos rfl,ase st hr];rfl
 ·obtain rfl:=o1 rfl
  obtain rfl:=o2 rfl
  obtain rfl:=o3 (by decide)
  have hb:adF n=true:=hb
  have hh:Af (adA n) false=true:=agB (aj8 hb)
  show ady (adA n) 6=_∧Af (adA n) false=true
  refine⟨?_,hh⟩
  unfold ady
  rw[if_neg (by decide),if_neg (by rw[hh];decide),if_neg (by decide),if_neg (by decide),if_neg (by decide),if_neg (by decide),if_neg (by decide),if_pos rfl,alf n hb];rfl
 ·obtain rfl:=o2 rfl
  obtain rfl:=o3 (by decide)
  obtain rfl:=o4 (by decide)
  have hb:afh tx=true:=hb
  have hh:Af tx false=true:=agB (ajf tx true 0 hb)
  show ady tx 7=_∧Af tx false=true
  refine⟨?_,hh⟩
  unfold ady
  rw[if_neg (by decide),if_neg (by rw[hh];decide),if_neg (by decide),if_neg (by decide),if_neg (by decide),if_neg (by decide),if_neg (by decide),if_neg (by decide),if_pos rfl,if_pos hb];rfl
 ·obtain rfl:=o2 rfl
  obtain rfl:=o3 (by decide)
  obtain rfl:=o4 (by decide)
  have hh:Af tx false=true:=hb
  show ady tx 8=_∧Af tx false=true
  refine⟨?_,hh⟩
  unfold ady
  rw[if_neg (by decide),if_neg (by rw[hh];decide),if_neg (by decide),if_neg (by decide),if_neg (by decide),if_neg (by decide),if_neg (by decide),if_neg (by decide),if_neg (by decide)];rfl
end Go.Proofs.YtmffejnigppbpaaGreatDoor
