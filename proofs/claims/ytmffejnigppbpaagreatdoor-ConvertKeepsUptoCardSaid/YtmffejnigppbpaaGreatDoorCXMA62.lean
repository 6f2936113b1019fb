/-
  Texts merged into one: Holds, ValPlain, ValSpec, Value, B64Laws, DoorW, DoorR, DoorE.
-/
import Derived.Test.YtmffejnigppbpaaGreatDoorCXMUtf
import Derived.Test.YtmffejnigppbpaaGreatDoorCXMA47
import Derived.Test.YtmffejnigppbpaaGreatDoorCXMA52
import Derived.Test.YtmffejnigppbpaaGreatDoorCXMA58
import Derived.Test.YtmffejnigppbpaaGreatDoorCXMLaws
import Derived.Test.YtmffejnigppbpaaGreatDoorCXMTell
import Derived.Test.YtmffejnigppbpaaGreatDoorCXMA70
import Derived.Test.YtmffejnigppbpaaGreatDoorRows
import Derived.ChangeSame
import Derived.ChangeVars
import Derived.JoinedOf
import Derived.RowKit
import Derived.RowKitTokens
import Derived.LaidLaws
import Derived.LaidHandle
import Derived.Stop.Joined
import Derived.Lib.LaidU8
import Derived.Test.YtmffejnigppbpaaGreatDoorCXMRules
set_option linter.unusedVariables false
set_option linter.unusedSimpArgs false
set_option maxHeartbeats 1000000
set_option maxRecDepth 100000
namespace Go.Proofs.YtmffejnigppbpaaGreatDoor
open Go.RowKit
theorem yL(s:List UInt8)(lines:Bool)(w:World)(hs:s.length≤1000000):nT 161 #[.string (S s),.bool lines] w (.bool (dF s lines)):=by
 have hbad:=fun W=>Vq s W (by omega)
 have HB:=hid hbad
 obtain⟨o,ho⟩:∃o,kR s=o:=⟨_,rfl⟩
 rw[ho]at HB
 have HO:=hid ho
 clear hbad ho
 cases lines with
 |false=>
  go_enter Tryz.func161,Tryz.ntmps161
  go_wp2_with fail
  go_loop [9] (fun i=>∃k:Nat,k≤s.length∧i=.int .i64 k∧(s.take k).all (uK false)=true) (fun i=>s.length-(intOf i).toNat)
  case atStart=>exact⟨0,Nat.zero_le _,rfl,rfl⟩
  case round=>
   obtain⟨k,hk,rfl,hr⟩:=hrel
   have HR:=hid hr;clear hr
   by_cases hlt:k<s.length
   case neg=>
    have HA:=hid (Dh HR.out (by omega))
    cases o with
    |none=>
     go_wp2_with fail
     refine(HB.out _).use ?_
     simp only[TK]
     go_wp2_with fail
     go_ret
     exact⟨cO (DF HA.out HO.out).symm,rfl⟩
    |some p=>
     go_wp2_with fail
     refine(HB.out _).use ?_
     simp only[TK]
     go_wp2_with fail
     go_ret
     exact⟨cO (DD HO.out).symm,rfl⟩
   have hb:=s[k].toNat_lt
   go_wp2_with fail
   all_goals try (go_ret;refine⟨cO (GN (NL hlt (by unfold uK;rw[decide_eq_false_iff_not];(try simp only[Bool.false_eq_true,and_false,or_false,and_true]);((try simp only[beq_iff_eq,beq_eq_false_iff_ne,bne_iff_ne,bne_eq_false_iff_eq,Bool.not_eq_true,ne_eq]at *);omega)))).symm,rfl⟩;done)
   all_goals go_round
   all_goals try (case measure=>simp[intOf];omega)
   all_goals exact⟨k+1,by omega,by go_num,yx HR.out hlt (by unfold uK;rw[decide_eq_true_iff];(try simp only[Bool.false_eq_true,and_false,or_false,and_true]);((try simp only[beq_iff_eq,beq_eq_false_iff_ne,bne_iff_ne,bne_eq_false_iff_eq,Bool.not_eq_true,ne_eq]at *);omega))⟩
 |true=>
  go_enter Tryz.func161,Tryz.ntmps161
  go_wp2_with fail
  go_loop [9] (fun i=>∃k:Nat,k≤s.length∧i=.int .i64 k∧(s.take k).all (uK true)=true) (fun i=>s.length-(intOf i).toNat)
  case atStart=>exact⟨0,Nat.zero_le _,rfl,rfl⟩
  case round=>
   obtain⟨k,hk,rfl,hr⟩:=hrel
   have HR:=hid hr;clear hr
   by_cases hlt:k<s.length
   case neg=>
    have HA:=hid (Dh HR.out (by omega))
    cases o with
    |none=>
     go_wp2_with fail
     refine(HB.out _).use ?_
     simp only[TK]
     go_wp2_with fail
     go_ret
     exact⟨cO (DF HA.out HO.out).symm,rfl⟩
    |some p=>
     go_wp2_with fail
     refine(HB.out _).use ?_
     simp only[TK]
     go_wp2_with fail
     go_ret
     exact⟨cO (DD HO.out).symm,rfl⟩
   have hb:=s[k].toNat_lt
   go_wp2_with fail
   all_goals try (go_ret;refine⟨cO (GN (NL hlt (by unfold uK;rw[decide_eq_false_iff_not];(try simp only[Bool.false_eq_true,and_false,or_false,and_true]);((try simp only[beq_iff_eq,beq_eq_false_iff_ne,bne_iff_ne,bne_eq_false_iff_eq,Bool.not_eq_true,ne_eq]at *);omega)))).symm,rfl⟩;done)
   all_goals go_round
   all_goals try (case measure=>simp[intOf];omega)
   all_goals exact⟨k+1,by omega,by go_num,yx HR.out hlt (by unfold uK;rw[decide_eq_true_iff];(try simp only[Bool.false_eq_true,and_false,or_false,and_true]);((try simp only[beq_iff_eq,beq_eq_false_iff_ne,bne_iff_ne,bne_eq_false_iff_eq,Bool.not_eq_true,ne_eq]at *);omega))⟩
end Go.Proofs.YtmffejnigppbpaaGreatDoor

namespace Go.Proofs.YtmffejnigppbpaaGreatDoor
open Go.RowKit
theorem WW{p:List UInt8}(h:∀b∈p,128≤b.toNat):kN p=p:=by
 induction p with
 |nil=>rfl
 |cons b t ih=>
  have hb:=h b List.mem_cons_self
  have e:kT vP b=[b]:=by
   unfold kT vP
   rw[if_neg (by rintro rfl;exact absurd hb (by decide)),if_neg (by rintro rfl;exact absurd hb (by decide)),if_neg (by rintro rfl;exact absurd hb (by decide)),if_neg (by rintro rfl;exact absurd hb (by decide))];rfl
  show kT vP b++kN t=_
  rw[e,ih fun x hx=>h x (List.mem_cons_of_mem _ hx)];rfl
theorem WX(c:UInt8)(h:c.toNat<128):∀b∈kT vP c,b.toNat<128:=by
 have key:=ou (fun c=>decide (c.toNat<128→∀b∈kT vP c,b.toNat<128)) (by decide +kernel) c
 exact(of_decide_eq_true key) h
theorem Y9:∀l,kR l=none→kR (kN l)=none:=by
 refine Qr ?_ ?_
 ·exact yz
 ·intro l h ih
  have e:l=l.take (gI l)++l.drop (gI l):=(List.take_append_drop _ _).symm
  rcases VK h with⟨h1,b,t,rfl,hb⟩|hh
  ·rw[h1]at ih
   show kR (kT vP b++kN t)=none
   exact rG (DC _ (WX b hb)) ih
  ·rw[e,show kN (l.take (gI l)++l.drop (gI l))=kN (l.take (gI l))++kN (l.drop (gI l))from wP _ _ _,WW hh]
   exact rG (XD h) ih
theorem aao(c:UInt8)(h:uK true c=true):∀b∈kT vP c,uK false b=true:=by
 have key:=ou (fun c=>decide (uK true c=true→∀b∈kT vP c,uK false b=true)) (by decide +kernel) c
 exact(of_decide_eq_true key) h
theorem AY{s:List UInt8}(h:dF s true=true):dF (kN s) false=true:=by
 obtain⟨h1,h2⟩:=nV.1 h
 refine nV.2 ⟨?_,Y9 s h2⟩
 intro b hb
 obtain⟨c,hc,hb⟩:=List.mem_flatMap.1 hb
 exact aao c (h1 c hc) b hb
theorem Ff:∀(x:List UInt8) (xs:List (List UInt8)),(∀s∈x::xs,dF s true=true)→dF (iJ (x::xs)) false=true
 |x,[],h=>by
  have:iJ [x]=kN x:=by rw[tY];simp[gp]
  rw[this];exact AY (h x List.mem_cons_self)
 |x,y::ys,h=>by
  have:=NG [x] (y::ys) (by simp) (by simp)
  rw[List.singleton_append]at this
  rw[this]
  have e:iJ [x]=kN x:=by rw[tY];simp[gp]
  rw[e]
  exact Bg (AY (h x List.mem_cons_self)) (GU (by decide) (by decide) (Ff y ys fun s hs=>h s (List.mem_cons_of_mem _ hs)))
theorem wZ{l:List (List UInt8)}(h0:l≠[])(h:∀s∈l,dF s true=true):dF (iJ l) false=true:=by
 cases l with
 |nil=>exact absurd rfl h0
 |cons x xs=>exact Ff x xs h
theorem Fg:∀(x:List (List UInt8)) (xs:List (List (List UInt8))),(∀l∈x::xs,l≠[]∧∀s∈l,dF s true=true)→dF (oH (x::xs)) false=true
 |x,[],h=>by
  have:oH [x]=iJ x:=by rw[vS];simp[gp]
  obtain⟨h1,h2⟩:=h x List.mem_cons_self
  rw[this];exact wZ h1 h2
 |x,y::ys,h=>by
  have e:oH (x::y::ys)=iJ x++59::oH (y::ys):=by
   rw[vS,vS];simp[gp]
  obtain⟨h1,h2⟩:=h x List.mem_cons_self
  rw[e]
  exact Bg (wZ h1 h2) (GU (by decide) (by decide) (Fg y ys fun l hl=>h l (List.mem_cons_of_mem _ hl)))
theorem Jk{b:UInt8}(h:dd b):32≤b.toNat∧b.toNat≤126:=by
 rcases h with h|rfl
 ·have:=Vr h;omega
 ·decide
theorem Dn{z:Int}(hz:kU z=true):∀b∈kD z,32≤b.toNat∧b.toNat≤126:=by
 have hr : -840≤z∧z≤840:=by unfold kU at hz;simpa using hz
 have key:∀k:Fin 1681,(kD ((k.val:Int)-840)).all (fun b=>decide (32≤b.toNat∧b.toNat≤126))=true:=by decide +kernel
 intro b hb
 have h2:=key ⟨(z+840).toNat,by omega⟩
 have e:(((z+840).toNat:Nat):Int)-840=z:=by omega
 simp only[e]at h2
 simpa using List.all_eq_true.1 h2 b hb
theorem TQ(x:St)(hr:x.right=0):∀b∈x.text,32≤b.toNat∧b.toNat≤126:=by
 have g:=St.good hr
 obtain⟨f1,f2,f3⟩:=LM (St.right_zero hr).1
 obtain⟨_,hdd⟩:=Jq x g f1
 intro b hb
 unfold St.text at hb
 split at hb
 ·exact Jk (hdd b hb)
 ·rename_i ht
  have hc:=(Jr x g f2 ht).bytes
  rcases List.mem_append.1 hb with h|h
  ·exact Jk (hdd b h)
  ·rcases List.mem_cons.1 h with rfl|h
   ·decide
   ·rcases List.mem_append.1 h with h|h
    ·exact Jk (hc b h)
    ·split at h
     ·exact Dn g.z b h
     ·cases h
theorem NS{c:UInt8}(h:nG c.toNat=true):32≤c.toNat∧c.toNat≤126:=by
 unfold nG at h
 rw[decide_eq_true_iff]at h
 omega
theorem AZ:∀(l:List UInt8) (first:Bool) (cur:Nat),zJ first cur l=true→∀b∈l,32≤b.toNat∧b.toNat≤126
 |[],_,_,_,b,hb=>by cases hb
 |c::t,first,cur,h,b,hb=>by
  unfold zJ at h
  split at h
  ·rename_i hc
   rw[Bool.and_eq_true]at h
   rcases List.mem_cons.1 hb with rfl|hb
   ·rw[hc];decide
   ·exact AZ t false 0 h.2 b hb
  ·rw[Bool.and_eq_true]at h
   rcases List.mem_cons.1 hb with rfl|hb
   ·unfold Aw at h
    rw[Bool.and_eq_true]at h
    exact NS h.1.1
   ·exact AZ t first (cur+1) h.2 b hb
theorem uG{s:List UInt8}{l:Bool}(h:∀c∈s,32≤c.toNat∧c.toNat≤126):dF s l=true:=Oz h
end Go.Proofs.YtmffejnigppbpaaGreatDoor

namespace Go.Proofs.YtmffejnigppbpaaGreatDoor
open Go.RowKit
def isT(k:Int):Bool:=decide (k=1∨k=4∨k=7∨k=8)
def isL(k:Int):Bool:=decide (k=2∨k=3)
def St.isZero(t:St):Bool:=decide (t.y=0∧t.m=0∧t.d=0∧t.h=0∧t.n=0∧t.s=0∧t.zd=false∧t.zn=0)
theorem St.zero_iff{t:St}:t.isZero=true↔t=St0:=by
 obtain⟨y,m,d,h,n,s,zd,zn⟩:=t
 unfold St.isZero St0
 rw[decide_eq_true_iff]
 simp
def Vl.only(v:Vl):Bool:=(isT v.ty||decide (v.tx=[]))&&(isL v.ty||decide (v.ps=[]))&&(decide (v.ty=5)||v.st.isZero)&&(decide (v.ty=6)||decide (v.n=0))
def o9(l:List UInt8):Bool:=decide (rF l≠0)&&(Dk Df l).isNone&&decide (rF l+1≠l.length)
def TT(ps:List (List (List UInt8))):Bool:=ps.all fun l=>l.all fun s=>dF s true
def Vl.body(v:Vl):Bool:=
 if v.ty=2∨v.ty=3 then !(decide (v.ps=[])||decide (v.ty=2∧v.ps.length≠1)) && !(v.ps.any fun l=>l.isEmpty)&&TT v.ps
 else if v.ty=4 then o9 v.tx
 else if v.ty=5 then decide (v.st.right=0)
 else if v.ty=6 then kU v.n
 else if v.ty=7 then pJ v.tx
 else dF v.tx (decide (v.ty=1))
def Vl.ok(v:Vl):Bool:=decide (1≤v.ty∧v.ty<9)&&v.only&&v.body
def Vl.text(v:Vl):List UInt8:=
 if v.ty=1 then kN v.tx else if v.ty=2∨v.ty=3 then oH v.ps else if v.ty=5 then v.st.text else if v.ty=6 then kD v.n else v.tx
def tV(k:Int)(s:List UInt8):Vl:=⟨k,s,[],St0,0⟩
def qg(s:List UInt8)(k:Int):Option Vl:=
 if ¬(1≤k∧k<9)then none
 else if dF s false=false then none
 else if k=1 then(match eH [] s 0 [] [] []with|.good (t::_) _=>some (tV 1 t)|_=>none)
 else if k=2 then(match eH [44] s 0 [] [] []with|.good T _=>some ⟨2,[],[T],St0,0⟩|_=>none)
 else if k=3 then(match eH [44,59] s 0 [] [] []with|.good (t::ts) cs=>some ⟨3,[],iR [t] cs ts,St0,0⟩|_=>none)
 else if k=4 then(if o9 s=true then some (tV 4 s)else none)
 else if k=5 then(if (qF s).2=0 then some ⟨5,[],[],(qF s).1,0⟩else none)
 else if k=6 then(if (A8 s).2=0 then some ⟨6,[],[],St0,(A8 s).1⟩else none)
 else if k=7 then(if pJ s=true then some (tV 7 s)else none)
 else some (tV 8 s)
theorem TV(x:List UInt8):eH [] (kN x) 0 [] [] []=.good [x] []:=by
 have:=yu [] (by simp) x [] 0 [] [] []
 rw[List.append_nil]at this
 rw[this,mO];rfl
theorem aap{x:List (List UInt8)}(h:x≠[]):eH [44] (iJ x) 0 [] [] []=.good x (List.replicate (x.length-1) 44):=by
 cases x with
 |nil=>exact absurd rfl h
 |cons a t=>exact WP a t
theorem Za{ps:List (List (List UInt8))}(h0:ps≠[])(h:∀l∈ps,l≠[]):∃t ts cs,eH [44,59] (oH ps) 0 [] [] []=.good (t::ts) cs∧iR [t] cs ts=ps:=by
 cases ps with
 |nil=>exact absurd rfl h0
 |cons l ls=>
  obtain⟨x,xs,C,e1,_,e3⟩:=NI ls l (h l List.mem_cons_self) (fun m hm=>h m (List.mem_cons_of_mem _ hm)) 0 [] []
  exact⟨x,xs,C,by simpa using e1,e3⟩
theorem TW{v:Vl}(h:v.only=true):(isT v.ty=false→v.tx=[])∧(isL v.ty=false→v.ps=[])∧(v.ty≠5→v.st=St0)∧(v.ty≠6→v.n=0):=by
 unfold Vl.only at h
 simp only[Bool.and_eq_true,Bool.or_eq_true,decide_eq_true_eq,St.zero_iff]at h
 obtain⟨⟨⟨h1,h2⟩,h3⟩,h4⟩:=h
 refine⟨fun e=>?_,fun e=>?_,fun e=>?_,fun e=>?_⟩
 ·rcases h1 with h|h
  ·rw[e]at h;cases h
  ·exact h
 ·rcases h2 with h|h
  ·rw[e]at h;cases h
  ·exact h
 ·rcases h3 with h|h
  ·exact absurd h e
  ·exact h
 ·rcases h4 with h|h
  ·exact absurd h e
  ·exact h
theorem A7{ps:List (List (List UInt8))}:TT ps=true↔∀l∈ps,∀s∈l,dF s true=true:=by
 unfold TT;simp[List.all_eq_true]
theorem WY{s:List UInt8}(h:o9 s=true):dF s false=true:=by
 unfold o9 at h
 simp only[Bool.and_eq_true,Option.isNone_iff_eq_none]at h
 have:=Jd.1 h.1.2
 refine uG fun c hc=>?_
 have:=List.all_eq_true.1 this c hc
 unfold Df at this
 rw[decide_eq_true_iff]at this
 omega
theorem Qx(v:Vl)(h:v.ok=true):qg v.text v.ty=some v∧dF v.text false=true:=by
 unfold Vl.ok at h
 simp only[Bool.and_eq_true,decide_eq_true_eq]at h
 obtain⟨⟨⟨h1,h9⟩,ho⟩,hb⟩:=h
 obtain⟨o1,o2,o3,o4⟩:=TW ho
 obtain⟨ty,tx,ps,st,n⟩:=v
 simp only at h1 h9 o1 o2 o3 o4
 have hk:ty=1∨ty=2∨ty=3∨ty=4∨ty=5∨ty=6∨ty=7∨ty=8:=by omega
 rcases hk with rfl|rfl|rfl|rfl|rfl|rfl|rfl|rfl
 ·obtain rfl:=o2 rfl
  obtain rfl:=o3 (by decide)
  obtain rfl:=o4 (by decide)
  have hb:dF tx true=true:=hb
  have hh:=AY hb
  refine⟨?_,hh⟩
  show qg (kN tx) 1=_
  unfold qg
  rw[if_neg (by decide),if_neg (by rw[hh];decide),if_pos rfl,TV];rfl
 ·obtain rfl:=o1 rfl
  obtain rfl:=o3 (by decide)
  obtain rfl:=o4 (by decide)
  unfold Vl.body at hb
  rw[if_pos (.inl rfl)]at hb
  simp only[Bool.and_eq_true,Bool.not_eq_true',Bool.or_eq_false_iff,decide_eq_false_iff_not]at hb
  obtain⟨⟨⟨b1,b2⟩,b3⟩,b4⟩:=hb
  have hl:ps.length=1:=by simpa using b2
  obtain⟨l,rfl⟩:=List.length_eq_one_iff.1 hl
  have hne:l≠[]:=by
   intro e;subst e;simp at b3
  have hj:oH [l]=iJ l:=by rw[vS];simp[gp]
  have hh:=wZ hne (A7.1 b4 l List.mem_cons_self)
  show qg (oH [l]) 2=_∧dF (oH [l]) false=true
  rw[hj]
  refine⟨?_,hh⟩
  unfold qg
  rw[if_neg (by decide),if_neg (by rw[hh];decide),if_neg (by decide),if_pos rfl,aap hne]
 ·obtain rfl:=o1 rfl
  obtain rfl:=o3 (by decide)
  obtain rfl:=o4 (by decide)
  unfold Vl.body at hb
  rw[if_pos (.inr rfl)]at hb
  simp only[Bool.and_eq_true,Bool.not_eq_true',Bool.or_eq_false_iff,decide_eq_false_iff_not]at hb
  obtain⟨⟨⟨b1,b2⟩,b3⟩,b4⟩:=hb
  have hne:∀l∈ps,l≠[]:=by
   intro l hl e
   subst e
   rw[List.any_eq_false]at b3
   exact b3 [] hl rfl
  have hh:dF (oH ps) false=true:=by
   cases ps with
   |nil=>exact absurd rfl b1
   |cons x xs=>exact Fg x xs fun l hl=>⟨hne l hl,A7.1 b4 l hl⟩
  obtain⟨t,ts,cs,e1,e2⟩:=Za b1 hne
  show qg (oH ps) 3=_∧dF (oH ps) false=true
  refine⟨?_,hh⟩
  unfold qg
  rw[if_neg (by decide),if_neg (by rw[hh];decide),if_neg (by decide),if_neg (by decide),if_pos rfl,e1]
  simp only[e2]
 ·obtain rfl:=o2 rfl
  obtain rfl:=o3 (by decide)
  obtain rfl:=o4 (by decide)
  have hb:o9 tx=true:=hb
  have hh:=WY hb
  show qg tx 4=_∧dF tx false=true
  refine⟨?_,hh⟩
  unfold qg
  rw[if_neg (by decide),if_neg (by rw[hh];decide),if_neg (by decide),if_neg (by decide),if_neg (by decide),if_pos rfl,if_pos hb];rfl
 ·obtain rfl:=o1 rfl
  obtain rfl:=o2 rfl
  obtain rfl:=o4 (by decide)
  have hb:decide (st.right=0)=true:=hb
  have hr:st.right=0:=by simpa using hb
  have hh:dF st.text false=true:=uG (TQ st hr)
  show qg st.text 5=_∧dF st.text false=true
  refine⟨?_,hh⟩
  unfold qg
  rw[if_neg (by decide),if_neg (by rw[hh];decide),if_neg (by decide),if_neg (by decide),if_neg (by decide),if_neg (by decide),if_pos rfl,Ue st hr];rfl
 ·obtain rfl:=o1 rfl
  obtain rfl:=o2 rfl
  obtain rfl:=o3 (by decide)
  have hb:kU n=true:=hb
  have hh:dF (kD n) false=true:=uG (Dn hb)
  show qg (kD n) 6=_∧dF (kD n) false=true
  refine⟨?_,hh⟩
  unfold qg
  rw[if_neg (by decide),if_neg (by rw[hh];decide),if_neg (by decide),if_neg (by decide),if_neg (by decide),if_neg (by decide),if_neg (by decide),if_pos rfl,Fz n hb];rfl
 ·obtain rfl:=o2 rfl
  obtain rfl:=o3 (by decide)
  obtain rfl:=o4 (by decide)
  have hb:pJ tx=true:=hb
  have hh:dF tx false=true:=uG (AZ tx true 0 hb)
  show qg tx 7=_∧dF tx false=true
  refine⟨?_,hh⟩
  unfold qg
  rw[if_neg (by decide),if_neg (by rw[hh];decide),if_neg (by decide),if_neg (by decide),if_neg (by decide),if_neg (by decide),if_neg (by decide),if_neg (by decide),if_pos rfl,if_pos hb];rfl
 ·obtain rfl:=o2 rfl
  obtain rfl:=o3 (by decide)
  obtain rfl:=o4 (by decide)
  have hh:dF tx false=true:=hb
  show qg tx 8=_∧dF tx false=true
  refine⟨?_,hh⟩
  unfold qg
  rw[if_neg (by decide),if_neg (by rw[hh];decide),if_neg (by decide),if_neg (by decide),if_neg (by decide),if_neg (by decide),if_neg (by decide),if_neg (by decide),if_neg (by decide)];rfl
end Go.Proofs.YtmffejnigppbpaaGreatDoor

set_option maxHeartbeats 4000000
set_option maxRecDepth 100000
namespace Go.Proofs.YtmffejnigppbpaaGreatDoor
open Go.RowKit
theorem Qy(w:World):dA 162 #[.nilIface] w .nilIface:=by
 go_enter Tryz.func162,Tryz.ntmps162
 go_wp2_with fail
 go_ret
 exact⟨rfl,G.refl _⟩
theorem Zb(c:Int)(w:World)(hE:gQ w):dA 162 #[eno c] w (eno c):=by
 have h:=IW c w hE
 have H:=hid h
 clear h
 go_enter Tryz.func162,Tryz.ntmps162
 go_wp2_with fail
 refine(H.out).use ?_
 intro w1 g1
 go_wp2_with fail
 go_ret
 exact⟨rfl,g1⟩
theorem NV(v:Value)(c p:Int)(w:World)(hE:gQ w)(hv:ji w v c p):dA 162 #[v] w (eno c):=by
 have h:=Vd c p v w hE hv
 have H:=hid h
 obtain⟨b,rfl,_⟩:=hv
 clear h
 go_enter Tryz.func162,Tryz.ntmps162
 go_wp2_with fail
 refine(H.out).use ?_
 intro w1 g1
 go_wp2_with fail
 go_ret
 exact⟨rfl,g1⟩
theorem nP(x:Vl)(a:Option Addr)(cap:Nat)(w:World)(hk:1≤x.ty∧x.ty<9):dA 160 #[x.v (.slice a x.ps.length cap)] w (.bool x.only):=by
 obtain⟨ty,tx,ps,st,n⟩:=x
 obtain⟨y,m,d,h,nn,s,zd,zn⟩:=st
 simp only at hk
 simp only[Vl.v]
 have hty:ty=1∨ty=2∨ty=3∨ty=4∨ty=5∨ty=6∨ty=7∨ty=8:=by omega
 clear hk
 rcases hty with rfl|rfl|rfl|rfl|rfl|rfl|rfl|rfl
 all_goals
  go_enter Tryz.func160,Tryz.ntmps160
  go_wp2_with fail
  all_goals (go_ret;refine⟨cO ?_,(G.refl _).alloc _⟩;simp_all [Vl.only,isT,isL,St.isZero];(try rfl))
end Go.Proofs.YtmffejnigppbpaaGreatDoor

namespace Go.Proofs.YtmffejnigppbpaaGreatDoor
open Go.RowKit
theorem Bc{c:UInt8}{k:Int}(h:lJ c=k)(hk:0≤k):dL (og k)=c∧k<64:=by
 rcases sG c with h'|⟨_,h2,h3,_⟩
 ·omega
 ·rw[h]at h2 h3;exact⟨h3,h2⟩
theorem QJ{last:Bool}{c0 c1 c2 c3:UInt8}{bs:List UInt8}(h:qL last c0 c1 c2 c3=.ok bs) :
  (last=true∧∃a,bs=[a]∧rP [a]=[c0,c1,c2,c3])∨(last=true∧∃a b,bs=[a,b]∧rP [a,b]=[c0,c1,c2,c3])∨∃a b c,bs=[a,b,c]∧rH (vU a b c)=[c0,c1,c2,c3]:=by
 unfold qL at h
 split at h
 ·cases h
 rename_i h0
 split at h
 ·cases h
 rename_i h1
 obtain⟨b0,l0⟩:=Bc (c:=c0) rfl (by omega)
 obtain⟨b1,l1⟩:=Bc (c:=c1) rfl (by omega)
 generalize hi:lJ c0=i at *
 generalize hj:lJ c1=j at *
 split at h
 ·rename_i hp
  split at h
  ·rename_i hz
   cases h
   obtain⟨hl,rfl,rfl⟩:=hp
   refine .inl ⟨hl,dL (jK i j 0 0/65536),rfl,?_⟩
   have e:=dK (n:=jK i j 0 0/65536) (by unfold jK;omega) (by unfold jK;omega)
   have e2:vU (dL (jK i j 0 0/65536)) 0 0=jK i j 0 0:=by
    unfold vU;rw[e];simp;omega
   rw[Xk,e2]
   have q0:jK i j 0 0/262144%64=i:=by unfold jK;omega
   have q1:jK i j 0 0/4096%64=j:=by unfold jK;omega
   unfold rH
   rw[q0,q1,b0,b1];rfl
  ·cases h
 ·split at h
  ·cases h
  rename_i h2
  obtain⟨b2,l2⟩:=Bc (c:=c2) rfl (by omega)
  generalize hk:lJ c2=k at *
  split at h
  ·rename_i hp
   split at h
   ·rename_i hz
    cases h
    obtain⟨hl,rfl⟩:=hp
    refine .inr (.inl ⟨hl,dL (jK i j k 0/65536),dL (jK i j k 0/256%256),rfl,?_⟩)
    have e:=dK (n:=jK i j k 0/65536) (by unfold jK;omega) (by unfold jK;omega)
    have e':=dK (n:=jK i j k 0/256%256) (by omega) (by omega)
    have e2:vU (dL (jK i j k 0/65536)) (dL (jK i j k 0/256%256)) 0=jK i j k 0:=by
     unfold vU;rw[e,e'];simp;omega
    rw[Xl,e2]
    have q0:jK i j k 0/262144%64=i:=by unfold jK;omega
    have q1:jK i j k 0/4096%64=j:=by unfold jK;omega
    have q2:jK i j k 0/64%64=k:=by unfold jK;omega
    unfold rH
    rw[q0,q1,q2,b0,b1,b2];rfl
   ·cases h
  ·split at h
   ·cases h
   rename_i h3
   obtain⟨b3,l3⟩:=Bc (c:=c3) rfl (by omega)
   generalize hm:lJ c3=m at *
   cases h
   refine .inr (.inr ⟨_,_,_,rfl,?_⟩)
   have e:=dK (n:=jK i j k m/65536) (by unfold jK;omega) (by unfold jK;omega)
   have e':=dK (n:=jK i j k m/256%256) (by omega) (by omega)
   have e'':=dK (n:=jK i j k m%256) (by omega) (by omega)
   have e2:vU (dL (jK i j k m/65536)) (dL (jK i j k m/256%256)) (dL (jK i j k m%256))=jK i j k m:=by
    unfold vU;rw[e,e',e''];omega
   rw[e2]
   have q0:jK i j k m/262144%64=i:=by unfold jK;omega
   have q1:jK i j k m/4096%64=j:=by unfold jK;omega
   have q2:jK i j k m/64%64=k:=by unfold jK;omega
   have q3:jK i j k m%64=m:=by unfold jK;omega
   unfold rH
   rw[q0,q1,q2,q3,b0,b1,b2,b3]
theorem L6:∀(r b:List UInt8),r.length%4=0→qi r=.ok b→rP b=r
 |c0::c1::c2::c3::t,b,hl,h=>by
  rw[Dy]at h
  cases hq:qL t.isEmpty c0 c1 c2 c3 with
  |error p=>rw[hq]at h;cases h
  |ok bs=>
   rw[hq]at h
   cases ht:qi t with
   |error p=>rw[ht]at h;cases h
   |ok cs=>
    rw[ht]at h
    have hb:b=bs++cs:=by cases h;rfl
    rcases QJ hq with⟨hl,a,rfl,he⟩|⟨hl,a,a',rfl,he⟩|⟨a,a',a'',rfl,he⟩
    ·have:t=[]:=by simpa using hl
     subst this
     cases ht
     rw[hb];exact he
    ·have:t=[]:=by simpa using hl
     subst this
     cases ht
     rw[hb];exact he
    ·have ih:=L6 t cs (by simp at hl;omega) ht
     rw[hb]
     show rP (a::a'::a''::cs)=_
     rw[Xm,he,ih];rfl
 |[],b,_,h=>by cases h;rfl
 |[_],_,hl,_=>by simp at hl
 |[_,_],_,hl,_=>by simp at hl
 |[_,_,_],_,hl,_=>by simp at hl
end Go.Proofs.YtmffejnigppbpaaGreatDoor

namespace Go.Proofs.YtmffejnigppbpaaGreatDoor
open Go.ChangeShapes Go.WideShapes Go.RowKit
def oz(h:Array Obj)(g:Nat)(cs:Array Value):Array Obj:=h.modify g fun
 |.cells _ t frozen=>.cells cs t frozen
 |o=>o
def Bq:DataW Unit→Array Value
 |.agg l=>(l.map fun
  |.lit (.int k z)=>Value.int k z
  |_=>undef).toArray
 |_=>#[]
def X4:MemPlace→Nat
 |.cell b o=>Nat.add (Nat.mul b 4096) (Nat.add o 1)
 |.map _=>0
def Hw:List Nat→Bool
 |[]=>true
 |x::l=>(l.all fun y=>!(Nat.beq x y))&&Hw l
theorem Bv:∀l:List Nat,Hw l=true→l.Nodup
 |[],_=>List.nodup_nil
 |x::l,h=>by
  simp only[Hw,Bool.and_eq_true,List.all_eq_true]at h
  refine List.nodup_cons.2 ⟨fun hx=>?_,Bv l h.2⟩
  have:=h.1 x hx
  simp at this
theorem Hy(ps:List MemPlace)(h:Hw (ps.map X4)=true):ps.Nodup:=by
 have h3:=Bv _ h
 clear h
 induction ps with
 |nil=>exact List.nodup_nil
 |cons a ps ih=>
  rw[List.map_cons,List.nodup_cons]at h3
  refine List.nodup_cons.2 ⟨fun ha=>h3.1 (List.mem_map_of_mem ha),ih h3.2⟩
theorem vC{P:Program}{w:World}{l:List (String×DataW Unit)}(fuel:Nat)(h:(DataW.laidRun P w fuel (l.map (·.1))).map (·.1)=some l)(hf:(DataW.laidRun P w fuel (l.map (·.1))).map (fun x=>Hw (x.2.map X4))=some true)(hr:(DataW.laidRun P w fuel (l.map (·.1))).map (fun x=>laidRowsB P w x.2)=some true):laidMet P l w:=by
 cases hx:DataW.laidRun P w fuel (l.map (·.1))with
 |none=>simp[hx]at h
 |some x=>
  obtain⟨l',ps⟩:=x
  simp only[hx,Option.map_some,Option.some.injEq]at h hf hr
  subst h
  exact laidMet_of_run fuel hx (decide_eq_true (Hy ps hf)) hr
noncomputable def su(os:Os):World:=
 let N:=17
 let bs:Array Obj:=#[]
 let wN:=N+bs.size
 let bs:=(bs.push (.cells (Lib.whiteT.map fun (z:Nat)=>Value.int .u16 (z:Int)).toArray 257)).push (.cells #[.slice (some ⟨wN,0,none⟩) 7 7,.slice none 0 0,.int .i64 2] 254)
 let eN:=N+bs.size
 let bs:=(bs.push (.cells #[.string ⟨#[105,110,118,97,108,105,100,32,115,121,110,116,97,120]⟩] 293)).push (.cells #[.string ⟨#[118,97,108,117,101,32,111,117,116,32,111,102,32,114,97,110,103,101]⟩] 293)
 let w0:=World.holding Tryz.prog os ⟨bs,#[],[]⟩
 let h0:=w0.heap
 let h0:=oz h0 1 #[.iface 213 (.agg #[typeHandle Tryz.prog 28])]
 let h0:=oz h0 6 (Lib.firstTab.map fun z=>Value.int .u8 z).toArray
 let h0:=oz h0 7 ((List.range 16).flatMap fun i=>[Value.int .u8 (Lib.accLo i),Value.int .u8 (Lib.accHi i)]).toArray
 let h0:=oz h0 0 (Bq Rows.laid_strings_asciiSpace)
 let h0:=oz h0 8 (Bq Rows.laid_internal_strconv_uint64pow10)
 let h0:=oz h0 9 (Bq Rows.laid_math_bits_deBruijn32tab)
 let h0:=oz h0 10 (Bq Rows.laid_math_bits_deBruijn64tab)
 let h0:=oz h0 2 #[.pointer (some ⟨wN+1,0,none⟩)]
 let h0:=oz h0 3 #[.iface 291 (.pointer (some ⟨eN,0,none⟩))]
 let h0:=oz h0 4 #[.iface 291 (.pointer (some ⟨eN+1,0,none⟩))]
 { w0 with heap:=h0 }
end Go.Proofs.YtmffejnigppbpaaGreatDoor

namespace Go.Proofs.YtmffejnigppbpaaGreatDoor
open Go.ChangeShapes Go.WideShapes Go.RowKit
theorem xQ{P:Program}{W:World}{name:String}{k:IntKind}{zs:List Int}{g:Nat}{t e:TypeId}{n:Nat}(hg:P.globalNamed name=some g)(hty:(P.globals[g]?).map (·.type)=some t)(ht:P.underlying t=some (.array n e))(he:P.underlying e=some (.int k))(hce:P.cellsOf e=1)(hct:P.cellsOf t=n)(h:Lib.VarReads P W name (Lib.tabData k zs)):Lib.TabIs P W name k zs:=by
 obtain⟨g',t',cs,fuel,p,hg',ht',hvar,hd⟩:=h
 obtain rfl:=Option.some.inj (hg.symm.trans hg')
 obtain rfl:=Option.some.inj (hty.symm.trans ht')
 unfold Lib.TabIs
 rw[hvar,←Lib.cells_of_tab ht he hce hct hd]
theorem JE{H:Type}{enc:TypeId×Value→H}{P:Program}{w:World}{base:Nat}{sp:Nat→Bool}{held:Bool}{fuel:Nat}{t:TypeId}{ms:Array (String×TypeId)}{cs:List Value}{d:DataW H}{p:List MemPlace}(ht:P.underlying t=some (.interface ms))(h:DataW.trod enc P w base sp held fuel t cs=some (d,p)):cs=[.nilIface]∨∃u v,cs=[.iface u v]:=by
 cases fuel with
 |zero=>simp[DataW.trod]at h
 |succ fuel=>
  unfold DataW.trod at h
  rw[ht]at h
  split at h<;>simp_all
theorem Bl{P:Program}{W:World}{name:String}{d:DataW Unit}{g:Nat}{t:TypeId}{ms:Array (String×TypeId)}(hg:P.globalNamed name=some g)(hty:(P.globals[g]?).map (·.type)=some t)(ht:P.underlying t=some (.interface ms))(h:Lib.VarReads P W name d) :
  ∃ev,W.cell? ⟨g,0,none⟩=some ev∧(ev=.nilIface∨∃te pe,ev=.iface te pe):=by
 obtain⟨g',t',cs,fuel,p,hg',ht',hvar,hd⟩:=h
 obtain rfl:=Option.some.inj (hg.symm.trans hg')
 obtain rfl:=Option.some.inj (hty.symm.trans ht')
 have hc:=World.var?_cell hg hvar 0
 rcases JE ht hd with e|⟨u,v,e⟩
 ·refine⟨.nilIface,?_,.inl rfl⟩
  obtain⟨l⟩:=cs
  simp only at e
  subst e
  simpa using hc
 ·refine⟨.iface u v,?_,.inr ⟨u,v,rfl⟩⟩
  obtain⟨l⟩:=cs
  simp only at e
  subst e
  simpa using hc
theorem X0:Rows.laid_internal_strconv_uint64pow10=(Lib.tabData .u64 Lib.pow10Tab:DataW Unit):=by kernel_rfl
theorem X3:Rows.laid_strings_asciiSpace=(Lib.tabData .u8 Lib.asciiSpaceTab:DataW Unit):=by kernel_rfl
theorem ZL{W : World}{l : List (String × DataW Unit)}(hL : laidMet Tryz.prog l W)(hs : W.ShapedOpen Tryz.prog)(h1 : ("strings.asciiSpace", Rows.laid_strings_asciiSpace) ∈ l)(h2 : ("internal/strconv.uint64pow10", Rows.laid_internal_strconv_uint64pow10) ∈ l)(h3 : ("strconv.ErrSyntax", Rows.laid_strconv_ErrSyntax) ∈ l)(h4 : ("strconv.ErrRange", Rows.laid_strconv_ErrRange) ∈ l) : qm W := by
 rw[X3]at h1
 rw[X0]at h2
 refine⟨xQ (g:=0) (t:=138) (e:=5) (n:=256) (by kernel_rfl) (by kernel_rfl) (by kernel_rfl) (by kernel_rfl) (by kernel_rfl) (by kernel_rfl) (Lib.laidMet.reads hL h1),xQ (g:=8) (t:=323) (e:=262) (n:=20) (by kernel_rfl) (by kernel_rfl) (by kernel_rfl) (by kernel_rfl) (by kernel_rfl) (by kernel_rfl) (Lib.laidMet.reads hL h2),⟨Bl (g:=3) (t:=28) (by kernel_rfl) (by kernel_rfl) Tryz.underlying28 (Lib.laidMet.reads hL h3),Bl (g:=4) (t:=28) (by kernel_rfl) (by kernel_rfl) Tryz.underlying28 (Lib.laidMet.reads hL h4)⟩,Tryz.laysM145.s1_3 W hs⟩
end Go.Proofs.YtmffejnigppbpaaGreatDoor

namespace Go.Proofs.YtmffejnigppbpaaGreatDoor
open Go.ChangeShapes Go.WideShapes Go.RowKit
theorem XY : Tryz.prog.globalNamed "errors.errorType" = some 1 := by kernel_rfl
theorem XZ : (Tryz.prog.cutTypes.find? (·.1 == "internal/reflectlite.rtype")).map (·.2) = some 213 := by kernel_rfl
theorem VX:((List.range 413).filter fun t=>Tryz.prog.rowNamed t [101,114,114,111,114])=[28]:=by kernel_rfl
theorem Rh:Tryz.prog.types.size=413:=by kernel_rfl
theorem DK{W : World}(h : handlesMet Tryz.prog [("errors.errorType", Rows.laid_errors_errorType)] W) : gQ W := by
 obtain⟨name,u,ty,e1,e2,e3,e4,e5⟩:=h _ (List.mem_singleton.2 rfl)
 have en:name=[101,114,114,111,114]:=(Option.some.inj e1).symm
 subst en
 obtain rfl:=Option.some.inj (XZ.symm.trans e2)
 have hm:ty∈(List.range 413).filter fun t=>Tryz.prog.rowNamed t [101,114,114,111,114]:=List.mem_filter.2 ⟨List.mem_range.2 (by rw[←Rh];exact e3),e4⟩
 rw[VX]at hm
 obtain rfl:=List.mem_singleton.1 hm
 have hh:typeHandle Tryz.prog 28=.pointer (some (hA 28)):=by kernel_rfl
 rw[hh]at e5
 unfold gQ
 simpa using World.var?_cell XY e5 0
end Go.Proofs.YtmffejnigppbpaaGreatDoor
