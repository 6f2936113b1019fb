/-
  Texts merged into one: Gentle, Veil, Turn.
-/
import Derived.Test.YtmffejnigppbpaaGreatDoorDXMA69
set_option linter.unusedVariables false
set_option linter.unusedSimpArgs false
namespace Go.Proofs.YtmffejnigppbpaaGreatDoor
section
variable {P:Program} {ops:Array Oper} {md:Region.Mode}
def agK(o:Oper)(a:Act):Value:=match o.dst with|some t=>a.tmps.getD t undef|none=>undef
def aeA(md:Region.Mode)(o:Oper):List Nat:=(o.after.toList.filter (Region.binds md)).map (·.on)
def aiV(md:Region.Mode)(E:Array Bool)(o:Oper):List Nat:=(aeA md o).filter fun k=>!E.getD k true
def agr(ops:Array Oper)(p:Tmp→Bool)(k:Nat):Bool:=match (ops[k]?).bind (·.dst)with|some t=>p t|none=>false
def aiF(ops:Array Oper)(p:Tmp→Bool)(k:Nat):Option (Nat×Tmp):=match (ops[k]?).bind (·.dst)with|some t=>if p t then some (k,t)else none|none=>none
def aeB(md:Region.Mode)(ops:Array Oper)(E:Array Bool)(o:Oper):List Nat:=(aiV md E o).filter (agr ops fun t=>(o.looksAt ops).contains t)
def arl(md:Region.Mode)(ops:Array Oper)(E:Array Bool)(o:Oper):List (Nat×Tmp):=(aiV md E o).filterMap (aiF ops fun t=>(o.looksAt ops).contains t)
def gFr(vals:Nat→Value):List (Nat×Tmp)→Act→Act
  |[],a=>a
  |(k,t)::r,a=>gFr vals r (a.put (some t) (vals k))
def afe(E:Array Bool):List Oper→Nat→List Oper
  |[],_=>[]
  |o::l,j=>if E.getD j true then afe E l (j+1)else o::afe E l (j+1)
def aff(ops:Array Oper)(vals:Nat→Value):List Nat→Act→Act
  |[],a=>a
  |k::ks,a=>aff ops vals ks (a.put ((ops[k]?).bind (·.dst)) (vals k))
def gK(R:World→World→Prop)(Φ:Value→World→Prop)(o:Oper)(a:Act)(w:World):Act→World→Prop:=fun a' w'=>a'.defers=a.defers∧R w w'∧Φ (agK o a') w'
def gOp(P:Program)(ops:Array Oper)(R:World→World→Prop)(Φ:Value→World→Prop)(o:Oper)(a:Act)(w:World):Prop:=
  if Region.wanted o (yielded ops a.tmps)then o.wp P a w (gK R Φ o a w) (fun _ _ _=>False)else Φ (agK o (a.put o.dst undef)) w
abbrev ajC(ops:Array Oper)(k:Nat):Option Tmp:=(ops[k]?).bind (·.dst)
def afO(md:Region.Mode)(ops:Array Oper):Nat→Nat→Nat→Bool
  |0,_,_=>false
  |f+1,j,k=>match ops[j]? with|some o=>(aeA md o).contains k||(aeA md o).any fun d=>afO md ops f d k|none=>false
def apW(md:Region.Mode)(ops:Array Oper)(E:Array Bool)(m:Nat):Bool:=
  Region.noSelect ops&&decide (m≤ops.size)&&decide (E.size=ops.size) &&
  (List.range ops.size).all fun j=>match ops[j]? with
    |none=>true
    |some o=>
      ((aeA md o).all fun k=>decide (k<j)) &&
      ((List.range ops.size).all fun k=>k==j||ajC ops k != o.dst||o.dst==none) &&
      (!E.getD j true||(aeA md o).all fun k=>E.getD k true) &&
      (E.getD j true||(if j<m then(o.looksAt ops).all fun t=>(List.range ops.size).all fun k=>k==j||ajC ops k != some t||E.getD k true||(aeA md o).contains k||(match ops[k]? with|some p=>(aeA md p).contains j|none=>false)
       else(List.range j).all fun k=>E.getD k true||afO md ops ops.size j k))
theorem Act.put_size(a:Act)(d:Option Tmp)(v:Value):(a.put d v).tmps.size=a.tmps.size:=by cases d<;>simp[Act.put]
theorem Act.put_defers'(a:Act)(d:Option Tmp)(v:Value):(a.put d v).defers=a.defers:=by cases d<;>rfl
theorem Act.put_other(a:Act)(d:Option Tmp)(v:Value)(t:Tmp)(h:d≠some t):(a.put d v).tmps[t]?=a.tmps[t]?:=by
  cases d with
  |none=>rfl
  |some e=>have:e≠t:=fun x=>h (by rw[x]);simp[Act.put,Array.getElem?_setIfInBounds_ne this]
theorem Act.put_same(a:Act)(v:Value)(t:Tmp):(a.put (some t) v).tmps.getD t undef=if t<a.tmps.size then v else undef:=by
  by_cases h:t<a.tmps.size<;>simp[Act.put,h]
theorem ah9(vals:Nat→Value):∀(ks:List Nat) (a:Act),(aff ops vals ks a).tmps.size=a.tmps.size
  |[],_=>rfl
  |k::ks,a=>by rw[aff,ah9 vals ks,Act.put_size]
theorem akR(vals:Nat→Value):∀(ks:List Nat) (a:Act),(aff ops vals ks a).defers=a.defers
  |[],_=>rfl
  |k::ks,a=>by rw[aff,akR vals ks,Act.put_defers']
theorem ag6(vals:Nat→Value)(t:Tmp):∀(ks:List Nat) (a:Act),(∀k∈ks,ajC ops k≠some t)→(aff ops vals ks a).tmps[t]?=a.tmps[t]?
  |[],_,_=>rfl
  |k::ks,a,h=>by
    rw[aff,ag6 vals t ks _ fun x hx=>h x (by simp[hx]),Act.put_other _ _ _ _ (h k (by simp))]
theorem akq(vals:Nat→Value)(t:Tmp)(k:Nat)(hk:ajC ops k=some t):∀(ks:List Nat) (a:Act),(∀j∈ks,ajC ops j=some t→j=k)→k∈ks→(aff ops vals ks a).tmps[t]?=if t<a.tmps.size then some (vals k)else none
  |[],_,_,h=>by cases h
  |j::ks,a,hu,hm=>by
    rw[aff]
    by_cases hin:k∈ks
    · rw[akq vals t k hk ks _ (fun x hx=>hu x (by simp[hx])) hin,Act.put_size]
    · have hjk:k=j:=by rcases List.mem_cons.1 hm with h|h;(· exact h);(· exact absurd h hin)
      subst hjk
      rw[ag6 vals t ks _ fun x hx hd=>hin (by rw[←hu x (by simp[hx]) hd];exact hx)]
      have:(ops[k]?).bind (·.dst)=some t:=hk
      rw[this]
      by_cases hb:t<a.tmps.size<;>simp[Act.put,hb]
theorem agL{o:Oper}{k:Nat}:k∈aeA md o↔∃e∈o.after,Region.binds md e=true∧e.on=k:=by
  unfold aeA
  simp only[List.mem_map,List.mem_filter,Array.mem_toList_iff]
  constructor
  · rintro⟨e,⟨h1,h2⟩,h3⟩;exact⟨e,h1,h2,h3⟩
  · rintro⟨e,h1,h2,h3⟩;exact⟨e,⟨h1,h2⟩,h3⟩
theorem agM{L:Nat→Prop}(hL:∀i o,ops[i]?=some o→L i→∀d∈aeA md o,L d):∀(f j k:Nat),afO md ops f j k=true→(∀o,ops[j]?=some o→∀d∈aeA md o,L d)→L k
  |0,_,_,h,_=>by cases h
  |f+1,j,k,h,hj=>by
    unfold afO at h
    split at h
    · rename_i o ho
      rw[Bool.or_eq_true]at h
      rcases h with h|h
      · exact hj o ho k (by simpa using h)
      · obtain⟨d,hd,hr⟩:=List.any_eq_true.1 h
        exact agM hL f d k hr fun p hp i hi=>hL d p hp (hj o ho d hd) i hi
    · cases h
def afS(listed:Array Bool):Nat→Nat
  |0=>0
  |n+1=>afS listed n+if listed.getD n true then 0 else 1
theorem akr{listed:Array Bool}{j:Nat}(hj:listed.getD j true=false):∀n,afS (listed.setIfInBounds j true) n+(if j<n then 1 else 0)=afS listed n
  |0=>rfl
  |n+1=>by
    have ih:=akr hj n
    have hlt:j<listed.size:=by
      rcases Nat.lt_or_ge j listed.size with h|h
      · exact h
      · simp[Array.getElem?_eq_none h]at hj
    simp only[afS]
    by_cases e:j=n
    · subst e
      have h1:(listed.setIfInBounds j true).getD j true=true:=by simp[hlt]
      rw[h1,hj]
      simp only[Nat.lt_irrefl,if_false,if_true,Bool.false_eq_true,Nat.lt_succ_self]at ih⊢
      omega
    · rw[getD_set_ne true e]
      generalize afS (listed.setIfInBounds j true) n=x at ih⊢
      generalize (if listed.getD n true=true then 0 else 1)=z
      by_cases h2:j<n
      · have h3:j<n+1:=by omega
        simp only[h2,h3,if_true]at ih⊢;omega
      · have h3:¬j<n+1:=by omega
        simp only[h2,h3,if_false]at ih⊢;omega
theorem aiW{listed:Array Bool}:∀ {n:Nat},afS listed n=0→∀k,k<n→listed.getD k true=true
  |n+1,h,k,hk=>by
    simp only[afS]at h
    by_cases e:k=n
    · subst e
      cases hh:listed.getD k true
      · rw[hh]at h;simp at h
      · rfl
    · exact aiW (n:=n) (by omega) k (by omega)
theorem anS{Q:Exit→Act→World→Prop}{E:Array Bool}:∀(l:List Oper) (j:Nat) (listed:Array Bool) (a:Act) (w:World) (fuel:Nat),(∀i,l[i]?=ops[j+i]?)→(∀k,k<j→listed.getD k true=true)→(∀k,j≤k→k<ops.size→listed.getD k true=E.getD k true)→listed.size=ops.size →
    (∀k o,j≤k→ops[k]?=some o→E.getD k true=false→∀i,i<k→E.getD i true=false→afO md ops ops.size k i=true)→((∀k o,ops[k]?=some o→∀i∈aeA md o,i<k)∧∀k o,ops[k]?=some o→E.getD k true=true→∀i∈aeA md o,E.getD i true=true)→(afe E l j).length≤fuel→wpList P ops Q (afe E l j) a w→wpAny P md ops Q fuel listed a w
  |[],j,listed,a,w,fuel,hl,h0,h1,hsz,hw,hb,hf,h=>by
    have hn:ops.size≤j:=by
      rcases Nat.lt_or_ge j ops.size with h|h
      · have:=hl 0;simp[h]at this
      · exact h
    have hr:Region.ready md ops listed=[]:=by
      rw[List.eq_nil_iff_forall_not_mem]
      intro i hi
      obtain⟨u,o,ho,_⟩:=mem_ready.1 hi
      have:=(Array.getElem?_eq_some_iff.1 ho).1
      rw[h0 i (by omega)]at u;cases u
    cases fuel with
    |zero=>exact⟨hr,h⟩
    |succ f=>exact⟨fun _=>h,fun i hi=>absurd hi (by rw[hr];simp)⟩
  |o::l,j,listed,a,w,fuel,hl,h0,h1,hsz,hw,hb,hf,h=>by
    have hj:ops[j]?=some o:=by have:=hl 0;simpa using this.symm
    have hjn:=(Array.getElem?_eq_some_iff.1 hj).1
    have hl':∀i,l[i]?=ops[j+1+i]?:=fun x=>by have:=hl (x+1);simpa[Nat.add_assoc,Nat.add_comm 1 x]using this
    by_cases hE:E.getD j true=true
    · have e:afe E (o::l) j=afe E l (j+1):=by rw[afe,if_pos hE]
      rw[e]at hf h
      exact anS l (j+1) listed a w fuel hl' (fun k hk=>by
        rcases Nat.lt_or_ge k j with g|g
        · exact h0 k g
        · have:k=j:=by omega
          rw[this,h1 j (Nat.le_refl _) hjn];exact hE) (fun k hk=>h1 k (by omega)) hsz (fun k o hk=>hw k o (by omega)) hb hf h
    · have hE':E.getD j true=false:=by simpa using hE
      have e:afe E (o::l) j=o::afe E l (j+1):=by rw[afe,if_neg hE]
      rw[e]at hf h
      cases fuel with
      |zero=>simp at hf
      |succ f=>
        have hjl:listed.getD j true=false:=(h1 j (Nat.le_refl _) hjn).trans hE'
        have hmem:j∈Region.ready md ops listed:=mem_ready.2 ⟨hjl,o,hj,fun e he hbe=>by
          have:=hb.1 j o hj e.on (agL.2 ⟨e,he,hbe,rfl⟩)
          have h2:=h0 e.on this
          have hlt:e.on<listed.size:=by omega
          simp[hlt]at h2⊢;exact h2⟩
        refine⟨fun hr=>absurd hmem (by rw[hr];simp),fun i hi=>?_⟩
        obtain⟨u,p,hp,hall⟩:=mem_ready.1 hi
        have hij:i=j:=by
          rcases Nat.lt_trichotomy i j with g|g|g
          · rw[h0 i g]at u;cases u
          · exact g
          · have his:=(Array.getElem?_eq_some_iff.1 hp).1
            have hEi:E.getD i true=false:=by rw[←h1 i (by omega) his];exact u
            have hlis:∀d∈aeA md p,listed.getD d true=true:=fun d hd=>by
              obtain⟨e,he,hbe,rfl⟩:=agL.1 hd
              have h2:=hall e he hbe
              have hlt:e.on<listed.size:=by have:=hb.1 i p hp e.on hd;omega
              simp[hlt]at h2⊢;exact h2
            have:=agM (md:=md) (L:=fun x=>listed.getD x true=true) (fun x q hq hx d hd=>by
              have hdx:=hb.1 x q hq d hd
              have hxs:=(Array.getElem?_eq_some_iff.1 hq).1
              rcases Nat.lt_or_ge d j with hdj|hdj
              · exact h0 d hdj
              · rw[h1 d hdj (by omega)]
                exact hb.2 x q hq (by rw[←h1 x (by omega) hxs];exact hx) d hd) _ _ _ (hw i p (by omega) hp hEi j g hE') (fun q hq d hd=>by rw[hp]at hq;cases hq;exact hlis d hd)
            rw[hjl]at this;cases this
        subst hij
        have rest:∀a' w',wpList P ops Q (afe E l (i+1)) a' w'→wpAny P md ops Q f (listed.setIfInBounds i true) a' w':=fun a' w' h'=>
          anS l (i+1) _ a' w' f hl'
            (fun k hk=>by
              by_cases e:i=k
              · subst e;simp[show i<listed.size by omega]
              · rw[getD_set_ne true e];exact h0 k (by omega))
            (fun k hk hkn=>by rw[getD_set_ne true (by omega)];exact h1 k (by omega) hkn) (by simpa using hsz) (fun k o hk=>hw k o (by omega)) hb (by simp at hf;omega) h'
        unfold wpOp
        simp only[hj]
        unfold wpList at h
        split
        · rename_i hwt
          rw[if_pos hwt]at h
          exact h.imp (fun h=>Oper.wp_mono rest h) id
        · rename_i hwt
          rw[if_neg hwt]at h
          exact rest _ _ h
structure amf(md:Region.Mode)(ops:Array Oper)(E:Array Bool)(m:Nat):Prop where
  sel:Region.noSelect ops=true
  le:m≤ops.size
  es:E.size=ops.size
  back:∀j o,ops[j]?=some o→∀k∈aeA md o,k<j
  one:∀j o,ops[j]?=some o→∀k,k<ops.size→k≠j→∀t,o.dst=some t→ajC ops k≠some t
  shut:∀j o,ops[j]?=some o→E.getD j true=true→∀k∈aeA md o,E.getD k true=true
  look:∀j o,ops[j]?=some o→E.getD j true=false→j<m→∀t∈o.looksAt ops,∀k,k<ops.size→k≠j→ajC ops k=some t→E.getD k true=true∨k∈aeA md o∨∃p,ops[k]?=some p∧j∈aeA md p
  tail:∀j o,ops[j]?=some o→E.getD j true=false→m≤j→∀k,k<j→E.getD k true=false→afO md ops ops.size j k=true
theorem amg{E:Array Bool}{m:Nat}(h:apW md ops E m=true):amf md ops E m:=by
  unfold apW at h
  simp only[Bool.and_eq_true,decide_eq_true_eq,List.all_eq_true,List.mem_range]at h
  obtain⟨⟨⟨h1,h2⟩,h2'⟩,h3⟩:=h
  have key:∀j o,ops[j]?=some o→_:=fun j o ho=>by
    have:=h3 j (Array.getElem?_eq_some_iff.1 ho).1
    rw[ho]at this
    exact this
  refine⟨h1,h2,h2',fun j o ho k hk=>?_,fun j o ho k hk hne t ht hd=>?_,fun j o ho hE k hk=>?_,fun j o ho hE hj t ht k hk hne hd=>?_,fun j o ho hE hj k hk hEk=>?_⟩
  · have:=key j o ho
    simp only[Bool.and_eq_true,List.all_eq_true,decide_eq_true_eq]at this
    exact this.1.1.1 k hk
  · have:=key j o ho
    simp only[Bool.and_eq_true,List.all_eq_true,List.mem_range]at this
    have:=this.1.1.2 k hk
    simp[hne,hd,ht]at this
  · have:=key j o ho
    simp only[Bool.and_eq_true,hE,Bool.not_true,Bool.false_or,List.all_eq_true]at this
    exact this.1.2 k hk
  · have:=key j o ho
    simp only[Bool.and_eq_true,hE,Bool.false_or,if_pos hj,List.all_eq_true,List.mem_range]at this
    have:=this.2 t ht k hk
    simp only[hd,Bool.or_eq_true,beq_iff_eq,hne,false_or,bne_self_eq_false,Bool.false_eq_true]at this
    rcases this with(h|h)|h
    · exact .inl h
    · exact .inr (.inl (by simpa using h))
    · split at h
      · rename_i p hp;exact .inr (.inr ⟨p,hp,by simpa using h⟩)
      · cases h
  · have:=key j o ho
    simp only[Bool.and_eq_true,hE,Bool.false_or,if_neg (show ¬j<m by omega),List.all_eq_true,List.mem_range]at this
    simpa[hEk]using this.2 k hk
theorem af9{E:Array Bool}{o:Oper}{k:Nat}:k∈aiV md E o↔k∈aeA md o∧E.getD k true=false:=by
  unfold aiV;simp[List.mem_filter]
structure anj(md:Region.Mode)(ops:Array Oper)(E:Array Bool)(m:Nat)(a:Act)(R:World→World→Prop)(w0:World)(Φ:Nat→Value→World→Prop)(listed:Array Bool)(vals:Nat→Value)(a':Act)(W:World):Prop where
  df:a'.defers=a.defers
  sz:a'.tmps.size=a.tmps.size
  ls:listed.size=ops.size
  res:∀k o,ops[k]?=some o→E.getD k true=false→listed.getD k true=true→agK o a'=vals k
  old:∀t,(∀k o,ops[k]?=some o→E.getD k true=false→listed.getD k true=true→o.dst≠some t)→a'.tmps[t]?=a.tmps[t]?
  phi:∀k,k<m→E.getD k true=false→listed.getD k true=true→Φ k (vals k) W
  g:R w0 W
  closed:∀k o,ops[k]?=some o→listed.getD k true=true→∀i∈aeA md o,listed.getD i true=true
  early:∀k,E.getD k true=true→listed.getD k true=true
  late:∀k,m≤k→k<ops.size→E.getD k true=false→listed.getD k true=false
theorem ahE(vals:Nat→Value)(p:Tmp→Bool):∀(ks:List Nat) (a:Act),gFr vals (ks.filterMap (aiF ops p)) a=aff ops vals (ks.filter (agr ops p)) a
  |[],_=>rfl
  |k::ks,a=>by
    cases h:(ops[k]?).bind (·.dst)with
    |none=>rw[List.filterMap_cons_none (by simp only[aiF,h]),List.filter_cons_of_neg (by simp[agr,h]),ahE vals p ks]
    |some t=>
      by_cases hp:p t=true
      · rw[List.filterMap_cons_some (b:=(k,t)) (by simp only[aiF,h,if_pos hp]),List.filter_cons_of_pos (by simp[agr,h,hp]),gFr,aff,h,ahE vals p ks]
      · rw[List.filterMap_cons_none (by simp only[aiF,h,if_neg hp]),List.filter_cons_of_neg (by simp[agr,h,hp]),ahE vals p ks]
theorem ajD(vals:Nat→Value):∀(ks:List Nat) (a:Act),aff ops vals (ks.filter (agr ops fun _=>true)) a=aff ops vals ks a
  |[],_=>rfl
  |k::ks,a=>by
    cases h:(ops[k]?).bind (·.dst)with
    |none=>
      rw[List.filter_cons_of_neg (by simp[agr,h]),ajD vals ks]
      show _=aff ops vals ks (a.put ((ops[k]?).bind (·.dst)) (vals k))
      rw[h];rfl
    |some t=>rw[List.filter_cons_of_pos (by simp[agr,h]),aff,aff,ajD vals ks]
theorem aga{E:Array Bool}{o:Oper}{k:Nat}:k∈aeB md ops E o↔k∈aiV md E o∧agr ops (fun t=>(o.looksAt ops).contains t) k=true:=by
  unfold aeB;simp[List.mem_filter]
theorem aiX{k:Nat}{o:Oper}(h:ops[k]?=some o):ajC ops k=o.dst:=by unfold ajC;rw[h];rfl
theorem agb{listed:Array Bool}{j:Nat}{o:Oper}(ho:ops[j]?=some o)(hr:j∈Region.ready md ops listed):listed.getD j true=false∧∀k∈aeA md o,listed.getD k true=true:=by
  obtain⟨hun,o',ho',hall⟩:=mem_ready.1 hr
  rw[ho]at ho';cases ho'
  refine⟨hun,fun k hk=>?_⟩
  obtain⟨e,he,hb,rfl⟩:=agL.1 hk
  have h1:=hall e he hb
  have hlt:e.on<listed.size:=by
    rcases Nat.lt_or_ge e.on listed.size with g|g
    · exact g
    · simp[Array.getElem?_eq_none g]at h1
  simp[hlt]at h1⊢;exact h1
variable {R:World→World→Prop} {E:Array Bool}
theorem arn{m:Nat}{a a':Act}{w0 W:World}{Φ:Nat→Value→World→Prop}{listed:Array Bool}{vals:Nat→Value}(hF:amf md ops E m)(hI:anj md ops E m a R w0 Φ listed vals a' W){j:Nat}{o:Oper}(ho:ops[j]?=some o)(hj:j<m)(hr:j∈Region.ready md ops listed)(t:Tmp)(ht:t∈o.looksAt ops) :
    a'.tmps[t]?=(aff ops vals (aeB md ops E o) a).tmps[t]?:=by
  obtain⟨hun,hlis⟩:=agb ho hr
  have hjs:=(Array.getElem?_eq_some_iff.1 ho).1
  have hEj:E.getD j true=false:=by
    cases h:E.getD j true
    · rfl
    · rw[hI.early j h]at hun;cases hun
  by_cases hw:∃k∈aiV md E o,ajC ops k=some t
  · obtain⟨k,hk,hd⟩:=hw
    have hkU:k∈aeB md ops E o:=aga.2 ⟨hk,by unfold agr;have:(ops[k]?).bind (·.dst)=some t:=hd;rw[this];simpa using ht⟩
    obtain⟨hk,hEk⟩:=af9.1 hk
    obtain⟨p,hp⟩:∃p,ops[k]?=some p:=⟨_,Array.getElem?_eq_getElem (by have:=hF.back j o ho k hk;omega)⟩
    have hpd:p.dst=some t:=by rw[←aiX hp];exact hd
    rw[akq vals t k hd _ _ (fun i hi hdi=>by
      by_cases e:i=k
      · exact e
      · exfalso
        have his:i<ops.size:=by have:=hF.back j o ho i (af9.1 (aga.1 hi).1).1;omega
        exact hF.one k p hp i his e t hpd hdi) hkU]
    have h1:=hI.res k p hp hEk (hlis k hk)
    unfold agK at h1
    rw[hpd]at h1
    simp only at h1
    by_cases hb:t<a.tmps.size
    · have hb':t<a'.tmps.size:=by rw[hI.sz];exact hb
      rw[if_pos hb]
      simp[hb']at h1⊢;exact h1
    · rw[if_neg hb,Array.getElem?_eq_none (by rw[hI.sz];exact Nat.not_lt.1 hb)]
  · have hno:∀k∈aiV md E o,ajC ops k≠some t:=fun k hk hd=>hw ⟨k,hk,hd⟩
    rw[ag6 vals t _ _ fun k hk=>hno k (aga.1 hk).1]
    refine hI.old t fun k p hp hEk hl hd=>?_
    have hks:=(Array.getElem?_eq_some_iff.1 hp).1
    by_cases e:k=j
    · subst e;rw[hun]at hl;cases hl
    · rcases hF.look j o ho hEj hj t ht k hks e (by rw[aiX hp];exact hd)with h|h|⟨q,hq,hjq⟩
      · rw[hEk]at h;cases h
      · exact hno k (af9.2 ⟨h,hEk⟩) (by rw[aiX hp];exact hd)
      · rw[hp]at hq;cases hq
        have:=hI.closed k p hp hl j hjq
        rw[hun]at this;cases this
theorem asv{a b:Act}(h:a.tmps.size=b.tmps.size)(o:Oper)(v:Value):agK o (a.put o.dst v)=agK o (b.put o.dst v):=by
  unfold agK
  cases hd:o.dst with
  |none=>rfl
  |some t=>simp only;rw[Act.put_same,Act.put_same,h]
theorem anj.step{m:Nat}{a a':Act}{w0 W W':World}{Φ:Nat→Value→World→Prop}{listed:Array Bool}{vals:Nat→Value}(hRt:∀x y z,R x y→R y z→R x z)(hst:∀k v w w',R w w'→Φ k v w→Φ k v w')(hF:amf md ops E m)(hI:anj md ops E m a R w0 Φ listed vals a' W){j:Nat}{o:Oper}(ho:ops[j]?=some o)(hj:j<m)(hr:j∈Region.ready md ops listed)(v:Value)(hg:R W W')(hp:Φ j (agK o (a'.put o.dst v)) W'):anj md ops E m a R w0 Φ (listed.setIfInBounds j true) (fun k=>if k=j then agK o (a'.put o.dst v)else vals k) (a'.put o.dst v) W':=by
  obtain⟨hun,hlis⟩:=agb ho hr
  have hjs:=(Array.getElem?_eq_some_iff.1 ho).1
  have hEj:E.getD j true=false:=by
    cases h:E.getD j true
    · rfl
    · rw[hI.early j h]at hun;cases hun
  have hlj:(listed.setIfInBounds j true).getD j true=true:=by simp[show j<listed.size by rw[hI.ls];exact hjs]
  have hset:∀k,k≠j→(listed.setIfInBounds j true).getD k true=listed.getD k true:=fun k hk=>getD_set_ne true (Ne.symm hk)
  refine⟨by rw[Act.put_defers',hI.df],by rw[Act.put_size,hI.sz],by simpa using hI.ls,fun k p hp' hEk hl=>?_,fun t ht=>?_,fun k hk hEk hl=>?_,hRt _ _ _ hI.g hg,fun k p hp' hl i hi=>?_,fun k hk=>?_,fun k hk hks hEk=>?_⟩
  · by_cases e:k=j
    · subst e;rw[ho]at hp';cases hp';simp
    · rw[hset k e]at hl
      simp only[e,if_false]
      rw[←hI.res k p hp' hEk hl]
      unfold agK
      cases hd:p.dst with
      |none=>rfl
      |some t=>
        simp only
        have:=Act.put_other a' o.dst v t (fun hod=>hF.one k p hp' j hjs (Ne.symm e) t hd (by rw[aiX ho];exact hod))
        simp[this]
  · have h1:o.dst≠some t:=ht j o ho hEj hlj
    rw[Act.put_other _ _ _ _ h1]
    refine hI.old t fun k p hp' hEk hl=>?_
    by_cases e:k=j
    · subst e;rw[ho]at hp';cases hp';exact h1
    · exact ht k p hp' hEk (by rw[hset k e];exact hl)
  · by_cases e:k=j
    · subst e;simpa using hp
    · rw[hset k e]at hl
      simp only[e,if_false]
      exact hst k _ _ _ hg (hI.phi k hk hEk hl)
  · by_cases e:i=j
    · subst e;exact hlj
    · rw[hset i e]
      by_cases e2:k=j
      · subst e2;rw[ho]at hp';cases hp'
        exact hlis i hi
      · rw[hset k e2]at hl
        exact hI.closed k p hp' hl i hi
  · by_cases e:k=j
    · subst e;exact hlj
    · rw[hset k e];exact hI.early k hk
  · rw[hset k (by omega)]
    exact hI.late k hk hks hEk
theorem amh{Φ:Value→World→Prop}{o:Oper}{a' b:Act}{W:World}{j:Nat}{K:Act→World→Prop}{Q:Exit→Act→World→Prop}(hR0:∀x,R x x)(ho:ops[j]?=some o)(hs:Region.noSelect ops=true)(hag:∀t∈o.looksAt ops,a'.tmps[t]?=b.tmps[t]?)(hsz:a'.tmps.size=b.tmps.size)(hop:gOp P ops R Φ o b W)(hK:∀v W',R W W'→Φ (agK o (a'.put o.dst v)) W'→K (a'.put o.dst v) W'):wpOp P ops Q j K a' W:=by
  have hev:execOp a'.eval o=execOp b.eval o:=execOp_congr o (fun cs d=>Region.noSelect_spec hs j o cs d ho) fun x hx=>by
    cases x with
    |tmp t=>
      have:=hag t (List.mem_append_left _ (List.mem_filterMap.2 ⟨.tmp t,by simpa using hx,rfl⟩))
      simp only[Act.eval,Array.getD_eq_getD_getElem?,this]
    |_=>rfl
  have hwt:Region.wanted o (yielded ops a'.tmps)=Region.wanted o (yielded ops b.tmps):=by
    unfold Region.wanted
    cases hg:o.guard with
    |none=>rfl
    |some gw=>
      obtain⟨g,want⟩:=gw
      have:yielded ops a'.tmps g=yielded ops b.tmps g:=by
        unfold yielded
        cases ht:(ops[g]?).bind (·.dst)with
        |none=>rfl
        |some t=>
          have:=hag t (List.mem_append_right _ (by rw[hg];simp[ht]))
          simp only[Option.bind_some,this]
      simp only[this]
  unfold gOp at hop
  unfold wpOp
  simp only[ho]
  rw[hwt]
  split
  · rename_i hw
    rw[if_pos hw]at hop
    refine .inl ?_
    unfold Oper.wp at *
    rw[hev]
    generalize (execOp b.eval o).run P W=r at *
    have hk:∀v W',gK R Φ o b W (b.put o.dst v) W'→K (a'.put o.dst v) W':=fun v W' ⟨_,h2,h3⟩=>hK v W' h2 (by rw[asv hsz];exact h3)
    cases r with
    |ok n w'=>
      cases n<;>simp only[Oper.upon]at hop⊢
      case value u=>exact hk u w' hop
      case skip=>exact hk undef w' hop
      case defer d=>
        exfalso
        have:=hop.1
        rw[Act.put_defers']at this
        exact absurd (congrArg List.length this) (by simp)
      case enter f args=>
        refine Calls.mono hop fun e w'' he=>?_
        cases e with
        |returned u=>exact hk u w'' he
        |panicked c=>exact he.elim
        |outgrown=>obtain⟨_,_,h⟩:=he;exact h.elim
      case row row args=>exact Rows.mono hop fun u w'' he=>hk u w'' he
    |halt x w'=>
      cases x<;>simp only[Oper.upon]at hop⊢
  · rename_i hw
    rw[if_neg hw]at hop
    exact hK undef W (hR0 W) (by rw[asv hsz];exact hop)
theorem ami{listed:Array Bool}:∀ {m:Nat},(∃k,k<m∧listed.getD k true=false)→∃k,k<m∧listed.getD k true=false∧∀i,i<k→listed.getD i true=true
  |0,⟨k,hk,_⟩=>by omega
  |m+1,⟨k,hk,hl⟩=>by
    by_cases h:∃k,k<m∧listed.getD k true=false
    · obtain⟨i,h1,h2,h3⟩:=ami h
      exact⟨i,by omega,h2,h3⟩
    · have e:k=m:=by
        by_cases e:k=m
        · exact e
        · exact absurd ⟨k,by omega,hl⟩ h
      subst e
      refine⟨k,by omega,hl,fun i hi=>?_⟩
      cases hh:listed.getD i true
      · exact absurd ⟨i,hi,hh⟩ h
      · rfl
def agc(E:Array Bool)(m:Nat):List Nat:=(List.range m).filter fun k=>!E.getD k true
theorem acW{m k:Nat}:k∈agc E m↔k<m∧E.getD k true=false:=by unfold agc;simp[List.mem_filter]
theorem asw{m:Nat}{a a':Act}{w0 W:World}{Φ:Nat→Value→World→Prop}{listed:Array Bool}{vals:Nat→Value}(hF:amf md ops E m)(hI:anj md ops E m a R w0 Φ listed vals a' W)(hc:∀k,k<m→listed.getD k true=true):a'=aff ops vals (agc E m) a:=by
  have key:a'.tmps=(aff ops vals (agc E m) a).tmps:=by
    apply Array.ext_getElem?
    intro t
    by_cases hw:∃k,(k<m∧E.getD k true=false)∧ajC ops k=some t
    · obtain⟨k,⟨hk,hEk⟩,hd⟩:=hw
      obtain⟨p,hp⟩:∃p,ops[k]?=some p:=⟨_,Array.getElem?_eq_getElem (show k<ops.size by have:=hF.le;omega)⟩
      have hpd:p.dst=some t:=by rw[←aiX hp];exact hd
      rw[akq vals t k hd _ _ (fun i hi hdi=>by
        by_cases e:i=k
        · exact e
        · exfalso
          exact hF.one k p hp i (by have:=(acW.1 hi).1;have:=hF.le;omega) e t hpd hdi) (acW.2 ⟨hk,hEk⟩)]
      have h1:=hI.res k p hp hEk (hc k hk)
      unfold agK at h1
      rw[hpd]at h1
      simp only at h1
      by_cases hb:t<a.tmps.size
      · have hb':t<a'.tmps.size:=by rw[hI.sz];exact hb
        rw[if_pos hb]
        simp[hb']at h1⊢;exact h1
      · rw[if_neg hb,Array.getElem?_eq_none (by rw[hI.sz];exact Nat.not_lt.1 hb)]
    · rw[ag6 vals t _ _ fun k hk hd=>hw ⟨k,acW.1 hk,hd⟩]
      refine hI.old t fun k p hp hEk hl hd=>?_
      have hks:=(Array.getElem?_eq_some_iff.1 hp).1
      rcases Nat.lt_or_ge k m with h|h
      · exact hw ⟨k,⟨h,hEk⟩,by rw[aiX hp];exact hd⟩
      · rw[hI.late k h hks hEk]at hl;cases hl
  have hd:a'.defers=(aff ops vals (agc E m) a).defers:=by rw[akR,hI.df]
  cases a'
  generalize aff ops vals (agc E m) a=b at key hd
  cases b
  simp at key hd
  rw[key,hd]
theorem agd{listed:Array Bool}:∀(l:List Oper) (j n:Nat),j+l.length=n→(∀k,j≤k→k<n→listed.getD k true=E.getD k true)→(afe E l j).length+afS listed j≤afS listed n
  |[],j,n,hn,_=>by simp at hn;subst hn;simp[afe]
  |o::l,j,n,hn,h=>by
    have ih:=agd l (j+1) n (by simp at hn⊢;omega) fun k hk=>h k (by omega)
    have hj:=h j (Nat.le_refl _) (by simp at hn;omega)
    simp only[afS]at ih
    rw[afe]
    split
    · rename_i hE;rw[hj,hE]at ih;simp at ih;omega
    · rename_i hE
      have hE':E.getD j true=false:=by simpa using hE
      rw[hj,hE']at ih;simp at ih⊢;omega
theorem azc{m:Nat}{a:Act}{w0:World}{Φ:Nat→Value→World→Prop}{Q:Exit→Act→World→Prop}(hR0:∀x,R x x)(hRt:∀x y z,R x y→R y z→R x z)(hst:∀k v w w',R w w'→Φ k v w→Φ k v w')(hF:amf md ops E m)(hops:∀j o,ops[j]?=some o→E.getD j true=false→j<m→∀(vals:Nat→Value) W,R w0 W→(∀k∈aeB md ops E o,Φ k (vals k) W)→gOp P ops R (Φ j) o (aff ops vals (aeB md ops E o) a) W)(hend:∀(vals:Nat→Value) W,R w0 W→(∀k∈agc E m,Φ k (vals k) W)→wpList P ops Q (afe E (ops.toList.drop m) m) (aff ops vals (agc E m) a) W) :
    ∀(fuel:Nat) (listed:Array Bool) (vals:Nat→Value) (a':Act) (W:World),anj md ops E m a R w0 Φ listed vals a' W→afS listed ops.size≤fuel→wpAny P md ops Q fuel listed a' W:=by
  intro fuel
  induction fuel with
  |zero=>
    intro listed vals a' W hI hl
    have hall:=aiW (n:=ops.size) (listed:=listed) (by omega)
    have hc:∀k,k<m→listed.getD k true=true:=fun k hk=>hall k (by have:=hF.le;omega)
    have hq:=hend vals W hI.g fun k hk=>hI.phi k (acW.1 hk).1 (acW.1 hk).2 (hc k (acW.1 hk).1)
    rw[←asw hF hI hc]at hq
    have hle:∀k,m≤k→k<ops.size→listed.getD k true=E.getD k true:=fun k hk hks=>by
      cases h:E.getD k true
      · exact hI.late k hk hks h
      · exact hI.early k h
    have hlen:=agd (E:=E) (listed:=listed) (ops.toList.drop m) m ops.size (by have:=hF.le;simp;omega) hle
    exact anS (ops.toList.drop m) m listed a' W 0 (fun i=>by simp) hc hle hI.ls (fun k o hk ho hE i hi hEi=>hF.tail k o ho hE hk i hi hEi) ⟨hF.back,hF.shut⟩ (by omega) hq
  |succ fuel ih=>
    intro listed vals a' W hI hl
    have hle:∀k,m≤k→k<ops.size→listed.getD k true=E.getD k true:=fun k hk hks=>by
      cases h:E.getD k true
      · exact hI.late k hk hks h
      · exact hI.early k h
    by_cases hc:∀k,k<m→listed.getD k true=true
    · have hq:=hend vals W hI.g fun k hk=>hI.phi k (acW.1 hk).1 (acW.1 hk).2 (hc k (acW.1 hk).1)
      rw[←asw hF hI hc]at hq
      have hlen:=agd (E:=E) (listed:=listed) (ops.toList.drop m) m ops.size (by have:=hF.le;simp;omega) hle
      exact anS (ops.toList.drop m) m listed a' W (fuel+1) (fun i=>by simp) hc hle hI.ls (fun k o hk ho hE i hi hEi=>hF.tail k o ho hE hk i hi hEi) ⟨hF.back,hF.shut⟩ (by omega) hq
    · have hun:∃k,k<m∧listed.getD k true=false:=by
        apply Classical.byContradiction
        intro h
        refine hc fun k hk=>?_
        cases hh:listed.getD k true
        · exact absurd ⟨k,hk,hh⟩ h
        · rfl
      obtain⟨k,hk,hkl,hkm⟩:=ami hun
      have hks:k<ops.size:=by have:=hF.le;omega
      have hEk:E.getD k true=false:=by
        cases h:E.getD k true
        · rfl
        · rw[hI.early k h]at hkl;cases hkl
      have hkr:k∈Region.ready md ops listed:=mem_ready.2 ⟨hkl,_,Array.getElem?_eq_getElem hks,fun e he hb=>by
        have h1:=hF.back k _ (Array.getElem?_eq_getElem hks) e.on (agL.2 ⟨e,he,hb,rfl⟩)
        have h2:=hkm e.on h1
        have hlt:e.on<listed.size:=by rw[hI.ls];omega
        simp[hlt]at h2⊢;exact h2⟩
      refine⟨fun hr=>absurd hkr (by rw[hr];simp),fun j hj=>?_⟩
      obtain⟨hjl,o,ho,_⟩:=mem_ready.1 hj
      obtain⟨_,hlis⟩:=agb ho hj
      have hEj:E.getD j true=false:=by
        cases h:E.getD j true
        · rfl
        · rw[hI.early j h]at hjl;cases hjl
      have hjm:j<m:=by
        rcases Nat.lt_or_ge j m with h|h
        · exact h
        · exfalso
          have:=agM (md:=md) (L:=fun x=>listed.getD x true=true) (fun x q hq hx d hd=>hI.closed x q hq hx d hd) _ _ _ (hF.tail j o ho hEj h k (by omega) hEk) (fun q hq d hd=>by rw[ho]at hq;cases hq;exact hlis d hd)
          rw[hkl]at this;cases this
      have hop:=hops j o ho hEj hjm vals W hI.g fun i hi=>by
        obtain⟨hi,hEi⟩:=af9.1 (aga.1 hi).1
        exact hI.phi i (by have:=hF.back j o ho i hi;omega) hEi (hlis i hi)
      refine amh hR0 ho hF.sel (fun t ht=>arn hF hI ho hjm hj t ht) (by rw[hI.sz,ah9]) hop fun v W' hg hp=>?_
      refine ih _ _ _ _ (hI.step hRt hst hF ho hjm hj v hg hp) ?_
      have:=akr hjl ops.size
      have hjs:=(Array.getElem?_eq_some_iff.1 ho).1
      rw[if_pos hjs]at this
      omega
def gU(md:Region.Mode)(ops:Array Oper)(E:Array Bool)(m:Nat):List Oper→Nat→List (Option (List (Nat×Tmp)))
  |[],_=>[]
  |o::l,j=>(if E.getD j true||decide (m≤j)then none else some (arl md ops E o))::gU md ops E m l (j+1)
def afg(Φ:Nat→Value→World→Prop)(vals:Nat→Value)(W:World):List (Nat×Tmp)→Prop
  |[]=>True
  |(k,_)::r=>Φ k (vals k) W∧afg Φ vals W r
theorem afo{Φ:Nat→Value→World→Prop}{vals:Nat→Value}{W:World}{p:Tmp→Bool}:∀(ks:List Nat),(∀k∈ks.filter (agr ops p),Φ k (vals k) W)→afg Φ vals W (ks.filterMap (aiF ops p))
  |[],_=>trivial
  |k::ks,h=>by
    cases hd:(ops[k]?).bind (·.dst)with
    |none=>rw[List.filterMap_cons_none (by simp only[aiF,hd])];exact afo ks fun i hi=>h i (by rw[List.filter_cons_of_neg (by simp[agr,hd])];exact hi)
    |some t=>
      by_cases hp:p t=true
      · rw[List.filterMap_cons_some (b:=(k,t)) (by simp only[aiF,hd,if_pos hp])]
        rw[List.filter_cons_of_pos (by simp[agr,hd,hp])]at h
        exact⟨h k (by simp),afo ks fun i hi=>h i (by simp[hi])⟩
      · rw[List.filterMap_cons_none (by simp only[aiF,hd,if_neg hp])];exact afo ks fun i hi=>h i (by rw[List.filter_cons_of_neg (by simp[agr,hd,hp])];exact hi)
def aks(P:Program)(ops:Array Oper)(R:World→World→Prop)(Φ:Nat→Value→World→Prop)(a:Act)(w0:World):List Oper→List (Option (List (Nat×Tmp)))→Nat→Prop
  |o::l,some u::U,j=>(∀(vals:Nat→Value) W,R w0 W→afg Φ vals W u→gOp P ops R (Φ j) o (gFr vals u a) W)∧aks P ops R Φ a w0 l U (j+1)
  |_::l,none::U,j=>aks P ops R Φ a w0 l U (j+1)
  |_,_,_=>True
theorem lW{Φ:Nat→Value→World→Prop}{a:Act}{w0:World}{o:Oper}{l:List Oper}{u:List (Nat×Tmp)}{U:List (Option (List (Nat×Tmp)))}{j:Nat}(h:∀(vals:Nat→Value) W,R w0 W→afg Φ vals W u→gOp P ops R (Φ j) o (gFr vals u a) W)(t:aks P ops R Φ a w0 l U (j+1)):aks P ops R Φ a w0 (o::l) (some u::U) j:=⟨h,t⟩
theorem UB{Φ:Nat→Value→World→Prop}{a:Act}{w0:World}{o:Oper}{l:List Oper}{U:List (Option (List (Nat×Tmp)))}{j:Nat}(t:aks P ops R Φ a w0 l U (j+1)):aks P ops R Φ a w0 (o::l) (none::U) j:=t
theorem adJ{Φ:Nat→Value→World→Prop}{a:Act}{w0:World}{U:List (Option (List (Nat×Tmp)))}{j:Nat}:aks P ops R Φ a w0 [] U j:=trivial
theorem acS(Φ:Nat→Value→World→Prop)(vals:Nat→Value)(W:World)(k:Nat)(t:Tmp)(r:List (Nat×Tmp)):afg Φ vals W ((k,t)::r)↔(Φ k (vals k) W∧afg Φ vals W r):=⟨fun h=>⟨h.1,h.2⟩,fun h=>⟨h.1,h.2⟩⟩
theorem ac1(Φ:Nat→Value→World→Prop)(vals:Nat→Value)(W:World):afg Φ vals W []↔True:=⟨fun _=>trivial,fun _=>trivial⟩
theorem asx{Φ:Nat→Value→World→Prop}{a:Act}{w0:World}{m:Nat}:∀(l:List Oper) (j:Nat),aks P ops R Φ a w0 l (gU md ops E m l j) j→∀i o,l[i]?=some o→E.getD (j+i) true=false→j+i<m→∀(vals:Nat→Value) W,R w0 W→(∀k∈aeB md ops E o,Φ k (vals k) W)→gOp P ops R (Φ (j+i)) o (aff ops vals (aeB md ops E o) a) W
  |[],_,_,i,o,h=>by simp at h
  |p::l,j,h,0,o,ho=>by
    simp at ho;subst ho
    intro hE hm vals W hg hd
    rw[gU,if_neg (by simp at hE hm⊢;exact⟨hE,hm⟩)]at h
    have:=h.1 vals W hg (by unfold arl;exact afo _ hd)
    unfold arl at this
    rw[ahE]at this
    exact this
  |p::l,j,h,i+1,o,ho=>by
    have h':aks P ops R Φ a w0 l (gU md ops E m l (j+1)) (j+1):=by
      rw[gU]at h
      split at h
      · exact h
      · exact h.2
    have:=asx l (j+1) h' i o (by simpa using ho)
    have e:j+1+i=j+(i+1):=by omega
    rw[e]at this;exact this
def atp(ops:Array Oper)(E:Array Bool)(m:Nat):List (Nat×Tmp):=(agc E m).filterMap (aiF ops fun _=>true)
theorem akt{Φ:Nat→Value→World→Prop}{a:Act}{w0 w1:World}(hw:∀W,R w1 W→R w0 W):∀(l:List Oper) (U:List (Option (List (Nat×Tmp)))) (j:Nat),aks P ops R Φ a w0 l U j→aks P ops R Φ a w1 l U j
  |[],[],_,_=>trivial
  |[],_::_,_,_=>trivial
  |_::_,[],_,_=>trivial
  |_::l,none::U,j,h=>akt hw l U (j+1) h
  |_::l,some u::U,j,h=>⟨fun vals W hg=>h.1 vals W (hw W hg),akt hw l U (j+1) h.2⟩
theorem ajE{Q:Exit→Act→World→Prop}{a:Act}{w w0:World}{l:List Oper}{fuel:Nat}{E:Array Bool}(R:World→World→Prop)(m:Nat)(Φ:Nat→Value→World→Prop)(U:List (Option (List (Nat×Tmp))))(V:List (Nat×Tmp))(T:List Oper)(hB:apW .any l.toArray E m=true)(hfu:afS E l.length≤fuel)(hU:gU .any l.toArray E m l 0=U)(hV:atp l.toArray E m=V)(hT:afe E (l.drop m) m=T)(hR0:∀x,R x x)(hRt:∀x y z,R x y→R y z→R x z)(hw0:R w0 w)(hst:∀k v w w',R w w'→Φ k v w→Φ k v w')(hops0:aks P l.toArray R Φ a w0 l U 0)(hend0:∀(vals:Nat→Value) W,R w0 W→afg Φ vals W V→wpList P l.toArray Q T (gFr vals V a) W):wpAny P .any l.toArray Q fuel E a w:=by
  have hF:=amg hB
  have hops:=akt (fun W h=>hRt _ _ _ hw0 h) _ _ _ hops0
  have hend:=fun vals W (h:R w W)=>hend0 vals W (hRt _ _ _ hw0 h)
  subst hU hV hT
  refine azc (a:=a) (w0:=w) (m:=m) (Φ:=Φ) (R:=R) (E:=E) hR0 hRt hst hF (fun j o ho hE hj vals W hg hd=>?_) (fun vals W hg hp=>?_) fuel E (fun _=>undef) a _ ?_ (by simpa using hfu)
  · have:=asx l 0 hops j o (by simpa using ho) (by simpa using hE) (by omega) vals W hg hd
    simpa using this
  · have:=hend vals W hg (by unfold atp;exact afo _ fun k hk=>hp k (List.mem_filter.1 hk).1)
    unfold atp at this
    rw[ahE,ajD]at this
    simpa using this
  · refine⟨rfl,rfl,hF.es,fun k o ho hE hl=>?_,fun _ _=>rfl,fun k hk hE hl=>?_,hR0 w,fun k o ho hl i hi=>?_,fun k hk=>hk,fun k hk hks hE=>hE⟩
    · rw[hE]at hl;cases hl
    · rw[hE]at hl;cases hl
    · exact hF.shut k o ho hl i hi
theorem apX(vals:Nat→Value):∀(u:List (Nat×Tmp)) (a:Act),(gFr vals u a).tmps.size=a.tmps.size
  |[],_=>rfl
  |(k,t)::r,a=>by rw[gFr,apX vals r,Act.put_size]
theorem apY(vals:Nat→Value)(t:Tmp)(v:Value):∀(u:List (Nat×Tmp)) (a:Act),u.all (fun p=>p.2 != t||false)=true→(gFr vals u a).tmps[t]?=a.tmps[t]?
  |[],_,_=>rfl
  |(k,t')::r,a,h=>by
    simp only[List.all_cons,Bool.and_eq_true,Bool.or_false,bne_iff_ne,ne_eq]at h
    rw[gFr,apY vals t v r _ (by simpa using h.2),Act.put_other _ _ _ _ (by intro e;cases e;exact h.1 rfl)]
theorem asy(vals:Nat→Value)(k:Nat)(t:Tmp):∀(u:List (Nat×Tmp)) (a:Act),(k,t)∈u→u.all (fun p=>p.2 != t||p.1==k)=true→t<a.tmps.size→(gFr vals u a).tmps[t]?=some (vals k)
  |[],_,h,_,_=>by cases h
  |(k',t')::r,a,h,hu,ht=>by
    simp only[List.all_cons,Bool.and_eq_true]at hu
    rw[gFr]
    by_cases hm:(k,t)∈r
    · exact asy vals k t r _ hm hu.2 (by rw[Act.put_size];exact ht)
    · have e:k=k'∧t=t':=by
        rcases List.mem_cons.1 h with h|h
        · exact Prod.mk.injEq ..▸h
        · exact absurd h hm
      obtain⟨rfl,rfl⟩:=e
      rw[apY vals t (vals k) r _ ?_]
      · simp[Act.put,ht]
      · rw[List.all_eq_true]
        intro p hp
        have:=List.all_eq_true.1 hu.2 p hp
        simp only[Bool.or_eq_true,bne_iff_ne,ne_eq,beq_iff_eq,Bool.or_false]at this⊢
        rcases this with h|h
        · exact h
        · intro e
          apply hm
          obtain⟨p1,p2⟩:=p
          simp only at h e
          subst h e
          exact hp
theorem nX{Φ:Value→World→Prop}{o:Oper}{b:Act}{W:World}{t:Tmp}(hg:o.guard=none)(hd:o.dst=some t)(htd:decide (t<b.tmps.size)=true)(h:∀K:Act→World→Prop,(∀v W',R W W'→Φ v W'→K (b.put (some t) v) W')→o.wp P b W K (fun _ _ _=>False)):gOp P ops R Φ o b W:=by
  have ht:=of_decide_eq_true htd
  unfold gOp
  rw[if_pos (by unfold Region.wanted;rw[hg])]
  refine h _ fun v W' hr hp=>⟨Act.put_defers' _ _ _,hr,?_⟩
  unfold agK
  rw[hd]
  simp only
  rw[Act.put_same,if_pos ht]
  exact hp
theorem awH{Φ:Value→World→Prop}{o:Oper}{b:Act}{W:World}{t:Tmp}{g:Nat}{w0:Bool}(hg:o.guard=some (g,w0))(hy:yielded ops b.tmps g=some w0)(hd:o.dst=some t)(htd:decide (t<b.tmps.size)=true)(h:∀K:Act→World→Prop,(∀v W',R W W'→Φ v W'→K (b.put (some t) v) W')→o.wp P b W K (fun _ _ _=>False)):gOp P ops R Φ o b W:=by
  have ht:=of_decide_eq_true htd
  unfold gOp
  rw[if_pos (by unfold Region.wanted;rw[hg];simp[hy])]
  refine h _ fun v W' hr hp=>⟨Act.put_defers' _ _ _,hr,?_⟩
  unfold agK
  rw[hd]
  simp only
  rw[Act.put_same,if_pos ht]
  exact hp
theorem agN{Φ:Value→World→Prop}{o:Oper}{u:List (Nat×Tmp)}{vals:Nat→Value}{a:Act}{W:World}{t tg:Tmp}{g:Nat}{w0:Bool}(hg:o.guard=some (g,w0))(hgd:ajC ops g=some tg)(hm:(g,tg)∈u)(hu:u.all (fun p=>p.2 != tg||p.1==g)=true)(hts:decide (tg<a.tmps.size)=true)(hv:vals g=.bool w0)(hd:o.dst=some t)(htd:decide (t<a.tmps.size)=true)(h:∀K:Act→World→Prop,(∀v W',R W W'→Φ v W'→K ((gFr vals u a).put (some t) v) W')→o.wp P (gFr vals u a) W K (fun _ _ _=>False)):gOp P ops R Φ o (gFr vals u a) W:=by
  refine awH (t:=t) (g:=g) (w0:=w0) hg ?_ hd (by rw[apX];exact htd) h
  unfold yielded
  have:=asy vals g tg u a hm hu (of_decide_eq_true hts)
  unfold ajC at hgd
  rw[hgd]
  simp only[Option.bind_some]
  rw[this,hv]
end
end Go.Proofs.YtmffejnigppbpaaGreatDoor

namespace Go.Proofs.YtmffejnigppbpaaGreatDoor
open Go.RowKit
structure ahX(p:Prop):Prop where
 out:p
theorem acJ{P:Program}{Q:Exit→Act→World→Prop}{a:Act}{w w0:World}{l:List Oper}{fuel:Nat}{E:Array Bool}(R:World→World→Prop)(m:Nat)(Φ:Nat→Value→World→Prop)(U:List (Option (List (Nat×Tmp))))(V:List (Nat×Tmp))(T:List Oper)(hB:apW .any l.toArray E m=true)(hfu:afS E l.length≤fuel)(hU:gU .any l.toArray E m l 0=U)(hV:atp l.toArray E m=V)(hT:afe E (l.drop m) m=T)(hR0:∀x,R x x)(hRt:∀x y z,R x y→R y z→R x z)(hw0:R w0 w)(hst:∀k v w w',R w w'→Φ k v w→Φ k v w')(hops0:aks P l.toArray R Φ a w0 l U 0)(hend0:∀(vals:Nat→Value) W,R w0 W→afg Φ vals W V→ahX (wpList P l.toArray Q T (gFr vals V a) W)):wpAny P .any l.toArray Q fuel E a w:=
 ajE R m Φ U V T hB hfu hU hV hT hR0 hRt hw0 hst hops0 fun vals W g d=>(hend0 vals W g d).out
theorem afb{P:Program}{ops:Array Oper}{R:World→World→Prop}{Φ:Value→World→Prop}{o:Oper}{b:Act}{W:World}(hg:o.guard=none)(hd:o.dst=none)(h:∀K:Act→World→Prop,(∀W',R W W'→Φ undef W'→K b W')→o.wp P b W K (fun _ _ _=>False)):gOp P ops R Φ o b W:=by
 unfold gOp
 rw[if_pos (by unfold Region.wanted;rw[hg])]
 refine h _ fun W' hr hp=>⟨rfl,hr,?_⟩
 unfold agK
 rw[hd]
 exact hp
end Go.Proofs.YtmffejnigppbpaaGreatDoor

namespace Go.Proofs.YtmffejnigppbpaaGreatDoor
open Go.RowKit
section
variable {P:Program} {ops:Array Oper} {md:Region.Mode} {E:Array Bool}
theorem anj.stepTo{R R':World→World→Prop}{m:Nat}{a a':Act}{w0 W W':World}{Φ Φ':Nat→Value→World→Prop}{listed:Array Bool}{vals:Nat→Value}(hF:amf md ops E m)(hI:anj md ops E m a R w0 Φ listed vals a' W){j:Nat}{o:Oper}(ho:ops[j]?=some o)(hj:j<m)(hr:j∈Region.ready md ops listed)(v:Value)(hg:R' w0 W')(hph:∀k u,Φ k u W→Φ' k u W')(hp:Φ' j (agK o (a'.put o.dst v)) W'):anj md ops E m a R' w0 Φ' (listed.setIfInBounds j true) (fun k=>if k=j then agK o (a'.put o.dst v)else vals k) (a'.put o.dst v) W':=by
 obtain⟨hun,hlis⟩:=agb ho hr
 have hjs:=(Array.getElem?_eq_some_iff.1 ho).1
 have hEj:E.getD j true=false:=by
  cases h:E.getD j true
  ·rfl
  ·rw[hI.early j h]at hun;cases hun
 have hlj:(listed.setIfInBounds j true).getD j true=true:=by simp[show j<listed.size by rw[hI.ls];exact hjs]
 have hset:∀k,k≠j→(listed.setIfInBounds j true).getD k true=listed.getD k true:=fun k hk=>getD_set_ne true (Ne.symm hk)
 refine⟨by rw[Act.put_defers',hI.df],by rw[Act.put_size,hI.sz],by simpa using hI.ls,fun k p hp' hEk hl=>?_,fun t ht=>?_,fun k hk hEk hl=>?_,hg,fun k p hp' hl i hi=>?_,fun k hk=>?_,fun k hk hks hEk=>?_⟩
 ·by_cases e:k=j
  ·subst e;rw[ho]at hp';cases hp';simp
  ·rw[hset k e]at hl
   simp only[e,if_false]
   rw[←hI.res k p hp' hEk hl]
   unfold agK
   cases hd:p.dst with
   |none=>rfl
   |some t=>
    simp only
    have:=Act.put_other a' o.dst v t (fun hod=>hF.one k p hp' j hjs (Ne.symm e) t hd (by rw[aiX ho];exact hod))
    simp[this]
 ·have h1:o.dst≠some t:=ht j o ho hEj hlj
  rw[Act.put_other _ _ _ _ h1]
  refine hI.old t fun k p hp' hEk hl=>?_
  by_cases e:k=j
  ·subst e;rw[ho]at hp';cases hp';exact h1
  ·exact ht k p hp' hEk (by rw[hset k e];exact hl)
 ·by_cases e:k=j
  ·subst e;simpa using hp
  ·rw[hset k e]at hl
   simp only[e,if_false]
   exact hph k _ (hI.phi k hk hEk hl)
 ·by_cases e:i=j
  ·subst e;exact hlj
  ·rw[hset i e]
   by_cases e2:k=j
   ·subst e2;rw[ho]at hp';cases hp'
    exact hlis i hi
   ·rw[hset k e2]at hl
    exact hI.closed k p hp' hl i hi
 ·by_cases e:k=j
  ·subst e;exact hlj
  ·rw[hset k e];exact hI.early k hk
 ·rw[hset k (by omega)]
  exact hI.late k hk hks hEk
section
variable {Ra:Bool→World→World→Prop} {R R1:World→World→Prop} {j0:Nat} {Φ:Bool→Nat→Value→World→Prop} {a:Act} {w0:World}
end
end
end Go.Proofs.YtmffejnigppbpaaGreatDoor
