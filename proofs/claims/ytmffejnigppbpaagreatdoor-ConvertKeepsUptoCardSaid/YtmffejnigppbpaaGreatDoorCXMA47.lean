/-
  Texts merged into one: Code, Uri, NamesPlain, PrefDel.
-/
import Derived.Test.YtmffejnigppbpaaGreatDoorCXMUtf
import Derived.Test.YtmffejnigppbpaaGreatDoorCXMA52
import Derived.Test.YtmffejnigppbpaaGreatDoorCXMA54
import Derived.Test.YtmffejnigppbpaaGreatDoorCXMA69
import Derived.RangeFuncBox
import Derived.Test.YtmffejnigppbpaaGreatDoorCXMFn
set_option linter.unusedVariables false
set_option linter.unusedSimpArgs false
namespace Go.Proofs.YtmffejnigppbpaaGreatDoor
open Go.RowKit
theorem GI{b:UInt8}{t:List UInt8}(h:b.toNat<128):kQ (b::t)=((b.toNat:Int),1):=by
 unfold kQ
 simp[h,show ¬128≤b.toNat by omega]
theorem GK{b:UInt8}{t:List UInt8}(h:b.toNat<128):gI (b::t)=1:=by
 unfold gI;rw[GI h];rfl
theorem Xz{b:UInt8}{t:List UInt8}(h:b.toNat<128):kR (b::t)=(kR t).map (·+1):=by
 have hs:gI (b::t)=1:=GK h
 rw[vT (by rw[hs];decide),hs];rfl
theorem zD{b:UInt8}{t:List UInt8}(h:b.toNat<128):kR (b::t)=none↔kR t=none:=by
 rw[Xz h];cases kR t<;>simp
theorem DC:∀(l:List UInt8),(∀b∈l,b.toNat<128)→kR l=none
 |[],_=>yz
 |b::t,h=>(zD (h b List.mem_cons_self)).2 (DC t fun x hx=>h x (List.mem_cons_of_mem _ hx))
theorem VK{l:List UInt8}(h:gI l≠0):gI l=1∧(∃b t,l=b::t∧b.toNat<128)∨∀b∈l.take (gI l),128≤b.toNat:=by
 cases l with
 |nil=>exact absurd rfl h
 |cons b t=>
  by_cases hb:b.toNat<128
  ·exact .inl ⟨GK hb,b,t,rfl,hb⟩
  ·right
   rcases qc (b::t)with hn|⟨r,n,hn,hm,n1,n4,nl⟩
   ·exact absurd (by unfold gI;rw[hn];rfl) h
   ·have hs:gI (b::t)=n:=yB hn
    rw[hs]
    have hp:=uF hn n1
    rw[←hp]
    have hr:¬r<128:=by
     intro hr
     rw[Je hr]at hp
     have hl:=congrArg List.length hp
     simp at hl
     have hn1:n=1:=by simp at nl;omega
     subst hn1
     simp at hp
     have:=(Et hm).1
     have hbn:(dL r).toNat=r.toNat:=by unfold dL;simp;omega
     rw[hp]at hbn
     omega
    have hby:∀x:Int,128≤x→x<256→128≤(dL x).toNat:=by
     intro x h1 h2
     have:(dL x).toNat=x.toNat:=by unfold dL;simp;omega
     omega
    have hr2:=Et hm
    intro c hc
    by_cases h2:r<2048
    ·rw[Jf hr h2]at hc
     simp only[List.mem_cons,List.not_mem_nil,or_false]at hc
     rcases hc with rfl|rfl<;>exact hby _ (by omega) (by omega)
    ·by_cases h3:r<65536
     ·rw[Jg hr h2 h3]at hc
      simp only[List.mem_cons,List.not_mem_nil,or_false]at hc
      rcases hc with rfl|rfl|rfl<;>exact hby _ (by omega) (by omega)
     ·rw[Jh hr h2 h3]at hc
      simp only[List.mem_cons,List.not_mem_nil,or_false]at hc
      rcases hc with rfl|rfl|rfl|rfl<;>exact hby _ (by omega) (by omega)
theorem XD{l:List UInt8}(h:gI l≠0):kR (l.take (gI l))=none:=by
 obtain⟨hn,hl⟩:(kQ (l.take (gI l))=kQ l)∧(l.take (gI l)).length=gI l:=by
  have hl:(l.take (gI l)).length=gI l:=by have:=NR l;simp;omega
  refine⟨?_,hl⟩
  rcases qc l with h0|⟨r,n,hn,hm,n1,n4,nl⟩
  ·exact absurd (by unfold gI;rw[h0];rfl) h
  ·have hs:gI l=n:=yB hn
   rw[hs,←uF hn n1]
   have:=Ji hm ([]:List UInt8)
   rw[List.append_nil]at this
   rw[this,uF hn n1,hn]
   have:(l.take n).length=n:=by simp;omega
   rw[this]
 have hs:gI (l.take (gI l))=gI l:=congrArg (fun p:Int×Int=>p.2.toNat) hn
 rw[vT (by rw[hs];exact h),hs,List.drop_eq_nil_of_le (by omega),yz];rfl
def uK(lines:Bool)(c:UInt8):Bool:=decide ((32≤(c.toNat:Int)∨(c.toNat:Int)=9∨((c.toNat:Int)=10∧lines=true))∧(c.toNat:Int)≠127)
def dF(s:List UInt8)(lines:Bool):Bool:=s.all (uK lines)&&(kR s).isNone
theorem GN{s:List UInt8}{lines:Bool}(h:s.all (uK lines)=false):dF s lines=false:=by unfold dF;rw[h];rfl
theorem DD{s:List UInt8}{lines:Bool}{k:Nat}(h:kR s=some k):dF s lines=false:=by unfold dF;rw[h];simp
theorem DF{s:List UInt8}{lines:Bool}(h:s.all (uK lines)=true)(hb:kR s=none):dF s lines=true:=by unfold dF;rw[h,hb];rfl
theorem nV{s:List UInt8}{lines:Bool}:dF s lines=true↔(∀c∈s,uK lines c=true)∧kR s=none:=by
 unfold dF
 rw[Bool.and_eq_true,List.all_eq_true,Option.isNone_iff_eq_none]
theorem Bg{a b:List UInt8}{l:Bool}(ha:dF a l=true)(hb:dF b l=true):dF (a++b) l=true:=by
 obtain⟨a1,a2⟩:=nV.1 ha
 obtain⟨b1,b2⟩:=nV.1 hb
 refine nV.2 ⟨fun c hc=>?_,rG a2 b2⟩
 rcases List.mem_append.1 hc with h|h
 ·exact a1 c h
 ·exact b1 c h
theorem GU{c:UInt8}{b:List UInt8}{l:Bool}(hc:c.toNat<128)(ht:uK l c=true)(hb:dF b l=true):dF (c::b) l=true:=by
 obtain⟨b1,b2⟩:=nV.1 hb
 refine nV.2 ⟨fun x hx=>?_,(zD hc).2 b2⟩
 rcases List.mem_cons.1 hx with rfl|h
 ·exact ht
 ·exact b1 x h
theorem VL(l:Bool):dF [] l=true:=nV.2 ⟨fun c hc=>(by cases hc),yz⟩
theorem Oz{s:List UInt8}{l:Bool}(h:∀c∈s,32≤c.toNat∧c.toNat≤126):dF s l=true:=by
 refine nV.2 ⟨fun c hc=>?_,DC s fun b hb=>by have:=h b hb;omega⟩
 have:=h c hc
 unfold uK
 rw[decide_eq_true_iff]
 omega
end Go.Proofs.YtmffejnigppbpaaGreatDoor

set_option maxHeartbeats 400000
set_option maxRecDepth 100000
namespace Go.Proofs.YtmffejnigppbpaaGreatDoor
open Go.RowKit
theorem LC(l:List UInt8)(w:World)(hs:l.length≤140737488351328):nT 183 #[.string (S l)] w (.bool (oP l)):=by
 go_enter Tryz.func183,Tryz.ntmps183
 go_wp2
 go_loop [6] (fun i=>∃k:Nat,k≤l.length∧i=.int .i64 k∧(l.take k).all NK=true) (fun i=>l.length-(intOf i).toNat)
 case atStart=>exact⟨0,Nat.zero_le _,rfl,rfl⟩
 case round=>
  obtain⟨k,hk,rfl,hr⟩:=hrel
  have HR:=hid hr;clear hr
  by_cases hlt:k<l.length
  case neg=>
   go_wp2
   go_ret
   exact⟨cO (Dh HR.out (by omega)).symm,rfl⟩
  have hb:=l[k].toNat_lt
  go_wp2
  all_goals try (go_ret;refine⟨cO (NL hlt (by unfold NK;rw[decide_eq_false_iff_not];((try simp only[beq_iff_eq,beq_eq_false_iff_ne,ne_eq]at *);omega))).symm,rfl⟩;done)
  all_goals go_round
  all_goals try (case measure=>simp[intOf];omega)
  all_goals exact⟨k+1,by omega,by go_num,yx HR.out hlt (by unfold NK;rw[decide_eq_true_iff];((try simp only[beq_iff_eq,beq_eq_false_iff_ne,ne_eq]at *);omega))⟩
def YR:List UInt8:=[100,97,116,97,58]
def E5(k b:List UInt8):List UInt8:=YR++k++[59,98,97,115,101,54,52,44]++rP b
theorem Qn(k b:List UInt8)(w:World)(hk:k.length≤1099511627776)(hb:b.length≤1099511627776):dA 140 #[.string (S k),.string (S b)] w (if oP k=true then .tuple #[.string (S (E5 k b)),.nilIface] else .tuple #[.string (S []),eno 3]):=by
 have hen:(rP b).length≤1466015503704:=by rw[xq];omega
 cases h:oP k with
 |true=>
  rw[if_pos rfl]
  go_enter Tryz.func140,Tryz.ntmps140
  go_wp2_with fail
  refine(LC k _ (by omega)).use ?_
  rw[h]
  go_wp2_with (fail)
  refine(Jy b _ hb).use ?_;intro w1 g1
  go_wp2_with fail
  go_ret2
  exact⟨by simp[E5,YR],g1⟩
 |false=>
  rw[if_neg (by simp)]
  go_enter Tryz.func140,Tryz.ntmps140
  go_wp2_with fail
  refine(LC k _ (by omega)).use ?_
  rw[h]
  go_wp2_with fail
  go_ret2
  exact⟨rfl,G.refl _⟩
end Go.Proofs.YtmffejnigppbpaaGreatDoor

namespace Go.Proofs.YtmffejnigppbpaaGreatDoor
open Go.RowKit
theorem uy{W W':World}{B:Nat}{t:TypeId}{v:Value}(h:Boxed W B t v)(g:Below W.heap.size W W'):Boxed W' B t v:=(g.block B h.lt).trans h
theorem ng{W W':World}{base:Nat}{e:TypeId}{size:Nat}{v:Value}{n:Nat}{xs:List Value}(h:W.ownsRow base e size v n xs)(g:Below W.heap.size W W'):W'.ownsRow base e size v n xs:=by
 refine⟨h.1,h.2.imp id ?_⟩
 rintro⟨b,cap,cur,e1,e2,e3,r⟩
 exact⟨b,cap,cur,e1,e2,(g.block b (Array.getElem?_eq_some_iff.1 e3).1).trans e3,r⟩
theorem yN{W:World}{base base':Nat}{e:TypeId}{size:Nat}{v:Value}{n:Nat}{xs:List Value}(h:W.ownsRow base e size v n xs)(g:base'≤base):W.ownsRow base' e size v n xs:=by
 refine⟨h.1,h.2.imp id ?_⟩
 rintro⟨b,cap,cur,e1,e2,r⟩
 exact⟨b,cap,cur,e1,Nat.le_trans g e2,r⟩
theorem KH{Bp B1 Bz b:Nat}{W:World}(v:Value)(h1:b≠Bp)(h2:b≠B1)(h3:b≠Bz):CJ Bp B1 Bz W (W.setCell ⟨b,0,none⟩ v):=
 ⟨World.cell?_setCell_other _ _ _ _ (by first|(simp;done)|(simp;omega)),World.cell?_setCell_other _ _ _ _ (by first|(simp;done)|(simp;omega)),World.cell?_setCell_other _ _ _ _ (by first|(simp;done)|(simp;omega)),World.frozen?_setCell _ _ _ _⟩
theorem EN{n:Nat}{W w1:World}{e:TypeId}{size:Nat}{v:Value}{k:Nat}{xs:List Value}{tmp:Obj}(hrow:W.ownsRow n e size v k xs)(hn:n≤W.heap.size)(hgrow:(W.alloc tmp).grownBy w1 v.ownBlock):Below n W w1:=by
 refine((Below.refl n W).alloc hn tmp).grown hgrow (by simp;omega) fun j ej=>?_
 rcases hrow.2 with⟨rfl,_⟩|⟨g,cap,cur,rfl,hb,_,_⟩
 ·simp[Value.ownBlock]at ej
 ·obtain rfl:g=j:=by simpa[Value.ownBlock]using ej
  exact hb
theorem KP:(Tryz.prog.info? 9).map (fun i=>(i.zero,i.size,i.bytes))=some (some (.string ⟨#[]⟩),1,16):=by kernel_rfl
def wE(x:List UInt8):List UInt8:=(Lib.cut x [32]).1
theorem EO(v:Int):(fM v).map (fun e=>wE e.text)=(fM v).map Ent.name:=by
 unfold fM
 split
 ·decide +kernel
 ·decide +kernel
theorem Na(v:Int):(fM v).length≤100:=by
 unfold fM
 split
 ·decide +kernel
 ·decide +kernel
end Go.Proofs.YtmffejnigppbpaaGreatDoor

set_option maxHeartbeats 8000000
set_option maxRecDepth 100000
namespace Go.Proofs.YtmffejnigppbpaaGreatDoor
open Go.RowKit
def ack(q:List UInt8→Bool)(xs:List (List UInt8))(R:World→World→Prop)(w w1:World):Prop:=(xs.findIdx? q=none∧G w w1)∨(∃k,xs.findIdx? q=some k∧∃W,G w W∧R W w1)
theorem Ws(g:Nat)(lb:Array Value)(eg:∀args w,(callFunc g args).run Tryz.prog w=.ok (.enter g args) w)(q:List UInt8→Bool)(v:Value)(xs:List (List UInt8))(w:World)(R:World→World→Prop)(h:mi 1 w v xs.length (xs.flatMap oh))(hl:xs.length≤1000000)(hPf:∀W,G w W→∀x∈xs,q x=false→dA g (#[OM x]++lb) W (.bool false))(hPt:∀W,G w W→∀x∈xs,q x=true→Calls Tryz.prog g (#[OM x]++lb) W fun e w'=>e=.returned (.bool true)∧R W w') :
  Calls Tryz.prog 53 #[v,.func (.func g) #[] lb] w fun e w1=>e=.returned (.int .i64 (kF (xs.findIdx? q)))∧ack q xs R w w1:=by
 have H:=hid h
 have HPF:=hid hPf
 have HPT:=hid hPt
 obtain⟨a,cap,rfl⟩:=h.len
 clear h hPf hPt
 go_enter Tryz.func53,Tryz.ntmps53
 go_wp2_with fail
 go_loopw [8] (fun i wr=>∃k:Nat,k≤xs.length∧i=.int .i64 k∧(∀j (h:j<xs.length),j<k→q xs[j]=false)∧G w wr) (fun i _=>xs.length-(intOf i).toNat)
 case atStart=>exact⟨0,Nat.zero_le _,rfl,fun j _ h=>by omega,G.refl _⟩
 case round=>
  obtain⟨k,hk,rfl,hn,gr⟩:=hrel
  have HN:=hid hn
  have GR:=hid gr
  clear hn gr
  by_cases hlt:k<xs.length
  ·obtain⟨_,_,hh⟩:=H.out.grow GR.out
   rcases hh with⟨h0,_⟩|⟨b,off,cp,e,hb,_,hc⟩
   ·omega
   cases e
   obtain⟨x,hx⟩:∃x,xs[k]=x:=⟨_,rfl⟩
   have hxk:xs[k]?=some x:=by rw[List.getElem?_eq_getElem hlt,hx]
   have c0:wr.cell? ⟨b,off+k,none⟩=some (.string (S x)):=by
    have e1:=xP oL hxk 0 (by omega)
    have e2:k*1+0<(xs.flatMap oh).length:=by rw[mZ oL];omega
    have:=hc _ e2
    rw[List.getElem?_eq_getElem e2]at e1
    have e3:=Option.some.inj e1
    rw[e3]at this
    simpa[Nat.add_assoc]using this
   have hmem:x∈xs:=hx▸List.getElem_mem hlt
   have HX:=hid hx
   clear hc hxk
   cases hq:q x with
   |true=>
    have CQ:=hid (HPT.out wr GR.out x hmem hq)
    have HF:Hid (xs.findIdx? q=some k):=hid (by
     rw[List.findIdx?_eq_some_iff_getElem]
     exact⟨hlt,by rw[HX.out];exact hq,fun j hj=>by rw[HN.out j (by omega) hj];simp⟩)
    clear hq hx
    clear hmem
    go_wp2_with (go_at_fn g;refine CQ.out.mono ?_)
    rintro e w2 ⟨rfl,hr⟩
    have HRR:=hid hr
    clear hr
    go_wp2_with fail
    go_ret
    exact⟨kX (by rw[HF.out];rfl),.inr ⟨k,HF.out,_,GR.out,HRR.out⟩⟩
   |false=>
    have CQ:=hid (HPF.out wr GR.out x hmem hq)
    have HF:Hid (∀j (h:j<xs.length),j<k+1→q xs[j]=false):=hid (fun j h hj=>by
     rcases Nat.lt_or_ge j k with h1|h1
     ·exact HN.out j h h1
     ·obtain rfl:j=k:=by omega
      rw[HX.out];exact hq)
    clear hq hx hmem
    go_wp2_with (go_at_fn g;refine CQ.out.use ?_)
    intro w2 g2
    have G2:Hid (G w w2):=hid (GR.out.trans g2)
    clear g2
    go_wp2_with fail
    go_roundw
    case rel=>exact⟨k+1,by omega,by go_num,HF.out,G2.out⟩
    case measure=>simp[intOf];omega
  ·obtain rfl:k=xs.length:=by omega
   have HF:Hid (xs.findIdx? q=none):=hid (by
    rw[List.findIdx?_eq_none_iff]
    intro x hx
    obtain⟨j,hj,rfl⟩:=List.mem_iff_getElem.1 hx
    rw[HN.out j hj hj])
   go_wp2_with fail
   go_ret
   exact⟨kX (by rw[HF.out];rfl),.inl ⟨HF.out,GR.out⟩⟩
theorem Tc(g:Nat)(lb:Array Value)(eg:∀args w,(callFunc g args).run Tryz.prog w=.ok (.enter g args) w)(q:List UInt8→Bool)(base:Nat)(v:Value)(xs:List (List UInt8))(w:World)(R:World→Prop)(h:w.ownsRow base 9 1 v xs.length (xs.flatMap oh))(hl:xs.length≤1000000)(hIX:Calls Tryz.prog 53 #[v,.func (.func g) #[] lb] w fun e w1=>e=.returned (.int .i64 (kF (xs.findIdx? q)))∧R w1)(hR:∀w1,R w1→w1.ownsRow base 9 1 v xs.length (xs.flatMap oh)∧(∀k,xs.findIdx? q=some k→aa5 g lb q xs w1 v.ownBlock)) :
  Calls Tryz.prog 137 #[v,.func (.func g) #[] lb] w fun e w'=>∃u w1,R w1∧e=.returned u∧w'.ownsRow base 9 1 u (xs.filter fun x=>!q x).length ((xs.filter fun x=>!q x).flatMap oh)∧w1.grownBy w' v.ownBlock∧u.ownBlock=v.ownBlock:=by
 have HIX:=hid hIX
 have HRR:=hid hR
 obtain⟨r,hr⟩:∃r,xs.findIdx? q=r:=⟨_,rfl⟩
 rw[hr]at HIX
 have HR:=hid hr
 clear hr hIX hR
 rcases h.2 with⟨rfl,h0⟩|⟨b,cap,cur0,rfl,hb0,hg0,hn0,hm0,hs0,ht0⟩
 ·have hx0:xs=[]:=List.eq_nil_of_length_eq_zero h0
  obtain rfl:r=none:=by rw[←HR.out,hx0];rfl
  have HX0:=hid hx0
  clear h hx0 h0
  go_enter Tryz.func137,Tryz.ntmps137
  go_wp2_with fail
  refine HIX.out.mono ?_
  rintro e w1 ⟨rfl,hr1⟩
  have HR1:=hid hr1
  clear hr1
  simp only[kF]
  go_wp2_with fail
  go_ret
  refine⟨_,w1,HR1.out,rfl,?_,BU _ _,rfl⟩
  rw[HX0.out]
  exact⟨rfl,.inl ⟨rfl,rfl⟩⟩
 clear hg0 hm0 hs0 ht0 hb0 hn0 h
 cases r with
 |none=>
  have HF:Hid ((xs.filter fun x=>!q x)=xs):=hid (List.filter_eq_self.2 fun x hx=>by have:=List.findIdx?_eq_none_iff.1 HR.out x hx;simp[this])
  go_enter Tryz.func137,Tryz.ntmps137
  go_wp2_with fail
  refine HIX.out.mono ?_
  rintro e w1 ⟨rfl,hr1⟩
  have HR1:=hid hr1
  clear hr1
  simp only[kF]
  go_wp2_with fail
  go_ret
  refine⟨_,w1,HR1.out,rfl,?_,BU _ _,rfl⟩
  rw[HF.out]
  exact(HRR.out w1 HR1.out).1
 |some i0=>
  go_enter Tryz.func137,Tryz.ntmps137
  go_wp2_with fail
  refine HIX.out.mono ?_
  rintro e w ⟨rfl,hr1⟩
  have HR1:=hid hr1
  obtain⟨hrow,hans⟩:=HRR.out w hr1
  have HP:=hid (hans i0 HR.out)
  clear hans hr1
  simp only[kF]
  rcases hrow.2 with⟨e,_⟩|⟨b',cap',cur,e,hb,hg,hn,hm,hs,ht⟩
  ·cases e
  cases e
  clear hrow
  have h9:cur.toList.length=cap*1:=by rw[Array.length_toList];exact hs
  have HC0:Hid (cur.toList.take (xs.length*1)=xs.flatMap oh∧xs.length*1≤cur.toList.length):=hid ⟨ht,by rw[h9];exact Nat.mul_le_mul_right _ hn⟩
  clear h9
  have HD:=hid (uh.start (p:=q) oL HC0.out.1 HR.out)
  have HB1:=hid (show BR w b 9 cur.toList w from⟨BU _ _,by simpa using hg⟩)
  have HSZ:=hid (⟨hs,hb,hm⟩:cur.size=cap*1∧base≤b∧cap≤maxLen)
  have hi0:i0<xs.length:=by have:=HR.out;rw[List.findIdx?_eq_some_iff_getElem]at this;exact this.1
  clear ht hg hs hm
  have hne:((i0:Int) == -1)=false:=beq_eq_false_iff_ne.2 (by omega)
  go_wp2_with fail
  go_loopw [5,6,7] (fun s5 s6 _ wr=>∃(i j:Nat) (cu:List Value),s5=.int .i64 (i:Int)∧s6=.int .i64 (j:Int)∧j≤xs.length∧BR w b 9 cu wr∧uh q oh 1 xs cur.toList cu i j) (fun _ s6 _ _=>xs.length-(intOf s6).toNat)
  case atStart=>exact⟨i0,i0+1,cur.toList,rfl,by go_num,by omega,HB1.out,HD.out⟩
  case round=>
   obtain⟨i,j,cu,rfl,rfl,hj,hB,hD⟩:=hrel
   have hij:=hD.lt
   have HB2:=hid hB
   have HD2:=hid hD
   obtain⟨hc0,hc1⟩:=HC0.out
   by_cases hlt:j<xs.length
   ·obtain⟨x,hx⟩:∃x,xs[j]=x:=⟨_,rfl⟩
    have hxj:xs[j]?=some x:=by rw[List.getElem?_eq_getElem hlt,hx]
    have hjl:j*1+1≤cur.toList.length:=by omega
    have c0:=hB.cell (hD.cell oL hc0 hxj 0 (by omega))
    obtain⟨u0,hu0⟩:=hD.has (by omega) (by omega) 0 (by omega)
    have d0:=hB.cell hu0
    have f0:=hB.fz (i*1+0)
    simp only[oh,List.getElem?_cons_zero,List.getElem?_cons_succ,Nat.mul_one,Nat.add_zero]at c0 d0 f0
    have CL:=hid (fun W (gW:G wr W)=>HP.out W (Wy hB.mv gW) x (hx▸List.getElem_mem hlt))
    have HX:=hid hxj
    have HJL:=hid hjl
    clear hx hxj hB hD hc0 hc1 hjl hu0
    have hltz:(j:Int)<(xs.length:Int):=by omega
    cases hq:q x with
    |false=>
     have CQ:=CL.out wr (G.refl _)
     rw[hq]at CQ
     have HQ:=hid hq
     clear hq
     have hbl:=HB2.out.lt
     go_wp2_with (go_at_fn g;refine CQ.use ?_)
     intro w3 g3
     have HB3:=hid (HB2.out.grow g3)
     rw[←g3.cell (p:=⟨b,i,none⟩) hbl]at d0
     rw[←g3.below.frozen (p:=⟨b,i,none⟩) hbl]at f0
     clear g3 c0 CQ
     go_wp2_with fail
     go_roundw
     case rel=>exact⟨i+1,j+1,_,by go_num,by go_num,by omega,HB3.out.set i _,HD2.out.keep1 rfl HX.out HQ.out (by have:=HJL.out;omega)⟩
     case measure=>simp[intOf];omega
    |true=>
     have CQ:=CL.out wr (G.refl _)
     rw[hq]at CQ
     have HQ:=hid hq
     clear hq
     go_wp2_with (go_at_fn g;refine CQ.use ?_)
     intro w3 g3
     have HB3:=hid (HB2.out.grow g3)
     clear g3 c0 CQ
     go_wp2_with fail
     go_roundw
     case rel=>exact⟨i,j+1,_,rfl,by go_num,by omega,HB3.out,HD2.out.skip HX.out HQ.out⟩
     case measure=>simp[intOf];omega
   ·obtain rfl:j=xs.length:=by omega
    have hltz:¬(xs.length:Int)<(xs.length:Int):=by omega
    obtain⟨i1,i2,i3,i4⟩:=info_parts ace
    obtain⟨cu2,W2,hrun,hB3,hl3,hlo3⟩:=zH (P:=Tryz.prog) hB 39 9 (.string ⟨#[]⟩) 1 rfl (by omega) Tryz.underlying39 (fun w=>by kernel_rfl) (by decide) i i xs.length (cap-i) (by omega) hij (by rw[hD.len];exact hc1)
    have hcnt:=hD.cnt
    have hlow:=hD.low
    rw[List.take_length]at hcnt hlow
    have HL:=hid (show w.grownBy W2 (some b)∧W2.ownsRow base 9 1 (.slice (some ⟨b,0,none⟩) i cap) i ((xs.filter fun x=>!q x).flatMap oh)from by
     refine⟨hB3.mv,by rw[mZ oL,hcnt],.inr ⟨b,cap,cu2.toArray,rfl,HSZ.out.2.1,hB3.b,by omega,HSZ.out.2.2,?_,?_⟩⟩
     ·have:=HSZ.out.1
      rw[List.size_toArray,hl3,hD.len,Array.length_toList,this]
     ·rw[List.toList_toArray,hlo3,hlow])
    have HN:=hid hcnt
    clear hcnt hlow hlo3 hl3 hB3 hB hD hc0 hc1
    go_wp2_with fail
    go_ret
    refine⟨_,_,HR1.out,rfl,?_,HL.out.1,rfl⟩
    rw[HN.out]
    exact HL.out.2
end Go.Proofs.YtmffejnigppbpaaGreatDoor
