/-
  Texts merged into one: Params, Texts, SeqSplit, RulesTab.
-/
import Derived.Test.YtmffejnigppbpaaGreatDoorCXMA59
import Derived.Test.YtmffejnigppbpaaGreatDoorCXMA49
import Derived.Test.YtmffejnigppbpaaGreatDoorCXMPieces
import Derived.Test.YtmffejnigppbpaaGreatDoorCXMRepl
import Derived.Lib.JoinLaws
import Derived.Shelf.Abstract
import Derived.OwnWalkIn
import Derived.TacticsInMore
import Derived.LoopNIn
import Derived.LoopIn
set_option linter.unusedVariables false
set_option linter.unusedSimpArgs false
set_option maxHeartbeats 1000000
set_option maxRecDepth 100000
namespace Go.Proofs.YtmffejnigppbpaaGreatDoor
open Go.RowKit
abbrev Pm:=List UInt8×List (List UInt8)
def eu(w:World)(v:Value)(ps:List Pm):Prop:=
 ∃a cap,v=.slice a ps.length cap∧ps.length≤cap∧(ps≠[]→∃b off,a=some ⟨b,off,none⟩∧b<w.heap.size ∧
  ∀(i:Nat) (p:Pm),ps[i]?=some p→∃sv,w.cell? ⟨b,off+i*2,none⟩=some (.string (S p.1))∧w.cell? ⟨b,off+i*2+1,none⟩=some sv∧di w sv p.2)
theorem eu.grow{w w':World}{v:Value}{ps:List Pm}(h:eu w v ps)(g:G w w'):eu w' v ps:=by
 obtain⟨a,cap,e,hc,h⟩:=h
 refine⟨a,cap,e,hc,fun h0=>?_⟩
 obtain⟨b,off,e2,hb,h⟩:=h h0
 refine⟨b,off,e2,Nat.lt_of_lt_of_le hb g.size,fun i p hp=>?_⟩
 obtain⟨sv,h1,h2,h3⟩:=h i p hp
 exact⟨sv,by rw[g.cell hb];exact h1,by rw[g.cell hb];exact h2,h3.grow g⟩
def gZ(ps:List Pm)(s:List UInt8):Option Nat:=ps.findIdx? fun p=>dC p.1 s
def kF(o:Option Nat):Int:=match o with|none=>-1|some k=>(k:Int)
theorem ZV{ps:List Pm}{s:List UInt8}{k:Nat}(h:k<ps.length)(hp:dC (ps[k]).1 s=true)(hn:∀j (h:j<k),dC (ps[j]'(by omega)).1 s=false):gZ ps s=some k:=by
 unfold gZ
 rw[List.findIdx?_eq_some_iff_getElem]
 exact⟨h,hp,fun j hj=>by simp[hn j hj]⟩
theorem Wp{ps:List Pm}{s:List UInt8}(hn:∀j (h:j<ps.length),dC (ps[j]).1 s=false):gZ ps s=none:=by
 unfold gZ
 rw[List.findIdx?_eq_none_iff]
 intro p hp
 obtain⟨j,hj,rfl⟩:=List.mem_iff_getElem.1 hp
 exact hn j hj
theorem qQ(v:Value)(ps:List Pm)(s:List UInt8)(w:World)(h:eu w v ps)(hl:ps.length≤1000000)(hp:∀p∈ps,p.1.length≤1000000)(hs:s.length≤1000000):dA 37 #[v,.string (S s)] w (.int .i64 (kF (gZ ps s))):=by
 have H:=hid h
 obtain⟨a,cap,rfl,_,_⟩:=h
 have HP:=hid hp
 clear hp
 go_enter Tryz.func37,Tryz.ntmps37
 go_wp2_with fail
 go_loopw [9] (fun i wr=>∃k:Nat,k≤ps.length∧i=.int .i64 k∧(∀j (h:j<ps.length),j<k→dC (ps[j]).1 s=false)∧G w wr) (fun i _=>ps.length-(intOf i).toNat)
 case atStart=>exact⟨0,Nat.zero_le _,rfl,fun j _ h=>by omega,G.refl _⟩
 case round=>
  obtain⟨k,hk,rfl,hn,gr⟩:=hrel
  have HN:=hid hn
  have GR:=hid gr
  clear hn gr
  by_cases hlt:k<ps.length
  ·obtain⟨a2,cap2,e1,_,hc⟩:=(H.out.grow GR.out)
   obtain⟨b,off,e2,hb,hcc⟩:=hc (by rintro rfl;simp at hlt)
   clear hc
   simp only[Value.slice.injEq,true_and]at e1
   obtain⟨rfl,rfl⟩:=e1
   subst e2
   obtain⟨sv,c1,c2,c3⟩:=hcc k _ (List.getElem?_eq_getElem hlt)
   have hpl:=HP.out _ (List.getElem_mem hlt)
   obtain⟨p,hpe⟩:∃p,ps[k]=p:=⟨_,rfl⟩
   have HPE:=hid hpe
   rw[hpe]at c1 c3 hpl
   have hone:=c3.len
   obtain⟨sa,sc,rfl,_⟩:=hone
   clear hcc c3 hpe
   go_wp2_with fail
   refine(kM p.1 s _ (by omega) (by omega)).use ?_
   intro w2 g2
   have G2:Hid (G w w2):=hid (GR.out.trans (G.trans ((G.refl _).alloc _) g2))
   clear g2
   cases hsm:dC p.1 s with
   |true=>
    have HF:Hid (gZ ps s=some k):=hid (ZV hlt (by rw[HPE.out];exact hsm) fun j hj=>HN.out j (by omega) hj)
    go_wp2_with fail
    go_ret
    exact⟨kX (by rw[HF.out];rfl),G2.out⟩
   |false=>
    have HF:Hid (∀j (h:j<ps.length),j<k+1→dC (ps[j]).1 s=false):=hid (fun j h hj=>by
     rcases Nat.lt_or_ge j k with h1|h1
     ·exact HN.out j h h1
     ·obtain rfl:j=k:=by omega
      rw[HPE.out];exact hsm)
    clear hsm
    go_wp2_with fail
    go_roundw
    case rel=>exact⟨k+1,by omega,by go_num,HF.out,G2.out⟩
    case measure=>simp[intOf];omega
  ·obtain rfl:k=ps.length:=by omega
   have HF:Hid (gZ ps s=none):=hid (Wp fun j h=>HN.out j h h)
   go_wp2_with fail
   go_ret
   exact⟨kX (by rw[HF.out];rfl),GR.out⟩
end Go.Proofs.YtmffejnigppbpaaGreatDoor

set_option maxHeartbeats 2000000
set_option maxRecDepth 100000
namespace Go.Proofs.YtmffejnigppbpaaGreatDoor
open Go.RowKit
theorem wX(sep p:List UInt8)(ps:List (List UInt8)):gp sep p ps=p++Lib.joinTail sep ps:=by
 induction ps generalizing p with
 |nil=>simp[gp,Lib.joinTail]
 |cons q ps ih=>
  show p++(sep++gp sep q ps)=_
  rw[ih];simp[Lib.joinTail]
theorem YI(sep p:List UInt8)(ps:List (List UInt8)):Lib.join (p::ps) sep=gp sep p ps:=by
 rw[Lib.join_cons,wX]
theorem CX(sep p:List UInt8)(ps:List (List UInt8)):(gp sep p ps).length=p.length+(ps.map fun q=>sep.length+q.length).sum:=by
 induction ps generalizing p with
 |nil=>simp[gp]
 |cons q ps ih=>
  show(p++(sep++gp sep q ps)).length=_
  simp[ih];omega
theorem Lp(v:Value)(p:List UInt8)(ps:List (List UInt8))(sep:List UInt8)(w:World)(h:di w v (p::ps))(hn:ps.length≤1000000)(hl:(gp sep p ps).length≤100000000):dA 200 #[v,.string (S sep)] w (.string (S (gp sep p ps))):=by
 obtain⟨b,off,cap,rfl,hc,h3,h4⟩:=h.at_ (by simp)
 have hj:Lib.join (((p::ps).map S).map (·.data.toList)) sep=gp sep p ps:=by
  rw[List.map_map,←YI]
  congr 1
  conv=>rhs;rw[←List.map_id (p::ps)]
  exact List.map_congr_left fun l _=>rfl
 have c:=Tryz.strings_Join b off cap ((p::ps).map S) (S sep) w (fun j x hx=>by
   rw[List.getElem?_map]at hx
   cases hl:(p::ps)[j]? with
   |none=>rw[hl]at hx;cases hx
   |some l=>
    rw[hl]at hx
    injection hx with hx
    rw[h4 j l hl,←hx]) h3 (by simp;omega) (by simpa using hc) (by show(Lib.join _ sep).length≤_;rw[hj];omega)
 rw[List.length_map]at c
 refine c.mono fun e w' ⟨h1,h2⟩=>⟨?_,h2⟩
 rw[h1]
 show Ending.returned (.string ⟨(Lib.join _ sep).toArray⟩)=_
 rw[hj];rfl
def Ve(r:jD)(v:Value)(w':World):Prop:=
 match r with
 |.good ts _=>v=.tuple #[.string (S (ts.headD [])),.nilIface]
 |.bad c p=>∃e,v=.tuple #[.string (S []),e]∧ji w' e c p
theorem Ve.good{r:jD}{t:List UInt8}{ts:List (List UInt8)}{cs:List UInt8}{w':World}(h:r=.good (t::ts) cs):Ve r (.tuple #[.string (S t),.nilIface]) w':=by subst h;rfl
theorem Ve.bad{r:jD}{c:Int}{p:Nat}{e:Value}{w':World}(h:r=.bad c p)(he:ji w' e c p):Ve r (.tuple #[.string (S []),e]) w':=by subst h;exact⟨e,rfl,he⟩
theorem WQ{a s:List UInt8}{k:Nat}{cur:List UInt8}{ts:List (List UInt8)}{cs:List UInt8}{T:List (List UInt8)}{C:List UInt8}(h:eH a s k cur ts cs=.good T C):T.length+cs.length=C.length+ts.length+1:=by
 obtain⟨T',C',h1,h2,h3,_⟩:=TA a s.length s (Nat.le_refl _) k cur ts cs T C h
 rw[h1,h2];simp;omega
def Vf(r:jD)(v:Value)(w':World):Prop:=
 match r with
 |.good ts _=>∃tv,v=.tuple #[tv,.nilIface]∧di w' tv ts
 |.bad c p=>∃e,v=.tuple #[.slice none 0 0,e]∧ji w' e c p
theorem Vf.good{r:jD}{ts:List (List UInt8)}{cs:List UInt8}{tv:Value}{w':World}(h:r=.good ts cs)(h1:di w' tv ts):Vf r (.tuple #[tv,.nilIface]) w':=by subst h;exact⟨_,rfl,h1⟩
theorem Vf.bad{r:jD}{c:Int}{p:Nat}{e:Value}{w':World}(h:r=.bad c p)(he:ji w' e c p):Vf r (.tuple #[.slice none 0 0,e]) w':=by subst h;exact⟨e,rfl,he⟩
def Vg(n:Nat)(r:jD)(v:Value)(w':World):Prop:=
 match r with
 |.good ts _=>∃tv,v=.tuple #[tv,.nilIface]∧w'.ownsRow n 9 1 tv ts.length (ts.map fun t=>.string (S t))
 |.bad c p=>∃e,v=.tuple #[.slice none 0 0,e]∧ji w' e c p
theorem Vg.good{n:Nat}{r:jD}{ts:List (List UInt8)}{cs:List UInt8}{tv:Value}{w':World}(h:r=.good ts cs)(h1:w'.ownsRow n 9 1 tv ts.length (ts.map fun t=>.string (S t))):Vg n r (.tuple #[tv,.nilIface]) w':=by subst h;exact⟨_,rfl,h1⟩
theorem Vg.bad{n:Nat}{r:jD}{c:Int}{p:Nat}{e:Value}{w':World}(h:r=.bad c p)(he:ji w' e c p):Vg n r (.tuple #[.slice none 0 0,e]) w':=by subst h;exact⟨e,rfl,he⟩
theorem tY(p:List UInt8)(ps:List (List UInt8)):iJ (p::ps)=gp [44] (kN p) (ps.map kN):=rfl
def Ls(ls:List (List UInt8)):Value:=if ls=[] then .tuple #[.string (S []),eno 8] else .tuple #[.string (S (iJ ls)),.nilIface]
theorem zV{α β:Type}(f:α→β)(l:List α)(k:Nat)(h:k<l.length):(l.take (k+1)).map f=(l.take k).map f++[f l[k]]:=by
 rw[List.take_succ_eq_append_getElem h,List.map_append];rfl
theorem CY(s:List UInt8):(kN s).length≤2*s.length:=by
 have:=Z7 s
 have h2:Yz s≤s.length:=List.length_filter_le _ _
 omega
theorem CZ(ls:List (List UInt8)):(iJ ls).length≤2*jF ls:=by
 cases ls with
 |nil=>simp[iJ]
 |cons p ps=>
  rw[tY,CX,ql]
  have h1:=CY p
  have h2:((ps.map kN).map fun q=>[44].length+q.length).sum≤2*jF ps:=by
   clear h1
   induction ps with
   |nil=>simp[jF]
   |cons q ps ih=>
    rw[ql]
    have:=CY q
    simp only[List.map_cons,List.sum_cons,List.length_cons,List.length_nil]
    simp only[List.length_cons,List.length_nil]at ih
    omega
  simp only[List.length_cons,List.length_nil]at h2⊢
  omega
theorem JS(f:List UInt8→List UInt8)(ls:List (List UInt8))(k:Nat)(h:k<ls.length):((ls.take (k+1)).map fun l=>Value.string (S (f l)))=((ls.take k).map fun l=>Value.string (S (f l)))++[.string (S (f ls[k]))]:=
 zV _ _ _ h
theorem Lt(v:Value)(ls:List (List UInt8))(w:World)(h:di w v ls)(hs:jF ls≤100000):dA 199 #[v] w (Ls ls):=by
 obtain⟨i0,hi,hz0,hz1,hz2⟩:=info_parts Nl
 have hlen:=xW ls
 by_cases h0:ls=[]
 ·subst h0
  obtain⟨a,cap,rfl,_⟩:=h.len
  clear h
  go_enter Tryz.func199,Tryz.ntmps199
  go_wp2_with fail
  go_ret2
  exact⟨rfl,G.refl _⟩
 ·have hpos:0<ls.length:=List.length_pos_iff.2 h0
  have HJ:Hid (Ls ls=.tuple #[.string (S (iJ ls)),.nilIface]):=hid (by unfold Ls;rw[if_neg h0])
  have H0:=hid h0
  obtain⟨b,off,cap,rfl,hc,hb,hcell⟩:=h.at_ h0
  clear h h0
  have HC:=hid hcell
  clear hcell
  have hne:((ls.length:Int)==0)=false:=beq_eq_false_iff_ne.2 (by omega)
  have HM:Hid (∀l∈ls,l.length+1≤jF ls):=hid (fun l hl=>BI hl)
  go_enter Tryz.func199,Tryz.ntmps199
  go_wp2_with fail
  go_loopw [4,13] (fun t i wr=>∃k:Nat,k≤ls.length∧i=.int .i64 k∧wr.ownsRow w.heap.size 9 1 t k ((ls.take k).map fun l=>.string (S (kN l)))∧G w wr) (fun _ i _=>ls.length-(intOf i).toNat)
  case atStart=>exact⟨0,Nat.zero_le _,rfl,by simpa using World.ownsRow_nil _ _ _ _,G.refl _⟩
  case round=>
   obtain⟨k,hk,rfl,hown,g⟩:=hrel
   have HO:=hid hown
   have HG:=hid g
   clear hown g
   by_cases hlt:k<ls.length
   ·have c1:wr.cell? ⟨b,off+k,none⟩=some (.string (S ls[k])):=by
     rw[HG.out.cell (p:=⟨b,off+k,none⟩) hb];exact HC.out k _ (List.getElem?_eq_getElem hlt)
    obtain⟨x,hx⟩:∃x,ls[k]=x:=⟨_,rfl⟩
    rw[hx]at c1
    have hxl:x.length+1≤jF ls:=by rw[←hx];exact HM.out _ (List.getElem_mem hlt)
    have HX:=hid hx
    clear hx
    go_wp2_with fail
    refine(Am x _ (by omega)).use ?_
    intro w1 g1
    have HG1:=hid g1
    clear g1
    have HO1:Hid (w1.ownsRow w.heap.size 9 1 u4 k ((ls.take k).map fun l=>.string (S (kN l)))):=hid (pW HO.out fun j _ hj=>HG1.out.below.block j hj)
    go_wp2_with (at_builtin;refine wpList_append_lies _ rfl (.tmp 17) (.tmp 20) 39 rfl w.heap.size 9 i0 _ 1 16 Tryz.underlying39 hi hz0 hz1 hz2 rfl (by decide) _ _ _ rfl (HO1.out.alloc _) ⟨w1.heap.size,0,none⟩ 1 1 [.string (S (kN x))] rfl rfl (aaJ _ _ _) (aaK _ rfl) (by omega) ?c3 ?c4 ?c5 _ rfl ?_)
    case c3=>unfold maxLen;omega
    case c4=>omega
    case c5=>have:=HG.out.size;have:=HG1.out.size;simp;omega
    intro g1 cap1 w2 hown2 hgrow2 hat2 hlt2
    have HG2:Hid (G w w2):=hid (((HG.out.trans HG1.out).alloc _).below.grown hgrow2 (by have:=HG.out.size;have:=HG1.out.size;simp;omega) (fun j hj=>(HO1.out.lt j hj).1))
    have HO2:=hid hown2
    clear hown2 hgrow2 hat2
    go_wp2_with fail
    go_roundw
    case rel=>exact⟨k+1,by omega,by go_num,by rw[JS _ _ _ hlt,HX.out];simpa[List.map_take]using HO2.out,HG2.out⟩
    case measure=>simp[intOf];omega
   ·obtain rfl:k=ls.length:=by omega
    have hown:=HO.out
    rw[List.take_length]at hown
    obtain⟨p,ps,rfl⟩:∃p ps,ls=p::ps:=by cases ls with|nil=>exact absurd rfl H0.out|cons p ps=>exact⟨p,ps,rfl⟩
    have hst:di wr u4 (kN p::ps.map kN):=qO (by simpa[Function.comp_def]using hown)
    have HS:=hid hst
    clear hown hst
    have hjl:=CZ (p::ps)
    have hjl2:(gp [44] (kN p) (ps.map kN)).length≤100000000:=by rw[←tY];omega
    have hpl:(ps.map kN).length≤1000000:=by simp at hlen⊢;omega
    have HL:=hid hjl2
    have HP:=hid hpl
    clear hjl hjl2 hpl
    go_wp2_with fail
    refine(Lp u4 (kN p) (ps.map kN) [44] _ HS.out HP.out HL.out).use ?_
    intro w1 g1
    go_wp2_with fail
    go_ret2
    exact⟨HJ.out.symm▸rfl,HG.out.trans g1⟩
theorem vS(p:List (List UInt8))(ps:List (List (List UInt8))):oH (p::ps)=gp [59] (iJ p) (ps.map iJ):=rfl
theorem Qc(ls:List (List (List UInt8))):(oH ls).length≤2*iL ls:=by
 cases ls with
 |nil=>simp[oH]
 |cons p ps=>
  rw[vS,CX,sD]
  have h1:=CZ p
  have h2:((ps.map iJ).map fun q=>[59].length+q.length).sum≤2*iL ps:=by
   clear h1
   induction ps with
   |nil=>simp[iL]
   |cons q ps ih=>
    rw[sD]
    have:=CZ q
    simp only[List.map_cons,List.sum_cons,List.length_cons,List.length_nil]
    simp only[List.length_cons,List.length_nil]at ih
    omega
  simp only[List.length_cons,List.length_nil]at h2⊢
  omega
def YJ(ls:List (List (List UInt8)))(v:Value)(w':World):Prop:=
 (ls=[]∧v=.tuple #[.string (S []),eno 8])∨(ls≠[]∧(∀l∈ls,l≠[])∧v=.tuple #[.string (S (oH ls)),.nilIface])∨∃k e,ls[k]?=some []∧v=.tuple #[.string (S []),e]∧ji w' e 8 (k:Nat)
theorem IY(ls:List (List (List UInt8)))(k:Nat)(h:k<ls.length):((ls.take (k+1)).map fun l=>Value.string (S (iJ l)))=((ls.take k).map fun l=>Value.string (S (iJ l)))++[.string (S (iJ ls[k]))]:=
 zV _ _ _ h
theorem zW(v:Value)(ls:List (List (List UInt8)))(w:World)(h:fA w v ls)(hs:iL ls≤100000):dP 168 #[v] w (YJ ls):=by
 obtain⟨i0,hi,hz0,hz1,hz2⟩:=info_parts Nl
 have hlen:=xX ls
 by_cases h0:ls=[]
 ·subst h0
  obtain⟨a,cap,rfl,_⟩:=h.len
  clear h
  go_enter Tryz.func168,Tryz.ntmps168
  go_wp2_with fail
  go_ret2
  exact⟨_,rfl,.inl ⟨rfl,rfl⟩,G.refl _⟩
 ·have hpos:0<ls.length:=List.length_pos_iff.2 h0
  have H0:=hid h0
  obtain⟨b,off,cap,rfl,hc,hb,hcell⟩:=h.at_ h0
  clear h h0
  have HC:=hid hcell
  clear hcell
  have hne:((ls.length:Int)==0)=false:=beq_eq_false_iff_ne.2 (by omega)
  have HM:Hid (∀l∈ls,jF l+1≤iL ls):=hid (fun l hl=>xY hl)
  go_enter Tryz.func168,Tryz.ntmps168
  go_wp2_with fail
  go_loopw [4,15] (fun t i wr=>∃k:Nat,k≤ls.length∧i=.int .i64 k∧(∀j,j<k→ls[j]?≠some [])∧wr.ownsRow w.heap.size 9 1 t k ((ls.take k).map fun l=>.string (S (iJ l)))∧G w wr) (fun _ i _=>ls.length-(intOf i).toNat)
  case atStart=>exact⟨0,Nat.zero_le _,rfl,by omega,by simpa using World.ownsRow_nil _ _ _ _,G.refl _⟩
  case round=>
   obtain⟨k,hk,rfl,hfull,hown,g⟩:=hrel
   have HO:=hid hown
   have HG:=hid g
   have HF:=hid hfull
   clear hown g hfull
   by_cases hlt:k<ls.length
   ·obtain⟨sv,hsv,hst⟩:=HC.out k _ (List.getElem?_eq_getElem hlt)
    have c1:wr.cell? ⟨b,off+k,none⟩=some sv:=by
     rw[HG.out.cell (p:=⟨b,off+k,none⟩) hb];exact hsv
    have HST:=hid (hst.grow HG.out)
    clear hst hsv
    obtain⟨x,hx⟩:∃x,ls[k]=x:=⟨_,rfl⟩
    rw[hx]at HST
    have hxl:jF x+1≤iL ls:=by rw[←hx];exact HM.out _ (List.getElem_mem hlt)
    have hxl2:(iJ x).length≤200000:=by have:=CZ x;omega
    have HX:=hid hx
    clear hx
    by_cases hx0:x=[]
    ·subst hx0
     go_wp2_with fail
     refine(Lt sv [] _ HST.out (by omega)).use ?_
     intro w1 g1
     have HJ:Hid (Ls []=.tuple #[.string (S []),eno 8]):=hid rfl
     rw[HJ.out]
     go_wp2_with fail
     go_ret2
     exact⟨_,rfl,.inr (.inr ⟨k,_,by rw[List.getElem?_eq_getElem hlt,HX.out],rfl,ji.new _ _ _ _⟩),(HG.out.trans g1).alloc _⟩
    ·have HJ:Hid (Ls x=.tuple #[.string (S (iJ x)),.nilIface]):=hid (by unfold Ls;rw[if_neg hx0])
     have HX0:=hid hx0
     clear hx0
     go_wp2_with fail
     refine(Lt sv x _ HST.out (by omega)).use ?_
     intro w1 g1
     rw[HJ.out]
     have HG1:=hid g1
     clear g1
     have HO1:Hid (w1.ownsRow w.heap.size 9 1 u4 k ((ls.take k).map fun l=>.string (S (iJ l)))):=hid (pW HO.out fun j _ hj=>HG1.out.below.block j hj)
     go_wp2_with (at_builtin;refine wpList_append_lies _ rfl (.tmp 31) (.tmp 33) 39 rfl w.heap.size 9 i0 _ 1 16 Tryz.underlying39 hi hz0 hz1 hz2 rfl (by decide) _ _ _ rfl (HO1.out.alloc _) ⟨w1.heap.size,0,none⟩ 1 1 [.string (S (iJ x))] rfl rfl (aaJ _ _ _) (aaK _ rfl) (by omega) ?c3 ?c4 ?c5 _ rfl ?_)
     case c3=>unfold maxLen;omega
     case c4=>omega
     case c5=>have:=HG.out.size;have:=HG1.out.size;simp;omega
     intro g1 cap1 w2 hown2 hgrow2 hat2 hlt2
     have HG2:Hid (G w w2):=hid (((HG.out.trans HG1.out).alloc _).below.grown hgrow2 (by have:=HG.out.size;have:=HG1.out.size;simp;omega) (fun j hj=>(HO1.out.lt j hj).1))
     have HO2:=hid hown2
     clear hown2 hgrow2 hat2
     go_wp2_with fail
     go_roundw
     case rel=>
      refine⟨k+1,by omega,by go_num,?_,by rw[IY _ _ hlt,HX.out];simpa[List.map_take]using HO2.out,HG2.out⟩
      intro j hj
      rcases Nat.lt_or_ge j k with h|h
      ·exact HF.out j h
      ·obtain rfl:j=k:=by omega
       rw[List.getElem?_eq_getElem hlt,HX.out]
       intro e;injection e with e;exact HX0.out e
     case measure=>simp[intOf];omega
   ·obtain rfl:k=ls.length:=by omega
    have hown:=HO.out
    rw[List.take_length]at hown
    obtain⟨p,ps,rfl⟩:∃p ps,ls=p::ps:=by cases ls with|nil=>exact absurd rfl H0.out|cons p ps=>exact⟨p,ps,rfl⟩
    have hst:di wr u4 (iJ p::ps.map iJ):=qO (by simpa[Function.comp_def]using hown)
    have HS:=hid hst
    clear hown hst
    have hjl:=Qc (p::ps)
    have hjl2:(gp [59] (iJ p) (ps.map iJ)).length≤100000000:=by rw[←vS];omega
    have hpl:(ps.map iJ).length≤1000000:=by simp at hlen⊢;omega
    have HL:=hid hjl2
    have HP:=hid hpl
    clear hjl hjl2 hpl
    go_wp2_with fail
    refine(Lp u4 (iJ p) (ps.map iJ) [59] _ HS.out HP.out HL.out).use ?_
    intro w1 g1
    go_wp2_with fail
    go_ret2
    refine⟨_,rfl,.inr (.inl ⟨by simp,?_,rfl⟩),HG.out.trans g1⟩
    intro l hl e
    obtain⟨j,hj,he⟩:=List.getElem_of_mem hl
    exact HF.out j hj (by rw[List.getElem?_eq_getElem hj,he,e])
end Go.Proofs.YtmffejnigppbpaaGreatDoor

set_option maxHeartbeats 2000000
set_option maxRecDepth 100000
namespace Go.Proofs.YtmffejnigppbpaaGreatDoor
open Go.RowKit Go.Shelf
attribute [local go_sem] Oper.semAt_some
def CJ(Bp B1 Bz:Nat)(W W':World):Prop:=W'.cell? ⟨Bp,0,none⟩=W.cell? ⟨Bp,0,none⟩∧W'.cell? ⟨B1,0,none⟩=W.cell? ⟨B1,0,none⟩∧W'.cell? ⟨Bz,0,none⟩=W.cell? ⟨Bz,0,none⟩∧W'.frozen? ⟨B1,0,none⟩=W.frozen? ⟨B1,0,none⟩
def Vb(B1:Nat)(W:World):Nat:=match W.cell? ⟨B1,0,none⟩with|some (.string b)=>b.size|_=>0
theorem abH(n l Bp B1 Bz:Nat)(hn:1≤n)(hpz:¬Bp=B1)(hzz:¬Bz=B1)(xs:List (List UInt8))(hx:∀q∈xs,(124:UInt8)∉q)(p:List UInt8)(ps:List (List UInt8))(hxs:xs=p::ps)(hsz:(gp [124] p ps).length≤1000000)(J Jx:List (List UInt8)→World→Prop)(hJB:IR B1 J)(hY:∀pre x W1,J pre W1→pre++[x] <+: xs→YieldAt Fence.wide (n-1) Tryz.prog l #[.string (S x)] W1 fun e W'=>
   (e=.returned (.bool true)∧J (pre++[x]) W'∧CJ Bp B1 Bz W1 W')∨(e=.returned (.bool false)∧Jx (pre++[x]) W'))(W:World)(c1:W.cell? ⟨Bp,0,none⟩=some (.string (S [124])))(c2:W.cell? ⟨B1,0,none⟩=some (.string (S (gp [124] p ps))))(c3:W.cell? ⟨Bz,0,none⟩=some (.int .i64 0))(cf:W.frozen? ⟨B1,0,none⟩=false)(h0:J [] W) :
  CallsIn Fence.wide n Tryz.prog 146 #[.func (.yield l) #[] #[],.pointer (some ⟨Bp,0,none⟩),.pointer (some ⟨B1,0,none⟩),.pointer (some ⟨Bz,0,none⟩)] W fun e W'=>(∃v,e=.returned v)∧(J xs W'∨∃pre,pre <+: xs∧Jx pre W'):=by
 refine callsIn_of_wp Tryz.func146 rfl trivial ?_ rfl
 simp only[Tryz.ntmps146,List.size_toArray,List.length_cons,List.length_nil,Nat.reduceAdd,Nat.reduceSub,Array.replicate_succ,Array.replicate_zero,List.push_toArray,List.append_toArray,List.nil_append,List.cons_append]
 gi_wp2
 gi_loopw [7] (fun _ wr=>∃(pre:List (List UInt8)) (q:List UInt8) (qs:List (List UInt8)),xs=pre++(q::qs)∧wr.cell? ⟨Bp,0,none⟩=some (.string (S [124]))∧wr.cell? ⟨B1,0,none⟩=some (.string (S (gp [124] q qs)))∧wr.cell? ⟨Bz,0,none⟩=some (.int .i64 0)∧wr.frozen? ⟨B1,0,none⟩=false∧(gp [124] q qs).length≤1000000∧J pre wr)
  (fun _ wr=>Vb B1 wr)
 case atStart=>exact⟨[],p,ps,hxs,c1,c2,c3,cf,hsz,h0⟩
 case round=>
  obtain⟨pre,q,qs,e,d1,d2,d3,df,dz,hJ⟩:=hrel
  have hq:(124:UInt8)∉q:=hx q (by rw[e];simp)
  have hpl:pre++[q] <+: xs:=by rw[e];exact⟨qs,by simp⟩
  cases qs with
  |nil=>
   simp only[gp]at d2 dz
   obtain⟨fn,tmps,assign,body,hy,hR⟩:=hY pre q wr hJ hpl
   have hi:∀w,Calls Tryz.prog 131 #[.string (S q),.string (S [124])] w fun e w'=>e=.returned (.int .i64 (-1))∧w'=w:=fun w=>by
    have:=Tryz.strings_Index_one (S q) 124 w
    rw[show(S q).data.toList=q from by simp[S],tK q 124 hq]at this
    exact this
   have HI:=hid hi
   clear hi
   gi_wp2_with (refine⟨trivial,?_⟩;gi_at_call 131;refine(callsIn_wide.2 (HI.out _)).mono ?_;rintro e w' ⟨rfl,rfl⟩)
   refine hR.mono ?_
   rintro e2 W3 (⟨rfl,hJ3,hk3⟩|⟨rfl,hJx3⟩)
   ·gi_wp2
    go_end0
    exact⟨⟨_,rfl⟩,.inl (by rw[e];exact hJ3)⟩
   ·gi_wp2
    go_end0
    exact⟨⟨_,rfl⟩,.inr ⟨_,by rw[e];exact List.prefix_refl _,hJx3⟩⟩
  |cons r rs=>
   have dd:gp [124] q (r::rs)=q++124::gp [124] r rs:=by simp[gp]
   rw[dd]at d2 dz
   obtain⟨fn,tmps,assign,body,hy,hR⟩:=hY pre q wr hJ hpl
   have hi:∀w,Calls Tryz.prog 131 #[.string (S (q++124::gp [124] r rs)),.string (S [124])] w fun e w'=>e=.returned (.int .i64 (q.length:Int))∧w'=w:=fun w=>by
    have:=Tryz.strings_Index_one (S (q++124::gp [124] r rs)) 124 w
    rw[show(S (q++124::gp [124] r rs)).data.toList=q++124::gp [124] r rs from by simp[S],yw q _ 124 hq]at this
    exact this
   have HI:=hid hi
   clear hi
   have hl:q.length+1+(gp [124] r rs).length≤1000000:=by simp only[List.length_append,List.length_cons]at dz;omega
   have hw:wrap64 (q.length:Int)=(q.length:Int):=(by unfold wrap64;omega)
   gi_wp2_with (refine⟨trivial,?_⟩;gi_at_call 131;refine(callsIn_wide.2 (HI.out _)).mono ?_;rintro e w' ⟨rfl,rfl⟩)
   refine hR.mono ?_
   rintro e2 W3 (⟨rfl,hJ3,k1,k2,k3,k4⟩|⟨rfl,hJx3⟩)
   ·have b1:=k1.trans d1
    have b2:=k2.trans d2
    have b3:=k3.trans d3
    have b4:=k4.trans df
    have hw2:wrap64 ((q.length:Int)+1)=(q.length:Int)+1:=(by unfold wrap64;omega)
    have htk:List.drop (q.length+1) (List.take (q.length+((gp [124] r rs).length+1)) (q++124::gp [124] r rs))=gp [124] r rs:=by
     rw[List.take_of_length_le (by simp)]
     simp[List.drop_length_add_append]
    gi_wp2
    go_roundw
    case rel=>
     refine⟨pre++[q],r,rs,by rw[e];simp,?_,?_,?_,?_,by omega,hJB _ _ _ hJ3⟩
     ·rw[World.cell?_setCell_other _ _ _ _ (by first|(simp;done)|(simp;omega))];exact b1
     ·rw[World.cell?_setCell_same _ _ _ b2]
     ·rw[World.cell?_setCell_other _ _ _ _ (by first|(simp;done)|(simp;omega))];exact b3
     ·rw[World.frozen?_setCell];exact b4
    case measure=>
     unfold Vb
     rw[World.cell?_setCell_same _ _ _ b2,d2]
     simp;omega
   ·gi_wp2
    refine bodyPost_ret (results_none rfl _ _ _) rfl ?_
    exact⟨⟨_,rfl⟩,.inr ⟨_,by rw[e];exact⟨r::rs,by simp⟩,hJx3⟩⟩
theorem y8(n Bp B1 Bz:Nat)(hn:1≤n)(hpz:¬Bp=B1)(hzz:¬Bz=B1)(p:List UInt8)(ps:List (List UInt8))(hx:∀q∈p::ps,(124:UInt8)∉q)(hsz:(gp [124] p ps).length≤1000000)(w:World)(hBp:Bp<w.heap.size)(hB1:B1<w.heap.size)(hBz:Bz<w.heap.size)(c1:w.cell? ⟨Bp,0,none⟩=some (.string (S [124])))(c2:w.cell? ⟨B1,0,none⟩=some (.string (S (gp [124] p ps))))(c3:w.cell? ⟨Bz,0,none⟩=some (.int .i64 0))(cf:w.frozen? ⟨B1,0,none⟩=false) :
  IV B1 Fence.wide n Tryz.prog 146 #[.pointer (some ⟨Bp,0,none⟩),.pointer (some ⟨B1,0,none⟩),.pointer (some ⟨Bz,0,none⟩)] (fun x=>#[Value.string (S x)]) (CJ Bp B1 Bz) (p::ps) w:=
 fun l J Jx W hW _ _ hJB hY h0=>abH n l Bp B1 Bz hn hpz hzz (p::ps) hx p ps rfl hsz J Jx hJB hY W ((hW.cell (p:=⟨Bp,0,none⟩) hBp).trans c1) ((hW.cell (p:=⟨B1,0,none⟩) hB1).trans c2) ((hW.cell (p:=⟨Bz,0,none⟩) hBz).trans c3) ((hW.frozen (p:=⟨B1,0,none⟩) hB1).trans cf) h0
end Go.Proofs.YtmffejnigppbpaaGreatDoor

set_option maxHeartbeats 1000000
set_option maxRecDepth 100000
namespace Go.Proofs.YtmffejnigppbpaaGreatDoor
open Go.RowKit
structure Ent where
 name:List UInt8
 ty:Nat
 least:Nat
 most:Nat
 parts:Nat
def Ent.text(e:Ent):List UInt8:=e.name++[32,UInt8.ofNat (48+e.ty),32,UInt8.ofNat (48+e.least),32,UInt8.ofNat (48+e.most),32,UInt8.ofNat (48+e.parts)]
def acE:List Ent:=[⟨[70,78],1,1,1,0⟩,⟨[78],3,1,1,5⟩,⟨[78,73,67,75,78,65,77,69],2,0,0,0⟩,⟨[80,72,79,84,79],8,0,0,0⟩,⟨[66,68,65,89],5,0,1,0⟩,⟨[65,68,82],3,0,0,7⟩,⟨[76,65,66,69,76],1,0,0,0⟩,⟨[84,69,76],1,0,0,0⟩,⟨[69,77,65,73,76],1,0,0,0⟩,⟨[77,65,73,76,69,82],1,0,0,0⟩,⟨[84,90],6,0,1,0⟩,⟨[71,69,79],3,0,1,2⟩,⟨[84,73,84,76,69],1,0,0,0⟩,⟨[82,79,76,69],1,0,0,0⟩,⟨[76,79,71,79],8,0,0,0⟩,⟨[65,71,69,78,84],1,0,0,0⟩,⟨[79,82,71],3,0,0,0⟩,⟨[67,65,84,69,71,79,82,73,69,83],2,0,0,0⟩,⟨[78,79,84,69],1,0,0,0⟩,⟨[80,82,79,68,73,68],1,0,1,0⟩,⟨[82,69,86],5,0,1,0⟩,⟨[83,79,82,84,45,83,84,82,73,78,71],1,0,1,0⟩,⟨[83,79,85,78,68],8,0,0,0⟩,⟨[85,73,68],1,0,1,0⟩,⟨[85,82,76],4,0,0,0⟩,⟨[67,76,65,83,83],1,0,1,0⟩,⟨[75,69,89],8,0,0,0⟩,⟨[78,65,77,69],1,0,1,0⟩,⟨[83,79,85,82,67,69],4,0,0,0⟩]
def acl:List Ent:=[⟨[70,78],1,1,0,0⟩,⟨[78],3,0,1,5⟩,⟨[78,73,67,75,78,65,77,69],2,0,0,0⟩,⟨[80,72,79,84,79],4,0,0,0⟩,⟨[66,68,65,89],5,0,1,0⟩,⟨[65,78,78,73,86,69,82,83,65,82,89],5,0,1,0⟩,⟨[71,69,78,68,69,82],3,0,1,2⟩,⟨[65,68,82],3,0,0,7⟩,⟨[84,69,76],1,0,0,0⟩,⟨[69,77,65,73,76],1,0,0,0⟩,⟨[73,77,80,80],4,0,0,0⟩,⟨[76,65,78,71],7,0,0,0⟩,⟨[84,90],1,0,0,0⟩,⟨[71,69,79],4,0,0,0⟩,⟨[84,73,84,76,69],1,0,0,0⟩,⟨[82,79,76,69],1,0,0,0⟩,⟨[76,79,71,79],4,0,0,0⟩,⟨[79,82,71],3,0,0,0⟩,⟨[77,69,77,66,69,82],4,0,0,0⟩,⟨[82,69,76,65,84,69,68],4,0,0,0⟩,⟨[67,65,84,69,71,79,82,73,69,83],2,0,0,0⟩,⟨[78,79,84,69],1,0,0,0⟩,⟨[80,82,79,68,73,68],1,0,1,0⟩,⟨[82,69,86],5,0,1,0⟩,⟨[83,79,85,78,68],4,0,0,0⟩,⟨[85,73,68],4,0,1,0⟩,⟨[85,82,76],4,0,0,0⟩,⟨[75,73,78,68],1,0,1,0⟩,⟨[75,69,89],4,0,0,0⟩,⟨[83,79,85,82,67,69],4,0,0,0⟩]
def fM(v:Int):List Ent:=if v=3 then acE else acl
def aaM(T:List Ent):List UInt8:=match T.map Ent.text with|[]=>[]|p::ps=>gp [124] p ps
def iM(T:List Ent)(u:List UInt8):Int×Int×Int×Int:=match T.find? (fun e=>e.name==u)with|some e=>((e.ty:Int),(e.least:Int),(e.most:Int),(e.parts:Int))|none=>(8,0,0,0)
theorem yY(v:Int)(w:World):nT 57 #[.int .i64 v] w (.string (S (aaM (fM v)))):=by
 by_cases h:v=3
 ·subst h
  go_enter Tryz.func57,Tryz.ntmps57
  go_wp2
  go_ret
  exact⟨by rfl,rfl⟩
 ·have ht:fM v=acl:=if_neg h
  rw[ht]
  go_enter Tryz.func57,Tryz.ntmps57
  go_wp2
  go_ret
  exact⟨by rfl,rfl⟩
theorem NC(t sep:List UInt8)(w:World):Calls Tryz.prog 97 #[.string (S t),.string (S sep),.int .i64 0] w fun e w'=>e=.returned (.func (.func 146) #[] #[.pointer (some ⟨w.heap.size+1,0,none⟩),.pointer (some ⟨w.heap.size,0,none⟩),.pointer (some ⟨w.heap.size+2,0,none⟩)]) ∧
  w'=((w.alloc (.cells #[.string (S t)] 9)).alloc (.cells #[.string (S sep)] 9)).alloc (.cells #[.int .i64 0] 3):=by
 have hmf:∀(fn:Fn) (first cap:Array Value) (w:World),(Instr.makeFunc fn first cap).run Tryz.prog w=.ok (.func fn first cap) w:=fun _ _ _ _=>rfl
 go_enter Tryz.func97,Tryz.ntmps97
 go_wp2
 go_ret
 exact⟨by simp,rfl⟩
theorem rX(t sep:List UInt8)(w:World):Calls Tryz.prog 56 #[.string (S t),.string (S sep)] w fun e w'=>e=.returned (.func (.func 146) #[] #[.pointer (some ⟨w.heap.size+1,0,none⟩),.pointer (some ⟨w.heap.size,0,none⟩),.pointer (some ⟨w.heap.size+2,0,none⟩)]) ∧
  w'=((w.alloc (.cells #[.string (S t)] 9)).alloc (.cells #[.string (S sep)] 9)).alloc (.cells #[.int .i64 0] 3):=by
 go_enter Tryz.func56,Tryz.ntmps56
 go_wp2_with (go_at_call 97;refine(NC t sep _).mono ?_;rintro e w' ⟨rfl,rfl⟩)
 go_ret
 exact⟨rfl,rfl⟩
end Go.Proofs.YtmffejnigppbpaaGreatDoor
