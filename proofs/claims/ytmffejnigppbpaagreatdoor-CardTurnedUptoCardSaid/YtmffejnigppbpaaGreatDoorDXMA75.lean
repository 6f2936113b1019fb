/-
  Texts merged into one: Params, Items, Texts, EqStrs, SameProp.
-/
import Derived.Test.YtmffejnigppbpaaGreatDoorDXMA59
import Derived.Test.YtmffejnigppbpaaGreatDoorDXMA52
import Derived.Test.YtmffejnigppbpaaGreatDoorDXMA65
import Derived.Shelf.SlicesQ.Load
import Derived.Test.YtmffejnigppbpaaGreatDoorDXMPieces
import Derived.Test.YtmffejnigppbpaaGreatDoorDXMRepl
import Derived.Lib.JoinLaws
import Derived.Test.YtmffejnigppbpaaGreatDoorDXShelf
set_option linter.unusedVariables false
set_option linter.unusedSimpArgs false
set_option maxHeartbeats 1000000
set_option maxRecDepth 100000
namespace Go.Proofs.YtmffejnigppbpaaGreatDoor
open Go.RowKit
abbrev Pm:=List UInt8×List (List UInt8)
def UN(w:World)(v:Value)(ps:List Pm):Prop:=
 ∃a cap,v=.slice a ps.length cap∧ps.length≤cap∧(ps≠[]→∃b off,a=some ⟨b,off,none⟩∧b<w.heap.size ∧
  ∀(i:Nat) (p:Pm),ps[i]?=some p→∃sv,w.cell? ⟨b,off+i*2,none⟩=some (.string (S p.1))∧w.cell? ⟨b,off+i*2+1,none⟩=some sv∧Ux w sv p.2)
theorem UN.grow{w w':World}{v:Value}{ps:List Pm}(h:UN w v ps)(g:G w w'):UN w' v ps:=by
 obtain⟨a,cap,e,hc,h⟩:=h
 refine⟨a,cap,e,hc,fun h0=>?_⟩
 obtain⟨b,off,e2,hb,h⟩:=h h0
 refine⟨b,off,e2,Nat.lt_of_lt_of_le hb g.size,fun i p hp=>?_⟩
 obtain⟨sv,h1,h2,h3⟩:=h i p hp
 exact⟨sv,by rw[g.cell hb];exact h1,by rw[g.cell hb];exact h2,h3.grow g⟩
def afm(ps:List Pm)(s:List UInt8):Option Nat:=ps.findIdx? fun p=>aeu p.1 s
def akZ(o:Option Nat):Int:=match o with|none=>-1|some k=>(k:Int)
theorem axf{ps:List Pm}{s:List UInt8}{k:Nat}(h:k<ps.length)(hp:aeu (ps[k]).1 s=true)(hn:∀j (h:j<k),aeu (ps[j]'(by omega)).1 s=false):afm ps s=some k:=by
 unfold afm
 rw[List.findIdx?_eq_some_iff_getElem]
 exact⟨h,hp,fun j hj=>by simp[hn j hj]⟩
theorem atJ{ps:List Pm}{s:List UInt8}(hn:∀j (h:j<ps.length),aeu (ps[j]).1 s=false):afm ps s=none:=by
 unfold afm
 rw[List.findIdx?_eq_none_iff]
 intro p hp
 obtain⟨j,hj,rfl⟩:=List.mem_iff_getElem.1 hp
 exact hn j hj
theorem aqj(v:Value)(ps:List Pm)(s:List UInt8)(w:World)(h:UN w v ps)(hl:ps.length≤1000000)(hp:∀p∈ps,p.1.length≤1000000)(hs:s.length≤1000000):Um 37 #[v,.string (S s)] w (.int .i64 (akZ (afm ps s))):=by
 have H:=hid h
 obtain⟨a,cap,rfl,_,_⟩:=h
 have HP:=hid hp
 clear hp
 go_enter Tryz.func37,Tryz.ntmps37
 go_wp2_with fail
 go_loopw [9] (fun i wr=>∃k:Nat,k≤ps.length∧i=.int .i64 k∧(∀j (h:j<ps.length),j<k→aeu (ps[j]).1 s=false)∧G w wr) (fun i _=>ps.length-(intOf i).toNat)
 case atStart=>exact⟨0,Nat.zero_le _,rfl,fun j _ h=>by omega,G.refl _⟩
 case round=>
  obtain⟨k,hk,rfl,hn,gr⟩:=hrel
  have HN:=hid hn
  have GR:=hid gr
  clear hn gr
  by_cases hlt:k<ps.length
  ·obtain⟨a2,cap2,e1,_,hc⟩:=(H.out.grow GR.out)
   obtain⟨b,off,e2,hb,hcc⟩:=hc (by rintro rfl;simp at hlt)
   clear hc
   simp only[Value.slice.injEq,true_and]at e1
   obtain⟨rfl,rfl⟩:=e1
   subst e2
   obtain⟨sv,c1,c2,c3⟩:=hcc k _ (List.getElem?_eq_getElem hlt)
   have hpl:=HP.out _ (List.getElem_mem hlt)
   obtain⟨p,hpe⟩:∃p,ps[k]=p:=⟨_,rfl⟩
   have HPE:=hid hpe
   rw[hpe]at c1 c3 hpl
   have hone:=c3.len
   obtain⟨sa,sc,rfl,_⟩:=hone
   clear hcc c3 hpe
   go_wp2_with fail
   refine(ahN p.1 s _ (by omega) (by omega)).use ?_
   intro w2 g2
   have G2:Hid (G w w2):=hid (GR.out.trans (G.trans ((G.refl _).alloc _) g2))
   clear g2
   cases hsm:aeu p.1 s with
   |true=>
    have HF:Hid (afm ps s=some k):=hid (axf hlt (by rw[HPE.out];exact hsm) fun j hj=>HN.out j (by omega) hj)
    go_wp2_with fail
    go_ret
    exact⟨adZ (by rw[HF.out];rfl),G2.out⟩
   |false=>
    have HF:Hid (∀j (h:j<ps.length),j<k+1→aeu (ps[j]).1 s=false):=hid (fun j h hj=>by
     rcases Nat.lt_or_ge j k with h1|h1
     ·exact HN.out j h h1
     ·obtain rfl:j=k:=by omega
      rw[HPE.out];exact hsm)
    clear hsm
    go_wp2_with fail
    go_roundw
    case rel=>exact⟨k+1,by omega,by go_num,HF.out,G2.out⟩
    case measure=>simp[intOf];omega
  ·obtain rfl:k=ps.length:=by omega
   have HF:Hid (afm ps s=none):=hid (atJ fun j h=>HN.out j h h)
   go_wp2_with fail
   go_ret
   exact⟨adZ (by rw[HF.out];rfl),GR.out⟩
end Go.Proofs.YtmffejnigppbpaaGreatDoor

namespace Go.Proofs.YtmffejnigppbpaaGreatDoor
open Go.RowKit
structure It where
 g:List UInt8
 n:List UInt8
 ps:List Pm
 v:Vl
def Vl.cells(x:Vl)(lv:Value):List Value:=[.int .i64 x.ty,.string (S x.tx),lv,.int .i64 x.st.y,.int .i64 x.st.m,.int .i64 x.st.d,.int .i64 x.st.h,.int .i64 x.st.n,.int .i64 x.st.s,.bool x.st.zd,.int .i64 x.st.zn,.int .i64 x.n]
def It.cells(x:It)(pv lv:Value):List Value:=[.string (S x.g),.string (S x.n),pv,.int .i64 x.v.ty,.string (S x.v.tx),lv,.int .i64 x.v.st.y,.int .i64 x.v.st.m,.int .i64 x.v.st.d,.int .i64 x.v.st.h,.int .i64 x.v.st.n,.int .i64 x.v.st.s,.bool x.v.st.zd,.int .i64 x.v.st.zn,.int .i64 x.v.n]
abbrev It.val(x:It)(pv lv:Value):Value:=.agg #[.string (S x.g),.string (S x.n),pv,.int .i64 x.v.ty,.string (S x.v.tx),lv,.int .i64 x.v.st.y,.int .i64 x.v.st.m,.int .i64 x.v.st.d,.int .i64 x.v.st.h,.int .i64 x.v.st.n,.int .i64 x.v.st.s,.bool x.v.st.zd,.int .i64 x.v.st.zn,.int .i64 x.v.n]
structure adE(w:World)(x:It)(pv lv:Value):Prop where
 p:UN w pv x.ps
 l:Uw w lv x.v.ps
 f:pv=.slice none 0 0∨∃a n c,pv=.slice (some a) n c
 y : -9223372036854775808≤x.v.st.y∧x.v.st.y≤9223372036854775807
 t : -9223372036854775808≤x.v.ty∧x.v.ty≤9223372036854775807
theorem adE.grow{w w':World}{x:It}{pv lv:Value}(h:adE w x pv lv)(g:G w w'):adE w' x pv lv:=⟨h.p.grow g,h.l.grow g,h.f,h.y,h.t⟩
theorem adE.pv{w:World}{x:It}{pv lv:Value}(h:adE w x pv lv):∃a c,pv=.slice a x.ps.length c:=by obtain⟨a,c,e,_⟩:=h.p;exact⟨a,c,e⟩
theorem adE.lv{w:World}{x:It}{pv lv:Value}(h:adE w x pv lv):∃a c,lv=.slice a x.v.ps.length c:=by obtain⟨a,c,e,_⟩:=h.l.len;exact⟨a,c,e⟩
structure alo(w:World)(b o:Nat)(x:It)(pv lv:Value):Prop where
 c:∀(j:Nat) (u:Value),(x.cells pv lv)[j]?=some u→w.cell? ⟨b,o+j,none⟩=some u
 ok:adE w x pv lv
theorem alo.grow{w w':World}{b o:Nat}{x:It}{pv lv:Value}(h:alo w b o x pv lv)(hb:b<w.heap.size)(g:G w w'):alo w' b o x pv lv:=
 ⟨fun j u hu=>by rw[g.cell hb];exact h.c j u hu,h.ok.grow g⟩
theorem alo.e{w:World}{b o:Nat}{x:It}{pv lv:Value}(h:alo w b o x pv lv):w.cell? ⟨b,o,none⟩=some (.string (S x.g))∧w.cell? ⟨b,o+1,none⟩=some (.string (S x.n))∧w.cell? ⟨b,o+2,none⟩=some (pv)∧w.cell? ⟨b,o+3,none⟩=some (.int .i64 x.v.ty)∧w.cell? ⟨b,o+4,none⟩=some (.string (S x.v.tx))∧w.cell? ⟨b,o+5,none⟩=some (lv)∧w.cell? ⟨b,o+6,none⟩=some (.int .i64 x.v.st.y)∧w.cell? ⟨b,o+7,none⟩=some (.int .i64 x.v.st.m)∧w.cell? ⟨b,o+8,none⟩=some (.int .i64 x.v.st.d)∧w.cell? ⟨b,o+9,none⟩=some (.int .i64 x.v.st.h)∧w.cell? ⟨b,o+10,none⟩=some (.int .i64 x.v.st.n)∧w.cell? ⟨b,o+11,none⟩=some (.int .i64 x.v.st.s)∧w.cell? ⟨b,o+12,none⟩=some (.bool x.v.st.zd)∧w.cell? ⟨b,o+13,none⟩=some (.int .i64 x.v.st.zn)∧w.cell? ⟨b,o+14,none⟩=some (.int .i64 x.v.n):=
 ⟨h.c 0 _ rfl,h.c 1 _ rfl,h.c 2 _ rfl,h.c 3 _ rfl,h.c 4 _ rfl,h.c 5 _ rfl,h.c 6 _ rfl,h.c 7 _ rfl,h.c 8 _ rfl,h.c 9 _ rfl,h.c 10 _ rfl,h.c 11 _ rfl,h.c 12 _ rfl,h.c 13 _ rfl,h.c 14 _ rfl⟩
def UA(w:World)(v:Value)(xs:List It):Prop:=
 ∃a cap,v=.slice a xs.length cap∧xs.length≤cap∧(xs≠[]→∃b off,a=some ⟨b,off,none⟩∧b<w.heap.size∧∀(i:Nat) (x:It),xs[i]?=some x→∃pv lv,alo w b (off+i*15) x pv lv)
theorem UA.grow{w w':World}{v:Value}{xs:List It}(h:UA w v xs)(g:G w w'):UA w' v xs:=by
 obtain⟨a,cap,e,hc,h⟩:=h
 refine⟨a,cap,e,hc,fun h0=>?_⟩
 obtain⟨b,off,e2,hb,h⟩:=h h0
 refine⟨b,off,e2,Nat.lt_of_lt_of_le hb g.size,fun i x hx=>?_⟩
 obtain⟨pv,lv,h1⟩:=h i x hx
 exact⟨pv,lv,h1.grow hb g⟩
theorem UA.len{w:World}{v:Value}{xs:List It}(h:UA w v xs):∃a c,v=.slice a xs.length c∧xs.length≤c:=by
 obtain⟨a,c,e,h1,_⟩:=h
 exact⟨a,c,e,h1⟩
def acH(ver:Int)(iv:Value):Value:=.agg #[.int .i64 ver,iv]
end Go.Proofs.YtmffejnigppbpaaGreatDoor

set_option maxHeartbeats 2000000
set_option maxRecDepth 100000
namespace Go.Proofs.YtmffejnigppbpaaGreatDoor
open Go.RowKit
theorem ahk(sep p:List UInt8)(ps:List (List UInt8)):Uu sep p ps=p++Lib.joinTail sep ps:=by
 induction ps generalizing p with
 |nil=>simp[Uu,Lib.joinTail]
 |cons q ps ih=>
  show p++(sep++Uu sep q ps)=_
  rw[ih];simp[Lib.joinTail]
theorem avL(sep p:List UInt8)(ps:List (List UInt8)):Lib.join (p::ps) sep=Uu sep p ps:=by
 rw[Lib.join_cons,ahk]
theorem aj1(sep p:List UInt8)(ps:List (List UInt8)):(Uu sep p ps).length=p.length+(ps.map fun q=>sep.length+q.length).sum:=by
 induction ps generalizing p with
 |nil=>simp[Uu]
 |cons q ps ih=>
  show(p++(sep++Uu sep q ps)).length=_
  simp[ih];omega
theorem an8(v:Value)(p:List UInt8)(ps:List (List UInt8))(sep:List UInt8)(w:World)(h:Ux w v (p::ps))(hn:ps.length≤1000000)(hl:(Uu sep p ps).length≤100000000):Um 200 #[v,.string (S sep)] w (.string (S (Uu sep p ps))):=by
 obtain⟨b,off,cap,rfl,hc,h3,h4⟩:=h.at_ (by simp)
 have hj:Lib.join (((p::ps).map S).map (·.data.toList)) sep=Uu sep p ps:=by
  rw[List.map_map,←avL]
  congr 1
  conv=>rhs;rw[←List.map_id (p::ps)]
  exact List.map_congr_left fun l _=>rfl
 have c:=Tryz.strings_Join b off cap ((p::ps).map S) (S sep) w (fun j x hx=>by
   rw[List.getElem?_map]at hx
   cases hl:(p::ps)[j]? with
   |none=>rw[hl]at hx;cases hx
   |some l=>
    rw[hl]at hx
    injection hx with hx
    rw[h4 j l hl,←hx]) h3 (by simp;omega) (by simpa using hc) (by show(Lib.join _ sep).length≤_;rw[hj];omega)
 rw[List.length_map]at c
 refine c.mono fun e w' ⟨h1,h2⟩=>⟨?_,h2⟩
 rw[h1]
 show Ending.returned (.string ⟨(Lib.join _ sep).toArray⟩)=_
 rw[hj];rfl
def amP(r:adb)(v:Value)(w':World):Prop:=
 match r with
 |.good ts _=>v=.tuple #[.string (S (ts.headD [])),.nilIface]
 |.bad c p=>∃e,v=.tuple #[.string (S []),e]∧UE w' e c p
theorem amP.good{r:adb}{t:List UInt8}{ts:List (List UInt8)}{cs:List UInt8}{w':World}(h:r=.good (t::ts) cs):amP r (.tuple #[.string (S t),.nilIface]) w':=by subst h;rfl
theorem amP.bad{r:adb}{c:Int}{p:Nat}{e:Value}{w':World}(h:r=.bad c p)(he:UE w' e c p):amP r (.tuple #[.string (S []),e]) w':=by subst h;exact⟨e,rfl,he⟩
theorem agY{a s:List UInt8}{k:Nat}{cur:List UInt8}{ts:List (List UInt8)}{cs:List UInt8}{T:List (List UInt8)}{C:List UInt8}(h:C9 a s k cur ts cs=.good T C):T.length+cs.length=C.length+ts.length+1:=by
 obtain⟨T',C',h1,h2,h3,_⟩:=arY a s.length s (Nat.le_refl _) k cur ts cs T C h
 rw[h1,h2];simp;omega
theorem ao1(s:List UInt8)(w:World)(hs:s.length≤100000):Uz 220 #[.string (S s)] w (amP (C9 [] s 0 [] [] [])):=by
 obtain⟨r,hr⟩:∃r,C9 [] s 0 [] [] []=r:=⟨_,rfl⟩
 have hp:=amE s [] w hs (by simp)
 rw[hr]at hp⊢
 have hne:=@agY [] s 0 [] [] []
 rw[hr]at hne
 cases r with
 |good T C=>
  have hT:=hne rfl
  simp at hT
  obtain⟨t,T',rfl⟩:∃t T',T=t::T':=by cases T with|nil=>simp at hT;| cons t T'=>exact⟨t,T',rfl⟩
  clear hr hne
  go_enter Tryz.func220,Tryz.ntmps220
  go_wp2_with fail
  refine hp.use ?_
  rintro v w1 ⟨tv,cv,rfl,h1,h2⟩ g1
  obtain⟨b,off,cap,rfl,hc,hb,hcell⟩:=h1.at_ (by simp)
  have c0:=hcell 0 t rfl
  rw[Nat.add_zero]at c0
  clear hcell h1 h2 hT
  go_wp2_with fail
  go_ret2
  exact⟨_,rfl,amP.good rfl,g1⟩
 |bad c p=>
  clear hr hne
  go_enter Tryz.func220,Tryz.ntmps220
  go_wp2_with fail
  refine hp.use ?_
  rintro v w1 ⟨e,rfl,he⟩ g1
  have HE:=hid he
  obtain⟨b,rfl,h1,h2,h3⟩:=he
  clear h1 h2
  go_wp2_with fail
  go_ret2
  exact⟨_,rfl,amP.bad rfl HE.out,g1⟩
def asJ(r:adb)(v:Value)(w':World):Prop:=
 match r with
 |.good ts _=>∃tv,v=.tuple #[tv,.nilIface]∧Ux w' tv ts
 |.bad c p=>∃e,v=.tuple #[.slice none 0 0,e]∧UE w' e c p
theorem asJ.good{r:adb}{ts:List (List UInt8)}{cs:List UInt8}{tv:Value}{w':World}(h:r=.good ts cs)(h1:Ux w' tv ts):asJ r (.tuple #[tv,.nilIface]) w':=by subst h;exact⟨_,rfl,h1⟩
theorem asJ.bad{r:adb}{c:Int}{p:Nat}{e:Value}{w':World}(h:r=.bad c p)(he:UE w' e c p):asJ r (.tuple #[.slice none 0 0,e]) w':=by subst h;exact⟨e,rfl,he⟩
def asK(n:Nat)(r:adb)(v:Value)(w':World):Prop:=
 match r with
 |.good ts _=>∃tv,v=.tuple #[tv,.nilIface]∧w'.ownsRow n 9 1 tv ts.length (ts.map fun t=>.string (S t))
 |.bad c p=>∃e,v=.tuple #[.slice none 0 0,e]∧UE w' e c p
theorem asK.good{n:Nat}{r:adb}{ts:List (List UInt8)}{cs:List UInt8}{tv:Value}{w':World}(h:r=.good ts cs)(h1:w'.ownsRow n 9 1 tv ts.length (ts.map fun t=>.string (S t))):asK n r (.tuple #[tv,.nilIface]) w':=by subst h;exact⟨_,rfl,h1⟩
theorem asK.bad{n:Nat}{r:adb}{c:Int}{p:Nat}{e:Value}{w':World}(h:r=.bad c p)(he:UE w' e c p):asK n r (.tuple #[.slice none 0 0,e]) w':=by subst h;exact⟨e,rfl,he⟩
theorem agk(p:List UInt8)(ps:List (List UInt8)):acT (p::ps)=Uu [44] (adK p) (ps.map adK):=rfl
def an9(ls:List (List UInt8)):Value:=if ls=[] then .tuple #[.string (S []),eno 8] else .tuple #[.string (S (acT ls)),.nilIface]
theorem aiP{α β:Type}(f:α→β)(l:List α)(k:Nat)(h:k<l.length):(l.take (k+1)).map f=(l.take k).map f++[f l[k]]:=by
 rw[List.take_succ_eq_append_getElem h,List.map_append];rfl
theorem ao2(s:List UInt8):(adK s).length≤2*s.length:=by
 have:=axl s
 have h2:avC s≤s.length:=List.length_filter_le _ _
 omega
theorem aj2(ls:List (List UInt8)):(acT ls).length≤2*adq ls:=by
 cases ls with
 |nil=>simp[acT]
 |cons p ps=>
  rw[agk,aj1,afp]
  have h1:=ao2 p
  have h2:((ps.map adK).map fun q=>[44].length+q.length).sum≤2*adq ps:=by
   clear h1
   induction ps with
   |nil=>simp[adq]
   |cons q ps ih=>
    rw[afp]
    have:=ao2 q
    simp only[List.map_cons,List.sum_cons,List.length_cons,List.length_nil]
    simp only[List.length_cons,List.length_nil]at ih
    omega
  simp only[List.length_cons,List.length_nil]at h2⊢
  omega
theorem anw(f:List UInt8→List UInt8)(ls:List (List UInt8))(k:Nat)(h:k<ls.length):((ls.take (k+1)).map fun l=>Value.string (S (f l)))=((ls.take k).map fun l=>Value.string (S (f l)))++[.string (S (f ls[k]))]:=
 aiP _ _ _ h
theorem aoa(v:Value)(ls:List (List UInt8))(w:World)(h:Ux w v ls)(hs:adq ls≤100000):Um 199 #[v] w (an9 ls):=by
 obtain⟨i0,hi,hz0,hz1,hz2⟩:=info_parts ajT
 have hlen:=ahF ls
 by_cases h0:ls=[]
 ·subst h0
  obtain⟨a,cap,rfl,_⟩:=h.len
  clear h
  go_enter Tryz.func199,Tryz.ntmps199
  go_wp2_with fail
  go_ret2
  exact⟨rfl,G.refl _⟩
 ·have hpos:0<ls.length:=List.length_pos_iff.2 h0
  have HJ:Hid (an9 ls=.tuple #[.string (S (acT ls)),.nilIface]):=hid (by unfold an9;rw[if_neg h0])
  have H0:=hid h0
  obtain⟨b,off,cap,rfl,hc,hb,hcell⟩:=h.at_ h0
  clear h h0
  have HC:=hid hcell
  clear hcell
  have hne:((ls.length:Int)==0)=false:=beq_eq_false_iff_ne.2 (by omega)
  have HM:Hid (∀l∈ls,l.length+1≤adq ls):=hid (fun l hl=>ajG hl)
  go_enter Tryz.func199,Tryz.ntmps199
  go_wp2_with fail
  go_loopw [4,13] (fun t i wr=>∃k:Nat,k≤ls.length∧i=.int .i64 k∧wr.ownsRow w.heap.size 9 1 t k ((ls.take k).map fun l=>.string (S (adK l)))∧G w wr) (fun _ i _=>ls.length-(intOf i).toNat)
  case atStart=>exact⟨0,Nat.zero_le _,rfl,by simpa using World.ownsRow_nil _ _ _ _,G.refl _⟩
  case round=>
   obtain⟨k,hk,rfl,hown,g⟩:=hrel
   have HO:=hid hown
   have HG:=hid g
   clear hown g
   by_cases hlt:k<ls.length
   ·have c1:wr.cell? ⟨b,off+k,none⟩=some (.string (S ls[k])):=by
     rw[HG.out.cell (p:=⟨b,off+k,none⟩) hb];exact HC.out k _ (List.getElem?_eq_getElem hlt)
    obtain⟨x,hx⟩:∃x,ls[k]=x:=⟨_,rfl⟩
    rw[hx]at c1
    have hxl:x.length+1≤adq ls:=by rw[←hx];exact HM.out _ (List.getElem_mem hlt)
    have HX:=hid hx
    clear hx
    go_wp2_with fail
    refine(amb x _ (by omega)).use ?_
    intro w1 g1
    have HG1:=hid g1
    clear g1
    have HO1:Hid (w1.ownsRow w.heap.size 9 1 u4 k ((ls.take k).map fun l=>.string (S (adK l)))):=hid (Uy HO.out fun j _ hj=>HG1.out.below.block j hj)
    go_wp2_with (at_builtin;refine wpList_append_lies _ rfl (.tmp 17) (.tmp 20) 39 rfl w.heap.size 9 i0 _ 1 16 Tryz.underlying39 hi hz0 hz1 hz2 rfl (by decide) _ _ _ rfl (HO1.out.alloc _) ⟨w1.heap.size,0,none⟩ 1 1 [.string (S (adK x))] rfl rfl (aiL _ _ _) (aiM _ rfl) (by omega) ?c3 ?c4 ?c5 _ rfl ?_)
    case c3=>unfold maxLen;omega
    case c4=>omega
    case c5=>have:=HG.out.size;have:=HG1.out.size;simp;omega
    intro g1 cap1 w2 hown2 hgrow2 hat2 hlt2
    have HG2:Hid (G w w2):=hid (((HG.out.trans HG1.out).alloc _).below.grown hgrow2 (by have:=HG.out.size;have:=HG1.out.size;simp;omega) (fun j hj=>(HO1.out.lt j hj).1))
    have HO2:=hid hown2
    clear hown2 hgrow2 hat2
    go_wp2_with fail
    go_roundw
    case rel=>exact⟨k+1,by omega,by go_num,by rw[anw _ _ _ hlt,HX.out];simpa[List.map_take]using HO2.out,HG2.out⟩
    case measure=>simp[intOf];omega
   ·obtain rfl:k=ls.length:=by omega
    have hown:=HO.out
    rw[List.take_length]at hown
    obtain⟨p,ps,rfl⟩:∃p ps,ls=p::ps:=by cases ls with|nil=>exact absurd rfl H0.out|cons p ps=>exact⟨p,ps,rfl⟩
    have hst:Ux wr u4 (adK p::ps.map adK):=aeF (by simpa[Function.comp_def]using hown)
    have HS:=hid hst
    clear hown hst
    have hjl:=aj2 (p::ps)
    have hjl2:(Uu [44] (adK p) (ps.map adK)).length≤100000000:=by rw[←agk];omega
    have hpl:(ps.map adK).length≤1000000:=by simp at hlen⊢;omega
    have HL:=hid hjl2
    have HP:=hid hpl
    clear hjl hjl2 hpl
    go_wp2_with fail
    refine(an8 u4 (adK p) (ps.map adK) [44] _ HS.out HP.out HL.out).use ?_
    intro w1 g1
    go_wp2_with fail
    go_ret2
    exact⟨HJ.out.symm▸rfl,HG.out.trans g1⟩
theorem agZ(p:List (List UInt8))(ps:List (List (List UInt8))):aeY (p::ps)=Uu [59] (acT p) (ps.map acT):=rfl
theorem aqA(ls:List (List (List UInt8))):(aeY ls).length≤2*acY ls:=by
 cases ls with
 |nil=>simp[aeY]
 |cons p ps=>
  rw[agZ,aj1,af0]
  have h1:=aj2 p
  have h2:((ps.map acT).map fun q=>[59].length+q.length).sum≤2*acY ps:=by
   clear h1
   induction ps with
   |nil=>simp[acY]
   |cons q ps ih=>
    rw[af0]
    have:=aj2 q
    simp only[List.map_cons,List.sum_cons,List.length_cons,List.length_nil]
    simp only[List.length_cons,List.length_nil]at ih
    omega
  simp only[List.length_cons,List.length_nil]at h2⊢
  omega
def avM(ls:List (List (List UInt8)))(v:Value)(w':World):Prop:=
 (ls=[]∧v=.tuple #[.string (S []),eno 8])∨(ls≠[]∧(∀l∈ls,l≠[])∧v=.tuple #[.string (S (aeY ls)),.nilIface])∨∃k e,ls[k]?=some []∧v=.tuple #[.string (S []),e]∧UE w' e 8 (k:Nat)
theorem amQ(ls:List (List (List UInt8)))(k:Nat)(h:k<ls.length):((ls.take (k+1)).map fun l=>Value.string (S (acT l)))=((ls.take k).map fun l=>Value.string (S (acT l)))++[.string (S (acT ls[k]))]:=
 aiP _ _ _ h
theorem aiQ(v:Value)(ls:List (List (List UInt8)))(w:World)(h:Uw w v ls)(hs:acY ls≤100000):Uz 168 #[v] w (avM ls):=by
 obtain⟨i0,hi,hz0,hz1,hz2⟩:=info_parts ajT
 have hlen:=ahG ls
 by_cases h0:ls=[]
 ·subst h0
  obtain⟨a,cap,rfl,_⟩:=h.len
  clear h
  go_enter Tryz.func168,Tryz.ntmps168
  go_wp2_with fail
  go_ret2
  exact⟨_,rfl,.inl ⟨rfl,rfl⟩,G.refl _⟩
 ·have hpos:0<ls.length:=List.length_pos_iff.2 h0
  have H0:=hid h0
  obtain⟨b,off,cap,rfl,hc,hb,hcell⟩:=h.at_ h0
  clear h h0
  have HC:=hid hcell
  clear hcell
  have hne:((ls.length:Int)==0)=false:=beq_eq_false_iff_ne.2 (by omega)
  have HM:Hid (∀l∈ls,adq l+1≤acY ls):=hid (fun l hl=>ahH hl)
  go_enter Tryz.func168,Tryz.ntmps168
  go_wp2_with fail
  go_loopw [4,15] (fun t i wr=>∃k:Nat,k≤ls.length∧i=.int .i64 k∧(∀j,j<k→ls[j]?≠some [])∧wr.ownsRow w.heap.size 9 1 t k ((ls.take k).map fun l=>.string (S (acT l)))∧G w wr) (fun _ i _=>ls.length-(intOf i).toNat)
  case atStart=>exact⟨0,Nat.zero_le _,rfl,by omega,by simpa using World.ownsRow_nil _ _ _ _,G.refl _⟩
  case round=>
   obtain⟨k,hk,rfl,hfull,hown,g⟩:=hrel
   have HO:=hid hown
   have HG:=hid g
   have HF:=hid hfull
   clear hown g hfull
   by_cases hlt:k<ls.length
   ·obtain⟨sv,hsv,hst⟩:=HC.out k _ (List.getElem?_eq_getElem hlt)
    have c1:wr.cell? ⟨b,off+k,none⟩=some sv:=by
     rw[HG.out.cell (p:=⟨b,off+k,none⟩) hb];exact hsv
    have HST:=hid (hst.grow HG.out)
    clear hst hsv
    obtain⟨x,hx⟩:∃x,ls[k]=x:=⟨_,rfl⟩
    rw[hx]at HST
    have hxl:adq x+1≤acY ls:=by rw[←hx];exact HM.out _ (List.getElem_mem hlt)
    have hxl2:(acT x).length≤200000:=by have:=aj2 x;omega
    have HX:=hid hx
    clear hx
    by_cases hx0:x=[]
    ·subst hx0
     go_wp2_with fail
     refine(aoa sv [] _ HST.out (by omega)).use ?_
     intro w1 g1
     have HJ:Hid (an9 []=.tuple #[.string (S []),eno 8]):=hid rfl
     rw[HJ.out]
     go_wp2_with fail
     go_ret2
     exact⟨_,rfl,.inr (.inr ⟨k,_,by rw[List.getElem?_eq_getElem hlt,HX.out],rfl,UE.new _ _ _ _⟩),(HG.out.trans g1).alloc _⟩
    ·have HJ:Hid (an9 x=.tuple #[.string (S (acT x)),.nilIface]):=hid (by unfold an9;rw[if_neg hx0])
     have HX0:=hid hx0
     clear hx0
     go_wp2_with fail
     refine(aoa sv x _ HST.out (by omega)).use ?_
     intro w1 g1
     rw[HJ.out]
     have HG1:=hid g1
     clear g1
     have HO1:Hid (w1.ownsRow w.heap.size 9 1 u4 k ((ls.take k).map fun l=>.string (S (acT l)))):=hid (Uy HO.out fun j _ hj=>HG1.out.below.block j hj)
     go_wp2_with (at_builtin;refine wpList_append_lies _ rfl (.tmp 31) (.tmp 33) 39 rfl w.heap.size 9 i0 _ 1 16 Tryz.underlying39 hi hz0 hz1 hz2 rfl (by decide) _ _ _ rfl (HO1.out.alloc _) ⟨w1.heap.size,0,none⟩ 1 1 [.string (S (acT x))] rfl rfl (aiL _ _ _) (aiM _ rfl) (by omega) ?c3 ?c4 ?c5 _ rfl ?_)
     case c3=>unfold maxLen;omega
     case c4=>omega
     case c5=>have:=HG.out.size;have:=HG1.out.size;simp;omega
     intro g1 cap1 w2 hown2 hgrow2 hat2 hlt2
     have HG2:Hid (G w w2):=hid (((HG.out.trans HG1.out).alloc _).below.grown hgrow2 (by have:=HG.out.size;have:=HG1.out.size;simp;omega) (fun j hj=>(HO1.out.lt j hj).1))
     have HO2:=hid hown2
     clear hown2 hgrow2 hat2
     go_wp2_with fail
     go_roundw
     case rel=>
      refine⟨k+1,by omega,by go_num,?_,by rw[amQ _ _ hlt,HX.out];simpa[List.map_take]using HO2.out,HG2.out⟩
      intro j hj
      rcases Nat.lt_or_ge j k with h|h
      ·exact HF.out j h
      ·obtain rfl:j=k:=by omega
       rw[List.getElem?_eq_getElem hlt,HX.out]
       intro e;injection e with e;exact HX0.out e
     case measure=>simp[intOf];omega
   ·obtain rfl:k=ls.length:=by omega
    have hown:=HO.out
    rw[List.take_length]at hown
    obtain⟨p,ps,rfl⟩:∃p ps,ls=p::ps:=by cases ls with|nil=>exact absurd rfl H0.out|cons p ps=>exact⟨p,ps,rfl⟩
    have hst:Ux wr u4 (acT p::ps.map acT):=aeF (by simpa[Function.comp_def]using hown)
    have HS:=hid hst
    clear hown hst
    have hjl:=aqA (p::ps)
    have hjl2:(Uu [59] (acT p) (ps.map acT)).length≤100000000:=by rw[←agZ];omega
    have hpl:(ps.map acT).length≤1000000:=by simp at hlen⊢;omega
    have HL:=hid hjl2
    have HP:=hid hpl
    clear hjl hjl2 hpl
    go_wp2_with fail
    refine(an8 u4 (acT p) (ps.map acT) [59] _ HS.out HP.out HL.out).use ?_
    intro w1 g1
    go_wp2_with fail
    go_ret2
    refine⟨_,rfl,.inr (.inl ⟨by simp,?_,rfl⟩),HG.out.trans g1⟩
    intro l hl e
    obtain⟨j,hj,he⟩:=List.getElem_of_mem hl
    exact HF.out j hj (by rw[List.getElem?_eq_getElem hj,he,e])
end Go.Proofs.YtmffejnigppbpaaGreatDoor

namespace Go.Proofs.YtmffejnigppbpaaGreatDoor
open Go.RowKit
theorem ath{a b:List (List UInt8)}(h:a.map S=b.map S):a=b:=by
 induction a generalizing b with
 |nil=>cases b with|nil=>rfl|cons _ _=>simp at h
 |cons x a ih=>
  cases b with
  |nil=>simp at h
  |cons y b=>
   simp only[List.map_cons,List.cons.injEq]at h
   rw[axP.1 h.1,ih h.2]
theorem au0{va vb:Value}{xs ys:List (List UInt8)}{w:World}(ha:Ux w va xs)(hb:Ux w vb ys)(lx:xs.length≤1000000)(ly:ys.length≤1000000) :
  Calls Tryz.prog 104 #[va,vb] w fun e w'=>e=.returned (.bool (decide (xs=ys)))∧∃q,w'=w.drewN q:=by
 obtain⟨aa,ca,hva,_⟩:=ha.len
 obtain⟨ab,cb,hvb,_⟩:=hb.len
 by_cases hn:xs.length=ys.length
 ·by_cases h0:xs=[]
  ·subst h0
   have:ys=[]:=List.eq_nil_of_length_eq_zero (by rw[←hn];rfl)
   subst this
   subst hva;subst hvb
   refine(Tryz.slices_Equal_string_empty aa ab ca 0 cb w (by omega)).mono ?_
   rintro e w' ⟨rfl,rfl⟩
   exact⟨by simp,0,rfl⟩
  ·have h1:ys≠[]:=by rintro rfl;exact h0 (List.eq_nil_of_length_eq_zero (by rw[hn];rfl))
   obtain⟨b1,o1,c1,rfl,_,_,hc1⟩:=ha.at_ h0
   obtain⟨b2,o2,c2,rfl,_,_,hc2⟩:=hb.at_ h1
   have key:∀(l:List (List UInt8)) (b o:Nat),(∀(i:Nat) (x:List UInt8),l[i]?=some x→w.cell? ⟨b,o+i,none⟩=some (.string (S x)))→∀j,j<(l.map S).length→w.cell? ⟨b,o+j,none⟩=some (.string ((l.map S).getD j ByteArray.empty)):=by
    intro l b o h j hj
    have hj':j<l.length:=by simpa using hj
    rw[h j l[j] (List.getElem?_eq_getElem hj')]
    simp[List.getD,List.getElem?_eq_getElem hj']
   refine(Tryz.slices_Equal_string b1 o1 xs.length c1 b2 o2 ys.length c2 (xs.map S) (ys.map S) w (by simp) (by simp) (by omega) (by omega) (key xs b1 o1 hc1) (key ys b2 o2 hc2)).mono ?_
   rintro e w' ⟨rfl,hq⟩
   refine⟨zF ?_,hq⟩
   rw[List.take_of_length_le (by simp),List.take_of_length_le (by simp)]
   exact decide_eq_decide.2 ⟨ath,fun h=>by rw[h]⟩
 ·subst hva;subst hvb
  refine(Tryz.slices_Equal_string_lens aa ab xs.length ca ys.length cb w hn).mono ?_
  rintro e w' ⟨rfl,rfl⟩
  exact⟨zF (decide_eq_false (fun e=>hn (by rw[e]))).symm,0,rfl⟩
theorem G.ofDrewN{w w':World}(h:∃q,w'=w.drewN q):G w w':=by
 obtain⟨q,rfl⟩:=h;exact(G.refl w).drewN q
theorem al9{va vb:Value}{xs ys:List (List UInt8)}{w:World}(ha:Ux w va xs)(hb:Ux w vb ys)(lx:xs.length≤1000000)(ly:ys.length≤1000000):Um 104 #[va,vb] w (.bool (decide (xs=ys))):=
 (au0 ha hb lx ly).mono fun e w' ⟨h1,h2⟩=>⟨h1,G.ofDrewN h2⟩
theorem Ux.lit(w:World)(ls:List (List UInt8))(n:Nat)(hn:n=ls.length)(h:ls≠[]):Ux (w.alloc (.cells ((ls.map S).map Value.string).toArray 9)) (.slice (some ⟨w.heap.size,0,none⟩) n n) ls:=by
 subst hn;exact aiO w _ ls h
end Go.Proofs.YtmffejnigppbpaaGreatDoor

set_option maxHeartbeats 2000000
set_option maxRecDepth 100000
namespace Go.Proofs.YtmffejnigppbpaaGreatDoor
open Go.RowKit
theorem arV(n m:List UInt8)(va vb:Value)(xs ys:List (List UInt8))(w:World)(ha:Ux w va xs)(hb:Ux w vb ys)(lx:xs.length≤1000000)(ly:ys.length≤1000000)(ln:n.length≤1000000)(lm:m.length≤1000000) :
  Um 103 #[.agg #[.string (S n),va],.agg #[.string (S m),vb]] w (.bool (decide ((n,xs)=(m,ys)))):=by
 have HA:=hid ha
 have HB:=hid hb
 obtain⟨aa,ca,rfl,_⟩:=ha.len
 obtain⟨ab,cb,rfl,_⟩:=hb.len
 clear ha hb
 by_cases hnm:n=m
 ·subst hnm
  have hd:decide ((n,xs)=(n,ys))=decide (xs=ys):=by simp
  rw[hd]
  clear hd
  go_enter Tryz.func103,Tryz.ntmps103
  go_wp2_with fail
  refine(al9 (HA.out.grow (by repeat (first|exact G.refl _|assumption|apply G.drew|apply G.drewN|apply G.alloc|refine G.trans ?_ (by assumption)))) (HB.out.grow (by repeat (first|exact G.refl _|assumption|apply G.drew|apply G.drewN|apply G.alloc|refine G.trans ?_ (by assumption)))) lx ly).use ?_
  intro w1 g1
  go_wp2_with fail
  go_ret
  exact⟨rfl,G.trans (by repeat (first|exact G.refl _|assumption|apply G.drew|apply G.drewN|apply G.alloc|refine G.trans ?_ (by assumption))) g1⟩
 ·have hd:decide ((n,xs)=(m,ys))=false:=decide_eq_false fun e=>hnm (congrArg Prod.fst e)
  have hz:(n==m)=false:=beq_eq_false_iff_ne.2 hnm
  rw[hd]
  clear hd hnm
  go_enter Tryz.func103,Tryz.ntmps103
  go_wp2_with fail
  go_ret
  exact⟨rfl,(by repeat (first|exact G.refl _|assumption|apply G.drew|apply G.drewN|apply G.alloc|refine G.trans ?_ (by assumption)))⟩
def ail(ps:List Pm):Prop:=∀p∈ps,p.1.length≤1000000∧p.2.length≤1000000
theorem aoV{va vb:Value}{xs ys:List Pm}{w:World}(ha:UN w va xs)(hb:UN w vb ys)(lx:xs.length≤1000000)(ly:ys.length≤1000000)(sx:ail xs)(sy:ail ys) :
  Um 102 #[va,vb,.func (.func 103) #[] #[]] w (.bool (decide (xs=ys))):=by
 have HA:=hid ha
 have HB:=hid hb
 obtain⟨aa,ca,rfl,_,_⟩:=ha
 obtain⟨ab,cb,rfl,_,_⟩:=hb
 have SX:=hid sx
 have SY:=hid sy
 clear sx sy
 by_cases hn:xs.length=ys.length
 ·have hb1:((xs.length:Int) != (ys.length:Int))=false:=by rw[hn];simp
  have HN:=hid hn
  clear hn
  go_enter Tryz.func102,Tryz.ntmps102
  go_wp2_with fail
  go_loopw [17] (fun i wr=>∃k:Nat,k≤xs.length∧i=.int .i64 k∧G w wr∧∀j,j<k→xs[j]?=ys[j]?) (fun i _=>xs.length-(intOf i).toNat)
  case atStart=>exact⟨0,Nat.zero_le _,rfl,G.refl _,by omega⟩
  case round=>
   obtain⟨k,hk,rfl,g,hall⟩:=hrel
   have HG:=hid g
   have HALL:=hid hall
   clear g hall
   by_cases hlt:k<xs.length
   ·have hlt2:k<ys.length:=by rw[←HN.out];exact hlt
    obtain⟨a1,c1,e1,_,hc1⟩:=HA.out
    obtain⟨b1,o1,e1',hb1',hcc1⟩:=hc1 (by rintro rfl;simp at hlt)
    obtain⟨a2,c2,e2,_,hc2⟩:=HB.out
    obtain⟨b2,o2,e2',hb2',hcc2⟩:=hc2 (by rintro rfl;simp at hlt2)
    simp only[Value.slice.injEq,true_and]at e1 e2
    obtain⟨rfl,rfl⟩:=e1
    obtain⟨rfl,rfl⟩:=e2
    subst e1';subst e2'
    obtain⟨s1,d1,f1,i1⟩:=hcc1 k _ (List.getElem?_eq_getElem hlt)
    obtain⟨s2,d2,f2,i2⟩:=hcc2 k _ (List.getElem?_eq_getElem hlt2)
    obtain⟨x,hx⟩:∃x,xs[k]=x:=⟨_,rfl⟩
    obtain⟨y,hy⟩:∃y,ys[k]=y:=⟨_,rfl⟩
    have zx:=SX.out _ (List.getElem_mem hlt)
    have zy:=SY.out _ (List.getElem_mem hlt2)
    rw[hx]at i1 zx d1
    rw[hy]at i2 zy d2
    have I1:=hid i1
    have I2:=hid i2
    obtain⟨ax,cx,rfl,_⟩:=i1.len
    obtain⟨ay,cy,rfl,_⟩:=i2.len
    rw[←HG.out.cell (p:=⟨b1,o1+k*2,none⟩) hb1']at d1
    rw[←HG.out.cell (p:=⟨b2,o2+k*2,none⟩) hb2']at d2
    rw[←HG.out.cell (p:=⟨b1,o1+k*2+1,none⟩) hb1']at f1
    rw[←HG.out.cell (p:=⟨b2,o2+k*2+1,none⟩) hb2']at f2
    have bl1:b1<wr.heap.size:=Nat.lt_of_lt_of_le hb1' HG.out.size
    have bl2:b2<wr.heap.size:=Nat.lt_of_lt_of_le hb2' HG.out.size
    have HX:=hid hx
    have HY:=hid hy
    have ZX:=hid zx
    have ZY:=hid zy
    obtain⟨n,x⟩:=x
    obtain⟨m,y⟩:=y
    clear hx hy i1 i2 hc1 hc2 hcc1 hcc2 zx zy
    simp only at d1 d2
    obtain⟨r,hr⟩:∃r,decide ((n,x)=(m,y))=r:=⟨_,rfl⟩
    have SP:=hid (fun W (g:G wr W)=>show Um 103 #[.agg #[.string (S n),.slice ax x.length cx],.agg #[.string (S m),.slice ay y.length cy]] W (.bool r) by rw[←hr];exact arV n m _ _ x y W (I1.out.grow (G.trans HG.out g)) (I2.out.grow (G.trans HG.out g)) ZX.out.2 ZY.out.2 ZX.out.1 ZY.out.1)
    have HRR:=hid hr
    clear hr
    go_wp2_with (go_at_call 103;refine(SP.out _ (by repeat (first|exact G.refl _|assumption|apply G.drew|apply G.drewN|apply G.alloc|refine G.trans ?_ (by assumption)))).use ?_)
    intro w1 g1
    have G1:=hid (HG.out.trans (G.trans (by repeat (first|exact G.refl _|assumption|apply G.drew|apply G.drewN|apply G.alloc|refine G.trans ?_ (by assumption))) g1))
    clear g1
    cases r with
    |true=>
     go_wp2_with fail
     go_roundw
     case rel=>
      refine⟨k+1,by omega,by go_num,G1.out,fun j hj=>?_⟩
      rcases Nat.lt_or_ge j k with h|h
      ·exact HALL.out j h
      ·obtain rfl:j=k:=by omega
       rw[List.getElem?_eq_getElem hlt,List.getElem?_eq_getElem hlt2,HX.out,HY.out,of_decide_eq_true HRR.out]
     case measure=>simp[intOf];omega
    |false=>
     have HR:Hid (decide (xs=ys)=false):=hid (decide_eq_false (by
      intro e
      apply of_decide_eq_false HRR.out
      rw[←HX.out,←HY.out]
      simp only[e]))
     go_wp2_with fail
     go_ret
     exact⟨zF HR.out.symm,G1.out⟩
   ·have HR:Hid (decide (xs=ys)=true):=hid (decide_eq_true (by
     apply List.ext_getElem?
     intro j
     rcases Nat.lt_or_ge j k with h|h
     ·exact HALL.out j h
     ·rw[List.getElem?_eq_none (by omega),List.getElem?_eq_none (by have:=HN.out;omega)]))
    go_wp2_with fail
    go_ret
    exact⟨zF HR.out.symm,HG.out⟩
 ·have hb1:((xs.length:Int) != (ys.length:Int))=true:=by simp;omega
  have HR:Hid (decide (xs=ys)=false):=hid (decide_eq_false fun e=>hn (by rw[e]))
  clear hn
  go_enter Tryz.func102,Tryz.ntmps102
  go_wp2_with fail
  go_ret
  exact⟨zF HR.out.symm,G.refl _⟩
theorem amM{va vb:Value}{xs ys:List Pm}{w:World}(ha:UN w va xs)(hb:UN w vb ys)(lx:xs.length≤1000000)(ly:ys.length≤1000000)(sx:ail xs)(sy:ail ys) :
  Um 62 #[va,vb] w (.bool (decide (xs=ys))):=by
 have EQ:=hid (fun W (g:G w W)=>aoV (ha.grow g) (hb.grow g) lx ly sx sy)
 obtain⟨aa,ca,rfl,_,_⟩:=ha
 obtain⟨ab,cb,rfl,_,_⟩:=hb
 go_enter Tryz.func62,Tryz.ntmps62
 go_wp2_with fail
 refine(EQ.out _ (by repeat (first|exact G.refl _|assumption|apply G.drew|apply G.drewN|apply G.alloc|refine G.trans ?_ (by assumption)))).use ?_
 intro w1 g1
 go_wp2_with fail
 go_ret
 exact⟨rfl,g1⟩
end Go.Proofs.YtmffejnigppbpaaGreatDoor
