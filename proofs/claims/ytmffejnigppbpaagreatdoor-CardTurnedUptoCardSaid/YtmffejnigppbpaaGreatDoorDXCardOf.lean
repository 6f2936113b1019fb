/-
 CONTRACT of card.Of: the card that lines are.
-/
import Derived.Test.YtmffejnigppbpaaGreatDoorDXCardItem
import Derived.Test.YtmffejnigppbpaaGreatDoorDXMA78
import Derived.Test.YtmffejnigppbpaaGreatDoorDXMA56
set_option linter.unusedVariables false
set_option linter.unusedSimpArgs false
set_option maxHeartbeats 16000000
set_option maxRecDepth 100000
namespace Go.Proofs.YtmffejnigppbpaaGreatDoor
open Go.RowKit
theorem akJ{v:Int}{t:List UInt8}:∀ {a:List (List UInt8)} {ys:List It},adI v a=some ys→adI v (a++[t])=(adG v t).map (fun x=>ys++[x])
 |[],ys,h=>by
  cases h
  show(match adG v t with|none=>none|some x=>match adI v []with|none=>none|some xs=>some (x::xs))=_
  cases adG v t<;>rfl
 |u::a,ys,h=>by
  have h':(match adG v u with|none=>none|some x=>match adI v a with|none=>none|some xs=>some (x::xs))=some ys:=h
  show(match adG v u with|none=>none|some x=>match adI v (a++[t])with|none=>none|some xs=>some (x::xs))=_
  cases hu:adG v u with
  |none=>rw[hu]at h';cases h'
  |some x=>
   rw[hu]at h'
   cases ha:adI v a with
   |none=>rw[ha]at h';cases h'
   |some xs=>
    rw[ha]at h'
    cases h'
    rw[akJ ha]
    cases adG v t<;>rfl
theorem alT{v:Int}:∀ {a:List (List UInt8)} {ys:List It},adI v a=some ys→ys.length=a.length
 |[],ys,h=>by cases h;rfl
 |u::a,ys,h=>by
  have h':(match adG v u with|none=>none|some x=>match adI v a with|none=>none|some xs=>some (x::xs))=some ys:=h
  cases hu:adG v u with
  |none=>rw[hu]at h';cases h'
  |some x=>
   rw[hu]at h'
   cases ha:adI v a with
   |none=>rw[ha]at h';cases h'
   |some xs=>
    rw[ha]at h'
    cases h'
    simp[alT ha]
theorem akK{v:Int}{t:List UInt8}{b:List (List UInt8)}:∀ {a:List (List UInt8)},adG v t=none→adI v (a++t::b)=none
 |[],h=>by
  show(match adG v t with|none=>none|some x=>match adI v b with|none=>none|some xs=>some (x::xs))=_
  rw[h]
 |u::a,h=>by
  show(match adG v u with|none=>none|some x=>match adI v (a++t::b)with|none=>none|some xs=>some (x::xs))=_
  rw[akK h]
  cases adG v u<;>rfl
theorem ayS(t0 t1 te:List UInt8)(mid:List (List UInt8)):ofT (t0::t1::(mid++[te]))=if aeu t0 ada=false then none else match aiB t1 with
  |none=>none
  |some v=>match adI v mid with
   |none=>none
   |some xs=>if aeu te aju=false then none else if acN v xs=true then some (v,xs)else none:=by
 have hl:(t0::t1::(mid++[te])).length=mid.length+3:=by simp
 have e2:(t0::t1::(mid++[te])).getD (mid.length+3-1) []=te:=by
  have:mid.length+3-1=(mid.length+1)+1:=rfl
  rw[this,List.getD_eq_getElem?_getD]
  simp[List.getElem?_append]
 have e3:((t0::t1::(mid++[te])).take (mid.length+3-1)).drop 2=mid:=by
  have:mid.length+3-1=(mid.length+1)+1:=rfl
  rw[this]
  simp
 unfold ofT
 rw[hl,if_neg (by omega),e2,e3]
 rfl
theorem auH{ts:List (List UInt8)}(h:ts.length<3):ofT ts=none:=by unfold ofT;rw[if_pos h]
theorem awq{t:List UInt8}{v:Int}(h:aiB t=some v):v=3∨v=4:=by
 unfold aiB at h
 split at h
 ·cases h;exact .inl rfl
 ·split at h
  ·cases h;exact .inr rfl
  ·cases h
theorem IsP.at_{n:Nat}{w:World}{e:Value}{c:Int}{k:Nat}(h:UE w e c (k:Int))(hk:k≤n):IsP n w e:=⟨c,.inr ⟨k,hk,h⟩⟩
theorem IsP.mono{n m:Nat}{w:World}{e:Value}(h:IsP n w e)(hm:n≤m):IsP m w e:=by
 obtain⟨c,h|⟨k,hk,h⟩⟩:=h
 ·exact⟨c,.inl h⟩
 ·exact⟨c,.inr ⟨k,Nat.le_trans hk hm,h⟩⟩
def OfR(N:Nat)(o:Option (Int×List It))(n:Nat)(r:Value)(w:World):Prop:=match o with
 |some (v,xs)=>∃iv ds,r=.tuple #[acH v iv,.nilIface]∧aeP n w iv xs.length ds∧∀L:List Nat,(∀X∈L,X<n)→acK (Wl L w) xs ds
 |none=>∃e,r=.tuple #[acH 0 (.slice none 0 0),e]∧IsP N w e
theorem OfR.no{N n:Nat}{o:Option (Int×List It)}{e:Value}{w:World}(h:o=none)(he:IsP N w e):OfR N o n (.tuple #[acH 0 (.slice none 0 0),e]) w:=by subst h;exact⟨e,rfl,he⟩
theorem OfR.yes{N n:Nat}{o:Option (Int×List It)}{v:Int}{xs:List It}{iv:Value}{ds:List Value}{w:World}(h:o=some (v,xs))(h1:aeP n w iv xs.length ds)(h2:∀L:List Nat,(∀X∈L,X<n)→acK (Wl L w) xs ds):OfR N o n (.tuple #[acH v iv,.nilIface]) w:=by subst h;exact⟨iv,ds,rfl,h1,h2⟩
theorem adR{W:World}{X:Nat}{T:TypeId}(hz:W.heap[X]?=some (.cells #[.int .i64 0,.slice none 0 0] T (0,0))):(W.setCell ⟨X,0,none⟩ (.int .i64 0)).setCell ⟨X,1,none⟩ (.slice none 0 0)=W:=by
 rw[UC (i:=0) (v:=.int .i64 0) hz rfl,UC (i:=1) (v:=.slice none 0 0) hz rfl]
theorem axS{W:World}{X:Nat}{a0 a1 b0:Value}{T:TypeId}(h:W.heap[X]?=some (.cells #[a0,a1] T (0,0))):(W.setCell ⟨X,0,none⟩ b0).heap[X]?=some (.cells #[b0,a1] T (0,0)):=by
 simp[World.setCell,Array.getElem?_modify,h]
theorem ad5.wl{w:World}{base:Nat}{v:Value}{ps:List Pm}{L:List Nat}(h:ad5 w base v ps)(hL:∀X∈L,X<base):ad5 (Wl L w) base v ps:=by
 obtain⟨vs,e,hs,hr⟩:=h
 exact⟨vs,e,fun i p u hp hu=>Wl.own (hs i p u hp hu) hL,Wl.own hr hL⟩
theorem adM.wl{w:World}{base:Nat}{v:Value}{ls:List (List (List UInt8))}{L:List Nat}(h:adM w base v ls)(hL:∀X∈L,X<base):adM (Wl L w) base v ls:=by
 obtain⟨vs,e,hs,hr⟩:=h
 exact⟨vs,e,fun i l u hl hu=>Wl.own (hs i l u hl hu) hL,Wl.own hr hL⟩
theorem awr{ver:Int}{t:List UInt8}{x:It}{w:World}{pv lv:Value}{b1 b2 n:Nat}{L:List Nat}(h:adG ver t=some x)(h1:n≤b1)(h2:n≤b2)(hp:ad5 w b1 pv x.ps)(hl:adM w b2 lv x.v.ps)(hL:∀X∈L,X<n):adE (Wl L w) x pv lv:=by
 obtain⟨e1,e2⟩:=apz h
 exact⟨(hp.wl fun X hX=>Nat.lt_of_lt_of_le (hL X hX) h1).params,(hl.wl fun X hX=>Nat.lt_of_lt_of_le (hL X hX) h2).lists,hp.form,e1,e2⟩
structure OfS(ver:Int)(w0 w1 wr:World)(O:Nat)(ov:Value)(ys:List It)(ds:List Value):Prop where
 box:wr.heap[O]?=some (.cells #[.int .i64 ver,ov] 24 (0,0))
 own:aeP w1.heap.size wr ov ys.length ds
 row:∀L:List Nat,(∀X∈L,X<w1.heap.size)→acK (Wl (aqD ov++L) wr) ys ds
 g:G w0 wr
def aso(b n cap:Nat)(pos:Int)(k:Nat)(v:Value)(W:World):Prop:=
 match k with
 |0=>v=.agg #[.int .i64 0,.slice none 0 0]
 |1=>v=.slice (some ⟨b,0,none⟩) n cap
 |2=>v=.pointer (some ⟨b,3*0,none⟩)
 |3=>v=.pointer (some ⟨b,3*0+1,none⟩)
 |4=>v=.int .i64 pos
 |5=>v=.agg #[.int .i64 3,.int .i64 pos]
 |6=>∃ab,v=.pointer (some ⟨ab,0,none⟩)∧ab<W.heap.size∧W.cell? ⟨ab,0,none⟩=some (.int .i64 3)∧W.cell? ⟨ab,1,none⟩=some (.int .i64 pos)
 |7=>UE W v 3 pos
 |8=>True
 |_=>True
def asq(b n cap:Nat)(pos:Int)(k:Nat)(v:Value)(W:World):Prop:=
 match k with
 |0=>v=.agg #[.int .i64 0,.slice none 0 0]
 |1=>v=.slice (some ⟨b,0,none⟩) n cap
 |2=>v=.pointer (some ⟨b,3*1,none⟩)
 |3=>v=.pointer (some ⟨b,3*1+1,none⟩)
 |4=>v=.int .i64 pos
 |5=>v=.agg #[.int .i64 3,.int .i64 pos]
 |6=>∃ab,v=.pointer (some ⟨ab,0,none⟩)∧ab<W.heap.size∧W.cell? ⟨ab,0,none⟩=some (.int .i64 3)∧W.cell? ⟨ab,1,none⟩=some (.int .i64 pos)
 |7=>UE W v 3 pos
 |8=>True
 |_=>True
def apB(b n cap ix:Nat)(zl pos:Int)(k:Nat)(v:Value)(W:World):Prop:=
 match k with
 |0=>v=.agg #[.int .i64 0,.slice none 0 0]
 |1=>v=.slice (some ⟨b,0,none⟩) n cap
 |2=>v=.int .i64 zl
 |3=>v=.pointer (some ⟨b,3*ix,none⟩)
 |4=>v=.pointer (some ⟨b,3*ix+1,none⟩)
 |5=>v=.int .i64 pos
 |6=>v=.agg #[.int .i64 3,.int .i64 pos]
 |7=>∃ab,v=.pointer (some ⟨ab,0,none⟩)∧ab<W.heap.size∧W.cell? ⟨ab,0,none⟩=some (.int .i64 3)∧W.cell? ⟨ab,1,none⟩=some (.int .i64 pos)
 |8=>UE W v 3 pos
 |9=>True
 |_=>True
def apC(b n cap ab ix:Nat)(c pos:Int)(k:Nat)(v:Value)(W:World):Prop:=
 match k with
 |0=>v=.agg #[.int .i64 0,.slice none 0 0]
 |1=>v=.pointer (some ⟨ab,0,none⟩)
 |2=>v=.pointer (some ⟨ab,0,none⟩)
 |3=>v=.pointer (some ⟨ab,0,none⟩)
 |4=>v=.int .i64 c
 |5=>v=.slice (some ⟨b,0,none⟩) n cap
 |6=>v=.pointer (some ⟨ab,0,none⟩)
 |7=>v=.pointer (some ⟨ab,0,none⟩)
 |8=>v=.pointer (some ⟨ab,1,none⟩)
 |9=>v=.int .i64 (ix:Int)
 |10=>v=.int .i64 (2+(ix:Int))
 |11=>v=.pointer (some ⟨b,3*(2+ix),none⟩)
 |12=>v=.pointer (some ⟨b,3*(2+ix)+1,none⟩)
 |13=>v=.int .i64 pos
 |14=>v=.agg #[.int .i64 c,.int .i64 pos]
 |15=>∃ab,v=.pointer (some ⟨ab,0,none⟩)∧ab<W.heap.size∧W.cell? ⟨ab,0,none⟩=some (.int .i64 c)∧W.cell? ⟨ab,1,none⟩=some (.int .i64 pos)
 |16=>UE W v c pos
 |17=>True
 |_=>True
theorem aol(ls:List FLn)(lv:Value)(en N:Nat)(w:World)(h:aeM w lv ls)(hl:ls.length<3)(he:en≤N):Uz 107 #[lv,.int .i64 (en:Int)] w (fun r w'=>OfR N none w.heap.size r w'):=by
 obtain⟨a,cap,rfl⟩:=h.len
 have h3:(ls.length:Int)<3:=by omega
 clear h hl
 go_enter Tryz.func107,Tryz.ntmps107
 go_wp2_with fail
 have g2:=((G.refl w).alloc (.cells #[.int .i64 0,.slice none 0 0] 24)).alloc (.cells #[.int .i64 7,.int .i64 (en:Int)] 82)
 exact aeZ rfl rfl rfl rfl (by rw[Lib.alloc_old _ _ _ (by simp)];exact heap_alloc_new w _) ⟨_,rfl,OfR.no rfl (IsP.at_ (c:=7) (k:=en) (UE.newAt _ _ _ _ _ (by simp)) he),g2⟩
theorem apD(l0 l1 le:FLn)(mid:List FLn)(b cap en N:Nat)(w:World)(hc:∀(i:Nat) (l:FLn),(l0::l1::(mid++[le]))[i]?=some l→w.cell? ⟨b,3*i,none⟩=some (.string (S l.text))∧w.cell? ⟨b,3*i+1,none⟩=some (.int .i64 (l.pos:Int))∧∃fv,w.cell? ⟨b,3*i+2,none⟩=some fv∧adh w fv (adX l.folds))(hb:b<w.heap.size)(hcap:mid.length+3≤cap)(hs:∀l∈l0::l1::(mid++[le]),l.text.length≤1500∧l.pos+l.text.length+3*l.folds.length≤N)(hN:N≤100000)(hm:mid.length≤100000)(he:en≤N)(hR:aeV w)(hM:aer w)(hE:UO w)(hIT:∀(ver:Int),ver=3∨ver=4→∀l∈mid,∀(fv:Value) (W:World),G w W→adh W fv (adX l.folds)→Uz 156 #[akI l fv,.int .i64 ver] W (fun r w'=>afB ver l W.heap.size r w')) :
  Uz 107 #[.slice (some ⟨b,0,none⟩) (mid.length+3) cap,.int .i64 (en:Int)] w (fun r w'=>OfR N (ofT ((l0::l1::(mid++[le])).map FLn.text)) w.heap.size r w'):=by
 obtain⟨m,hm2⟩:∃m,m=mid.length:=⟨_,rfl⟩
 rw[←hm2]at hm hcap⊢
 have HM2:=hid hm2
 have cw:∀(W:World) (i:Nat) (u:Value),G w W→w.cell? ⟨b,i,none⟩=some u→W.cell? ⟨b,i,none⟩=some u:=fun W i u g e=>(g.cell hb).trans e
 have h0:=hc 0 l0 rfl
 have h1:=hc 1 l1 rfl
 have hee:=hc (m+2) le (by rw[hm2];simp[List.getElem?_append])
 have HT0:=hid (fun W (g:G w W)=>cw W 0 _ g h0.1)
 have HC0:=hid (fun W (g:G w W)=>cw W 1 _ g h0.2.1)
 have HT1:=hid (fun W (g:G w W)=>cw W 3 _ g h1.1)
 have HC1:=hid (fun W (g:G w W)=>cw W 4 _ g h1.2.1)
 have HTE:=hid (fun W (g:G w W)=>cw W (3*(m+2)) _ g hee.1)
 have HCE:=hid (fun W (g:G w W)=>cw W (3*(m+2)+1) _ g hee.2.1)
 have HCC:=hid hc
 have HSS:=hid hs
 have b0:=hs l0 (by simp)
 have b1:=hs l1 (by simp)
 have be:=hs le (by simp)
 have p0:l0.pos≤N:=by omega
 have p1:l1.pos≤N:=by omega
 have pe:le.pos≤N:=by omega
 have s0:l0.text.length≤1500:=b0.1
 have s1:l1.text.length≤1500:=b1.1
 have se:le.text.length≤1500:=be.1
 have HOF:=hid (ayS l0.text l1.text le.text (mid.map FLn.text))
 rw[show(l0::l1::(mid++[le])).map FLn.text=l0.text::l1.text::(mid.map FLn.text++[le.text]) by simp]
 have SM:=hid (fun (x y:List UInt8) W (h1:x.length≤1500) (h2:y.length≤1500)=>ahN x y W (by omega) (by omega))
 have HRM:=hid hR
 have HMM:=hid hM
 have HIT0:=hid hIT
 have HEM:=hid hE
 have HBL:=hid hb
 clear hc hs hee h0 h1 cw b0 b1 be hm2 hR hM hE hb hIT
 have hcp:(m:Int)+2≤(cap:Int):=by omega
 have hl0:(0:Int)<(m:Int)+3:=by omega
 have hl1:(1:Int)<(m:Int)+3:=by omega
 have hle0:(0:Int)≤(m:Int)+2:=by omega
 have hle1:(m:Int)+2<(m:Int)+3:=by omega
 go_enter Tryz.func107,Tryz.ntmps107
 go_upto_block 0 with fail
 rw[show((m:Int)+3-1)=(m:Int)+2 by omega]
 generalize hw1:(w.alloc _).alloc _=w1
 have HX1:=hid (show w1.heap[w.heap.size]?=some (.cells #[.int .i64 0,.slice none 0 0] 24 (0,0)) by rw[←hw1,Lib.alloc_old _ _ _ (by simp)];exact heap_alloc_new w _)
 have HO1:=hid (show w1.heap[w.heap.size+1]?=some (.cells #[.int .i64 0,.slice none 0 0] 24 (0,0)) by rw[←hw1];exact apK _ _ _)
 have G1:=hid (show G w w1 by rw[←hw1];exact((G.refl w).alloc _).alloc _)
 clear hw1
 go_cut [] from 27 to 63 (fun wx=>∃(ver:Int) (w5:World),w5=wx∧aiB l1.text=some ver∧aeu l0.text ada=true∧w5.heap[w.heap.size+1]?=some (.cells #[.int .i64 ver,.slice none 0 0] 24 (0,0))∧w5.heap[w.heap.size]?=some (.cells #[.int .i64 0,.slice none 0 0] 24 (0,0))∧G w w5)
 case first=>
  have SM0:=hid (fun W=>SM.out l0.text ada W s0 (by decide))
  have SM3:=hid (fun W=>SM.out l1.text apL W s1 (by decide))
  have SM4:=hid (fun W=>SM.out l1.text ajv W s1 (by decide))
  obtain⟨e0,he0⟩:∃e0,aeu l0.text ada=e0:=⟨_,rfl⟩
  obtain⟨e3,he3⟩:∃e3,aeu l1.text apL=e3:=⟨_,rfl⟩
  obtain⟨e4,he4⟩:∃e4,aeu l1.text ajv=e4:=⟨_,rfl⟩
  rw[he0]at SM0
  rw[he3]at SM3
  rw[he4]at SM4
  have HE0:=hid he0
  have HE3:=hid he3
  have HE4:=hid he4
  clear he0 he3 he4
  unfold ada at SM0
  unfold apL at SM3
  unfold ajv at SM4
  have k0:=HT0.out w1 G1.out
  go_wp2_with fail
  refine(SM0.out w1).use ?_
  intro w2 g2
  have G2:=hid (G1.out.trans g2)
  have HX2:=hid (uU HX1.out g2)
  have HO2:=hid (uU HO1.out g2)
  clear g2 k0
  cases e0 with
  |false=>
   have HBAD:=hid (show ofT (l0.text::l1.text::(mid.map FLn.text++[le.text]))=none by rw[HOF.out,if_pos HE0.out])
   go_upto_region 7 with fail
   obtain⟨w5,rfl⟩:∃w5,w5=w2:=⟨_,rfl⟩
   have HX5:=HX2
   have GW5:=G2
   refine wp_region_any (by kernel_rfl) ?_
   refine acJ (E:=#[false,false,false,false,false,false,false,false,false,false]) G 9 (aso b (m+3) cap (l0.pos:Int)) [some [],some [],some [(1,43)],some [(2,44)],some [(3,45)],some [(4,46)],some [(5,47)],some [(6,48)],some [(0,42),(0,42)],none] [(0,42),(1,43),(2,44),(3,45),(4,46),(5,47),(6,48),(7,49)] _ (by kernel_rfl) (by decide) (by kernel_rfl) (by kernel_rfl) rfl G.refl (fun _ _ _=>G.trans) (w0:=w5) ((G.refl w5).drew) ?_ ?_ ?_
   ·intro k v W W' g h
    match k,h with
    |0,h=>exact h
    |1,h=>exact h
    |2,h=>exact h
    |3,h=>exact h
    |4,h=>exact h
    |5,h=>exact h
    |6,h=>exact by obtain⟨ab,h1,h2,h3,h4⟩:=h;exact⟨ab,h1,Nat.lt_of_lt_of_le h2 g.size,by rw[g.cell h2];exact h3,by rw[g.cell h2];exact h4⟩
    |7,h=>exact UE.grow h g
    |8,h=>exact h
    |n+9,h=>trivial
   ·refine lW (fun vals W g d=>?_)<|lW (fun vals W g d=>?_)<|lW (fun vals W g d=>?_)<|lW (fun vals W g d=>?_)<|lW (fun vals W g d=>?_)<|lW (fun vals W g d=>?_)<|lW (fun vals W g d=>?_)<|lW (fun vals W g d=>?_)<|lW (fun vals W g d=>?_)<|UB adJ
    ·refine nX rfl rfl rfl fun K hK=>?_
     simp only[gFr]at hK⊢
     go_simp
     exact hK _ _ (G.refl _) rfl
    ·refine nX rfl rfl rfl fun K hK=>?_
     simp only[gFr]at hK⊢
     go_simp
     exact hK _ _ (G.refl _) rfl
    ·obtain⟨d1,_⟩:=d
     change vals 1=_ at d1
     refine nX rfl rfl rfl fun K hK=>?_
     simp only[gFr,d1]at hK⊢
     go_simp
     exact hK _ _ (G.refl _) rfl
    ·obtain⟨d2,_⟩:=d
     change vals 2=_ at d2
     refine nX rfl rfl rfl fun K hK=>?_
     simp only[gFr,d2]at hK⊢
     go_simp
     exact hK _ _ (G.refl _) rfl
    ·obtain⟨d3,_⟩:=d
     change vals 3=_ at d3
     refine nX rfl rfl rfl fun K hK=>?_
     simp only[gFr,d3]at hK⊢
     have k1:=HC0.out W (GW5.out.trans g)
     go_simp
     exact hK _ _ (G.refl _) rfl
    ·obtain⟨d4,_⟩:=d
     change vals 4=_ at d4
     refine nX rfl rfl rfl fun K hK=>?_
     simp only[gFr,d4]at hK⊢
     go_simp
     exact hK _ _ (G.refl _) rfl
    ·obtain⟨d5,_⟩:=d
     change vals 5=_ at d5
     refine nX rfl rfl rfl fun K hK=>?_
     simp only[gFr,d5]at hK⊢
     go_simp
     exact hK _ _ ((G.refl _).alloc _) ⟨W.heap.size,rfl,by simp,by rw[World.cell?_alloc_new];rfl,by rw[World.cell?_alloc_new];rfl⟩
    ·obtain⟨d6,_⟩:=d
     refine ahX.out ?_
     obtain⟨ab,d6,h2,h3,h4⟩:=d6
     have hia:=(show UE W (.iface 80 (.pointer (some ⟨ab,0,none⟩))) 3 (l0.pos:Int)from⟨ab,rfl,h3,h4,h2⟩)
     refine⟨?_⟩
     refine nX rfl rfl rfl fun K hK=>?_
     simp only[gFr,d6]at hK⊢
     go_simp
     refine hK _ _ (G.refl _) ?_
     unfold aso
     exact hia
    ·obtain⟨d0,_,_⟩:=d
     change vals 0=_ at d0
     refine ahX.out ?_
     have hz:=uU HX5.out g
     obtain⟨z0,z1⟩:=acP hz
     have fz:=fun i=>Lib.frozen_of_heap hz i
     refine⟨?_⟩
     refine afb rfl rfl fun K hK=>?_
     simp only[gFr,d0]at hK⊢
     go_simp
     refine hK _ ?_ trivial
     rw[adR hz]
     exact G.refl _
   ·intro vals W g d
    simp only[acS,ac1]at d
    obtain⟨d0,d1,d2,d3,d4,d5,d6,d7,_⟩:=d
    change vals 0=_ at d0
    change vals 1=_ at d1
    change vals 2=_ at d2
    change vals 3=_ at d3
    change vals 4=_ at d4
    change vals 5=_ at d5
    refine⟨?_⟩
    show wpList _ _ _ [_] _ _
    simp only[gFr,d0,d1,d2,d3,d4,d5]
    clear d0 d1 d2 d3 d4 d5
    have G8:=hid (GW5.out.trans g)
    have HX8:=hid (uU HX5.out g)
    clear g
    go_wp2_with fail
    exact aeZ rfl rfl rfl rfl HX8.out ⟨_,rfl,OfR.no HBAD.out (IsP.at_ d7 p0),G8.out⟩
  |true=>
   have k1:=HT1.out w2 G2.out
   go_wp2_with fail
   refine(SM3.out w2).use ?_
   intro w3 g3
   have G3:=hid (G2.out.trans g3)
   have HX3:=hid (uU HX2.out g3)
   have HO3:=hid (uU HO2.out g3)
   clear g3 k1
   cases e3 with
   |true=>
    obtain⟨c0,c1⟩:=acP HO3.out
    have fz:=fun i=>Lib.frozen_of_heap HO3.out i
    go_wp2_with fail
    go_meet
    exact⟨3,_,rfl,(by unfold aiB;rw[if_pos HE3.out]),HE0.out,axS HO3.out,by rw[Below.heap_setCell _ _ _ _ (by simp)];exact HX3.out,aeb G3.out (by omega)⟩
   |false=>
    have k1:=HT1.out w3 G3.out
    go_wp2_with fail
    refine(SM4.out w3).use ?_
    intro w4 g4
    have G4:=hid (G3.out.trans g4)
    have HX4:=hid (uU HX3.out g4)
    have HO4:=hid (uU HO3.out g4)
    clear g4 k1
    cases e4 with
    |true=>
     obtain⟨c0,c1⟩:=acP HO4.out
     have fz:=fun i=>Lib.frozen_of_heap HO4.out i
     go_wp2_with fail
     go_meet
     exact⟨4,_,rfl,(by unfold aiB;rw[if_neg (by rw[HE3.out];decide),if_pos HE4.out]),HE0.out,axS HO4.out,by rw[Below.heap_setCell _ _ _ _ (by simp)];exact HX4.out,aeb G4.out (by omega)⟩
    |false=>
     have HBAD:=hid (show ofT (l0.text::l1.text::(mid.map FLn.text++[le.text]))=none by
      rw[HOF.out,if_neg (by rw[HE0.out];decide)]
      have:aiB l1.text=none:=by unfold aiB;rw[if_neg (by rw[HE3.out];decide),if_neg (by rw[HE4.out];decide)]
      rw[this])
     go_upto_region 5 with fail
     obtain⟨w5,rfl⟩:∃w5,w5=w4:=⟨_,rfl⟩
     have HX5:=HX4
     have GW5:=G4
     refine wp_region_any (by kernel_rfl) ?_
     refine acJ (E:=#[false,false,false,false,false,false,false,false,false,false]) G 9 (asq b (m+3) cap (l1.pos:Int)) [some [],some [],some [(1,28)],some [(2,29)],some [(3,30)],some [(4,31)],some [(5,32)],some [(6,33)],some [(0,27),(0,27)],none] [(0,27),(1,28),(2,29),(3,30),(4,31),(5,32),(6,33),(7,34)] _ (by kernel_rfl) (by decide) (by kernel_rfl) (by kernel_rfl) rfl G.refl (fun _ _ _=>G.trans) (w0:=w5) ((G.refl w5).drew) ?_ ?_ ?_
     ·intro k v W W' g h
      match k,h with
      |0,h=>exact h
      |1,h=>exact h
      |2,h=>exact h
      |3,h=>exact h
      |4,h=>exact h
      |5,h=>exact h
      |6,h=>exact by obtain⟨ab,h1,h2,h3,h4⟩:=h;exact⟨ab,h1,Nat.lt_of_lt_of_le h2 g.size,by rw[g.cell h2];exact h3,by rw[g.cell h2];exact h4⟩
      |7,h=>exact UE.grow h g
      |8,h=>exact h
      |n+9,h=>trivial
     ·refine lW (fun vals W g d=>?_)<|lW (fun vals W g d=>?_)<|lW (fun vals W g d=>?_)<|lW (fun vals W g d=>?_)<|lW (fun vals W g d=>?_)<|lW (fun vals W g d=>?_)<|lW (fun vals W g d=>?_)<|lW (fun vals W g d=>?_)<|lW (fun vals W g d=>?_)<|UB adJ
      ·refine nX rfl rfl rfl fun K hK=>?_
       simp only[gFr]at hK⊢
       go_simp
       exact hK _ _ (G.refl _) rfl
      ·refine nX rfl rfl rfl fun K hK=>?_
       simp only[gFr]at hK⊢
       go_simp
       exact hK _ _ (G.refl _) rfl
      ·obtain⟨d1,_⟩:=d
       change vals 1=_ at d1
       refine nX rfl rfl rfl fun K hK=>?_
       simp only[gFr,d1]at hK⊢
       go_simp
       exact hK _ _ (G.refl _) rfl
      ·obtain⟨d2,_⟩:=d
       change vals 2=_ at d2
       refine nX rfl rfl rfl fun K hK=>?_
       simp only[gFr,d2]at hK⊢
       go_simp
       exact hK _ _ (G.refl _) rfl
      ·obtain⟨d3,_⟩:=d
       change vals 3=_ at d3
       refine nX rfl rfl rfl fun K hK=>?_
       simp only[gFr,d3]at hK⊢
       have k1:=HC1.out W (GW5.out.trans g)
       go_simp
       exact hK _ _ (G.refl _) rfl
      ·obtain⟨d4,_⟩:=d
       change vals 4=_ at d4
       refine nX rfl rfl rfl fun K hK=>?_
       simp only[gFr,d4]at hK⊢
       go_simp
       exact hK _ _ (G.refl _) rfl
      ·obtain⟨d5,_⟩:=d
       change vals 5=_ at d5
       refine nX rfl rfl rfl fun K hK=>?_
       simp only[gFr,d5]at hK⊢
       go_simp
       exact hK _ _ ((G.refl _).alloc _) ⟨W.heap.size,rfl,by simp,by rw[World.cell?_alloc_new];rfl,by rw[World.cell?_alloc_new];rfl⟩
      ·obtain⟨d6,_⟩:=d
       refine ahX.out ?_
       obtain⟨ab,d6,h2,h3,h4⟩:=d6
       have hia:=(show UE W (.iface 80 (.pointer (some ⟨ab,0,none⟩))) 3 (l1.pos:Int)from⟨ab,rfl,h3,h4,h2⟩)
       refine⟨?_⟩
       refine nX rfl rfl rfl fun K hK=>?_
       simp only[gFr,d6]at hK⊢
       go_simp
       refine hK _ _ (G.refl _) ?_
       unfold asq
       exact hia
      ·obtain⟨d0,_,_⟩:=d
       change vals 0=_ at d0
       refine ahX.out ?_
       have hz:=uU HX5.out g
       obtain⟨z0,z1⟩:=acP hz
       have fz:=fun i=>Lib.frozen_of_heap hz i
       refine⟨?_⟩
       refine afb rfl rfl fun K hK=>?_
       simp only[gFr,d0]at hK⊢
       go_simp
       refine hK _ ?_ trivial
       rw[adR hz]
       exact G.refl _
     ·intro vals W g d
      simp only[acS,ac1]at d
      obtain⟨d0,d1,d2,d3,d4,d5,d6,d7,_⟩:=d
      change vals 0=_ at d0
      change vals 1=_ at d1
      change vals 2=_ at d2
      change vals 3=_ at d3
      change vals 4=_ at d4
      change vals 5=_ at d5
      refine⟨?_⟩
      show wpList _ _ _ [_] _ _
      simp only[gFr,d0,d1,d2,d3,d4,d5]
      clear d0 d1 d2 d3 d4 d5
      have G8:=hid (GW5.out.trans g)
      have HX8:=hid (uU HX5.out g)
      clear g
      go_wp2_with fail
      exact aeZ rfl rfl rfl rfl HX8.out ⟨_,rfl,OfR.no HBAD.out (IsP.at_ d7 p1),G8.out⟩
 case rest=>
  obtain⟨ver,w5,rfl,hver,hbeg,ho5,hx5,g5⟩:=hcut
  have HV:=hid hver
  have HBG:=hid hbeg
  have HO5:=hid ho5
  have HX5:=hid hx5
  have GW5:=hid g5
  clear hver hbeg ho5 hx5 g5 HX1 HO1 G1
  have SME0:=hid (fun W=>SM.out le.text aju W se (by decide))
  unfold aju at SME0
  clear SM
  go_upto_region 13 with fail
  have hv:=awq HV.out
  have IT:=hid (HIT0.out ver hv)
  have HVV:=hid hv
  have hsz5:w.heap.size+2≤w5.heap.size:=UI HO5.out
  obtain⟨i0,hi,hz0,hz1,hz2⟩:=info_parts amk
  clear hv
  rw[show m+2-2=m by omega]
  go_loopw [68] (fun i wr=>∃(k:Nat) (ys:List It) (ds:List Value) (ov:Value),k≤m∧i=.int .i64 k∧adI ver ((mid.map FLn.text).take k)=some ys∧OfS ver w w5 wr (w.heap.size+1) ov ys ds∧w5.grownBy wr (some (w.heap.size+1))) (fun i _=>m-(intOf i).toNat)
  case atStart=>exact⟨0,[],[],.slice none 0 0,Nat.zero_le _,rfl,rfl,⟨HO5.out,World.ownsRow_nil _ _ _ _,fun L _=>rfl,GW5.out⟩,aev _ _⟩
  case round=>
   obtain⟨k,ys,ds,ov,hk,rfl,hys,hst,hmv⟩:=hrel
   have hyl:ys.length=k:=by
    have:=alT hys
    have h2:=HM2.out
    simp at this;omega
   have HYL:=hid hyl
   clear hyl
   have HYS:=hid hys
   have HST:=hid hst
   have HMV:=hid hmv
   obtain⟨oa,oc,rfl⟩:=awg hst.own
   have hbl:=axq hst.own
   have hwx:=UI HX5.out
   have HXR:=hid (show wr.heap[w.heap.size]?=some (.cells #[.int .i64 0,.slice none 0 0] 24 (0,0))from(hmv.block _ hwx (fun e=>by have:=Option.some.inj e;omega)).trans HX5.out)
   have HOR:=hid hst.box
   have GR:=hid hst.g
   have hm3:=hmv.size
   have HBK:=hid hbl
   clear hys hst hmv hbl hwx
   by_cases hlt:k<m
   ·have hlm:k<mid.length:=by have:=HM2.out;omega
    obtain⟨l,hl⟩:∃l,l=mid[k]:=⟨_,rfl⟩
    have hl2:(l0::l1::(mid++[le]))[2+k]?=some l:=by
     rw[Nat.add_comm 2 k]
     simp[List.getElem?_append,hlm,hl]
    obtain⟨c0,c1,fv,c2,hfv⟩:=HCC.out (2+k) l hl2
    obtain⟨hlt1,hlp⟩:=HSS.out l (List.mem_of_getElem? hl2)
    have ec:∀j:Nat,wr.cell? ⟨b,6+k*3+j,none⟩=w.cell? ⟨b,3*(2+k)+j,none⟩:=fun j=>by
     rw[GR.out.cell HBL.out,show 6+k*3+j=3*(2+k)+j by omega]
    have d0:wr.cell? ⟨b,6+k*3,none⟩=some (.string (S l.text)):=(ec 0).trans c0
    have d1:wr.cell? ⟨b,6+k*3+1,none⟩=some (.int .i64 (l.pos:Int)):=(ec 1).trans c1
    have d2:wr.cell? ⟨b,6+k*3+2,none⟩=some fv:=(ec 2).trans c2
    obtain⟨fa,fc,rfl⟩:∃fa fc,fv=.slice fa l.folds.length fc:=by
     obtain⟨a,cp,e⟩:=hfv.len
     exact⟨a,cp,by rw[e];simp[adX]⟩
    have HTX:=hid (show(mid.map FLn.text)[k]?=some l.text by rw[List.getElem?_map,List.getElem?_eq_getElem hlm,←hl];rfl)
    have hkl:(k:Int)<(m:Int):=by omega
    have A1:=hid ((G.refl wr).alloc (.cells #[.string (S l.text),.int .i64 (l.pos:Int),.slice fa l.folds.length fc] 205))
    have IT1:=hid (IT.out l (by rw[hl];exact List.getElem_mem hlm) (.slice fa l.folds.length fc) (wr.alloc (.cells #[.string (S l.text),.int .i64 (l.pos:Int),.slice fa l.folds.length fc] 205)) (GR.out.trans A1.out) (hfv.grow (GR.out.trans A1.out)))
    obtain⟨o0,o1⟩:=acP (uU HOR.out A1.out)
    clear hl hl2 c0 c1 c2 hfv ec hlm
    go_wp2_with fail
    refine IT1.out.use ?_
    intro r w4 hr g4
    have G4:=hid (A1.out.trans g4)
    clear g4 d0 d1 d2 o0 o1 IT1
    cases hip:adG ver l.text with
    |none=>
     unfold afB at hr
     rw[hip]at hr
     obtain⟨e,rfl,he⟩:=hr
     have HPE:=hid (IsP.mono he hlp)
     have HBAD:=hid (show ofT (l0.text::l1.text::(mid.map FLn.text++[le.text]))=none by
      have hne:adI ver (mid.map FLn.text)=none:=by
       obtain⟨hkm,hkt⟩:=List.getElem?_eq_some_iff.1 HTX.out
       rw[←List.take_append_drop k (mid.map FLn.text),List.drop_eq_getElem_cons hkm,hkt]
       exact akK hip
      rw[HOF.out,if_neg (by rw[HBG.out];decide),HV.out]
      simp only
      rw[hne])
     obtain⟨t,u,rfl⟩:=he.iface
     have GZ:=hid ((G.refl w4).alloc (.cells #[.string (S []),.string (S []),.slice none 0 0,.int .i64 0,.string (S []),.slice none 0 0,.int .i64 0,.int .i64 0,.int .i64 0,.int .i64 0,.int .i64 0,.int .i64 0,.bool false,.int .i64 0,.int .i64 0] 38))
     have HXZ:=hid (uU HXR.out (G4.out.trans GZ.out))
     have HPZ:=hid (HPE.out.grow GZ.out)
     have GFZ:=hid (GR.out.trans (G4.out.trans GZ.out))
     obtain⟨x0,x1⟩:=acP HXZ.out
     have fx:=fun i=>Lib.frozen_of_heap HXZ.out i
     have EZ:=hid (adR HXZ.out)
     clear he hip hlp
     unfold It0 Vl0 St0
     go_wp2_with fail
     rw[EZ.out]
     exact aeZ rfl rfl rfl rfl HXZ.out ⟨_,rfl,OfR.no HBAD.out HPZ.out,GFZ.out⟩
    |some y=>
     unfold afB at hr
     rw[hip]at hr
     obtain⟨pv,lv,b1,b2,rfl,hb1,hb2,hop,hol⟩:=hr
     obtain⟨pa4,pc4,rfl⟩:=hop.len
     obtain⟨la4,lc4,rfl⟩:=hol.len
     have HYO:=hid (fun (L:List Nat) (hL:∀X∈L,X<wr.heap.size)=>awr (L:=L) hip hb1 hb2 hop hol (fun X hX=>by have:=hL X hX;have:=A1.out.size;omega))
     have HITP:=hid hip
     have GY:=hid (G4.out.alloc (.cells (y.cells (.slice pa4 y.ps.length pc4) (.slice la4 y.v.ps.length lc4)).toArray 38))
     have hoz:=uU HOR.out GY.out
     obtain⟨o0,o1⟩:=acP hoz
     obtain⟨n,hn⟩:∃n,n=ys.length:=⟨_,rfl⟩
     have hn1:n≤100000:=by have:=HYL.out;omega
     have HSTO:=HST.out.own
     have HSTB:=HST.out.box
     have HSTR:=HST.out.row
     rw[←hn]at HSTO HSTB HSTR o1 HBK
     have SO:=hid HSTO
     have SR:=hid HSTR
     have SB:=hid HSTB
     have HN:=hid hn
     have hbs:w5.heap.size≤w4.heap.size:=Nat.le_trans hm3 G4.out.size
     clear hoz hn HSTO HSTB HSTR hb1 hb2 hop hol hip
     simp only[It.cells]at o0 o1
     go_wp2_with (at_builtin;refine wpList_append_lies _ rfl _ _ 22 rfl w5.heap.size 38 i0 _ 15 176 Tryz.underlying22 hi hz0 hz1 hz2 rfl (by decide) _ _ _ rfl (aeP.grow SO.out (GY.out.alloc _)) ⟨w4.heap.size+1,0,none⟩ 1 1 (y.cells (.slice pa4 y.ps.length pc4) (.slice la4 y.v.ps.length lc4)) rfl rfl (fun j u hu=>by rw[ajI,Nat.zero_add,cell_of_row _ _ j _ _ _ (apK w4 _ _)];simpa[It.cells]using hu) (HYO.out [] (by simp)).one (by omega) (by unfold maxLen;omega) (by omega) (by simp;omega) _ rfl ?_;intro g cap1 w7 hown' hgrow hg hglt;have hoz7:=(hgrow.block (w.heap.size+1) (UI (uU SB.out (GY.out.alloc _))) (fun e=>by have:=(SO.out.lt _ e.symm).1;omega)).trans (uU SB.out (GY.out.alloc _));have o17:=(acP hoz7).2;have f17:=Lib.frozen_of_heap hoz7 1)
     have W6G:=hid (GY.out.alloc (.cells (y.cells (.slice pa4 y.ps.length pc4) (.slice la4 y.v.ps.length lc4)).toArray 38))
     have g46:G w4 ((w4.alloc (.cells (y.cells (.slice pa4 y.ps.length pc4) (.slice la4 y.v.ps.length lc4)).toArray 38)).alloc (.cells (y.cells (.slice pa4 y.ps.length pc4) (.slice la4 y.v.ps.length lc4)).toArray 38)):=((G.refl w4).alloc _).alloc _
     have hrow7:∀L:List Nat,(∀X∈L,X<w5.heap.size)→acK (Wl (g::L) w7) (ys++[y]) (ds++y.cells (.slice pa4 y.ps.length pc4) (.slice la4 y.v.ps.length lc4)):=fun L hL=>by
      have hsub:=Wl.mono (L:=L) (Sub.app (C:=(Value.slice oa n oc).ownBlock) hgrow (g:=g) (by rcases hg with h|h;(· exact .inl h);exact .inr (by rw[h];exact Nat.le_refl _)))
      rw[←ays,←Wl.app]at hsub
      refine acK.append (((SR.out L hL).grow (Wl.g W6G.out)).sub hsub) (acK.single (((HYO.out (aqD (.slice oa n oc)++L) (fun X hX=>?_)).grow (Wl.g g46)).sub hsub))
      rcases List.mem_append.1 hX with h|h
      ·exact(HBK.out X h).1
      ·have:=hL X h;omega
     have hmv8:w5.grownBy (w7.setCell ⟨w.heap.size+1,1,none⟩ (.slice (some ⟨g,0,none⟩) (n+1) cap1)) (some (w.heap.size+1)):=ad9 (aum (axi HMV.out W6G.out) hgrow (fun j hj=>.inr (SO.out.lt j hj).1))
     have hg8:G w (w7.setCell ⟨w.heap.size+1,1,none⟩ (.slice (some ⟨g,0,none⟩) (n+1) cap1)):=aeb (Below.grown (GR.out.trans W6G.out) hgrow (GR.out.trans W6G.out).size (fun j hj=>by have:=(SO.out.lt j hj).1;omega)) (by omega)
     have hown8:=hown'.kept (afi w7 (w.heap.size+1) 1 (.slice (some ⟨g,0,none⟩) (n+1) cap1)) (af2 hown' (by omega))
     have hups:OfS ver w w5 (w7.setCell ⟨w.heap.size+1,1,none⟩ (.slice (some ⟨g,0,none⟩) (n+1) cap1)) (w.heap.size+1) (.slice (some ⟨g,0,none⟩) (n+1) cap1) (ys++[y]) (ds++y.cells (.slice pa4 y.ps.length pc4) (.slice la4 y.v.ps.length lc4)):=by
      refine⟨ay5 hoz7,?_,fun L hL=>?_,hg8⟩
      ·rw[List.length_append,←HN.out];exact hown8
      ·have h:=hrow7 ((w.heap.size+1)::L) (fun X hX=>by rcases List.mem_cons.1 hX with rfl|h;(· omega);exact hL X h)
       show acK (Wl L (Wo g _)) _ _
       refine acK.sub (Wl.tail (w.heap.size+1) L (Wo g _)) ?_
       show acK (Wl (g::(w.heap.size+1)::L) _) _ _
       rw[Wl.setm (by simp)]
       exact h
     have HUPS:=hid hups
     have HM8:=hid hmv8
     have HYS2:=hid (show adI ver ((mid.map FLn.text).take (k+1))=some (ys++[y]) by
      rw[List.take_add_one,HTX.out]
      have:=akJ (t:=l.text) HYS.out
      rw[HITP.out]at this
      exact this)
     clear hown' hgrow hg hglt hrow7 hmv8 hg8 hown8 hups g46
     go_wp2_with fail
     go_roundw
     case measure=>simp[intOf];omega
     case rel=>exact⟨k+1,_,_,_,by omega,by go_num,HYS2.out,HUPS.out,HM8.out⟩
   ·obtain rfl:k=m:=by omega
    have HALL:=hid (show adI ver (mid.map FLn.text)=some ys by have:=HYS.out;rwa [List.take_of_length_le (by have:=HM2.out;simp;omega)]at this)
    have ke:=HTE.out wr GR.out
    rw[show 3*(k+2)=(k+2)*3 by omega]at ke
    have ke2:wr.cell? ⟨b,((k:Int)+2).toNat*3,none⟩=some (.string (S le.text)):=by rw[show((k:Int)+2).toNat=k+2 by omega];exact ke
    have SME:=hid (fun W=>SME0.out W)
    obtain⟨ee,hee⟩:∃ee,aeu le.text [69,78,68,58,86,67,65,82,68]=ee:=⟨_,rfl⟩
    rw[hee]at SME
    have HEE:=hid (show aeu le.text aju=ee from hee)
    clear hee
    go_wp2_with fail
    refine(SME.out wr).use ?_
    intro w6 g6
    have G6:=hid (GR.out.trans g6)
    have HX6:=hid (uU HXR.out g6)
    have HO6:=hid (uU HOR.out g6)
    have GS6:=hid g6
    clear g6 ke ke2
    cases ee with
    |false=>
     have HBAD:=hid (show ofT (l0.text::l1.text::(mid.map FLn.text++[le.text]))=none by
      rw[HOF.out,if_neg (by rw[HBG.out];decide),HV.out]
      simp only
      rw[HALL.out]
      simp only
      rw[if_pos HEE.out])
     go_upto_region 21 with fail
     obtain⟨w5,rfl⟩:∃w5,w5=w6:=⟨_,rfl⟩
     have HX5:=HX6
     have GW5:=G6
     refine wp_region_any (by kernel_rfl) ?_
     refine acJ (E:=#[false,false,false,false,false,false,false,false,false,false,false]) G 10 (apB b (k+3) cap (k+2) ((k:Int)+2) (le.pos:Int)) [some [],some [],some [],some [(1,98),(2,99)],some [(3,100)],some [(4,101)],some [(5,102)],some [(6,103)],some [(7,104)],some [(0,97),(0,97)],none] [(0,97),(1,98),(2,99),(3,100),(4,101),(5,102),(6,103),(7,104),(8,105)] _ (by kernel_rfl) (by decide) (by kernel_rfl) (by kernel_rfl) rfl G.refl (fun _ _ _=>G.trans) (w0:=w5) ((G.refl w5).drew) ?_ ?_ ?_
     ·intro k v W W' g h
      match k,h with
      |0,h=>exact h
      |1,h=>exact h
      |2,h=>exact h
      |3,h=>exact h
      |4,h=>exact h
      |5,h=>exact h
      |6,h=>exact h
      |7,h=>exact by obtain⟨ab,h1,h2,h3,h4⟩:=h;exact⟨ab,h1,Nat.lt_of_lt_of_le h2 g.size,by rw[g.cell h2];exact h3,by rw[g.cell h2];exact h4⟩
      |8,h=>exact UE.grow h g
      |9,h=>exact h
      |n+10,h=>trivial
     ·refine lW (fun vals W g d=>?_)<|lW (fun vals W g d=>?_)<|lW (fun vals W g d=>?_)<|lW (fun vals W g d=>?_)<|lW (fun vals W g d=>?_)<|lW (fun vals W g d=>?_)<|lW (fun vals W g d=>?_)<|lW (fun vals W g d=>?_)<|lW (fun vals W g d=>?_)<|lW (fun vals W g d=>?_)<|UB adJ
      ·refine nX rfl rfl rfl fun K hK=>?_
       simp only[gFr]at hK⊢
       go_simp
       exact hK _ _ (G.refl _) rfl
      ·refine nX rfl rfl rfl fun K hK=>?_
       simp only[gFr]at hK⊢
       go_simp
       exact hK _ _ (G.refl _) rfl
      ·refine nX rfl rfl rfl fun K hK=>?_
       simp only[gFr]at hK⊢
       go_simp
       exact hK _ _ (G.refl _) rfl
      ·obtain⟨d1,d2,_⟩:=d
       change vals 1=_ at d1
       change vals 2=_ at d2
       refine nX rfl rfl rfl fun K hK=>?_
       simp only[gFr,d1,d2]at hK⊢
       go_simp
       refine hK _ _ (G.refl _) ?_
       show Value.pointer (some ⟨b,((k:Int)+2).toNat*3,none⟩)=Value.pointer (some ⟨b,3*(k+2),none⟩)
       rw[show((k:Int)+2).toNat*3=3*(k+2) by omega]
      ·obtain⟨d3,_⟩:=d
       change vals 3=_ at d3
       refine nX rfl rfl rfl fun K hK=>?_
       simp only[gFr,d3]at hK⊢
       go_simp
       exact hK _ _ (G.refl _) rfl
      ·obtain⟨d4,_⟩:=d
       change vals 4=_ at d4
       refine nX rfl rfl rfl fun K hK=>?_
       simp only[gFr,d4]at hK⊢
       have k1:=HCE.out W (GW5.out.trans g)
       go_simp
       exact hK _ _ (G.refl _) rfl
      ·obtain⟨d5,_⟩:=d
       change vals 5=_ at d5
       refine nX rfl rfl rfl fun K hK=>?_
       simp only[gFr,d5]at hK⊢
       go_simp
       exact hK _ _ (G.refl _) rfl
      ·obtain⟨d6,_⟩:=d
       change vals 6=_ at d6
       refine nX rfl rfl rfl fun K hK=>?_
       simp only[gFr,d6]at hK⊢
       go_simp
       exact hK _ _ ((G.refl _).alloc _) ⟨W.heap.size,rfl,by simp,by rw[World.cell?_alloc_new];rfl,by rw[World.cell?_alloc_new];rfl⟩
      ·obtain⟨d7,_⟩:=d
       refine ahX.out ?_
       obtain⟨ab,d7,h2,h3,h4⟩:=d7
       have hia:=(show UE W (.iface 80 (.pointer (some ⟨ab,0,none⟩))) 3 (le.pos:Int)from⟨ab,rfl,h3,h4,h2⟩)
       refine⟨?_⟩
       refine nX rfl rfl rfl fun K hK=>?_
       simp only[gFr,d7]at hK⊢
       go_simp
       refine hK _ _ (G.refl _) ?_
       unfold apB
       exact hia
      ·obtain⟨d0,_,_⟩:=d
       change vals 0=_ at d0
       refine ahX.out ?_
       have hz:=uU HX5.out g
       obtain⟨z0,z1⟩:=acP hz
       have fz:=fun i=>Lib.frozen_of_heap hz i
       refine⟨?_⟩
       refine afb rfl rfl fun K hK=>?_
       simp only[gFr,d0]at hK⊢
       go_simp
       refine hK _ ?_ trivial
       rw[adR hz]
       exact G.refl _
     ·intro vals W g d
      simp only[acS,ac1]at d
      obtain⟨d0,d1,d2,d3,d4,d5,d6,d7,d8,_⟩:=d
      change vals 0=_ at d0
      change vals 1=_ at d1
      change vals 2=_ at d2
      change vals 3=_ at d3
      change vals 4=_ at d4
      change vals 5=_ at d5
      change vals 6=_ at d6
      refine⟨?_⟩
      show wpList _ _ _ [_] _ _
      simp only[gFr,d0,d1,d2,d3,d4,d5,d6]
      clear d0 d1 d2 d3 d4 d5 d6
      have G8:=hid (GW5.out.trans g)
      have HX8:=hid (uU HX5.out g)
      clear g
      go_wp2_with fail
      exact aeZ rfl rfl rfl rfl HX8.out ⟨_,rfl,OfR.no HBAD.out (IsP.at_ d8 pe),G8.out⟩
    |true=>
     have HIT:=hid (show UA w6 (.slice oa ys.length oc) ys from by
      have hr:acK (Wl (aqD (.slice oa ys.length oc)++[]) wr) ys ds:=HST.out.row [] (by simp)
      have hr2:acK wr ys ds:=acK.sub (Wl.sub _ _) hr
      exact((aeP.lies HST.out.own hr2.one).items hr2).grow GS6.out)
     have hys1:ys.length≤1000000:=by have:=HYL.out;omega
     have hsm:=(an1 HALL.out (fun t ht=>by obtain⟨l,hl,rfl⟩:=List.mem_map.1 ht;exact(HSS.out l (by simp[hl])).1)).1
     have RT:=hid (aiA ver _ ys w6 HIT.out hys1 hsm (HRM.out.grow G6.out) (HMM.out.grow G6.out) (HEM.out.grow G6.out))
     unfold acH at RT
     obtain⟨o0,o1⟩:=acP HO6.out
     clear hsm hys1
     go_wp2_with fail
     refine RT.out.use ?_
     intro r w7 hr g7
     have HX7:=hid (uU HX6.out g7)
     have HO7:=hid (uU HO6.out g7)
     have G7:=hid (G6.out.trans g7)
     have GS7:=hid (GS6.out.trans g7)
     clear g7 o0 o1 RT
     have EZ:=hid (adR HX7.out)
     obtain⟨o0,o1⟩:=acP HO7.out
     obtain⟨x0,x1⟩:=acP HX7.out
     have fx:=fun i=>Lib.frozen_of_heap HX7.out i
     rcases hr with⟨hyes,rfl⟩|⟨hno,c,kk,he,hc,hfb,hba⟩
     ·have HGOOD:=hid (show ofT (l0.text::l1.text::(mid.map FLn.text++[le.text]))=some (ver,ys) by
       rw[HOF.out,if_neg (by rw[HBG.out];decide),HV.out]
       simp only
       rw[HALL.out]
       simp only
       rw[if_neg (by rw[HEE.out];decide),if_pos hyes])
      clear hyes
      go_wp2_with fail
      refine aeZ rfl rfl rfl rfl (ax1 HX7.out) ⟨_,rfl,OfR.yes (ds:=ds) HGOOD.out ?_ ?_,aeb (aeb G7.out (Nat.le_refl _)) (Nat.le_refl _)⟩
      ·exact(afV (aj3 (aj3 (aeP.grow HST.out.own GS7.out) (by omega)) (by omega)) (by omega))
      ·intro L hL
       have h:=(HST.out.row (w.heap.size::L) (fun X hX=>by rcases List.mem_cons.1 hX with rfl|h;(· omega);have:=hL X h;omega)).grow (Wl.g GS7.out)
       have h2:acK (Wl (aqD (.slice oa ys.length oc)++w.heap.size::L) ((w7.setCell ⟨w.heap.size,0,none⟩ (.int .i64 ver)).setCell ⟨w.heap.size,1,none⟩ (.slice oa ys.length oc))) ys ds:=by
        rw[Wl.setm (by simp),Wl.setm (by simp)];exact h
       exact acK.sub (asP (fun X hX=>List.mem_append_right _ (List.mem_cons_of_mem _ hX))) h2
     ·have HBAD:=hid (show ofT (l0.text::l1.text::(mid.map FLn.text++[le.text]))=none by
       rw[HOF.out,if_neg (by rw[HBG.out];decide),HV.out]
       simp only
       rw[HALL.out]
       simp only
       rw[if_neg (by rw[HEE.out];decide),if_neg (by rw[hno];decide)])
      clear hno hc hfb
      cases kk with
      |none=>
       have he:r=eno c:=he
       subst he
       go_wp2_with fail
       rw[EZ.out]
       exact aeZ rfl rfl rfl rfl HX7.out ⟨_,rfl,OfR.no HBAD.out ⟨c,.inl rfl⟩,G7.out⟩
      |some j=>
       have he:UE w7 r c (j:Int):=he
       obtain⟨ab,rfl,_⟩:=id he
       have HAT:=hid he
       have hj:j<ys.length:=hba.1 j rfl
       have hjk:j<mid.length:=by have:=HYL.out;have:=HM2.out;omega
       obtain⟨lk,hlk⟩:∃lk,lk=mid[j]:=⟨_,rfl⟩
       have hlk2:(l0::l1::(mid++[le]))[2+j]?=some lk:=by
        rw[Nat.add_comm 2 j]
        simp[List.getElem?_append,hjk,hlk]
       have HCK:=hid (fun W (g:G w W)=>(g.cell HBL.out).trans (HCC.out (2+j) lk hlk2).2.1)
       have pk:lk.pos≤N:=by have:=(HSS.out lk (List.mem_of_getElem? hlk2)).2;omega
       have hj1:(2:Int)+(j:Int)<(k:Int)+3:=by have:=HYL.out;omega
       have hj2:(0:Int)≤2+(j:Int):=by omega
       clear he hba hlk2 hlk hj hjk
       go_upto_region 26 with fail
       obtain⟨w5,rfl⟩:∃w5,w5=w7:=⟨_,rfl⟩
       have HX5:=HX7
       have GW5:=G7
       refine wp_region_any (by kernel_rfl) ?_
       refine acJ (E:=#[false,false,false,false,false,false,false,false,false,false,false,false,false,false,false,false,false,false,false]) G 18 (apC b (k+3) cap ab j c (lk.pos:Int)) [some [],some [],some [(1,117)],some [(2,118)],some [(3,119)],some [],some [],some [(6,122)],some [(7,123)],some [(8,124)],some [(9,125)],some [(5,121),(10,126)],some [(11,127)],some [(12,128)],some [(4,120),(13,129)],some [(14,130)],some [(15,131)],some [(0,116),(0,116)],none] [(0,116),(1,117),(2,118),(3,119),(4,120),(5,121),(6,122),(7,123),(8,124),(9,125),(10,126),(11,127),(12,128),(13,129),(14,130),(15,131),(16,132)] _ (by kernel_rfl) (by decide) (by kernel_rfl) (by kernel_rfl) rfl G.refl (fun _ _ _=>G.trans) (w0:=w5) ((G.refl w5).drew) ?_ ?_ ?_
       ·intro k v W W' g h
        match k,h with
        |0,h=>exact h
        |1,h=>exact h
        |2,h=>exact h
        |3,h=>exact h
        |4,h=>exact h
        |5,h=>exact h
        |6,h=>exact h
        |7,h=>exact h
        |8,h=>exact h
        |9,h=>exact h
        |10,h=>exact h
        |11,h=>exact h
        |12,h=>exact h
        |13,h=>exact h
        |14,h=>exact h
        |15,h=>exact by obtain⟨ab,h1,h2,h3,h4⟩:=h;exact⟨ab,h1,Nat.lt_of_lt_of_le h2 g.size,by rw[g.cell h2];exact h3,by rw[g.cell h2];exact h4⟩
        |16,h=>exact UE.grow h g
        |17,h=>exact h
        |n+18,h=>trivial
       ·refine lW (fun vals W g d=>?_)<|lW (fun vals W g d=>?_)<|lW (fun vals W g d=>?_)<|lW (fun vals W g d=>?_)<|lW (fun vals W g d=>?_)<|lW (fun vals W g d=>?_)<|lW (fun vals W g d=>?_)<|lW (fun vals W g d=>?_)<|lW (fun vals W g d=>?_)<|lW (fun vals W g d=>?_)<|lW (fun vals W g d=>?_)<|lW (fun vals W g d=>?_)<|lW (fun vals W g d=>?_)<|lW (fun vals W g d=>?_)<|lW (fun vals W g d=>?_)<|lW (fun vals W g d=>?_)<|lW (fun vals W g d=>?_)<|lW (fun vals W g d=>?_)<|UB adJ
        ·refine nX rfl rfl rfl fun K hK=>?_
         simp only[gFr]at hK⊢
         go_simp
         exact hK _ _ (G.refl _) rfl
        ·refine nX rfl rfl rfl fun K hK=>?_
         simp only[gFr]at hK⊢
         go_simp
         exact hK _ _ (G.refl _) rfl
        ·obtain⟨d1,_⟩:=d
         change vals 1=_ at d1
         refine nX rfl rfl rfl fun K hK=>?_
         simp only[gFr,d1]at hK⊢
         go_simp
         exact hK _ _ (G.refl _) rfl
        ·obtain⟨d2,_⟩:=d
         change vals 2=_ at d2
         refine nX rfl rfl rfl fun K hK=>?_
         simp only[gFr,d2]at hK⊢
         go_simp
         exact hK _ _ (G.refl _) rfl
        ·obtain⟨d3,_⟩:=d
         change vals 3=_ at d3
         refine nX rfl rfl rfl fun K hK=>?_
         simp only[gFr,d3]at hK⊢
         obtain⟨a0,a1⟩:=atc (HAT.out.grow g)
         go_simp
         exact hK _ _ (G.refl _) rfl
        ·refine nX rfl rfl rfl fun K hK=>?_
         simp only[gFr]at hK⊢
         go_simp
         exact hK _ _ (G.refl _) rfl
        ·refine nX rfl rfl rfl fun K hK=>?_
         simp only[gFr]at hK⊢
         go_simp
         exact hK _ _ (G.refl _) rfl
        ·obtain⟨d6,_⟩:=d
         change vals 6=_ at d6
         refine nX rfl rfl rfl fun K hK=>?_
         simp only[gFr,d6]at hK⊢
         go_simp
         exact hK _ _ (G.refl _) rfl
        ·obtain⟨d7,_⟩:=d
         change vals 7=_ at d7
         refine nX rfl rfl rfl fun K hK=>?_
         simp only[gFr,d7]at hK⊢
         go_simp
         exact hK _ _ (G.refl _) rfl
        ·obtain⟨d8,_⟩:=d
         change vals 8=_ at d8
         refine nX rfl rfl rfl fun K hK=>?_
         simp only[gFr,d8]at hK⊢
         obtain⟨a0,a1⟩:=atc (HAT.out.grow g)
         go_simp
         exact hK _ _ (G.refl _) rfl
        ·obtain⟨d9,_⟩:=d
         change vals 9=_ at d9
         refine nX rfl rfl rfl fun K hK=>?_
         simp only[gFr,d9]at hK⊢
         go_simp
         refine hK _ _ (G.refl _) ?_
         show Value.int .i64 (IntKind.i64.wrap (2+(j:Int)))=Value.int .i64 (2+(j:Int))
         rw[IntWalk.i64_in _ ⟨by omega,by omega⟩]
        ·obtain⟨d5,d10,_⟩:=d
         change vals 5=_ at d5
         change vals 10=_ at d10
         refine nX rfl rfl rfl fun K hK=>?_
         simp only[gFr,d5,d10]at hK⊢
         go_simp
         refine hK _ _ (G.refl _) ?_
         show Value.pointer (some ⟨b,(2+(j:Int)).toNat*3,none⟩)=Value.pointer (some ⟨b,3*(2+j),none⟩)
         rw[show(2+(j:Int)).toNat*3=3*(2+j) by omega]
        ·obtain⟨d11,_⟩:=d
         change vals 11=_ at d11
         refine nX rfl rfl rfl fun K hK=>?_
         simp only[gFr,d11]at hK⊢
         go_simp
         exact hK _ _ (G.refl _) rfl
        ·obtain⟨d12,_⟩:=d
         change vals 12=_ at d12
         refine nX rfl rfl rfl fun K hK=>?_
         simp only[gFr,d12]at hK⊢
         have k1:=HCK.out W (GW5.out.trans g)
         go_simp
         exact hK _ _ (G.refl _) rfl
        ·obtain⟨d4,d13,_⟩:=d
         change vals 4=_ at d4
         change vals 13=_ at d13
         refine nX rfl rfl rfl fun K hK=>?_
         simp only[gFr,d4,d13]at hK⊢
         go_simp
         exact hK _ _ (G.refl _) rfl
        ·obtain⟨d14,_⟩:=d
         change vals 14=_ at d14
         refine nX rfl rfl rfl fun K hK=>?_
         simp only[gFr,d14]at hK⊢
         go_simp
         exact hK _ _ ((G.refl _).alloc _) ⟨W.heap.size,rfl,by simp,by rw[World.cell?_alloc_new];rfl,by rw[World.cell?_alloc_new];rfl⟩
        ·obtain⟨d15,_⟩:=d
         refine ahX.out ?_
         obtain⟨xb,d15,h2,h3,h4⟩:=d15
         have hia:=(show UE W (.iface 80 (.pointer (some ⟨xb,0,none⟩))) c (lk.pos:Int)from⟨xb,rfl,h3,h4,h2⟩)
         refine⟨?_⟩
         refine nX rfl rfl rfl fun K hK=>?_
         simp only[gFr,d15]at hK⊢
         go_simp
         refine hK _ _ (G.refl _) ?_
         unfold apC
         exact hia
        ·obtain⟨d0,_,_⟩:=d
         change vals 0=_ at d0
         refine ahX.out ?_
         have hz:=uU HX5.out g
         obtain⟨z0,z1⟩:=acP hz
         have fz:=fun i=>Lib.frozen_of_heap hz i
         refine⟨?_⟩
         refine afb rfl rfl fun K hK=>?_
         simp only[gFr,d0]at hK⊢
         go_simp
         refine hK _ ?_ trivial
         rw[adR hz]
         exact G.refl _
       ·intro vals W g d
        simp only[acS,ac1]at d
        obtain⟨d0,d1,d2,d3,d4,d5,d6,d7,d8,d9,d10,d11,d12,d13,d14,d15,d16,_⟩:=d
        change vals 0=_ at d0
        change vals 1=_ at d1
        change vals 2=_ at d2
        change vals 3=_ at d3
        change vals 4=_ at d4
        change vals 5=_ at d5
        change vals 6=_ at d6
        change vals 7=_ at d7
        change vals 8=_ at d8
        change vals 9=_ at d9
        change vals 10=_ at d10
        change vals 11=_ at d11
        change vals 12=_ at d12
        change vals 13=_ at d13
        change vals 14=_ at d14
        refine⟨?_⟩
        show wpList _ _ _ [_] _ _
        simp only[gFr,d0,d1,d2,d3,d4,d5,d6,d7,d8,d9,d10,d11,d12,d13,d14]
        clear d0 d1 d2 d3 d4 d5 d6 d7 d8 d9 d10 d11 d12 d13 d14
        have G8:=hid (GW5.out.trans g)
        have HX8:=hid (uU HX5.out g)
        clear g
        go_wp2_with fail
        exact aeZ rfl rfl rfl rfl HX8.out ⟨_,rfl,OfR.no HBAD.out (IsP.at_ d16 pk),G8.out⟩
end Go.Proofs.YtmffejnigppbpaaGreatDoor
