/-
  Texts merged into one: Fold2, FoldF, ItemBox.
-/
import Derived.Test.YtmffejnigppbpaaGreatDoorDXFold
import Derived.Test.YtmffejnigppbpaaGreatDoorDXMPieces
import Derived.Test.YtmffejnigppbpaaGreatDoorDXMUtf
import Derived.Test.YtmffejnigppbpaaGreatDoorDXMA67
import Derived.Test.YtmffejnigppbpaaGreatDoorDXMA65
set_option linter.unusedVariables false
set_option linter.unusedSimpArgs false
set_option maxHeartbeats 4000000
set_option maxRecDepth 100000
namespace Go.Proofs.YtmffejnigppbpaaGreatDoor
open Go.RowKit
theorem au4(l:List UInt8):Ut l≤4:=by
 rcases adU l with h|⟨r,n,h,_,_,h4,_⟩
 ·unfold Ut;rw[h];decide
 ·rw[ael h];exact h4
theorem anO{r:List UInt8}{rm:Nat}(hb:UL r=none)(hr:4≤rm):(r.drop (adf r rm)=[]∧r.take (adf r rm)=r∧r.length≤rm)∨(r.drop (adf r rm)≠[]∧1≤adf r rm∧adf r rm≤rm∧adf r rm≤r.length∧UL (r.drop (adf r rm))=none∧UL (r.take (adf r rm))=none):=by
 obtain⟨h1,h2,h3,h4,h5⟩:=aqI hb rm
 by_cases hd:r.drop (adf r rm)=[]
 ·have:r.length≤adf r rm:=by have:=congrArg List.length hd;simp at this;omega
  exact .inl ⟨hd,List.take_of_length_le this,by omega⟩
 ·right
  refine⟨hd,?_,h1,h2,h4,h3⟩
  rcases h5 with h5|h5
  ·exact absurd (List.drop_eq_nil_of_le (by omega)) hd
  ·have:=au4 (r.drop (adf r rm));omega
theorem aeN{r:List UInt8}{rm width:Nat}(h:r.drop (adf r rm)=[]):ac6 r rm width=r.take (adf r rm)++[13,10]:=by
 rw[ac6,dif_pos (.inl h)]
theorem ag5{r:List UInt8}{rm width:Nat}(h:r.drop (adf r rm)≠[])(h1:1≤adf r rm):ac6 r rm width=r.take (adf r rm)++13::10::32::ac6 (r.drop (adf r rm)) (width-1) width:=by
 rw[ac6,dif_neg (by rintro(h2|h2);exact h h2;omega)]
def ahC(s:List UInt8):Prop:=UL s=none∧aeO s=s.length∧s.length≤1500
def asu:Value→Nat
 |.string s=>s.size
 |_=>0
@[simp] theorem ayN(l:List UInt8):asu (.string (S l))=l.length:=ahu l
theorem au5(l:List UInt8)(n k:Nat)(w:World)(hl:l.length≤140737488351232)(hn:n≤1000000)(h:adf l n=k):adV 127 #[.string (S l),.int .i64 n] w (.int .i64 k):=by
 subst h;exact axu l n w hl hn
theorem au6(s:List UInt8)(width:Nat)(w:World)(hw1:10≤width)(hw2:width≤75)(hs:ahC s):Um 83 #[.string (S s),.int .i64 width] w (.tuple #[.string (S (ac6 s width width)),.nilIface]):=by
 obtain⟨g1,g2,g3⟩:=hs
 have hB:Hid (anx (UL s) = -1):=hid (by rw[g1];rfl)
 have hA:Hid (Lib.indexAny s [13,10] = -1):=hid (by rw[aot,if_pos g2])
 have HG1:=hid g1
 have b1:decide ((width:Int)<10)=false:=decide_eq_false (by omega)
 have b2:decide (75<(width:Int))=false:=decide_eq_false (by omega)
 have b3:decide (1500<(s.length:Int))=false:=decide_eq_false (by omega)
 clear g1 g2
 go_enter Tryz.func83,Tryz.ntmps83
 go_wp2_with fail
 refine(alF s _ (by omega)).use ?_
 rw[hB.out]
 go_wp2_with fail
 refine(ame s (-1) _ (by omega) hA.out).use ?_;intro w1 gw1
 go_wp2_with fail
 go_loopw [0,9] (fun sv rv wr=>∃(r:List UInt8) (rm:Nat) (acc:List UInt8),sv=.string (S r)∧rv=.int .i64 rm∧UL r=none∧9≤rm∧rm≤75∧r.length≤s.length∧acc.length≤4*(s.length-r.length)∧IsB w wr w1.heap.size acc∧G w wr∧acc++ac6 r rm width=ac6 s width width) (fun sv _ _=>asu sv)
 case atStart=>exact⟨s,width,[],rfl,rfl,HG1.out,by omega,hw2,Nat.le_refl _,by simp,IsB.new gw1,gw1.alloc _,rfl⟩
 case round=>
  obtain⟨r,rm,acc,rfl,rfl,hb,hr1,hr2,hrl,hal,hib,hg,hout⟩:=hrel
  have HIB:=hid hib
  have HG:=hid hg
  have HOUT:=hid hout
  clear hib hg hout
  obtain⟨n,hn⟩:∃n,adf r rm=n:=⟨_,rfl⟩
  obtain⟨r',hr'⟩:∃r',r.drop n=r':=⟨_,rfl⟩
  have HN:=hid hn
  rcases anO hb (show 4≤rm by omega)with⟨c1,c2,c3⟩|⟨c1,c2,c3,c4,c5,c6⟩
  ·rw[hn,hr']at c1
   subst c1
   have HL:Hid (ac6 r rm width=r.take n++[13,10]):=hid (by rw[aeN (by rw[hn,hr']),hn])
   have hn2:n≤r.length:=by have:=(aqI hb rm).2.1;omega
   have hnr:(r.take n).length≤1500:=by simp;omega
   clear hn c2 hb
   go_wp2_with (go_at_call 127;refine(au5 r rm n _ (by omega) (by omega) HN.out).use ?_)
   refine(Rx HIB.out HG.out (r.take n++[13,10]) (by simp;omega)).mono ?_
   rintro e w2 ⟨rfl,hib2,hg2,-⟩
   have HIB2:=hid hib2
   have HG2:=hid hg2
   clear hib2 hg2
   go_wp2_with fail
   refine(ag1 HIB2.out HG2.out).mono ?_
   rintro e w3 ⟨rfl,hg3,-⟩
   go_wp2_with fail
   go_ret2
   exact⟨by rw[←HOUT.out,HL.out];rfl,hg3⟩
  ·rw[hn]at c1 c2 c3 c4 c5
   rw[hr']at c1 c5
   have HL:Hid (ac6 r rm width=r.take n++13::10::32::ac6 r' (width-1) width):=hid (by rw[ag5 (by rw[hn,hr'];exact c1) (by omega),hn,hr'])
   have hnr:(r.take n).length=n:=by simp;omega
   have HNR:=hid hnr
   have hrl':Hid (r'.length=r.length-n):=hid (by rw[←hr'];simp)
   have hw9:(width:Int)-1=((width-1:Nat):Int):=by omega
   have HW9:=hid hw9
   obtain⟨c,t',rfl⟩:∃c t',r'=c::t':=by cases r' with
    |nil=>exact absurd rfl c1
    |cons c t'=>exact⟨c,t',rfl⟩
   have HC5:=hid c5
   clear hn hb hnr hw9 c1 c5 c6
   go_wp2_with (go_at_call 127;refine(au5 r rm n _ (by omega) (by omega) HN.out).use ?_)
   refine(Rx HIB.out HG.out (r.take n++[13,10]) (by have:=HNR.out;simp;omega)).mono ?_
   rintro e w2 ⟨rfl,hib2,hg2,-⟩
   have HIB2:=hid hib2
   have HG2:=hid hg2
   clear hib2 hg2
   go_wp2_with fail
   refine(Rx HIB2.out HG2.out [32] (by have:=HNR.out;simp;omega)).mono ?_
   rintro e w3 ⟨rfl,hib3,hg3,-⟩
   have HIB3:=hid hib3
   have HG3:=hid hg3
   clear hib3 hg3
   go_wp2_with fail
   go_roundw
   case rel=>
    have e1:=hrl'.out
    have e2:=HNR.out
    refine⟨c::t',width-1,_,rfl,?_,HC5.out,by omega,by omega,by omega,?_,HIB3.out,HG3.out,?_⟩
    ·first|rfl|congr 1
    ·have e3:(acc++(r.take n++[13,10])++[32]).length=acc.length+n+3:=by simp only[List.length_append,e2];simp;omega
     omega
    ·rw[←HOUT.out,HL.out];simp
   case measure=>
    have e1:=hrl'.out
    simp at e1⊢;omega
theorem apP(l:List Nat)(k i:Nat)(h:k<l.length):((l.take (k+1)).filter fun f=>decide (f≤i)).length=((l.take k).filter fun f=>decide (f≤i)).length+if l[k]'h≤i then 1 else 0:=by
 rw[List.take_succ_eq_append_getElem h,List.filter_append,List.length_append]
 by_cases h2:l[k]'h≤i<;>simp[List.filter_cons,h2]
theorem atm(l:FLn)(fv:Value)(i:Nat)(w:World)(hf:adh w fv (adX l.folds))(h1:l.pos≤1000000)(h2:i≤1000000)(h3:l.folds.length≤1000000):Um 193 #[.agg #[.string (S l.text),.int .i64 l.pos,fv],.int .i64 i] w (.int .i64 (ad4 l i)):=by
 obtain⟨a,cap,rfl⟩:=hf.len
 have HF:=hid hf
 clear hf
 have hlen:(adX l.folds).length=l.folds.length:=by simp[adX]
 rw[hlen]
 go_enter Tryz.func193,Tryz.ntmps193
 go_wp2
 go_loop [5,15] (fun at_ ix=>∃k:Nat,k≤l.folds.length∧ix=.int .i64 k∧at_=.int .i64 ((l.pos+i+3*((l.folds.take k).filter fun f=>decide (f≤i)).length:Nat):Int)) (fun _ ix=>l.folds.length-(intOf ix).toNat)
 case atStart=>exact⟨0,Nat.zero_le _,rfl,by simp⟩
 case round=>
  obtain⟨k,hk,rfl,rfl⟩:=hrel
  by_cases hlt:k<l.folds.length
  ·have hcell:∃b,a=some ⟨b,0,none⟩∧b<w.heap.size∧w.cell? ⟨b,k,none⟩=some (.int .i64 ((l.folds[k]'hlt:Nat):Int)):=by
    rcases HF.out with⟨_,h⟩|⟨b,c,hv,hb,_,hc⟩
    ·rw[h]at hlen;simp at hlen;omega
    ·simp only[Value.slice.injEq]at hv
     refine⟨b,hv.1,hb,?_⟩
     have:=hc k (by rw[hlen];exact hlt)
     rw[this];simp[adX]
   obtain⟨b,rfl,hb,hc⟩:=hcell
   have HS:=hid (apP l.folds k i hlt)
   have hft:((l.folds.take k).filter fun f=>decide (f≤i)).length≤l.folds.length:=Nat.le_trans (List.length_filter_le _ _) (by simp;omega)
   obtain⟨m,hm⟩:∃m,((l.folds.take k).filter fun f=>decide (f≤i)).length=m:=⟨_,rfl⟩
   obtain⟨f,hfk⟩:∃f,l.folds[k]'hlt=f:=⟨_,rfl⟩
   rw[hm]at hft
   rw[hfk]at hc
   have HM:=hid hm
   have HFK:=hid hfk
   clear hfk
   by_cases hle:f≤i
   ·go_wp2
    go_round
    case rel=>
     refine⟨k+1,by omega,by go_num,?_⟩
     rw[HS.out,HFK.out,if_pos hle,HM.out]
     congr 1
    case measure=>simp[intOf];omega
   ·go_wp2
    go_round
    case rel=>
     refine⟨k+1,by omega,by go_num,?_⟩
     rw[HS.out,HFK.out,if_neg hle,HM.out]
     rfl
    case measure=>simp[intOf];omega
  ·obtain rfl:k=l.folds.length:=by omega
   go_wp2
   go_ret
   refine⟨adZ ?_,(by repeat (first|exact G.refl _|assumption|apply G.drew|apply G.drewN|apply G.alloc|refine G.trans ?_ (by assumption)))⟩
   unfold ad4 arh;omega
end Go.Proofs.YtmffejnigppbpaaGreatDoor

set_option maxHeartbeats 400000
set_option maxRecDepth 100000
namespace Go.Proofs.YtmffejnigppbpaaGreatDoor
open Go.RowKit
theorem agq(c:UInt8)(t:List UInt8)(h:c.toNat<128):Ut (c::t)=1:=by
 have:adw (c::t)=((c.toNat:Int),((1:Nat):Int)):=by
  show(if c.toNat<128 then _ else _)=_
  rw[if_pos h];rfl
 exact ael this
theorem arc(l:List UInt8)(h:adO l):UL l=none:=by
 induction l with
 |nil=>exact aea
 |cons c t ih=>
  have h1:=agq c t (h c List.mem_cons_self)
  rw[aeo (by omega),h1]
  show(UL t).map _=_
  rw[ih fun d hd=>h d (List.mem_cons_of_mem _ hd)];rfl
theorem akp(l:List UInt8)(n:Nat)(h:adO l):adf l n=min n l.length:=by
 induction l generalizing n with
 |nil=>rw[amU];simp
 |cons c t ih=>
  have h1:=agq c t (h c List.mem_cons_self)
  by_cases hn:1≤n
  ·rw[akF (by simp) (m:=1) (by rw[h1];rfl) hn]
   show 1+adf t (n-1)=_
   rw[ih _ fun d hd=>h d (List.mem_cons_of_mem _ hd)]
   simp;omega
  ·rw[aiq (by simp) (m:=1) (by rw[h1];rfl) hn]
   omega
theorem aiD{p:List UInt8}{k:Nat}{out out':List FLn}(h:acU p k out=.good out')(ho:∀l∈out,l.folds.length≤k∧l.pos≤k∧l.text.length≤1500):∀l∈out',l.folds.length≤k+p.length+2∧l.pos≤k+p.length+2∧l.text.length≤1500:=by
 unfold acU at h
 split at h
 ·cases hl:out.getLast? with
  |none=>rw[hl]at h;cases h
  |some l0=>
   rw[hl]at h
   dsimp only at h
   have hm:=ho l0 (List.mem_of_getLast? hl)
   split at h
   ·cases h
   ·injection h with h
    subst h
    intro l hl2
    rcases List.mem_append.1 hl2 with h2|h2
    ·have:=ho l ((List.dropLast_sublist _).subset h2);omega
    ·have:l=_:=List.mem_singleton.1 h2
     subst this
     simp;omega
 ·split at h
  ·cases h
  ·injection h with h
   subst h
   intro l hl2
   rcases List.mem_append.1 hl2 with h2|h2
   ·have:=ho l h2;omega
   ·have:l=_:=List.mem_singleton.1 h2
    subst this
    simp;omega
theorem akN{t:List UInt8}{x:List FLn}(h:Us t 0 []=.good x):∀l∈x,l.folds.length≤t.length∧l.pos≤t.length∧l.text.length≤1500:=by
 have key:=agJ (P:=fun r k out x=>(∀l∈out,l.folds.length≤k∧l.pos≤k∧l.text.length≤1500)→∀l∈x,l.folds.length≤k+r.length∧l.pos≤k+r.length∧l.text.length≤1500) ?_ ?_ t.length t 0 [] x (Nat.le_refl _) h
 ·intro l hl;have:=key (by simp) l hl;omega
 ·intro k out ho l hl;have:=ho l hl;omega
 ·intro p r k out out' y hp ha hg ih ho l hl
  have:=ih (aiD ha ho) l hl
  simp;omega
theorem apQ{t:List UInt8}{x:List FLn}(h:Us t 0 []=.good x):x.length≤t.length:=by
 have key:=agJ (P:=fun r k out x=>out.length≤k→x.length≤k+r.length) ?_ ?_ t.length t 0 [] x (Nat.le_refl _) h
 ·have:=key (by simp);omega
 ·intro k out ho;omega
 ·intro p r k out out' y hp ha hg ih ho
  have h2:out'.length≤k+p.length+2:=by
   unfold acU at ha
   split at ha
   ·cases hl:out.getLast? with
    |none=>rw[hl]at ha;cases ha
    |some l0=>
     rw[hl]at ha
     dsimp only at ha
     split at ha
     ·cases ha
     ·injection ha with ha
      subst ha
      simp;omega
   ·split at ha
    ·cases ha
    ·injection ha with ha
     subst ha
     simp;omega
  have:=ih h2
  simp;omega
theorem aeM.at_{w:World}{v:Value}{ls:List FLn}(h:aeM w v ls)(h0:ls≠[]):∃b cap,v=.slice (some ⟨b,0,none⟩) ls.length cap∧b<w.heap.size∧∀(i:Nat) (l:FLn),ls[i]?=some l→w.cell? ⟨b,3*i,none⟩=some (.string (S l.text))∧w.cell? ⟨b,3*i+1,none⟩=some (.int .i64 l.pos)∧∃fv,w.cell? ⟨b,3*i+2,none⟩=some fv∧adh w fv (adX l.folds):=by
 rcases h with⟨h,_⟩|⟨b,cap,h1,h2,_,h4⟩
 ·exact absurd h h0
 ·exact⟨b,cap,h1,h2,h4⟩
theorem atn(n:Int)(w:World):adV 46 #[.int .i64 n] w (.int .i64 ((10+ak0 n 66:Nat):Int)):=by
 have h:=amB n (n:=66) (by omega)
 go_enter Tryz.func46,Tryz.ntmps46
 go_wp2_with fail
 refine(aqo n 66 _ (by omega) (by omega)).use ?_
 go_wp2_with fail
 go_ret
 exact⟨adZ (by omega),rfl⟩
theorem au7(n:Int):10+ak0 n 66≤75:=by have:=amB n (n:=66) (by omega);omega
end Go.Proofs.YtmffejnigppbpaaGreatDoor

namespace Go.Proofs.YtmffejnigppbpaaGreatDoor
open Go.RowKit
theorem axV{W:World}{X:Nat}{T:TypeId}{c0 c1 c2 c3 c4 c5 c6 c7 c8 c9 c10 c11 c12 c13 c14:Value}(h:W.heap[X]?=some (.cells #[c0,c1,c2,c3,c4,c5,c6,c7,c8,c9,c10,c11,c12,c13,c14] T (0,0)))(a0 a1 a2 a3 a4 a5 a6 a7 a8 a9 a10 a11 a12 a13 a14:Value):(((((((((((((((W.setCell ⟨X,0,none⟩ a0).setCell ⟨X,1,none⟩ a1).setCell ⟨X,2,none⟩ a2).setCell ⟨X,3,none⟩ a3).setCell ⟨X,4,none⟩ a4).setCell ⟨X,5,none⟩ a5).setCell ⟨X,6,none⟩ a6).setCell ⟨X,7,none⟩ a7).setCell ⟨X,8,none⟩ a8).setCell ⟨X,9,none⟩ a9).setCell ⟨X,10,none⟩ a10).setCell ⟨X,11,none⟩ a11).setCell ⟨X,12,none⟩ a12).setCell ⟨X,13,none⟩ a13).setCell ⟨X,14,none⟩ a14).heap[X]?=some (.cells #[a0,a1,a2,a3,a4,a5,a6,a7,a8,a9,a10,a11,a12,a13,a14] T (0,0)):=by
 simp[World.setCell,Array.getElem?_modify,h]
theorem g15{w W:World}{X:Nat}(hX:w.heap.size≤X)(g:G w W)(a0 a1 a2 a3 a4 a5 a6 a7 a8 a9 a10 a11 a12 a13 a14:Value):G w (((((((((((((((W.setCell ⟨X,0,none⟩ a0).setCell ⟨X,1,none⟩ a1).setCell ⟨X,2,none⟩ a2).setCell ⟨X,3,none⟩ a3).setCell ⟨X,4,none⟩ a4).setCell ⟨X,5,none⟩ a5).setCell ⟨X,6,none⟩ a6).setCell ⟨X,7,none⟩ a7).setCell ⟨X,8,none⟩ a8).setCell ⟨X,9,none⟩ a9).setCell ⟨X,10,none⟩ a10).setCell ⟨X,11,none⟩ a11).setCell ⟨X,12,none⟩ a12).setCell ⟨X,13,none⟩ a13).setCell ⟨X,14,none⟩ a14):=
 aeb (aeb (aeb (aeb (aeb (aeb (aeb (aeb (aeb (aeb (aeb (aeb (aeb (aeb (aeb (g) hX) hX) hX) hX) hX) hX) hX) hX) hX) hX) hX) hX) hX) hX) hX
theorem ayV(W:World)(X:Nat)(a0 a1 a2 a3 a4 a5 a6 a7 a8 a9 a10 a11 a12 a13 a14:Value):W.grownBy (((((((((((((((W.setCell ⟨X,0,none⟩ a0).setCell ⟨X,1,none⟩ a1).setCell ⟨X,2,none⟩ a2).setCell ⟨X,3,none⟩ a3).setCell ⟨X,4,none⟩ a4).setCell ⟨X,5,none⟩ a5).setCell ⟨X,6,none⟩ a6).setCell ⟨X,7,none⟩ a7).setCell ⟨X,8,none⟩ a8).setCell ⟨X,9,none⟩ a9).setCell ⟨X,10,none⟩ a10).setCell ⟨X,11,none⟩ a11).setCell ⟨X,12,none⟩ a12).setCell ⟨X,13,none⟩ a13).setCell ⟨X,14,none⟩ a14) (some X):=
 ad9 (ad9 (ad9 (ad9 (ad9 (ad9 (ad9 (ad9 (ad9 (ad9 (ad9 (ad9 (ad9 (ad9 (afi _ _ _ _))))))))))))))
theorem UC{W:World}{X i:Nat}{cs:Array Value}{T:TypeId}{m:Nat×Nat}{v:Value}(h:W.heap[X]?=some (.cells cs T m))(hi:cs[i]?=some v):W.setCell ⟨X,i,none⟩ v=W:=by
 obtain⟨hX,hx⟩:=Array.getElem?_eq_some_iff.1 h
 have e:cs.setIfInBounds i v=cs:=by
  apply Array.ext_getElem?
  intro j
  rw[Array.getElem?_setIfInBounds]
  split
  ·rename_i hij
   subst hij
   split
   ·exact hi.symm
   ·rename_i hlt
    exact absurd (Array.getElem?_eq_some_iff.1 hi).1 hlt
  ·rfl
 have e2:(W.setCell ⟨X,i,none⟩ v).heap=W.heap:=by
  apply Array.ext_getElem?
  intro j
  by_cases hj:j=X
  ·subst hj
   rw[h]
   simp[World.setCell,Array.getElem?_modify,h,e]
  ·exact Below.heap_setCell _ _ _ _ hj
 cases W
 simp only[World.setCell]at e2⊢
 simp only[e2]
theorem ayf{W:World}{X:Nat}{T:TypeId}{a0 a1 a2 a3 a4 a5 a6 a7 a8 a9 a10 a11 a12 a13 a14:Value}(h:W.heap[X]?=some (.cells #[a0,a1,a2,a3,a4,a5,a6,a7,a8,a9,a10,a11,a12,a13,a14] T (0,0))):(((((((((((((((W.setCell ⟨X,0,none⟩ a0).setCell ⟨X,1,none⟩ a1).setCell ⟨X,2,none⟩ a2).setCell ⟨X,3,none⟩ a3).setCell ⟨X,4,none⟩ a4).setCell ⟨X,5,none⟩ a5).setCell ⟨X,6,none⟩ a6).setCell ⟨X,7,none⟩ a7).setCell ⟨X,8,none⟩ a8).setCell ⟨X,9,none⟩ a9).setCell ⟨X,10,none⟩ a10).setCell ⟨X,11,none⟩ a11).setCell ⟨X,12,none⟩ a12).setCell ⟨X,13,none⟩ a13).setCell ⟨X,14,none⟩ a14)=W:=by
 rw[UC (i:=0) (v:=a0) h rfl]
 rw[UC (i:=1) (v:=a1) h rfl]
 rw[UC (i:=2) (v:=a2) h rfl]
 rw[UC (i:=3) (v:=a3) h rfl]
 rw[UC (i:=4) (v:=a4) h rfl]
 rw[UC (i:=5) (v:=a5) h rfl]
 rw[UC (i:=6) (v:=a6) h rfl]
 rw[UC (i:=7) (v:=a7) h rfl]
 rw[UC (i:=8) (v:=a8) h rfl]
 rw[UC (i:=9) (v:=a9) h rfl]
 rw[UC (i:=10) (v:=a10) h rfl]
 rw[UC (i:=11) (v:=a11) h rfl]
 rw[UC (i:=12) (v:=a12) h rfl]
 rw[UC (i:=13) (v:=a13) h rfl]
 rw[UC (i:=14) (v:=a14) h rfl]
theorem ajH{fn:Func}{Q:Ending→World→Prop}{a:Act}{WF:World}{X s t:Nat}{y:It}{pv lv e:Value}(hres:fn.results=#[.cell s 38,.tmp t])(hp:a.tmps.getD s undef=.pointer (some ⟨X,0,none⟩))(hb:a.tmps.getD t undef=e)(hd:a.defers=[])(hrow:WF.heap[X]?=some (.cells (y.cells pv lv).toArray 38 (0,0)))(hQ:Q (.returned (.tuple #[y.val pv lv,e])) WF):bodyPost Tryz.prog fn Q .ret a WF:=by
 obtain⟨e0,e1,e2,e3,e4,e5,e6,e7,e8,e9,e10,e11,e12,e13,e14⟩:=UM hrow
 refine bodyPost_ret (v:=.tuple #[It.val y pv lv,e]) ?_ hd hQ
 have hp2:a.tmps[s]?.getD undef=.pointer (some ⟨X,0,none⟩):=by simpa using hp
 have hb2:a.tmps[t]?.getD undef=e:=by simpa using hb
 simp only[results,hres]
 go_simp
end Go.Proofs.YtmffejnigppbpaaGreatDoor
