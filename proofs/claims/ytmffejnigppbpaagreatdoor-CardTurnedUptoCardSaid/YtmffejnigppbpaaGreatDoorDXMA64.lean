/-
  Texts merged into one: SumTo, Wide, Heavy, Thick, AnyShort, Any.
-/
import Derived.Test.YtmffejnigppbpaaGreatDoorDXMA69
import Derived.Test.YtmffejnigppbpaaGreatDoorDXMA75
import Derived.Test.YtmffejnigppbpaaGreatDoorDXMA65
import Derived.Test.YtmffejnigppbpaaGreatDoorDXMA52
import Derived.Test.YtmffejnigppbpaaGreatDoorDXMA59
import Derived.Lib.IndexAny
import Derived.Laws.RangeString
import Derived.Laws.RangeAny
import Derived.Laws.Runes
import Derived.Laws.Strings3
import Derived.Deep.LoopGhost
import Derived.WalkMore
import Derived.Test.YtmffejnigppbpaaGreatDoorDXShelf
set_option linter.unusedVariables false
set_option linter.unusedSimpArgs false
namespace Go.Proofs.YtmffejnigppbpaaGreatDoor
def aeH{α:Type}(f:α→Nat)(l:List α)(k:Nat):Nat:=((l.take k).map f).sum
theorem ahh{α:Type}(f:α→Nat)(l:List α):aeH f l 0=0:=by simp[aeH]
theorem ahi{α:Type}(f:α→Nat)(l:List α)(k:Nat)(h:k<l.length):aeH f l (k+1)=aeH f l k+f l[k]:=by
 unfold aeH
 rw[List.take_succ_eq_append_getElem h,List.map_append,List.sum_append]
 simp
theorem ain{α:Type}(f:α→Nat)(l:List α)(k:Nat)(h:l.length≤k):aeH f l k=(l.map f).sum:=by
 unfold aeH;rw[List.take_of_length_le h]
theorem afL{α:Type}(f:α→Nat)(l:List α)(k:Nat):aeH f l k≤(l.map f).sum:=by
 unfold aeH
 conv=>rhs;rw[←List.take_append_drop k l,List.map_append,List.sum_append]
 omega
end Go.Proofs.YtmffejnigppbpaaGreatDoor

set_option maxHeartbeats 4000000
set_option maxRecDepth 100000
namespace Go.Proofs.YtmffejnigppbpaaGreatDoor
open Go.RowKit
def ac5(p:Pm):Nat:=p.1.length+p.2.length+(p.2.map List.length).sum
def adm(ps:List Pm):Nat:=ps.length+(ps.map ac5).sum
theorem awe(g n v:List UInt8)(pv:Value)(ps:List Pm)(w:World)(hP:UN w pv ps)(hb:adm ps≤2000000)(hg:g.length≤2000000)(hn:n.length≤2000000)(hv:v.length≤2000000) :
  Um 77 #[.agg #[.string (S g),.string (S n),pv,.string (S v)]] w (.bool (decide (2500<adm ps+g.length+n.length+v.length))):=by
 have H:=hid hP
 obtain⟨a,cap,rfl,_,_⟩:=hP
 have htot:ps.length+(ps.map ac5).sum≤2000000:=hb
 have HW:Hid (adm ps=ps.length+(ps.map ac5).sum):=hid rfl
 clear hb
 obtain⟨B0,hB0⟩:∃B0,B0=ps.length+g.length+n.length+v.length:=⟨_,rfl⟩
 have hb0:B0≤8000000:=by omega
 have HB0:=hid hB0
 go_enter Tryz.func77,Tryz.ntmps77
 go_wp2_with fail
 go_loopw [3,26] (fun m i wr=>∃k:Nat,k≤ps.length∧i=.int .i64 k∧m=.int .i64 ((B0+aeH ac5 ps k:Nat):Int)∧G w wr) (fun _ i _=>ps.length-(intOf i).toNat)
 case atStart=>exact⟨0,Nat.zero_le _,rfl,by rw[ahh,hB0];go_num,(by repeat (first|exact G.refl _|assumption|apply G.drew|apply G.drewN|apply G.alloc|refine G.trans ?_ (by assumption)))⟩
 case round=>
  obtain⟨k,hk,rfl,rfl,gr⟩:=hrel
  have GR:=hid gr
  have hst:=afL ac5 ps k
  clear gr hB0
  by_cases hlt:k<ps.length
  ·obtain⟨a2,cap2,e1,_,hc⟩:=H.out.grow GR.out
   obtain⟨b,off,e2,hbl,hcc⟩:=hc (by rintro rfl;simp at hlt)
   clear hc
   simp only[Value.slice.injEq,true_and]at e1
   obtain⟨rfl,rfl⟩:=e1
   subst e2
   obtain⟨sv,c1,c2,c3⟩:=hcc k _ (List.getElem?_eq_getElem hlt)
   have hsn:=ahi ac5 ps k hlt
   have hst2:=afL ac5 ps (k+1)
   obtain⟨p,hpe⟩:∃p,ps[k]=p:=⟨_,rfl⟩
   rw[hpe]at c1 c3 hsn
   obtain⟨nm,x⟩:=p
   obtain⟨xa,xc,rfl,_⟩:=c3.len
   have I1:=hid c3
   simp only[ac5]at hsn c1
   obtain⟨B,hB⟩:∃B,B0+aeH ac5 ps k=B:=⟨_,rfl⟩
   have hB2:B+nm.length+x.length+(x.map List.length).sum≤12000000:=by omega
   have HSN:Hid (B0+aeH ac5 ps (k+1)=B+nm.length+x.length+(x.map List.length).sum):=hid (by omega)
   rw[hB]
   clear hcc c3 hpe hsn hst2 hB hst
   go_wp2_with fail
   generalize hwa:World.alloc wr _=wa
   have GA:Hid (G w wa):=hid (by rw[←hwa];exact GR.out.alloc _)
   have I2:Hid (Ux wa (.slice xa x.length xc) x):=hid (I1.out.grow (by rw[←hwa];exact(G.refl _).alloc _))
   clear hwa c1 c2
   go_loop [3,42] (fun m i=>∃j:Nat,j≤x.length∧i=.int .i64 j∧m=.int .i64 ((B+nm.length+x.length+aeH List.length x j:Nat):Int)) (fun _ i=>x.length-(intOf i).toNat)
   case atStart=>exact⟨0,Nat.zero_le _,rfl,by rw[ahh];go_num⟩
   case round=>
    obtain⟨j,hj,rfl,rfl⟩:=hrel
    have hst:=afL List.length x j
    by_cases hjt:j<x.length
    ·obtain⟨b2,o2,c2,e2,_,hb2',hc2⟩:=I2.out.at_ (by rintro rfl;simp at hjt)
     simp only[Value.slice.injEq,true_and]at e2
     obtain⟨rfl,rfl⟩:=e2
     have d2:=hc2 j _ (List.getElem?_eq_getElem hjt)
     have hsn:=ahi List.length x j hjt
     have hst2:=afL List.length x (j+1)
     obtain⟨s,hs⟩:∃s,x[j]=s:=⟨_,rfl⟩
     rw[hs]at d2 hsn
     have hs2:B+nm.length+x.length+aeH List.length x j+s.length≤12000000:=by omega
     have HSJ:=hid hsn
     clear hc2 hs hsn hst2
     go_wp2_with fail
     go_round
     case rel=>exact⟨j+1,by omega,by go_num,by rw[HSJ.out];go_num⟩
     case measure=>simp[intOf];omega
    ·obtain rfl:j=x.length:=by omega
     have HE:Hid (aeH List.length x x.length=(x.map List.length).sum):=hid (ain _ _ _ (Nat.le_refl _))
     rw[HE.out]
     go_wp2_with fail
     go_roundw
     case rel=>exact⟨k+1,by omega,by go_num,by rw[HSN.out],GA.out⟩
     case measure=>simp[intOf];omega
  ·obtain rfl:k=ps.length:=by omega
   have HE:Hid (aeH ac5 ps ps.length=(ps.map ac5).sum):=hid (ain _ _ _ (Nat.le_refl _))
   rw[HE.out]
   go_wp2_with fail
   go_ret
   exact⟨zF (by rw[HW.out,HB0.out,Bool.eq_iff_iff];simp;omega),GR.out⟩
end Go.Proofs.YtmffejnigppbpaaGreatDoor

set_option maxHeartbeats 2000000
set_option maxRecDepth 100000
namespace Go.Proofs.YtmffejnigppbpaaGreatDoor
open Go.RowKit
theorem aro(x:List (List UInt8)):adq x=x.length+(x.map List.length).sum:=by
 induction x with
 |nil=>rfl
 |cons a x ih=>rw[afp,ih];simp;omega
theorem arp(x:List (List (List UInt8))):acY x=x.length+(x.map adq).sum:=by
 induction x with
 |nil=>rfl
 |cons a x ih=>rw[af0,ih];simp;omega
theorem atq{v:Value}{ls:List (List (List UInt8))}(w:World)(h:Uw w v ls)(hb:acY ls≤2000000):adV 124 #[v] w (.bool (decide (1500<acY ls))):=by
 have hsp:=arp ls
 obtain⟨a,cap,hv,_⟩:=h.len
 have H:=hid h
 have HSP:=hid hsp
 subst hv
 have htot:(ls.map adq).sum≤2000000:=by omega
 have hll:ls.length+(ls.map adq).sum≤2000000:=by omega
 clear h hsp
 go_enter Tryz.func124,Tryz.ntmps124
 go_wp2_with fail
 go_loop [3,12] (fun n i=>∃k:Nat,k≤ls.length∧i=.int .i64 k∧n=.int .i64 ((ls.length+aeH adq ls k:Nat):Int)) (fun _ i=>ls.length-(intOf i).toNat)
 case atStart=>exact⟨0,Nat.zero_le _,rfl,by rw[ahh];rfl⟩
 case round=>
  obtain⟨k,hk,rfl,rfl⟩:=hrel
  have hst:=afL adq ls k
  by_cases hlt:k<ls.length
  ·obtain⟨b,o,c,e1,_,hb',hc⟩:=H.out.at_ (by rintro rfl;simp at hlt)
   simp only[Value.slice.injEq,true_and]at e1
   obtain⟨rfl,rfl⟩:=e1
   obtain⟨sv,d1,i1⟩:=hc k _ (List.getElem?_eq_getElem hlt)
   have hsn:=ahi adq ls k hlt
   have hst2:=afL adq ls (k+1)
   obtain⟨x,hx⟩:∃x,ls[k]=x:=⟨_,rfl⟩
   rw[hx]at i1 hsn
   have hxs:=aro x
   obtain⟨xa,xc,hxv,_⟩:=i1.len
   have I1:=hid i1
   subst hxv
   obtain⟨B,hB⟩:∃B,ls.length+aeH adq ls k=B:=⟨_,rfl⟩
   have hB2:B+x.length+(x.map List.length).sum≤2000000:=by omega
   have HSN:Hid (ls.length+aeH adq ls (k+1)=B+x.length+(x.map List.length).sum):=hid (by omega)
   rw[hB]
   clear hc i1 hx hsn hst2 hxs hB hst
   go_wp2_with fail
   go_loop [3,22] (fun n i=>∃j:Nat,j≤x.length∧i=.int .i64 j∧n=.int .i64 ((B+x.length+aeH List.length x j:Nat):Int)) (fun _ i=>x.length-(intOf i).toNat)
   case atStart=>exact⟨0,Nat.zero_le _,rfl,by rw[ahh];go_num⟩
   case round=>
    obtain⟨j,hj,rfl,rfl⟩:=hrel
    have hst:=afL List.length x j
    by_cases hjt:j<x.length
    ·obtain⟨b2,o2,c2,e2,_,hb2',hc2⟩:=I1.out.at_ (by rintro rfl;simp at hjt)
     simp only[Value.slice.injEq,true_and]at e2
     obtain⟨rfl,rfl⟩:=e2
     have d2:=hc2 j _ (List.getElem?_eq_getElem hjt)
     have hsn:=ahi List.length x j hjt
     have hst2:=afL List.length x (j+1)
     obtain⟨s,hs⟩:∃s,x[j]=s:=⟨_,rfl⟩
     rw[hs]at d2 hsn
     have hs2:B+x.length+aeH List.length x j+s.length≤2000000:=by omega
     have HSJ:=hid hsn
     clear hc2 hs hsn hst2
     go_wp2_with fail
     go_round
     case rel=>exact⟨j+1,by omega,by go_num,by rw[HSJ.out];go_num⟩
     case measure=>simp[intOf];omega
    ·obtain rfl:j=x.length:=by omega
     have HE:Hid (aeH List.length x x.length=(x.map List.length).sum):=hid (ain _ _ _ (Nat.le_refl _))
     rw[HE.out]
     go_wp2_with fail
     go_round
     case rel=>exact⟨k+1,by omega,by go_num,by rw[HSN.out]⟩
     case measure=>simp[intOf];omega
  ·obtain rfl:k=ls.length:=by omega
   have HE:Hid (aeH adq ls ls.length=(ls.map adq).sum):=hid (ain _ _ _ (Nat.le_refl _))
   rw[HE.out,←HSP.out]
   clear hst
   go_wp2_with fail
   go_ret
   exact⟨zF (by simp;omega),rfl⟩
end Go.Proofs.YtmffejnigppbpaaGreatDoor

set_option maxHeartbeats 4000000
set_option maxRecDepth 100000
namespace Go.Proofs.YtmffejnigppbpaaGreatDoor
open Go.RowKit
theorem at7(x:Vl)(a:Option Addr)(ca:Nat)(w:World)(hL:Uw w (.slice a x.ps.length ca) x.ps)(ht:x.tx.length≤1048576)(hp:acY x.ps≤2000000):Um 78 #[x.v (.slice a x.ps.length ca)] w (.bool (decide (1500<x.tx.length∨1500<acY x.ps))):=by
 obtain⟨ty,tx,ps,⟨y,m,d,h,nn,s_,zd,zn⟩,n⟩:=x
 simp only at hL ht hp
 have HL:=hid hL
 have HP:=hid hp
 clear hL hp
 simp only[Vl.v]
 have g0:Hid (G w (w.alloc (.cells #[.int .i64 ty,.string (S tx),.slice a ps.length ca,.int .i64 y,.int .i64 m,.int .i64 d,.int .i64 h,.int .i64 nn,.int .i64 s_,.bool zd,.int .i64 zn,.int .i64 n] 36))):=hid ((G.refl w).alloc _)
 by_cases h1:1500<tx.length
 ·go_enter Tryz.func78,Tryz.ntmps78
  go_wp2_with fail
  go_ret
  exact⟨zF (by first|(simp;done)|(simp;omega)),by repeat (first|exact g0.out|apply G.drew)⟩
 ·have hh:=atq (w.alloc (.cells #[.int .i64 ty,.string (S tx),.slice a ps.length ca,.int .i64 y,.int .i64 m,.int .i64 d,.int .i64 h,.int .i64 nn,.int .i64 s_,.bool zd,.int .i64 zn,.int .i64 n] 36)) (HL.out.grow g0.out) HP.out
  have HH:=hid hh
  clear hh
  go_enter Tryz.func78,Tryz.ntmps78
  go_wp2_with fail
  refine HH.out.use ?_
  go_wp2_with fail
  go_ret
  exact⟨zF (by simp[h1];intro hq;omega),by repeat (first|exact g0.out|apply G.drew)⟩
end Go.Proofs.YtmffejnigppbpaaGreatDoor

set_option maxHeartbeats 1000000
set_option maxRecDepth 100000
namespace Go.Proofs.YtmffejnigppbpaaGreatDoor
open Go.RowKit
theorem aqW(s:ByteArray)(pos:Nat):(Utf8.decode s pos).2≤4:=by
 simp only[Utf8.decode]
 repeat' split
 all_goals omega
theorem apk(s:ByteArray)(pos k:Nat)(h1:1≤k)(h2:k<(Utf8.decode s pos).2):pos+k<s.size∧128≤(s.get! (pos+k)).toNat:=by
 have h4:=aqW s pos
 have hk:k=1∨k=2∨k=3:=by omega
 clear h4 h1
 rcases hk with rfl|rfl|rfl
 all_goals
  simp only[Utf8.decode]at h2
  repeat' split at h2
  all_goals simp only[Bool.and_eq_true,decide_eq_true_eq,beq_iff_eq]at *
  all_goals omega
def adO(l:List UInt8):Prop:=∀c∈l,c.toNat<128
theorem adO.drop{l:List UInt8}(h:adO l)(k:Nat):adO (l.drop k):=fun c hc=>h c (List.mem_of_mem_drop hc)
theorem alg(l:List UInt8)(w:World)(ha:adO l)(hl:l.length≤1000):Um 132 #[.string (S l),.int .i32 65533] w (.int .i64 (-1)):=by
 have HA:=hid ha;clear ha
 go_enter Tryz.func132,Tryz.ntmps132
 go_wp2
 go_loopg [] l.length (fun g wx=>∃i:Nat,i+g=l.length∧wx=w.iter (S l) i)
 case atStart=>exact⟨0,by omega,rfl⟩
 case round=>
  obtain⟨i,hig,rfl⟩:=hrel
  cases gk with
  |zero=>
   obtain rfl:i=l.length:=by omega
   have hnx:=run_next_end (P:=Tryz.prog) w (S l) l.length
   go_wp2
   go_ret
   exact⟨rfl,(G.refl _).alloc _⟩
  |succ g=>
   have hi:i<l.length:=by omega
   have hx:l[i].toNat<128:=HA.out _ (List.getElem_mem hi)
   have hnx:=fun ty=>run_next_ascii (P:=Tryz.prog) w (S l) i ty (by simpa using hi) (by simpa using hx)
   rw[axO]at hnx
   have hne:(((l[i].toNat:Nat):Int)==65533)=false:=beq_eq_false_iff_ne.2 (by omega)
   go_wp2
   go_roundg g
   case measure=>omega
   case rel=>exact⟨i+1,by omega,rfl⟩
theorem anc(r:Int):∃rs:List UInt8,Utf8.encode r=S rs:=⟨(Utf8.encode r).data.toList,rfl⟩
theorem apl(r:Int)(h:128≤r)(hv:Utf8.valid r=true):∃init:List UInt8,∃c:UInt8,Utf8.encode r=S (init++[c])∧1≤init.length∧init.length≤3∧128≤c.toNat:=by
 obtain⟨h1,h2,h3⟩:=encode_facts r hv h
 obtain⟨rs,hrs⟩:=anc r
 rw[hrs]at h1 h2
 simp only[ahu]at h1 h2
 have hne:rs≠[]:=by intro e;subst e;simp at h1
 refine⟨rs.dropLast,rs.getLast hne,?_,by simp;omega,by simp;omega,?_⟩
 ·rw[hrs,List.dropLast_concat_getLast]
 ·have:=h3 (by rw[hrs];simp;omega)
  simp only[hrs]at this
  rw[List.getLast_eq_getElem]
  simpa using this
theorem agC(r:Int)(w:World)(h1:0≤r)(h2:r≤2147483647):adV 180 #[.int .i32 r] w (.bool (Utf8.valid r)):=by
 go_enter Tryz.func180,Tryz.ntmps180
 go_wp2
 all_goals go_ret
 all_goals refine⟨zF ?_,rfl⟩
 all_goals (rw[validRune_eq];unfold validRune;first|exact(decide_eq_true (by omega)).symm|exact(decide_eq_false (by omega)).symm)
theorem alL(l:List UInt8)(r:Int)(w:World)(ha:adO l)(hl:l.length≤1000)(h1:128≤r)(h2:r≤2147483647)(h3:(r==65533)=false):Um 132 #[.string (S l),.int .i32 r] w (.int .i64 (-1)):=by
 have HA:=hid ha;clear ha
 cases hv:Utf8.valid r with
 |false=>
  go_enter Tryz.func132,Tryz.ntmps132
  go_wp2_with (go_at_call 180;refine(agC r _ (by omega) (by omega)).use ?_)
  go_ret
  exact⟨rfl,G.refl _⟩
 |true=>
  obtain⟨init,c,he,i1,i3,hc⟩:=apl r h1 hv
  have hlen:(init++[c]).length=init.length+1:=by simp
  have hix:=agj (l.drop (init.length+1)) c (fun hm=>by have:=HA.out.drop _ c hm;omega)
  have HX:Hid (∀w,adV 76 #[.string (S (l.drop (init.length+1))),.int .u8 (c.toNat:Int)] w (.int .i64 (-1))):=hid (fun w=>by
   have:=aeW (l.drop (init.length+1)) c w
   rw[hix]at this;exact this)
  clear hix
  have hcv:∀w,(convert 21 9 (.int .i32 r)).run Tryz.prog w=.ok (.string (S (init++[c]))) w:=fun w=>by
   rw[run_convert_int_string w _ _ _ _ (by kernel_rfl) Tryz.underlying9,he]
  clear he
  by_cases hlt:init.length<l.length
  ·have hx:l[init.length].toNat<128:=HA.out _ (List.getElem_mem hlt)
   have hcx:(((l[init.length].toNat:Nat):Int) != (c.toNat:Int))=true:=by
    simp;intro e;omega
   have hgc:(init++[c])[init.length]'(by simp)=c:=by simp
   go_enter Tryz.func132,Tryz.ntmps132
   go_wp2_with (go_at_call 180;refine(agC r _ (by omega) (by omega)).use ?_)
   go_step3
   go_wp2_with fail
   refine wp_loop_rounds 1 ?_
   rw[rounds_succ]
   go_wp2_with fail
   go_step3
   go_wp2_with fail
   refine aht (by kernel_rfl) (by kernel_rfl) ?_
   repeat (first|go_big_quiet_skip|(go_big_quiet_want;go_big_quiet_op;first|go_big_quiet_on|(apply Exists.intro;apply And.intro;(focus (intro _ hg;fail));go_big_quiet_on)|(refine⟨_,fun _ _=>rfl,?_⟩;go_big_quiet_on)))
   refine wpQuiet_nil ?_
   intro wq gq
   go_wp2_with fail
   refine aht (by kernel_rfl) (by kernel_rfl) ?_
   repeat (first|go_big_quiet_skip|(go_big_quiet_want;go_big_quiet_op;first|go_big_quiet_on|(apply Exists.intro;apply And.intro;(focus (intro _ hg;(go_at_call 76;exact adV.gq hg (HX.out _))));go_big_quiet_on)|(refine⟨_,fun _ _=>rfl,?_⟩;go_big_quiet_on)))
   refine wpQuiet_nil ?_
   intro wq gq
   go_wp2_with fail
   rw[Exit.noGoto_ret]
   go_wp2_with fail
   rw[Exit.noGoto_ret]
   go_wp2_with fail
   go_ret
   exact⟨rfl,(by repeat (first|exact G.refl _|assumption|apply G.drew|apply G.drewN|apply G.alloc|refine G.trans ?_ (by assumption)))⟩
  ·go_enter Tryz.func132,Tryz.ntmps132
   go_wp2_with (go_at_call 180;refine(agC r _ (by omega) (by omega)).use ?_)
   go_step3
   go_wp2_with fail
   refine wp_loop_rounds 1 ?_
   rw[rounds_succ]
   go_wp2_with fail
   rw[Exit.noGoto_ret]
   go_wp2_with fail
   go_ret
   exact⟨rfl,G.refl _⟩
end Go.Proofs.YtmffejnigppbpaaGreatDoor

set_option maxHeartbeats 4000000
set_option maxRecDepth 100000
namespace Go.Proofs.YtmffejnigppbpaaGreatDoor
open Go.RowKit
theorem aqU{s chars:List UInt8}{i j:Nat}(h:Lib.NoAny s chars i)(hij:i≤j)(ha:adO chars)(hh:∀k,i≤k→k<j→∀b,s[k]?=some b→128≤b.toNat):Lib.NoAny s chars j:=by
 intro k b hk hb
 by_cases hki:k<i
 ·exact h k b hki hb
 ·have h1:=hh k (by omega) hk b hb
  cases hc:chars.contains b with
  |false=>rfl
  |true=>
   have:=ha b (by simpa using hc)
   omega
def iterSet(w:World)(b:Nat)(s:ByteArray)(p:Nat):World:={ w with heap:=w.heap.setIfInBounds b (.stringIter s p) }
theorem aqV{w:World}{b:Nat}{s t:ByteArray}{p q:Nat}(h:w.heap[b]?=some (.stringIter t q)):(iterSet w b s p).heap[b]?=some (.stringIter s p):=by
 have hb:b<w.heap.size:=by
  rcases Nat.lt_or_ge b w.heap.size with h'|h'
  ·exact h'
  ·rw[Array.getElem?_eq_none h']at h;cases h
 show(w.heap.setIfInBounds b _)[b]?=_
 rw[Array.getElem?_setIfInBounds_self_of_lt hb]
theorem G.iterSet{w0 w:World}{b:Nat}(g:G w0 w)(hb:w0.heap.size≤b)(s:ByteArray)(p:Nat):G w0 (iterSet w b s p):=by
 refine⟨g.1,g.2,g.3,?_,?_⟩
 ·have:=g.size;show _≤(w.heap.setIfInBounds _ _).size;simpa using this
 ·intro k hk
  show(w.heap.setIfInBounds b _)[k]?=_
  rw[Array.getElem?_setIfInBounds_ne (by omega)]
  exact g.below.block k hk
theorem aur{P:Program}(w:World)(b:Nat)(s:ByteArray)(pos:Nat)(ty:TypeId)(hb:w.heap[b]?=some (.stringIter s pos))(h:¬pos<s.size) :
  (Instr.next (.pointer (some ⟨b,0,none⟩)) true ty).run P w=.ok (.tuple #[.bool false]) w:=by
 simp[Instr.next,getObj,Sem.run,hb,h]
theorem anb{P:Program}(w:World)(b:Nat)(s:ByteArray)(pos:Nat)(ty:TypeId)(hb:w.heap[b]?=some (.stringIter s pos))(h:pos<s.size) :
  (Instr.next (.pointer (some ⟨b,0,none⟩)) true ty).run P w=.ok (.tuple #[.bool true,.int .i64 pos,.int .i32 (Utf8.decode s pos).1]) (iterSet w b s (pos+(Utf8.decode s pos).2)):=by
 simp only[Instr.next,getObj,setObj,Sem.run_bind,Sem.run,hb,Result.andThen,h,if_true]
 simp[goInt,iterSet]
theorem akd(l:List UInt8)(r:Nat)(w:World)(ha:adO l)(hl:l.length≤1000)(h1:128≤r)(h2:r≤2147483647):Um 132 #[.string (S l),.int .i32 (r:Int)] w (.int .i64 (-1)):=by
 by_cases h:r=65533
 ·subst h;exact alg l w ha hl
 ·exact alL l r w ha hl (by omega) (by omega) (beq_eq_false_iff_ne.2 (by omega))
theorem alK(s chars:List UInt8)(w:World)(hs:s.length≤8)(h2:2≤chars.length)(hc:chars.length≤1000)(ha:adO chars):Um 88 #[.string (S s),.string (S chars)] w (.int .i64 (Lib.indexAny s chars)):=by
 have HA:=hid ha;clear ha
 have hemp:chars.isEmpty=false:=by cases chars with
  |nil=>simp at h2
  |cons _ _=>rfl
 have hn1:((chars.length:Int)==1)=false:=beq_eq_false_iff_ne.2 (by omega)
 have h8z:decide ((8:Int)<(s.length:Int))=false:=decide_eq_false (by omega)
 go_enter Tryz.func88,Tryz.ntmps88
 go_wp2_with (go_at_call 133;refine(Tryz.strings_shouldUseASCIISet _ _).mono ?_;rintro e w' ⟨rfl,hw⟩;rw[hw,h8z])
 go_loopg [9,10] s.length (fun g _ _ wx=>∃i:Nat,i≤s.length∧s.length≤i+g∧wx.heap[w.heap.size]?=some (.stringIter (S s) i)∧G w wx∧Lib.NoAny s chars i)
 case atStart=>exact⟨0,by omega,by omega,World.iter_heap _ _ _,(G.refl _).alloc _,Lib.NoAny.zero _ _⟩
 case round=>
  obtain⟨i,hi0,hig,hbk,hgr,hno⟩:=hrel
  have HN:=hid hno
  have HG:=hid hgr
  clear hno hgr
  by_cases hi:i<s.length
  ·obtain⟨g,rfl⟩:∃g,gk=g+1:=⟨gk-1,by omega⟩
   have hi':i<(S s).size:=by simpa using hi
   have hnx:=fun ty=>anb (P:=Tryz.prog) _ _ (S s) i ty hbk hi'
   have HB:Hid (∀p,(iterSet _ w.heap.size (S s) p).heap[w.heap.size]?=some (.stringIter (S s) p)):=hid (fun p=>aqV (p:=p) (s:=S s) hbk)
   clear hbk
   obtain⟨x,hx⟩:∃x:UInt8,s[i]'hi=x:=⟨_,rfl⟩
   have hxl:s[i]?=some x:=by rw[←hx];exact List.getElem?_eq_getElem hi
   by_cases hlow:x.toNat<128
   ·have hd:=decode_ascii (S s) i hi' (by simpa[hx]using hlow)
    simp only[axO,hx]at hd
    rw[hd]at hnx
    have Hx:=hid hxl
    clear hd hxl hx
    have hcon:=Lib.contains_iff_indexByte chars x
    have hback:((x.toNat:Int)).toNat.toUInt8=x:=by simp
    cases hin:chars.contains x
    ·rw[hin]at hcon
     have hlt:¬((0:Int)≤Lib.indexByte chars x):=of_decide_eq_false hcon.symm
     clear hcon
     go_wp2_with (go_at_call 132;refine(Tryz.strings_IndexRune_ascii _ _ _ (by omega) (by omega)).mono ?_;rintro e w' ⟨rfl,hw⟩;rw[hw,hback])
     go_roundg g
     case measure=>omega
     case rel=>exact⟨i+1,by omega,by omega,HB.out _,HG.out.iterSet (Nat.le_refl _) _ _,HN.out.succ Hx.out hin⟩
    ·rw[hin]at hcon
     have hge:(0:Int)≤Lib.indexByte chars x:=of_decide_eq_true hcon.symm
     clear hcon
     go_wp2_with (go_at_call 132;refine(Tryz.strings_IndexRune_ascii _ _ _ (by omega) (by omega)).mono ?_;rintro e w' ⟨rfl,hw⟩;rw[hw,hback])
     go_ret
     exact⟨by rw[Lib.indexAny_hit HN.out Hx.out hin];rfl,HG.out.iterSet (Nat.le_refl _) _ _⟩
   ·have hd:=decode_high (S s) i hi' (by simp[hx];omega)
    have hm:=decode_le (S s) i
    have hcont:=apk (S s) i
    have hcont':=hid hcont
    clear hcont
    obtain⟨r,n,hrn⟩:∃r n,Utf8.decode (S s) i=(r,n):=⟨_,_,rfl⟩
    rw[hrn]at hnx hd hm hcont'
    have hin:i+n≤s.length:=by
     by_cases h1:n=1
     ·omega
     ·have:=(hcont'.out (n-1) (by have:1≤n:=hd.2;omega) (by have:1≤n:=hd.2;show n-1<n;omega)).1
      rw[ahu]at this;omega
    have HM:Hid (Lib.NoAny s chars (i+n)):=hid (aqU HN.out (by omega) HA.out (by
     intro k hk1 hk2 b hb
     by_cases hki:k=i
     ·subst hki;rw[hxl]at hb;injection hb with hb;subst hb;omega
     ·have:=hcont'.out (k-i) (by omega) (by show k-i<n;omega)
      have hkl:k<s.length:=by omega
      have e:i+(k-i)=k:=by omega
      rw[e]at this
      have hg:(S s).get! k=b:=by
       have h1:(S s).get! k=(S s).data[k]'(by show k<s.toArray.size;simpa using hkl):=getElem!_pos (S s).data k _
       rw[h1]
       rw[List.getElem?_eq_getElem hkl]at hb
       injection hb with hb
      rw[hg]at this
      exact this.2))
    have hr1:128≤r:=hd.1
    have hr2:r≤2147483647:=hm
    have hn1':1≤n:=hd.2
    clear hd hm hcont' hxl hx
    have Hrn:=hid hrn
    clear hrn
    dsimp only at hnx
    go_wp2_with (go_at_call 132;refine(akd chars r _ HA.out hc hr1 hr2).use ?_;intro w2 g2)
    go_roundg g
    case measure=>omega
    case rel=>
     have hlt:w.heap.size<(iterSet wr w.heap.size (S s) (i+n)).heap.size:=by
      rcases Nat.lt_or_ge w.heap.size (iterSet wr w.heap.size (S s) (i+n)).heap.size with h'|h'
      ·exact h'
      ·have:=HB.out (i+n)
       rw[Array.getElem?_eq_none h']at this;cases this
     exact⟨i+n,hin,by omega,by rw[g2.below.block _ hlt];exact HB.out _,(HG.out.iterSet (Nat.le_refl _) _ _).trans g2,HM.out⟩
  ·obtain rfl:i=s.length:=by omega
   have hnx:=fun ty=>aur (P:=Tryz.prog) _ _ (S s) s.length ty hbk (by simp)
   clear hbk
   go_wp2
   go_ret
   exact⟨by rw[Lib.indexAny_none HN.out];rfl,HG.out⟩
theorem awk(w:World):(zeroValue 178).run Tryz.prog w=.ok (.agg (Array.replicate 256 (.bool false))) w:=by kernel_rfl
theorem ajj(s chars:List UInt8)(w:World)(hs:s.length≤1000000)(h2:2≤chars.length)(hc:chars.length≤1000)(ha:adO chars):Um 88 #[.string (S s),.string (S chars)] w (.int .i64 (Lib.indexAny s chars)):=by
 by_cases h8:s.length≤8
 ·exact alK s chars w h8 h2 hc ha
 ·refine(Tryz.strings_IndexAny_long awk (S s) (S chars) w (by simpa using h2) (by simp;omega) (by simp;omega) (by simp;omega) ?_).mono ?_
  ·intro j b hb
   exact ha b (List.mem_of_getElem? hb)
  ·rintro e w' ⟨rfl,rfl⟩
   exact⟨rfl,((G.refl _).alloc _).alloc _⟩
theorem aho(s chars:List UInt8)(w:World)(hs:s.length≤1000000)(h2:2≤chars.length)(hc:chars.length≤1000)(ha:adO chars):Um 48 #[.string (S s),.string (S chars)] w (.bool (Lib.containsAny s chars)):=by
 go_enter Tryz.func48,Tryz.ntmps48
 go_wp2_with fail
 refine(ajj s chars _ hs h2 hc ha).use ?_;intro w1 g1
 go_wp2_with fail
 go_ret
 exact⟨rfl,g1⟩
theorem ag0{s chars:List UInt8}(h:∀c∈s,chars.contains c=false):Lib.indexAny s chars = -1:=Lib.indexAny_none fun j b _ hb=>h b (List.mem_of_getElem? hb)
theorem ajk{s chars:List UInt8}{k:Nat}(hk:k<s.length)(h:∀i (hi:i<k),chars.contains (s[i]'(by omega))=false)(hc:chars.contains (s[k]'hk)=true):Lib.indexAny s chars=k:=
 Lib.indexAny_hit (x:=s[k]'hk) (fun j b hj hb=>by
  rw[List.getElem?_eq_getElem (show j<s.length by omega)]at hb
  injection hb with hb
  rw[←hb];exact h j hj) (List.getElem?_eq_getElem hk) hc
end Go.Proofs.YtmffejnigppbpaaGreatDoor
