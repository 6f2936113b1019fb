/-
  Texts merged into one: Nums, AnyShort, Any, TextStill, TextLists, CountMap, Ruled.
-/
import Derived.Test.YtmffejnigppbpaaGreatDoorCXMA52
import Derived.OwnWalk
import Derived.Test.YtmffejnigppbpaaGreatDoorCXMA59
import Derived.Lib.IndexAny
import Derived.Laws.RangeString
import Derived.Laws.RangeAny
import Derived.Laws.Runes
import Derived.Laws.Strings3
import Derived.Deep.LoopGhost
import Derived.WalkMore
import Derived.Test.YtmffejnigppbpaaGreatDoorCXShelf
import Derived.Test.YtmffejnigppbpaaGreatDoorCXMA69
import Derived.Lib.AppendZerosOnto
import Derived.Lib.AppendZeros
import Derived.Laws.AppendOwnNone
import Derived.Test.YtmffejnigppbpaaGreatDoorCXMA54
import Derived.Test.YtmffejnigppbpaaGreatDoorCXMA68
set_option linter.unusedVariables false
set_option linter.unusedSimpArgs false
namespace Go.Proofs.YtmffejnigppbpaaGreatDoor
open Go.RowKit
def Sv(w:World)(v:Value)(xs:List Int):Prop:=
 ∃a cap,v=.slice a xs.length cap∧xs.length≤cap∧(xs≠[]→∃b off,a=some ⟨b,off,none⟩∧b<w.heap.size∧∀(i:Nat) (x:Int),xs[i]?=some x→w.cell? ⟨b,off+i,none⟩=some (.int .i64 x))
theorem Sv.grow{w w':World}{v:Value}{xs:List Int}(h:Sv w v xs)(g:G w w'):Sv w' v xs:=by
 obtain⟨a,cap,e,hc,h⟩:=h
 refine⟨a,cap,e,hc,fun h0=>?_⟩
 obtain⟨b,off,e2,hb,h⟩:=h h0
 exact⟨b,off,e2,Nat.lt_of_lt_of_le hb g.size,fun i x hx=>by rw[g.cell hb];exact h i x hx⟩
def Wj(w:World)(base:Nat)(v:Value)(xs:List Int):Prop:=w.ownsRow base 3 1 v xs.length (xs.map (Value.int .i64))
theorem Wj.grow{w w':World}{base:Nat}{v:Value}{xs:List Int}(h:Wj w base v xs)(g:G w w'):Wj w' base v xs:=
 World.ownsRow.kept h (rM none g) (by cases hv:v.ownBlock<;>simp)
theorem Wj.mono{w:World}{base base':Nat}{v:Value}{xs:List Int}(h:Wj w base v xs)(hb:base'≤base):Wj w base' v xs:=by
 obtain⟨h1,h2⟩:=h
 refine⟨h1,?_⟩
 rcases h2 with h2|⟨g,cap,cur,e,hb',r⟩
 ·exact .inl h2
 ·exact .inr ⟨g,cap,cur,e,Nat.le_trans hb hb',r⟩
end Go.Proofs.YtmffejnigppbpaaGreatDoor

set_option maxHeartbeats 1000000
set_option maxRecDepth 100000
namespace Go.Proofs.YtmffejnigppbpaaGreatDoor
open Go.RowKit
theorem QF(s:ByteArray)(pos:Nat):(Utf8.decode s pos).2≤4:=by
 simp only[Utf8.decode]
 repeat' split
 all_goals omega
theorem Oa(s:ByteArray)(pos k:Nat)(h1:1≤k)(h2:k<(Utf8.decode s pos).2):pos+k<s.size∧128≤(s.get! (pos+k)).toNat:=by
 have h4:=QF s pos
 have hk:k=1∨k=2∨k=3:=by omega
 clear h4 h1
 rcases hk with rfl|rfl|rfl
 all_goals
  simp only[Utf8.decode]at h2
  repeat' split at h2
  all_goals simp only[Bool.and_eq_true,decide_eq_true_eq,beq_iff_eq]at *
  all_goals omega
def uI(l:List UInt8):Prop:=∀c∈l,c.toNat<128
theorem uI.drop{l:List UInt8}(h:uI l)(k:Nat):uI (l.drop k):=fun c hc=>h c (List.mem_of_mem_drop hc)
theorem FC(l:List UInt8)(w:World)(ha:uI l)(hl:l.length≤1000):dA 132 #[.string (S l),.int .i32 65533] w (.int .i64 (-1)):=by
 have HA:=hid ha;clear ha
 go_enter Tryz.func132,Tryz.ntmps132
 go_wp2
 go_loopg [] l.length (fun g wx=>∃i:Nat,i+g=l.length∧wx=w.iter (S l) i)
 case atStart=>exact⟨0,by omega,rfl⟩
 case round=>
  obtain⟨i,hig,rfl⟩:=hrel
  cases gk with
  |zero=>
   obtain rfl:i=l.length:=by omega
   have hnx:=run_next_end (P:=Tryz.prog) w (S l) l.length
   go_wp2
   go_ret
   exact⟨rfl,(G.refl _).alloc _⟩
  |succ g=>
   have hi:i<l.length:=by omega
   have hx:l[i].toNat<128:=HA.out _ (List.getElem_mem hi)
   have hnx:=fun ty=>run_next_ascii (P:=Tryz.prog) w (S l) i ty (by simpa using hi) (by simpa using hx)
   rw[Xq]at hnx
   have hne:(((l[i].toNat:Nat):Int)==65533)=false:=beq_eq_false_iff_ne.2 (by omega)
   go_wp2
   go_roundg g
   case measure=>omega
   case rel=>exact⟨i+1,by omega,rfl⟩
theorem Jw(r:Int):∃rs:List UInt8,Utf8.encode r=S rs:=⟨(Utf8.encode r).data.toList,rfl⟩
theorem Ob(r:Int)(h:128≤r)(hv:Utf8.valid r=true):∃init:List UInt8,∃c:UInt8,Utf8.encode r=S (init++[c])∧1≤init.length∧init.length≤3∧128≤c.toNat:=by
 obtain⟨h1,h2,h3⟩:=encode_facts r hv h
 obtain⟨rs,hrs⟩:=Jw r
 rw[hrs]at h1 h2
 simp only[xB]at h1 h2
 have hne:rs≠[]:=by intro e;subst e;simp at h1
 refine⟨rs.dropLast,rs.getLast hne,?_,by simp;omega,by simp;omega,?_⟩
 ·rw[hrs,List.dropLast_concat_getLast]
 ·have:=h3 (by rw[hrs];simp;omega)
  simp only[hrs]at this
  rw[List.getLast_eq_getElem]
  simpa using this
theorem uJ(r:Int)(w:World)(h1:0≤r)(h2:r≤2147483647):nT 180 #[.int .i32 r] w (.bool (Utf8.valid r)):=by
 go_enter Tryz.func180,Tryz.ntmps180
 go_wp2
 all_goals go_ret
 all_goals refine⟨cO ?_,rfl⟩
 all_goals (rw[validRune_eq];unfold validRune;first|exact(decide_eq_true (by omega)).symm|exact(decide_eq_false (by omega)).symm)
theorem Gl(l:List UInt8)(r:Int)(w:World)(ha:uI l)(hl:l.length≤1000)(h1:128≤r)(h2:r≤2147483647)(h3:(r==65533)=false):dA 132 #[.string (S l),.int .i32 r] w (.int .i64 (-1)):=by
 have HA:=hid ha;clear ha
 cases hv:Utf8.valid r with
 |false=>
  go_enter Tryz.func132,Tryz.ntmps132
  go_wp2_with (go_at_call 180;refine(uJ r _ (by omega) (by omega)).use ?_)
  go_ret
  exact⟨rfl,G.refl _⟩
 |true=>
  obtain⟨init,c,he,i1,i3,hc⟩:=Ob r h1 hv
  have hlen:(init++[c]).length=init.length+1:=by simp
  have hix:=tK (l.drop (init.length+1)) c (fun hm=>by have:=HA.out.drop _ c hm;omega)
  have HX:Hid (∀w,nT 76 #[.string (S (l.drop (init.length+1))),.int .u8 (c.toNat:Int)] w (.int .i64 (-1))):=hid (fun w=>by
   have:=qI (l.drop (init.length+1)) c w
   rw[hix]at this;exact this)
  clear hix
  have hcv:∀w,(convert 21 9 (.int .i32 r)).run Tryz.prog w=.ok (.string (S (init++[c]))) w:=fun w=>by
   rw[run_convert_int_string w _ _ _ _ (by kernel_rfl) Tryz.underlying9,he]
  clear he
  by_cases hlt:init.length<l.length
  ·have hx:l[init.length].toNat<128:=HA.out _ (List.getElem_mem hlt)
   have hcx:(((l[init.length].toNat:Nat):Int) != (c.toNat:Int))=true:=by
    simp;intro e;omega
   have hgc:(init++[c])[init.length]'(by simp)=c:=by simp
   go_enter Tryz.func132,Tryz.ntmps132
   go_wp2_with (go_at_call 180;refine(uJ r _ (by omega) (by omega)).use ?_)
   go_step3
   go_wp2_with fail
   refine wp_loop_rounds 1 ?_
   rw[rounds_succ]
   go_wp2_with fail
   go_step3
   go_wp2_with fail
   refine xx (by kernel_rfl) (by kernel_rfl) ?_
   repeat (first|go_big_quiet_skip|(go_big_quiet_want;go_big_quiet_op;first|go_big_quiet_on|(apply Exists.intro;apply And.intro;(focus (intro _ hg;fail));go_big_quiet_on)|(refine⟨_,fun _ _=>rfl,?_⟩;go_big_quiet_on)))
   refine wpQuiet_nil ?_
   intro wq gq
   go_wp2_with fail
   refine xx (by kernel_rfl) (by kernel_rfl) ?_
   repeat (first|go_big_quiet_skip|(go_big_quiet_want;go_big_quiet_op;first|go_big_quiet_on|(apply Exists.intro;apply And.intro;(focus (intro _ hg;(go_at_call 76;exact nT.gq hg (HX.out _))));go_big_quiet_on)|(refine⟨_,fun _ _=>rfl,?_⟩;go_big_quiet_on)))
   refine wpQuiet_nil ?_
   intro wq gq
   go_wp2_with fail
   rw[Exit.noGoto_ret]
   go_wp2_with fail
   rw[Exit.noGoto_ret]
   go_wp2_with fail
   go_ret
   exact⟨rfl,(by repeat (first|exact G.refl _|assumption|apply G.drew|apply G.drewN|apply G.alloc|refine G.trans ?_ (by assumption)))⟩
  ·go_enter Tryz.func132,Tryz.ntmps132
   go_wp2_with (go_at_call 180;refine(uJ r _ (by omega) (by omega)).use ?_)
   go_step3
   go_wp2_with fail
   refine wp_loop_rounds 1 ?_
   rw[rounds_succ]
   go_wp2_with fail
   rw[Exit.noGoto_ret]
   go_wp2_with fail
   go_ret
   exact⟨rfl,G.refl _⟩
end Go.Proofs.YtmffejnigppbpaaGreatDoor

set_option maxHeartbeats 4000000
set_option maxRecDepth 100000
namespace Go.Proofs.YtmffejnigppbpaaGreatDoor
open Go.RowKit
theorem QD{s chars:List UInt8}{i j:Nat}(h:Lib.NoAny s chars i)(hij:i≤j)(ha:uI chars)(hh:∀k,i≤k→k<j→∀b,s[k]?=some b→128≤b.toNat):Lib.NoAny s chars j:=by
 intro k b hk hb
 by_cases hki:k<i
 ·exact h k b hki hb
 ·have h1:=hh k (by omega) hk b hb
  cases hc:chars.contains b with
  |false=>rfl
  |true=>
   have:=ha b (by simpa using hc)
   omega
def iterSet(w:World)(b:Nat)(s:ByteArray)(p:Nat):World:={ w with heap:=w.heap.setIfInBounds b (.stringIter s p) }
theorem QE{w:World}{b:Nat}{s t:ByteArray}{p q:Nat}(h:w.heap[b]?=some (.stringIter t q)):(iterSet w b s p).heap[b]?=some (.stringIter s p):=by
 have hb:b<w.heap.size:=by
  rcases Nat.lt_or_ge b w.heap.size with h'|h'
  ·exact h'
  ·rw[Array.getElem?_eq_none h']at h;cases h
 show(w.heap.setIfInBounds b _)[b]?=_
 rw[Array.getElem?_setIfInBounds_self_of_lt hb]
theorem G.iterSet{w0 w:World}{b:Nat}(g:G w0 w)(hb:w0.heap.size≤b)(s:ByteArray)(p:Nat):G w0 (iterSet w b s p):=by
 refine⟨g.1,g.2,g.3,?_,?_⟩
 ·have:=g.size;show _≤(w.heap.setIfInBounds _ _).size;simpa using this
 ·intro k hk
  show(w.heap.setIfInBounds b _)[k]?=_
  rw[Array.getElem?_setIfInBounds_ne (by omega)]
  exact g.below.block k hk
theorem Xh{P:Program}(w:World)(b:Nat)(s:ByteArray)(pos:Nat)(ty:TypeId)(hb:w.heap[b]?=some (.stringIter s pos))(h:¬pos<s.size) :
  (Instr.next (.pointer (some ⟨b,0,none⟩)) true ty).run P w=.ok (.tuple #[.bool false]) w:=by
 simp[Instr.next,getObj,Sem.run,hb,h]
theorem Jt{P:Program}(w:World)(b:Nat)(s:ByteArray)(pos:Nat)(ty:TypeId)(hb:w.heap[b]?=some (.stringIter s pos))(h:pos<s.size) :
  (Instr.next (.pointer (some ⟨b,0,none⟩)) true ty).run P w=.ok (.tuple #[.bool true,.int .i64 pos,.int .i32 (Utf8.decode s pos).1]) (iterSet w b s (pos+(Utf8.decode s pos).2)):=by
 simp only[Instr.next,getObj,setObj,Sem.run_bind,Sem.run,hb,Result.andThen,h,if_true]
 simp[goInt,iterSet]
theorem Dw(l:List UInt8)(r:Nat)(w:World)(ha:uI l)(hl:l.length≤1000)(h1:128≤r)(h2:r≤2147483647):dA 132 #[.string (S l),.int .i32 (r:Int)] w (.int .i64 (-1)):=by
 by_cases h:r=65533
 ·subst h;exact FC l w ha hl
 ·exact Gl l r w ha hl (by omega) (by omega) (beq_eq_false_iff_ne.2 (by omega))
theorem Gj(s chars:List UInt8)(w:World)(hs:s.length≤8)(h2:2≤chars.length)(hc:chars.length≤1000)(ha:uI chars):dA 88 #[.string (S s),.string (S chars)] w (.int .i64 (Lib.indexAny s chars)):=by
 have HA:=hid ha;clear ha
 have hemp:chars.isEmpty=false:=by cases chars with
  |nil=>simp at h2
  |cons _ _=>rfl
 have hn1:((chars.length:Int)==1)=false:=beq_eq_false_iff_ne.2 (by omega)
 have h8z:decide ((8:Int)<(s.length:Int))=false:=decide_eq_false (by omega)
 go_enter Tryz.func88,Tryz.ntmps88
 go_wp2_with (go_at_call 133;refine(Tryz.strings_shouldUseASCIISet _ _).mono ?_;rintro e w' ⟨rfl,hw⟩;rw[hw,h8z])
 go_loopg [9,10] s.length (fun g _ _ wx=>∃i:Nat,i≤s.length∧s.length≤i+g∧wx.heap[w.heap.size]?=some (.stringIter (S s) i)∧G w wx∧Lib.NoAny s chars i)
 case atStart=>exact⟨0,by omega,by omega,World.iter_heap _ _ _,(G.refl _).alloc _,Lib.NoAny.zero _ _⟩
 case round=>
  obtain⟨i,hi0,hig,hbk,hgr,hno⟩:=hrel
  have HN:=hid hno
  have HG:=hid hgr
  clear hno hgr
  by_cases hi:i<s.length
  ·obtain⟨g,rfl⟩:∃g,gk=g+1:=⟨gk-1,by omega⟩
   have hi':i<(S s).size:=by simpa using hi
   have hnx:=fun ty=>Jt (P:=Tryz.prog) _ _ (S s) i ty hbk hi'
   have HB:Hid (∀p,(iterSet _ w.heap.size (S s) p).heap[w.heap.size]?=some (.stringIter (S s) p)):=hid (fun p=>QE (p:=p) (s:=S s) hbk)
   clear hbk
   obtain⟨x,hx⟩:∃x:UInt8,s[i]'hi=x:=⟨_,rfl⟩
   have hxl:s[i]?=some x:=by rw[←hx];exact List.getElem?_eq_getElem hi
   by_cases hlow:x.toNat<128
   ·have hd:=decode_ascii (S s) i hi' (by simpa[hx]using hlow)
    simp only[Xq,hx]at hd
    rw[hd]at hnx
    have Hx:=hid hxl
    clear hd hxl hx
    have hcon:=Lib.contains_iff_indexByte chars x
    have hback:((x.toNat:Int)).toNat.toUInt8=x:=by simp
    cases hin:chars.contains x
    ·rw[hin]at hcon
     have hlt:¬((0:Int)≤Lib.indexByte chars x):=of_decide_eq_false hcon.symm
     clear hcon
     go_wp2_with (go_at_call 132;refine(Tryz.strings_IndexRune_ascii _ _ _ (by omega) (by omega)).mono ?_;rintro e w' ⟨rfl,hw⟩;rw[hw,hback])
     go_roundg g
     case measure=>omega
     case rel=>exact⟨i+1,by omega,by omega,HB.out _,HG.out.iterSet (Nat.le_refl _) _ _,HN.out.succ Hx.out hin⟩
    ·rw[hin]at hcon
     have hge:(0:Int)≤Lib.indexByte chars x:=of_decide_eq_true hcon.symm
     clear hcon
     go_wp2_with (go_at_call 132;refine(Tryz.strings_IndexRune_ascii _ _ _ (by omega) (by omega)).mono ?_;rintro e w' ⟨rfl,hw⟩;rw[hw,hback])
     go_ret
     exact⟨by rw[Lib.indexAny_hit HN.out Hx.out hin];rfl,HG.out.iterSet (Nat.le_refl _) _ _⟩
   ·have hd:=decode_high (S s) i hi' (by simp[hx];omega)
    have hm:=decode_le (S s) i
    have hcont:=Oa (S s) i
    have hcont':=hid hcont
    clear hcont
    obtain⟨r,n,hrn⟩:∃r n,Utf8.decode (S s) i=(r,n):=⟨_,_,rfl⟩
    rw[hrn]at hnx hd hm hcont'
    have hin:i+n≤s.length:=by
     by_cases h1:n=1
     ·omega
     ·have:=(hcont'.out (n-1) (by have:1≤n:=hd.2;omega) (by have:1≤n:=hd.2;show n-1<n;omega)).1
      rw[xB]at this;omega
    have HM:Hid (Lib.NoAny s chars (i+n)):=hid (QD HN.out (by omega) HA.out (by
     intro k hk1 hk2 b hb
     by_cases hki:k=i
     ·subst hki;rw[hxl]at hb;injection hb with hb;subst hb;omega
     ·have:=hcont'.out (k-i) (by omega) (by show k-i<n;omega)
      have hkl:k<s.length:=by omega
      have e:i+(k-i)=k:=by omega
      rw[e]at this
      have hg:(S s).get! k=b:=by
       have h1:(S s).get! k=(S s).data[k]'(by show k<s.toArray.size;simpa using hkl):=getElem!_pos (S s).data k _
       rw[h1]
       rw[List.getElem?_eq_getElem hkl]at hb
       injection hb with hb
      rw[hg]at this
      exact this.2))
    have hr1:128≤r:=hd.1
    have hr2:r≤2147483647:=hm
    have hn1':1≤n:=hd.2
    clear hd hm hcont' hxl hx
    have Hrn:=hid hrn
    clear hrn
    dsimp only at hnx
    go_wp2_with (go_at_call 132;refine(Dw chars r _ HA.out hc hr1 hr2).use ?_;intro w2 g2)
    go_roundg g
    case measure=>omega
    case rel=>
     have hlt:w.heap.size<(iterSet wr w.heap.size (S s) (i+n)).heap.size:=by
      rcases Nat.lt_or_ge w.heap.size (iterSet wr w.heap.size (S s) (i+n)).heap.size with h'|h'
      ·exact h'
      ·have:=HB.out (i+n)
       rw[Array.getElem?_eq_none h']at this;cases this
     exact⟨i+n,hin,by omega,by rw[g2.below.block _ hlt];exact HB.out _,(HG.out.iterSet (Nat.le_refl _) _ _).trans g2,HM.out⟩
  ·obtain rfl:i=s.length:=by omega
   have hnx:=fun ty=>Xh (P:=Tryz.prog) _ _ (S s) s.length ty hbk (by simp)
   clear hbk
   go_wp2
   go_ret
   exact⟨by rw[Lib.indexAny_none HN.out];rfl,HG.out⟩
theorem Zn(w:World):(zeroValue 178).run Tryz.prog w=.ok (.agg (Array.replicate 256 (.bool false))) w:=by kernel_rfl
theorem LU(s chars:List UInt8)(w:World)(hs:s.length≤1000000)(h2:2≤chars.length)(hc:chars.length≤1000)(ha:uI chars):dA 88 #[.string (S s),.string (S chars)] w (.int .i64 (Lib.indexAny s chars)):=by
 by_cases h8:s.length≤8
 ·exact Gj s chars w h8 h2 hc ha
 ·refine(Tryz.strings_IndexAny_long Zn (S s) (S chars) w (by simpa using h2) (by simp;omega) (by simp;omega) (by simp;omega) ?_).mono ?_
  ·intro j b hb
   exact ha b (List.mem_of_getElem? hb)
  ·rintro e w' ⟨rfl,rfl⟩
   exact⟨rfl,((G.refl _).alloc _).alloc _⟩
theorem FB(s chars:List UInt8)(w:World)(hs:s.length≤1000000)(h2:2≤chars.length)(hc:chars.length≤1000)(ha:uI chars):dA 48 #[.string (S s),.string (S chars)] w (.bool (Lib.containsAny s chars)):=by
 go_enter Tryz.func48,Tryz.ntmps48
 go_wp2_with fail
 refine(LU s chars _ hs h2 hc ha).use ?_;intro w1 g1
 go_wp2_with fail
 go_ret
 exact⟨rfl,g1⟩
theorem LV{s chars:List UInt8}(h:∀c∈s,chars.contains c=false):Lib.indexAny s chars = -1:=Lib.indexAny_none fun j b _ hb=>h b (List.mem_of_getElem? hb)
theorem LX{s chars:List UInt8}{k:Nat}(hk:k<s.length)(h:∀i (hi:i<k),chars.contains (s[i]'(by omega))=false)(hc:chars.contains (s[k]'hk)=true):Lib.indexAny s chars=k:=
 Lib.indexAny_hit (x:=s[k]'hk) (fun j b hj hb=>by
  rw[List.getElem?_eq_getElem (show j<s.length by omega)]at hb
  injection hb with hb
  rw[←hb];exact h j hj) (List.getElem?_eq_getElem hk) hc
end Go.Proofs.YtmffejnigppbpaaGreatDoor

namespace Go.Proofs.YtmffejnigppbpaaGreatDoor
open Go.RowKit
theorem Lm{ls:List (List (List UInt8))}{v:Value}{w:World}(h:YJ ls v w)(h1:ls≠[])(h2:∀l∈ls,l≠[]):v=.tuple #[.string (S (oH ls)),.nilIface]:=by
 rcases h with⟨h,_⟩|⟨_,_,h⟩|⟨k,e,h,_⟩
 ·exact absurd h h1
 ·exact h
 ·exact absurd rfl (h2 _ (List.mem_of_getElem? h))
end Go.Proofs.YtmffejnigppbpaaGreatDoor

namespace Go.Proofs.YtmffejnigppbpaaGreatDoor
open Go.RowKit
theorem di.one{w:World}{v:Value}{ls:List (List UInt8)}(h:di w v ls):v.oneCell'=true:=by
 obtain⟨a,c,rfl,_⟩:=h.len;rfl
theorem NG(a b:List (List UInt8))(ha:a≠[])(hb:b≠[]):iJ (a++b)=iJ a++44::iJ b:=by
 cases a with
 |nil=>exact absurd rfl ha
 |cons x xs=>
  cases b with
  |nil=>exact absurd rfl hb
  |cons y ys=>
   rw[List.cons_append,tY,tY,tY,wX,wX,wX]
   simp[Lib.joinTail]
end Go.Proofs.YtmffejnigppbpaaGreatDoor

namespace Go.Proofs.YtmffejnigppbpaaGreatDoor
open Go.RowKit Go.MapKept
structure xM(es:Array MapEntry)(c:Nat)(f:List UInt8→Int):Prop where
 st:Stamped es c
 en:∀e∈es.toList,∃k,e.key=.string (S k)∧e.val=.int .i64 (f k)
 al:∀k,f k≠0→∃e∈es.toList,e.key=.string (S k)
theorem XW{a b:List UInt8}(h:Value.string (S a)=.string (S b)):a=b:=by
 injection h with h
 exact Xr.1 h
theorem ZJ(c:Nat):xM #[] c (fun _=>0):=⟨stamped_empty c,by simp,fun k h=>absurd rfl h⟩
theorem xM.isKey{es:Array MapEntry}{c:Nat}{f:List UInt8→Int}(h:xM es c f):∀x∈es.toList,IsKey .string x.key:=fun e he=>by
 obtain⟨x,hx,_⟩:=h.en e he
 rw[hx];trivial
theorem xM.find{es:Array MapEntry}{c:Nat}{f:List UInt8→Int}(h:xM es c f)(k:List UInt8):(f k=0∧Instr.findNow .string (.string (S k)) es.toList 0=some none∧∀x∈es.toList,x.key≠.string (S k))∨∃i e,Instr.findNow .string (.string (S k)) es.toList 0=some (some (i,.int .i64 (f k)))∧es[i]?=some e∧e.key=.string (S k):=by
 rcases findNow_spec (d:=.string) (k:=.string (S k)) trivial es.toList 0 h.isKey with⟨h1,h2⟩|⟨j,e,h1,h2,h3⟩
 ·refine .inl ⟨?_,h1,h2⟩
  by_cases h0:f k=0
  ·exact h0
  ·obtain⟨e,he,hk⟩:=h.al k h0
   exact absurd hk (h2 e he)
 ·obtain⟨x,hx,hv⟩:=h.en e (List.mem_of_getElem? h2)
  have e1:x=k:=XW (hx.symm.trans h3)
  refine .inr ⟨j,e,?_,by simpa using h2,h3⟩
  rw[h1,hv,e1,Nat.zero_add]
section
variable {W:World} {b:Nat} {es:Array MapEntry} {c:Nat} {f:List UInt8→Int} {k:List UInt8}
theorem Hr(hb:W.heap[b]?=some (.map es c))(h:xM es c f)(k:List UInt8):(Instr.lookup 104 (.map (some b)) (.string (S k)) false).run Tryz.prog W=.ok (.int .i64 (f k)) W:=by
 have hc:∀e,(Instr.checkKey e 10000 9 (.string (S k))).run Tryz.prog W=.ok () W:=fun e=>MapKept.run_checkKey (d:=.string) (k:=.string (S k)) Tryz.underlying9 trivial e 9999
 have hz:(zeroValue 3).run Tryz.prog W=.ok (.int .i64 0) W:=by kernel_rfl
 rcases h.find k with⟨h1,h2,_⟩|⟨i,e,h2,_⟩
 ·simp[Instr.lookup,run_underlying Tryz.underlying104,MapKept.run_getObj_map hb,hc,MapKept.run_findKey Tryz.underlying9 h2,Result.andThen,h1,hz]
 ·simp[Instr.lookup,run_underlying Tryz.underlying104,MapKept.run_getObj_map hb,hc,MapKept.run_findKey Tryz.underlying9 h2,Result.andThen]
theorem ZK(hb:W.heap[b]?=some (.map es c))(h:xM es c f)(k:List UInt8)(v:Int):∃es' c',(Instr.mapUpdate 104 (.map (some b)) (.string (S k)) (.int .i64 v)).run Tryz.prog W=.ok () { W with heap:=W.heap.setIfInBounds b (.map es' c') }∧xM es' c' (fun x=>if x=k then v else f x):=by
 have hc:(Instr.checkKey false 10000 9 (.string (S k))).run Tryz.prog W=.ok () W:=MapKept.run_checkKey (d:=.string) (k:=.string (S k)) Tryz.underlying9 trivial false 9999
 rcases h.find k with⟨h1,h2,h3⟩|⟨i,e,h2,h3,h4⟩
 ·refine⟨es.push { key:=.string (S k),val:=.int .i64 v,born:=c },c+1,?_,?_,?_,?_⟩
  ·exact Sr W _ _ _ _ Tryz.underlying104 Tryz.underlying9 b es c _ _ hb trivial h2
  ·exact stamped_push h.st h3
  ·intro e he
   simp only[Array.toList_push,List.mem_append,List.mem_singleton]at he
   rcases he with he|rfl
   ·obtain⟨x,hx,hv⟩:=h.en e he
    refine⟨x,hx,?_⟩
    have:x≠k:=fun q=>h3 e he (by rw[hx,q])
    rw[hv];simp only[if_neg this]
   ·exact⟨k,rfl,by simp⟩
  ·intro x hx
   by_cases e:x=k
   ·subst e;exact⟨{ key:=.string (S x),val:=.int .i64 v,born:=c },by simp,rfl⟩
   ·simp only[if_neg e]at hx
    obtain⟨y,hy,hk⟩:=h.al x hx
    exact⟨y,by simp[hy],hk⟩
 ·obtain⟨g,hg⟩:∃g:MapEntry→MapEntry,g=fun e=>{ e with key:=.string (S k),val:=.int .i64 v }:=⟨_,rfl⟩
  have hkey:∀e',es[i]?=some e'→(g e').key=e'.key:=fun e' he'=>by rw[h3]at he';cases he';rw[hg];exact h4.symm
  refine⟨es.modify i g,c,?_,?_,?_,?_⟩
  ·subst hg
   simp[Instr.mapUpdate,run_underlying Tryz.underlying104,MapKept.run_getObj_map hb,hc,MapKept.run_findKey Tryz.underlying9 h2,h3,h4,MapKept.run_keyThatStays (d:=.string) (k:=.string (S k)) trivial,MapKept.run_setObj_map _ hb,Result.andThen]
  ·exact stamped_modify h.st _ _ (fun _ _=>by rw[hg]) (fun e' _ he'=>hkey e' he')
  ·intro e' he'
   obtain⟨j,hj,hje⟩:=List.getElem_of_mem he'
   have hj':j<es.size:=by simpa using hj
   have h5:e'=if i=j then g es[j] else es[j]:=by
    rw[←hje];simp[List.getElem_modify]
   by_cases q:i=j
   ·rw[if_pos q]at h5
    exact⟨k,by rw[h5,hg],by rw[h5,hg];simp⟩
   ·rw[if_neg q]at h5
    obtain⟨x,hx,hv⟩:=h.en es[j] (by simp)
    refine⟨x,by rw[h5,hx],?_⟩
    have:x≠k:=fun q2=>by
     have hp:=((stamped_iff _ _).1 h.st).2.2
     have hi:i<es.size:=(Array.getElem?_eq_some_iff.1 h3).1
     have hei:es[i]=e:=(Array.getElem?_eq_some_iff.1 h3).2
     rw[List.pairwise_iff_getElem]at hp
     rcases Nat.lt_or_gt_of_ne q with l|l
     ·exact hp i j (by simpa using hi) (by simpa using hj') l (by simp only[Array.getElem_toList];rw[hei,h4,hx,q2])
     ·exact hp j i (by simpa using hj') (by simpa using hi) l (by simp only[Array.getElem_toList];rw[hei,h4,hx,q2])
    rw[h5,hv];simp only[if_neg this]
  ·intro x hx
   have hkeys:=modify_keys (es:=es) i g hkey
   have hin:∀y∈es.toList,∃z∈(es.modify i g).toList,z.key=y.key:=fun y hy=>by
    have:y.key∈(es.modify i g).toList.map (·.key):=by rw[hkeys];exact List.mem_map_of_mem hy
    obtain⟨z,hz,e⟩:=List.mem_map.1 this
    exact⟨z,hz,e⟩
   by_cases e0:x=k
   ·obtain⟨z,hz,hk⟩:=hin e (List.mem_of_getElem? (by simpa using h3))
    exact⟨z,hz,by rw[hk,h4,e0]⟩
   ·simp only[if_neg e0]at hx
    obtain⟨y,hy,hk⟩:=h.al x hx
    obtain⟨z,hz,hkz⟩:=hin y hy
    exact⟨z,hz,hkz.trans hk⟩
theorem VV(W:World)(b:Nat)(o:Obj):W.grownBy { W with heap:=W.heap.setIfInBounds b o } (some b):=
 ⟨rfl,rfl,rfl,by simp,fun i hi hne=>by
  have:b≠i:=fun e=>hne (by rw[e])
  simp[Array.getElem?_setIfInBounds,this]⟩
theorem XX(hb:W.heap[b]?=some (.map es c))(o:Obj):({ W with heap:=W.heap.setIfInBounds b o }:World).heap[b]?=some o:=(MapKept.heap_set hb).1
end
end Go.Proofs.YtmffejnigppbpaaGreatDoor

set_option maxHeartbeats 2000000
set_option maxRecDepth 100000
namespace Go.Proofs.YtmffejnigppbpaaGreatDoor
open Go.RowKit
theorem di.one1{w:World}{b:Nat}{x:List UInt8}(h:w.cell? ⟨b,0,none⟩=some (.string (S x))):di w (.slice (some ⟨b,0,none⟩) 1 1) [x]:=by
 refine⟨⟨by simp,by intro u hu;rw[List.mem_singleton.1 hu];rfl,.inr ⟨b,0,1,rfl,World.block_lt_of_cell? _ _ h,by simp,?_⟩⟩,by simp[O4]⟩
 intro j hj
 obtain rfl:j=0:=by simpa using hj
 simpa using h
theorem eu.one{w:World}{b c:Nat}{nm x:List UInt8}(h:w.cell? ⟨b,0,none⟩=some (.string (S x)))(h1:w.cell? ⟨c,0,none⟩=some (.string (S nm)))(h2:w.cell? ⟨c,1,none⟩=some (.slice (some ⟨b,0,none⟩) 1 1)) :
  eu w (.slice (some ⟨c,0,none⟩) 1 1) [(nm,[x])]:=by
 refine⟨_,_,rfl,by simp,fun _=>⟨c,0,rfl,World.block_lt_of_cell? _ _ h1,?_⟩⟩
 intro i p hp
 match i,hp with
 |0,hp=>
  simp at hp
  subst hp
  exact⟨_,by simpa using h1,by simpa using h2,di.one1 h⟩
 |n+1,hp=>simp at hp
theorem Tq:iM (fM 4) (bU [97,100,114])=(3,0,0,7):=by decide +kernel
theorem Tt:typeOf (iM (fM 4) (bU [84,90])).1 [([118,97,108,117,101],[[85,84,67,45,79,70,70,83,69,84]])]=6:=by decide +kernel
theorem WG(w:World)(hM:qm w):dA 19 #[] w (.bool true):=by
 have ho:=Eh [97,100,114] 4 w (.inr rfl) (by simp) hM
 rw[Tq]at ho
 have HO:=hid ho
 have HM:=hid hM
 have kd:=fun W=>IL 8 W
 have KD:=hid kd
 clear ho hM kd
 go_enter Tryz.func19,Tryz.ntmps19
 go_wp2_with fail
 refine HO.out.use ?_
 intro w1 g1
 have hA:=g1.alloc (.cells #[.int .i64 3,.int .i64 0,.int .i64 0,.int .i64 7] 47)
 go_wp2_with fail
 generalize hW:World.alloc _ _=W4
 have gW:G w W4:=by rw[←hW];exact(hA.alloc _).alloc _
 have p1:W4.cell? ⟨w1.heap.size+1,0,none⟩=some (.string (S [85,84,67,45,79,70,70,83,69,84])):=by rw[←hW];simp[go_sem];rfl
 have p2:W4.cell? ⟨w1.heap.size+1+1,0,none⟩=some (.string (S [118,97,108,117,101])):=by rw[←hW];simp[go_sem];rfl
 have p3:W4.cell? ⟨w1.heap.size+1+1,1,none⟩=some (.slice (some ⟨w1.heap.size+1,0,none⟩) 1 1):=by rw[←hW];simp[go_sem]
 have q0:W4.cell? ⟨w1.heap.size,0,none⟩=some (.int .i64 3):=by rw[←hW];simp[go_sem]
 have q1:W4.cell? ⟨w1.heap.size,1,none⟩=some (.int .i64 0):=by rw[←hW];simp[go_sem]
 have q2:W4.cell? ⟨w1.heap.size,2,none⟩=some (.int .i64 0):=by rw[←hW];simp[go_sem]
 have q3:W4.cell? ⟨w1.heap.size,3,none⟩=some (.int .i64 7):=by rw[←hW];simp[go_sem]
 have hb:w1.heap.size<W4.heap.size:=World.block_lt_of_cell? _ _ q0
 have ht:=Qb [84,90] (.slice (some ⟨w1.heap.size+1+1,0,none⟩) 1 1) [([118,97,108,117,101],[[85,84,67,45,79,70,70,83,69,84]])] 4 W4 (.inr rfl) (by simp) (eu.one p1 p2 p3) (by simp) (by simp) (by simp) (HM.out.grow gW)
 rw[Tt]at ht
 refine ht.use ?_
 intro w5 g5
 have r0:=(g5.cell (p:=⟨w1.heap.size,0,none⟩) hb).trans q0
 have r1:=(g5.cell (p:=⟨w1.heap.size,1,none⟩) hb).trans q1
 have r2:=(g5.cell (p:=⟨w1.heap.size,2,none⟩) hb).trans q2
 have r3:=(g5.cell (p:=⟨w1.heap.size,3,none⟩) hb).trans q3
 have GG:=hid (gW.trans g5)
 clear hW ht p1 p2 p3 q0 q1 q2 q3 g5 gW hA HO
 go_wp2_with fail
 refine(KD.out _).use ?_
 go_wp2_with fail
 go_ret
 exact⟨rfl,GG.out⟩
end Go.Proofs.YtmffejnigppbpaaGreatDoor
