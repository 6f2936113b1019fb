/-
  Texts merged into one: Strs, Name, Err, LangR, UriR.
-/
import Derived.Test.YtmffejnigppbpaaGreatDoorDXMA69
import Derived.Lib.Bytealg
import Derived.OwnWalk
set_option linter.unusedVariables false
set_option linter.unusedSimpArgs false
set_option maxHeartbeats 400000
set_option maxRecDepth 100000
namespace Go.Proofs.YtmffejnigppbpaaGreatDoor
open Go.RowKit
theorem ajZ(l:List UInt8)(c:UInt8)(w:World):adV 123 #[.string (S l),.int .u8 (c.toNat:Int)] w (.int .i64 (Lib.indexByte l c)):=by
 go_enter Tryz.func123,Tryz.ntmps123
 go_wp2
 rw[run_callFunc_extern Tryz.func174 (by kernel_rfl) (by kernel_rfl) (by kernel_rfl) (e:=Extern.BytealgIndexByte.indexByte) (by kernel_rfl),Lib.run_indexByteString]
 simp only[Result.andThen]
 rw[Oper.upon_value]
 go_wp2
 go_ret
 exact⟨adZ (by simp),rfl⟩
theorem aeW(l:List UInt8)(c:UInt8)(w:World):adV 76 #[.string (S l),.int .u8 (c.toNat:Int)] w (.int .i64 (Lib.indexByte l c)):=by
 go_enter Tryz.func76,Tryz.ntmps76
 go_wp2_with fail
 refine(ajZ l c _).use ?_
 go_wp2
 go_ret
 exact⟨rfl,rfl⟩
def alq(l p:List UInt8):Bool:=l.take p.length==p
theorem asH{l p:List UInt8}(h:alq l p=true):p.length≤l.length:=by
 unfold alq at h
 have:=congrArg List.length (eq_of_beq h)
 simp at this;omega
theorem asI{l p:List UInt8}(h:alq l p=true):l=p++l.drop p.length:=by
 unfold alq at h
 conv=>lhs;rw[←List.take_append_drop p.length l]
 rw[eq_of_beq h]
theorem aj0(l p:List UInt8)(w:World):adV 191 #[.string (S l),.string (S p)] w (.bool (alq l p)):=by
 go_enter Tryz.func191,Tryz.ntmps191
 by_cases h:p.length≤l.length
 ·go_wp2
  go_ret
  exact⟨zF rfl,rfl⟩
 ·have h2:alq l p=false:=by cases e:alq l p with
   |false=>rfl
   |true=>exact absurd (asH e) h
  go_wp2
  go_ret
  exact⟨zF (by simp[h2]),rfl⟩
theorem aeX(l p:List UInt8)(w:World):adV 155 #[.string (S l),.string (S p)] w (.bool (alq l p)):=by
 go_enter Tryz.func155,Tryz.ntmps155
 go_wp2_with fail
 refine(aj0 l p _).use ?_
 go_wp2
 go_ret
 exact⟨rfl,rfl⟩
theorem agj(l:List UInt8)(c:UInt8)(h:c∉l):Lib.indexByte l c = -1:=by
 induction l with
 |nil=>rfl
 |cons b l ih=>
  have h1:(b==c)=false:=beq_eq_false_iff_ne.2 fun e=>h (e▸List.mem_cons_self)
  rw[Lib.indexByte,ih fun m=>h (List.mem_cons_of_mem _ m)]
  simp[h1]
theorem ahT(a r:List UInt8)(c:UInt8)(h:c∉a):Lib.indexByte (a++c::r) c=a.length:=by
 induction a with
 |nil=>simp[Lib.indexByte]
 |cons b l ih=>
  have h1:(b==c)=false:=beq_eq_false_iff_ne.2 fun e=>h (e▸List.mem_cons_self)
  rw[List.cons_append,Lib.indexByte,ih fun m=>h (List.mem_cons_of_mem _ m)]
  have h2:(((l.length:Int)) == -1)=false:=beq_eq_false_iff_ne.2 (by omega)
  simp[h1,h2]
end Go.Proofs.YtmffejnigppbpaaGreatDoor

set_option maxHeartbeats 400000
set_option maxRecDepth 100000
namespace Go.Proofs.YtmffejnigppbpaaGreatDoor
open Go.RowKit
def aeh(c:Int):Bool:=decide ((97≤c∧c≤122)∨(65≤c∧c≤90)∨(48≤c∧c≤57)∨c=45)
def GH(l:List UInt8):Bool:=l.all (fun c=>aeh c.toNat)&&(!l.isEmpty&&decide ((l.length:Int)≤40))
def ahM(low high by_:Int)(c:UInt8):UInt8:=if low≤c.toNat∧c.toNat≤high then UInt8.ofNat ((c.toNat+by_)%256).toNat else c
def Eg(l:List UInt8):List UInt8:=l.map (ahM 97 122 (-32))
def ai2(l:List UInt8):List UInt8:=l.map (ahM 65 90 32)
def aeu(a b:List UInt8):Bool:=Eg a==Eg b
theorem atG{low high by_:Int}{c:UInt8}(h1:low≤c.toNat)(h2:(c.toNat:Int)≤high):((ahM low high by_ c).toNat:Int)=(c.toNat+by_)%256:=by
 unfold ahM
 rw[if_pos ⟨h1,h2⟩]
 simp;omega
theorem avq{low high by_:Int}{c:UInt8}(h:(c.toNat:Int)<low∨high<c.toNat):ahM low high by_ c=c:=by
 unfold ahM;rw[if_neg (by omega)]
@[simp] theorem anm(l:List UInt8):(Eg l).length=l.length:=by simp[Eg]
@[simp] theorem awj(l:List UInt8):(ai2 l).length=l.length:=by simp[ai2]
theorem arG(c:Int)(w:World) :
  adV 70 #[.int .u8 c] w (.bool (aeh c)):=by
 go_enter Tryz.func70,Tryz.ntmps70
 go_wp2
 all_goals go_ret
 all_goals exact⟨zF (by unfold aeh;rw[Bool.eq_iff_iff];simp;omega),rfl⟩
theorem ano(p:UInt8→Bool)(l:List UInt8)(k:Nat)(h:k<l.length):(l.take (k+1)).all p=((l.take k).all p&&p l[k]):=by
 rw[List.take_succ_eq_append_getElem h,List.all_append];simp
theorem ag8(l:List UInt8)(w:World)(hs:l.length≤140737488355328) :
  adV 34 #[.string (S l)] w (.bool (GH l)):=by
 go_enter Tryz.func34,Tryz.ntmps34
 go_wp2
 go_loop [6] (fun i=>∃k:Nat,k≤l.length∧i=.int .i64 k∧(l.take k).all (fun c=>aeh c.toNat)=true) (fun i=>l.length-(intOf i).toNat)
 case atStart=>exact⟨0,Nat.zero_le _,rfl,rfl⟩
 case round=>
  obtain⟨k,hk,rfl,hall⟩:=hrel
  have Hall:=hid hall;clear hall
  by_cases hlt:k<l.length
  ·have hsn:=ano (fun c=>aeh c.toNat) l k hlt
   have Hsn:=hid hsn;clear hsn
   go_wp2_with (go_at_call 70;refine(arG _ _).use ?_)
   ·rename_i h
    go_ret
    refine⟨zF ?_,rfl⟩
    have h2:aeh (l[k].toNat:Int)=false:=by simpa using h
    have:l.all (fun c=>aeh c.toNat)=false:=by
     rw[List.all_eq_false]
     exact⟨l[k],List.getElem_mem hlt,by simpa using h2⟩
    simp[GH,this]
   ·rename_i h
    go_round
    case rel=>
     refine⟨k+1,by omega,by go_num,?_⟩
     rw[Hsn.out,Hall.out];simpa using h
    case measure=>simp[intOf];omega
  ·have hk':k=l.length:=by omega
   have ha:=Hall.out
   rw[List.take_of_length_le (by omega)]at ha
   have Ha:=hid ha
   clear ha hk' Hall
   go_wp2
   all_goals go_ret
   all_goals refine⟨zF ?_,rfl⟩
   all_goals unfold GH
   all_goals first|(simp;done)|(rw[Ha.out];simp[*])
theorem aqd(l:List UInt8)(low high by_:Int)(w:World)(hs:l.length≤140737488355328)(h3 : -256≤by_)(h4:by_≤256) :
  Um 96 #[.string (S l),.int .u8 low,.int .u8 high,.int .i64 by_] w (.string (S (l.map (ahM low high by_)))):=by
 have hconv:=run_bytes_of_string (P:=Tryz.prog) w 9 122 5 (S l) Tryz.underlying9 Tryz.underlying122 Tryz.underlying5
 go_enter Tryz.func96,Tryz.ntmps96
 go_wp2
 have hown:=aiT.of_bytes w 5 (S l)
 rw[ahu,ax7]at hown
 generalize hcap:grownCap w l.length 0 5=cap at hown⊢
 have hbel:Below w.heap.size w (w.alloc (.cells (bytesRow (S l) cap) 5 ((bytesRow (S l) cap).size,(bytesRow (S l) cap).size+1))).drew:=((Below.refl _ _).alloc (Nat.le_refl _) _).drew
 have hownH:=hid hown;clear hown
 clear hcap hconv
 go_loopw [16] (fun i wr=>∃k:Nat,k≤l.length∧i=.int .i64 k∧aiT wr w.heap.size (alh (ahM low high by_) k l)∧Below w.heap.size w wr) (fun i _=>l.length-(intOf i).toNat)
 case atStart=>exact⟨0,Nat.zero_le _,rfl,hownH.out,hbel⟩
 case round=>
  obtain⟨k,hk,rfl,ho,hb⟩:=hrel
  clear hbel hownH
  by_cases hlt:k<l.length
  ·obtain⟨hc,hf⟩:=ho k (by rw[ahv];exact hlt)
   rw[ash _ _ _ hlt]at hc
   have ho':=hid ho;clear ho
   have hb1:l[k].toNat<256:=UInt8.toNat_lt _
   go_wp2
   all_goals go_roundw
   all_goals try (case measure=>simp[intOf];omega)
   case rel=>
    refine⟨k+1,by omega,by go_num,?_,hb.setCell (Nat.le_refl _) _⟩
    rw[←atG (by assumption) (by assumption),←apr _ _ _ hlt]
    exact ho'.out.set k (by rw[ahv];exact hlt) _
   all_goals
    refine⟨k+1,by omega,by go_num,?_,hb⟩
    rw[←asT _ _ _ hlt (avq (by omega))]
    exact ho'.out
  ·have hback:=ho.back (P:=Tryz.prog) 122 9 5 cap Tryz.underlying122 Tryz.underlying5 Tryz.underlying9
   rw[apq _ _ _ (by omega)]at hback
   rw[apq _ _ _ (by omega)]at ho
   rw[List.length_map]at hback
   go_wp2
   go_ret
   exact⟨rfl,hb⟩
theorem afa(l:List UInt8)(w:World)(hs:l.length≤140737488355328) :
  Um 52 #[.string (S l)] w (.string (S (Eg l))):=by
 go_enter Tryz.func52,Tryz.ntmps52
 go_wp2_with (go_at_call 96;refine(aqd l 97 122 (-32) _ hs (by omega) (by omega)).use ?_;intro w' hb)
 go_ret
 exact⟨rfl,hb⟩
theorem anX(l:List UInt8)(w:World)(hs:l.length≤140737488355328) :
  Um 69 #[.string (S l)] w (.string (S (ai2 l))):=by
 go_enter Tryz.func69,Tryz.ntmps69
 go_wp2_with (go_at_call 96;refine(aqd l 65 90 32 _ hs (by omega) (by omega)).use ?_;intro w' hb)
 go_ret
 exact⟨rfl,hb⟩
theorem ahN(a b:List UInt8)(w:World)(ha:a.length≤140737488355328)(hb:b.length≤140737488355328) :
  Um 16 #[.string (S a),.string (S b)] w (.bool (aeu a b)):=by
 go_enter Tryz.func16,Tryz.ntmps16
 go_wp2_with fail
 refine(afa a _ ha).use ?_;intro w1 hb1
 go_wp2_with fail
 refine(afa b _ hb).use ?_;intro w2 hb2
 go_wp2_with fail
 go_ret
 exact⟨zF rfl,hb1.trans hb2⟩
end Go.Proofs.YtmffejnigppbpaaGreatDoor

namespace Go.Proofs.YtmffejnigppbpaaGreatDoor
open Go.RowKit
@[go_sem] def eno(n:Int):Value:=.iface 58 (.int .i64 n)
def UE(w:World)(v:Value)(code place:Int):Prop:=∃b,v=.iface 80 (.pointer (some ⟨b,0,none⟩))∧w.cell? ⟨b,0,none⟩=some (.int .i64 code)∧w.cell? ⟨b,1,none⟩=some (.int .i64 place)∧b<w.heap.size
theorem UE.grow{w w':World}{v:Value}{code place:Int}(h:UE w v code place)(g:G w w'):UE w' v code place:=by
 obtain⟨b,h1,h2,h3,h4⟩:=h
 exact⟨b,h1,by rw[g.cell h4];exact h2,by rw[g.cell h4];exact h3,Nat.lt_of_lt_of_le h4 g.size⟩
theorem UE.new(w:World)(t:TypeId)(code place:Int):UE (w.alloc (.cells #[.int .i64 code,.int .i64 place] t)) (.iface 80 (.pointer (some ⟨w.heap.size,0,none⟩))) code place:=
 ⟨w.heap.size,rfl,by rw[World.cell?_alloc_new];rfl,by rw[World.cell?_alloc_new];rfl,by simp⟩
theorem UE.newAt(w:World)(t:TypeId)(code place:Int)(n:Nat)(h:n=w.heap.size):UE (w.alloc (.cells #[.int .i64 code,.int .i64 place] t)) (.iface 80 (.pointer (some ⟨n,0,none⟩))) code place:=by
 subst h;exact UE.new w t code place
end Go.Proofs.YtmffejnigppbpaaGreatDoor

set_option maxHeartbeats 4000000
set_option maxRecDepth 100000
namespace Go.Proofs.YtmffejnigppbpaaGreatDoor
open Go.RowKit
def aiY(first:Bool)(c:UInt8):Bool:=aeh c.toNat && !(first&&decide ((c.toNat:Int)≤57))
def aiG(first:Bool)(cur:Nat):List UInt8→Bool
 |[]=>decide (1≤cur∧cur≤8)
 |c::t=>if c=45 then decide (1≤cur∧cur≤8)&&aiG false 0 t else aiY first c&&aiG first (cur+1) t
def afh(s:List UInt8):Bool:=aiG true 0 s
theorem arq(c:UInt8):GH [c]=aeh c.toNat:=by unfold GH;simp
def adt(s:List UInt8)(v:Value)(w':World):Prop:=
 if afh s=true then v=.nilIface else ∃e p,UE w' v e p∧e≠0∧0≤p∧p≤(s.length:Int)
theorem adt.yes{s:List UInt8}{w':World}(h:afh s=true):adt s .nilIface w':=by unfold adt;rw[if_pos h]
theorem adt.no{s:List UInt8}{v:Value}{w':World}{e p:Int}(h:afh s=false)(hv:UE w' v e p)(hp:0≤p∧p≤(s.length:Int))(he:e≠0:=by decide):adt s v w':=by unfold adt;rw[if_neg (by simp[h])];exact⟨e,p,hv,he,hp⟩
def asz(s:List UInt8)(k f:Nat):Prop:=(k≤s.length∧f≤k∧afh s=aiG (decide (f=0)) (k-f) (s.drop k))∨(k=s.length+1∧afh s=true)
theorem aiH(s:List UInt8)(w:World)(hs:s.length≤100000):Uz 158 #[.string (S s)] w (adt s):=by
 go_enter Tryz.func158,Tryz.ntmps158
 go_wp2
 go_loopw [3,4] (fun fv iv wr=>∃(k f:Nat),fv=.int .i64 f∧iv=.int .i64 k∧f≤s.length+1∧asz s k f∧G w wr) (fun _ iv _=>s.length+1-(intOf iv).toNat)
 case atStart=>exact⟨0,0,rfl,rfl,by omega,.inl ⟨by omega,by omega,rfl⟩,G.refl _⟩
 case round=>
  obtain⟨k,f,rfl,rfl,hf,hrel,hg⟩:=hrel
  have HG:=hid hg
  clear hg
  by_cases hend:k=s.length+1
  ·rcases hrel with⟨h,_⟩|⟨_,h⟩
   ·omega
   ·have H:=hid h
    subst hend
    clear h hf
    go_wp2_with fail
    go_ret
    exact⟨_,rfl,adt.yes H.out,HG.out⟩
  have hk:k≤s.length:=by rcases hrel with⟨h,_⟩|⟨h,_⟩<;>omega
  have hfk:f≤k:=by rcases hrel with⟨_,h,_⟩|⟨h,_⟩<;>omega
  have hR:afh s=aiG (decide (f=0)) (k-f) (s.drop k):=by rcases hrel with⟨_,_,h⟩|⟨h,_⟩;exact h;exact absurd h hend
  have HR:=hid hR
  clear hrel hR hend
  by_cases hin:k<s.length
  ·obtain⟨c,hc⟩:∃c,s[k]'hin=c:=⟨_,rfl⟩
   have hd:s.drop k=c::s.drop (k+1):=by rw[List.drop_eq_getElem_cons hin,hc]
   have hsl:(s.take (k+1)).drop k=[c]:=by
    rw[List.take_succ_eq_append_getElem hin,List.drop_append_of_le_length (by simp;omega),hc]
    simp
   have HD:=hid hd
   clear hd
   by_cases h45:c=45
   ·subst h45
    have HS:Hid (afh s=(decide (1≤k-f∧k-f≤8)&&aiG false 0 (s.drop (k+1)))):=hid (by rw[HR.out,HD.out];rfl)
    by_cases h0:k=f
    ·subst h0
     have hq:((k:Int)==(k:Int))=true:=by simp
     go_wp2_with fail
     go_ret
     exact⟨_,rfl,adt.no (by rw[HS.out];simp) (UE.new _ _ _ _) (by omega),HG.out.alloc _⟩
    ·have hq:((k:Int)==(f:Int))=false:=beq_eq_false_iff_ne.2 (by omega)
     by_cases h8:8<(k:Int)-f
     ·go_wp2_with fail
      go_ret
      exact⟨_,rfl,adt.no (by rw[HS.out,decide_eq_false (by omega)];rfl) (UE.new _ _ _ _) (by omega),HG.out.alloc _⟩
     ·go_wp2_with fail
      go_roundw
      case rel=>
       refine⟨k+1,k+1,rfl,rfl,by omega,.inl ⟨by omega,by omega,?_⟩,HG.out⟩
       rw[HS.out,decide_eq_true (by omega),Nat.sub_self]
       simp
      case measure=>simp[intOf];omega
   ·have q45:((c.toNat:Int) != 45)=true:=bne_iff_ne.2 (fun e=>h45 (UInt8.toNat_inj.1 (by show c.toNat=45;omega)))
    have HS:Hid (afh s=(aiY (decide (f=0)) c&&aiG (decide (f=0)) (k-f+1) (s.drop (k+1)))):=hid (by rw[HR.out,HD.out,aiG,if_neg h45])
    have IS:Hid (∀w,adV 34 #[.string (S [c])] w (.bool (aeh c.toNat))):=hid (fun w=>by have:=ag8 [c] w (by simp);rw[arq]at this;exact this)
    cases hl:aeh c.toNat with
    |false=>
     rw[hl]at IS
     have HL:=hid hl
     clear hl h45
     go_wp2_with fail
     refine(IS.out _).use ?_
     go_wp2_with fail
     go_ret
     exact⟨_,rfl,adt.no (by rw[HS.out];unfold aiY;rw[HL.out];rfl) (UE.new _ _ _ _) (by omega),HG.out.alloc _⟩
    |true=>
     rw[hl]at IS
     have HL:=hid hl
     clear hl h45
     by_cases hbad:f=0∧(c.toNat:Int)≤57
     ·obtain⟨rfl,h57⟩:=hbad
      go_wp2_with fail
      refine(IS.out _).use ?_
      go_wp2_with fail
      go_ret
      exact⟨_,rfl,adt.no (by rw[HS.out];unfold aiY;rw[HL.out];simp;omega) (UE.new _ _ _ _) (by omega),HG.out.alloc _⟩
     ·have HP:Hid (aiY (decide (f=0)) c=true):=hid (by
       unfold aiY
       rw[HL.out]
       by_cases h0:f=0
       ·have:¬(c.toNat:Int)≤57:=fun h=>hbad ⟨h0,h⟩
        simp[h0];omega
       ·simp[h0])
      have hgo:asz s (k+1) f:=.inl ⟨by omega,by omega,by
       rw[HS.out,HP.out,Bool.true_and];congr 1;omega⟩
      have HGO:=hid hgo
      clear hgo
      by_cases h0:f=0
      ·subst h0
       have h57:57<(c.toNat:Int):=by
        by_cases h:(c.toNat:Int)≤57
        ·exact absurd ⟨rfl,h⟩ hbad
        ·omega
       clear hbad
       go_wp2_with fail
       refine(IS.out _).use ?_
       go_wp2_with fail
       go_roundw
       case rel=>exact⟨k+1,0,rfl,rfl,hf,HGO.out,HG.out⟩
       case measure=>simp[intOf];omega
      ·have q0:((f:Int)==0)=false:=beq_eq_false_iff_ne.2 (by omega)
       clear hbad h0
       go_wp2_with fail
       refine(IS.out _).use ?_
       go_wp2_with fail
       go_roundw
       case rel=>exact⟨k+1,f,rfl,rfl,hf,HGO.out,HG.out⟩
       case measure=>simp[intOf];omega
  ·obtain rfl:k=s.length:=by omega
   have HS:Hid (afh s=decide (1≤s.length-f∧s.length-f≤8)):=hid (by rw[HR.out,List.drop_length];rfl)
   by_cases h0:s.length=f
   ·have h0':=hid h0
    subst h0
    go_wp2_with fail
    go_ret
    exact⟨_,rfl,adt.no (by rw[HS.out];simp) (UE.new _ _ _ _) (by omega),HG.out.alloc _⟩
   ·have hq:((s.length:Int)==(f:Int))=false:=beq_eq_false_iff_ne.2 (by omega)
    by_cases h8:8<(s.length:Int)-f
    ·go_wp2_with fail
     go_ret
     exact⟨_,rfl,adt.no (by rw[HS.out,decide_eq_false (by omega)]) (UE.new _ _ _ _) (by omega),HG.out.alloc _⟩
    ·go_wp2_with fail
     go_roundw
     case rel=>
      refine⟨s.length+1,s.length+1,rfl,rfl,by omega,.inr ⟨rfl,?_⟩,HG.out⟩
      rw[HS.out,decide_eq_true (by omega)]
     case measure=>simp[intOf]
end Go.Proofs.YtmffejnigppbpaaGreatDoor

set_option maxHeartbeats 400000
set_option maxRecDepth 100000
namespace Go.Proofs.YtmffejnigppbpaaGreatDoor
open Go.RowKit
def aqE(k:Nat)(c:Int):Prop:=(97≤c∧c≤122)∨(65≤c∧c≤90)∨(0<k∧((48≤c∧c≤57)∨c=43∨c=45∨c=46))
instance (k:Nat) (c:Int):Decidable (aqE k c):=by unfold aqE;infer_instance
def agz:List UInt8→Nat→Nat
 |[],_=>0
 |c::t,k=>if (c.toNat:Int)=58 then k else if aqE k c.toNat then agz t (k+1)else 0
def agl(l:List UInt8):Nat:=agz l 0
theorem amR{l:List UInt8}{k:Nat}(h:k<l.length):agz (l.drop k) k=if (l[k].toNat:Int)=58 then k else if aqE k l[k].toNat then agz (l.drop (k+1)) (k+1)else 0:=by
 rw[List.drop_eq_getElem_cons h];rfl
theorem axr{l:List UInt8}{k:Nat}(hr:agl l=agz (l.drop k) k)(h:l.length≤k):agl l=0:=by
 rw[hr,List.drop_eq_nil_of_le h];rfl
theorem aub{l:List UInt8}{k:Nat}(hr:agl l=agz (l.drop k) k)(h:k<l.length)(hc:(l[k].toNat:Int)=58):agl l=k:=by
 rw[hr,amR h,if_pos hc]
theorem ayt{l:List UInt8}{k:Nat}(hr:agl l=agz (l.drop k) k)(h:k<l.length)(hc:(l[k].toNat:Int)≠58)(hs:aqE k l[k].toNat):agl l=agz (l.drop (k+1)) (k+1):=by
 rw[hr,amR h,if_neg hc,if_pos hs]
theorem avN{l:List UInt8}{k:Nat}(hr:agl l=agz (l.drop k) k)(h:k<l.length)(hc:(l[k].toNat:Int)≠58)(hs:¬aqE k l[k].toNat):agl l=0:=by
 rw[hr,amR h,if_neg hc,if_neg hs]
theorem avO(l:List UInt8)(k:Nat):agz l k=0∨(k≤agz l k∧agz l k<k+l.length):=by
 induction l generalizing k with
 |nil=>exact .inl rfl
 |cons c t ih=>
  unfold agz
  split
  ·right;simp
  ·split
   ·rcases ih (k+1)with h|h
    ·exact .inl h
    ·right;simp;omega
   ·exact .inl rfl
theorem axs(l:List UInt8):agl l≤l.length:=by
 unfold agl;rcases avO l 0 with h|h<;>omega
theorem amS(l:List UInt8)(w:World)(hs:l.length≤140737488351328):adV 145 #[.string (S l)] w (.int .i64 (agl l)):=by
 go_enter Tryz.func145,Tryz.ntmps145
 go_wp2
 go_loop [7] (fun i=>∃k:Nat,k≤l.length∧i=.int .i64 k∧agl l=agz (l.drop k) k) (fun i=>l.length-(intOf i).toNat)
 case atStart=>exact⟨0,Nat.zero_le _,rfl,rfl⟩
 case round=>
  obtain⟨k,hk,rfl,hr⟩:=hrel
  have HR:=hid hr;clear hr
  by_cases hlt:k<l.length
  case neg=>
   go_wp2
   go_ret
   exact⟨adZ (by rw[axr HR.out (by omega)];rfl),rfl⟩
  have hb:=l[k].toNat_lt
  by_cases hc:(l[k].toNat:Int)=58
  ·have HC:=hid hc
   have hc1:((l[k].toNat:Int)==58)=true:=by simp[hc]
   clear hc
   go_wp2
   go_ret
   exact⟨adZ (by rw[aub HR.out hlt HC.out]),rfl⟩
  have hc1:((l[k].toNat:Int)==58)=false:=beq_eq_false_iff_ne.2 hc
  go_wp2
  all_goals try (go_ret;refine⟨adZ (by rw[avN HR.out hlt (by omega) (by unfold aqE;((try simp only[beq_iff_eq,beq_eq_false_iff_ne,ne_eq]at *);omega))];rfl),rfl⟩;done)
  all_goals go_round
  all_goals try (case measure=>simp[intOf];omega)
  all_goals exact⟨k+1,by omega,by go_num,ayt HR.out hlt (by omega) (by unfold aqE;((try simp only[beq_iff_eq,beq_eq_false_iff_ne,ne_eq]at *);omega))⟩
def ak7(c:UInt8):Bool:=decide (33≤(c.toNat:Int)∧(c.toNat:Int)≤126)
theorem aj6{p:UInt8→Bool}{l:List UInt8}{k:Nat}(ha:(l.take k).all p=true)(h:k<l.length)(hp:p l[k]=true):(l.take (k+1)).all p=true:=by
 rw[List.take_succ_eq_append_getElem h,List.all_append,ha];simp[hp]
theorem arZ{p:UInt8→Bool}{l:List UInt8}{k:Nat}(h:k<l.length)(hp:p l[k]=false):l.all p=false:=by
 rw[List.all_eq_false];exact⟨l[k],List.getElem_mem h,by simp[hp]⟩
theorem alB{p:UInt8→Bool}{l:List UInt8}{k:Nat}(ha:(l.take k).all p=true)(h:l.length≤k):l.all p=true:=by
 rwa [List.take_of_length_le h]at ha
def ak8(p:UInt8→Bool)(l:List UInt8):Option Nat:=l.findIdx? (fun c=>!p c)
theorem amT{p:UInt8→Bool}{l:List UInt8}:ak8 p l=none↔l.all p=true:=by
 unfold ak8;simp[List.findIdx?_eq_none_iff]
theorem avP{p:UInt8→Bool}{l:List UInt8}{k:Nat}(ha:(l.take k).all p=true)(h:k<l.length)(hp:p l[k]=false):ak8 p l=some k:=by
 unfold ak8
 rw[List.findIdx?_eq_some_iff_getElem]
 refine⟨h,by simp[hp],fun j hj=>?_⟩
 have:=List.all_eq_true.1 ha (l[j]'(by omega)) (by rw[List.mem_take_iff_getElem];exact⟨j,by omega,rfl⟩)
 simp[this]
def af4(l:List UInt8)(v:Value)(w':World):Prop:=
 if agl l=0 then v=eno 8 else match ak8 ak7 l with
  |some i=>UE w' v 3 i
  |none=>if agl l+1=l.length then UE w' v 7 l.length else v=.nilIface
theorem ao3(l:List UInt8)(w:World)(hs:l.length≤140737488351328):Uz 95 #[.string (S l)] w (af4 l):=by
 have hle:=axs l
 by_cases h:agl l=0
 ·go_enter Tryz.func95,Tryz.ntmps95
  go_wp2_with fail
  refine(amS l _ hs).use ?_
  rw[h]
  go_wp2_with fail
  go_ret
  exact⟨_,rfl,by unfold af4;rw[if_pos h];rfl,G.refl _⟩
 ·have h1:((agl l:Int)==0)=false:=beq_eq_false_iff_ne.2 (by omega)
  have H:=hid h
  clear h
  go_enter Tryz.func95,Tryz.ntmps95
  go_wp2_with fail
  refine(amS l _ hs).use ?_
  go_wp2_with fail
  go_loop [12] (fun i=>∃k:Nat,k≤l.length∧i=.int .i64 k∧(l.take k).all ak7=true) (fun i=>l.length-(intOf i).toNat)
  case atStart=>exact⟨0,Nat.zero_le _,rfl,rfl⟩
  case round=>
   obtain⟨k,hk,rfl,hr⟩:=hrel
   have HR:=hid hr;clear hr
   by_cases hlt:k<l.length
   case neg=>
    have HN:Hid (ak8 ak7 l=none):=hid (amT.2 (alB HR.out (by omega)))
    by_cases h2:agl l+1=l.length
    ·have h3:((agl l:Int)+1==(l.length:Int))=true:=by simp;omega
     have H2:=hid h2
     clear h2
     go_wp2
     go_ret
     exact⟨_,rfl,by unfold af4;rw[if_neg H.out,HN.out];show(if _ then _ else _);rw[if_pos H2.out];exact UE.new _ _ _ _,(G.refl _).alloc _⟩
    ·have h3:((agl l:Int)+1==(l.length:Int))=false:=beq_eq_false_iff_ne.2 (by omega)
     have H2:=hid h2
     clear h2
     go_wp2
     go_ret
     exact⟨_,rfl,by unfold af4;rw[if_neg H.out,HN.out];show(if _ then _ else _);rw[if_neg H2.out];rfl,G.refl _⟩
   have hb:=l[k].toNat_lt
   go_wp2
   all_goals try (go_ret;refine⟨_,rfl,by unfold af4;rw[if_neg H.out,avP HR.out hlt (by unfold ak7;rw[decide_eq_false_iff_not];((try simp only[beq_iff_eq,beq_eq_false_iff_ne,ne_eq]at *);omega))];exact UE.new _ _ _ _,(G.refl _).alloc _⟩;done)
   all_goals go_round
   all_goals try (case measure=>simp[intOf];omega)
   all_goals exact⟨k+1,by omega,by go_num,aj6 HR.out hlt (by unfold ak7;rw[decide_eq_true_iff];((try simp only[beq_iff_eq,beq_eq_false_iff_ne,ne_eq]at *);omega))⟩
end Go.Proofs.YtmffejnigppbpaaGreatDoor
