/-
  Texts merged into one: Kp, Rdr, LangR, UriR, RowSet, MapRun, OwnStr.
-/
import Derived.Test.YtmffejnigppbpaaGreatDoorCXMA59
import Derived.Laws.Tables
import Derived.Deep.RegionHeld3
import Derived.WideMake
import Derived.Deep.AppendLies
set_option linter.unusedVariables false
set_option linter.unusedSimpArgs false
namespace Go.Proofs.YtmffejnigppbpaaGreatDoor
open Go.RowKit
def X7:Value→Bool
 |.string _=>true
 |.slice (some _) _ _=>true
 |_=>false
def Kp(w w':World):Prop:=w.heap.size≤w'.heap.size∧∀p v,w.cell? p=some v→X7 v=true→w'.cell? p=some v
theorem Kp.refl(w:World):Kp w w:=⟨Nat.le_refl _,fun _ _ h _=>h⟩
theorem Kp.trans{a b c:World}(h:Kp a b)(k:Kp b c):Kp a c:=⟨Nat.le_trans h.1 k.1,fun p v h1 h2=>k.2 p v (h.2 p v h1 h2) h2⟩
theorem Kp.set{w:World}{q:Addr}{old v:Value}(h:w.cell? q=some old)(hk:X7 old=false∨old=v):Kp w (w.setCell q v):=by
 refine⟨by simp,fun p u hp hu=>?_⟩
 by_cases e:p=q
 ·subst e
  rw[h]at hp
  obtain rfl:=Option.some.inj hp
  rcases hk with hk|hk
  ·rw[hk]at hu;cases hu
  ·rw[World.cell?_setCell_same _ _ _ h,hk]
 ·rw[World.cell?_setCell_other _ _ _ _ (by exact Ne.symm e)];exact hp
theorem di.kept{w w':World}{v:Value}{l:List (List UInt8)}(h:di w v l)(k:Kp w w'):di w' v l:=by
 obtain⟨⟨h1,h2,h3⟩,hc⟩:=h
 refine⟨⟨h1,h2,?_⟩,hc⟩
 rcases h3 with h3|⟨b,off,cap,e,hb,h0,hcell⟩
 ·exact .inl h3
 ·refine .inr ⟨b,off,cap,e,Nat.lt_of_lt_of_le hb k.1,h0,fun j hj=>k.2 _ _ (hcell j hj) ?_⟩
  simp[X7]
end Go.Proofs.YtmffejnigppbpaaGreatDoor

namespace Go.Proofs.YtmffejnigppbpaaGreatDoor
open Go.RowKit
theorem IG{a b c:World}{row:Option Nat}(h:a.grownBy b row)(k:b.grownBy c row):a.grownBy c row:=
 ⟨k.os.trans h.os,k.tape.trans h.tape,k.output.trans h.output,Nat.le_trans h.size k.size,fun i hi hne=>(k.block i (Nat.lt_of_lt_of_le hi h.size) hne).trans (h.block i hi hne)⟩
theorem BU(a:World)(row:Option Nat):a.grownBy a row:=⟨rfl,rfl,rfl,Nat.le_refl _,fun _ _ _=>rfl⟩
theorem rM(row:Option Nat){a b:World}(g:G a b):a.grownBy b row:=⟨g.below.os,g.below.tape,g.below.output,g.below.size,fun k hk _=>g.below.block k hk⟩
theorem AC(W:World)(b j:Nat)(v:Value):W.grownBy (W.setCell ⟨b,j,none⟩ v) (some b):=
 ⟨rfl,rfl,rfl,by simp,fun k _ hk=>Below.heap_setCell _ _ _ k (fun e=>hk (by rw[e]))⟩
theorem Yv{a b:World}{R j:Nat}{v:Value}(h:a.grownBy b (some R)):a.grownBy (b.setCell ⟨R,j,none⟩ v) (some R):=IG h (AC _ _ _ _)
theorem Wy{a b c:World}{row:Option Nat}(h:a.grownBy b row)(g:G b c):a.grownBy c row:=IG h (rM row g)
def RdO(T:TypeId)(tl:List Value)(w:World)(R:Nat)(s:List UInt8)(k:Nat):Prop:=w.heap[R]?=some (.cells (.string (S s)::.int .i64 (k:Int)::tl).toArray T)
section
variable {T:TypeId} {tl:List Value} {w w':World} {R:Nat} {s:List UInt8} {k:Nat}
theorem RdO.lt(h:RdO T tl w R s k):R<w.heap.size:=(Array.getElem?_eq_some_iff.1 h).1
theorem RdO.c1(h:RdO T tl w R s k):w.cell? ⟨R,1,none⟩=some (.int .i64 (k:Int)):=by rw[cell_of_row w R 1 _ _ _ h];rfl
theorem RdO.fz(h:RdO T tl w R s k)(j:Nat):w.frozen? ⟨R,j,none⟩=false:=frozen_of_row w R j _ _ h
theorem RdO.grow(h:RdO T tl w R s k)(g:G w w'):RdO T tl w' R s k:=(g.below.block R h.lt).trans h
theorem RdO.set(h:RdO T tl w R s k)(k':Nat):RdO T tl (w.setCell ⟨R,1,none⟩ (.int .i64 (k':Int))) R s k':=by
 have h':w.heap[R]?=_:=h
 show(w.setCell _ _).heap[R]?=_
 simp[World.setCell,Array.getElem?_modify,h']
theorem RdO.drewN(h:RdO T tl w R s k)(n:Nat):RdO T tl (w.drewN n) R s k:=h
theorem RdO.drew(h:RdO T tl w R s k):RdO T tl w.drew R s k:=h
def RdL(T:TypeId)(tl:List Value)(w:World)(R:Nat)(s l:List UInt8):Prop:=∃p,s=p++l∧RdO T tl w R s p.length
theorem RdL.grow{l:List UInt8}(h:RdL T tl w R s l)(g:G w w'):RdL T tl w' R s l:=by obtain⟨p,e,h⟩:=h;exact⟨p,e,h.grow g⟩
theorem RdL.lt{l:List UInt8}(h:RdL T tl w R s l):R<w.heap.size:=by obtain⟨p,e,h⟩:=h;exact h.lt
end
end Go.Proofs.YtmffejnigppbpaaGreatDoor

set_option maxHeartbeats 4000000
set_option maxRecDepth 100000
namespace Go.Proofs.YtmffejnigppbpaaGreatDoor
open Go.RowKit
def Aw(first:Bool)(c:UInt8):Bool:=nG c.toNat && !(first&&decide ((c.toNat:Int)≤57))
def zJ(first:Bool)(cur:Nat):List UInt8→Bool
 |[]=>decide (1≤cur∧cur≤8)
 |c::t=>if c=45 then decide (1≤cur∧cur≤8)&&zJ false 0 t else Aw first c&&zJ first (cur+1) t
def pJ(s:List UInt8):Bool:=zJ true 0 s
theorem RY(c:UInt8):fH [c]=nG c.toNat:=by unfold fH;simp
def jY(s:List UInt8)(v:Value)(w':World):Prop:=
 if pJ s=true then v=.nilIface else ∃e p,ji w' v e p∧e≠0∧0≤p∧p≤(s.length:Int)
theorem jY.yes{s:List UInt8}{w':World}(h:pJ s=true):jY s .nilIface w':=by unfold jY;rw[if_pos h]
theorem jY.no{s:List UInt8}{v:Value}{w':World}{e p:Int}(h:pJ s=false)(hv:ji w' v e p)(hp:0≤p∧p≤(s.length:Int))(he:e≠0:=by decide):jY s v w':=by unfold jY;rw[if_neg (by simp[h])];exact⟨e,p,hv,he,hp⟩
def U6(s:List UInt8)(k f:Nat):Prop:=(k≤s.length∧f≤k∧pJ s=zJ (decide (f=0)) (k-f) (s.drop k))∨(k=s.length+1∧pJ s=true)
theorem zK(s:List UInt8)(w:World)(hs:s.length≤100000):dP 158 #[.string (S s)] w (jY s):=by
 go_enter Tryz.func158,Tryz.ntmps158
 go_wp2
 go_loopw [3,4] (fun fv iv wr=>∃(k f:Nat),fv=.int .i64 f∧iv=.int .i64 k∧f≤s.length+1∧U6 s k f∧G w wr) (fun _ iv _=>s.length+1-(intOf iv).toNat)
 case atStart=>exact⟨0,0,rfl,rfl,by omega,.inl ⟨by omega,by omega,rfl⟩,G.refl _⟩
 case round=>
  obtain⟨k,f,rfl,rfl,hf,hrel,hg⟩:=hrel
  have HG:=hid hg
  clear hg
  by_cases hend:k=s.length+1
  ·rcases hrel with⟨h,_⟩|⟨_,h⟩
   ·omega
   ·have H:=hid h
    subst hend
    clear h hf
    go_wp2_with fail
    go_ret
    exact⟨_,rfl,jY.yes H.out,HG.out⟩
  have hk:k≤s.length:=by rcases hrel with⟨h,_⟩|⟨h,_⟩<;>omega
  have hfk:f≤k:=by rcases hrel with⟨_,h,_⟩|⟨h,_⟩<;>omega
  have hR:pJ s=zJ (decide (f=0)) (k-f) (s.drop k):=by rcases hrel with⟨_,_,h⟩|⟨h,_⟩;exact h;exact absurd h hend
  have HR:=hid hR
  clear hrel hR hend
  by_cases hin:k<s.length
  ·obtain⟨c,hc⟩:∃c,s[k]'hin=c:=⟨_,rfl⟩
   have hd:s.drop k=c::s.drop (k+1):=by rw[List.drop_eq_getElem_cons hin,hc]
   have hsl:(s.take (k+1)).drop k=[c]:=by
    rw[List.take_succ_eq_append_getElem hin,List.drop_append_of_le_length (by simp;omega),hc]
    simp
   have HD:=hid hd
   clear hd
   by_cases h45:c=45
   ·subst h45
    have HS:Hid (pJ s=(decide (1≤k-f∧k-f≤8)&&zJ false 0 (s.drop (k+1)))):=hid (by rw[HR.out,HD.out];rfl)
    by_cases h0:k=f
    ·subst h0
     have hq:((k:Int)==(k:Int))=true:=by simp
     go_wp2_with fail
     go_ret
     exact⟨_,rfl,jY.no (by rw[HS.out];simp) (ji.new _ _ _ _) (by omega),HG.out.alloc _⟩
    ·have hq:((k:Int)==(f:Int))=false:=beq_eq_false_iff_ne.2 (by omega)
     by_cases h8:8<(k:Int)-f
     ·go_wp2_with fail
      go_ret
      exact⟨_,rfl,jY.no (by rw[HS.out,decide_eq_false (by omega)];rfl) (ji.new _ _ _ _) (by omega),HG.out.alloc _⟩
     ·go_wp2_with fail
      go_roundw
      case rel=>
       refine⟨k+1,k+1,rfl,rfl,by omega,.inl ⟨by omega,by omega,?_⟩,HG.out⟩
       rw[HS.out,decide_eq_true (by omega),Nat.sub_self]
       simp
      case measure=>simp[intOf];omega
   ·have q45:((c.toNat:Int) != 45)=true:=bne_iff_ne.2 (fun e=>h45 (UInt8.toNat_inj.1 (by show c.toNat=45;omega)))
    have HS:Hid (pJ s=(Aw (decide (f=0)) c&&zJ (decide (f=0)) (k-f+1) (s.drop (k+1)))):=hid (by rw[HR.out,HD.out,zJ,if_neg h45])
    have IS:Hid (∀w,nT 34 #[.string (S [c])] w (.bool (nG c.toNat))):=hid (fun w=>by have:=Io [c] w (by simp);rw[RY]at this;exact this)
    cases hl:nG c.toNat with
    |false=>
     rw[hl]at IS
     have HL:=hid hl
     clear hl h45
     go_wp2_with fail
     refine(IS.out _).use ?_
     go_wp2_with fail
     go_ret
     exact⟨_,rfl,jY.no (by rw[HS.out];unfold Aw;rw[HL.out];rfl) (ji.new _ _ _ _) (by omega),HG.out.alloc _⟩
    |true=>
     rw[hl]at IS
     have HL:=hid hl
     clear hl h45
     by_cases hbad:f=0∧(c.toNat:Int)≤57
     ·obtain⟨rfl,h57⟩:=hbad
      go_wp2_with fail
      refine(IS.out _).use ?_
      go_wp2_with fail
      go_ret
      exact⟨_,rfl,jY.no (by rw[HS.out];unfold Aw;rw[HL.out];simp;omega) (ji.new _ _ _ _) (by omega),HG.out.alloc _⟩
     ·have HP:Hid (Aw (decide (f=0)) c=true):=hid (by
       unfold Aw
       rw[HL.out]
       by_cases h0:f=0
       ·have:¬(c.toNat:Int)≤57:=fun h=>hbad ⟨h0,h⟩
        simp[h0];omega
       ·simp[h0])
      have hgo:U6 s (k+1) f:=.inl ⟨by omega,by omega,by
       rw[HS.out,HP.out,Bool.true_and];congr 1;omega⟩
      have HGO:=hid hgo
      clear hgo
      by_cases h0:f=0
      ·subst h0
       have h57:57<(c.toNat:Int):=by
        by_cases h:(c.toNat:Int)≤57
        ·exact absurd ⟨rfl,h⟩ hbad
        ·omega
       clear hbad
       go_wp2_with fail
       refine(IS.out _).use ?_
       go_wp2_with fail
       go_roundw
       case rel=>exact⟨k+1,0,rfl,rfl,hf,HGO.out,HG.out⟩
       case measure=>simp[intOf];omega
      ·have q0:((f:Int)==0)=false:=beq_eq_false_iff_ne.2 (by omega)
       clear hbad h0
       go_wp2_with fail
       refine(IS.out _).use ?_
       go_wp2_with fail
       go_roundw
       case rel=>exact⟨k+1,f,rfl,rfl,hf,HGO.out,HG.out⟩
       case measure=>simp[intOf];omega
  ·obtain rfl:k=s.length:=by omega
   have HS:Hid (pJ s=decide (1≤s.length-f∧s.length-f≤8)):=hid (by rw[HR.out,List.drop_length];rfl)
   by_cases h0:s.length=f
   ·have h0':=hid h0
    subst h0
    go_wp2_with fail
    go_ret
    exact⟨_,rfl,jY.no (by rw[HS.out];simp) (ji.new _ _ _ _) (by omega),HG.out.alloc _⟩
   ·have hq:((s.length:Int)==(f:Int))=false:=beq_eq_false_iff_ne.2 (by omega)
    by_cases h8:8<(s.length:Int)-f
    ·go_wp2_with fail
     go_ret
     exact⟨_,rfl,jY.no (by rw[HS.out,decide_eq_false (by omega)]) (ji.new _ _ _ _) (by omega),HG.out.alloc _⟩
    ·go_wp2_with fail
     go_roundw
     case rel=>
      refine⟨s.length+1,s.length+1,rfl,rfl,by omega,.inr ⟨rfl,?_⟩,HG.out⟩
      rw[HS.out,decide_eq_true (by omega)]
     case measure=>simp[intOf]
end Go.Proofs.YtmffejnigppbpaaGreatDoor

set_option maxHeartbeats 400000
set_option maxRecDepth 100000
namespace Go.Proofs.YtmffejnigppbpaaGreatDoor
open Go.RowKit
def Qo(k:Nat)(c:Int):Prop:=(97≤c∧c≤122)∨(65≤c∧c≤90)∨(0<k∧((48≤c∧c≤57)∨c=43∨c=45∨c=46))
instance (k:Nat) (c:Int):Decidable (Qo k c):=by unfold Qo;infer_instance
def uC:List UInt8→Nat→Nat
 |[],_=>0
 |c::t,k=>if (c.toNat:Int)=58 then k else if Qo k c.toNat then uC t (k+1)else 0
def rF(l:List UInt8):Nat:=uC l 0
theorem Ja{l:List UInt8}{k:Nat}(h:k<l.length):uC (l.drop k) k=if (l[k].toNat:Int)=58 then k else if Qo k l[k].toNat then uC (l.drop (k+1)) (k+1)else 0:=by
 rw[List.drop_eq_getElem_cons h];rfl
theorem aal{l:List UInt8}{k:Nat}(hr:rF l=uC (l.drop k) k)(h:l.length≤k):rF l=0:=by
 rw[hr,List.drop_eq_nil_of_le h];rfl
theorem WV{l:List UInt8}{k:Nat}(hr:rF l=uC (l.drop k) k)(h:k<l.length)(hc:(l[k].toNat:Int)=58):rF l=k:=by
 rw[hr,Ja h,if_pos hc]
theorem abP{l:List UInt8}{k:Nat}(hr:rF l=uC (l.drop k) k)(h:k<l.length)(hc:(l[k].toNat:Int)≠58)(hs:Qo k l[k].toNat):rF l=uC (l.drop (k+1)) (k+1):=by
 rw[hr,Ja h,if_neg hc,if_pos hs]
theorem YS{l:List UInt8}{k:Nat}(hr:rF l=uC (l.drop k) k)(h:k<l.length)(hc:(l[k].toNat:Int)≠58)(hs:¬Qo k l[k].toNat):rF l=0:=by
 rw[hr,Ja h,if_neg hc,if_neg hs]
theorem YT(l:List UInt8)(k:Nat):uC l k=0∨(k≤uC l k∧uC l k<k+l.length):=by
 induction l generalizing k with
 |nil=>exact .inl rfl
 |cons c t ih=>
  unfold uC
  split
  ·right;simp
  ·split
   ·rcases ih (k+1)with h|h
    ·exact .inl h
    ·right;simp;omega
   ·exact .inl rfl
theorem aam(l:List UInt8):rF l≤l.length:=by
 unfold rF;rcases YT l 0 with h|h<;>omega
theorem Jc(l:List UInt8)(w:World)(hs:l.length≤140737488351328):nT 145 #[.string (S l)] w (.int .i64 (rF l)):=by
 go_enter Tryz.func145,Tryz.ntmps145
 go_wp2
 go_loop [7] (fun i=>∃k:Nat,k≤l.length∧i=.int .i64 k∧rF l=uC (l.drop k) k) (fun i=>l.length-(intOf i).toNat)
 case atStart=>exact⟨0,Nat.zero_le _,rfl,rfl⟩
 case round=>
  obtain⟨k,hk,rfl,hr⟩:=hrel
  have HR:=hid hr;clear hr
  by_cases hlt:k<l.length
  case neg=>
   go_wp2
   go_ret
   exact⟨kX (by rw[aal HR.out (by omega)];rfl),rfl⟩
  have hb:=l[k].toNat_lt
  by_cases hc:(l[k].toNat:Int)=58
  ·have HC:=hid hc
   have hc1:((l[k].toNat:Int)==58)=true:=by simp[hc]
   clear hc
   go_wp2
   go_ret
   exact⟨kX (by rw[WV HR.out hlt HC.out]),rfl⟩
  have hc1:((l[k].toNat:Int)==58)=false:=beq_eq_false_iff_ne.2 hc
  go_wp2
  all_goals try (go_ret;refine⟨kX (by rw[YS HR.out hlt (by omega) (by unfold Qo;((try simp only[beq_iff_eq,beq_eq_false_iff_ne,ne_eq]at *);omega))];rfl),rfl⟩;done)
  all_goals go_round
  all_goals try (case measure=>simp[intOf];omega)
  all_goals exact⟨k+1,by omega,by go_num,abP HR.out hlt (by omega) (by unfold Qo;((try simp only[beq_iff_eq,beq_eq_false_iff_ne,ne_eq]at *);omega))⟩
def Df(c:UInt8):Bool:=decide (33≤(c.toNat:Int)∧(c.toNat:Int)≤126)
def NK(c:UInt8):Bool:=decide (33≤(c.toNat:Int)∧(c.toNat:Int)≤126∧(c.toNat:Int)≠44∧(c.toNat:Int)≠59)
def oP(l:List UInt8):Bool:=l.all NK
theorem yx{p:UInt8→Bool}{l:List UInt8}{k:Nat}(ha:(l.take k).all p=true)(h:k<l.length)(hp:p l[k]=true):(l.take (k+1)).all p=true:=by
 rw[List.take_succ_eq_append_getElem h,List.all_append,ha];simp[hp]
theorem NL{p:UInt8→Bool}{l:List UInt8}{k:Nat}(h:k<l.length)(hp:p l[k]=false):l.all p=false:=by
 rw[List.all_eq_false];exact⟨l[k],List.getElem_mem h,by simp[hp]⟩
theorem Dh{p:UInt8→Bool}{l:List UInt8}{k:Nat}(ha:(l.take k).all p=true)(h:l.length≤k):l.all p=true:=by
 rwa [List.take_of_length_le h]at ha
def Dk(p:UInt8→Bool)(l:List UInt8):Option Nat:=l.findIdx? (fun c=>!p c)
theorem Jd{p:UInt8→Bool}{l:List UInt8}:Dk p l=none↔l.all p=true:=by
 unfold Dk;simp[List.findIdx?_eq_none_iff]
theorem YU{p:UInt8→Bool}{l:List UInt8}{k:Nat}(ha:(l.take k).all p=true)(h:k<l.length)(hp:p l[k]=false):Dk p l=some k:=by
 unfold Dk
 rw[List.findIdx?_eq_some_iff_getElem]
 refine⟨h,by simp[hp],fun j hj=>?_⟩
 have:=List.all_eq_true.1 ha (l[j]'(by omega)) (by rw[List.mem_take_iff_getElem];exact⟨j,by omega,rfl⟩)
 simp[this]
def nY(l:List UInt8)(v:Value)(w':World):Prop:=
 if rF l=0 then v=eno 8 else match Dk Df l with
  |some i=>ji w' v 3 i
  |none=>if rF l+1=l.length then ji w' v 7 l.length else v=.nilIface
theorem wY(l:List UInt8)(w:World)(hs:l.length≤140737488351328):dP 95 #[.string (S l)] w (nY l):=by
 have hle:=aam l
 by_cases h:rF l=0
 ·go_enter Tryz.func95,Tryz.ntmps95
  go_wp2_with fail
  refine(Jc l _ hs).use ?_
  rw[h]
  go_wp2_with fail
  go_ret
  exact⟨_,rfl,by unfold nY;rw[if_pos h];rfl,G.refl _⟩
 ·have h1:((rF l:Int)==0)=false:=beq_eq_false_iff_ne.2 (by omega)
  have H:=hid h
  clear h
  go_enter Tryz.func95,Tryz.ntmps95
  go_wp2_with fail
  refine(Jc l _ hs).use ?_
  go_wp2_with fail
  go_loop [12] (fun i=>∃k:Nat,k≤l.length∧i=.int .i64 k∧(l.take k).all Df=true) (fun i=>l.length-(intOf i).toNat)
  case atStart=>exact⟨0,Nat.zero_le _,rfl,rfl⟩
  case round=>
   obtain⟨k,hk,rfl,hr⟩:=hrel
   have HR:=hid hr;clear hr
   by_cases hlt:k<l.length
   case neg=>
    have HN:Hid (Dk Df l=none):=hid (Jd.2 (Dh HR.out (by omega)))
    by_cases h2:rF l+1=l.length
    ·have h3:((rF l:Int)+1==(l.length:Int))=true:=by simp;omega
     have H2:=hid h2
     clear h2
     go_wp2
     go_ret
     exact⟨_,rfl,by unfold nY;rw[if_neg H.out,HN.out];show(if _ then _ else _);rw[if_pos H2.out];exact ji.new _ _ _ _,(G.refl _).alloc _⟩
    ·have h3:((rF l:Int)+1==(l.length:Int))=false:=beq_eq_false_iff_ne.2 (by omega)
     have H2:=hid h2
     clear h2
     go_wp2
     go_ret
     exact⟨_,rfl,by unfold nY;rw[if_neg H.out,HN.out];show(if _ then _ else _);rw[if_neg H2.out];rfl,G.refl _⟩
   have hb:=l[k].toNat_lt
   go_wp2
   all_goals try (go_ret;refine⟨_,rfl,by unfold nY;rw[if_neg H.out,YU HR.out hlt (by unfold Df;rw[decide_eq_false_iff_not];((try simp only[beq_iff_eq,beq_eq_false_iff_ne,ne_eq]at *);omega))];exact ji.new _ _ _ _,(G.refl _).alloc _⟩;done)
   all_goals go_round
   all_goals try (case measure=>simp[intOf];omega)
   all_goals exact⟨k+1,by omega,by go_num,yx HR.out hlt (by unfold Df;rw[decide_eq_true_iff];((try simp only[beq_iff_eq,beq_eq_false_iff_ne,ne_eq]at *);omega))⟩
end Go.Proofs.YtmffejnigppbpaaGreatDoor

namespace Go.Proofs.YtmffejnigppbpaaGreatDoor
open Go.RowKit
theorem dn{w:World}{b:Nat}{o:Obj}(h:w.heap[b]?=some o):b<w.heap.size:=by
 rcases Nat.lt_or_ge b w.heap.size with h'|h'
 ·exact h'
 ·rw[Array.getElem?_eq_none h']at h;cases h
theorem YE{W:World}{b i:Nat}{v:Value}{cs cs':Array Value}{T:TypeId}{fr:Nat×Nat}(h:W.heap[b]?=some (.cells cs T fr))(e:cs.setIfInBounds i v=cs'):(W.setCell ⟨b,i,none⟩ v).heap[b]?=some (.cells cs' T fr):=by
 subst e
 simp[World.setCell,Array.getElem?_modify,h]
end Go.Proofs.YtmffejnigppbpaaGreatDoor

namespace Go.Proofs.YtmffejnigppbpaaGreatDoor
open Go.RowKit
theorem Yh{α:Type}(a:Array α)(x y:α):(a.push x).setIfInBounds a.size y=a.push y:=by
 apply Array.ext'
 simp
theorem BK{P:Program}(w:World)(t kt et:TypeId)(d:TypeDesc)(ht:P.underlying t=some (.map kt et))(hk:P.underlying kt=some d)(es:Array MapEntry)(c:Nat)(k v:Value)(hkd:MapKept.IsKey d k)(hn:Instr.findNow d k es.toList 0=some none) :
  (Instr.mapUpdate t (.map (some w.heap.size)) k v).run P (w.alloc (.map es c))=.ok () (w.alloc (.map (es.push { key:=k,val:=v,born:=c }) (c+1))):=by
 have hb:(w.alloc (.map es c)).heap[w.heap.size]?=some (.map es c):=(MapKept.heap_alloc w _).1
 have hc:(Instr.checkKey false 10000 kt k).run P (w.alloc (.map es c))=.ok () (w.alloc (.map es c)):=MapKept.run_checkKey hk hkd false 9999
 have hw:({ (w.alloc (.map es c))with heap:=(w.alloc (.map es c)).heap.setIfInBounds w.heap.size (.map (es.push { key:=k,val:=v,born:=c }) (c+1)) }:World)=w.alloc (.map (es.push { key:=k,val:=v,born:=c }) (c+1)):=by
  unfold World.alloc
  simp only
  rw[Yh]
 simp[Instr.mapUpdate,run_underlying ht,MapKept.run_getObj_map hb,hc,MapKept.run_findKey hk hn,MapKept.run_setObj_map _ hb,Result.andThen]
 exact hw
theorem x9{P:Program}{k:Value}(w:World)(t kt et:TypeId)(d:TypeDesc)(ht:P.underlying t=some (.map kt et))(hk:P.underlying kt=some d)(b:Nat)(es:Array MapEntry)(c:Nat)(hb:w.heap[b]?=some (.map es c))(hkd:MapKept.IsKey d k)(i:Nat)(v:Value)(ok:Bool)(hn:Instr.findNow d k es.toList 0=some (some (i,v))) :
  (Instr.lookup t (.map (some b)) k ok).run P w=.ok (if ok then .tuple #[v,.bool true] else v) w:=by
 have hc:∀e,(Instr.checkKey e 10000 kt k).run P w=.ok () w:=fun e=>MapKept.run_checkKey hk hkd e 9999
 cases ok<;>simp[Instr.lookup,run_underlying ht,MapKept.run_getObj_map hb,hc,MapKept.run_findKey hk hn,Result.andThen]
theorem BL(X:World)(o:Obj)(k:Nat)(h:X.heap.size=k):(X.alloc o).heap[k]?=some o:=by subst h;exact(MapKept.heap_alloc X _).1
theorem Sr{P:Program}(w:World)(t kt et:TypeId)(d:TypeDesc)(ht:P.underlying t=some (.map kt et))(hk:P.underlying kt=some d)(b:Nat)(es:Array MapEntry)(c:Nat)(k v:Value)(hb:w.heap[b]?=some (.map es c))(hkd:MapKept.IsKey d k)(hn:Instr.findNow d k es.toList 0=some none) :
  (Instr.mapUpdate t (.map (some b)) k v).run P w=.ok () { w with heap:=w.heap.setIfInBounds b (.map (es.push { key:=k,val:=v,born:=c }) (c+1)) }:=by
 have hc:(Instr.checkKey false 10000 kt k).run P w=.ok () w:=MapKept.run_checkKey hk hkd false 9999
 simp[Instr.mapUpdate,run_underlying ht,MapKept.run_getObj_map hb,hc,MapKept.run_findKey hk hn,MapKept.run_setObj_map _ hb,Result.andThen]
end Go.Proofs.YtmffejnigppbpaaGreatDoor

namespace Go.Proofs.YtmffejnigppbpaaGreatDoor
open Go.RowKit
theorem Nl:(Tryz.prog.info? 9).map (fun i=>(i.zero,i.size,i.bytes))=some (some (.string ⟨#[]⟩),1,16):=by kernel_rfl
theorem aaJ(w:World)(v:Value)(e:TypeId):∀(j:Nat) (u:Value),[v][j]?=some u→(w.alloc (.cells #[v] e)).cell? ((⟨w.heap.size,0,none⟩:Addr).add j)=some u:=by
 intro j u hj
 match j,hj with
 |0,hj=>simp at hj;subst hj;simp[Addr.add]
theorem aaK(v:Value)(h:v.oneCell'=true):∀u∈[v],u.oneCell'=true:=by intro u hu;simp at hu;subst hu;exact h
theorem IA{w:World}{base:Nat}{e:TypeId}{k:Nat}{v:Value}{n:Nat}{xs:List Value}(h:w.ownsRow base e k v n xs)(h1:∀u∈xs,u.oneCell'=true):mi k w v n xs:=by
 refine⟨h.1,h1,?_⟩
 rcases Nat.eq_zero_or_pos n with h0|h0
 ·left
  refine⟨h0,?_⟩
  rcases h.2 with⟨e,_⟩|⟨g,cap,cur,e,_⟩
  ·exact .inl e
  ·exact .inr ⟨_,_,by rw[e,h0]⟩
 ·right
  obtain⟨g,cap,rfl,_,hlt⟩:=h.form h0
  refine⟨g,0,cap,rfl,hlt,h0,fun j hj=>?_⟩
  have:=h.cells (g:=g) rfl j xs[j] (List.getElem?_eq_getElem hj)
  rw[Nat.zero_add]
  have e:(⟨g,0,none⟩:Addr).add j=⟨g,j,none⟩:=by unfold Addr.add;split<;>simp_all
  rw[e]at this;exact this
theorem SQ{w:World}{base:Nat}{e:TypeId}{k:Nat}{v:Value}{n:Nat}{xs:List Value}(h:w.ownsRow base e k v n xs):O4 v:=by
 rcases h.2 with⟨rfl,_⟩|⟨g,cap,cur,rfl,_,_,hc,_⟩
 ·exact Nat.le_refl _
 ·exact hc
theorem qO{w:World}{base:Nat}{v:Value}{ls:List (List UInt8)}(h:w.ownsRow base 9 1 v ls.length (ls.map fun l=>.string (S l))):di w v ls:=
 ⟨IA h (by intro u hu;obtain⟨l,_,rfl⟩:=List.mem_map.1 hu;rfl),SQ h⟩
theorem IB{w:World}{b1 b2:Nat}{e1 e2:TypeId}{k1 k2 n1 n2:Nat}{v1 v2:Value}{x1 x2:List Value}(h1:w.ownsRow b1 e1 k1 v1 n1 x1)(h2:w.ownsRow b2 e2 k2 v2 n2 x2)(he:e1≠e2):v1.ownBlock=none∨v1.ownBlock≠v2.ownBlock:=by
 rcases h1.2 with⟨rfl,_⟩|⟨g1,c1,cur1,rfl,_,hg1,_⟩
 ·exact .inl rfl
 ·refine .inr fun e=>?_
  rcases h2.2 with⟨rfl,_⟩|⟨g2,c2,cur2,rfl,_,hg2,_⟩
  ·cases e
  ·have:g1=g2:=by simpa[Value.ownBlock]using e
   subst this
   have:=hg1.symm.trans hg2
   simp at this
   exact he this.2
theorem l9{w:World}{b:Nat}{e:TypeId}{k n:Nat}{v:Value}{x:List Value}(h:w.ownsRow b e k v n x){B:Nat}(hB:B<b):v.ownBlock=none∨v.ownBlock≠some B:=by
 cases hv:v.ownBlock with
 |none=>exact .inl rfl
 |some g=>
  have:=(h.lt g hv).1
  exact .inr fun e=>by injection e with e;omega
end Go.Proofs.YtmffejnigppbpaaGreatDoor
