/-
  Texts merged into one: RulesOf3, RulesType, RulesNames3.
-/
import Derived.Test.YtmffejnigppbpaaGreatDoorCXMA69
import Derived.Test.YtmffejnigppbpaaGreatDoorCXMRules
import Derived.Test.YtmffejnigppbpaaGreatDoorCXMA63
import Derived.Test.YtmffejnigppbpaaGreatDoorCXMA49
import Derived.RangeFuncBox
import Derived.OwnWalkIn
import Derived.Test.YtmffejnigppbpaaGreatDoorCXMA47
set_option linter.unusedVariables false
set_option linter.unusedSimpArgs false
set_option maxHeartbeats 40000000
set_option maxRecDepth 100000
namespace Go.Proofs.YtmffejnigppbpaaGreatDoor
open Go.RowKit Go.Shelf
attribute [local go_sem] Oper.semAt_some
theorem abE(s : List UInt8)(w : World)(hs : s.length ≤ 1000000)(hsp : Lib.TabIs Tryz.prog w "strings.asciiSpace" .u8 Lib.asciiSpaceTab) :
  CallsIn Fence.wide 6 Tryz.prog 20 #[.string (S s),.int .i64 3] w fun e w'=>e=.returned (.tuple #[.agg #[.int .i64 (iM (fM 3) (bU s)).1,.int .i64 (iM (fM 3) (bU s)).2.1,.int .i64 (iM (fM 3) (bU s)).2.2.1,.int .i64 (iM (fM 3) (bU s)).2.2.2],.nilIface])∧Below w.heap.size w w':=by
 have tb:=fun W=>yY 3 W
 have TB:=hid tb
 clear tb
 refine callsIn_of_wp_marks Tryz.func20 rfl trivial ?_ rfl
 simp only[Tryz.ntmps20,List.size_toArray,List.length_cons,List.length_nil,Nat.reduceAdd,Nat.reduceSub,Array.replicate_succ,Array.replicate_zero,List.push_toArray,List.append_toArray,List.nil_append,List.cons_append]
 gi_wp2_with (first|(refine⟨trivial,?_⟩;gi_at_call 57;refine(callsIn_wide.2 (TB.out _)).mono ?_;rintro e w' ⟨rfl,rfl⟩)|(refine⟨trivial,?_⟩;gi_at_call 56;refine(callsIn_wide.2 (rX _ _ _)).mono ?_;rintro e w' ⟨rfl,rfl⟩))
 obtain⟨p,ps,e1,e2,e3,e4⟩:=yV 3
 rw[e2]
 generalize hW0:World.alloc _ (Obj.cells #[Value.int IntKind.i64 0] 3)=W0
 have z0:W0.heap.size=w.heap.size+6:=by rw[←hW0];simp
 have c0:W0.cell? ⟨w.heap.size,0,none⟩=some (.string (S s)):=by rw[←hW0];simp[go_sem]
 have c2:W0.cell? ⟨w.heap.size+3,0,none⟩=some (.string (S (gp [124] p ps))):=by rw[←hW0];simp[go_sem]
 have c3:W0.cell? ⟨w.heap.size+4,0,none⟩=some (.string (S [124])):=by rw[←hW0];simp[go_sem]
 have c4:W0.cell? ⟨w.heap.size+5,0,none⟩=some (.int .i64 0):=by rw[←hW0];simp[go_sem]
 have f2:W0.frozen? ⟨w.heap.size+3,0,none⟩=false:=by rw[←hW0];simp[go_sem]
 have hof:pX w.heap.size s (0,0,0,0) W0:=by rw[←hW0];refine⟨?_,?_,?_,?_,?_,?_,?_,?_,?_,?_,?_⟩<;>simp[go_sem]
 have hB0:Below w.heap.size w W0:=by rw[←hW0];repeat (first|exact Below.refl _ _|(refine Below.alloc ?_ (by simp;try omega) _))
 refine lQ (B:=w.heap.size+3) (by omega) rfl (by decide) (gf:=146) (lb:=#[.pointer (some ⟨w.heap.size+4,0,none⟩),.pointer (some ⟨w.heap.size+3,0,none⟩),.pointer (some ⟨w.heap.size+5,0,none⟩)]) rfl trivial (enters_of Tryz.func146 (by kernel_rfl) rfl)
  (y8 5 (w.heap.size+4) (w.heap.size+3) (w.heap.size+5) (by omega) (by omega) (by omega) p ps e3 e4 W0 (by omega) (by omega) (by omega) c3 c2 c4 f2) yX
  (fun W l o o' hl hW ho hw=>mF (belowK_b (w:=W0) (Nat.le_refl _) W l o o' hl hW ho hw) (by omega) (by omega) (by omega)) (Below.refl _ _) (fun _=>rfl)
  (fun pre W=>(pX w.heap.size s (0,0,0,0) W∧(∀e∈fM 3,e.text∈pre→¬e.name=bU s)∧W0.heap.size≤W.heap.size)∧Below w.heap.size w W)
  (fun c pre W=>(pX w.heap.size s (iM (fM 3) (bU s)) W∧c=.ret)∧Below w.heap.size w W)
  (OwnFrom.and (Own.from (fun x A B row hs hg hr=>⟨pX.own _ _ _ x A B row hs.1 hg hr,hs.2.1,Nat.le_trans hs.2.2 hg.size⟩) _) (ownFrom_below (Nat.le_refl _) (by omega)))
  (fun x W v hs=>⟨⟨hs.1.1.set _ _ (by omega),hs.1.2.1,Nat.le_trans hs.1.2.2 (by simp)⟩,hs.2.setCell (p:=⟨w.heap.size+3,0,none⟩) (by simp) _⟩)
  (fun c=>OwnFrom.and (Own.from (fun x A B row hs hg hr=>⟨pX.own _ _ _ x A B row hs.1 hg hr,hs.2⟩) _) (ownFrom_below (Nat.le_refl _) (by omega)))
  ⟨⟨hof,by simp,Nat.le_refl _⟩,hB0⟩
  (fun x=>{ tmps:=#[.string (S s),.int .i64 3,.pointer (some ⟨w.heap.size,0,none⟩),undef,.pointer (some ⟨w.heap.size+1,0,none⟩),.pointer (some ⟨w.heap.size+1+1,0,none⟩),.string (S x),undef,undef,undef,.int .i64 3,.bool false,.bool false,undef,undef,.bool false,undef,undef,.int .i64 3,.string (S (gp [124] p ps)),.func (.func 146) #[] #[.pointer (some ⟨w.heap.size+4,0,none⟩),.pointer (some ⟨w.heap.size+3,0,none⟩),.pointer (some ⟨w.heap.size+5,0,none⟩)],.string (S x),undef,undef,undef,undef,undef,undef,undef,undef,undef,undef,undef,undef,undef,undef,undef,undef,undef,undef,undef,undef,undef,undef,undef,undef,undef,undef,undef,undef,undef,undef,undef,undef,undef],defers:=[] })
  ?assign ?body ?done ?stop
 case assign=>
  intro l x W K hK
  gi_wp2
  exact hK
 case body=>
  rintro l pre x W ⟨⟨ho,hne,hsz⟩,hB⟩ hpre
  have hx:x∈(fM 3).map Ent.text:=by rw[e1];exact hpre.subset (by simp)
  obtain⟨e,he,rfl⟩:=List.mem_map.1 hx
  obtain⟨hf,t1,t2,t3,t4,hlen,hasc⟩:=qo 3 e he
  have fl:=Tryz.strings_Fields_laid (S e.text) W (by simp;omega) (fun j b hb=>hasc b (by simp at hb;exact List.mem_of_getElem? hb)) (Lib.tabBelow_of_tabIs hsp W hB)
  rw[show(S e.text).data.toList=e.text from by simp,hf]at fl
  have FL:=hid fl
  have up:=fun W=>kV s W (by omega)
  have UP:=hid up
  have ho0:=ho.c0
  clear fl up
  gi_wp2_with (refine⟨trivial,?_⟩;gi_at_call 58;refine(CallsIn.inRound l (callsIn_wide.2 FL.out)).mono ?_;rintro e' w' ⟨rfl,rfl⟩)
  generalize hW5:W.alloc _=W5
  have gW5:Below W.heap.size W W5:=by rw[←hW5];exact(Below.refl _ _).alloc (Nat.le_refl _) _
  have g5:Below w.heap.size w W5:=by rw[←hW5];exact hB.alloc hB.size _
  have k5:∀i,i<5→W5.cell? ⟨W.heap.size,i,none⟩=([e.name,[UInt8.ofNat (48+e.ty)],[UInt8.ofNat (48+e.least)],[UInt8.ofNat (48+e.most)],[UInt8.ofNat (48+e.parts)]].map fun l=>Value.string (S l))[i]?:=by
   intro i hi
   have h5:i=0∨i=1∨i=2∨i=3∨i=4:=by omega
   rw[←hW5]
   rcases h5 with rfl|rfl|rfl|rfl|rfl<;>simp[go_sem]<;>rfl
  have a0:W5.cell? ⟨W.heap.size,0,none⟩=some (.string (S e.name)):=k5 0 (by decide)
  have o5:pX w.heap.size s (0,0,0,0) W5:=by rw[←hW5];exact pX.own _ _ _ [] W _ none ho (World.grownBy_alloc W _ none) (fun r e=>by cases e)
  have o0:=o5.c0
  have hl5:W.heap.size<W5.heap.size:=by rw[←hW5];simp
  have hl6:w.heap.size<W5.heap.size:=Nat.lt_of_le_of_lt hB.size hl5
  have hd:1≤6-1-1:=by decide
  by_cases hn:e.name=bU s
  ·have hnb:(e.name==bU s)=true:=beq_iff_eq.2 hn
   have hmx:Tryz.prog.follows .mixedOrders=true:=by kernel_rfl
   gi_region_with_o (refine⟨trivial,?_⟩;gi_at_call 52;refine(CallsIn.inRound l (callsIn_wide.2 (UP.out _))).mono ?_;rintro e' w' ⟨rfl,hg'⟩;have q0:w'.cell? ⟨W.heap.size,0,none⟩=some (.string (S e.name)):=(G.cell hg' (p:=⟨W.heap.size,0,none⟩) hl5).trans a0;have q1:w'.cell? ⟨w.heap.size,0,none⟩=some (.string (S s)):=(G.cell hg' (p:=⟨w.heap.size,0,none⟩) hl6).trans o0)
   all_goals gi_wp2_with fail
   all_goals
    have hl7:W.heap.size<w'.heap.size:=Nat.lt_of_lt_of_le hl5 hg'.below.size
    obtain⟨l1,hl1'⟩:∃x,x=[UInt8.ofNat (48+e.ty)]:=⟨_,rfl⟩
    have r1:w'.cell? ⟨W.heap.size,1,none⟩=some (.string (S l1)):=by rw[hl1'];exact(G.cell hg' (p:=⟨W.heap.size,1,none⟩) hl5).trans (k5 1 (by decide))
    obtain⟨l2,hl2'⟩:∃x,x=[UInt8.ofNat (48+e.least)]:=⟨_,rfl⟩
    have r2:w'.cell? ⟨W.heap.size,2,none⟩=some (.string (S l2)):=by rw[hl2'];exact(G.cell hg' (p:=⟨W.heap.size,2,none⟩) hl5).trans (k5 2 (by decide))
    obtain⟨l3,hl3'⟩:∃x,x=[UInt8.ofNat (48+e.most)]:=⟨_,rfl⟩
    have r3:w'.cell? ⟨W.heap.size,3,none⟩=some (.string (S l3)):=by rw[hl3'];exact(G.cell hg' (p:=⟨W.heap.size,3,none⟩) hl5).trans (k5 3 (by decide))
    obtain⟨l4,hl4'⟩:∃x,x=[UInt8.ofNat (48+e.parts)]:=⟨_,rfl⟩
    have r4:w'.cell? ⟨W.heap.size,4,none⟩=some (.string (S l4)):=by rw[hl4'];exact(G.cell hg' (p:=⟨W.heap.size,4,none⟩) hl5).trans (k5 4 (by decide))
    have at1:∀W,dA 59 #[.string (S l1)] W (.tuple #[.int .i64 e.ty,.nilIface]):=fun W=>by rw[hl1'];exact jS e.ty W t1
    have at2:∀W,dA 59 #[.string (S l2)] W (.tuple #[.int .i64 e.least,.nilIface]):=fun W=>by rw[hl2'];exact jS e.least W t2
    have at3:∀W,dA 59 #[.string (S l3)] W (.tuple #[.int .i64 e.most,.nilIface]):=fun W=>by rw[hl3'];exact jS e.most W t3
    have at4:∀W,dA 59 #[.string (S l4)] W (.tuple #[.int .i64 e.parts,.nilIface]):=fun W=>by rw[hl4'];exact jS e.parts W t4
    have A1:=hid at1
    have A2:=hid at2
    have A3:=hid at3
    have A4:=hid at4
    clear at1 at2 at3 at4 k5 a0 q0 hlen hasc hf hl1' hl2' hl3' hl4' e1 e2 e3 e4 hx hpre
    have hbl:Below w'.heap.size w' (w'.alloc (Obj.cells #[Value.int IntKind.i64 0,Value.int IntKind.i64 0,Value.int IntKind.i64 0,Value.int IntKind.i64 0] 92)):=(Below.refl _ _).alloc (Nat.le_refl _) _
    have hdg:Dig w'.heap.size e 0 (w'.alloc (Obj.cells #[Value.int IntKind.i64 0,Value.int IntKind.i64 0,Value.int IntKind.i64 0,Value.int IntKind.i64 0] 92)):=by refine⟨?_,?_,?_,?_,?_,?_,?_,?_⟩<;>simp[go_sem]
    gi_loopw [30] (fun i wr=>∃k:Nat,k≤4∧i=.int .i64 k∧Dig w'.heap.size e k wr∧Below w'.heap.size w' wr) (fun i _=>4-(intOf i).toNat)
    case atStart=>exact⟨0,by omega,rfl,hdg,hbl⟩
    case round=>
     obtain⟨k,hk,rfl,hd',hb'⟩:=hrel
     have HD:=hid hd'
     have HB:=hid hb'
     have v1:=(hb'.cell (p:=⟨W.heap.size,1,none⟩) hl7).trans r1
     have v2:=(hb'.cell (p:=⟨W.heap.size,2,none⟩) hl7).trans r2
     have v3:=(hb'.cell (p:=⟨W.heap.size,3,none⟩) hl7).trans r3
     have v4:=(hb'.cell (p:=⟨W.heap.size,4,none⟩) hl7).trans r4
     obtain⟨d0,d1,d2,d3,f0,f1,f2,f3⟩:=hd'
     clear hb' hdg hbl r1 r2 r3 r4
     have hG:Below W.heap.size W wr:=(gW5.drew.trans (Below.mono hg'.below (Nat.le_of_lt hl5))).trans (HB.out.mono (Nat.le_of_lt (Nat.lt_of_lt_of_le hl5 hg'.below.size)))
     by_cases hk4:k=4
     ·subst hk4
      clear v1 v2 v3 v4
      simp only[Nat.reduceLT,if_true]at d0 d1 d2 d3
      have o6:=ho.below hG (by omega)
      have y0:=o6.c0
      have y1:=o6.r0
      have y2:=o6.r1
      have y3:=o6.r2
      have y4:=o6.r3
      have y5:=o6.er
      have g1:=o6.f0
      have g2:=o6.f1
      have g3:=o6.f2
      have g4:=o6.f3
      have g5':=o6.fe
      gi_wp2
      have o7:=o6.put e.ty e.least e.most e.parts
      have hr:iM (fM 3) (bU s)=((e.ty:Int),(e.least:Int),(e.most:Int),(e.parts:Int)):=Va he hn
      have hB3:=(((((hB.trans (hG.mono hB.size)).setCell (p:=⟨w.heap.size+1,0,none⟩) (by simp) (.int .i64 e.ty)).setCell (p:=⟨w.heap.size+1,1,none⟩) (by simp) (.int .i64 e.least)).setCell (p:=⟨w.heap.size+1,2,none⟩) (by simp) (.int .i64 e.most)).setCell (p:=⟨w.heap.size+1,3,none⟩) (by simp) (.int .i64 e.parts)).setCell (p:=⟨w.heap.size+2,0,none⟩) (by simp) .nilIface
      have hK3:=(((((KeepsOthers.setCell wr ⟨w.heap.size+1,0,none⟩ (.int .i64 e.ty)).trans (KeepsOthers.setCell _ ⟨w.heap.size+1,1,none⟩ (.int .i64 e.least))).trans (KeepsOthers.setCell _ ⟨w.heap.size+1,2,none⟩ (.int .i64 e.most))).trans (KeepsOthers.setCell _ ⟨w.heap.size+1,3,none⟩ (.int .i64 e.parts))).trans (KeepsOthers.setCell _ ⟨w.heap.size+2,0,none⟩ .nilIface)).from (w.heap.size+6)
      exact⟨(lG hG).trans hK3,⟨by rw[hr];exact o7,rfl⟩,hB3⟩
     ·have hk5:k=0∨k=1∨k=2∨k=3:=by omega
      clear hk4 hk
      rcases hk5 with rfl|rfl|rfl|rfl
      ·gi_wp2_with (refine⟨trivial,?_⟩;gi_at_call 59;refine(CallsIn.inRound l (callsIn_wide.2 (A1.out _))).mono ?_;rintro e' wx ⟨rfl,hx'⟩;have x0:=(HD.out.grow hx').c0;have x1:=(HD.out.grow hx').f0)
       go_roundw
       case rel=>exact⟨1,by omega,rfl,(HD.out.grow hx').set (by omega),(HB.out.trans (hx'.below.mono HB.out.size)).setCell (Nat.le_refl _) _⟩
       case measure=>simp[intOf]
      ·gi_wp2_with (refine⟨trivial,?_⟩;gi_at_call 59;refine(CallsIn.inRound l (callsIn_wide.2 (A2.out _))).mono ?_;rintro e' wx ⟨rfl,hx'⟩;have x0:=(HD.out.grow hx').c1;have x1:=(HD.out.grow hx').f1)
       go_roundw
       case rel=>exact⟨2,by omega,rfl,(HD.out.grow hx').set (by omega),(HB.out.trans (hx'.below.mono HB.out.size)).setCell (Nat.le_refl _) _⟩
       case measure=>simp[intOf]
      ·gi_wp2_with (refine⟨trivial,?_⟩;gi_at_call 59;refine(CallsIn.inRound l (callsIn_wide.2 (A3.out _))).mono ?_;rintro e' wx ⟨rfl,hx'⟩;have x0:=(HD.out.grow hx').c2;have x1:=(HD.out.grow hx').f2)
       go_roundw
       case rel=>exact⟨3,by omega,rfl,(HD.out.grow hx').set (by omega),(HB.out.trans (hx'.below.mono HB.out.size)).setCell (Nat.le_refl _) _⟩
       case measure=>simp[intOf]
      ·gi_wp2_with (refine⟨trivial,?_⟩;gi_at_call 59;refine(CallsIn.inRound l (callsIn_wide.2 (A4.out _))).mono ?_;rintro e' wx ⟨rfl,hx'⟩;have x0:=(HD.out.grow hx').c3;have x1:=(HD.out.grow hx').f3)
       go_roundw
       case rel=>exact⟨4,by omega,rfl,(HD.out.grow hx').set (by omega),(HB.out.trans (hx'.below.mono HB.out.size)).setCell (Nat.le_refl _) _⟩
       case measure=>simp[intOf]
  have hnb:(e.name==bU s)=false:=beq_eq_false_iff_ne.2 hn
  have hmx:Tryz.prog.follows .mixedOrders=true:=by kernel_rfl
  gi_region_with_o (refine⟨trivial,?_⟩;gi_at_call 52;refine(CallsIn.inRound l (callsIn_wide.2 (UP.out _))).mono ?_;rintro e' w' ⟨rfl,hg'⟩;have q0:w'.cell? ⟨W.heap.size,0,none⟩=some (.string (S e.name)):=(G.cell hg' (p:=⟨W.heap.size,0,none⟩) hl5).trans a0;have q1:w'.cell? ⟨w.heap.size,0,none⟩=some (.string (S s)):=(G.cell hg' (p:=⟨w.heap.size,0,none⟩) hl6).trans o0)
  all_goals gi_wp2
  all_goals
   have hG:Below W.heap.size W w':=gW5.drew.trans (Below.mono hg'.below (Nat.le_of_lt hl5))
   exact⟨lG hG,mF hG (by omega) (by omega) (by omega),⟨ho.below hG (by omega),fun e' he' hm=>(List.mem_append.1 hm).elim (hne e' he') (fun h=>by rw[Le he he' (by simpa using h)];exact hn),Nat.le_trans hsz hG.size⟩,hB.trans (hG.mono hB.size)⟩
 case done=>
  rintro D W hD ⟨⟨ho,hne,hsz⟩,hB⟩ hK
  have d1:=ho.r0
  have d2:=ho.r1
  have d3:=ho.r2
  have d4:=ho.r3
  have d5:=ho.er
  have y1:=ho.f0
  have y2:=ho.f1
  have y3:=ho.f2
  have y4:=ho.f3
  have y5:=ho.fe
  gi_wp2
  have ho3:=ho.put 8 0 0 0
  have hB3:=((((hB.setCell (p:=⟨w.heap.size+1,0,none⟩) (by simp) (.int .i64 8)).setCell (p:=⟨w.heap.size+1,1,none⟩) (by simp) (.int .i64 0)).setCell (p:=⟨w.heap.size+1,2,none⟩) (by simp) (.int .i64 0)).setCell (p:=⟨w.heap.size+1,3,none⟩) (by simp) (.int .i64 0)).setCell (p:=⟨w.heap.size+2,0,none⟩) (by simp) .nilIface
  have hK3:=(((((KeepsOthers.setCell W ⟨w.heap.size+1,0,none⟩ (.int .i64 8)).trans (KeepsOthers.setCell _ ⟨w.heap.size+1,1,none⟩ (.int .i64 0))).trans (KeepsOthers.setCell _ ⟨w.heap.size+1,2,none⟩ (.int .i64 0))).trans (KeepsOthers.setCell _ ⟨w.heap.size+1,3,none⟩ (.int .i64 0))).trans (KeepsOthers.setCell _ ⟨w.heap.size+2,0,none⟩ .nilIface)).same D _ hK rfl
  have hr:iM (fM 3) (bU s)=(8,0,0,0):=by
   unfold iM
   rw[List.find?_eq_none.2 (fun e he=>by
    have:=hne e he (by rw[←e1];exact List.mem_map_of_mem he)
    simp[this])]
  rw[hr]
  generalize hW3:World.setCell _ _ Value.nilIface=W3 at ho3 hB3 hK3⊢
  refine⟨by simp,.inl ⟨_,_,rfl,run_takeDeferred hK3,?_⟩⟩
  have ho2:=pX.own _ _ _ [] W3 _ (some D) ho3 (grownBy_putObj' _ D (.deferred none)) (fun r e=>by cases e;exact⟨_,hK3,rfl⟩)
  have d1:=ho2.r0
  have d2:=ho2.r1
  have d3:=ho2.r2
  have d4:=ho2.r3
  have d5:=ho2.er
  refine⟨_,?_,rfl,hB3.trans (belowK_b (w:=w) (Nat.le_refl _) W3 D _ _ (by omega) hK3 rfl rfl)⟩
  simp[results,Tryz.f20,go_sem,d1,d2,d3,d4,d5]
 case stop=>
  rintro D c pre W hD hpre ⟨⟨ho,rfl⟩,hB⟩ hK
  gi_wp2
  refine⟨by simp,.inl ⟨_,_,rfl,run_takeDeferred hK,?_⟩⟩
  have ho2:=pX.own _ _ _ [] W _ (some D) ho (grownBy_putObj' _ D (.deferred none)) (fun r e=>by cases e;exact⟨_,hK,rfl⟩)
  have d1:=ho2.r0
  have d2:=ho2.r1
  have d3:=ho2.r2
  have d4:=ho2.r3
  have d5:=ho2.er
  refine⟨_,?_,rfl,hB.trans (belowK_b (w:=w) (Nat.le_refl _) W D _ _ (by omega) hK rfl rfl)⟩
  simp[results,Tryz.f20,go_sem,d1,d2,d3,d4,d5]
end Go.Proofs.YtmffejnigppbpaaGreatDoor

set_option maxHeartbeats 4000000
set_option maxRecDepth 100000
namespace Go.Proofs.YtmffejnigppbpaaGreatDoor
open Go.RowKit
theorem Eh(s:List UInt8)(v:Int)(w:World)(hv:v=3∨v=4)(hs:s.length≤1000000)(hM:qm w):dA 20 #[.string (S s),.int .i64 v] w (.tuple #[.agg #[.int .i64 (iM (fM v) (bU s)).1,.int .i64 (iM (fM v) (bU s)).2.1,.int .i64 (iM (fM v) (bU s)).2.2.1,.int .i64 (iM (fM v) (bU s)).2.2.2],.nilIface]):=by
 rcases hv with rfl|rfl
 ·exact(callsIn_wide (n:=6)).1 (abE s w hs hM.asp)
 ·exact(callsIn_wide (n:=6)).1 (abG s w hs hM.asp)
def Lh(t:Int)(l:List UInt8):Int:=
 if l=[116,101,120,116] then(if t=2∨t=3 then t else 1)
 else if l=[117,114,105] then 4
 else if l=[100,97,116,101,45,97,110,100,45,111,114,45,116,105,109,101]∨l=[100,97,116,101]∨l=[100,97,116,101,45,116,105,109,101]∨l=[116,105,109,101,115,116,97,109,112] then 5
 else if l=[117,116,99,45,111,102,102,115,101,116] then 6
 else if l=[108,97,110,103,117,97,103,101,45,116,97,103] then 7 else 8
def typeOf(t:Int)(ps:List Pm):Int:=match gZ ps [86,65,76,85,69]with
 |none=>t
 |some k=>match ps[k]? with
  |some (_,x::_)=>Lh t (uP x)
  |_=>t
theorem P9{t:Int}{ps:List Pm}(h:gZ ps [86,65,76,85,69]=none):typeOf t ps=t:=by unfold typeOf;rw[h]
theorem Qa{t:Int}{ps:List Pm}{k:Nat}{nm x:List UInt8}{xs:List (List UInt8)}(h:gZ ps [86,65,76,85,69]=some k)(hk:ps[k]?=some (nm,x::xs)):typeOf t ps=Lh t (uP x):=by unfold typeOf;rw[h];simp only[hk]
theorem ND{t:Int}{ps:List Pm}{k:Nat}{nm:List UInt8}(h:gZ ps [86,65,76,85,69]=some k)(hk:ps[k]?=some (nm,[])):typeOf t ps=t:=by unfold typeOf;rw[h];simp only[hk]
theorem yZ{ps:List Pm}{s:List UInt8}{k:Nat}(h:gZ ps s=some k):k<ps.length:=by
 unfold gZ at h
 exact(List.findIdx?_eq_some_iff_getElem.1 h).1
theorem Qb(s:List UInt8)(pv:Value)(ps:List Pm)(v:Int)(w:World)(hv:v=3∨v=4)(hs:s.length≤1000000)(hP:eu w pv ps)(hl:ps.length≤1000000)(hp:∀p∈ps,p.1.length≤1000000)(hq:∀p∈ps,∀x∈p.2,x.length≤1000000)(hM:qm w) :
  dA 54 #[.string (S s),pv,.int .i64 v] w (.tuple #[.int .i64 (typeOf (iM (fM v) (bU s)).1 ps),.nilIface]):=by
 obtain⟨r,hr⟩:∃r,r=iM (fM v) (bU s):=⟨_,rfl⟩
 have ho:=Eh s v w hv hs hM
 rw[←hr]at ho⊢
 have HO:=hid ho
 have H:=hid hP
 obtain⟨a,cap,rfl,_,_⟩:=hP
 obtain⟨t,ht⟩:∃t,t=typeOf r.1 ps:=⟨_,rfl⟩
 rw[←ht]
 obtain⟨r0,r1,r2,r3⟩:=r
 clear ho hr hM
 go_enter Tryz.func54,Tryz.ntmps54
 go_wp2_with fail
 refine HO.out.use ?_
 intro w1 g1
 go_wp2_with fail
 have g1':G w (w1.alloc (.cells #[.int .i64 r0,.int .i64 r1,.int .i64 r2,.int .i64 r3] 47)):=g1.alloc _
 refine(qQ _ ps [86,65,76,85,69] _ (H.out.grow g1') hl hp (by simp)).use ?_
 intro w2 g2
 have hb:w1.heap.size<w2.heap.size:=Nat.lt_of_lt_of_le (by simp) g2.size
 have c0:w2.cell? ⟨w1.heap.size,0,none⟩=some (.int .i64 r0):=(G.cell g2 (p:=⟨w1.heap.size,0,none⟩) (by simp)).trans (by simp[go_sem])
 have G2:=hid (g1'.trans g2)
 clear g1 g2 g1'
 cases hf:gZ ps [86,65,76,85,69]with
 |none=>
  rw[P9 hf]at ht
  have HT:=hid ht
  clear ht
  simp only[kF]
  clear hf
  go_wp2_with fail
  go_ret2
  exact⟨by rw[HT.out];rfl,G2.out⟩
 |some k=>
  have hk:=yZ hf
  obtain⟨a2,cap2,e1,_,hc⟩:=H.out.grow G2.out
  obtain⟨b,off,e2,hb2,hcc⟩:=hc (by rintro rfl;simp at hk)
  clear hc
  simp only[Value.slice.injEq,true_and]at e1
  obtain⟨rfl,rfl⟩:=e1
  subst e2
  obtain⟨sv,c1,c2,c3⟩:=hcc k _ (List.getElem?_eq_getElem hk)
  have hqk:=hq _ (List.getElem_mem hk)
  have hke:ps[k]?=some ps[k]:=List.getElem?_eq_getElem hk
  obtain⟨p,hpe⟩:∃p,ps[k]=p:=⟨_,rfl⟩
  rw[hpe]at c1 c3 hqk hke
  obtain⟨nm,xs⟩:=p
  cases xs with
  |nil=>
   rw[ND hf hke]at ht
   have HT:=hid ht
   clear ht
   obtain⟨sa,sc,rfl,_⟩:=c3.len
   clear hcc c3 hpe hke hqk
   simp only[kF,List.length_nil]at c2⊢
   have z0:decide ((k:Int)<0)=false:=decide_eq_false (by omega)
   go_wp2_with fail
   go_ret2
   exact⟨by rw[HT.out];rfl,G2.out⟩
  |cons x xs=>
   rw[Qa hf hke]at ht
   obtain⟨b3,off3,cap3,e3,hc3,hb3,hcell⟩:=c3.at_ (by simp)
   have cx:=hcell 0 x rfl
   simp only[Nat.add_zero]at cx
   subst e3
   have hx:=hqk x (by simp)
   have lo:=KG x w2 (by omega)
   obtain⟨y,hy⟩:∃y,y=uP x:=⟨_,rfl⟩
   rw[←hy]at lo ht
   have LO:=hid lo
   clear lo hcc c3 hpe hke hqk hcell hy
   simp only[kF,List.length_cons]at c2⊢
   have z0:decide ((k:Int)<0)=false:=decide_eq_false (by omega)
   have z1:((xs.length:Int)+1==0)=false:=beq_eq_false_iff_ne.2 (by omega)
   go_wp2_with fail
   refine LO.out.use ?_
   intro w3 g3
   have c4:w3.cell? ⟨w1.heap.size,0,none⟩=some (.int .i64 r0):=(g3.cell hb).trans c0
   have G3:=hid (G2.out.trans g3)
   clear g3 c0 c1 c2 cx LO
   have HT':=ht
   clear ht
   by_cases y1:y=[116,101,120,116]
   ·subst y1
    by_cases t2:r0=2
    ·subst t2
     have HT':t=2:=HT'
     have HT:=hid HT'
     clear HT'
     go_wp2_with fail
     go_ret2
     exact⟨by rw[HT.out];rfl,G3.out⟩
    ·by_cases t3:r0=3
     ·subst t3
      have HT':t=3:=HT'
      have HT:=hid HT'
      clear HT'
      go_wp2_with fail
      go_ret2
      exact⟨by rw[HT.out];rfl,G3.out⟩
     ·have hw:Lh r0 [116,101,120,116]=1:=by unfold Lh;rw[if_pos rfl,if_neg (by omega)]
      rw[hw]at HT'
      have HT:=hid HT'
      clear HT'
      have u2:(r0==2)=false:=by simpa using t2
      have u3:(r0==3)=false:=by simpa using t3
      clear t2 t3 hw
      go_wp2_with fail
      go_ret2
      exact⟨by rw[HT.out];rfl,G3.out⟩
   by_cases y2:y=[117,114,105]
   ·subst y2
    have HT':t=4:=HT'
    have HT:=hid HT'
    clear HT'
    go_wp2_with fail
    go_ret2
    exact⟨by rw[HT.out];rfl,G3.out⟩
   by_cases y3:y=[100,97,116,101,45,97,110,100,45,111,114,45,116,105,109,101]∨y=[100,97,116,101]∨y=[100,97,116,101,45,116,105,109,101]∨y=[116,105,109,101,115,116,97,109,112]
   ·rcases y3 with rfl|rfl|rfl|rfl
    all_goals
     have HT':t=5:=HT'
     have HT:=hid HT'
     clear HT'
     go_wp2_with fail
     go_ret2
     exact⟨by rw[HT.out];rfl,G3.out⟩
   by_cases y4:y=[117,116,99,45,111,102,102,115,101,116]
   ·subst y4
    have HT':t=6:=HT'
    have HT:=hid HT'
    clear HT'
    go_wp2_with fail
    go_ret2
    exact⟨by rw[HT.out];rfl,G3.out⟩
   by_cases y5:y=[108,97,110,103,117,97,103,101,45,116,97,103]
   ·subst y5
    have HT':t=7:=HT'
    have HT:=hid HT'
    clear HT'
    go_wp2_with fail
    go_ret2
    exact⟨by rw[HT.out];rfl,G3.out⟩
   have hw:Lh r0 y=8:=by unfold Lh;rw[if_neg y1,if_neg y2,if_neg y3,if_neg y4,if_neg y5]
   rw[hw]at HT'
   have HT:=hid HT'
   clear HT'
   have q1:=beq_eq_false_iff_ne.2 y1
   have q2:=beq_eq_false_iff_ne.2 y2
   have q3:=beq_eq_false_iff_ne.2 (fun h=>y3 (.inl h):y≠_)
   have q4:=beq_eq_false_iff_ne.2 (fun h=>y3 (.inr (.inl h)):y≠_)
   have q5:=beq_eq_false_iff_ne.2 (fun h=>y3 (.inr (.inr (.inl h))):y≠_)
   have q6:=beq_eq_false_iff_ne.2 (fun h=>y3 (.inr (.inr (.inr h))):y≠_)
   have q7:=beq_eq_false_iff_ne.2 y4
   have q8:=beq_eq_false_iff_ne.2 y5
   clear y1 y2 y3 y4 y5 hw
   go_wp2_with fail
   go_ret2
   exact⟨by rw[HT.out];rfl,G3.out⟩
end Go.Proofs.YtmffejnigppbpaaGreatDoor

set_option maxHeartbeats 4000000
set_option maxRecDepth 100000
namespace Go.Proofs.YtmffejnigppbpaaGreatDoor
open Go.RowKit Go.Shelf
attribute [local go_sem] Oper.semAt_some
theorem WJ(w:World)(hm:nJ w) :
  CallsIn Fence.wide 6 Tryz.prog 66 #[.int .i64 3] w fun e w'=>∃v,e=.returned (.tuple #[v,.nilIface])∧w'.ownsRow w.heap.size 9 1 v (fM 3).length ((fM 3).map fun e=>.string (S e.name))∧Below w.heap.size w w':=by
 have tb:=fun W=>yY 3 W
 have TB:=hid tb
 clear tb
 obtain⟨i0,hi,hz0,hz1,hz2⟩:=info_parts KP
 refine callsIn_of_wp_marks Tryz.func66 rfl trivial ?_ rfl
 simp only[Tryz.ntmps66,List.size_toArray,List.length_cons,List.length_nil,Nat.reduceAdd,Nat.reduceSub,Array.replicate_succ,Array.replicate_zero,List.push_toArray,List.append_toArray,List.nil_append,List.cons_append]
 gi_wp2_with (first|(refine⟨trivial,?_⟩;gi_at_call 57;refine(callsIn_wide.2 (TB.out _)).mono ?_;rintro e w' ⟨rfl,rfl⟩)|(refine⟨trivial,?_⟩;gi_at_call 56;refine(callsIn_wide.2 (rX _ _ _)).mono ?_;rintro e w' ⟨rfl,rfl⟩))
 obtain⟨p,ps,e1,e2,e3,e4⟩:=yV 3
 rw[e2]
 have bO:=Boxed.new w 39 (.slice none 0 0)
 generalize hW0:World.alloc _ (Obj.cells #[Value.int IntKind.i64 0] 3)=W0
 have z0:W0.heap.size=w.heap.size+4:=by rw[←hW0];simp
 have c2:W0.cell? ⟨w.heap.size+1,0,none⟩=some (.string (S (gp [124] p ps))):=by rw[←hW0];simp[go_sem]
 have c3:W0.cell? ⟨w.heap.size+2,0,none⟩=some (.string (S [124])):=by rw[←hW0];simp[go_sem]
 have c4:W0.cell? ⟨w.heap.size+3,0,none⟩=some (.int .i64 0):=by rw[←hW0];simp[go_sem]
 have f2:W0.frozen? ⟨w.heap.size+1,0,none⟩=false:=by rw[←hW0];simp[go_sem]
 have hbx:Boxed W0 w.heap.size 39 (.slice none 0 0):=by rw[←hW0];exact((bO.alloc _).alloc _).alloc _
 have hB0:Below w.heap.size w W0:=by rw[←hW0];repeat (first|exact Below.refl _ _|(refine Below.alloc ?_ (by simp;try omega) _))
 clear hW0 bO
 refine lQ (B:=w.heap.size+1) (by omega) rfl (by decide) (gf:=146) (lb:=#[.pointer (some ⟨w.heap.size+2,0,none⟩),.pointer (some ⟨w.heap.size+1,0,none⟩),.pointer (some ⟨w.heap.size+3,0,none⟩)]) rfl trivial (enters_of Tryz.func146 (by kernel_rfl) rfl)
  (y8 5 (w.heap.size+2) (w.heap.size+1) (w.heap.size+3) (by omega) (by omega) (by omega) p ps e3 e4 W0 (by omega) (by omega) (by omega) c3 c2 c4 f2) yX
  (fun W l o o' hl hW ho hw=>mF (belowK_b (w:=W0) (Nat.le_refl _) W l o o' hl hW ho hw) (by omega) (by omega) (by omega)) (Below.refl _ _) (fun _=>rfl)
  (fun pre W=>((∃v,Boxed W w.heap.size 39 v∧W.ownsRow W0.heap.size 9 1 v pre.length (pre.map fun x=>.string (S (wE x)))∧True)∧W0.heap.size≤W.heap.size)∧Below w.heap.size w W)
  (fun _ _ _=>False)
  (OwnFrom.and (OwnFrom.and (Own.from (holdsRow_own W0.heap.size w.heap.size 39 9 1 (fun (pre:List (List UInt8))=>pre.length) (fun pre=>pre.map fun x=>.string (S (wE x))) (fun _ _=>True)) _) (fun x A B row hs hg hr=>Nat.le_trans hs hg.size)) (ownFrom_below (Nat.le_refl _) (by omega)))
  (fun x W v hs=>by
   obtain⟨⟨⟨u,hb,hr,_⟩,hsz⟩,hB⟩:=hs
   refine⟨⟨⟨u,hb.kept (grownBy_setCell' W _ v) (by simp),hr.kept (grownBy_setCell' W _ v) ?_,trivial⟩,Nat.le_trans hsz (by simp)⟩,hB.setCell (p:=⟨w.heap.size+1,0,none⟩) (by simp) _⟩
   rcases hr.2 with⟨rfl,_⟩|⟨g,cap,cur,rfl,hg,_⟩
   ·exact .inl rfl
   ·exact .inr (by simp[Value.ownBlock];omega))
  (fun c x A B row hs _ _=>hs.elim)
  ⟨⟨⟨_,hbx,World.ownsRow_nil _ _ _ _,trivial⟩,Nat.le_refl _⟩,hB0⟩
  (fun x=>{ tmps:=#[.int .i64 3,undef,.slice none 0 0,.nilIface,.pointer (some ⟨w.heap.size,0,none⟩),.string (S x),undef,undef,undef,.int .i64 3,.bool false,.bool false,undef,undef,.bool false,undef,.int .i64 3,.string (S (gp [124] p ps)),.func (.func 146) #[] #[.pointer (some ⟨w.heap.size+2,0,none⟩),.pointer (some ⟨w.heap.size+1,0,none⟩),.pointer (some ⟨w.heap.size+3,0,none⟩)],.string (S x),undef,undef,undef,undef,undef,undef,undef,undef,undef,undef,undef],defers:=[] })
  ?assign ?body ?done ?stop
 case assign=>
  intro l x W K hK
  gi_wp2
  exact hK
 case body=>
  rintro l pre x W ⟨⟨⟨v,hv,hrow,_⟩,hsz⟩,hB⟩ hpre
  have hx:x∈(fM 3).map Ent.text:=by rw[e1];exact hpre.subset (by simp)
  have hpl:pre.length≤100:=by
   have h1:=hpre.length_le
   have h2:(p::ps).length≤100:=by rw[←e1,List.length_map];exact Na 3
   simp only[List.length_append]at h1
   omega
  have hxl:x.length≤1000:=by
   obtain⟨e,he,rfl⟩:=List.mem_map.1 hx
   have:=(qo 3 e he).2.2.2.2.2.1
   omega
  have cu:=sW x [32] W (hm.grow hB) (by omega)
  obtain⟨ca,hca⟩:∃y,y=(Lib.cut x [32]).1:=⟨_,rfl⟩
  obtain⟨cb,hcb⟩:∃y,y=(Lib.cut x [32]).2.1:=⟨_,rfl⟩
  obtain⟨ct,hct⟩:∃y,y=(Lib.cut x [32]).2.2:=⟨_,rfl⟩
  rw[←hca,←hcb,←hct]at cu
  have hno:wE x=ca:=hca.symm
  have CU:=hid cu
  have hc:=hv.cell
  have HV:=hid hv
  have HROW:=hid hrow
  clear cu hca hcb hct hx hv hrow hpre
  gi_wp2_with (first
   |(refine⟨trivial,?_⟩;gi_at_call 109;refine(CallsIn.inRound l (callsIn_wide.2 CU.out)).mono ?_;rintro e' w' ⟨rfl,hg'⟩;have hc1:=(uy HV.out hg'.below).cell;have HG:=hid hg';have hgs:=hg'.size;clear hg' hc)
   |(gi_at_builtin;refine wpListIn_append_own _ rfl _ _ 39 rfl W0.heap.size 9 i0 (.string ⟨#[]⟩) 1 16 Tryz.underlying39 hi hz0 hz1 hz2 rfl (by decide) _ _ _ rfl ((ng HROW.out HG.out.below).alloc _) ⟨w'.heap.size,0,none⟩ 1 1 [.string (S ca)] rfl rfl (cell_one_new _ _ _) (by intro u hu;rw[List.mem_singleton.1 hu];rfl) (by unfold maxLen;omega) (by omega) (by simp;omega) ?_;intro v' w1 hown' hgrow _;obtain⟨g',cap',rfl⟩:=ownsRow_succ hown';obtain⟨hv1,hv2,hr2,hk2,hb2⟩:=(uy HV.out HG.out.below).appended (by decide) (yN (ng HROW.out HG.out.below) (show w.heap.size≤W0.heap.size by omega)) (by omega) (Nat.le_refl _) (yN hown' (show w.heap.size≤W0.heap.size by omega)) hgrow;have hc2:=hv1.cell;have hf2:=hv1.frozen;have HOWN:=hid hown';have HGR:=hid hgrow;have HB2:=hid hb2;have HK2:=hid hk2;have HV2:=hid hv2;have HV1:=hid hv1;clear hown' hgrow hb2 hk2 hv2 hr2 hv1))
  have hw1:Below W0.heap.size w' w1:=EN (ng HROW.out HG.out.below) (Nat.le_trans hsz hgs) HGR.out
  have hkp:CJ (w.heap.size+2) (w.heap.size+1) (w.heap.size+3) W w1:=mF ((HG.out.below.mono hsz).trans hw1) (by omega) (by omega) (by omega)
  have hrow3:=HOWN.out.kept (grownBy_setCell' w1 w.heap.size (.slice (some ⟨g',0,none⟩) (pre.length+1) cap')) (.inr (HV1.out.not_row (by decide) HOWN.out).symm)
  have hz3:=HB2.out.size
  refine⟨(lG HG.out.below).trans (HK2.out.from _),yX hkp (KH _ (by omega) (by omega) (by omega)),⟨⟨_,HV2.out,?_,trivial⟩,Nat.le_trans (Nat.le_trans hsz hgs) hz3⟩,hB.trans ((HG.out.below.mono hB.size).trans HB2.out)⟩
  rw[List.length_append,List.map_append,List.map_cons,List.map_nil,hno]
  exact hrow3
 case done=>
  rintro D W hD ⟨⟨⟨v,hv,hrow,_⟩,hsz⟩,hB⟩ hK
  have hc:=hv.cell
  gi_wp2
  refine⟨by simp,.inl ⟨_,_,rfl,run_takeDeferred hK,?_⟩⟩
  have hl:(fM 3).length=(p::ps).length:=by rw[←e1,List.length_map]
  have hm2:((fM 3).map fun e=>Value.string (S e.name))=(p::ps).map fun x=>.string (S (wE x)):=by
   rw[←e1,List.map_map]
   have:=congrArg (List.map fun l=>Value.string (S l)) (EO 3)
   simp only[List.map_map]at this
   exact this.symm
  refine⟨_,results_tmp2 rfl _ _ _,v,rfl,?_,hB.trans (belowK_b (w:=w) (Nat.le_refl _) W D _ _ (by omega) hK rfl rfl)⟩
  rw[hl,hm2]
  exact ownsRow_putObj (yN hrow (show w.heap.size≤W0.heap.size by omega)) _ hK rfl
 case stop=>
  rintro D c pre W _ _ h _
  exact h.elim
end Go.Proofs.YtmffejnigppbpaaGreatDoor
