/-
  Texts merged into one: RulesOf3, RulesOf4.
-/
import Derived.Test.YtmffejnigppbpaaGreatDoorDXMA70
set_option linter.unusedVariables false
set_option linter.unusedSimpArgs false
set_option maxHeartbeats 40000000
set_option maxRecDepth 100000
namespace Go.Proofs.YtmffejnigppbpaaGreatDoor
open Go.RowKit Go.Shelf
attribute [local go_sem] Oper.semAt_some
theorem ayn(s : List UInt8)(w : World)(hs : s.length ≤ 1000000)(hsp : Lib.TabIs Tryz.prog w "strings.asciiSpace" .u8 Lib.asciiSpaceTab) :
  CallsIn Fence.wide 6 Tryz.prog 20 #[.string (S s),.int .i64 3] w fun e w'=>e=.returned (.tuple #[.agg #[.int .i64 (acX (UG 3) (Eg s)).1,.int .i64 (acX (UG 3) (Eg s)).2.1,.int .i64 (acX (UG 3) (Eg s)).2.2.1,.int .i64 (acX (UG 3) (Eg s)).2.2.2],.nilIface])∧Below w.heap.size w w':=by
 have tb:=fun W=>aik 3 W
 have TB:=hid tb
 clear tb
 refine callsIn_of_wp_marks Tryz.func20 rfl trivial ?_ rfl
 simp only[Tryz.ntmps20,List.size_toArray,List.length_cons,List.length_nil,Nat.reduceAdd,Nat.reduceSub,Array.replicate_succ,Array.replicate_zero,List.push_toArray,List.append_toArray,List.nil_append,List.cons_append]
 gi_wp2_with (first|(refine⟨trivial,?_⟩;gi_at_call 57;refine(callsIn_wide.2 (TB.out _)).mono ?_;rintro e w' ⟨rfl,rfl⟩)|(refine⟨trivial,?_⟩;gi_at_call 56;refine(callsIn_wide.2 (afY _ _ _)).mono ?_;rintro e w' ⟨rfl,rfl⟩))
 obtain⟨p,ps,e1,e2,e3,e4⟩:=aii 3
 rw[e2]
 generalize hW0:World.alloc _ (Obj.cells #[Value.int IntKind.i64 0] 3)=W0
 have z0:W0.heap.size=w.heap.size+6:=by rw[←hW0];simp
 have c0:W0.cell? ⟨w.heap.size,0,none⟩=some (.string (S s)):=by rw[←hW0];simp[go_sem]
 have c2:W0.cell? ⟨w.heap.size+3,0,none⟩=some (.string (S (Uu [124] p ps))):=by rw[←hW0];simp[go_sem]
 have c3:W0.cell? ⟨w.heap.size+4,0,none⟩=some (.string (S [124])):=by rw[←hW0];simp[go_sem]
 have c4:W0.cell? ⟨w.heap.size+5,0,none⟩=some (.int .i64 0):=by rw[←hW0];simp[go_sem]
 have f2:W0.frozen? ⟨w.heap.size+3,0,none⟩=false:=by rw[←hW0];simp[go_sem]
 have hof:afk w.heap.size s (0,0,0,0) W0:=by rw[←hW0];refine⟨?_,?_,?_,?_,?_,?_,?_,?_,?_,?_,?_⟩<;>simp[go_sem]
 have hB0:Below w.heap.size w W0:=by rw[←hW0];repeat (first|exact Below.refl _ _|(refine Below.alloc ?_ (by simp;try omega) _))
 refine adT (B:=w.heap.size+3) (by omega) rfl (by decide) (gf:=146) (lb:=#[.pointer (some ⟨w.heap.size+4,0,none⟩),.pointer (some ⟨w.heap.size+3,0,none⟩),.pointer (some ⟨w.heap.size+5,0,none⟩)]) rfl trivial (enters_of Tryz.func146 (by kernel_rfl) rfl)
  (aim 5 (w.heap.size+4) (w.heap.size+3) (w.heap.size+5) (by omega) (by omega) (by omega) p ps e3 e4 W0 (by omega) (by omega) (by omega) c3 c2 c4 f2) aij
  (fun W l o o' hl hW ho hw=>aec (belowK_b (w:=W0) (Nat.le_refl _) W l o o' hl hW ho hw) (by omega) (by omega) (by omega)) (Below.refl _ _) (fun _=>rfl)
  (fun pre W=>(afk w.heap.size s (0,0,0,0) W∧(∀e∈UG 3,e.text∈pre→¬e.name=Eg s)∧W0.heap.size≤W.heap.size)∧Below w.heap.size w W)
  (fun c pre W=>(afk w.heap.size s (acX (UG 3) (Eg s)) W∧c=.ret)∧Below w.heap.size w W)
  (OwnFrom.and (Own.from (fun x A B row hs hg hr=>⟨afk.own _ _ _ x A B row hs.1 hg hr,hs.2.1,Nat.le_trans hs.2.2 hg.size⟩) _) (ownFrom_below (Nat.le_refl _) (by omega)))
  (fun x W v hs=>⟨⟨hs.1.1.set _ _ (by omega),hs.1.2.1,Nat.le_trans hs.1.2.2 (by simp)⟩,hs.2.setCell (p:=⟨w.heap.size+3,0,none⟩) (by simp) _⟩)
  (fun c=>OwnFrom.and (Own.from (fun x A B row hs hg hr=>⟨afk.own _ _ _ x A B row hs.1 hg hr,hs.2⟩) _) (ownFrom_below (Nat.le_refl _) (by omega)))
  ⟨⟨hof,by simp,Nat.le_refl _⟩,hB0⟩
  (fun x=>{ tmps:=#[.string (S s),.int .i64 3,.pointer (some ⟨w.heap.size,0,none⟩),undef,.pointer (some ⟨w.heap.size+1,0,none⟩),.pointer (some ⟨w.heap.size+1+1,0,none⟩),.string (S x),undef,undef,undef,.int .i64 3,.bool false,.bool false,undef,undef,.bool false,undef,undef,.int .i64 3,.string (S (Uu [124] p ps)),.func (.func 146) #[] #[.pointer (some ⟨w.heap.size+4,0,none⟩),.pointer (some ⟨w.heap.size+3,0,none⟩),.pointer (some ⟨w.heap.size+5,0,none⟩)],.string (S x),undef,undef,undef,undef,undef,undef,undef,undef,undef,undef,undef,undef,undef,undef,undef,undef,undef,undef,undef,undef,undef,undef,undef,undef,undef,undef,undef,undef,undef,undef,undef,undef,undef],defers:=[] })
  ?assign ?body ?done ?stop
 case assign=>
  intro l x W K hK
  gi_wp2
  exact hK
 case body=>
  rintro l pre x W ⟨⟨ho,hne,hsz⟩,hB⟩ hpre
  have hx:x∈(UG 3).map Ent.text:=by rw[e1];exact hpre.subset (by simp)
  obtain⟨e,he,rfl⟩:=List.mem_map.1 hx
  obtain⟨hf,t1,t2,t3,t4,hlen,hasc⟩:=aft 3 e he
  have fl:=Tryz.strings_Fields_laid (S e.text) W (by simp;omega) (fun j b hb=>hasc b (by simp at hb;exact List.mem_of_getElem? hb)) (Lib.tabBelow_of_tabIs hsp W hB)
  rw[show(S e.text).data.toList=e.text from by simp,hf]at fl
  have FL:=hid fl
  have up:=fun W=>afa s W (by omega)
  have UP:=hid up
  have ho0:=ho.c0
  clear fl up
  gi_wp2_with (refine⟨trivial,?_⟩;gi_at_call 58;refine(CallsIn.inRound l (callsIn_wide.2 FL.out)).mono ?_;rintro e' w' ⟨rfl,rfl⟩)
  generalize hW5:W.alloc _=W5
  have gW5:Below W.heap.size W W5:=by rw[←hW5];exact(Below.refl _ _).alloc (Nat.le_refl _) _
  have g5:Below w.heap.size w W5:=by rw[←hW5];exact hB.alloc hB.size _
  have k5:∀i,i<5→W5.cell? ⟨W.heap.size,i,none⟩=([e.name,[UInt8.ofNat (48+e.ty)],[UInt8.ofNat (48+e.least)],[UInt8.ofNat (48+e.most)],[UInt8.ofNat (48+e.parts)]].map fun l=>Value.string (S l))[i]?:=by
   intro i hi
   have h5:i=0∨i=1∨i=2∨i=3∨i=4:=by omega
   rw[←hW5]
   rcases h5 with rfl|rfl|rfl|rfl|rfl<;>simp[go_sem]<;>rfl
  have a0:W5.cell? ⟨W.heap.size,0,none⟩=some (.string (S e.name)):=k5 0 (by decide)
  have o5:afk w.heap.size s (0,0,0,0) W5:=by rw[←hW5];exact afk.own _ _ _ [] W _ none ho (World.grownBy_alloc W _ none) (fun r e=>by cases e)
  have o0:=o5.c0
  have hl5:W.heap.size<W5.heap.size:=by rw[←hW5];simp
  have hl6:w.heap.size<W5.heap.size:=Nat.lt_of_le_of_lt hB.size hl5
  have hd:1≤6-1-1:=by decide
  by_cases hn:e.name=Eg s
  ·have hnb:(e.name==Eg s)=true:=beq_iff_eq.2 hn
   have hmx:Tryz.prog.follows .mixedOrders=true:=by kernel_rfl
   gi_region_with_o (refine⟨trivial,?_⟩;gi_at_call 52;refine(CallsIn.inRound l (callsIn_wide.2 (UP.out _))).mono ?_;rintro e' w' ⟨rfl,hg'⟩;have q0:w'.cell? ⟨W.heap.size,0,none⟩=some (.string (S e.name)):=(G.cell hg' (p:=⟨W.heap.size,0,none⟩) hl5).trans a0;have q1:w'.cell? ⟨w.heap.size,0,none⟩=some (.string (S s)):=(G.cell hg' (p:=⟨w.heap.size,0,none⟩) hl6).trans o0)
   all_goals gi_wp2_with fail
   all_goals
    have hl7:W.heap.size<w'.heap.size:=Nat.lt_of_lt_of_le hl5 hg'.below.size
    obtain⟨l1,hl1'⟩:∃x,x=[UInt8.ofNat (48+e.ty)]:=⟨_,rfl⟩
    have r1:w'.cell? ⟨W.heap.size,1,none⟩=some (.string (S l1)):=by rw[hl1'];exact(G.cell hg' (p:=⟨W.heap.size,1,none⟩) hl5).trans (k5 1 (by decide))
    obtain⟨l2,hl2'⟩:∃x,x=[UInt8.ofNat (48+e.least)]:=⟨_,rfl⟩
    have r2:w'.cell? ⟨W.heap.size,2,none⟩=some (.string (S l2)):=by rw[hl2'];exact(G.cell hg' (p:=⟨W.heap.size,2,none⟩) hl5).trans (k5 2 (by decide))
    obtain⟨l3,hl3'⟩:∃x,x=[UInt8.ofNat (48+e.most)]:=⟨_,rfl⟩
    have r3:w'.cell? ⟨W.heap.size,3,none⟩=some (.string (S l3)):=by rw[hl3'];exact(G.cell hg' (p:=⟨W.heap.size,3,none⟩) hl5).trans (k5 3 (by decide))
    obtain⟨l4,hl4'⟩:∃x,x=[UInt8.ofNat (48+e.parts)]:=⟨_,rfl⟩
    have r4:w'.cell? ⟨W.heap.size,4,none⟩=some (.string (S l4)):=by rw[hl4'];exact(G.cell hg' (p:=⟨W.heap.size,4,none⟩) hl5).trans (k5 4 (by decide))
    have at1:∀W,Um 59 #[.string (S l1)] W (.tuple #[.int .i64 e.ty,.nilIface]):=fun W=>by rw[hl1'];exact ads e.ty W t1
    have at2:∀W,Um 59 #[.string (S l2)] W (.tuple #[.int .i64 e.least,.nilIface]):=fun W=>by rw[hl2'];exact ads e.least W t2
    have at3:∀W,Um 59 #[.string (S l3)] W (.tuple #[.int .i64 e.most,.nilIface]):=fun W=>by rw[hl3'];exact ads e.most W t3
    have at4:∀W,Um 59 #[.string (S l4)] W (.tuple #[.int .i64 e.parts,.nilIface]):=fun W=>by rw[hl4'];exact ads e.parts W t4
    have A1:=hid at1
    have A2:=hid at2
    have A3:=hid at3
    have A4:=hid at4
    clear at1 at2 at3 at4 k5 a0 q0 hlen hasc hf hl1' hl2' hl3' hl4' e1 e2 e3 e4 hx hpre
    have hbl:Below w'.heap.size w' (w'.alloc (Obj.cells #[Value.int IntKind.i64 0,Value.int IntKind.i64 0,Value.int IntKind.i64 0,Value.int IntKind.i64 0] 92)):=(Below.refl _ _).alloc (Nat.le_refl _) _
    have hdg:Dig w'.heap.size e 0 (w'.alloc (Obj.cells #[Value.int IntKind.i64 0,Value.int IntKind.i64 0,Value.int IntKind.i64 0,Value.int IntKind.i64 0] 92)):=by refine⟨?_,?_,?_,?_,?_,?_,?_,?_⟩<;>simp[go_sem]
    gi_loopw [30] (fun i wr=>∃k:Nat,k≤4∧i=.int .i64 k∧Dig w'.heap.size e k wr∧Below w'.heap.size w' wr) (fun i _=>4-(intOf i).toNat)
    case atStart=>exact⟨0,by omega,rfl,hdg,hbl⟩
    case round=>
     obtain⟨k,hk,rfl,hd',hb'⟩:=hrel
     have HD:=hid hd'
     have HB:=hid hb'
     have v1:=(hb'.cell (p:=⟨W.heap.size,1,none⟩) hl7).trans r1
     have v2:=(hb'.cell (p:=⟨W.heap.size,2,none⟩) hl7).trans r2
     have v3:=(hb'.cell (p:=⟨W.heap.size,3,none⟩) hl7).trans r3
     have v4:=(hb'.cell (p:=⟨W.heap.size,4,none⟩) hl7).trans r4
     obtain⟨d0,d1,d2,d3,f0,f1,f2,f3⟩:=hd'
     clear hb' hdg hbl r1 r2 r3 r4
     have hG:Below W.heap.size W wr:=(gW5.drew.trans (Below.mono hg'.below (Nat.le_of_lt hl5))).trans (HB.out.mono (Nat.le_of_lt (Nat.lt_of_lt_of_le hl5 hg'.below.size)))
     by_cases hk4:k=4
     ·subst hk4
      clear v1 v2 v3 v4
      simp only[Nat.reduceLT,if_true]at d0 d1 d2 d3
      have o6:=ho.below hG (by omega)
      have y0:=o6.c0
      have y1:=o6.r0
      have y2:=o6.r1
      have y3:=o6.r2
      have y4:=o6.r3
      have y5:=o6.er
      have g1:=o6.f0
      have g2:=o6.f1
      have g3:=o6.f2
      have g4:=o6.f3
      have g5':=o6.fe
      gi_wp2
      have o7:=o6.put e.ty e.least e.most e.parts
      have hr:acX (UG 3) (Eg s)=((e.ty:Int),(e.least:Int),(e.most:Int),(e.parts:Int)):=asF he hn
      have hB3:=(((((hB.trans (hG.mono hB.size)).setCell (p:=⟨w.heap.size+1,0,none⟩) (by simp) (.int .i64 e.ty)).setCell (p:=⟨w.heap.size+1,1,none⟩) (by simp) (.int .i64 e.least)).setCell (p:=⟨w.heap.size+1,2,none⟩) (by simp) (.int .i64 e.most)).setCell (p:=⟨w.heap.size+1,3,none⟩) (by simp) (.int .i64 e.parts)).setCell (p:=⟨w.heap.size+2,0,none⟩) (by simp) .nilIface
      have hK3:=(((((KeepsOthers.setCell wr ⟨w.heap.size+1,0,none⟩ (.int .i64 e.ty)).trans (KeepsOthers.setCell _ ⟨w.heap.size+1,1,none⟩ (.int .i64 e.least))).trans (KeepsOthers.setCell _ ⟨w.heap.size+1,2,none⟩ (.int .i64 e.most))).trans (KeepsOthers.setCell _ ⟨w.heap.size+1,3,none⟩ (.int .i64 e.parts))).trans (KeepsOthers.setCell _ ⟨w.heap.size+2,0,none⟩ .nilIface)).from (w.heap.size+6)
      exact⟨(adQ hG).trans hK3,⟨by rw[hr];exact o7,rfl⟩,hB3⟩
     ·have hk5:k=0∨k=1∨k=2∨k=3:=by omega
      clear hk4 hk
      rcases hk5 with rfl|rfl|rfl|rfl
      ·gi_wp2_with (refine⟨trivial,?_⟩;gi_at_call 59;refine(CallsIn.inRound l (callsIn_wide.2 (A1.out _))).mono ?_;rintro e' wx ⟨rfl,hx'⟩;have x0:=(HD.out.grow hx').c0;have x1:=(HD.out.grow hx').f0)
       go_roundw
       case rel=>exact⟨1,by omega,rfl,(HD.out.grow hx').set (by omega),(HB.out.trans (hx'.below.mono HB.out.size)).setCell (Nat.le_refl _) _⟩
       case measure=>simp[intOf]
      ·gi_wp2_with (refine⟨trivial,?_⟩;gi_at_call 59;refine(CallsIn.inRound l (callsIn_wide.2 (A2.out _))).mono ?_;rintro e' wx ⟨rfl,hx'⟩;have x0:=(HD.out.grow hx').c1;have x1:=(HD.out.grow hx').f1)
       go_roundw
       case rel=>exact⟨2,by omega,rfl,(HD.out.grow hx').set (by omega),(HB.out.trans (hx'.below.mono HB.out.size)).setCell (Nat.le_refl _) _⟩
       case measure=>simp[intOf]
      ·gi_wp2_with (refine⟨trivial,?_⟩;gi_at_call 59;refine(CallsIn.inRound l (callsIn_wide.2 (A3.out _))).mono ?_;rintro e' wx ⟨rfl,hx'⟩;have x0:=(HD.out.grow hx').c2;have x1:=(HD.out.grow hx').f2)
       go_roundw
       case rel=>exact⟨3,by omega,rfl,(HD.out.grow hx').set (by omega),(HB.out.trans (hx'.below.mono HB.out.size)).setCell (Nat.le_refl _) _⟩
       case measure=>simp[intOf]
      ·gi_wp2_with (refine⟨trivial,?_⟩;gi_at_call 59;refine(CallsIn.inRound l (callsIn_wide.2 (A4.out _))).mono ?_;rintro e' wx ⟨rfl,hx'⟩;have x0:=(HD.out.grow hx').c3;have x1:=(HD.out.grow hx').f3)
       go_roundw
       case rel=>exact⟨4,by omega,rfl,(HD.out.grow hx').set (by omega),(HB.out.trans (hx'.below.mono HB.out.size)).setCell (Nat.le_refl _) _⟩
       case measure=>simp[intOf]
  have hnb:(e.name==Eg s)=false:=beq_eq_false_iff_ne.2 hn
  have hmx:Tryz.prog.follows .mixedOrders=true:=by kernel_rfl
  gi_region_with_o (refine⟨trivial,?_⟩;gi_at_call 52;refine(CallsIn.inRound l (callsIn_wide.2 (UP.out _))).mono ?_;rintro e' w' ⟨rfl,hg'⟩;have q0:w'.cell? ⟨W.heap.size,0,none⟩=some (.string (S e.name)):=(G.cell hg' (p:=⟨W.heap.size,0,none⟩) hl5).trans a0;have q1:w'.cell? ⟨w.heap.size,0,none⟩=some (.string (S s)):=(G.cell hg' (p:=⟨w.heap.size,0,none⟩) hl6).trans o0)
  all_goals gi_wp2
  all_goals
   have hG:Below W.heap.size W w':=gW5.drew.trans (Below.mono hg'.below (Nat.le_of_lt hl5))
   exact⟨adQ hG,aec hG (by omega) (by omega) (by omega),⟨ho.below hG (by omega),fun e' he' hm=>(List.mem_append.1 hm).elim (hne e' he') (fun h=>by rw[an4 he he' (by simpa using h)];exact hn),Nat.le_trans hsz hG.size⟩,hB.trans (hG.mono hB.size)⟩
 case done=>
  rintro D W hD ⟨⟨ho,hne,hsz⟩,hB⟩ hK
  have d1:=ho.r0
  have d2:=ho.r1
  have d3:=ho.r2
  have d4:=ho.r3
  have d5:=ho.er
  have y1:=ho.f0
  have y2:=ho.f1
  have y3:=ho.f2
  have y4:=ho.f3
  have y5:=ho.fe
  gi_wp2
  have ho3:=ho.put 8 0 0 0
  have hB3:=((((hB.setCell (p:=⟨w.heap.size+1,0,none⟩) (by simp) (.int .i64 8)).setCell (p:=⟨w.heap.size+1,1,none⟩) (by simp) (.int .i64 0)).setCell (p:=⟨w.heap.size+1,2,none⟩) (by simp) (.int .i64 0)).setCell (p:=⟨w.heap.size+1,3,none⟩) (by simp) (.int .i64 0)).setCell (p:=⟨w.heap.size+2,0,none⟩) (by simp) .nilIface
  have hK3:=(((((KeepsOthers.setCell W ⟨w.heap.size+1,0,none⟩ (.int .i64 8)).trans (KeepsOthers.setCell _ ⟨w.heap.size+1,1,none⟩ (.int .i64 0))).trans (KeepsOthers.setCell _ ⟨w.heap.size+1,2,none⟩ (.int .i64 0))).trans (KeepsOthers.setCell _ ⟨w.heap.size+1,3,none⟩ (.int .i64 0))).trans (KeepsOthers.setCell _ ⟨w.heap.size+2,0,none⟩ .nilIface)).same D _ hK rfl
  have hr:acX (UG 3) (Eg s)=(8,0,0,0):=by
   unfold acX
   rw[List.find?_eq_none.2 (fun e he=>by
    have:=hne e he (by rw[←e1];exact List.mem_map_of_mem he)
    simp[this])]
  rw[hr]
  generalize hW3:World.setCell _ _ Value.nilIface=W3 at ho3 hB3 hK3⊢
  refine⟨by simp,.inl ⟨_,_,rfl,run_takeDeferred hK3,?_⟩⟩
  have ho2:=afk.own _ _ _ [] W3 _ (some D) ho3 (grownBy_putObj' _ D (.deferred none)) (fun r e=>by cases e;exact⟨_,hK3,rfl⟩)
  have d1:=ho2.r0
  have d2:=ho2.r1
  have d3:=ho2.r2
  have d4:=ho2.r3
  have d5:=ho2.er
  refine⟨_,?_,rfl,hB3.trans (belowK_b (w:=w) (Nat.le_refl _) W3 D _ _ (by omega) hK3 rfl rfl)⟩
  simp[results,Tryz.f20,go_sem,d1,d2,d3,d4,d5]
 case stop=>
  rintro D c pre W hD hpre ⟨⟨ho,rfl⟩,hB⟩ hK
  gi_wp2
  refine⟨by simp,.inl ⟨_,_,rfl,run_takeDeferred hK,?_⟩⟩
  have ho2:=afk.own _ _ _ [] W _ (some D) ho (grownBy_putObj' _ D (.deferred none)) (fun r e=>by cases e;exact⟨_,hK,rfl⟩)
  have d1:=ho2.r0
  have d2:=ho2.r1
  have d3:=ho2.r2
  have d4:=ho2.r3
  have d5:=ho2.er
  refine⟨_,?_,rfl,hB.trans (belowK_b (w:=w) (Nat.le_refl _) W D _ _ (by omega) hK rfl rfl)⟩
  simp[results,Tryz.f20,go_sem,d1,d2,d3,d4,d5]
end Go.Proofs.YtmffejnigppbpaaGreatDoor

set_option maxHeartbeats 40000000
set_option maxRecDepth 100000
namespace Go.Proofs.YtmffejnigppbpaaGreatDoor
open Go.RowKit Go.Shelf
attribute [local go_sem] Oper.semAt_some
theorem ayo(s : List UInt8)(w : World)(hs : s.length ≤ 1000000)(hsp : Lib.TabIs Tryz.prog w "strings.asciiSpace" .u8 Lib.asciiSpaceTab) :
  CallsIn Fence.wide 6 Tryz.prog 20 #[.string (S s),.int .i64 4] w fun e w'=>e=.returned (.tuple #[.agg #[.int .i64 (acX (UG 4) (Eg s)).1,.int .i64 (acX (UG 4) (Eg s)).2.1,.int .i64 (acX (UG 4) (Eg s)).2.2.1,.int .i64 (acX (UG 4) (Eg s)).2.2.2],.nilIface])∧Below w.heap.size w w':=by
 have tb:=fun W=>aik 4 W
 have TB:=hid tb
 clear tb
 refine callsIn_of_wp_marks Tryz.func20 rfl trivial ?_ rfl
 simp only[Tryz.ntmps20,List.size_toArray,List.length_cons,List.length_nil,Nat.reduceAdd,Nat.reduceSub,Array.replicate_succ,Array.replicate_zero,List.push_toArray,List.append_toArray,List.nil_append,List.cons_append]
 gi_wp2_with (first|(refine⟨trivial,?_⟩;gi_at_call 57;refine(callsIn_wide.2 (TB.out _)).mono ?_;rintro e w' ⟨rfl,rfl⟩)|(refine⟨trivial,?_⟩;gi_at_call 56;refine(callsIn_wide.2 (afY _ _ _)).mono ?_;rintro e w' ⟨rfl,rfl⟩))
 obtain⟨p,ps,e1,e2,e3,e4⟩:=aii 4
 rw[e2]
 generalize hW0:World.alloc _ (Obj.cells #[Value.int IntKind.i64 0] 3)=W0
 have z0:W0.heap.size=w.heap.size+6:=by rw[←hW0];simp
 have c0:W0.cell? ⟨w.heap.size,0,none⟩=some (.string (S s)):=by rw[←hW0];simp[go_sem]
 have c2:W0.cell? ⟨w.heap.size+3,0,none⟩=some (.string (S (Uu [124] p ps))):=by rw[←hW0];simp[go_sem]
 have c3:W0.cell? ⟨w.heap.size+4,0,none⟩=some (.string (S [124])):=by rw[←hW0];simp[go_sem]
 have c4:W0.cell? ⟨w.heap.size+5,0,none⟩=some (.int .i64 0):=by rw[←hW0];simp[go_sem]
 have f2:W0.frozen? ⟨w.heap.size+3,0,none⟩=false:=by rw[←hW0];simp[go_sem]
 have hof:afk w.heap.size s (0,0,0,0) W0:=by rw[←hW0];refine⟨?_,?_,?_,?_,?_,?_,?_,?_,?_,?_,?_⟩<;>simp[go_sem]
 have hB0:Below w.heap.size w W0:=by rw[←hW0];repeat (first|exact Below.refl _ _|(refine Below.alloc ?_ (by simp;try omega) _))
 refine adT (B:=w.heap.size+3) (by omega) rfl (by decide) (gf:=146) (lb:=#[.pointer (some ⟨w.heap.size+4,0,none⟩),.pointer (some ⟨w.heap.size+3,0,none⟩),.pointer (some ⟨w.heap.size+5,0,none⟩)]) rfl trivial (enters_of Tryz.func146 (by kernel_rfl) rfl)
  (aim 5 (w.heap.size+4) (w.heap.size+3) (w.heap.size+5) (by omega) (by omega) (by omega) p ps e3 e4 W0 (by omega) (by omega) (by omega) c3 c2 c4 f2) aij
  (fun W l o o' hl hW ho hw=>aec (belowK_b (w:=W0) (Nat.le_refl _) W l o o' hl hW ho hw) (by omega) (by omega) (by omega)) (Below.refl _ _) (fun _=>rfl)
  (fun pre W=>(afk w.heap.size s (0,0,0,0) W∧(∀e∈UG 4,e.text∈pre→¬e.name=Eg s)∧W0.heap.size≤W.heap.size)∧Below w.heap.size w W)
  (fun c pre W=>(afk w.heap.size s (acX (UG 4) (Eg s)) W∧c=.ret)∧Below w.heap.size w W)
  (OwnFrom.and (Own.from (fun x A B row hs hg hr=>⟨afk.own _ _ _ x A B row hs.1 hg hr,hs.2.1,Nat.le_trans hs.2.2 hg.size⟩) _) (ownFrom_below (Nat.le_refl _) (by omega)))
  (fun x W v hs=>⟨⟨hs.1.1.set _ _ (by omega),hs.1.2.1,Nat.le_trans hs.1.2.2 (by simp)⟩,hs.2.setCell (p:=⟨w.heap.size+3,0,none⟩) (by simp) _⟩)
  (fun c=>OwnFrom.and (Own.from (fun x A B row hs hg hr=>⟨afk.own _ _ _ x A B row hs.1 hg hr,hs.2⟩) _) (ownFrom_below (Nat.le_refl _) (by omega)))
  ⟨⟨hof,by simp,Nat.le_refl _⟩,hB0⟩
  (fun x=>{ tmps:=#[.string (S s),.int .i64 4,.pointer (some ⟨w.heap.size,0,none⟩),undef,.pointer (some ⟨w.heap.size+1,0,none⟩),.pointer (some ⟨w.heap.size+1+1,0,none⟩),.string (S x),undef,undef,undef,.int .i64 4,.bool true,.bool true,.int .i64 4,.bool false,.bool false,undef,undef,.int .i64 4,.string (S (Uu [124] p ps)),.func (.func 146) #[] #[.pointer (some ⟨w.heap.size+4,0,none⟩),.pointer (some ⟨w.heap.size+3,0,none⟩),.pointer (some ⟨w.heap.size+5,0,none⟩)],.string (S x),undef,undef,undef,undef,undef,undef,undef,undef,undef,undef,undef,undef,undef,undef,undef,undef,undef,undef,undef,undef,undef,undef,undef,undef,undef,undef,undef,undef,undef,undef,undef,undef,undef],defers:=[] })
  ?assign ?body ?done ?stop
 case assign=>
  intro l x W K hK
  gi_wp2
  exact hK
 case body=>
  rintro l pre x W ⟨⟨ho,hne,hsz⟩,hB⟩ hpre
  have hx:x∈(UG 4).map Ent.text:=by rw[e1];exact hpre.subset (by simp)
  obtain⟨e,he,rfl⟩:=List.mem_map.1 hx
  obtain⟨hf,t1,t2,t3,t4,hlen,hasc⟩:=aft 4 e he
  have fl:=Tryz.strings_Fields_laid (S e.text) W (by simp;omega) (fun j b hb=>hasc b (by simp at hb;exact List.mem_of_getElem? hb)) (Lib.tabBelow_of_tabIs hsp W hB)
  rw[show(S e.text).data.toList=e.text from by simp,hf]at fl
  have FL:=hid fl
  have up:=fun W=>afa s W (by omega)
  have UP:=hid up
  have ho0:=ho.c0
  clear fl up
  gi_wp2_with (refine⟨trivial,?_⟩;gi_at_call 58;refine(CallsIn.inRound l (callsIn_wide.2 FL.out)).mono ?_;rintro e' w' ⟨rfl,rfl⟩)
  generalize hW5:W.alloc _=W5
  have gW5:Below W.heap.size W W5:=by rw[←hW5];exact(Below.refl _ _).alloc (Nat.le_refl _) _
  have g5:Below w.heap.size w W5:=by rw[←hW5];exact hB.alloc hB.size _
  have k5:∀i,i<5→W5.cell? ⟨W.heap.size,i,none⟩=([e.name,[UInt8.ofNat (48+e.ty)],[UInt8.ofNat (48+e.least)],[UInt8.ofNat (48+e.most)],[UInt8.ofNat (48+e.parts)]].map fun l=>Value.string (S l))[i]?:=by
   intro i hi
   have h5:i=0∨i=1∨i=2∨i=3∨i=4:=by omega
   rw[←hW5]
   rcases h5 with rfl|rfl|rfl|rfl|rfl<;>simp[go_sem]<;>rfl
  have a0:W5.cell? ⟨W.heap.size,0,none⟩=some (.string (S e.name)):=k5 0 (by decide)
  have o5:afk w.heap.size s (0,0,0,0) W5:=by rw[←hW5];exact afk.own _ _ _ [] W _ none ho (World.grownBy_alloc W _ none) (fun r e=>by cases e)
  have o0:=o5.c0
  have hl5:W.heap.size<W5.heap.size:=by rw[←hW5];simp
  have hl6:w.heap.size<W5.heap.size:=Nat.lt_of_le_of_lt hB.size hl5
  have hd:1≤6-1-1:=by decide
  by_cases hn:e.name=Eg s
  ·have hnb:(e.name==Eg s)=true:=beq_iff_eq.2 hn
   have hmx:Tryz.prog.follows .mixedOrders=true:=by kernel_rfl
   gi_region_with_o (refine⟨trivial,?_⟩;gi_at_call 52;refine(CallsIn.inRound l (callsIn_wide.2 (UP.out _))).mono ?_;rintro e' w' ⟨rfl,hg'⟩;have q0:w'.cell? ⟨W.heap.size,0,none⟩=some (.string (S e.name)):=(G.cell hg' (p:=⟨W.heap.size,0,none⟩) hl5).trans a0;have q1:w'.cell? ⟨w.heap.size,0,none⟩=some (.string (S s)):=(G.cell hg' (p:=⟨w.heap.size,0,none⟩) hl6).trans o0)
   all_goals gi_wp2_with fail
   all_goals
    have hl7:W.heap.size<w'.heap.size:=Nat.lt_of_lt_of_le hl5 hg'.below.size
    obtain⟨l1,hl1'⟩:∃x,x=[UInt8.ofNat (48+e.ty)]:=⟨_,rfl⟩
    have r1:w'.cell? ⟨W.heap.size,1,none⟩=some (.string (S l1)):=by rw[hl1'];exact(G.cell hg' (p:=⟨W.heap.size,1,none⟩) hl5).trans (k5 1 (by decide))
    obtain⟨l2,hl2'⟩:∃x,x=[UInt8.ofNat (48+e.least)]:=⟨_,rfl⟩
    have r2:w'.cell? ⟨W.heap.size,2,none⟩=some (.string (S l2)):=by rw[hl2'];exact(G.cell hg' (p:=⟨W.heap.size,2,none⟩) hl5).trans (k5 2 (by decide))
    obtain⟨l3,hl3'⟩:∃x,x=[UInt8.ofNat (48+e.most)]:=⟨_,rfl⟩
    have r3:w'.cell? ⟨W.heap.size,3,none⟩=some (.string (S l3)):=by rw[hl3'];exact(G.cell hg' (p:=⟨W.heap.size,3,none⟩) hl5).trans (k5 3 (by decide))
    obtain⟨l4,hl4'⟩:∃x,x=[UInt8.ofNat (48+e.parts)]:=⟨_,rfl⟩
    have r4:w'.cell? ⟨W.heap.size,4,none⟩=some (.string (S l4)):=by rw[hl4'];exact(G.cell hg' (p:=⟨W.heap.size,4,none⟩) hl5).trans (k5 4 (by decide))
    have at1:∀W,Um 59 #[.string (S l1)] W (.tuple #[.int .i64 e.ty,.nilIface]):=fun W=>by rw[hl1'];exact ads e.ty W t1
    have at2:∀W,Um 59 #[.string (S l2)] W (.tuple #[.int .i64 e.least,.nilIface]):=fun W=>by rw[hl2'];exact ads e.least W t2
    have at3:∀W,Um 59 #[.string (S l3)] W (.tuple #[.int .i64 e.most,.nilIface]):=fun W=>by rw[hl3'];exact ads e.most W t3
    have at4:∀W,Um 59 #[.string (S l4)] W (.tuple #[.int .i64 e.parts,.nilIface]):=fun W=>by rw[hl4'];exact ads e.parts W t4
    have A1:=hid at1
    have A2:=hid at2
    have A3:=hid at3
    have A4:=hid at4
    clear at1 at2 at3 at4 k5 a0 q0 hlen hasc hf hl1' hl2' hl3' hl4' e1 e2 e3 e4 hx hpre
    have hbl:Below w'.heap.size w' (w'.alloc (Obj.cells #[Value.int IntKind.i64 0,Value.int IntKind.i64 0,Value.int IntKind.i64 0,Value.int IntKind.i64 0] 92)):=(Below.refl _ _).alloc (Nat.le_refl _) _
    have hdg:Dig w'.heap.size e 0 (w'.alloc (Obj.cells #[Value.int IntKind.i64 0,Value.int IntKind.i64 0,Value.int IntKind.i64 0,Value.int IntKind.i64 0] 92)):=by refine⟨?_,?_,?_,?_,?_,?_,?_,?_⟩<;>simp[go_sem]
    gi_loopw [30] (fun i wr=>∃k:Nat,k≤4∧i=.int .i64 k∧Dig w'.heap.size e k wr∧Below w'.heap.size w' wr) (fun i _=>4-(intOf i).toNat)
    case atStart=>exact⟨0,by omega,rfl,hdg,hbl⟩
    case round=>
     obtain⟨k,hk,rfl,hd',hb'⟩:=hrel
     have HD:=hid hd'
     have HB:=hid hb'
     have v1:=(hb'.cell (p:=⟨W.heap.size,1,none⟩) hl7).trans r1
     have v2:=(hb'.cell (p:=⟨W.heap.size,2,none⟩) hl7).trans r2
     have v3:=(hb'.cell (p:=⟨W.heap.size,3,none⟩) hl7).trans r3
     have v4:=(hb'.cell (p:=⟨W.heap.size,4,none⟩) hl7).trans r4
     obtain⟨d0,d1,d2,d3,f0,f1,f2,f3⟩:=hd'
     clear hb' hdg hbl r1 r2 r3 r4
     have hG:Below W.heap.size W wr:=(gW5.drew.trans (Below.mono hg'.below (Nat.le_of_lt hl5))).trans (HB.out.mono (Nat.le_of_lt (Nat.lt_of_lt_of_le hl5 hg'.below.size)))
     by_cases hk4:k=4
     ·subst hk4
      clear v1 v2 v3 v4
      simp only[Nat.reduceLT,if_true]at d0 d1 d2 d3
      have o6:=ho.below hG (by omega)
      have y0:=o6.c0
      have y1:=o6.r0
      have y2:=o6.r1
      have y3:=o6.r2
      have y4:=o6.r3
      have y5:=o6.er
      have g1:=o6.f0
      have g2:=o6.f1
      have g3:=o6.f2
      have g4:=o6.f3
      have g5':=o6.fe
      gi_wp2
      have o7:=o6.put e.ty e.least e.most e.parts
      have hr:acX (UG 4) (Eg s)=((e.ty:Int),(e.least:Int),(e.most:Int),(e.parts:Int)):=asF he hn
      have hB3:=(((((hB.trans (hG.mono hB.size)).setCell (p:=⟨w.heap.size+1,0,none⟩) (by simp) (.int .i64 e.ty)).setCell (p:=⟨w.heap.size+1,1,none⟩) (by simp) (.int .i64 e.least)).setCell (p:=⟨w.heap.size+1,2,none⟩) (by simp) (.int .i64 e.most)).setCell (p:=⟨w.heap.size+1,3,none⟩) (by simp) (.int .i64 e.parts)).setCell (p:=⟨w.heap.size+2,0,none⟩) (by simp) .nilIface
      have hK3:=(((((KeepsOthers.setCell wr ⟨w.heap.size+1,0,none⟩ (.int .i64 e.ty)).trans (KeepsOthers.setCell _ ⟨w.heap.size+1,1,none⟩ (.int .i64 e.least))).trans (KeepsOthers.setCell _ ⟨w.heap.size+1,2,none⟩ (.int .i64 e.most))).trans (KeepsOthers.setCell _ ⟨w.heap.size+1,3,none⟩ (.int .i64 e.parts))).trans (KeepsOthers.setCell _ ⟨w.heap.size+2,0,none⟩ .nilIface)).from (w.heap.size+6)
      exact⟨(adQ hG).trans hK3,⟨by rw[hr];exact o7,rfl⟩,hB3⟩
     ·have hk5:k=0∨k=1∨k=2∨k=3:=by omega
      clear hk4 hk
      rcases hk5 with rfl|rfl|rfl|rfl
      ·gi_wp2_with (refine⟨trivial,?_⟩;gi_at_call 59;refine(CallsIn.inRound l (callsIn_wide.2 (A1.out _))).mono ?_;rintro e' wx ⟨rfl,hx'⟩;have x0:=(HD.out.grow hx').c0;have x1:=(HD.out.grow hx').f0)
       go_roundw
       case rel=>exact⟨1,by omega,rfl,(HD.out.grow hx').set (by omega),(HB.out.trans (hx'.below.mono HB.out.size)).setCell (Nat.le_refl _) _⟩
       case measure=>simp[intOf]
      ·gi_wp2_with (refine⟨trivial,?_⟩;gi_at_call 59;refine(CallsIn.inRound l (callsIn_wide.2 (A2.out _))).mono ?_;rintro e' wx ⟨rfl,hx'⟩;have x0:=(HD.out.grow hx').c1;have x1:=(HD.out.grow hx').f1)
       go_roundw
       case rel=>exact⟨2,by omega,rfl,(HD.out.grow hx').set (by omega),(HB.out.trans (hx'.below.mono HB.out.size)).setCell (Nat.le_refl _) _⟩
       case measure=>simp[intOf]
      ·gi_wp2_with (refine⟨trivial,?_⟩;gi_at_call 59;refine(CallsIn.inRound l (callsIn_wide.2 (A3.out _))).mono ?_;rintro e' wx ⟨rfl,hx'⟩;have x0:=(HD.out.grow hx').c2;have x1:=(HD.out.grow hx').f2)
       go_roundw
       case rel=>exact⟨3,by omega,rfl,(HD.out.grow hx').set (by omega),(HB.out.trans (hx'.below.mono HB.out.size)).setCell (Nat.le_refl _) _⟩
       case measure=>simp[intOf]
      ·gi_wp2_with (refine⟨trivial,?_⟩;gi_at_call 59;refine(CallsIn.inRound l (callsIn_wide.2 (A4.out _))).mono ?_;rintro e' wx ⟨rfl,hx'⟩;have x0:=(HD.out.grow hx').c3;have x1:=(HD.out.grow hx').f3)
       go_roundw
       case rel=>exact⟨4,by omega,rfl,(HD.out.grow hx').set (by omega),(HB.out.trans (hx'.below.mono HB.out.size)).setCell (Nat.le_refl _) _⟩
       case measure=>simp[intOf]
  have hnb:(e.name==Eg s)=false:=beq_eq_false_iff_ne.2 hn
  have hmx:Tryz.prog.follows .mixedOrders=true:=by kernel_rfl
  gi_region_with_o (refine⟨trivial,?_⟩;gi_at_call 52;refine(CallsIn.inRound l (callsIn_wide.2 (UP.out _))).mono ?_;rintro e' w' ⟨rfl,hg'⟩;have q0:w'.cell? ⟨W.heap.size,0,none⟩=some (.string (S e.name)):=(G.cell hg' (p:=⟨W.heap.size,0,none⟩) hl5).trans a0;have q1:w'.cell? ⟨w.heap.size,0,none⟩=some (.string (S s)):=(G.cell hg' (p:=⟨w.heap.size,0,none⟩) hl6).trans o0)
  all_goals gi_wp2
  all_goals
   have hG:Below W.heap.size W w':=gW5.drew.trans (Below.mono hg'.below (Nat.le_of_lt hl5))
   exact⟨adQ hG,aec hG (by omega) (by omega) (by omega),⟨ho.below hG (by omega),fun e' he' hm=>(List.mem_append.1 hm).elim (hne e' he') (fun h=>by rw[an4 he he' (by simpa using h)];exact hn),Nat.le_trans hsz hG.size⟩,hB.trans (hG.mono hB.size)⟩
 case done=>
  rintro D W hD ⟨⟨ho,hne,hsz⟩,hB⟩ hK
  have d1:=ho.r0
  have d2:=ho.r1
  have d3:=ho.r2
  have d4:=ho.r3
  have d5:=ho.er
  have y1:=ho.f0
  have y2:=ho.f1
  have y3:=ho.f2
  have y4:=ho.f3
  have y5:=ho.fe
  gi_wp2
  have ho3:=ho.put 8 0 0 0
  have hB3:=((((hB.setCell (p:=⟨w.heap.size+1,0,none⟩) (by simp) (.int .i64 8)).setCell (p:=⟨w.heap.size+1,1,none⟩) (by simp) (.int .i64 0)).setCell (p:=⟨w.heap.size+1,2,none⟩) (by simp) (.int .i64 0)).setCell (p:=⟨w.heap.size+1,3,none⟩) (by simp) (.int .i64 0)).setCell (p:=⟨w.heap.size+2,0,none⟩) (by simp) .nilIface
  have hK3:=(((((KeepsOthers.setCell W ⟨w.heap.size+1,0,none⟩ (.int .i64 8)).trans (KeepsOthers.setCell _ ⟨w.heap.size+1,1,none⟩ (.int .i64 0))).trans (KeepsOthers.setCell _ ⟨w.heap.size+1,2,none⟩ (.int .i64 0))).trans (KeepsOthers.setCell _ ⟨w.heap.size+1,3,none⟩ (.int .i64 0))).trans (KeepsOthers.setCell _ ⟨w.heap.size+2,0,none⟩ .nilIface)).same D _ hK rfl
  have hr:acX (UG 4) (Eg s)=(8,0,0,0):=by
   unfold acX
   rw[List.find?_eq_none.2 (fun e he=>by
    have:=hne e he (by rw[←e1];exact List.mem_map_of_mem he)
    simp[this])]
  rw[hr]
  generalize hW3:World.setCell _ _ Value.nilIface=W3 at ho3 hB3 hK3⊢
  refine⟨by simp,.inl ⟨_,_,rfl,run_takeDeferred hK3,?_⟩⟩
  have ho2:=afk.own _ _ _ [] W3 _ (some D) ho3 (grownBy_putObj' _ D (.deferred none)) (fun r e=>by cases e;exact⟨_,hK3,rfl⟩)
  have d1:=ho2.r0
  have d2:=ho2.r1
  have d3:=ho2.r2
  have d4:=ho2.r3
  have d5:=ho2.er
  refine⟨_,?_,rfl,hB3.trans (belowK_b (w:=w) (Nat.le_refl _) W3 D _ _ (by omega) hK3 rfl rfl)⟩
  simp[results,Tryz.f20,go_sem,d1,d2,d3,d4,d5]
 case stop=>
  rintro D c pre W hD hpre ⟨⟨ho,rfl⟩,hB⟩ hK
  gi_wp2
  refine⟨by simp,.inl ⟨_,_,rfl,run_takeDeferred hK,?_⟩⟩
  have ho2:=afk.own _ _ _ [] W _ (some D) ho (grownBy_putObj' _ D (.deferred none)) (fun r e=>by cases e;exact⟨_,hK,rfl⟩)
  have d1:=ho2.r0
  have d2:=ho2.r1
  have d3:=ho2.r2
  have d4:=ho2.r3
  have d5:=ho2.er
  refine⟨_,?_,rfl,hB.trans (belowK_b (w:=w) (Nat.le_refl _) W D _ _ (by omega) hK rfl rfl)⟩
  simp[results,Tryz.f20,go_sem,d1,d2,d3,d4,d5]
end Go.Proofs.YtmffejnigppbpaaGreatDoor
