/-
  Texts merged into one: RulesFit, RulesFits.
-/
import Derived.Test.YtmffejnigppbpaaGreatDoorDXMA59
import Derived.Test.YtmffejnigppbpaaGreatDoorDXMA65
import Derived.Test.YtmffejnigppbpaaGreatDoorDXMA77
import Derived.Test.YtmffejnigppbpaaGreatDoorDXMA75
set_option linter.unusedVariables false
set_option linter.unusedSimpArgs false
set_option maxHeartbeats 1000000
set_option maxRecDepth 100000
namespace Go.Proofs.YtmffejnigppbpaaGreatDoor
open Go.RowKit
def avG(k:Int):List UInt8:=if k<1∨9≤k then[] else if k<4 then[116,101,120,116] else if k=4 then[117,114,105] else if k=5 then[100,97,116,101,45,97,110,100,45,111,114,45,116,105,109,101] else if k=6 then[117,116,99,45,111,102,102,115,101,116] else if k=7 then[108,97,110,103,117,97,103,101,45,116,97,103] else[117,110,107,110,111,119,110]
theorem avH(k:Int)(w:World):adV 55 #[.int .i64 k] w (.string (S (avG k))):=by
 by_cases h:k<1∨9≤k
 ·have hk:avG k=[]:=by unfold avG;rw[if_pos h]
  rw[hk]
  rcases h with h|h
  ·go_enter Tryz.func55,Tryz.ntmps55
   go_wp2
   go_ret
   exact⟨by rfl,rfl⟩
  ·go_enter Tryz.func55,Tryz.ntmps55
   go_wp2
   go_ret
   exact⟨by rfl,rfl⟩
 ·have h1:k=1∨k=2∨k=3∨k=4∨k=5∨k=6∨k=7∨k=8:=by omega
  have i1:∀w,(Instr.index 136 (.agg #[.string { data:=#[] },.string { data:=#[116,101,120,116] },.string { data:=#[116,101,120,116] },.string { data:=#[116,101,120,116] },.string { data:=#[117,114,105] },.string { data:=#[100,97,116,101,45,97,110,100,45,111,114,45,116,105,109,101] },.string { data:=#[117,116,99,45,111,102,102,115,101,116] },.string { data:=#[108,97,110,103,117,97,103,101,45,116,97,103] },.string { data:=#[117,110,107,110,111,119,110] }]) (.int .i64 1)).run Tryz.prog w=.ok (.string { data:=#[116,101,120,116] }) w:=fun _=>by kernel_rfl
  have i2:∀w,(Instr.index 136 (.agg #[.string { data:=#[] },.string { data:=#[116,101,120,116] },.string { data:=#[116,101,120,116] },.string { data:=#[116,101,120,116] },.string { data:=#[117,114,105] },.string { data:=#[100,97,116,101,45,97,110,100,45,111,114,45,116,105,109,101] },.string { data:=#[117,116,99,45,111,102,102,115,101,116] },.string { data:=#[108,97,110,103,117,97,103,101,45,116,97,103] },.string { data:=#[117,110,107,110,111,119,110] }]) (.int .i64 2)).run Tryz.prog w=.ok (.string { data:=#[116,101,120,116] }) w:=fun _=>by kernel_rfl
  have i3:∀w,(Instr.index 136 (.agg #[.string { data:=#[] },.string { data:=#[116,101,120,116] },.string { data:=#[116,101,120,116] },.string { data:=#[116,101,120,116] },.string { data:=#[117,114,105] },.string { data:=#[100,97,116,101,45,97,110,100,45,111,114,45,116,105,109,101] },.string { data:=#[117,116,99,45,111,102,102,115,101,116] },.string { data:=#[108,97,110,103,117,97,103,101,45,116,97,103] },.string { data:=#[117,110,107,110,111,119,110] }]) (.int .i64 3)).run Tryz.prog w=.ok (.string { data:=#[116,101,120,116] }) w:=fun _=>by kernel_rfl
  have i4:∀w,(Instr.index 136 (.agg #[.string { data:=#[] },.string { data:=#[116,101,120,116] },.string { data:=#[116,101,120,116] },.string { data:=#[116,101,120,116] },.string { data:=#[117,114,105] },.string { data:=#[100,97,116,101,45,97,110,100,45,111,114,45,116,105,109,101] },.string { data:=#[117,116,99,45,111,102,102,115,101,116] },.string { data:=#[108,97,110,103,117,97,103,101,45,116,97,103] },.string { data:=#[117,110,107,110,111,119,110] }]) (.int .i64 4)).run Tryz.prog w=.ok (.string { data:=#[117,114,105] }) w:=fun _=>by kernel_rfl
  have i5:∀w,(Instr.index 136 (.agg #[.string { data:=#[] },.string { data:=#[116,101,120,116] },.string { data:=#[116,101,120,116] },.string { data:=#[116,101,120,116] },.string { data:=#[117,114,105] },.string { data:=#[100,97,116,101,45,97,110,100,45,111,114,45,116,105,109,101] },.string { data:=#[117,116,99,45,111,102,102,115,101,116] },.string { data:=#[108,97,110,103,117,97,103,101,45,116,97,103] },.string { data:=#[117,110,107,110,111,119,110] }]) (.int .i64 5)).run Tryz.prog w=.ok (.string { data:=#[100,97,116,101,45,97,110,100,45,111,114,45,116,105,109,101] }) w:=fun _=>by kernel_rfl
  have i6:∀w,(Instr.index 136 (.agg #[.string { data:=#[] },.string { data:=#[116,101,120,116] },.string { data:=#[116,101,120,116] },.string { data:=#[116,101,120,116] },.string { data:=#[117,114,105] },.string { data:=#[100,97,116,101,45,97,110,100,45,111,114,45,116,105,109,101] },.string { data:=#[117,116,99,45,111,102,102,115,101,116] },.string { data:=#[108,97,110,103,117,97,103,101,45,116,97,103] },.string { data:=#[117,110,107,110,111,119,110] }]) (.int .i64 6)).run Tryz.prog w=.ok (.string { data:=#[117,116,99,45,111,102,102,115,101,116] }) w:=fun _=>by kernel_rfl
  have i7:∀w,(Instr.index 136 (.agg #[.string { data:=#[] },.string { data:=#[116,101,120,116] },.string { data:=#[116,101,120,116] },.string { data:=#[116,101,120,116] },.string { data:=#[117,114,105] },.string { data:=#[100,97,116,101,45,97,110,100,45,111,114,45,116,105,109,101] },.string { data:=#[117,116,99,45,111,102,102,115,101,116] },.string { data:=#[108,97,110,103,117,97,103,101,45,116,97,103] },.string { data:=#[117,110,107,110,111,119,110] }]) (.int .i64 7)).run Tryz.prog w=.ok (.string { data:=#[108,97,110,103,117,97,103,101,45,116,97,103] }) w:=fun _=>by kernel_rfl
  have i8:∀w,(Instr.index 136 (.agg #[.string { data:=#[] },.string { data:=#[116,101,120,116] },.string { data:=#[116,101,120,116] },.string { data:=#[116,101,120,116] },.string { data:=#[117,114,105] },.string { data:=#[100,97,116,101,45,97,110,100,45,111,114,45,116,105,109,101] },.string { data:=#[117,116,99,45,111,102,102,115,101,116] },.string { data:=#[108,97,110,103,117,97,103,101,45,116,97,103] },.string { data:=#[117,110,107,110,111,119,110] }]) (.int .i64 8)).run Tryz.prog w=.ok (.string { data:=#[117,110,107,110,111,119,110] }) w:=fun _=>by kernel_rfl
  rcases h1 with rfl|rfl|rfl|rfl|rfl|rfl|rfl|rfl
  all_goals
   go_enter Tryz.func55,Tryz.ntmps55
   go_wp2
   go_ret
   exact⟨by rfl,rfl⟩
def aex(s:List UInt8)(most:Int):Bool:=match Lib.atoiAll s with|.ok n=>decide (1≤n)&&(decide (n≤most)&&(Lib.itoa n==s))|_=>false
theorem ajb(s : List UInt8)(most : Int)(w : World)(hs : s.length ≤ 1000000)(hE : ake w)(htab : Lib.TabIs Tryz.prog w "internal/strconv.uint64pow10" .u64 Lib.pow10Tab) : Um 159 #[.string (S s), .int .i64 most] w (.bool (aex s most)) := by
 have hat:=fun n=>asg s n w hs
 have hno:=fun h=>awl s w hs h hE
 have hto:=fun (n:Int) h0 h1 W h=>alM n W h0 h1 h
 rcases hc:Lib.atoiAll s with n|_|_
 case ok=>
  obtain⟨b0,b1⟩:=Lib.atoiAll_bounds hc
  have hL:aex s most=(decide (1≤n)&&(decide (n≤most)&&(Lib.itoa n==s))):=by unfold aex;rw[hc]
  rw[hL]
  clear hL hno
  have HA:=hid (hat n hc)
  have HT:=hid htab
  have HI:=hid hto
  clear hat hto htab hc
  obtain⟨z,hz⟩:∃z,z=Lib.itoa n:=⟨_,rfl⟩
  rw[←hz]
  have HZ:=hid hz
  clear hz
  go_enter Tryz.func159,Tryz.ntmps159
  go_wp2_with fail
  refine HA.out.use ?_
  intro w1 g1
  have T1:=hid (Lib.tabBelow_of_tabIs HT.out w1 g1.below)
  clear HA
  by_cases h1:1≤n
  ·by_cases h2:n≤most
   ·go_wp2_with fail
    refine(HI.out n b0 b1 w1 T1.out).use ?_
    rw[←HZ.out]
    intro w2 g2
    go_wp2_with fail
    go_ret
    exact⟨zF (by simp[h1,h2]),g1.trans g2⟩
   ·go_wp2_with fail
    go_ret
    exact⟨zF (by rw[decide_eq_false (show ¬n≤most by omega)];simp),g1⟩
  ·go_wp2_with fail
   go_ret
   exact⟨zF (by rw[decide_eq_false (show ¬1≤n by omega)];simp),g1⟩
 all_goals
  have hL:aex s most=false:=by unfold aex;rw[hc]
  rw[hL]
  have HA:=hid (hno fun n h=>by rw[hc]at h;cases h)
  clear hat hno hto htab hL
  go_enter Tryz.func159,Tryz.ntmps159
  go_wp2_with fail
  refine HA.out.use ?_
  rintro v w1 ⟨n,N,rfl⟩ g1
  go_wp2_with fail
  go_ret
  exact⟨zF rfl,g1⟩
def aih(u:List UInt8):Prop:=u=[86,65,76,85,69]∨u=[65,76,84,73,68]∨u=[77,69,68,73,65,84,89,80,69]∨u=[69,78,67,79,68,73,78,71]
instance (u:List UInt8):Decidable (aih u):=by unfold aih;infer_instance
def aqu(s:List UInt8):Bool:=aex (Lib.cut s [46]).1 999&&(!(Lib.cut s [46]).2.2||aex (Lib.cut s [46]).2.1 999)
def amJ(f:List UInt8→Bool)(vs:List (List UInt8)):Bool:=match vs with|[x]=>f x|_=>false
def afT(u:List UInt8)(vs:List (List UInt8)):Bool:=
 if aih u then decide (vs.length=1)
 else if u=[76,65,78,71,85,65,71,69] then amJ afh vs
 else if u=[80,82,69,70] then amJ (fun x=>aex x 100) vs
 else if u=[84,89,80,69] then vs.all GH && !vs.isEmpty
 else if u=[80,73,68] then vs.all aqu && !vs.isEmpty
 else !vs.isEmpty
structure aeV(w:World):Prop where
 asp : Lib.TabIs Tryz.prog w "strings.asciiSpace" .u8 Lib.asciiSpaceTab
 p10 : Lib.TabIs Tryz.prog w "internal/strconv.uint64pow10" .u64 Lib.pow10Tab
 er:ake w
 hm:aer w
theorem aeV.grow{w w':World}(h:aeV w)(g:G w w'):aeV w':=by
 constructor<;>first|exact Lib.tabBelow_of_tabIs h.p10 w' g.below|exact h.er.grow g|exact h.hm.grow g|exact Lib.tabBelow_of_tabIs h.asp w' g.below
end Go.Proofs.YtmffejnigppbpaaGreatDoor

set_option maxHeartbeats 2000000
set_option maxRecDepth 100000
namespace Go.Proofs.YtmffejnigppbpaaGreatDoor
open Go.RowKit
theorem asE(s sep:List UInt8):(Lib.cut s sep).1.length≤s.length∧(Lib.cut s sep).2.1.length≤s.length:=by
 unfold Lib.cut
 split
 ·simp;omega
 ·simp
theorem ajX(p:List UInt8→Bool)(l:List (List UInt8))(k:Nat)(h:k<l.length):(l.take (k+1)).all p=((l.take k).all p&&p l[k]):=by
 rw[List.take_succ_eq_append_getElem h,List.all_append];simp
theorem avI(nm:List UInt8)(sv:Value)(vs:List (List UInt8))(w:World)(hv:Ux w sv vs)(hn:nm.length≤1000000)(hl:vs.length≤1000000)(hvl:∀x∈vs,x.length≤100000)(hM:aeV w):Um 112 #[.agg #[.string (S nm),sv]] w (.bool (afT (Eg nm) vs)):=by
 obtain⟨u,hu⟩:∃u,u=Eg nm:=⟨_,rfl⟩
 have up:∀W,Um 52 #[.string (S nm)] W (.string (S u)):=fun W=>by rw[hu];exact afa nm W (by omega)
 rw[←hu]
 clear hu
 have UP:=hid up
 clear up
 have HV:=hid hv
 obtain⟨sa,sc,rfl,_⟩:=hv.len
 clear hv
 have EI:=hid (vs.isEmpty_eq_false_iff)
 by_cases h1:aih u
 ·have hf:afT u vs=decide (vs.length=1):=by unfold afT;rw[if_pos h1]
  rw[hf]
  rcases h1 with rfl|rfl|rfl|rfl
  all_goals
   clear hf
   go_enter Tryz.func112,Tryz.ntmps112
   go_wp2_with fail
   refine(UP.out _).use ?_
   intro w1 g1
   go_wp2_with fail
   go_ret
   exact⟨zF (by rw[Bool.eq_iff_iff];simp;try omega),(by repeat (first|exact G.refl _|assumption|apply G.drew|apply G.drewN|apply G.alloc|refine G.trans ?_ (by assumption)))⟩
 ·have n1:u≠[86,65,76,85,69]:=fun h=>h1 (.inl h)
  have n2:u≠[65,76,84,73,68]:=fun h=>h1 (.inr (.inl h))
  have n3:u≠[77,69,68,73,65,84,89,80,69]:=fun h=>h1 (.inr (.inr (.inl h)))
  have n4:u≠[69,78,67,79,68,73,78,71]:=fun h=>h1 (.inr (.inr (.inr h)))
  by_cases h2:u=[76,65,78,71,85,65,71,69]
  ·subst h2
   have hf:afT [76,65,78,71,85,65,71,69] vs=amJ afh vs:=by unfold afT;rw[if_neg h1,if_pos rfl]
   rw[hf]
   clear hf n1 n2 n3 n4
   by_cases hl:vs.length=1
   ·obtain⟨x,rfl⟩:=List.length_eq_one_iff.1 hl
    have hx:=hvl x (by simp)
    obtain⟨b,off,cap,e1,_,hb,hc⟩:=HV.out.at_ (by simp)
    have c0:=hc 0 x rfl
    simp only[Nat.add_zero]at c0
    cases e1
    clear hc hl
    go_enter Tryz.func112,Tryz.ntmps112
    go_wp2_with fail
    refine(UP.out _).use ?_
    intro w1 g1
    have c1:=(G.cell (G.trans ((G.refl w).alloc _) g1) hb).trans c0
    have bx:w1.cell? ⟨w.heap.size,1,none⟩=some (.slice (some ⟨b,off,none⟩) 1 sc):=(G.cell g1 (p:=⟨w.heap.size,1,none⟩) (by simp)).trans (by simp[go_sem])
    go_wp2_with fail
    refine(aiH x w1 hx).use ?_
    intro v w2 hp g2
    have HP:=hid hp
    cases hlb:afh x with
    |true=>
     obtain rfl:v=.nilIface:=by have:=HP.out;unfold adt at this;rwa [if_pos hlb]at this
     go_wp2_with fail
     go_ret
     exact⟨zF (by simp[amJ,hlb]),(by repeat (first|exact G.refl _|assumption|apply G.drew|apply G.drewN|apply G.alloc|refine G.trans ?_ (by assumption)))⟩
    |false=>
     obtain⟨e,p,k,rfl,_⟩:∃e p,UE w2 v e p:=by have:=HP.out;unfold adt at this;rw[if_neg (by simp[hlb])]at this;obtain⟨e,p,h,_⟩:=this;exact⟨e,p,h⟩
     go_wp2_with fail
     go_ret
     exact⟨zF (by simp[amJ,hlb]),(by repeat (first|exact G.refl _|assumption|apply G.drew|apply G.drewN|apply G.alloc|refine G.trans ?_ (by assumption)))⟩
   ·have hf:amJ afh vs=false:=by unfold amJ;split<;>simp_all
    rw[hf]
    go_enter Tryz.func112,Tryz.ntmps112
    go_wp2_with fail
    refine(UP.out _).use ?_
    intro w1 g1
    go_wp2_with fail
    go_ret
    exact⟨zF rfl,(by repeat (first|exact G.refl _|assumption|apply G.drew|apply G.drewN|apply G.alloc|refine G.trans ?_ (by assumption)))⟩
  ·by_cases h3:u=[80,82,69,70]
   ·subst h3
    have hf:afT [80,82,69,70] vs=amJ (fun x=>aex x 100) vs:=by unfold afT;rw[if_neg h1,if_neg h2,if_pos rfl]
    rw[hf]
    clear hf n1 n2 n3 n4
    by_cases hl:vs.length=1
    ·obtain⟨x,rfl⟩:=List.length_eq_one_iff.1 hl
     have hx:=hvl x (by simp)
     obtain⟨b,off,cap,e1,_,hb,hc⟩:=HV.out.at_ (by simp)
     have c0:=hc 0 x rfl
     simp only[Nat.add_zero]at c0
     cases e1
     clear hc hl
     go_enter Tryz.func112,Tryz.ntmps112
     go_wp2_with fail
     refine(UP.out _).use ?_
     intro w1 g1
     have gw:=G.trans ((G.refl w).alloc _) g1
     have c1:=(G.cell gw hb).trans c0
     have bx:w1.cell? ⟨w.heap.size,1,none⟩=some (.slice (some ⟨b,off,none⟩) 1 sc):=(G.cell g1 (p:=⟨w.heap.size,1,none⟩) (by simp)).trans (by simp[go_sem])
     have mw:=hM.grow gw
     go_wp2_with fail
     refine(ajb x 100 w1 (by omega) mw.er mw.p10).use ?_
     intro w2 g2
     go_wp2_with fail
     go_ret
     exact⟨zF (by simp[amJ]),(by repeat (first|exact G.refl _|assumption|apply G.drew|apply G.drewN|apply G.alloc|refine G.trans ?_ (by assumption)))⟩
    ·have hf:amJ (fun x=>aex x 100) vs=false:=by unfold amJ;split<;>simp_all
     rw[hf]
     go_enter Tryz.func112,Tryz.ntmps112
     go_wp2_with fail
     refine(UP.out _).use ?_
     intro w1 g1
     go_wp2_with fail
     go_ret
     exact⟨zF rfl,(by repeat (first|exact G.refl _|assumption|apply G.drew|apply G.drewN|apply G.alloc|refine G.trans ?_ (by assumption)))⟩
   ·by_cases h4:u=[84,89,80,69]
    ·subst h4
     have hf:afT [84,89,80,69] vs=(vs.all GH && !vs.isEmpty):=by unfold afT;rw[if_neg h1,if_neg h2,if_neg h3,if_pos rfl]
     rw[hf]
     clear hf n1 n2 n3 n4
     go_enter Tryz.func112,Tryz.ntmps112
     go_wp2_with fail
     refine(UP.out _).use ?_
     intro w1 g1
     have gw:=G.trans ((G.refl w).alloc _) g1
     have bx:w1.cell? ⟨w.heap.size,1,none⟩=some (.slice sa vs.length sc):=(G.cell g1 (p:=⟨w.heap.size,1,none⟩) (by simp)).trans (by simp[go_sem])
     have HW:=HV.out.grow gw
     have HWS:=hid HW
     clear HW
     go_wp2_with fail
     go_loop [50] (fun i=>∃k:Nat,k≤vs.length∧i=.int .i64 k∧(vs.take k).all GH=true) (fun i=>vs.length-(intOf i).toNat)
     case atStart=>exact⟨0,Nat.zero_le _,rfl,rfl⟩
     case round=>
      obtain⟨k,hk,rfl,hall⟩:=hrel
      have HA:=hid hall
      clear hall
      by_cases hlt:k<vs.length
      ·obtain⟨b,off,cap,e1,_,hb,hc⟩:=HWS.out.at_ (by rintro rfl;simp at hlt)
       have c0:=hc k _ (List.getElem?_eq_getElem hlt)
       have hx:=hvl _ (List.getElem_mem hlt)
       have hs:=ajX GH vs k hlt
       have HS:=hid hs
       obtain⟨x,hxe⟩:∃x,vs[k]=x:=⟨_,rfl⟩
       rw[hxe]at c0 hx
       have HX:=hid hxe
       cases e1
       clear hc hs hxe
       go_wp2_with fail
       refine(ag8 x w1 (by omega)).use ?_
       cases hn1:GH x with
       |true=>
        go_wp2_with fail
        go_round
        case rel=>exact⟨k+1,by omega,by go_num,by rw[HS.out,HA.out,HX.out];simpa using hn1⟩
        case measure=>simp[intOf];omega
       |false=>
        go_wp2_with fail
        go_ret
        have:vs.all GH=false:=by rw[List.all_eq_false];exact⟨x,by rw[←HX.out];exact List.getElem_mem hlt,by simp[hn1]⟩
        exact⟨zF (by simp[this]),gw⟩
      ·obtain rfl:k=vs.length:=by omega
       have ha:=HA.out
       rw[List.take_length]at ha
       have HAll:=hid ha
       clear ha HA
       go_wp2_with fail
       go_ret
       exact⟨zF (by rw[HAll.out,Bool.eq_iff_iff];simp[List.length_pos_iff]),gw⟩
    ·by_cases h5:u=[80,73,68]
     ·subst h5
      have hf:afT [80,73,68] vs=(vs.all aqu && !vs.isEmpty):=by unfold afT;rw[if_neg h1,if_neg h2,if_neg h3,if_neg h4,if_pos rfl]
      rw[hf]
      clear hf n1 n2 n3 n4
      go_enter Tryz.func112,Tryz.ntmps112
      go_wp2_with fail
      refine(UP.out _).use ?_
      intro w1 g1
      have gw:=G.trans ((G.refl w).alloc _) g1
      have bx:w1.cell? ⟨w.heap.size,1,none⟩=some (.slice sa vs.length sc):=(G.cell g1 (p:=⟨w.heap.size,1,none⟩) (by simp)).trans (by simp[go_sem])
      have bxb:w.heap.size<w1.heap.size:=World.block_lt_of_cell? _ _ bx
      have BX:=hid bx
      go_wp2_with fail
      clear bx
      go_loopw [63] (fun i wr=>∃k:Nat,k≤vs.length∧i=.int .i64 k∧(vs.take k).all aqu=true∧G w1 wr) (fun i _=>vs.length-(intOf i).toNat)
      case atStart=>exact⟨0,Nat.zero_le _,rfl,rfl,G.refl _⟩
      case round=>
       obtain⟨k,hk,rfl,hall,gr⟩:=hrel
       have HA:=hid hall
       have GR:=hid gr
       clear hall
       have GW:=hid (gw.trans gr)
       by_cases hlt:k<vs.length
       ·obtain⟨b,off,cap,e1,_,hb,hc⟩:=(HV.out.grow GW.out).at_ (by rintro rfl;simp at hlt)
        have c0:=hc k _ (List.getElem?_eq_getElem hlt)
        have hx:=hvl _ (List.getElem_mem hlt)
        have hs:=ajX aqu vs k hlt
        have HS:=hid hs
        obtain⟨x,hxe⟩:∃x,vs[k]=x:=⟨_,rfl⟩
        rw[hxe]at c0 hx
        have HX:=hid hxe
        cases e1
        obtain⟨ca,hca⟩:∃y,y=(Lib.cut x [46]).1:=⟨_,rfl⟩
        obtain⟨cb,hcb⟩:∃y,y=(Lib.cut x [46]).2.1:=⟨_,rfl⟩
        obtain⟨ct,hct⟩:∃y,y=(Lib.cut x [46]).2.2:=⟨_,rfl⟩
        have hp:aqu x=(aex ca 999&&(!ct||aex cb 999)):=by unfold aqu;rw[hca,hcb,hct]
        have HP:=hid hp
        have la:ca.length≤100000:=by rw[hca];exact Nat.le_trans (asE x [46]).1 hx
        have lb:cb.length≤100000:=by rw[hcb];exact Nat.le_trans (asE x [46]).2 hx
        have cu:∀W,aer W→Um 109 #[.string (S x),.string (S [46])] W (.tuple #[.string (S ca),.string (S cb),.bool ct]):=fun W hM=>by rw[hca,hcb,hct];exact age x [46] W hM (by omega)
        have CU:=hid cu
        clear hc hs hxe hp hca hcb hct cu gr
        have mr:=hM.grow GW.out
        go_wp2_with fail
        refine(CU.out _ mr.hm).use ?_
        intro w2 g2
        have mr2:=mr.grow g2
        go_wp2_with fail
        refine(ajb ca 999 w2 (by omega) mr2.er mr2.p10).use ?_
        intro w3 g3
        have mr3:=mr2.grow g3
        have G3:=hid (g2.trans g3)
        clear g2 g3 mr mr2
        cases ha:aex ca 999 with
        |false=>
         go_wp2_with fail
         go_ret
         have:vs.all aqu=false:=by rw[List.all_eq_false];exact⟨x,by rw[←HX.out];exact List.getElem_mem hlt,by rw[HP.out,ha];simp⟩
         exact⟨zF (by simp[this]),GW.out.trans G3.out⟩
        |true=>
         cases ht:ct with
         |false=>
          go_wp2_with fail
          go_roundw
          case rel=>exact⟨k+1,by omega,by go_num,by rw[HS.out,HA.out,HX.out,HP.out,ha,ht];rfl,GR.out.trans G3.out⟩
          case measure=>simp[intOf];omega
         |true=>
          go_wp2_with fail
          refine(ajb cb 999 w3 (by omega) mr3.er mr3.p10).use ?_
          intro w4 g4
          cases hb2:aex cb 999 with
          |false=>
           go_wp2_with fail
           go_ret
           have:vs.all aqu=false:=by rw[List.all_eq_false];exact⟨x,by rw[←HX.out];exact List.getElem_mem hlt,by rw[HP.out,ha,ht,hb2];simp⟩
           exact⟨zF (by simp[this]),(GW.out.trans G3.out).trans g4⟩
          |true=>
           go_wp2_with fail
           go_roundw
           case rel=>exact⟨k+1,by omega,by go_num,by rw[HS.out,HA.out,HX.out,HP.out,ha,ht,hb2];rfl,(GR.out.trans G3.out).trans g4⟩
           case measure=>simp[intOf];omega
       ·obtain rfl:k=vs.length:=by omega
        have ha:=HA.out
        rw[List.take_length]at ha
        have HAll:=hid ha
        have b2:wr.cell? ⟨w.heap.size,1,none⟩=some (.slice sa vs.length sc):=(GR.out.cell bxb).trans BX.out
        clear ha HA gr
        go_wp2_with fail
        go_ret
        exact⟨zF (by rw[HAll.out,Bool.eq_iff_iff];simp[List.length_pos_iff]),GW.out⟩
     ·have hf:afT u vs=!vs.isEmpty:=by unfold afT;rw[if_neg h1,if_neg h2,if_neg h3,if_neg h4,if_neg h5]
      rw[hf]
      have q1:(u==[86,65,76,85,69])=false:=beq_eq_false_iff_ne.2 n1
      have q2:(u==[65,76,84,73,68])=false:=beq_eq_false_iff_ne.2 n2
      have q3:(u==[77,69,68,73,65,84,89,80,69])=false:=beq_eq_false_iff_ne.2 n3
      have q4:(u==[69,78,67,79,68,73,78,71])=false:=beq_eq_false_iff_ne.2 n4
      have q5:(u==[76,65,78,71,85,65,71,69])=false:=beq_eq_false_iff_ne.2 h2
      have q6:(u==[80,82,69,70])=false:=beq_eq_false_iff_ne.2 h3
      have q7:(u==[84,89,80,69])=false:=beq_eq_false_iff_ne.2 h4
      have q8:(u==[80,73,68])=false:=beq_eq_false_iff_ne.2 h5
      clear hf h1 n1 n2 n3 n4 h2 h3 h4 h5
      go_enter Tryz.func112,Tryz.ntmps112
      go_wp2_with fail
      refine(UP.out _).use ?_
      intro w1 g1
      have gw:=G.trans ((G.refl w).alloc _) g1
      have bx:w1.cell? ⟨w.heap.size,1,none⟩=some (.slice sa vs.length sc):=(G.cell g1 (p:=⟨w.heap.size,1,none⟩) (by simp)).trans (by simp[go_sem])
      go_wp2_with fail
      go_ret
      exact⟨zF (by rw[Bool.eq_iff_iff];simp[List.length_pos_iff]),gw⟩
end Go.Proofs.YtmffejnigppbpaaGreatDoor
