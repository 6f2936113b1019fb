/-
 CONTRACT of line.Print.
-/
import Derived.Test.YtmffejnigppbpaaGreatDoorDXMLineR
import Derived.Test.YtmffejnigppbpaaGreatDoorDXMPieces
import Derived.Test.YtmffejnigppbpaaGreatDoorDXMA65
import Derived.Test.YtmffejnigppbpaaGreatDoorDXMA64
import Derived.Deep.RegionWith
set_option linter.unusedVariables false
set_option linter.unusedSimpArgs false
set_option maxHeartbeats 8000000
set_option maxRecDepth 100000
namespace Go.Proofs.YtmffejnigppbpaaGreatDoor
open Go.RowKit
theorem IsB.buf{w0 w:World}{b:Nat}{l:List UInt8}(h:IsB w0 w b l){k:Nat}(hk:ad2 w b=some k):k<w.heap.size:=by
 have key:∀p,Lib.BuilderAt 124 5 w0.heap.size b p (Lib.byteCells l) w→k<w.heap.size:=by
  rintro p ⟨hB,v,hbk,hown,hne⟩
  rw[aej hbk]at hk
  exact(hown.lt k hk).2
 rcases h with h|h
 ·exact key _ h
 ·exact key _ h
theorem arx{w w':World}{b:Nat}(g:G w w')(hb:b<w.heap.size):ad2 w' b=ad2 w b:=by
 unfold ad2;rw[g.below.block b hb]
theorem akH.new{w0 w wx w':World}{b:Nat}{l:List UInt8}(h:IsB w0 w b l)(g:G w wx)(k:akH wx w' b){q:Nat}(h1:w.heap.size≤q)(h2:q<wx.heap.size):w'.heap[q]?=wx.heap[q]?:=by
 have hl:=h.lt.2
 refine k q h2 (by omega) fun e=>?_
 rw[arx g hl]at e
 have:=h.buf e
 omega
theorem ary(cf:Bool)(x:List L8)(j:Nat)(h:j<x.length):aeQ cf (x.take (j+1))=aeQ cf (x.take j)++(if j=0 then 61 else 44)::afW cf x[j]:=by
 cases x with
 |nil=>simp at h
 |cons a r=>
  cases j with
  |zero=>simp[aeQ]
  |succ j=>
   have h':j<r.length:=by simpa using h
   simp only[List.take_succ_cons,aeQ,List.getElem_cons_succ]
   rw[List.take_succ_eq_append_getElem h',List.flatMap_append]
   simp
theorem aeg:∀ {l:List Nat} {a:Nat},a∈l→a≤l.sum
 |b::l,a,h=>by
  rw[List.sum_cons]
  rcases List.mem_cons.1 h with rfl|h
  ·omega
  ·have:=aeg h;omega
theorem ap6(cf:Bool)(v:L8):(afW cf v).length≤2*v.length+2:=by
 have h:(aky cf v).length≤2*v.length:=by
  cases cf with
  |false=>show v.length≤_;omega
  |true=>exact(aoQ v).2
 unfold afW
 split<;>simp<;>omega
theorem anV(cf:Bool)(x:List L8):(aeQ cf x).length≤3*x.length+2*(x.map List.length).sum:=by
 have key:∀r:List L8,(r.flatMap fun u=>(44:UInt8)::afW cf u).length≤3*r.length+2*(r.map List.length).sum:=by
  intro r
  induction r with
  |nil=>simp
  |cons a r ih=>
   have:=ap6 cf a
   simp only[List.flatMap_cons,List.length_append,List.length_cons,List.map_cons,List.sum_cons]
   omega
 cases x with
 |nil=>simp[aeQ]
 |cons a r=>
  have h1:=ap6 cf a
  have h2:=key r
  simp only[aeQ,List.length_append,List.length_cons,List.map_cons,List.sum_cons]
  omega
theorem aw7(cf:Bool)(p:Pm):(pmW cf p).length≤1+3*ac5 p:=by
 have:=anV cf p.2
 unfold pmW ac5
 simp only[List.length_append,List.length_cons]
 omega
theorem avl(cf:Bool)(ps:List Pm):(ps.flatMap (pmW cf)).length≤3*adm ps:=by
 unfold adm
 induction ps with
 |nil=>simp
 |cons p ps ih=>
  have:=aw7 cf p
  simp only[List.flatMap_cons,List.length_append,List.length_cons,List.map_cons,List.sum_cons]
  omega
theorem aty(cf:Bool)(ps:List Pm)(k:Nat)(h:k<ps.length):(ps.take (k+1)).flatMap (pmW cf)=(ps.take k).flatMap (pmW cf)++pmW cf ps[k]:=by
 rw[List.take_succ_eq_append_getElem h,List.flatMap_append];simp
theorem avm(cf:Bool)(ps:List Pm)(k:Nat):((ps.take k).flatMap (pmW cf)).length≤(ps.flatMap (pmW cf)).length:=by
 conv=>rhs;rw[←List.take_append_drop k ps,List.flatMap_append,List.length_append]
 omega
@[go_sem] theorem ayj(X:World):(Instr.mapUpdate 168 (.map (some X.heap.size)) (.bool true) (.string ⟨#[61]⟩)).run Tryz.prog (X.alloc (.map #[] 0))=.ok () (X.alloc (.map #[{ key:=.bool true,val:=.string ⟨#[61]⟩,born:=0 }] 1)):=
 asB X _ _ _ _ Tryz.underlying168 Tryz.underlying4 #[] 0 (.bool true) _ trivial (by kernel_rfl)
@[go_sem] theorem ayk(X:World):(Instr.mapUpdate 168 (.map (some X.heap.size)) (.bool false) (.string ⟨#[44]⟩)).run Tryz.prog (X.alloc (.map #[{ key:=.bool true,val:=.string ⟨#[61]⟩,born:=0 }] 1))=.ok () (X.alloc (.map #[{ key:=.bool true,val:=.string ⟨#[61]⟩,born:=0 },{ key:=.bool false,val:=.string ⟨#[44]⟩,born:=1 }] 2)):=
 asB X _ _ _ _ Tryz.underlying168 Tryz.underlying4 _ 1 (.bool false) _ trivial (by kernel_rfl)
@[go_sem] theorem ayl(X:World):(Instr.lookup 168 (.map (some X.heap.size)) (.bool true) false).run Tryz.prog (X.alloc (.map #[{ key:=.bool true,val:=.string ⟨#[61]⟩,born:=0 },{ key:=.bool false,val:=.string ⟨#[44]⟩,born:=1 }] 2))=.ok (.string ⟨#[61]⟩) (X.alloc (.map #[{ key:=.bool true,val:=.string ⟨#[61]⟩,born:=0 },{ key:=.bool false,val:=.string ⟨#[44]⟩,born:=1 }] 2)):=
 aqc (k:=.bool true) (X.alloc _) _ _ _ _ Tryz.underlying168 Tryz.underlying4 X.heap.size _ 2 (ajO X _ _ rfl) trivial 0 (.string ⟨#[61]⟩) false (by kernel_rfl)
@[go_sem] theorem axW(X:World):(Instr.lookup 168 (.map (some X.heap.size)) (.bool false) false).run Tryz.prog (X.alloc (.map #[{ key:=.bool true,val:=.string ⟨#[61]⟩,born:=0 },{ key:=.bool false,val:=.string ⟨#[44]⟩,born:=1 }] 2))=.ok (.string ⟨#[44]⟩) (X.alloc (.map #[{ key:=.bool true,val:=.string ⟨#[61]⟩,born:=0 },{ key:=.bool false,val:=.string ⟨#[44]⟩,born:=1 }] 2)):=
 aqc (k:=.bool false) (X.alloc _) _ _ _ _ Tryz.underlying168 Tryz.underlying4 X.heap.size _ 2 (ajO X _ _ rfl) trivial 1 (.string ⟨#[44]⟩) false (by kernel_rfl)
theorem aoC(c:UInt8):([44,59,58]:L8).contains c=(c==44||c==59||c==58):=by
 simp only[List.contains_cons,List.contains_nil,Bool.or_false,Bool.or_assoc]
theorem atz(v:L8):Lib.containsAny v [44,59,58]=ajM v:=by
 unfold Lib.containsAny ajM
 cases h:v.any fun c=>c==44||c==59||c==58 with
 |false=>
  rw[ag0 fun c hc=>?_]
  ·rfl
  ·have:=List.any_eq_false.1 h c hc
   rw[aoC];simpa using this
 |true=>
  cases hf:v.findIdx? (fun c=>c==44||c==59||c==58)with
  |none=>
   rw[List.findIdx?_eq_none_iff]at hf
   obtain⟨c,hc,h2⟩:=List.any_eq_true.1 h
   rw[hf c hc]at h2;cases h2
  |some k=>
   obtain⟨hk,h1,h2⟩:=List.findIdx?_eq_some_iff_getElem.1 hf
   rw[ajk hk (fun i hi=>by rw[aoC];have:=h2 i hi;simpa using this) (by rw[aoC];simpa using h1)]
   simp
def adu(cf:Bool)(p:Ln)(v:Value)(w:World):Prop:=
 match acL cf p with
 |none=>v=.tuple #[.string (S (aeC cf p)),.nilIface]
 |some o=>∃e,v=.tuple #[.string (S []),e]∧ad8 w e (some o)∧∃t x,e=.iface t x
theorem adu.yes{cf:Bool}{p:Ln}{l:L8}{w:World}(h:acL cf p=none)(hl:l=aeC cf p):adu cf p (.tuple #[.string (S l),.nilIface]) w:=by unfold adu;rw[h,hl]
theorem adu.no{cf:Bool}{p:Ln}{o:Int×Option Nat}{t:TypeId}{x:Value}{w:World}(h:acL cf p=some o)(he:ad8 w (.iface t x) (some o)):adu cf p (.tuple #[.string (S []),.iface t x]) w:=by unfold adu;rw[h];exact⟨_,rfl,he,_,_,rfl⟩
theorem ad8.iface{w:World}{e:Value}{o:Int×Option Nat}(h:ad8 w e (some o)):∃t x,e=.iface t x:=by
 obtain⟨c,k⟩:=o
 cases k with
 |none=>exact⟨_,_,h⟩
 |some k=>obtain⟨b,h,_⟩:=h;exact⟨_,_,h⟩
theorem agF(g n v:L8)(pv:Value)(ps:List Pm)(cf:Bool)(w:World)(hP:UN w pv ps)(hg:g.length≤10000)(hn:n.length≤10000)(hv:v.length≤10000)(hps:adm ps≤10000) :
  Uz 72 #[.agg #[.string (S g),.string (S n),pv,.string (S v)],.bool cf] w (adu cf ⟨⟨g,n,ps⟩,v⟩):=by
 have hpl:∀p∈ps,p.1.length≤10000∧p.2.length≤10000∧(∀u∈p.2,u.length≤10000)∧ac5 p≤10000:=fun p hp=>by
  have h1:ac5 p≤(ps.map ac5).sum:=aeg (List.mem_map_of_mem hp)
  have h2:ac5 p=p.1.length+p.2.length+(p.2.map List.length).sum:=rfl
  unfold adm at hps
  refine⟨by omega,by omega,fun u hu=>?_,by omega⟩
  have:u.length≤(p.2.map List.length).sum:=aeg (List.mem_map_of_mem hu)
  omega
 have HPL:=hid hpl
 have RI:=hid (fun W (h:UN W pv ps)=>aiJ g n v pv ps cf W h hg hn hv (fun p hp=>⟨(hpl p hp).1,(hpl p hp).2.1,(hpl p hp).2.2.1⟩))
 have H:=hid hP
 have hpn:ps.length≤10000:=by unfold adm at hps;omega
 obtain⟨a,cap,rfl,_,_⟩:=hP
 have HFL:=hid (avl cf ps)
 have hmm:=@run_makeMap Tryz.prog
 clear hpl
 cases hr:acL cf ⟨⟨g,n,ps⟩,v⟩with
 |some o=>
  have HR:=hid hr
  clear hr
  go_enter Tryz.func72,Tryz.ntmps72
  go_wp2_with fail
  refine(RI.out _ (H.out.grow (by repeat (first|exact G.refl _|assumption|apply G.drew|apply G.drewN|apply G.alloc|refine G.trans ?_ (by assumption))))).use ?_
  rw[HR.out]
  intro e w1 he g1
  obtain⟨t,x,rfl⟩:=he.iface
  have HE:=hid he
  have G1:=hid (show G w w1 from G.trans (by repeat (first|exact G.refl _|assumption|apply G.drew|apply G.drewN|apply G.alloc|refine G.trans ?_ (by assumption))) g1)
  clear he g1
  go_wp2_with fail
  go_ret2
  exact⟨_,rfl,adu.no HR.out HE.out,G1.out⟩
 |none=>
  have HR:=hid hr
  clear hr
  go_enter Tryz.func72,Tryz.ntmps72
  go_wp2_with fail
  refine(RI.out _ (H.out.grow (by repeat (first|exact G.refl _|assumption|apply G.drew|apply G.drewN|apply G.alloc|refine G.trans ?_ (by assumption))))).use ?_
  rw[HR.out]
  intro e w1 he g1
  obtain rfl:e=.nilIface:=he
  obtain⟨P,hP⟩:∃P,P=w.heap.size:=⟨_,rfl⟩
  rw[←hP]
  have G1:=hid (show G w w1 from G.trans (by repeat (first|exact G.refl _|assumption|apply G.drew|apply G.drewN|apply G.alloc|refine G.trans ?_ (by assumption))) g1)
  have hP1:P<w1.heap.size:=by have:=g1.size;simp at this;omega
  have c0:w1.cell? ⟨P,0,none⟩=some (.string (S g)):=(g1.cell (p:=⟨P,0,none⟩) (by simp[hP])).trans (by rw[hP,World.cell?_alloc_new];rfl)
  have c1:w1.cell? ⟨P,1,none⟩=some (.string (S n)):=(g1.cell (p:=⟨P,1,none⟩) (by simp[hP])).trans (by rw[hP,World.cell?_alloc_new];rfl)
  have c2:w1.cell? ⟨P,2,none⟩=some (.slice a ps.length cap):=(g1.cell (p:=⟨P,2,none⟩) (by simp[hP])).trans (by rw[hP,World.cell?_alloc_new];rfl)
  have c3:w1.cell? ⟨P,3,none⟩=some (.string (S v)):=(g1.cell (p:=⟨P,3,none⟩) (by simp[hP])).trans (by rw[hP,World.cell?_alloc_new];rfl)
  have C0:=hid c0
  have C1:=hid c1
  have C2:=hid c2
  have C3:=hid c3
  have H1:=hid (H.out.grow G1.out)
  clear g1 hP
  go_upto_region 5 with fail
  obtain⟨D,hD⟩:∃D,D=w1.heap.size:=⟨_,rfl⟩
  generalize hw2:World.alloc w1 _=w2
  have hB2:IsB w1 w2 D []:=by rw[←hw2,hD];exact IsB.new (G.refl _)
  have g2:G w1 w2:=by rw[←hw2];exact(G.refl _).alloc _
  rw[←hD]
  have hPD:P<D:=by omega
  have HB2:=hid hB2
  have G2:=hid g2
  have d0:=(g2.cell (p:=⟨P,0,none⟩) hP1).trans c0
  clear hw2 hB2 g2 c0 c1 c2 c3 hD
  go_upto_if 20 with fail
  go_cut [] (fun wx=>IsB w1 wx D (if g=[] then[] else g++[46])∧G w1 wx)
  case first=>
   rcases g with _|⟨ga,gr⟩
   ·go_wp2_with fail
    go_meet
    exact⟨HB2.out,G2.out⟩
   ·have hgl:gr.length+1≤10000:=by simpa using hg
    go_wp2_with fail
    refine(Rx HB2.out G2.out (ga::(gr++[46])) (by simp;omega)).mono ?_
    rintro e w3 ⟨rfl,hb3,g3,hk3⟩
    have HB3:=hid hb3
    have G3:=hid g3
    clear hb3 g3 hk3
    go_wp2_with fail
    go_meet
    exact⟨HB3.out,G3.out⟩
  case rest=>
   clear HB2 G2
   obtain⟨hb3,g3⟩:=hcut
   have HB3:=hid hb3
   have G3:=hid g3
   obtain⟨o1,ho1⟩:∃o1,(if g=[] then[] else g++[46])=o1:=⟨_,rfl⟩
   have hl1:o1.length≤10001:=by rw[←ho1];split<;>simp;omega
   rw[ho1]at HB3
   have HO1:=hid ho1
   have d1:=(g3.cell (p:=⟨P,1,none⟩) hP1).trans C1.out
   clear hb3 g3 ho1
   go_wp2_with fail
   refine(Rx HB3.out G3.out n (by omega)).mono ?_
   rintro e w4 ⟨rfl,hb4,g4,hk4⟩
   have HB4:=hid hb4
   have G4:=hid g4
   have d2:=(g4.cell (p:=⟨P,2,none⟩) hP1).trans C2.out
   clear hb4 g4 hk4 d1
   go_wp2_with fail
   go_loopw [31] (fun i wr=>∃k:Nat,k≤ps.length∧i=.int .i64 k∧IsB w1 wr D (o1++n++(ps.take k).flatMap (pmW cf))∧G w1 wr) (fun i _=>ps.length-(intOf i).toNat)
   case atStart=>exact⟨0,Nat.zero_le _,rfl,by simpa using HB4.out,G4.out⟩
   case round=>
    obtain⟨k,hk,rfl,hbr,gr⟩:=hrel
    have HBR:=hid hbr
    have GR:=hid gr
    clear hbr gr d2
    by_cases hlt:k<ps.length
    ·obtain⟨a2,cap2,e1,_,hc⟩:=H1.out
     obtain⟨b,off,e2,hbl,hcc⟩:=hc (by rintro rfl;simp at hlt)
     clear hc
     simp only[Value.slice.injEq,true_and]at e1
     obtain⟨rfl,rfl⟩:=e1
     subst e2
     obtain⟨sv,f1,f2,f3⟩:=hcc k _ (List.getElem?_eq_getElem hlt)
     have f1:=(GR.out.cell (p:=⟨b,off+k*2,none⟩) hbl).trans f1
     have f2:=(GR.out.cell (p:=⟨b,off+k*2+1,none⟩) hbl).trans f2
     have hpl:=HPL.out _ (List.getElem_mem hlt)
     have hft:=aty cf ps k hlt
     have hfp:=avm cf ps k
     obtain⟨q,hqe⟩:∃q,ps[k]=q:=⟨_,rfl⟩
     rw[hqe]at f1 f3 hpl hft
     obtain⟨nm,x⟩:=q
     obtain⟨xa,xc,rfl,_⟩:=f3.len
     have I1:=hid f3
     obtain⟨hnl,hxn,hxl,hll⟩:=hpl
     have HXL:=hid hxl
     have HFT:=hid hft
     have hvl:=anV cf x
     have hlp:ac5 (nm,x)=nm.length+x.length+(x.map List.length).sum:=rfl
     simp only at f1 hnl hxn
     obtain⟨o,ho⟩:∃o,o1++n++(ps.take k).flatMap (pmW cf)=o:=⟨_,rfl⟩
     have hol:o.length≤60000:=by rw[←ho];simp only[List.length_append];have:=HFL.out;omega
     have HO:=hid ho
     rw[ho]at HBR
     have hol2:o.length+1+nm.length+(aeQ cf x).length≤120000:=by omega
     clear hcc f3 hqe hxl hft hfp ho hvl hlp
     go_upto_region 11 with fail
     obtain⟨Q,hQ⟩:∃Q,Q=wr.heap.size:=⟨_,rfl⟩
     generalize hwq:World.alloc wr _=wq
     rw[←hQ]
     have gq:G wr wq:=by rw[←hwq];exact(G.refl _).alloc _
     have q0:wq.cell? ⟨Q,0,none⟩=some (.string (S nm)):=by rw[←hwq,hQ,World.cell?_alloc_new];rfl
     have q1:wq.cell? ⟨Q,1,none⟩=some (.slice xa x.length xc):=by rw[←hwq,hQ,World.cell?_alloc_new];rfl
     have hQl:Q<wq.heap.size:=World.block_lt_of_cell? _ _ q0
     have hQr:wr.heap.size≤Q:=by omega
     have HBQ:=hid (HBR.out.grow gq)
     have GQ:=hid (GR.out.trans gq)
     have GQ0:=hid gq
     clear hwq f1 f2 gq hQ
     go_wp2_with fail
     refine(Rx HBQ.out GQ.out (59::nm) (by simp;omega)).mono ?_
     rintro e w5 ⟨rfl,hb5,g5,hk5⟩
     have r1:w5.cell? ⟨Q,1,none⟩=some (.slice xa x.length xc):=(World.cell?_of_block (w:=wq) (akH.new HBR.out GQ0.out hk5 hQr hQl)).trans q1
     have HB5:=hid hb5
     have G5:=hid g5
     clear hb5 g5 hk5 q0 q1
     go_wp2_with fail
     go_loopw [42] (fun i wq'=>∃j:Nat,j≤x.length∧i=.int .i64 j∧IsB w1 wq' D (o++(59::nm)++aeQ cf (x.take j))∧G w1 wq') (fun i _=>x.length-(intOf i).toNat)
     case atStart=>exact⟨0,Nat.zero_le _,rfl,by simpa[aeQ]using HB5.out,G5.out⟩
     case round=>
      obtain⟨j,hj,rfl,hbj,gj⟩:=hrel
      have HBJ:=hid hbj
      have GJ:=hid gj
      clear hbj gj r1
      by_cases hjt:j<x.length
      ·obtain⟨b2,o2,c2',e2,_,hb2',hc2⟩:=(I1.out.grow GJ.out).at_ (by rintro rfl;simp at hjt)
       simp only[Value.slice.injEq,true_and]at e2
       obtain⟨rfl,rfl⟩:=e2
       have s1:=hc2 j _ (List.getElem?_eq_getElem hjt)
       have hul:=HXL.out _ (List.getElem_mem hjt)
       have hvt:=ary cf x j hjt
       have hvp:(aeQ cf (x.take (j+1))).length≤(aeQ cf x).length:=by
        have e:aeQ cf x=aeQ cf (x.take (j+1))++(x.drop (j+1)).flatMap fun u=>44::afW cf u:=by
         cases x with
         |nil=>simp at hjt
         |cons a r=>
          have e:r=r.take j++r.drop j:=(List.take_append_drop j r).symm
          show 61::afW cf a++r.flatMap _=61::afW cf a++(r.take j).flatMap _++(r.drop j).flatMap _
          conv=>lhs;rw[e,List.flatMap_append]
          simp
        rw[e,List.length_append];omega
       obtain⟨u,hu⟩:∃u,x[j]=u:=⟨_,rfl⟩
       rw[hu]at s1 hul hvt
       obtain⟨t,ht⟩:∃t,aky cf u=t:=⟨_,rfl⟩
       have hvw:afW cf u=if ajM t=true then 34::(t++[34])else t:=by unfold afW;rw[ht]
       have htl:t.length≤20000:=by
        rw[←ht]
        cases cf with
        |false=>show u.length≤_;omega
        |true=>have:=(aoQ u).2;show(aoP u).length≤_;omega
       have henc:=fun W=>amc u W (by omega)
       have hct:=fun W=>aho t [44,59,58] W (by omega) (by simp) (by simp) (fun c hc=>by simp at hc;rcases hc with rfl|rfl|rfl<;>decide)
       obtain⟨o2',ho2⟩:∃o2',o++(59::nm)++aeQ cf (x.take j)=o2':=⟨_,rfl⟩
       rw[ho2]at HBJ
       rw[hvt]at hvp
       have hlen:o2'.length+(1+(afW cf u).length)≤120000:=by
        rw[←ho2]
        simp only[List.length_append,List.length_cons]at hvp⊢
        omega
       have HNX:Hid (∀c W,(c=if j=0 then(61:UInt8)else 44)→IsB w1 W D (o2'++[c]++afW cf u)→IsB w1 W D (o++(59::nm)++aeQ cf (x.take (j+1)))):=hid (fun c W hc h=>by
        rw[hvt,←hc,←List.append_assoc,ho2];simpa using h)
       have HT:=hid ht
       have HENC:=hid henc
       clear hc2 hvt hu hvp ht ho2 henc
       have key:∀(c:UInt8),(c=if j=0 then(61:UInt8)else 44)→True:=fun _ _=>trivial
       clear key
       rw[atz]at hct
       cases cf with
       |false=>
        obtain rfl:u=t:=HT.out
        cases hq:ajM u with
        |true=>
         rw[hq]at hct hvw
         rw[if_pos rfl]at hvw
         have HVW:=hid hvw
         have HCT:=hid hct
         rw[hvw]at hlen
         clear hct hvw hq
         simp only[List.length_cons,List.length_append,List.length_nil]at hlen
         by_cases hj0:j=0
         ·subst hj0
          rw[Nat.add_zero]at s1
          go_wp2_with fail
          refine(Rx (HBJ.out.grow (by repeat (first|exact G.refl _|assumption|apply G.drew|apply G.drewN|apply G.alloc|refine G.trans ?_ (by assumption)))) (GJ.out.trans (by repeat (first|exact G.refl _|assumption|apply G.drew|apply G.drewN|apply G.alloc|refine G.trans ?_ (by assumption)))) [61] (by simp;omega)).mono ?_
          rintro e w6 ⟨rfl,hb6,g6,-⟩
          have HB6:=hid hb6
          have G6:=hid g6
          clear hb6 g6
          go_wp2_with fail
          refine(HCT.out _).use ?_
          intro w8 g8
          have HB8:=hid (HB6.out.grow g8)
          have G8:=hid (G6.out.trans g8)
          clear g8
          go_wp2_with fail
          refine(Rx HB8.out G8.out (34::(u++[34])) (by simp;omega)).mono ?_
          rintro e w9 ⟨rfl,hb9,g9,-⟩
          have HB9:=hid (HNX.out 61 _ rfl (by rw[HVW.out];exact hb9))
          have G9:=hid g9
          clear hb9 g9
          go_wp2_with fail
          go_roundw
          case rel=>exact⟨0+1,by omega,by go_num,HB9.out,G9.out⟩
          case measure=>simp[intOf];omega
         ·have hj1:((j:Int)==0)=false:=beq_eq_false_iff_ne.2 (by omega)
          have HJ0:=hid hj0
          clear hj0
          go_wp2_with fail
          refine(Rx (HBJ.out.grow (by repeat (first|exact G.refl _|assumption|apply G.drew|apply G.drewN|apply G.alloc|refine G.trans ?_ (by assumption)))) (GJ.out.trans (by repeat (first|exact G.refl _|assumption|apply G.drew|apply G.drewN|apply G.alloc|refine G.trans ?_ (by assumption)))) [44] (by simp;omega)).mono ?_
          rintro e w6 ⟨rfl,hb6,g6,-⟩
          have HB6:=hid hb6
          have G6:=hid g6
          clear hb6 g6
          go_wp2_with fail
          refine(HCT.out _).use ?_
          intro w8 g8
          have HB8:=hid (HB6.out.grow g8)
          have G8:=hid (G6.out.trans g8)
          clear g8
          go_wp2_with fail
          refine(Rx HB8.out G8.out (34::(u++[34])) (by simp;omega)).mono ?_
          rintro e w9 ⟨rfl,hb9,g9,-⟩
          have HB9:=hid (HNX.out 44 _ (by rw[if_neg HJ0.out]) (by rw[HVW.out];exact hb9))
          have G9:=hid g9
          clear hb9 g9
          go_wp2_with fail
          go_roundw
          case rel=>exact⟨j+1,by omega,by go_num,HB9.out,G9.out⟩
          case measure=>simp[intOf];omega
        |false=>
         rw[hq]at hct hvw
         rw[if_neg (by simp)]at hvw
         have HVW:=hid hvw
         have HCT:=hid hct
         rw[hvw]at hlen
         clear hct hvw hq
         by_cases hj0:j=0
         ·subst hj0
          rw[Nat.add_zero]at s1
          go_wp2_with fail
          refine(Rx (HBJ.out.grow (by repeat (first|exact G.refl _|assumption|apply G.drew|apply G.drewN|apply G.alloc|refine G.trans ?_ (by assumption)))) (GJ.out.trans (by repeat (first|exact G.refl _|assumption|apply G.drew|apply G.drewN|apply G.alloc|refine G.trans ?_ (by assumption)))) [61] (by simp;omega)).mono ?_
          rintro e w6 ⟨rfl,hb6,g6,-⟩
          have HB6:=hid hb6
          have G6:=hid g6
          clear hb6 g6
          go_wp2_with fail
          refine(HCT.out _).use ?_
          intro w8 g8
          have HB8:=hid (HB6.out.grow g8)
          have G8:=hid (G6.out.trans g8)
          clear g8
          go_wp2_with fail
          refine(Rx HB8.out G8.out u (by simp;omega)).mono ?_
          rintro e w9 ⟨rfl,hb9,g9,-⟩
          have HB9:=hid (HNX.out 61 _ rfl (by rw[HVW.out];exact hb9))
          have G9:=hid g9
          clear hb9 g9
          go_wp2_with fail
          go_roundw
          case rel=>exact⟨0+1,by omega,by go_num,HB9.out,G9.out⟩
          case measure=>simp[intOf];omega
         ·have hj1:((j:Int)==0)=false:=beq_eq_false_iff_ne.2 (by omega)
          have HJ0:=hid hj0
          clear hj0
          go_wp2_with fail
          refine(Rx (HBJ.out.grow (by repeat (first|exact G.refl _|assumption|apply G.drew|apply G.drewN|apply G.alloc|refine G.trans ?_ (by assumption)))) (GJ.out.trans (by repeat (first|exact G.refl _|assumption|apply G.drew|apply G.drewN|apply G.alloc|refine G.trans ?_ (by assumption)))) [44] (by simp;omega)).mono ?_
          rintro e w6 ⟨rfl,hb6,g6,-⟩
          have HB6:=hid hb6
          have G6:=hid g6
          clear hb6 g6
          go_wp2_with fail
          refine(HCT.out _).use ?_
          intro w8 g8
          have HB8:=hid (HB6.out.grow g8)
          have G8:=hid (G6.out.trans g8)
          clear g8
          go_wp2_with fail
          refine(Rx HB8.out G8.out u (by simp;omega)).mono ?_
          rintro e w9 ⟨rfl,hb9,g9,-⟩
          have HB9:=hid (HNX.out 44 _ (by rw[if_neg HJ0.out]) (by rw[HVW.out];exact hb9))
          have G9:=hid g9
          clear hb9 g9
          go_wp2_with fail
          go_roundw
          case rel=>exact⟨j+1,by omega,by go_num,HB9.out,G9.out⟩
          case measure=>simp[intOf];omega
       |true=>
        have henc:=HENC.out
        rw[show UK afj u=t from HT.out]at henc
        have HENC:=hid henc
        clear henc
        cases hq:ajM t with
        |true=>
         rw[hq]at hct hvw
         rw[if_pos rfl]at hvw
         have HVW:=hid hvw
         have HCT:=hid hct
         rw[hvw]at hlen
         clear hct hvw hq
         simp only[List.length_cons,List.length_append,List.length_nil]at hlen
         by_cases hj0:j=0
         ·subst hj0
          rw[Nat.add_zero]at s1
          go_wp2_with fail
          refine(Rx (HBJ.out.grow (by repeat (first|exact G.refl _|assumption|apply G.drew|apply G.drewN|apply G.alloc|refine G.trans ?_ (by assumption)))) (GJ.out.trans (by repeat (first|exact G.refl _|assumption|apply G.drew|apply G.drewN|apply G.alloc|refine G.trans ?_ (by assumption)))) [61] (by simp;omega)).mono ?_
          rintro e w6 ⟨rfl,hb6,g6,-⟩
          have HB6:=hid hb6
          have G6:=hid g6
          clear hb6 g6
          go_wp2_with fail
          refine(HENC.out _).use ?_
          intro w7 g7
          have HB7:=hid (HB6.out.grow g7)
          have G7:=hid (G6.out.trans g7)
          clear g7
          go_wp2_with fail
          refine(HCT.out _).use ?_
          intro w8 g8
          have HB8:=hid (HB7.out.grow g8)
          have G8:=hid (G7.out.trans g8)
          clear g8
          go_wp2_with fail
          refine(Rx HB8.out G8.out (34::(t++[34])) (by simp;omega)).mono ?_
          rintro e w9 ⟨rfl,hb9,g9,-⟩
          have HB9:=hid (HNX.out 61 _ rfl (by rw[HVW.out];exact hb9))
          have G9:=hid g9
          clear hb9 g9
          go_wp2_with fail
          go_roundw
          case rel=>exact⟨0+1,by omega,by go_num,HB9.out,G9.out⟩
          case measure=>simp[intOf];omega
         ·have hj1:((j:Int)==0)=false:=beq_eq_false_iff_ne.2 (by omega)
          have HJ0:=hid hj0
          clear hj0
          go_wp2_with fail
          refine(Rx (HBJ.out.grow (by repeat (first|exact G.refl _|assumption|apply G.drew|apply G.drewN|apply G.alloc|refine G.trans ?_ (by assumption)))) (GJ.out.trans (by repeat (first|exact G.refl _|assumption|apply G.drew|apply G.drewN|apply G.alloc|refine G.trans ?_ (by assumption)))) [44] (by simp;omega)).mono ?_
          rintro e w6 ⟨rfl,hb6,g6,-⟩
          have HB6:=hid hb6
          have G6:=hid g6
          clear hb6 g6
          go_wp2_with fail
          refine(HENC.out _).use ?_
          intro w7 g7
          have HB7:=hid (HB6.out.grow g7)
          have G7:=hid (G6.out.trans g7)
          clear g7
          go_wp2_with fail
          refine(HCT.out _).use ?_
          intro w8 g8
          have HB8:=hid (HB7.out.grow g8)
          have G8:=hid (G7.out.trans g8)
          clear g8
          go_wp2_with fail
          refine(Rx HB8.out G8.out (34::(t++[34])) (by simp;omega)).mono ?_
          rintro e w9 ⟨rfl,hb9,g9,-⟩
          have HB9:=hid (HNX.out 44 _ (by rw[if_neg HJ0.out]) (by rw[HVW.out];exact hb9))
          have G9:=hid g9
          clear hb9 g9
          go_wp2_with fail
          go_roundw
          case rel=>exact⟨j+1,by omega,by go_num,HB9.out,G9.out⟩
          case measure=>simp[intOf];omega
        |false=>
         rw[hq]at hct hvw
         rw[if_neg (by simp)]at hvw
         have HVW:=hid hvw
         have HCT:=hid hct
         rw[hvw]at hlen
         clear hct hvw hq
         by_cases hj0:j=0
         ·subst hj0
          rw[Nat.add_zero]at s1
          go_wp2_with fail
          refine(Rx (HBJ.out.grow (by repeat (first|exact G.refl _|assumption|apply G.drew|apply G.drewN|apply G.alloc|refine G.trans ?_ (by assumption)))) (GJ.out.trans (by repeat (first|exact G.refl _|assumption|apply G.drew|apply G.drewN|apply G.alloc|refine G.trans ?_ (by assumption)))) [61] (by simp;omega)).mono ?_
          rintro e w6 ⟨rfl,hb6,g6,-⟩
          have HB6:=hid hb6
          have G6:=hid g6
          clear hb6 g6
          go_wp2_with fail
          refine(HENC.out _).use ?_
          intro w7 g7
          have HB7:=hid (HB6.out.grow g7)
          have G7:=hid (G6.out.trans g7)
          clear g7
          go_wp2_with fail
          refine(HCT.out _).use ?_
          intro w8 g8
          have HB8:=hid (HB7.out.grow g8)
          have G8:=hid (G7.out.trans g8)
          clear g8
          go_wp2_with fail
          refine(Rx HB8.out G8.out t (by simp;omega)).mono ?_
          rintro e w9 ⟨rfl,hb9,g9,-⟩
          have HB9:=hid (HNX.out 61 _ rfl (by rw[HVW.out];exact hb9))
          have G9:=hid g9
          clear hb9 g9
          go_wp2_with fail
          go_roundw
          case rel=>exact⟨0+1,by omega,by go_num,HB9.out,G9.out⟩
          case measure=>simp[intOf];omega
         ·have hj1:((j:Int)==0)=false:=beq_eq_false_iff_ne.2 (by omega)
          have HJ0:=hid hj0
          clear hj0
          go_wp2_with fail
          refine(Rx (HBJ.out.grow (by repeat (first|exact G.refl _|assumption|apply G.drew|apply G.drewN|apply G.alloc|refine G.trans ?_ (by assumption)))) (GJ.out.trans (by repeat (first|exact G.refl _|assumption|apply G.drew|apply G.drewN|apply G.alloc|refine G.trans ?_ (by assumption)))) [44] (by simp;omega)).mono ?_
          rintro e w6 ⟨rfl,hb6,g6,-⟩
          have HB6:=hid hb6
          have G6:=hid g6
          clear hb6 g6
          go_wp2_with fail
          refine(HENC.out _).use ?_
          intro w7 g7
          have HB7:=hid (HB6.out.grow g7)
          have G7:=hid (G6.out.trans g7)
          clear g7
          go_wp2_with fail
          refine(HCT.out _).use ?_
          intro w8 g8
          have HB8:=hid (HB7.out.grow g8)
          have G8:=hid (G7.out.trans g8)
          clear g8
          go_wp2_with fail
          refine(Rx HB8.out G8.out t (by simp;omega)).mono ?_
          rintro e w9 ⟨rfl,hb9,g9,-⟩
          have HB9:=hid (HNX.out 44 _ (by rw[if_neg HJ0.out]) (by rw[HVW.out];exact hb9))
          have G9:=hid g9
          clear hb9 g9
          go_wp2_with fail
          go_roundw
          case rel=>exact⟨j+1,by omega,by go_num,HB9.out,G9.out⟩
          case measure=>simp[intOf];omega
      ·obtain rfl:j=x.length:=by omega
       have htk:x.take x.length=x:=List.take_length
       have HBN:=hid (show IsB w1 _ D (o1++n++(ps.take (k+1)).flatMap (pmW cf))from by
        have h:=HBJ.out
        rw[htk]at h
        rw[HFT.out,←List.append_assoc,HO.out]
        simpa[pmW]using h)
       clear htk
       go_wp2_with fail
       go_roundw
       case rel=>exact⟨k+1,by omega,by go_num,HBN.out,GJ.out⟩
       case measure=>simp[intOf];omega
    ·obtain rfl:k=ps.length:=by omega
     have htk:ps.take ps.length=ps:=List.take_length
     have HBF:=hid (show IsB w1 wr D (o1++n++ps.flatMap (pmW cf))from by have h:=HBR.out;rwa [htk]at h)
     clear htk
     have e3:=(G.cell GR.out (p:=⟨P,3,none⟩) hP1).trans C3.out
     have hfl:(o1++n++ps.flatMap (pmW cf)).length≤60000:=by have:=HFL.out;simp only[List.length_append];omega
     obtain⟨o,ho⟩:∃o,o1++n++ps.flatMap (pmW cf)=o:=⟨_,rfl⟩
     rw[ho]at HBF hfl
     have HO:Hid (o++58::v=aeC cf ⟨⟨g,n,ps⟩,v⟩):=hid (by unfold aeC amq;rw[←ho,←HO1.out])
     clear ho
     go_wp2_with fail
     go_region_with ((go_at_call 86;refine(ag1 (HBF.out.grow ((G.refl _).drew)) (GR.out.drew)).mono ?_;rintro e w6 ⟨rfl,g6,hk6⟩;have e63:=(g6.cell (p:=⟨P,3,none⟩) hP1).trans C3.out;have G6:=hid g6;clear g6 hk6))
     all_goals
      go_wp2_with fail
      go_ret2
      exact⟨_,rfl,adu.yes HR.out (by rw[←HO.out]),G1.out.trans G6.out⟩
end Go.Proofs.YtmffejnigppbpaaGreatDoor
