/-
  Texts merged into one: LineCatch, LineParse.
-/
import Derived.Test.YtmffejnigppbpaaGreatDoorDXMA74
import Derived.Test.YtmffejnigppbpaaGreatDoorDXMA65
import Derived.Recover
import Derived.Stop.Asserts
import Derived.Deep.CutRange
set_option linter.unusedVariables false
set_option linter.unusedSimpArgs false
set_option maxHeartbeats 1000000
set_option maxRecDepth 100000
namespace Go.Proofs.YtmffejnigppbpaaGreatDoor
open Go.RowKit
@[go_sem] theorem ayW(v:Value)(w:World):(Instr.typeAssert (.iface 295 v) 20 295 true).run Tryz.prog w=.ok (.tuple #[v,.bool true]) w:=by kernel_rfl
theorem ars(p:Addr)(q:Addr)(w:World) :
  CallsD Tryz.prog 215 #[.pointer (some p),.pointer (some q)] .returning w fun e u' w'=>e=.returned (.tuple #[])∧u'=.returning∧w'=w:=by
 refine callsD_of_wpS Tryz.func215 rfl fun c₀ cs hu=>?_
 apply wpS_seq
 apply wpS_region
 simp[wpOpsS,go_sem,recoverD,hu,Tryz.ntmps215,Exit.thenS]
 apply wpS_seq
 apply wpS_region
 simp[wpOpsS,go_sem,recoverD,hu,Tryz.ntmps215,Exit.thenS]
 refine wpS_cond (t:=false) (by simp[Act.eval,Array.replicate]) ?_
 simp only[Bool.false_eq_true,if_false]
 refine wpS_of_wp (wp_skip ?_)
 cases c₀
 simp_all [bodyPostS,results,Tryz.results215]
theorem afE(P E:Nat)(a b c d:Value)(e0:Value)(ec k:Int)(older:List PanicEntry)(w:World)(hP:w.heap[P]?=some (.cells #[a,b,c,d] 109))(hE:w.heap[E]?=some (.cells #[e0] 28))(hne:P≠E) :
  CallsD Tryz.prog 215 #[.pointer (some ⟨P,0,none⟩),.pointer (some ⟨E,0,none⟩)] (.panicking ({ v:=aiZ ec k,recovered:=false }::older)) w fun e u' w'=>
   e=.returned (.tuple #[])∧u'=.panicking ({ v:=aiZ ec k,recovered:=true }::older)∧∃x,w'.heap[P]?=some (.cells #[.string (S []),.string (S []),.slice none 0 0,.string (S [])] 109)∧w'.heap[E]?=some (.cells #[x] 28)∧UE w' x ec k∧∀w0:World,G w0 w→w0.heap.size≤P→w0.heap.size≤E→G w0 w':=by
 have p0:w.cell? ⟨P,0,none⟩=some a:=by rw[cell_of_row w P 0 _ _ _ hP];rfl
 have p1:w.cell? ⟨P,1,none⟩=some b:=by rw[cell_of_row w P 1 _ _ _ hP];rfl
 have p2:w.cell? ⟨P,2,none⟩=some c:=by rw[cell_of_row w P 2 _ _ _ hP];rfl
 have p3:w.cell? ⟨P,3,none⟩=some d:=by rw[cell_of_row w P 3 _ _ _ hP];rfl
 have q0:w.cell? ⟨E,0,none⟩=some e0:=by rw[cell_of_row w E 0 _ _ _ hE];rfl
 have zp:=fun j=>frozen_of_row w P j _ _ hP
 have zq:=frozen_of_row w E 0 _ _ hE
 have hPl:P<w.heap.size:=(Array.getElem?_eq_some_iff.1 hP).1
 have hEl:E<w.heap.size:=(Array.getElem?_eq_some_iff.1 hE).1
 have hne2:¬E=P:=fun e=>hne e.symm
 refine callsD_of_wpS Tryz.func215 rfl fun c₀ cs hu=>?_
 change Code.wpS _ _ _ { tmps:=#[.pointer (some ⟨P,0,none⟩),.pointer (some ⟨E,0,none⟩),undef,undef,undef,undef,undef,undef,undef,undef,undef,undef,undef,undef,undef,undef,undef,undef,undef],defers:=[] } _ _
 apply wpS_seq
 apply wpS_region
 simp[wpOpsS,go_sem,recoverD,hu,Exit.thenS,aiZ]
 apply wpS_seq
 apply wpS_region
 simp[wpOpsS,go_sem,recoverD,hu,Exit.thenS,aiZ]
 refine wpS_cond (t:=true) (by simp[Act.eval]) ?_
 simp only[if_true]
 refine wpS_of_wp ?_
 have HP:=hid hP
 have HE:=hid hE
 clear hP hE
 go_wp2_with fail
 obtain⟨W,hW⟩:∃W,W=(((((w.setCell ⟨P,0,none⟩ (.string ⟨#[]⟩)).setCell ⟨P,1,none⟩ (.string ⟨#[]⟩)).setCell ⟨P,2,none⟩ (.slice none 0 0)).setCell ⟨P,3,none⟩ (.string ⟨#[]⟩)).setCell ⟨E,0,none⟩ (.iface 80 (.pointer (some ⟨w.heap.size,0,none⟩)))):=⟨_,rfl⟩
 have kP:W.heap[P]?=some (.cells #[.string (S []),.string (S []),.slice none 0 0,.string (S [])] 109):=by
  rw[hW,Below.heap_setCell _ _ _ _ hne]
  have h0:=UJ (i:=0) (v:=.string ⟨#[]⟩) (cs':=#[.string (S []),b,c,d]) HP.out rfl
  have h1:=UJ (i:=1) (v:=.string ⟨#[]⟩) (cs':=#[.string (S []),.string (S []),c,d]) h0 rfl
  have h2:=UJ (i:=2) (v:=.slice none 0 0) (cs':=#[.string (S []),.string (S []),.slice none 0 0,d]) h1 rfl
  exact UJ (i:=3) (v:=.string ⟨#[]⟩) (cs':=#[.string (S []),.string (S []),.slice none 0 0,.string (S [])]) h2 rfl
 have kE:W.heap[E]?=some (.cells #[.iface 80 (.pointer (some ⟨w.heap.size,0,none⟩))] 28):=by
  rw[hW]
  refine UJ (i:=0) (cs:=#[e0]) ?_ rfl
  rw[Below.heap_setCell _ _ _ _ hne2,Below.heap_setCell _ _ _ _ hne2,Below.heap_setCell _ _ _ _ hne2,Below.heap_setCell _ _ _ _ hne2]
  exact HE.out
 have hsz:W.heap.size=w.heap.size:=by rw[hW];simp
 have kG:∀w0:World,G w0 w→w0.heap.size≤P→w0.heap.size≤E→G w0 W:=fun w0 g h1 h2=>by
  rw[hW]
  exact Below.setCell (Below.setCell (Below.setCell (Below.setCell (Below.setCell g.below h1 _) h1 _) h1 _) h1 _) h2 _
 rw[←hW]
 have HW:=hid hW
 clear hW
 refine⟨rfl,_,rfl,.tuple #[],?_,rfl,rfl,?_,.iface 80 (.pointer (some ⟨w.heap.size,0,none⟩)),?_,?_,?_⟩
 ·simp[results,Tryz.results215,go_sem]
 ·exact agW kP (UI kP)
 ·exact agW kE (UI kE)
 ·exact UE.newAt _ _ _ _ _ hsz.symm
 ·exact fun w0 g h1 h2=>(kG w0 g h1 h2).alloc _
end Go.Proofs.YtmffejnigppbpaaGreatDoor

set_option maxHeartbeats 8000000
set_option maxRecDepth 100000
namespace Go.Proofs.YtmffejnigppbpaaGreatDoor
open Go.RowKit
def lnV(p:Ln)(pv:Value):Value:=.agg #[.string (S p.hd.group),.string (S p.hd.name),pv,.string (S p.value)]
def aow(x:Except Er Ln)(v:Value)(w:World):Prop:=
 match x with
 |.ok p=>∃pv,v=.tuple #[lnV p pv,.nilIface]∧UN w pv p.hd.params
 |.error (c,k)=>∃e,v=.tuple #[.agg #[.string (S []),.string (S []),.slice none 0 0,.string (S [])],e]∧UE w e c k
theorem aow.no{x:Except Er Ln}{c:Int}{k:Nat}{e:Value}{w:World}(h:x=.error (c,k))(hi:UE w e c k):aow x (.tuple #[.agg #[.string (S []),.string (S []),.slice none 0 0,.string (S [])],e]) w:=by subst h;exact⟨e,rfl,hi⟩
theorem aow.yes{x:Except Er Ln}{p:Ln}{pv:Value}{w:World}(h:x=.ok p)(hi:UN w pv p.hd.params):aow x (.tuple #[lnV p pv,.nilIface]) w:=by subst h;exact⟨pv,rfl,hi⟩
def UH(n:Nat)(x:Except Er Ln)(v:Value)(w:World):Prop:=
 match x with
 |.ok p=>∃pv base,v=.tuple #[lnV p pv,.nilIface]∧n≤base∧ad5 w base pv p.hd.params
 |.error (c,k)=>∃e,v=.tuple #[.agg #[.string (S []),.string (S []),.slice none 0 0,.string (S [])],e]∧UE w e c k
theorem UH.no{N:Nat}{x:Except Er Ln}{c:Int}{k:Nat}{e:Value}{w:World}(h:x=.error (c,k))(hi:UE w e c k):UH N x (.tuple #[.agg #[.string (S []),.string (S []),.slice none 0 0,.string (S [])],e]) w:=by subst h;exact⟨e,rfl,hi⟩
theorem UH.yes{N base:Nat}{x:Except Er Ln}{p:Ln}{pv:Value}{w:World}(h:x=.ok p)(hn:N≤base)(hi:ad5 w base pv p.hd.params):UH N x (.tuple #[lnV p pv,.nilIface]) w:=by subst h;exact⟨pv,base,rfl,hn,hi⟩
structure ajL(w wx:World)(P E R:Nat)(s:L8)(cf:Bool)(g n:L8)(pv:Value)(v l:L8):Prop where
 gg:G w wx
 pp:wx.heap[P]?=some (.cells #[.string (S g),.string (S n),pv,.string (S v)] 109)
 ee:wx.heap[E]?=some (.cells #[.nilIface] 28)
 rr:LRd wx R s cf l
section
variable {w wx wy:World} {P E R:Nat} {s:L8} {cf:Bool} {g n:L8} {pv:Value} {v l:L8}
theorem ajL.mv{l':L8}(h:ajL w wx P E R s cf g n pv v l)(m:wx.grownBy wy (some R))(hr:LRd wy R s cf l')(hR:w.heap.size≤R)(hP:P≠R)(hE:E≠R):ajL w wy P E R s cf g n pv v l':=
 ⟨alz h.gg m hR,(m.block P (UI h.pp) (by simpa using hP)).trans h.pp,(m.block E (UI h.ee) (by simpa using hE)).trans h.ee,hr⟩
theorem ajL.mv2(h:ajL w wx P E R s cf g n pv v l)(m:wx.grownBy wy (some R))(hR:w.heap.size≤R)(hP:P≠R)(hE:E≠R):G w wy∧wy.heap[P]?=some (.cells #[.string (S g),.string (S n),pv,.string (S v)] 109)∧wy.heap[E]?=some (.cells #[.nilIface] 28):=
 ⟨alz h.gg m hR,(m.block P (UI h.pp) (by simpa using hP)).trans h.pp,(m.block E (UI h.ee) (by simpa using hE)).trans h.ee⟩
theorem ajL.put{j:Nat}{x:Value}{g' n':L8}{pv':Value}{v':L8}(h:ajL w wx P E R s cf g n pv v l)(hw:w.heap.size≤P)(hP:P≠R)(hE:E≠P)(e:(#[.string (S g),.string (S n),pv,.string (S v)]:Array Value).setIfInBounds j x=#[.string (S g'),.string (S n'),pv',.string (S v')]):ajL w (wx.setCell ⟨P,j,none⟩ x) P E R s cf g' n' pv' v' l:=by
 refine⟨h.gg.below.setCell hw _,UJ h.pp e,by rw[Below.heap_setCell _ _ _ _ hE];exact h.ee,?_⟩
 obtain⟨p,e,hr⟩:=h.rr
 refine⟨p,e,?_⟩
 show(wx.setCell _ _).heap[R]?=_
 rw[Below.heap_setCell _ _ _ _ (Ne.symm hP)];exact hr
end
def avf(Q:Value→World→Prop)(w:World)(e:Ending)(w':World):Prop:=∃v,e=.returned v∧Q v w'∧G w w'
def ae9(l:L8):Rs (L8×L8):=Rs.next (aet l) fun n t=>match isB 46 t with
 |some r=>Rs.next (aet r) fun m u=>.ok ((n,m),u)
 |none=>.ok (([],n),t)
theorem aic(cf:Bool)(l:L8):ahq cf l=Rs.next (ae9 l) fun gn t2=>Rs.next (adi cf 0 t2) fun ps t3=>match isB 58 t3 with
  |none=>.error (7,t3.length)
  |some r=>.ok (⟨gn.1,gn.2,ps⟩,r):=by
 unfold ahq ae9
 cases aet l with
 |error e=>rfl
 |ok p=>rfl
section
variable {cf:Bool} {s:L8}
theorem akw(hb:UL s=none){c:Int}{k:Nat}(h:ahq cf s=.error (c,k)):acZ cf s=.error (c,s.length-k):=by unfold acZ;rw[hb];simp only;rw[h]
theorem amn(hb:UL s=none){c:Int}{k:Nat}(h:ae9 s=.error (c,k)):acZ cf s=.error (c,s.length-k):=akw hb (by rw[aic,h];rfl)
theorem atr{e:Er}(h:aet s=.error e):ae9 s=.error e:=by unfold ae9;rw[h];rfl
theorem att{n t r:L8}{e:Er}(h:aet s=.ok (n,t))(h2:isB 46 t=some r)(h3:aet r=.error e):ae9 s=.error e:=by
 unfold ae9;rw[h,adS,h2];simp only;rw[h3];rfl
theorem avg{n t r m u:L8}(h:aet s=.ok (n,t))(h2:isB 46 t=some r)(h3:aet r=.ok (m,u)):ae9 s=.ok ((n,m),u):=by
 unfold ae9;rw[h,adS,h2];simp only;rw[h3];rfl
theorem avh{n t:L8}(h:aet s=.ok (n,t))(h2:isB 46 t=none):ae9 s=.ok (([],n),t):=by
 unfold ae9;rw[h,adS,h2]
theorem aox(hb:UL s=none){g n t:L8}(h:ae9 s=.ok ((g,n),t)){c:Int}{k:Nat}(h2:adi cf 0 t=.error (c,k)):acZ cf s=.error (c,s.length-k):=akw hb (by rw[aic,h,adS,h2];rfl)
theorem ap1(hb:UL s=none){g n t u:L8}{ps:List Pm}(h:ae9 s=.ok ((g,n),t))(h2:adi cf 0 t=.ok (ps,u))(h3:isB 58 u=none):acZ cf s=.error (7,s.length-u.length):=akw hb (by rw[aic,h,adS,h2,adS,h3])
theorem atu{g n t u r:L8}{ps:List Pm}(h:ae9 s=.ok ((g,n),t))(h2:adi cf 0 t=.ok (ps,u))(h3:isB 58 u=some r):ahq cf s=.ok (⟨g,n,ps⟩,r):=by rw[aic,h,adS,h2,adS,h3]
theorem atv(hb:UL s=none){h:Hd}{r:L8}(hh:ahq cf s=.ok (h,r)){i:Nat}(hc:r.findIdx? agP=some i):acZ cf s=.error (3,s.length-r.length+i):=by unfold acZ;rw[hb];simp only;rw[hh];simp only;rw[hc]
theorem arv(hb:UL s=none){h:Hd}{r:L8}(hh:ahq cf s=.ok (h,r))(hc:r.findIdx? agP=none):acZ cf s=.ok ⟨h,r⟩:=by unfold acZ;rw[hb];simp only;rw[hh];simp only;rw[hc]
end
theorem aiI(s:L8)(cf:Bool)(w:World)(hs:s.length≤10000)(hPM:∀(W:World) (R:Nat) (t:L8) (gn:L8×L8),ae9 s=.ok (gn,t)→LRd W R s cf t→Calls Tryz.prog 218 #[.pointer (some ⟨R,0,none⟩)] W (RdP s cf R (VP W.heap.size) (adi cf 0 t) W)):Calls Tryz.prog 192 #[.string (S s),.bool cf] w (avf (UH w.heap.size (acZ cf s)) w):=by
 have HPM:=hid hPM
 clear hPM
 have hmf:∀(fn:Fn) (first cap:Array Value) (w:World),(Instr.makeFunc fn first cap).run Tryz.prog w=.ok (.func fn first cap) w:=fun _ _ _ _=>rfl
 have hbad:=fun W=>alF s W (by omega)
 cases hb:UL s with
 |some i=>
  rw[hb]at hbad
  have HBAD:=hid hbad
  have HB:=hid hb
  clear hbad hb
  go_enter_defers Tryz.func192,Tryz.ntmps192
  go_wp2_with fail
  refine(HBAD.out _).use ?_
  simp only[anx]
  go_wp2_with fail
  refine⟨.tuple #[.agg #[.string (S []),.string (S []),.slice none 0 0,.string (S [])],.iface 80 (.pointer (some ⟨w.heap.size+1+1,0,none⟩))],?_,_,rfl,UH.no (by unfold acZ;rw[HB.out]) (UE.newAt _ _ _ _ _ (by simp)),(by repeat (first|exact G.refl _|assumption|apply G.drew|apply G.drewN|apply G.alloc|refine G.trans ?_ (by assumption)))⟩
  have e0:∀o1 o2 o3 j,(((w.alloc o1).alloc o2).alloc o3).cell? ⟨w.heap.size,j,none⟩=(w.alloc o1).cell? ⟨w.heap.size,j,none⟩:=fun o1 o2 o3 j=>by
   rw[World.cell?_of_block (w:=(w.alloc o1).alloc o2) (Below.heap_alloc _ _ _ (by simp;omega)),World.cell?_of_block (w:=w.alloc o1) (Below.heap_alloc _ _ _ (by simp))]
  have e1:∀o1 o2 o3 j,(((w.alloc o1).alloc o2).alloc o3).cell? ⟨w.heap.size+1,j,none⟩=((w.alloc o1).alloc o2).cell? ⟨w.heap.size+1,j,none⟩:=fun o1 o2 o3 j=>by
   rw[World.cell?_of_block (w:=(w.alloc o1).alloc o2) (Below.heap_alloc _ _ _ (by simp))]
  simp[results,Tryz.results192,go_sem,e0,e1]
  rfl
 |none=>
  rw[hb]at hbad
  have HBAD:=hid hbad
  have HB:=hid hb
  clear hbad hb
  go_enter_defers Tryz.func192,Tryz.ntmps192
  go_wp2_with fail
  refine(HBAD.out _).use ?_
  simp only[anx]
  go_upto_region 6 with fail
  obtain⟨P,hP⟩:∃P,P=w.heap.size:=⟨_,rfl⟩
  obtain⟨E,hE⟩:∃E,E=w.heap.size+1:=⟨_,rfl⟩
  obtain⟨R,hR⟩:∃R,R=w.heap.size+1+1:=⟨_,rfl⟩
  generalize hw0:World.alloc _ _=w0
  have hst:ajL w w0 P E R s cf [] [] (.slice none 0 0) [] s:=by
   subst hP;subst hE;subst hR
   rw[←hw0]
   refine⟨(((G.refl w).alloc _).alloc _).alloc _,agW (agW (World.alloc_heap_new _ _) (by simp)) (by simp;omega),agW (by have:=World.alloc_heap_new (w.alloc (.cells #[.string ⟨#[]⟩,.string ⟨#[]⟩,.slice none 0 0,.string ⟨#[]⟩] 109)) (.cells #[.nilIface] 28);rwa [World.size_alloc]at this) (by simp),[],rfl,?_⟩
   have:=World.alloc_heap_new ((w.alloc (.cells #[.string ⟨#[]⟩,.string ⟨#[]⟩,.slice none 0 0,.string ⟨#[]⟩] 109)).alloc (.cells #[.nilIface] 28)) (.cells #[.string (S s),.int .i64 0,.bool cf] 299)
   rw[World.size_alloc,World.size_alloc]at this
   exact this
  rw[←hR,←hE,←hP]
  have h1:w.heap.size≤P:=by omega
  have h2:w.heap.size≤E:=by omega
  have h3:w.heap.size≤R:=by omega
  have h4:P≠R:=by omega
  have h5:E≠R:=by omega
  have h6:E≠P:=by omega
  clear hP hE hR hw0
  have HST:=hid hst
  clear hst
  have zp:=fun j=>frozen_of_row w0 P j _ _ HST.out.pp
  have c1:w0.cell? ⟨P,1,none⟩=some (.string (S [])):=by rw[cell_of_row w0 P 1 _ _ _ HST.out.pp];rfl
  cases hw:aet s with
  |error ck=>
   obtain⟨c,k⟩:=ck
   have HW:=hid hw
   clear hw
   go_wp2_with fail
   refine(ajK w0 R s cf s HST.out.rr (by omega)).mono ?_
   rw[HW.out]
   rintro e w2 ⟨m2,rfl⟩
   refine leaves_cons (f:=215) (args:=#[.pointer (some ⟨P,0,none⟩),.pointer (some ⟨E,0,none⟩)]) (by simp) (by simp[go_sem]) ?_
   obtain⟨k1,k2,k3⟩:=HST.out.mv2 m2 h3 h4 h5
   refine(afE P E _ _ _ _ _ _ _ [] _ k2 k3 (Ne.symm h6)).mono ?_
   rintro e u' wz ⟨rfl,rfl,x,x1,x2,x3,x4⟩
   have y0:wz.cell? ⟨P,0,none⟩=some (.string (S [])):=by rw[cell_of_row wz P 0 _ _ _ x1];rfl
   have y1:wz.cell? ⟨P,1,none⟩=some (.string (S [])):=by rw[cell_of_row wz P 1 _ _ _ x1];rfl
   have y2:wz.cell? ⟨P,2,none⟩=some (.slice none 0 0):=by rw[cell_of_row wz P 2 _ _ _ x1];rfl
   have y3:wz.cell? ⟨P,3,none⟩=some (.string (S [])):=by rw[cell_of_row wz P 3 _ _ _ x1];rfl
   have y4:wz.cell? ⟨E,0,none⟩=some x:=by rw[cell_of_row wz E 0 _ _ _ x2];rfl
   simp[Leaves,settle,results,Tryz.results192,go_sem,y0,y1,y2,y3,y4]
   exact⟨_,rfl,UH.no (amn HB.out (atr HW.out)) x3,x4 w k1 h1 h2⟩
  |ok nt=>
   obtain⟨n,t⟩:=nt
   have HW:=hid hw
   clear hw
   go_wp2_with fail
   refine(ajK w0 R s cf s HST.out.rr (by omega)).mono ?_
   rw[HW.out]
   rintro e w2 ⟨m2,v,rfl,hv,h2'⟩
   obtain rfl:v=.string (S n):=hv
   have st2:=HST.out.mv m2 h2' h3 h4 h5
   have c21:w2.cell? ⟨P,1,none⟩=some (.string (S [])):=by rw[cell_of_row w2 P 1 _ _ _ st2.pp];rfl
   have z21:w2.frozen? ⟨P,1,none⟩=false:=frozen_of_row w2 P 1 _ _ st2.pp
   have st3:ajL w (w2.setCell ⟨P,1,none⟩ (.string (S n))) P E R s cf [] n (.slice none 0 0) [] t:=st2.put h1 h4 h6 rfl
   have ST3:=hid st3
   clear st2 st3 m2 h2' c1 zp
   go_upto_region 7 with fail
   generalize hw3:World.setCell _ _ _=w3
   rw[hw3]at ST3
   clear hw3 c21 z21
   have c31:w3.cell? ⟨P,1,none⟩=some (.string (S n)):=by rw[cell_of_row w3 P 1 _ _ _ ST3.out.pp];rfl
   go_wp2_with fail
   refine(ajJ w3 R s cf t 46 ST3.out.rr (by omega)).mono ?_
   rintro e w4 ⟨rfl,m4,h4'⟩
   have st4:=ST3.out.mv m4 h4' h3 h4 h5
   have ST4:=hid st4
   clear st4 m4 h4' c31
   obtain⟨q,hq⟩:∃q,(isB 46 t).isSome=q:=⟨_,rfl⟩
   rw[hq]
   have HQ:=hid hq
   clear hq
   go_upto_if 27 with fail
   go_cut [] from 28 to 33 (fun wx=>∃g m t2,ajL w wx P E R s cf g m (.slice none 0 0) [] t2∧ae9 s=.ok ((g,m),t2))
   case first=>
    cases hb:isB 46 t with
    |none=>
     obtain rfl:q=false:=by rw[←HQ.out,hb];rfl
     have HD:=hid hb
     clear hb
     go_wp2_with fail
     go_meet
     exact⟨[],n,t,by have:=ST4.out;rwa [HD.out]at this,avh HW.out HD.out⟩
    |some r=>
     obtain rfl:q=true:=by rw[←HQ.out,hb];rfl
     have st4:=ST4.out
     rw[hb]at st4
     have HD:=hid hb
     have c40:w4.cell? ⟨P,0,none⟩=some (.string (S [])):=by rw[cell_of_row w4 P 0 _ _ _ st4.pp];rfl
     have c41:w4.cell? ⟨P,1,none⟩=some (.string (S n)):=by rw[cell_of_row w4 P 1 _ _ _ st4.pp];rfl
     have z40:w4.frozen? ⟨P,0,none⟩=false:=frozen_of_row w4 P 0 _ _ st4.pp
     have st5:ajL w (w4.setCell ⟨P,0,none⟩ (.string (S n))) P E R s cf n n (.slice none 0 0) [] r:=st4.put h1 h4 h6 rfl
     have ST5:=hid st5
     clear st4 st5 hb
     go_upto_region 9 with fail
     generalize hw5:World.setCell _ _ _=w5
     rw[hw5]at ST5
     clear hw5 c40 c41 z40
     cases hw:aet r with
     |error ck=>
      obtain⟨c,k⟩:=ck
      have HV:=hid hw
      clear hw
      go_wp2_with fail
      refine(ajK w5 R s cf r ST5.out.rr (by omega)).mono ?_
      rw[HV.out]
      rintro e w6 ⟨m6,rfl⟩
      refine leaves_cons (f:=215) (args:=#[.pointer (some ⟨P,0,none⟩),.pointer (some ⟨E,0,none⟩)]) (by simp) (by simp[go_sem]) ?_
      obtain⟨k1,k2,k3⟩:=ST5.out.mv2 m6 h3 h4 h5
      refine(afE P E _ _ _ _ _ _ _ [] _ k2 k3 (Ne.symm h6)).mono ?_
      rintro e u' wz ⟨rfl,rfl,x,x1,x2,x3,x4⟩
      have y0:wz.cell? ⟨P,0,none⟩=some (.string (S [])):=by rw[cell_of_row wz P 0 _ _ _ x1];rfl
      have y1:wz.cell? ⟨P,1,none⟩=some (.string (S [])):=by rw[cell_of_row wz P 1 _ _ _ x1];rfl
      have y2:wz.cell? ⟨P,2,none⟩=some (.slice none 0 0):=by rw[cell_of_row wz P 2 _ _ _ x1];rfl
      have y3:wz.cell? ⟨P,3,none⟩=some (.string (S [])):=by rw[cell_of_row wz P 3 _ _ _ x1];rfl
      have y4:wz.cell? ⟨E,0,none⟩=some x:=by rw[cell_of_row wz E 0 _ _ _ x2];rfl
      simp[Leaves,settle,results,Tryz.results192,go_sem,y0,y1,y2,y3,y4]
      exact⟨_,rfl,UH.no (amn HB.out (att HW.out HD.out HV.out)) x3,x4 w k1 h1 h2⟩
     |ok nt=>
      obtain⟨m,t2⟩:=nt
      have HV:=hid hw
      clear hw
      go_wp2_with fail
      refine(ajK w5 R s cf r ST5.out.rr (by omega)).mono ?_
      rw[HV.out]
      rintro e w6 ⟨m6,v,rfl,hv,h6'⟩
      obtain rfl:v=.string (S m):=hv
      have st6:=ST5.out.mv m6 h6' h3 h4 h5
      have c61:w6.cell? ⟨P,1,none⟩=some (.string (S n)):=by rw[cell_of_row w6 P 1 _ _ _ st6.pp];rfl
      have z61:w6.frozen? ⟨P,1,none⟩=false:=frozen_of_row w6 P 1 _ _ st6.pp
      have ST6:=hid st6
      clear st6 m6 h6'
      go_wp2_with fail
      go_meet
      exact⟨n,m,t2,ST6.out.put h1 h4 h6 rfl,avg HW.out HD.out HV.out⟩
   case rest=>
    clear HQ ST4 HW ST3
    obtain⟨g,m,t2,st7,hnm⟩:=hcut
    have ST7:=hid st7
    have HNM:=hid hnm
    have hPl:=UI st7.pp
    clear st7 hnm
    cases hp:adi cf 0 t2 with
    |error ck=>
     obtain⟨c,k⟩:=ck
     have HP:=hid hp
     clear hp
     go_wp2_with fail
     refine(HPM.out wc R t2 _ HNM.out ST7.out.rr).mono ?_
     rw[HP.out]
     rintro e w8 ⟨m8,rfl⟩
     refine leaves_cons (f:=215) (args:=#[.pointer (some ⟨P,0,none⟩),.pointer (some ⟨E,0,none⟩)]) (by simp) (by simp[go_sem]) ?_
     obtain⟨k1,k2,k3⟩:=ST7.out.mv2 m8 h3 h4 h5
     refine(afE P E _ _ _ _ _ _ _ [] _ k2 k3 (Ne.symm h6)).mono ?_
     rintro e u' wz ⟨rfl,rfl,x,x1,x2,x3,x4⟩
     have y0:wz.cell? ⟨P,0,none⟩=some (.string (S [])):=by rw[cell_of_row wz P 0 _ _ _ x1];rfl
     have y1:wz.cell? ⟨P,1,none⟩=some (.string (S [])):=by rw[cell_of_row wz P 1 _ _ _ x1];rfl
     have y2:wz.cell? ⟨P,2,none⟩=some (.slice none 0 0):=by rw[cell_of_row wz P 2 _ _ _ x1];rfl
     have y3:wz.cell? ⟨P,3,none⟩=some (.string (S [])):=by rw[cell_of_row wz P 3 _ _ _ x1];rfl
     have y4:wz.cell? ⟨E,0,none⟩=some x:=by rw[cell_of_row wz E 0 _ _ _ x2];rfl
     simp[Leaves,settle,results,Tryz.results192,go_sem,y0,y1,y2,y3,y4]
     exact⟨_,rfl,UH.no (aox HB.out HNM.out HP.out) x3,x4 w k1 h1 h2⟩
    |ok pt=>
     obtain⟨ps,t3⟩:=pt
     have HP:=hid hp
     clear hp
     go_wp2_with fail
     refine(HPM.out wc R t2 _ HNM.out ST7.out.rr).mono ?_
     rw[HP.out]
     rintro e w8 ⟨m8,pv,rfl,hv,h8'⟩
     have st8:=ST7.out.mv m8 h8' h3 h4 h5
     have c82:w8.cell? ⟨P,2,none⟩=some (.slice none 0 0):=by rw[cell_of_row w8 P 2 _ _ _ st8.pp];rfl
     have z82:w8.frozen? ⟨P,2,none⟩=false:=frozen_of_row w8 P 2 _ _ st8.pp
     have ov:ad5 w8 wc.heap.size pv ps:=hv
     have HWC:=hid ST7.out.gg.size
     obtain⟨pa,pc,rfl⟩:∃a c,pv=.slice a ps.length c:=by obtain⟨_,_,_,h⟩:=ov;exact agO h
     have st9:ajL w (w8.setCell ⟨P,2,none⟩ (.slice pa ps.length pc)) P E R s cf g m (.slice pa ps.length pc) [] t3:=st8.put h1 h4 h6 rfl
     have ST9:=hid st9
     have OV9:=hid (ov.kept (afi w8 P 2 (.slice pa ps.length pc)) hPl)
     have hRl:R<wc.heap.size:=ST7.out.rr.lt
     have hEl:E<wc.heap.size:=UI ST7.out.ee
     clear st8 st9 m8 h8' hv ov
     go_upto_region 11 with fail
     generalize hw9:World.setCell _ _ _=w9
     rw[hw9]at ST9 OV9
     clear hw9 c82 z82
     cases hb:isB 58 t3 with
     |none=>
      have HD:=hid hb
      clear hb
      go_wp2_with fail
      refine(ajJ w9 R s cf t3 58 ST9.out.rr (by omega)).mono ?_
      rw[HD.out]
      rintro e w10 ⟨rfl,m10,h10⟩
      have st10:=ST9.out.mv m10 h10 h3 h4 h5
      obtain⟨p,he,ho⟩:=st10.rr
      have d1:=ho.c1
      have ST10:=hid st10
      have HPL:Hid (s.length-t3.length=p.length):=hid (by rw[he];simp)
      clear st10 m10 h10 he ho
      go_wp2_with fail
      refine(aia _ _ _ _).mono ?_
      rintro e w2 ⟨rfl,rfl⟩
      rw[←HPL.out]
      refine leaves_cons (f:=215) (args:=#[.pointer (some ⟨P,0,none⟩),.pointer (some ⟨E,0,none⟩)]) (by simp) (by simp[go_sem]) ?_
      obtain⟨k1,k2,k3⟩:=(⟨ST10.out.gg,ST10.out.pp,ST10.out.ee⟩:_∧_∧_)
      refine(afE P E _ _ _ _ _ _ _ [] _ k2 k3 (Ne.symm h6)).mono ?_
      rintro e u' wz ⟨rfl,rfl,x,x1,x2,x3,x4⟩
      have y0:wz.cell? ⟨P,0,none⟩=some (.string (S [])):=by rw[cell_of_row wz P 0 _ _ _ x1];rfl
      have y1:wz.cell? ⟨P,1,none⟩=some (.string (S [])):=by rw[cell_of_row wz P 1 _ _ _ x1];rfl
      have y2:wz.cell? ⟨P,2,none⟩=some (.slice none 0 0):=by rw[cell_of_row wz P 2 _ _ _ x1];rfl
      have y3:wz.cell? ⟨P,3,none⟩=some (.string (S [])):=by rw[cell_of_row wz P 3 _ _ _ x1];rfl
      have y4:wz.cell? ⟨E,0,none⟩=some x:=by rw[cell_of_row wz E 0 _ _ _ x2];rfl
      simp[Leaves,settle,results,Tryz.results192,go_sem,y0,y1,y2,y3,y4]
      exact⟨_,rfl,UH.no (ap1 HB.out HNM.out HP.out HD.out) x3,x4 w k1 h1 h2⟩
     |some r=>
      have HD:=hid hb
      have HH:=hid (atu HNM.out HP.out hb)
      clear hb
      go_wp2_with fail
      refine(ajJ w9 R s cf t3 58 ST9.out.rr (by omega)).mono ?_
      rw[HD.out]
      rintro e w10 ⟨rfl,m10,h10⟩
      have st10:=ST9.out.mv m10 h10 h3 h4 h5
      have OV10:=hid (OV9.out.kept m10 hRl)
      obtain⟨p,he,ho⟩:=st10.rr
      have d1:=ho.c1
      have d0:=ho.c0
      have ST10:=hid st10
      have HE:=hid he
      have hsl:s.length=p.length+r.length:=by rw[he];simp
      clear st10 m10 h10 he ho
      go_wp2_with fail
      have hcutr:(s.take (p.length+r.length)).drop p.length=r:=art (p:=p) (a:=r) (b:=[]) (by have:=HE.out;simpa using this)
      have hpl:p.length≤s.length:=by omega
      go_loop [8] (fun i=>∃a b:L8,r=a++b∧(∀x∈a,agP x=false)∧i=.int .i64 ((p.length+a.length:Nat):Int)) (fun i=>s.length-(intOf i).toNat)
      case atStart=>exact⟨[],r,rfl,by simp,by simp⟩
      case round=>
       obtain⟨a,b,hr,ha,rfl⟩:=hrel
       have hrl:r.length=a.length+b.length:=by rw[hr];simp
       obtain⟨k,hk⟩:∃k,k=p.length+a.length:=⟨_,rfl⟩
       rw[←hk]
       have HR:=hid hr
       have HA:=hid ha
       have HK:=hid hk
       have hks:s.length=k+b.length:=by omega
       clear hr ha hrl hk
       cases b with
       |cons x b=>
        have hlt:k<s.length:=by simp at hks;omega
        have hlti:(k:Int)<(s.length:Int):=by omega
        have hgx:s[k]'hlt=x:=by
         have e1:=HE.out
         have e2:=HK.out
         have e3:=HR.out
         subst e2;subst e1;subst e3
         simp
        have hct:=fun W=>akU x W
        have HKS:=hid hks
        clear hks
        cases hcc:agP x with
        |true=>
         rw[hcc]at hct
         have HCT:=hid hct
         have HPE:Hid (acZ cf s=.error (3,k)):=hid (by
          have hf:r.findIdx? agP=some a.length:=by
           rw[HR.out,List.findIdx?_append]
           have:a.findIdx? agP=none:=by rw[List.findIdx?_eq_none_iff];exact HA.out
           rw[this]
           simp[List.findIdx?_cons,hcc]
          rw[atv HB.out HH.out hf,HK.out]
          congr 2
          have e2:=HK.out
          omega)
         clear hct hcc
         go_wp2_with fail
         refine(HCT.out _).use ?_
         go_wp2_with fail
         refine(aia _ _ _ _).mono ?_
         rintro e w2 ⟨rfl,rfl⟩
         refine leaves_cons (f:=215) (args:=#[.pointer (some ⟨P,0,none⟩),.pointer (some ⟨E,0,none⟩)]) (by simp) (by simp[go_sem]) ?_
         obtain⟨k1,k2,k3⟩:=(⟨ST10.out.gg,ST10.out.pp,ST10.out.ee⟩:_∧_∧_)
         refine(afE P E _ _ _ _ _ _ _ [] _ k2 k3 (Ne.symm h6)).mono ?_
         rintro e u' wz ⟨rfl,rfl,x,x1,x2,x3,x4⟩
         have y0:wz.cell? ⟨P,0,none⟩=some (.string (S [])):=by rw[cell_of_row wz P 0 _ _ _ x1];rfl
         have y1:wz.cell? ⟨P,1,none⟩=some (.string (S [])):=by rw[cell_of_row wz P 1 _ _ _ x1];rfl
         have y2:wz.cell? ⟨P,2,none⟩=some (.slice none 0 0):=by rw[cell_of_row wz P 2 _ _ _ x1];rfl
         have y3:wz.cell? ⟨P,3,none⟩=some (.string (S [])):=by rw[cell_of_row wz P 3 _ _ _ x1];rfl
         have y4:wz.cell? ⟨E,0,none⟩=some x:=by rw[cell_of_row wz E 0 _ _ _ x2];rfl
         simp[Leaves,settle,results,Tryz.results192,go_sem,y0,y1,y2,y3,y4]
         exact⟨_,rfl,UH.no (HPE.out) x3,x4 w k1 h1 h2⟩
        |false=>
         rw[hcc]at hct
         have HCT:=hid hct
         have HCC:=hid hcc
         clear hct hcc
         go_wp2_with fail
         refine(HCT.out _).use ?_
         go_wp2_with fail
         go_round
         case rel=>
          refine⟨a++[x],b,by rw[HR.out];simp,fun y hy=>?_,by rw[HK.out];simp;omega⟩
          rcases List.mem_append.1 hy with hy|hy
          ·exact HA.out y hy
          ·simp at hy;rw[hy];exact HCC.out
         case measure=>simp[intOf];omega
       |nil=>
        have hno:¬(k:Int)<(s.length:Int):=by simp at hks;omega
        have hno2:¬k<s.length:=by simp at hks;omega
        have HPG:Hid (acZ cf s=.ok ⟨⟨g,m,ps⟩,r⟩):=hid (arv HB.out HH.out (by
         rw[List.findIdx?_eq_none_iff]
         have e:=HR.out
         rw[List.append_nil]at e
         rw[e];exact HA.out))
        have st10:=ST10.out
        have c103:w10.cell? ⟨P,3,none⟩=some (.string (S [])):=by rw[cell_of_row w10 P 3 _ _ _ st10.pp];rfl
        have z103:w10.frozen? ⟨P,3,none⟩=false:=frozen_of_row w10 P 3 _ _ st10.pp
        have st11:ajL w (w10.setCell ⟨P,3,none⟩ (.string (S r))) P E R s cf g m (.slice pa ps.length pc) r r:=st10.put h1 h4 h6 rfl
        have ST11:=hid st11
        have OV11:=hid (OV10.out.kept (afi w10 P 3 (.string (S r))) hPl)
        clear st10 st11 hks
        go_upto_region 19 with fail
        generalize hw11:World.setCell _ _ _=w11
        rw[hw11]at ST11 OV11
        clear hw11 c103 z103
        have st:=ST11.out
        have c0:w11.cell? ⟨P,0,none⟩=some (.string (S g)):=by rw[cell_of_row w11 P 0 _ _ _ st.pp];rfl
        have c1:w11.cell? ⟨P,1,none⟩=some (.string (S m)):=by rw[cell_of_row w11 P 1 _ _ _ st.pp];rfl
        have c2:w11.cell? ⟨P,2,none⟩=some (.slice pa ps.length pc):=by rw[cell_of_row w11 P 2 _ _ _ st.pp];rfl
        have c3:w11.cell? ⟨P,3,none⟩=some (.string (S r)):=by rw[cell_of_row w11 P 3 _ _ _ st.pp];rfl
        have ce:w11.cell? ⟨E,0,none⟩=some .nilIface:=by rw[cell_of_row w11 E 0 _ _ _ st.ee];rfl
        have zp:=fun j=>frozen_of_row w11 P j _ _ st.pp
        have ze:=frozen_of_row w11 E 0 _ _ st.ee
        clear st
        have h6b:¬P=E:=fun e=>h6 e.symm
        go_wp2_with fail
        obtain⟨W,hW⟩:∃W,W=(((((w11.setCell ⟨P,0,none⟩ (.string (S g))).setCell ⟨P,1,none⟩ (.string (S m))).setCell ⟨P,2,none⟩ (.slice pa ps.length pc)).setCell ⟨P,3,none⟩ (.string (S r))).setCell ⟨E,0,none⟩ .nilIface):=⟨_,rfl⟩
        rw[←hW]
        have kP:W.heap[P]?=some (.cells #[.string (S g),.string (S m),.slice pa ps.length pc,.string (S r)] 109):=by
         rw[hW,Below.heap_setCell _ _ _ _ h6b]
         exact UJ (UJ (UJ (UJ ST11.out.pp rfl) rfl) rfl) rfl
        have kE:W.heap[E]?=some (.cells #[.nilIface] 28):=by
         rw[hW]
         refine UJ (i:=0) (cs:=#[.nilIface]) ?_ rfl
         rw[Below.heap_setCell _ _ _ _ h6,Below.heap_setCell _ _ _ _ h6,Below.heap_setCell _ _ _ _ h6,Below.heap_setCell _ _ _ _ h6]
         exact ST11.out.ee
        have kG:G w W:=by
         rw[hW]
         exact Below.setCell (Below.setCell (Below.setCell (Below.setCell (Below.setCell ST11.out.gg.below h1 _) h1 _) h1 _) h1 _) h2 _
        have kO:ad5 W wc.heap.size (.slice pa ps.length pc) ps:=by
         rw[hW]
         exact((((OV11.out.kept (afi _ _ _ _) hPl).kept (afi _ _ _ _) hPl).kept (afi _ _ _ _) hPl).kept (afi _ _ _ _) hPl).kept (afi _ _ _ _) hEl
        clear hW c0 c1 c2 c3 ce zp ze
        refine leaves_cons (f:=215) (args:=#[.pointer (some ⟨P,0,none⟩),.pointer (some ⟨E,0,none⟩)]) (by simp) (by simp[go_sem]) ?_
        refine(ars ⟨P,0,none⟩ ⟨E,0,none⟩ W).mono ?_
        rintro e u' wz ⟨rfl,rfl,rfl⟩
        have y0:wz.cell? ⟨P,0,none⟩=some (.string (S g)):=by rw[cell_of_row wz P 0 _ _ _ kP];rfl
        have y1:wz.cell? ⟨P,1,none⟩=some (.string (S m)):=by rw[cell_of_row wz P 1 _ _ _ kP];rfl
        have y2:wz.cell? ⟨P,2,none⟩=some (.slice pa ps.length pc):=by rw[cell_of_row wz P 2 _ _ _ kP];rfl
        have y3:wz.cell? ⟨P,3,none⟩=some (.string (S r)):=by rw[cell_of_row wz P 3 _ _ _ kP];rfl
        have y4:wz.cell? ⟨E,0,none⟩=some .nilIface:=by rw[cell_of_row wz E 0 _ _ _ kE];rfl
        simp[Leaves,settle,results,Tryz.results192,go_sem,y0,y1,y2,y3,y4]
        exact⟨_,rfl,UH.yes (p:=⟨⟨g,m,ps⟩,r⟩) HPG.out HWC.out kO,kG⟩
end Go.Proofs.YtmffejnigppbpaaGreatDoor
