/-
  Texts merged into one: Zone, ZoneF, When, Tell.
-/
import Derived.Test.YtmffejnigppbpaaGreatDoorDXMA59
import Derived.Laws.NewBlocks
import Derived.LaidEql
import Derived.Stop.Asserts
import Derived.RowKitTokens
set_option linter.unusedVariables false
set_option linter.unusedSimpArgs false
set_option maxHeartbeats 400000
set_option maxRecDepth 100000
namespace Go.Proofs.YtmffejnigppbpaaGreatDoor
open Go.RowKit
def adF(n:Int):Bool:=decide (-840≤n)&&decide (n≤840)
theorem aeq(n:Int)(w:World):adV 164 #[.int .i64 n] w (.bool (adF n)):=by
 by_cases h1 : -840≤n<;>by_cases h2:n≤840
 all_goals
  go_enter Tryz.func164,Tryz.ntmps164
  go_wp2
  go_ret
  exact⟨zF (by simp[adF,h1,h2]),rfl⟩
def aiw(n:Int):List UInt8:=[UInt8.ofNat (48+n/10).toNat,UInt8.ofNat (48+n%10).toNat]
@[simp,go_sem] theorem ax4(n:Int):(aiw n).length=2:=rfl
theorem alJ(n:Int)(w:World)(h0:0≤n)(h1:n≤99):Um 202 #[.int .i64 n] w (.string (S (aiw n))):=by
 go_enter Tryz.func202,Tryz.ntmps202
 go_wp2
 go_ret
 exact⟨rfl,(G.refl _).alloc _⟩
def adA(n:Int):List UInt8:=if n=0 then[90] else if n<0 then 45::(aiw ((-n)/60)++aiw ((-n)%60))else 43::(aiw (n/60)++aiw (n%60))
theorem aiS(n:Int)(w:World)(h:adF n=true):Um 170 #[.int .i64 n] w (.tuple #[.string (S (adA n)),.nilIface]):=by
 have hb : -840≤n∧n≤840:=by simpa[adF]using h
 by_cases h0:n=0
 ·subst h0
  go_enter Tryz.func170,Tryz.ntmps170
  go_wp2_with fail
  refine(aeq _ _).use ?_
  rw[h]
  go_wp2_with fail
  go_ret2
  exact⟨rfl,(by repeat (first|exact G.refl _|assumption|apply G.drew|apply G.drewN|apply G.alloc|refine G.trans ?_ (by assumption)))⟩
 ·by_cases h1:n<0
  ·obtain⟨m,rfl⟩:∃m,n = -m:=⟨-n,by omega⟩
   have h3:0<m:=by omega
   have h4:m≤840:=by omega
   have HP:Hid (adA (-m)=45::(aiw (m/60)++aiw (m%60))):=hid (by unfold adA;rw[if_neg h0,if_pos h1];simp)
   clear hb
   go_enter Tryz.func170,Tryz.ntmps170
   go_wp2_with fail
   refine(aeq _ _).use ?_
   rw[h]
   go_wp2_with fail
   refine(alJ (m/60) _ (by omega) (by omega)).use ?_;intro w1 g1
   go_wp2_with fail
   refine(alJ (m%60) _ (by omega) (by omega)).use ?_;intro w2 g2
   go_wp2_with fail
   go_ret2
   exact⟨by rw[HP.out];rfl,(by repeat (first|exact G.refl _|assumption|apply G.drew|apply G.drewN|apply G.alloc|refine G.trans ?_ (by assumption)))⟩
  ·have HP:Hid (adA n=43::(aiw (n/60)++aiw (n%60))):=hid (by unfold adA;rw[if_neg h0,if_neg h1])
   go_enter Tryz.func170,Tryz.ntmps170
   go_wp2_with fail
   refine(aeq _ _).use ?_
   rw[h]
   go_wp2_with fail
   refine(alJ (n/60) _ (by omega) (by omega)).use ?_;intro w1 g1
   go_wp2_with fail
   refine(alJ (n%60) _ (by omega) (by omega)).use ?_;intro w2 g2
   go_wp2_with fail
   go_ret2
   exact⟨by rw[HP.out];rfl,(by repeat (first|exact G.refl _|assumption|apply G.drew|apply G.drewN|apply G.alloc|refine G.trans ?_ (by assumption)))⟩
def ay6(x:UInt8)(n d2:Int):Int×Int:=if 5<d2∨840<n then(0,2)else if x=45 then(-n,0)else(n,0)
def ax5(x:UInt8):Bool:=x==43||x==45
def dgP(c:UInt8):Prop:=48≤(c.toNat:Int)∧(c.toNat:Int)≤57
instance (c:UInt8):Decidable (dgP c):=by unfold dgP;infer_instance
def ay7(a b c d:UInt8):Int:=60*(10*((a.toNat:Int)-48)+((b.toNat:Int)-48))+10*((c.toNat:Int)-48)+((d.toNat:Int)-48)
def ayG:List UInt8→Int×Int
 |[x,a,b]=>if ax5 x=true then(if dgP a∧dgP b then ay6 x (60*(10*((a.toNat:Int)-48)+((b.toNat:Int)-48))) 0 else(0,3))else(0,3)
 |[x,a,b,c,d]=>if ax5 x=true then(if (dgP a∧dgP b)∧dgP c∧dgP d then ay6 x (ay7 a b c d) ((c.toNat:Int)-48)else(0,3))else(0,3)
 |_=>(0,3)
def aji(l:List UInt8):Int×Int:=if l=[90] then(0,0)else ayG l
def apj(c:Int):Value:=if c=0 then .nilIface else eno c
end Go.Proofs.YtmffejnigppbpaaGreatDoor

namespace Go.Proofs.YtmffejnigppbpaaGreatDoor
open Go.RowKit
theorem als:(List.range 1681).all (fun k=>decide (aji (adA ((k:Int)-840))=((k:Int)-840,0)))=true:=by decide +kernel
theorem alf(n:Int)(h:adF n=true):aji (adA n)=(n,0):=by
 have hb : -840≤n∧n≤840:=by simpa[adF]using h
 have:=List.all_eq_true.1 als (n+840).toNat (by simp;omega)
 have e:(((n+840).toNat:Nat):Int)-840=n:=by omega
 rw[e]at this
 exact of_decide_eq_true this
theorem aup(n:Int):(adA n).length≤5:=by
 unfold adA;split
 ·simp
 ·split<;>simp
end Go.Proofs.YtmffejnigppbpaaGreatDoor

set_option maxHeartbeats 4000000
set_option maxRecDepth 100000
namespace Go.Proofs.YtmffejnigppbpaaGreatDoor
open Go.RowKit
def dgF(n:Int):UInt8:=if n = -1 then 45 else 57
def uX(a b c:Int):List UInt8:=[dgF a,dgF b,dgF c]
theorem ae6:dgF (-1)=45:=rfl
theorem ac0{n:Int}(h:n ≠ -1):dgF n=57:=if_neg h
theorem akb(a b c:Int)(q:Nat)(w:World)(h0:w.cell? ⟨q,0,none⟩=some (.int .i64 a))(h1:w.cell? ⟨q,1,none⟩=some (.int .i64 b))(h2:w.cell? ⟨q,2,none⟩=some (.int .i64 c))(hq:q<w.heap.size) :
  Um 195 #[.slice (some ⟨q,0,none⟩) 3 3] w (.string (S (uX a b c))):=by
 have hmk:∀w,(Instr.makeSlice 122 (.int .i64 3) (.int .i64 3)).run Tryz.prog w=.ok (.slice (some ⟨w.heap.size,0,none⟩) 3 3) (w.alloc (.cells #[.int .u8 0,.int .u8 0,.int .u8 0] 5)):=fun _=>by kernel_rfl
 have HF:Hid (uX a b c=[dgF a,dgF b,dgF c]):=hid rfl
 have e0:¬q=w.heap.size:=by omega
 have ba:a = -1∧(a != -1)=false∨a ≠ -1∧(a != -1)=true:=by by_cases h:a = -1;exact .inl ⟨h,by simp[h]⟩;exact .inr ⟨h,by simpa[bne_iff_ne]using h⟩
 have bb:b = -1∧(b != -1)=false∨b ≠ -1∧(b != -1)=true:=by by_cases h:b = -1;exact .inl ⟨h,by simp[h]⟩;exact .inr ⟨h,by simpa[bne_iff_ne]using h⟩
 have bc:c = -1∧(c != -1)=false∨c ≠ -1∧(c != -1)=true:=by by_cases h:c = -1;exact .inl ⟨h,by simp[h]⟩;exact .inr ⟨h,by simpa[bne_iff_ne]using h⟩
 rcases ba with⟨xa,ba⟩|⟨xa,ba⟩<;>rcases bb with⟨xb,bb⟩|⟨xb,bb⟩<;>rcases bc with⟨xc,bc⟩|⟨xc,bc⟩
 all_goals
  have XA:=hid xa
  have XB:=hid xb
  have XC:=hid xc
  clear xa xb xc
  go_enter Tryz.func195,Tryz.ntmps195
  go_wp2
  refine wp_loop_rounds 4 ?_
  rw[rounds_succ]
  go_wp2
  rw[rounds_succ]
  go_wp2
  rw[rounds_succ]
  go_wp2
  rw[rounds_succ]
  go_wp2
  go_ret
  refine⟨?_,(G.refl _).alloc _⟩
  rw[HF.out]
  simp only[dgF,XA.out,XB.out,XC.out,if_true,if_false]
  rfl
def wth(n a b:Int):Bool:=decide (n = -1)||(decide (a≤n)&&decide (n≤b))
theorem adD(n a b:Int)(w:World):adV 198 #[.int .i64 n,.int .i64 a,.int .i64 b] w (.bool (wth n a b)):=by
 by_cases h1:n = -1
 ·subst h1
  go_enter Tryz.func198,Tryz.ntmps198
  go_wp2
  go_ret
  exact⟨zF (by simp[wth]),rfl⟩
 ·have b1:(n == -1)=false:=by simpa using h1
  by_cases h2:a≤n<;>by_cases h3:n≤b
  all_goals
   go_enter Tryz.func198,Tryz.ntmps198
   go_wp2
   go_ret
   exact⟨zF (by simp[wth,h1,h2,h3]),rfl⟩
def ahY(y m:Int):Int:=
 if m<1∨12<m then 0
 else if m=2∧y ≠ -1∧(y.tmod 4≠0∨y.tmod 100=0∧y.tmod 400≠0)then 28
 else if m=2 then 29
 else if m=4∨m=6∨m=9∨m=11 then 30 else 31
theorem av6(y m:Int)(w:World)(hy : -9223372036854775808≤y∧y≤9223372036854775807):adV 197 #[.int .i64 y,.int .i64 m] w (.int .i64 (ahY y m)):=by
 by_cases h0:m<1∨12<m
 ·have HR:Hid (ahY y m=0):=hid (by unfold ahY;rw[if_pos h0])
  by_cases h1:m<1
  ·clear h0
   go_enter Tryz.func197,Tryz.ntmps197
   go_wp2
   go_ret
   exact⟨adZ HR.out.symm,rfl⟩
  ·have h2:12<m:=by omega
   clear h0
   go_enter Tryz.func197,Tryz.ntmps197
   go_wp2
   go_ret
   exact⟨adZ HR.out.symm,rfl⟩
 ·have hm:1≤m∧m≤12:=by omega
  obtain⟨hm1,hm2⟩:=hm
  by_cases h2:m=2
  ·subst h2
   by_cases hy1:y = -1
   ·subst hy1
    go_enter Tryz.func197,Tryz.ntmps197
    go_wp2
    go_ret
    exact⟨rfl,rfl⟩
   ·have b1:(y != -1)=true:=by simpa[bne_iff_ne]using hy1
    have q4:(y.tmod 4 != 0)=true∧y.tmod 4≠0∨(y.tmod 4 != 0)=false∧y.tmod 4=0:=by by_cases h:y.tmod 4=0;exact .inr ⟨by simp[h],h⟩;exact .inl ⟨by simpa[bne_iff_ne]using h,h⟩
    have q100:(y.tmod 100==0)=true∧y.tmod 100=0∨(y.tmod 100==0)=false∧y.tmod 100≠0:=by by_cases h:y.tmod 100=0;exact .inl ⟨by simp[h],h⟩;exact .inr ⟨by simpa using h,h⟩
    have q400:(y.tmod 400 != 0)=true∧y.tmod 400≠0∨(y.tmod 400 != 0)=false∧y.tmod 400=0:=by by_cases h:y.tmod 400=0;exact .inr ⟨by simp[h],h⟩;exact .inl ⟨by simpa[bne_iff_ne]using h,h⟩
    rcases q4 with⟨b4,q4⟩|⟨b4,q4⟩<;>rcases q100 with⟨b100,q100⟩|⟨b100,q100⟩<;>rcases q400 with⟨b400,q400⟩|⟨b400,q400⟩
    all_goals
     have HR:Hid (ahY y 2=if y.tmod 4≠0∨y.tmod 100=0∧y.tmod 400≠0 then 28 else 29):=hid (by unfold ahY;rw[if_neg (by omega)];by_cases h:y.tmod 4≠0∨y.tmod 100=0∧y.tmod 400≠0<;>simp[h,hy1])
     have Q4:=hid q4
     have Q100:=hid q100
     have Q400:=hid q400
     clear q4 q100 q400 hm1 hm2 h0 hy1
     go_enter Tryz.func197,Tryz.ntmps197
     go_wp2
     go_ret
     refine⟨adZ ?_,rfl⟩
     rw[HR.out]
     simp[Q4.out,Q100.out,Q400.out]
  ·have b2:(m==2)=false:=by simpa using h2
   have hm3:m=1∨m=3∨m=4∨m=5∨m=6∨m=7∨m=8∨m=9∨m=10∨m=11∨m=12:=by omega
   clear h0 h2 b2
   rcases hm3 with rfl|rfl|rfl|rfl|rfl|rfl|rfl|rfl|rfl|rfl|rfl
   all_goals
    go_enter Tryz.func197,Tryz.ntmps197
    go_wp2
    go_ret
    exact⟨rfl,rfl⟩
def Jb(n:Int):Nat→List UInt8
 |0=>[]
 |k+1=>Jb (n/10) k++[UInt8.ofNat (48+n%10).toNat]
theorem uS(k:Nat):∀n,(Jb n k).length=k:=by
 induction k with
 |zero=>intro n;rfl
 |succ k ih=>intro n;simp[Jb,ih]
theorem ahZ(n:Int)(w:World)(h0:0≤n)(h1:n≤9999):Um 201 #[.int .i64 n,.int .i64 2] w (.string (S (Jb n 2))):=by
 have hmk:∀w,(Instr.makeSlice 122 (.int .i64 2) (.int .i64 2)).run Tryz.prog w=.ok (.slice (some ⟨w.heap.size,0,none⟩) 2 2) (w.alloc (.cells #[.int .u8 0,.int .u8 0] 5)):=fun _=>by kernel_rfl
 go_enter Tryz.func201,Tryz.ntmps201
 go_wp2
 refine wp_loop_rounds 3 ?_
 rw[rounds_succ]
 go_wp2
 rw[rounds_succ]
 go_wp2
 rw[rounds_succ]
 go_wp2
 go_ret
 exact⟨rfl,(G.refl _).alloc _⟩
theorem alc(n:Int)(w:World)(h0:0≤n)(h1:n≤9999):Um 201 #[.int .i64 n,.int .i64 4] w (.string (S (Jb n 4))):=by
 have hmk:∀w,(Instr.makeSlice 122 (.int .i64 4) (.int .i64 4)).run Tryz.prog w=.ok (.slice (some ⟨w.heap.size,0,none⟩) 4 4) (w.alloc (.cells #[.int .u8 0,.int .u8 0,.int .u8 0,.int .u8 0] 5)):=fun _=>by kernel_rfl
 go_enter Tryz.func201,Tryz.ntmps201
 go_wp2
 refine wp_loop_rounds 5 ?_
 rw[rounds_succ]
 go_wp2
 rw[rounds_succ]
 go_wp2
 rw[rounds_succ]
 go_wp2
 rw[rounds_succ]
 go_wp2
 rw[rounds_succ]
 go_wp2
 go_ret
 exact⟨rfl,(G.refl _).alloc _⟩
end Go.Proofs.YtmffejnigppbpaaGreatDoor

set_option maxHeartbeats 4000000
set_option maxRecDepth 100000
namespace Go.Proofs.YtmffejnigppbpaaGreatDoor
open Go.RowKit Go.Extern.Stop Go.Stop Go.Extern
noncomputable def hA(t:TypeId):Addr:=⟨Tryz.prog.globals.size,t,none⟩
def UO(w:World):Prop:=w.cell? ⟨1,0,none⟩=some (.iface 213 (.agg #[(.pointer (some (hA 28)))]))
theorem UO.lt{w:World}(h:UO w):1<w.heap.size:=by
 rcases Nat.lt_or_ge 1 w.heap.size with h1|h1
 ·exact h1
 ·unfold UO at h;simp[World.cell?,Array.getElem?_eq_none h1]at h
theorem UO.grow{w w':World}(h:UO w)(g:G w w'):UO w':=by
 unfold UO;rw[g.cell h.lt];exact h
theorem rl.valueOfP(t:Addr)(w:World):(ReflectliteValue.unpack (.iface 106 (.pointer (some t)))).run Tryz.prog w
  = .ok (.agg #[(.pointer (some (hA 106))),.pointer (some ⟨w.heap.size,0,none⟩),.int .u64 150]) (w.alloc (.cells #[.pointer (some t)] 106)):=by kernel_rfl
theorem rl.typeP(a : Addr)(w : World) : (ReflectliteValue.methodAny (ReflectliteValue.valueError "reflectlite.Value.Type" 0) (fun t _ _ _ => ReflectliteType.toType t) #[.agg #[(.pointer (some (hA 106))), .pointer (some a), .int .u64 150]]).run Tryz.prog w
  = .ok (.iface 213 (.agg #[(.pointer (some (hA 106)))])) w:=by kernel_rfl
theorem rl.kindP(w:World):((ReflectliteType.abiMethod fun t=>(fun a:Nat=>Value.int IntKind.u8 (a:Int)) <$> Rtype.kind t) #[(.pointer (some (hA 106)))]).run Tryz.prog w=.ok (.int .u8 22) w:=by kernel_rfl
theorem rl.kindE(w:World):((ReflectliteType.abiMethod fun t=>(fun a:Nat=>Value.int IntKind.u8 (a:Int)) <$> Rtype.kind t) #[(.pointer (some (hA 58)))]).run Tryz.prog w=.ok (.int .u8 2) w:=by kernel_rfl
theorem rl.rlm(z:Sem Value)(f:TypeId→Addr→Nat→Nat→Sem Value)(v:Value) :
  ReflectliteValue.method z f #[v]=(do match ←ReflectliteValue.parts v with|none=>z|some (t,a,fl)=>f t a fl (fl%32)):=rfl
theorem rl.partsP(a:Addr)(w:World):(ReflectliteValue.parts (.agg #[(.pointer (some (hA 106))),.pointer (some a),.int .u64 150])).run Tryz.prog w=.ok (some (106,a,150)) w:=by kernel_rfl
theorem rl.isNilP(a p:Addr)(W:World)(ha:W.cell? a=some (.pointer (some p))) :
  (ReflectliteValue.method (ReflectliteValue.valueError "reflectlite.Value.IsNil" 0) ReflectliteValue.isNil #[.agg #[(.pointer (some (hA 106))), .pointer (some a), .int .u64 150]]).run Tryz.prog W = .ok (.bool false) W := by
 rw[rl.rlm]
 simp only[Sem.run_bind,rl.partsP,Result.andThen]
 simp[ReflectliteValue.isNil,loadVar,isAgg,underlying,Tryz.underlying106,ha,Result.andThen]
theorem rl.elemP(w:World):(ReflectliteType.method ReflectliteType.elem #[.agg #[(.pointer (some (hA 106)))]]).run Tryz.prog w=.ok (.iface 213 (.agg #[(.pointer (some (hA 58)))])) w:=by kernel_rfl
theorem rl.implE(w : World) : (ReflectliteType.relation "Implements" ReflectliteType.implements_ #[.agg #[(.pointer (some (hA 58)))], .iface 213 (.agg #[(.pointer (some (hA 28)))])]).run Tryz.prog w = .ok (.bool true) w := by kernel_rfl
theorem rl.typeOfE(v:Value)(w:World):(ReflectliteType.typeOf #[.iface 58 v]).run Tryz.prog w=.ok (.iface 213 (.agg #[(.pointer (some (hA 58)))])) w:=by kernel_rfl
theorem rl.typeOfA(v:Value)(w:World):(ReflectliteType.typeOf #[.iface 80 v]).run Tryz.prog w=.ok (.iface 213 (.agg #[(.pointer (some (hA 80)))])) w:=by kernel_rfl
theorem rl.assE(w : World) : (ReflectliteType.relation "AssignableTo" ReflectliteType.assignableTo #[.agg #[(.pointer (some (hA 58)))], .iface 213 (.agg #[(.pointer (some (hA 58)))])]).run Tryz.prog w = .ok (.bool true) w := by kernel_rfl
theorem rl.assA(w : World) : (ReflectliteType.relation "AssignableTo" ReflectliteType.assignableTo #[.agg #[(.pointer (some (hA 80)))], .iface 213 (.agg #[(.pointer (some (hA 58)))])]).run Tryz.prog w = .ok (.bool false) w := by kernel_rfl
theorem rl.valueOfE(n:Int)(w:World):(ReflectliteValue.unpack (.iface 58 (.int .i64 n))).run Tryz.prog w
  = .ok (.agg #[(.pointer (some (hA 58))),.pointer (some ⟨w.heap.size,0,none⟩),.int .u64 130]) (w.alloc (.cells #[.int .i64 n] 58)):=by kernel_rfl
theorem rl.elemOfP(w:World):(Rtype.elem? 106).run Tryz.prog w=.ok (some 58) w:=by kernel_rfl
theorem rl.mkE(p:Addr)(w:World):(ReflectliteValue.mk 58 p ReflectliteValue.flagAddr).run Tryz.prog w=.ok (.agg #[(.pointer (some (hA 58))),.pointer (some p),.int .u64 386]) w:=by kernel_rfl
theorem rl.elemVP(a p:Addr)(W:World)(ha:W.cell? a=some (.pointer (some p))) :
  (ReflectliteValue.method (ReflectliteValue.valueError "reflectlite.Value.Elem" 0) ReflectliteValue.elem #[.agg #[(.pointer (some (hA 106))), .pointer (some a), .int .u64 150]]).run Tryz.prog W
   = .ok (.agg #[(.pointer (some (hA 58))),.pointer (some p),.int .u64 386]) W:=by
 rw[rl.rlm]
 simp only[Sem.run_bind,rl.partsP,Result.andThen]
 simp[ReflectliteValue.elem,loadVar,isAgg,underlying,Tryz.underlying106,ha,Result.andThen,rl.elemOfP,rl.mkE]
theorem rl.partsEa(a:Addr)(w:World):(ReflectliteValue.parts (.agg #[(.pointer (some (hA 58))),.pointer (some a),.int .u64 386])).run Tryz.prog w=.ok (some (58,a,386)) w:=by kernel_rfl
theorem rl.partsE(a:Addr)(w:World):(ReflectliteValue.parts (.agg #[(.pointer (some (hA 58))),.pointer (some a),.int .u64 130])).run Tryz.prog w=.ok (some (58,a,130)) w:=by kernel_rfl
theorem rl.rls(v x:Value):ReflectliteValue.set #[v,x]=(do
  let (some (dst,a,fl),some (src,b,_)):=(←ReflectliteValue.parts v,←ReflectliteValue.parts x)
   | unsupported (.noEntry "extern/(internal/reflectlite.Value).Set.zeroValue")
  if fl / ReflectliteValue.flagAddr % 2 == 0 then unsupported (.noEntry "extern/(internal/reflectlite.Value).Set.unaddressable")
  let val ←loadVar src b
  if ←Rtype.directlyAssignable dst src then storeVar dst a val
  else if ←Rtype.implements dst src then
   if (←Rtype.kind src)==20 then
    match val with
    | .nilIface => unsupported (.noEntry "extern/reflectlite: a nil value of one interface type handed on as a value of another")
    |_=>storeVar dst a val
   else storeVar dst a (.iface src val)
  else panicString ("reflectlite.Set: value of type " ++ (← Rtype.spelt src) ++ " is not assignable to type " ++ (← Rtype.spelt dst))
  pure (.tuple #[])):=rfl
theorem rl.directE(w:World):(Rtype.directlyAssignable 58 58).run Tryz.prog w=.ok true w:=by kernel_rfl
theorem rl.setE(ta b:Addr)(n:Int)(old:Value)(W:World)(hb:W.cell? b=some (.int .i64 n))(ht:W.cell? ta=some old)(hf:W.frozen? ta=false) :
  (ReflectliteValue.set #[.agg #[(.pointer (some (hA 58))),.pointer (some ta),.int .u64 386],.agg #[(.pointer (some (hA 58))),.pointer (some b),.int .u64 130]]).run Tryz.prog W
   = .ok (.tuple #[]) (W.setCell ta (.int .i64 n)):=by
 rw[rl.rls]
 simp only[Sem.run_bind,rl.partsEa,rl.partsE,Result.andThen]
 simp[ReflectliteValue.flagAddr,loadVar,isAgg,underlying,Tryz.underlying58,hb,Result.andThen,rl.directE,storeVar,Value.cells,storeCells,Addr.add]
 rw[run_store Tryz.prog W ta _ _ (by rfl)]
 simp[ht,hf]
theorem rl.methodKind(h : Value)(w : World) : (Go.method 513 213 (.agg #[h]) "Kind").run Tryz.prog w = .ok (295, h) w := by kernel_rfl
theorem rl.methodElem(h : Value)(w : World) : (Go.method 513 213 (.agg #[h]) "Elem").run Tryz.prog w = .ok (310, .agg #[h]) w := by kernel_rfl
theorem rl.methodImplements(h : Value)(w : World) : (Go.method 513 213 (.agg #[h]) "Implements").run Tryz.prog w = .ok (311, .agg #[h]) w := by kernel_rfl
theorem rl.methodAssignableTo(h : Value)(w : World) : (Go.method 513 213 (.agg #[h]) "AssignableTo").run Tryz.prog w = .ok (308, .agg #[h]) w := by kernel_rfl
theorem rl.methodUnwrap(h : Value)(w : World) : (Go.method 513 80 h "Unwrap").run Tryz.prog w = .ok (300, h) w := by kernel_rfl
theorem rl.noAs(v:Value)(w:World):(Instr.typeAssert (.iface 80 v) 28 218 true).run Tryz.prog w=.ok (.tuple #[.nilIface,.bool false]) w:=run_typeAssert_lacksB Tryz.underlying218 (by kernel_rfl) (by kernel_rfl) v 28 w
theorem rl.unwraps(v:Value)(w:World):(Instr.typeAssert (.iface 80 v) 28 221 true).run Tryz.prog w=.ok (.tuple #[.iface 80 v,.bool true]) w:=run_typeAssert_hasB Tryz.underlying221 (by kernel_rfl) v 28 w
theorem ayr(n:Int)(t:Addr)(old:Value)(w:World)(hg:UO w)(ht0:w.cell? t=some old)(hf0:w.frozen? t=false) :
  Calls Tryz.prog 68 #[.iface 58 (.int .i64 n),.iface 106 (.pointer (some t))] w fun ev w'=>ev=.returned (.bool true)∧∃w1,G w w1∧w'=w1.setCell t (.int .i64 n):=by
 have h6:=@run_callFunc_extern Tryz.prog 114 _ (fun args=>ReflectliteValue.unpack (args.getD 0 (.tuple #[]))) Tryz.func114 (by kernel_rfl) (by kernel_rfl) (by kernel_rfl) (by kernel_rfl)
 have h7 := @run_callFunc_extern Tryz.prog 115 _ (ReflectliteValue.methodAny (ReflectliteValue.valueError "reflectlite.Value.Type" 0) (fun t _ _ _ => ReflectliteType.toType t)) Tryz.func115 (by kernel_rfl) (by kernel_rfl) (by kernel_rfl) (by kernel_rfl)
 have h8 := @run_callFunc_extern Tryz.prog 116 _ (ReflectliteValue.method (ReflectliteValue.valueError "reflectlite.Value.IsNil" 0) ReflectliteValue.isNil) Tryz.func116 (by kernel_rfl) (by kernel_rfl) (by kernel_rfl) (by kernel_rfl)
 have h37:=@run_callFunc_extern Tryz.prog 310 _ (ReflectliteType.method ReflectliteType.elem) Tryz.func310 (by kernel_rfl) (by kernel_rfl) (by kernel_rfl) (by kernel_rfl)
 have h38 := @run_callFunc_extern Tryz.prog 311 _ (ReflectliteType.relation "Implements" ReflectliteType.implements_) Tryz.func311 (by kernel_rfl) (by kernel_rfl) (by kernel_rfl) (by kernel_rfl)
 have h10:=@run_callFunc_extern Tryz.prog 165 _ ReflectliteType.typeOf Tryz.func165 (by kernel_rfl) (by kernel_rfl) (by kernel_rfl) (by kernel_rfl)
 have h35 := @run_callFunc_extern Tryz.prog 308 _ (ReflectliteType.relation "AssignableTo" ReflectliteType.assignableTo) Tryz.func308 (by kernel_rfl) (by kernel_rfl) (by kernel_rfl) (by kernel_rfl)
 have h11 := @run_callFunc_extern Tryz.prog 166 _ (ReflectliteValue.method (ReflectliteValue.valueError "reflectlite.Value.Elem" 0) ReflectliteValue.elem) Tryz.func166 (by kernel_rfl) (by kernel_rfl) (by kernel_rfl) (by kernel_rfl)
 have h12:=@run_callFunc_extern Tryz.prog 167 _ ReflectliteValue.set Tryz.func167 (by kernel_rfl) (by kernel_rfl) (by kernel_rfl) (by kernel_rfl)
 have h27:=@run_callFunc_extern Tryz.prog 295 _ (ReflectliteType.abiMethod fun t=>do pure (.int .u8 (←Rtype.kind t))) Tryz.func295 (by kernel_rfl) (by kernel_rfl) (by kernel_rfl) (by kernel_rfl)
 have f6:=rl.valueOfP
 have f7:=rl.typeP
 have mK:=rl.methodKind
 have mE:=rl.methodElem
 have mI:=rl.methodImplements
 have mA:=rl.methodAssignableTo
 have kP:=rl.kindP
 have kE:=rl.kindE
 have eP:=rl.elemP
 have iE:=rl.implE
 have tO:=rl.typeOfE
 have aE:=rl.assE
 have vE:=rl.valueOfE
 obtain⟨w1,hw1⟩:∃w1,w1=(w.alloc (.cells #[.pointer (some t)] 106)):=⟨_,rfl⟩
 have n8:=rl.isNilP ⟨w.heap.size,0,none⟩ t ((w.alloc (.cells #[.pointer (some t)] 106)).alloc (.cells #[.pointer (some (hA 106)),.pointer (some ⟨w.heap.size,0,none⟩),.int .u64 150] 158)) (by simp)
 have hlt:=hg.lt
 have hg2:((w.alloc (.cells #[.pointer (some t)] 106)).alloc (.cells #[.pointer (some (hA 106)),.pointer (some ⟨w.heap.size,0,none⟩),.int .u64 150] 158)).cell? ⟨1,0,none⟩=some (.iface 213 (.agg #[.pointer (some (hA 28))])):=by
  rw[World.cell?_alloc_lt _ _ ⟨1,0,none⟩ (Nat.lt_of_lt_of_le hlt (by simp)),World.cell?_alloc_lt _ _ ⟨1,0,none⟩ hlt];exact hg
 have htl:t.block<w.heap.size:=by
  rcases Nat.lt_or_ge t.block w.heap.size with h|h
  ·exact h
  ·simp[World.cell?,Array.getElem?_eq_none h]at ht0
 have el:=rl.elemVP ⟨w.heap.size,0,none⟩ t (((w.alloc (.cells #[.pointer (some t)] 106)).alloc (.cells #[.pointer (some (hA 106)),.pointer (some ⟨w.heap.size,0,none⟩),.int .u64 150] 158)).alloc (.cells #[.pointer (some (hA 106)),.pointer (some ⟨w.heap.size,0,none⟩),.int .u64 150] 158)) (by rw[World.cell?_alloc_lt _ _ ⟨w.heap.size,0,none⟩ (by simp;omega)];simp)
 have st:=rl.setE t ⟨w.heap.size+1+1+1,0,none⟩ n old ((((w.alloc (.cells #[.pointer (some t)] 106)).alloc (.cells #[.pointer (some (hA 106)),.pointer (some ⟨w.heap.size,0,none⟩),.int .u64 150] 158)).alloc (.cells #[.pointer (some (hA 106)),.pointer (some ⟨w.heap.size,0,none⟩),.int .u64 150] 158)).alloc (.cells #[.int .i64 n] 58))
  (by rw[World.cell?_alloc_at _ _ _ _ (by simp)];rfl)
  (by rw[World.cell?_alloc_lt _ _ t (by simp;omega),World.cell?_alloc_lt _ _ t (by simp;omega),World.cell?_alloc_lt _ _ t (by simp;omega),World.cell?_alloc_lt _ _ t htl];exact ht0)
  (by rw[World.frozen?_alloc_old _ _ t (by simp;omega),World.frozen?_alloc_old _ _ t (by simp;omega),World.frozen?_alloc_old _ _ t (by simp;omega),World.frozen?_alloc_old _ _ t (Nat.ne_of_lt htl)];exact hf0)
 clear hw1 w1
 go_enter Tryz.func68,Tryz.ntmps68
 go_wp2
 refine wp_loop_rounds 1 ?_
 rw[rounds_succ]
 go_wp2
 go_ret
 exact⟨rfl,_,(by repeat (first|exact G.refl _|assumption|apply G.drew|apply G.drewN|apply G.alloc|refine G.trans ?_ (by assumption))),rfl⟩
theorem atZ(n:Int)(b:Nat)(t:Addr)(old:Value)(w:World)(hb:w.cell? ⟨b,0,none⟩=some (.int .i64 n))(hg:UO w)(ht0:w.cell? t=some old)(hf0:w.frozen? t=false) :
  Calls Tryz.prog 68 #[.iface 80 (.pointer (some ⟨b,0,none⟩)),.iface 106 (.pointer (some t))] w fun ev w'=>ev=.returned (.bool true)∧∃w1,G w w1∧w'=w1.setCell t (.int .i64 n):=by
 have h6:=@run_callFunc_extern Tryz.prog 114 _ (fun args=>ReflectliteValue.unpack (args.getD 0 (.tuple #[]))) Tryz.func114 (by kernel_rfl) (by kernel_rfl) (by kernel_rfl) (by kernel_rfl)
 have h7 := @run_callFunc_extern Tryz.prog 115 _ (ReflectliteValue.methodAny (ReflectliteValue.valueError "reflectlite.Value.Type" 0) (fun t _ _ _ => ReflectliteType.toType t)) Tryz.func115 (by kernel_rfl) (by kernel_rfl) (by kernel_rfl) (by kernel_rfl)
 have h8 := @run_callFunc_extern Tryz.prog 116 _ (ReflectliteValue.method (ReflectliteValue.valueError "reflectlite.Value.IsNil" 0) ReflectliteValue.isNil) Tryz.func116 (by kernel_rfl) (by kernel_rfl) (by kernel_rfl) (by kernel_rfl)
 have h37:=@run_callFunc_extern Tryz.prog 310 _ (ReflectliteType.method ReflectliteType.elem) Tryz.func310 (by kernel_rfl) (by kernel_rfl) (by kernel_rfl) (by kernel_rfl)
 have h38 := @run_callFunc_extern Tryz.prog 311 _ (ReflectliteType.relation "Implements" ReflectliteType.implements_) Tryz.func311 (by kernel_rfl) (by kernel_rfl) (by kernel_rfl) (by kernel_rfl)
 have h10:=@run_callFunc_extern Tryz.prog 165 _ ReflectliteType.typeOf Tryz.func165 (by kernel_rfl) (by kernel_rfl) (by kernel_rfl) (by kernel_rfl)
 have h35 := @run_callFunc_extern Tryz.prog 308 _ (ReflectliteType.relation "AssignableTo" ReflectliteType.assignableTo) Tryz.func308 (by kernel_rfl) (by kernel_rfl) (by kernel_rfl) (by kernel_rfl)
 have h11 := @run_callFunc_extern Tryz.prog 166 _ (ReflectliteValue.method (ReflectliteValue.valueError "reflectlite.Value.Elem" 0) ReflectliteValue.elem) Tryz.func166 (by kernel_rfl) (by kernel_rfl) (by kernel_rfl) (by kernel_rfl)
 have h12:=@run_callFunc_extern Tryz.prog 167 _ ReflectliteValue.set Tryz.func167 (by kernel_rfl) (by kernel_rfl) (by kernel_rfl) (by kernel_rfl)
 have h27:=@run_callFunc_extern Tryz.prog 295 _ (ReflectliteType.abiMethod fun t=>do pure (.int .u8 (←Rtype.kind t))) Tryz.func295 (by kernel_rfl) (by kernel_rfl) (by kernel_rfl) (by kernel_rfl)
 have f6:=rl.valueOfP
 have f7:=rl.typeP
 have mK:=rl.methodKind
 have mE:=rl.methodElem
 have mI:=rl.methodImplements
 have mA:=rl.methodAssignableTo
 have kP:=rl.kindP
 have kE:=rl.kindE
 have eP:=rl.elemP
 have iE:=rl.implE
 have tO:=rl.typeOfE
 have aE:=rl.assE
 have tA:=rl.typeOfA
 have aA:=rl.assA
 have mU:=rl.methodUnwrap
 have nA:=rl.noAs
 have uA:=rl.unwraps
 have vE:=rl.valueOfE
 obtain⟨w1,hw1⟩:∃w1,w1=(w.alloc (.cells #[.pointer (some t)] 106)):=⟨_,rfl⟩
 have n8:=rl.isNilP ⟨w.heap.size,0,none⟩ t ((w.alloc (.cells #[.pointer (some t)] 106)).alloc (.cells #[.pointer (some (hA 106)),.pointer (some ⟨w.heap.size,0,none⟩),.int .u64 150] 158)) (by simp)
 have hlt:=hg.lt
 have hg2:((w.alloc (.cells #[.pointer (some t)] 106)).alloc (.cells #[.pointer (some (hA 106)),.pointer (some ⟨w.heap.size,0,none⟩),.int .u64 150] 158)).cell? ⟨1,0,none⟩=some (.iface 213 (.agg #[.pointer (some (hA 28))])):=by
  rw[World.cell?_alloc_lt _ _ ⟨1,0,none⟩ (Nat.lt_of_lt_of_le hlt (by simp)),World.cell?_alloc_lt _ _ ⟨1,0,none⟩ hlt];exact hg
 have htl:t.block<w.heap.size:=by
  rcases Nat.lt_or_ge t.block w.heap.size with h|h
  ·exact h
  ·simp[World.cell?,Array.getElem?_eq_none h]at ht0
 have hbl:b<w.heap.size:=by
  rcases Nat.lt_or_ge b w.heap.size with h|h
  ·exact h
  ·simp[World.cell?,Array.getElem?_eq_none h]at hb
 have hb2:(((w.alloc (.cells #[.pointer (some t)] 106)).alloc (.cells #[.pointer (some (hA 106)),.pointer (some ⟨w.heap.size,0,none⟩),.int .u64 150] 158)).alloc (.cells #[.pointer (some (hA 106)),.pointer (some ⟨w.heap.size,0,none⟩),.int .u64 150] 158)).cell? ⟨b,0,none⟩=some (.int .i64 n):=by
  rw[World.cell?_alloc_lt _ _ ⟨b,0,none⟩ (by simp;omega),World.cell?_alloc_lt _ _ ⟨b,0,none⟩ (by simp;omega),World.cell?_alloc_lt _ _ ⟨b,0,none⟩ hbl];exact hb
 have el:=rl.elemVP ⟨w.heap.size,0,none⟩ t (((w.alloc (.cells #[.pointer (some t)] 106)).alloc (.cells #[.pointer (some (hA 106)),.pointer (some ⟨w.heap.size,0,none⟩),.int .u64 150] 158)).alloc (.cells #[.pointer (some (hA 106)),.pointer (some ⟨w.heap.size,0,none⟩),.int .u64 150] 158)) (by rw[World.cell?_alloc_lt _ _ ⟨w.heap.size,0,none⟩ (by simp;omega)];simp)
 have st:=rl.setE t ⟨w.heap.size+1+1+1,0,none⟩ n old ((((w.alloc (.cells #[.pointer (some t)] 106)).alloc (.cells #[.pointer (some (hA 106)),.pointer (some ⟨w.heap.size,0,none⟩),.int .u64 150] 158)).alloc (.cells #[.pointer (some (hA 106)),.pointer (some ⟨w.heap.size,0,none⟩),.int .u64 150] 158)).alloc (.cells #[.int .i64 n] 58))
  (by rw[World.cell?_alloc_at _ _ _ _ (by simp)];rfl)
  (by rw[World.cell?_alloc_lt _ _ t (by simp;omega),World.cell?_alloc_lt _ _ t (by simp;omega),World.cell?_alloc_lt _ _ t (by simp;omega),World.cell?_alloc_lt _ _ t htl];exact ht0)
  (by rw[World.frozen?_alloc_old _ _ t (by simp;omega),World.frozen?_alloc_old _ _ t (by simp;omega),World.frozen?_alloc_old _ _ t (by simp;omega),World.frozen?_alloc_old _ _ t (Nat.ne_of_lt htl)];exact hf0)
 clear hw1 w1
 go_enter Tryz.func68,Tryz.ntmps68
 go_wp2
 refine wp_loop_rounds 2 ?_
 rw[rounds_succ]
 go_wp2
 rw[rounds_succ]
 go_wp2
 go_ret
 exact⟨rfl,_,(by repeat (first|exact G.refl _|assumption|apply G.drew|apply G.drewN|apply G.alloc|refine G.trans ?_ (by assumption))),rfl⟩
theorem agX(n:Int)(w:World)(hE:UO w):Um 32 #[eno n] w (.int .i64 n):=by
 go_enter Tryz.func32,Tryz.ntmps32
 go_wp2_with fail
 refine Calls.mono (ayr n ⟨w.heap.size,0,none⟩ (.int .i64 0) _ (hE.grow (by repeat (first|exact G.refl _|assumption|apply G.drew|apply G.drewN|apply G.alloc|refine G.trans ?_ (by assumption)))) (World.cell?_alloc_new w _ _ 0) (by simp)) ?_
 rintro e w' ⟨rfl,w1,g1,rfl⟩
 have hc:w1.cell? ⟨w.heap.size,0,none⟩=some (.int .i64 0):=by rw[g1.cell (by simp)];exact World.cell?_alloc_new w _ _ 0
 have hs:=World.cell?_setCell_same w1 ⟨w.heap.size,0,none⟩ (.int .i64 n) hc
 go_wp2_with fail
 go_ret
 exact⟨rfl,(((G.refl w).alloc _).trans g1).setCell (Nat.le_refl _) _⟩
theorem alA(n p:Int)(v:Value)(w:World)(hE:UO w)(hv:UE w v n p):Um 32 #[v] w (.int .i64 n):=by
 obtain⟨b,rfl,h0,-,hb⟩:=hv
 go_enter Tryz.func32,Tryz.ntmps32
 go_wp2_with fail
 refine Calls.mono (atZ n b ⟨w.heap.size,0,none⟩ (.int .i64 0) _ (by rw[World.cell?_alloc_lt _ _ ⟨b,0,none⟩ hb];exact h0) (hE.grow (by repeat (first|exact G.refl _|assumption|apply G.drew|apply G.drewN|apply G.alloc|refine G.trans ?_ (by assumption)))) (World.cell?_alloc_new w _ _ 0) (by simp)) ?_
 rintro e w' ⟨rfl,w1,g1,rfl⟩
 have hc:w1.cell? ⟨w.heap.size,0,none⟩=some (.int .i64 0):=by rw[g1.cell (by simp)];exact World.cell?_alloc_new w _ _ 0
 have hs:=World.cell?_setCell_same w1 ⟨w.heap.size,0,none⟩ (.int .i64 n) hc
 go_wp2_with fail
 go_ret
 exact⟨rfl,(((G.refl w).alloc _).trans g1).setCell (Nat.le_refl _) _⟩
end Go.Proofs.YtmffejnigppbpaaGreatDoor
