/-
 CONTRACT of when.Print. (written by gen_whenprint.py)
-/
import Derived.Test.YtmffejnigppbpaaGreatDoorDXMA77
set_option linter.unusedVariables false
set_option linter.unusedSimpArgs false
set_option maxHeartbeats 8000000
set_option maxRecDepth 100000
namespace Go.Proofs.YtmffejnigppbpaaGreatDoor
open Go.RowKit
def St.date(t:St):List UInt8:=
 if t.y = -1 then
  (if t.m = -1 then(if t.d = -1 then[] else 45::45::45::Jb t.d 2)else if t.d = -1 then 45::45::Jb t.m 2 else 45::45::(Jb t.m 2++Jb t.d 2))
 else
  (if t.m = -1 then(if t.d = -1 then Jb t.y 4 else[])else if t.d = -1 then Jb t.y 4++45::Jb t.m 2 else Jb t.y 4++(Jb t.m 2++Jb t.d 2))
def St.clock(t:St):List UInt8:=
 (if t.h = -1 then[45] else Jb t.h 2)++((if t.n = -1 then(if t.h = -1 then[45] else[])else Jb t.n 2)++(if t.s = -1 then(if t.h = -1∧t.n = -1 then[45] else[])else Jb t.s 2))
def St.text(t:St):List UInt8:=if t.h = -1∧t.n = -1∧t.s = -1 then t.date else t.date++84::(t.clock++if t.zd then adA t.zn else[])
structure St.Good(t:St):Prop where
 y:t.y = -1∨0≤t.y∧t.y≤9999
 m:t.m = -1∨1≤t.m∧t.m≤12
 d:t.d = -1∨1≤t.d∧t.d≤31
 h:t.h = -1∨0≤t.h∧t.h≤23
 n:t.n = -1∨0≤t.n∧t.n≤59
 s:t.s = -1∨0≤t.s∧t.s≤59
 z:adF t.zn=true
theorem aiu{n a b:Int}(h:wth n a b=true):n = -1∨a≤n∧n≤b:=by
 unfold wth at h
 simp only[Bool.or_eq_true,Bool.and_eq_true,decide_eq_true_eq]at h
 exact h
theorem awc(y m:Int):0≤ahY y m∧ahY y m≤31:=by
 unfold ahY
 repeat' split
 all_goals omega
theorem St.most_le(t:St):t.most≤31:=by
 unfold St.most
 split
 ·omega
 ·exact(awc _ _).2
theorem St.right_zero{t:St}(h:t.right=0):t.bad=false∧t.fits=true:=by
 unfold St.right at h
 split at h
 ·cases h
 ·rename_i hb
  split at h
  ·rename_i hf;exact⟨by simpa using hb,hf⟩
  ·cases h
theorem St.good{t:St}(h:t.right=0):t.Good:=by
 have hf:=(St.right_zero h).2
 unfold St.fits at hf
 simp only[Bool.and_eq_true]at hf
 obtain⟨⟨⟨⟨⟨⟨h1,h2⟩,h3⟩,h4⟩,h5⟩,h6⟩,h7⟩:=hf
 refine⟨aiu h1,aiu h2,?_,aiu h4,aiu h5,aiu h6,h7⟩
 have:=t.most_le
 rcases aiu h3 with h|h
 ·exact .inl h
 ·exact .inr ⟨h.1,by omega⟩
theorem aog(n:Int)(w:World)(h0:0≤n)(h1:n≤9999):Calls Tryz.prog 201 #[.int .i64 n,.int .i64 4] w fun e w'=>e=.returned (.string (S (Jb n 4)))∧G w w':=alc n w h0 h1
theorem ac4(n:Int)(w:World)(h0:0≤n)(h1:n≤9999):Calls Tryz.prog 201 #[.int .i64 n,.int .i64 2] w fun e w'=>e=.returned (.string (S (Jb n 2)))∧G w w':=ahZ n w h0 h1
theorem auk(t:St)(w:World)(hm:aer w)(hr0:t.right=0):Um 169 #[t.v] w (.tuple #[.string (S t.text),.nilIface]):=by
 have hg:=St.good hr0
 have hb:=(St.right_zero hr0).1
 have hr:=fun w hm=>aiR t w hm (by rcases hg.y with e|e<;>omega) (by rcases hg.y with e|e<;>omega)
 have he:apj t.right=.nilIface:=by rw[hr0];rfl
 rw[he]at hr
 have HT:∀D,t.date=D→t.text=if t.h = -1∧t.n = -1∧t.s = -1 then D else D++84::(t.clock++if t.zd then adA t.zn else[]):=fun D h=>by unfold St.text;rw[h]
 obtain⟨y,m,d,h,n,s,zd,zn⟩:=t
 obtain⟨gy,gm,gd,gh,gn,gs,gz⟩:=hg
 simp only at gy gm gd gh gn gs gz
 obtain⟨D,hD⟩:∃D,(⟨y,m,d,h,n,s,zd,zn⟩:St).date=D:=⟨_,rfl⟩
 have HTX:=hid (HT D hD)
 have HD:=hid hD
 obtain⟨w1,hw1⟩:∃w1,w.alloc (.cells #[.int .i64 y,.int .i64 m,.int .i64 d,.int .i64 h,.int .i64 n,.int .i64 s,.bool zd,.int .i64 zn] 34)=w1:=⟨_,rfl⟩
 obtain⟨B,hB⟩:∃B,w.heap.size=B:=⟨_,rfl⟩
 have f0:w1.cell? ⟨B,0,none⟩=some (.int .i64 y):=by rw[←hw1,←hB,World.cell?_alloc_new];rfl
 have f1:w1.cell? ⟨B,1,none⟩=some (.int .i64 m):=by rw[←hw1,←hB,World.cell?_alloc_new];rfl
 have f2:w1.cell? ⟨B,2,none⟩=some (.int .i64 d):=by rw[←hw1,←hB,World.cell?_alloc_new];rfl
 have f3:w1.cell? ⟨B,3,none⟩=some (.int .i64 h):=by rw[←hw1,←hB,World.cell?_alloc_new];rfl
 have f4:w1.cell? ⟨B,4,none⟩=some (.int .i64 n):=by rw[←hw1,←hB,World.cell?_alloc_new];rfl
 have f5:w1.cell? ⟨B,5,none⟩=some (.int .i64 s):=by rw[←hw1,←hB,World.cell?_alloc_new];rfl
 have f6:w1.cell? ⟨B,6,none⟩=some (.bool zd):=by rw[←hw1,←hB,World.cell?_alloc_new];rfl
 have f7:w1.cell? ⟨B,7,none⟩=some (.int .i64 zn):=by rw[←hw1,←hB,World.cell?_alloc_new];rfl
 have hBlt:B<w1.heap.size:=by rw[←hw1,←hB];simp
 have G1:Hid (G w w1):=hid (by rw[←hw1];exact(G.refl w).alloc _)
 have HM1:Hid (aer w1):=hid (hm.grow G1.out)
 have HR:=hid hr
 have GZ:=hid gz
 unfold St.v
 clear HT hr he hr0 hb hD hm gz
 go_enter Tryz.func169,Tryz.ntmps169
 go_wp2_with fail
 clear hw1 hB
 refine(HR.out w1 HM1.out).use ?_
 intro w2 g2
 have c0:=(adg g2 B 0 hBlt).trans f0
 have c1:=(adg g2 B 1 hBlt).trans f1
 have c2:=(adg g2 B 2 hBlt).trans f2
 have c3:=(adg g2 B 3 hBlt).trans f3
 have c4:=(adg g2 B 4 hBlt).trans f4
 have c5:=(adg g2 B 5 hBlt).trans f5
 have c6:=(adg g2 B 6 hBlt).trans f6
 have c7:=(adg g2 B 7 hBlt).trans f7
 have hB2:B<w2.heap.size:=Nat.lt_of_lt_of_le hBlt g2.size
 have G2:Hid (G w w2):=hid (G1.out.trans g2)
 clear g2 f0 f1 f2 f3 f4 f5 f6 f7
 go_upto_region 5 with fail
 go_wp2_with fail
 refine(akb y m d w2.heap.size _ (by rw[World.cell?_alloc_new];rfl) (by rw[World.cell?_alloc_new];rfl) (by rw[World.cell?_alloc_new];rfl) (by simp)).use ?_
 intro w3 g3
 have HW3:Hid (G w2 w3):=hid (((G.refl w2).alloc _).trans g3)
 have hB3:B<w3.heap.size:=Nat.lt_of_lt_of_le hB2 HW3.out.size
 have d0:=(adg HW3.out B 0 hB2).trans c0
 have d1:=(adg HW3.out B 1 hB2).trans c1
 have d2:=(adg HW3.out B 2 hB2).trans c2
 have d3:=(adg HW3.out B 3 hB2).trans c3
 have d4:=(adg HW3.out B 4 hB2).trans c4
 have d5:=(adg HW3.out B 5 hB2).trans c5
 have d6:=(adg HW3.out B 6 hB2).trans c6
 have d7:=(adg HW3.out B 7 hB2).trans c7
 clear c0 c1 c2 c3 c4 c5 c6 c7 g3
 go_upto_block 0 with fail
 go_cut [5] (fun a wz=>a=.string (S D)∧G w3 wz)
 case first=>
  clear d3 d4 d5 d6 d7 gh gn gs HTX
  rcases gy with rfl|⟨gy0,gy1⟩
  ·rcases gm with rfl|⟨gm0,gm1⟩
   ·rcases gd with rfl|⟨gd0,gd1⟩
    ·have HF:uX (-1) (-1) (-1)=[45,45,45]:=by simp[uX,ae6]
     have q0:(uX (-1) (-1) (-1)==[57,45,45])=false:=by rw[HF];rfl
     have q1:(uX (-1) (-1) (-1)==[57,57,45])=false:=by rw[HF];rfl
     have q2:(uX (-1) (-1) (-1)==[57,57,57])=false:=by rw[HF];rfl
     have q3:(uX (-1) (-1) (-1)==[45,57,45])=false:=by rw[HF];rfl
     have q4:(uX (-1) (-1) (-1)==[45,57,57])=false:=by rw[HF];rfl
     have q5:(uX (-1) (-1) (-1)==[45,45,57])=false:=by rw[HF];rfl
     have HV:Hid (D=[]):=hid (by rw[←HD.out];simp[St.date])
     have hly:=uS 4 (0:Int)
     have hlm:=uS 2 (0:Int)
     have hld:=uS 2 (0:Int)
     have HL1:Hid True:=hid trivial
     clear HF HD
     go_wp2_with fail
     go_meet
     exact⟨by rw[HV.out]<;>first|rfl|simp,by first|exact G.refl _|assumption|(repeat (first|exact G.refl _|exact Hid.out ‹Hid (G _ _)›|apply G.drew|refine G.trans ?_ (Hid.out ‹Hid (G _ _)›)))⟩
    ·have HF:uX (-1) (-1) d=[45,45,57]:=by simp[uX,ae6,ac0 (show d ≠ -1 by omega)]
     have q0:(uX (-1) (-1) d==[57,45,45])=false:=by rw[HF];rfl
     have q1:(uX (-1) (-1) d==[57,57,45])=false:=by rw[HF];rfl
     have q2:(uX (-1) (-1) d==[57,57,57])=false:=by rw[HF];rfl
     have q3:(uX (-1) (-1) d==[45,57,45])=false:=by rw[HF];rfl
     have q4:(uX (-1) (-1) d==[45,57,57])=false:=by rw[HF];rfl
     have q5:(uX (-1) (-1) d==[45,45,57])=true:=by rw[HF];rfl
     have HV:Hid (D=45::45::45::Jb d 2):=hid (by rw[←HD.out];simp[St.date,show ¬d = -1 by omega])
     have hly:=uS 4 (0:Int)
     have hlm:=uS 2 (0:Int)
     have hld:=uS 2 d
     have HL1:Hid True:=hid trivial
     clear HF HD
     go_wp2_with fail
     refine(ahZ d _ (by omega) (by omega)).use ?_
     intro w4 g4
     go_wp2_with fail
     go_meet
     exact⟨by rw[HV.out]<;>first|rfl|simp,by first|exact G.refl _|assumption|(repeat (first|exact G.refl _|exact Hid.out ‹Hid (G _ _)›|apply G.drew|refine G.trans ?_ (Hid.out ‹Hid (G _ _)›)))⟩
   ·rcases gd with rfl|⟨gd0,gd1⟩
    ·have HF:uX (-1) m (-1)=[45,57,45]:=by simp[uX,ae6,ac0 (show m ≠ -1 by omega)]
     have q0:(uX (-1) m (-1)==[57,45,45])=false:=by rw[HF];rfl
     have q1:(uX (-1) m (-1)==[57,57,45])=false:=by rw[HF];rfl
     have q2:(uX (-1) m (-1)==[57,57,57])=false:=by rw[HF];rfl
     have q3:(uX (-1) m (-1)==[45,57,45])=true:=by rw[HF];rfl
     have q4:(uX (-1) m (-1)==[45,57,57])=false:=by rw[HF];rfl
     have q5:(uX (-1) m (-1)==[45,45,57])=false:=by rw[HF];rfl
     have HV:Hid (D=45::45::Jb m 2):=hid (by rw[←HD.out];simp[St.date,show ¬m = -1 by omega])
     have hly:=uS 4 (0:Int)
     have hlm:=uS 2 m
     have hld:=uS 2 (0:Int)
     have HL1:Hid True:=hid trivial
     clear HF HD
     go_wp2_with fail
     refine(ahZ m _ (by omega) (by omega)).use ?_
     intro w4 g4
     go_wp2_with fail
     go_meet
     exact⟨by rw[HV.out]<;>first|rfl|simp,by first|exact G.refl _|assumption|(repeat (first|exact G.refl _|exact Hid.out ‹Hid (G _ _)›|apply G.drew|refine G.trans ?_ (Hid.out ‹Hid (G _ _)›)))⟩
    ·have HF:uX (-1) m d=[45,57,57]:=by simp[uX,ae6,ac0 (show m ≠ -1 by omega),ac0 (show d ≠ -1 by omega)]
     have q0:(uX (-1) m d==[57,45,45])=false:=by rw[HF];rfl
     have q1:(uX (-1) m d==[57,57,45])=false:=by rw[HF];rfl
     have q2:(uX (-1) m d==[57,57,57])=false:=by rw[HF];rfl
     have q3:(uX (-1) m d==[45,57,45])=false:=by rw[HF];rfl
     have q4:(uX (-1) m d==[45,57,57])=true:=by rw[HF];rfl
     have q5:(uX (-1) m d==[45,45,57])=false:=by rw[HF];rfl
     have HV:Hid (D=45::45::(Jb m 2++Jb d 2)):=hid (by rw[←HD.out];simp[St.date,show ¬m = -1 by omega,show ¬d = -1 by omega])
     have hly:=uS 4 (0:Int)
     have hlm:=uS 2 m
     have hld:=uS 2 d
     have HL1:Hid True:=hid trivial
     clear HF HD
     go_wp2_with fail
     go_region_held3 (fun w'=>w'.cell? ⟨B,0,none⟩=some (.int .i64 (-1))∧w'.cell? ⟨B,1,none⟩=some (.int .i64 m)∧w'.cell? ⟨B,2,none⟩=some (.int .i64 d)) (go_keep)
      (first
       |(go_at_call 201;(with_reducible refine(ac4 m _ ?_ ?_).mono ?_);(· omega);(· omega);rintro e w' ⟨rfl,hg⟩;have s0:=hg.cell (p:=⟨B,0,none⟩) (by first|omega|(simp;omega));have s1:=hg.cell (p:=⟨B,1,none⟩) (by first|omega|(simp;omega));have s2:=hg.cell (p:=⟨B,2,none⟩) (by first|omega|(simp;omega));have hz:=hg.size;(try simp at hz);have hgx:=hid hg;clear hg)
       |(go_at_call 201;(with_reducible refine(ac4 d _ ?_ ?_).mono ?_);(· omega);(· omega);rintro e w' ⟨rfl,hg⟩;have s0:=hg.cell (p:=⟨B,0,none⟩) (by first|omega|(simp;omega));have s1:=hg.cell (p:=⟨B,1,none⟩) (by first|omega|(simp;omega));have s2:=hg.cell (p:=⟨B,2,none⟩) (by first|omega|(simp;omega));have hz:=hg.size;(try simp at hz);have hgx:=hid hg;clear hg))
     all_goals
      go_wp2_with fail
      go_meet
      exact⟨by rw[HV.out]<;>first|rfl|simp,by first|exact G.refl _|assumption|(repeat (first|exact G.refl _|exact Hid.out ‹Hid (G _ _)›|apply G.drew|refine G.trans ?_ (Hid.out ‹Hid (G _ _)›)))⟩
  ·rcases gm with rfl|⟨gm0,gm1⟩
   ·rcases gd with rfl|⟨gd0,gd1⟩
    ·have HF:uX y (-1) (-1)=[57,45,45]:=by simp[uX,ae6,ac0 (show y ≠ -1 by omega)]
     have q0:(uX y (-1) (-1)==[57,45,45])=true:=by rw[HF];rfl
     have q1:(uX y (-1) (-1)==[57,57,45])=false:=by rw[HF];rfl
     have q2:(uX y (-1) (-1)==[57,57,57])=false:=by rw[HF];rfl
     have q3:(uX y (-1) (-1)==[45,57,45])=false:=by rw[HF];rfl
     have q4:(uX y (-1) (-1)==[45,57,57])=false:=by rw[HF];rfl
     have q5:(uX y (-1) (-1)==[45,45,57])=false:=by rw[HF];rfl
     have HV:Hid (D=Jb y 4):=hid (by rw[←HD.out];simp[St.date,show ¬y = -1 by omega])
     have hly:=uS 4 y
     have hlm:=uS 2 (0:Int)
     have hld:=uS 2 (0:Int)
     have HL1:Hid True:=hid trivial
     clear HF HD
     go_wp2_with fail
     refine(alc y _ (by omega) (by omega)).use ?_
     intro w4 g4
     go_wp2_with fail
     go_meet
     exact⟨by rw[HV.out]<;>first|rfl|simp,by first|exact G.refl _|assumption|(repeat (first|exact G.refl _|exact Hid.out ‹Hid (G _ _)›|apply G.drew|refine G.trans ?_ (Hid.out ‹Hid (G _ _)›)))⟩
    ·have HF:uX y (-1) d=[57,45,57]:=by simp[uX,ae6,ac0 (show y ≠ -1 by omega),ac0 (show d ≠ -1 by omega)]
     have q0:(uX y (-1) d==[57,45,45])=false:=by rw[HF];rfl
     have q1:(uX y (-1) d==[57,57,45])=false:=by rw[HF];rfl
     have q2:(uX y (-1) d==[57,57,57])=false:=by rw[HF];rfl
     have q3:(uX y (-1) d==[45,57,45])=false:=by rw[HF];rfl
     have q4:(uX y (-1) d==[45,57,57])=false:=by rw[HF];rfl
     have q5:(uX y (-1) d==[45,45,57])=false:=by rw[HF];rfl
     have HV:Hid (D=[]):=hid (by rw[←HD.out];simp[St.date,show ¬y = -1 by omega,show ¬d = -1 by omega])
     have hly:=uS 4 y
     have hlm:=uS 2 (0:Int)
     have hld:=uS 2 d
     have HL1:Hid True:=hid trivial
     clear HF HD
     go_wp2_with fail
     go_meet
     exact⟨by rw[HV.out]<;>first|rfl|simp,by first|exact G.refl _|assumption|(repeat (first|exact G.refl _|exact Hid.out ‹Hid (G _ _)›|apply G.drew|refine G.trans ?_ (Hid.out ‹Hid (G _ _)›)))⟩
   ·rcases gd with rfl|⟨gd0,gd1⟩
    ·have HF:uX y m (-1)=[57,57,45]:=by simp[uX,ae6,ac0 (show y ≠ -1 by omega),ac0 (show m ≠ -1 by omega)]
     have q0:(uX y m (-1)==[57,45,45])=false:=by rw[HF];rfl
     have q1:(uX y m (-1)==[57,57,45])=true:=by rw[HF];rfl
     have q2:(uX y m (-1)==[57,57,57])=false:=by rw[HF];rfl
     have q3:(uX y m (-1)==[45,57,45])=false:=by rw[HF];rfl
     have q4:(uX y m (-1)==[45,57,57])=false:=by rw[HF];rfl
     have q5:(uX y m (-1)==[45,45,57])=false:=by rw[HF];rfl
     have HV:Hid (D=Jb y 4++45::Jb m 2):=hid (by rw[←HD.out];simp[St.date,show ¬y = -1 by omega,show ¬m = -1 by omega])
     have hly:=uS 4 y
     have hlm:=uS 2 m
     have hld:=uS 2 (0:Int)
     have HL1:Hid True:=hid trivial
     clear HF HD
     go_wp2_with fail
     go_region_held3 (fun w'=>w'.cell? ⟨B,0,none⟩=some (.int .i64 y)∧w'.cell? ⟨B,1,none⟩=some (.int .i64 m)∧w'.cell? ⟨B,2,none⟩=some (.int .i64 (-1))) (go_keep)
      (first
       |(go_at_call 201;(with_reducible refine(aog y _ ?_ ?_).mono ?_);(· omega);(· omega);rintro e w' ⟨rfl,hg⟩;have s0:=hg.cell (p:=⟨B,0,none⟩) (by first|omega|(simp;omega));have s1:=hg.cell (p:=⟨B,1,none⟩) (by first|omega|(simp;omega));have s2:=hg.cell (p:=⟨B,2,none⟩) (by first|omega|(simp;omega));have hz:=hg.size;(try simp at hz);have hgx:=hid hg;clear hg)
       |(go_at_call 201;(with_reducible refine(ac4 m _ ?_ ?_).mono ?_);(· omega);(· omega);rintro e w' ⟨rfl,hg⟩;have s0:=hg.cell (p:=⟨B,0,none⟩) (by first|omega|(simp;omega));have s1:=hg.cell (p:=⟨B,1,none⟩) (by first|omega|(simp;omega));have s2:=hg.cell (p:=⟨B,2,none⟩) (by first|omega|(simp;omega));have hz:=hg.size;(try simp at hz);have hgx:=hid hg;clear hg))
     all_goals
      go_wp2_with fail
      go_meet
      exact⟨by rw[HV.out]<;>first|rfl|simp,by first|exact G.refl _|assumption|(repeat (first|exact G.refl _|exact Hid.out ‹Hid (G _ _)›|apply G.drew|refine G.trans ?_ (Hid.out ‹Hid (G _ _)›)))⟩
    ·have HF:uX y m d=[57,57,57]:=by simp[uX,ae6,ac0 (show y ≠ -1 by omega),ac0 (show m ≠ -1 by omega),ac0 (show d ≠ -1 by omega)]
     have q0:(uX y m d==[57,45,45])=false:=by rw[HF];rfl
     have q1:(uX y m d==[57,57,45])=false:=by rw[HF];rfl
     have q2:(uX y m d==[57,57,57])=true:=by rw[HF];rfl
     have q3:(uX y m d==[45,57,45])=false:=by rw[HF];rfl
     have q4:(uX y m d==[45,57,57])=false:=by rw[HF];rfl
     have q5:(uX y m d==[45,45,57])=false:=by rw[HF];rfl
     have HV:Hid (D=Jb y 4++(Jb m 2++Jb d 2)):=hid (by rw[←HD.out];simp[St.date,show ¬y = -1 by omega,show ¬m = -1 by omega,show ¬d = -1 by omega])
     have hly:=uS 4 y
     have hlm:=uS 2 m
     have hld:=uS 2 d
     have HL1:Hid True:=hid trivial
     clear HF HD
     go_wp2_with fail
     go_region_held3 (fun w'=>w'.cell? ⟨B,0,none⟩=some (.int .i64 y)∧w'.cell? ⟨B,1,none⟩=some (.int .i64 m)∧w'.cell? ⟨B,2,none⟩=some (.int .i64 d)) (go_keep)
      (first
       |(go_at_call 201;(with_reducible refine(aog y _ ?_ ?_).mono ?_);(· omega);(· omega);rintro e w' ⟨rfl,hg⟩;have s0:=hg.cell (p:=⟨B,0,none⟩) (by first|omega|(simp;omega));have s1:=hg.cell (p:=⟨B,1,none⟩) (by first|omega|(simp;omega));have s2:=hg.cell (p:=⟨B,2,none⟩) (by first|omega|(simp;omega));have hz:=hg.size;(try simp at hz);have hgx:=hid hg;clear hg)
       |(go_at_call 201;(with_reducible refine(ac4 m _ ?_ ?_).mono ?_);(· omega);(· omega);rintro e w' ⟨rfl,hg⟩;have s0:=hg.cell (p:=⟨B,0,none⟩) (by first|omega|(simp;omega));have s1:=hg.cell (p:=⟨B,1,none⟩) (by first|omega|(simp;omega));have s2:=hg.cell (p:=⟨B,2,none⟩) (by first|omega|(simp;omega));have hz:=hg.size;(try simp at hz);have hgx:=hid hg;clear hg)
       |(go_at_call 201;(with_reducible refine(ac4 d _ ?_ ?_).mono ?_);(· omega);(· omega);rintro e w' ⟨rfl,hg⟩;have s0:=hg.cell (p:=⟨B,0,none⟩) (by first|omega|(simp;omega));have s1:=hg.cell (p:=⟨B,1,none⟩) (by first|omega|(simp;omega));have s2:=hg.cell (p:=⟨B,2,none⟩) (by first|omega|(simp;omega));have hz:=hg.size;(try simp at hz);have hgx:=hid hg;clear hg))
     all_goals
      go_wp2_with fail
      go_meet
      exact⟨by rw[HV.out]<;>first|rfl|simp,by first|exact G.refl _|assumption|(repeat (first|exact G.refl _|exact Hid.out ‹Hid (G _ _)›|apply G.drew|refine G.trans ?_ (Hid.out ‹Hid (G _ _)›)))⟩
 case rest=>
  obtain⟨rfl,g4⟩:=hcut
  have e3:=(adg g4 B 3 hB3).trans d3
  have e4:=(adg g4 B 4 hB3).trans d4
  have e5:=(adg g4 B 5 hB3).trans d5
  have e6:=(adg g4 B 6 hB3).trans d6
  have e7:=(adg g4 B 7 hB3).trans d7
  have hB4:B<wc.heap.size:=Nat.lt_of_lt_of_le hB3 g4.size
  have G4:Hid (G w wc):=hid ((G2.out.trans HW3.out).trans g4)
  clear d0 d1 d2 d3 d4 d5 d6 d7 g4 gy gm gd
  go_wp2_with fail
  refine(akb h n s wc.heap.size _ (by rw[World.cell?_alloc_new];rfl) (by rw[World.cell?_alloc_new];rfl) (by rw[World.cell?_alloc_new];rfl) (by simp)).use ?_
  intro w5 g5
  have HW5:Hid (G wc w5):=hid (((G.refl wc).alloc _).trans g5)
  have i3:=(adg HW5.out B 3 hB4).trans e3
  have i4:=(adg HW5.out B 4 hB4).trans e4
  have i5:=(adg HW5.out B 5 hB4).trans e5
  have i6:=(adg HW5.out B 6 hB4).trans e6
  have i7:=(adg HW5.out B 7 hB4).trans e7
  have G5:Hid (G w w5):=hid (G4.out.trans HW5.out)
  clear e3 e4 e5 e6 e7 g5
  have j0:∀w,(Instr.index 276 (.agg #[.int .i64 h,.int .i64 n,.int .i64 s]) (.int .i64 0)).run Tryz.prog w=.ok (.int .i64 h) w:=fun _=>by kernel_rfl
  have j1:∀w,(Instr.index 276 (.agg #[.int .i64 h,.int .i64 n,.int .i64 s]) (.int .i64 1)).run Tryz.prog w=.ok (.int .i64 n) w:=fun _=>by kernel_rfl
  have j2:∀w,(Instr.index 276 (.agg #[.int .i64 h,.int .i64 n,.int .i64 s]) (.int .i64 2)).run Tryz.prog w=.ok (.int .i64 s) w:=fun _=>by kernel_rfl
  have hDl:D.length≤8:=by
   rw[←HD.out];unfold St.date;simp only
   repeat' split
   all_goals simp[uS]
  by_cases hall:h = -1∧n = -1∧s = -1
  ·obtain⟨rfl,rfl,rfl⟩:=hall
   have HX:Hid ((⟨y,m,d,-1,-1,-1,zd,zn⟩:St).text=D):=hid (by rw[HTX.out];exact if_pos ⟨rfl,rfl,rfl⟩)
   have q0:(uX (-1) (-1) (-1)==[45,45,45])=true:=rfl
   go_wp2_with fail
   go_ret2
   exact⟨by rw[HX.out];rfl,G5.out⟩
  ·obtain⟨C,hC⟩:∃C,(⟨y,m,d,h,n,s,zd,zn⟩:St).clock=C:=⟨_,rfl⟩
   have HC:=hid hC
   have HX:Hid ((⟨y,m,d,h,n,s,zd,zn⟩:St).text=D++84::(C++if zd then adA zn else[])):=hid (by rw[HTX.out,←hC];exact if_neg hall)
   have q0:(uX h n s==[45,45,45])=false:=by
    refine beq_eq_false_iff_ne.2 fun e=>hall ?_
    unfold uX dgF at e
    simp only[List.cons.injEq,and_true]at e
    refine⟨?_,?_,?_⟩
    ·by_cases x:h = -1
     ·exact x
     ·rw[if_neg x]at e;exact absurd e.1 (by decide)
    ·by_cases x:n = -1
     ·exact x
     ·rw[if_neg x]at e;exact absurd e.2.1 (by decide)
    ·by_cases x:s = -1
     ·exact x
     ·rw[if_neg x]at e;exact absurd e.2.2 (by decide)
   have hCl:C.length≤6:=by
    rw[←hC];unfold St.clock;simp only
    repeat' split
    all_goals simp[uS]
   have HALL:=hid hall
   clear hC hall
   go_upto_block 1 with fail
   go_cut [5] (fun a wz=>a=.string (S (D++84::C))∧G w5 wz)
   case first=>
    clear HX
    rcases gh with rfl|⟨gh0,gh1⟩
    ·rcases gn with rfl|⟨gn0,gn1⟩
     ·rcases gs with rfl|⟨gs0,gs1⟩
      ·exact absurd ⟨rfl,rfl,rfl⟩ HALL.out
      ·have HF:uX (-1) (-1) s=[45,45,57]:=by simp[uX,ae6,ac0 (show s ≠ -1 by omega)]
       have HV:Hid (C=[45]++([45]++Jb s 2)):=hid (by rw[←HC.out];simp[St.clock,show ¬s = -1 by omega])
       have hls:=uS 2 s
       clear HC q0 HTX HD
       have tl:(uX (-1) (-1) s).length=3:=rfl
       have t0:∀hx,(uX (-1) (-1) s)[0]'hx=45:=by rw[HF];intro _;rfl
       have t1:∀hx,(uX (-1) (-1) s)[1]'hx=45:=by rw[HF];intro _;rfl
       have t2:∀hx,(uX (-1) (-1) s)[2]'hx=57:=by rw[HF];intro _;rfl
       clear HF
       go_wp2_with fail
       refine wp_loop_rounds 4 ?_
       rw[rounds_succ]
       go_wp2_with fail
       rw[rounds_succ]
       go_wp2_with fail
       rw[rounds_succ]
       go_wp2_with fail
       refine(ac4 s _ (by omega) (by omega)).mono ?_
       rintro e x1 ⟨rfl,gx1⟩
       go_wp2_with fail
       rw[rounds_succ]
       go_wp2_with fail
       go_meet
       exact⟨by rw[HV.out]<;>first|rfl|simp,gx1⟩
     ·rcases gs with rfl|⟨gs0,gs1⟩
      ·have HF:uX (-1) n (-1)=[45,57,45]:=by simp[uX,ae6,ac0 (show n ≠ -1 by omega)]
       have HV:Hid (C=[45]++(Jb n 2++[])):=hid (by rw[←HC.out];simp[St.clock,show ¬n = -1 by omega])
       have hln:=uS 2 n
       clear HC q0 HTX HD
       have tl:(uX (-1) n (-1)).length=3:=rfl
       have t0:∀hx,(uX (-1) n (-1))[0]'hx=45:=by rw[HF];intro _;rfl
       have t1:∀hx,(uX (-1) n (-1))[1]'hx=57:=by rw[HF];intro _;rfl
       have t2:∀hx,(uX (-1) n (-1))[2]'hx=45:=by rw[HF];intro _;rfl
       clear HF
       go_wp2_with fail
       refine wp_loop_rounds 4 ?_
       rw[rounds_succ]
       go_wp2_with fail
       rw[rounds_succ]
       go_wp2_with fail
       refine(ac4 n _ (by omega) (by omega)).mono ?_
       rintro e x1 ⟨rfl,gx1⟩
       go_wp2_with fail
       rw[rounds_succ]
       go_wp2_with fail
       rw[rounds_succ]
       go_wp2_with fail
       go_meet
       exact⟨by rw[HV.out]<;>first|rfl|simp,gx1⟩
      ·have HF:uX (-1) n s=[45,57,57]:=by simp[uX,ae6,ac0 (show n ≠ -1 by omega),ac0 (show s ≠ -1 by omega)]
       have HV:Hid (C=[45]++(Jb n 2++Jb s 2)):=hid (by rw[←HC.out];simp[St.clock,show ¬n = -1 by omega,show ¬s = -1 by omega])
       have hln:=uS 2 n
       have hls:=uS 2 s
       clear HC q0 HTX HD
       have tl:(uX (-1) n s).length=3:=rfl
       have t0:∀hx,(uX (-1) n s)[0]'hx=45:=by rw[HF];intro _;rfl
       have t1:∀hx,(uX (-1) n s)[1]'hx=57:=by rw[HF];intro _;rfl
       have t2:∀hx,(uX (-1) n s)[2]'hx=57:=by rw[HF];intro _;rfl
       clear HF
       go_wp2_with fail
       refine wp_loop_rounds 4 ?_
       rw[rounds_succ]
       go_wp2_with fail
       rw[rounds_succ]
       go_wp2_with fail
       refine(ac4 n _ (by omega) (by omega)).mono ?_
       rintro e x1 ⟨rfl,gx1⟩
       go_wp2_with fail
       rw[rounds_succ]
       go_wp2_with fail
       refine(ac4 s _ (by omega) (by omega)).mono ?_
       rintro e x2 ⟨rfl,gx2⟩
       go_wp2_with fail
       rw[rounds_succ]
       go_wp2_with fail
       go_meet
       exact⟨by rw[HV.out]<;>first|rfl|simp,gx1.trans gx2⟩
    ·rcases gn with rfl|⟨gn0,gn1⟩
     ·rcases gs with rfl|⟨gs0,gs1⟩
      ·have HF:uX h (-1) (-1)=[57,45,45]:=by simp[uX,ae6,ac0 (show h ≠ -1 by omega)]
       have HV:Hid (C=Jb h 2++([]++[])):=hid (by rw[←HC.out];simp[St.clock,show ¬h = -1 by omega])
       have hlh:=uS 2 h
       clear HC q0 HTX HD
       have tl:(uX h (-1) (-1)).length=3:=rfl
       have t0:∀hx,(uX h (-1) (-1))[0]'hx=57:=by rw[HF];intro _;rfl
       have t1:∀hx,(uX h (-1) (-1))[1]'hx=45:=by rw[HF];intro _;rfl
       have t2:∀hx,(uX h (-1) (-1))[2]'hx=45:=by rw[HF];intro _;rfl
       clear HF
       go_wp2_with fail
       refine wp_loop_rounds 4 ?_
       rw[rounds_succ]
       go_wp2_with fail
       refine(ac4 h _ (by omega) (by omega)).mono ?_
       rintro e x1 ⟨rfl,gx1⟩
       go_wp2_with fail
       rw[rounds_succ]
       go_wp2_with fail
       rw[rounds_succ]
       go_wp2_with fail
       rw[rounds_succ]
       go_wp2_with fail
       go_meet
       exact⟨by rw[HV.out]<;>first|rfl|simp,gx1⟩
      ·have HF:uX h (-1) s=[57,45,57]:=by simp[uX,ae6,ac0 (show h ≠ -1 by omega),ac0 (show s ≠ -1 by omega)]
       have HV:Hid (C=Jb h 2++([]++Jb s 2)):=hid (by rw[←HC.out];simp[St.clock,show ¬h = -1 by omega,show ¬s = -1 by omega])
       have hlh:=uS 2 h
       have hls:=uS 2 s
       clear HC q0 HTX HD
       have tl:(uX h (-1) s).length=3:=rfl
       have t0:∀hx,(uX h (-1) s)[0]'hx=57:=by rw[HF];intro _;rfl
       have t1:∀hx,(uX h (-1) s)[1]'hx=45:=by rw[HF];intro _;rfl
       have t2:∀hx,(uX h (-1) s)[2]'hx=57:=by rw[HF];intro _;rfl
       clear HF
       go_wp2_with fail
       refine wp_loop_rounds 4 ?_
       rw[rounds_succ]
       go_wp2_with fail
       refine(ac4 h _ (by omega) (by omega)).mono ?_
       rintro e x1 ⟨rfl,gx1⟩
       go_wp2_with fail
       rw[rounds_succ]
       go_wp2_with fail
       rw[rounds_succ]
       go_wp2_with fail
       refine(ac4 s _ (by omega) (by omega)).mono ?_
       rintro e x2 ⟨rfl,gx2⟩
       go_wp2_with fail
       rw[rounds_succ]
       go_wp2_with fail
       go_meet
       exact⟨by rw[HV.out]<;>first|rfl|simp,gx1.trans gx2⟩
     ·rcases gs with rfl|⟨gs0,gs1⟩
      ·have HF:uX h n (-1)=[57,57,45]:=by simp[uX,ae6,ac0 (show h ≠ -1 by omega),ac0 (show n ≠ -1 by omega)]
       have HV:Hid (C=Jb h 2++(Jb n 2++[])):=hid (by rw[←HC.out];simp[St.clock,show ¬h = -1 by omega,show ¬n = -1 by omega])
       have hlh:=uS 2 h
       have hln:=uS 2 n
       clear HC q0 HTX HD
       have tl:(uX h n (-1)).length=3:=rfl
       have t0:∀hx,(uX h n (-1))[0]'hx=57:=by rw[HF];intro _;rfl
       have t1:∀hx,(uX h n (-1))[1]'hx=57:=by rw[HF];intro _;rfl
       have t2:∀hx,(uX h n (-1))[2]'hx=45:=by rw[HF];intro _;rfl
       clear HF
       go_wp2_with fail
       refine wp_loop_rounds 4 ?_
       rw[rounds_succ]
       go_wp2_with fail
       refine(ac4 h _ (by omega) (by omega)).mono ?_
       rintro e x1 ⟨rfl,gx1⟩
       go_wp2_with fail
       rw[rounds_succ]
       go_wp2_with fail
       refine(ac4 n _ (by omega) (by omega)).mono ?_
       rintro e x2 ⟨rfl,gx2⟩
       go_wp2_with fail
       rw[rounds_succ]
       go_wp2_with fail
       rw[rounds_succ]
       go_wp2_with fail
       go_meet
       exact⟨by rw[HV.out]<;>first|rfl|simp,gx1.trans gx2⟩
      ·have HF:uX h n s=[57,57,57]:=by simp[uX,ae6,ac0 (show h ≠ -1 by omega),ac0 (show n ≠ -1 by omega),ac0 (show s ≠ -1 by omega)]
       have HV:Hid (C=Jb h 2++(Jb n 2++Jb s 2)):=hid (by rw[←HC.out];simp[St.clock,show ¬h = -1 by omega,show ¬n = -1 by omega,show ¬s = -1 by omega])
       have hlh:=uS 2 h
       have hln:=uS 2 n
       have hls:=uS 2 s
       clear HC q0 HTX HD
       have tl:(uX h n s).length=3:=rfl
       have t0:∀hx,(uX h n s)[0]'hx=57:=by rw[HF];intro _;rfl
       have t1:∀hx,(uX h n s)[1]'hx=57:=by rw[HF];intro _;rfl
       have t2:∀hx,(uX h n s)[2]'hx=57:=by rw[HF];intro _;rfl
       clear HF
       go_wp2_with fail
       refine wp_loop_rounds 4 ?_
       rw[rounds_succ]
       go_wp2_with fail
       refine(ac4 h _ (by omega) (by omega)).mono ?_
       rintro e x1 ⟨rfl,gx1⟩
       go_wp2_with fail
       rw[rounds_succ]
       go_wp2_with fail
       refine(ac4 n _ (by omega) (by omega)).mono ?_
       rintro e x2 ⟨rfl,gx2⟩
       go_wp2_with fail
       rw[rounds_succ]
       go_wp2_with fail
       refine(ac4 s _ (by omega) (by omega)).mono ?_
       rintro e x3 ⟨rfl,gx3⟩
       go_wp2_with fail
       rw[rounds_succ]
       go_wp2_with fail
       go_meet
       exact⟨by rw[HV.out]<;>first|rfl|simp,(gx1.trans gx2).trans gx3⟩
   case rest=>
    obtain⟨rfl,g6⟩:=hcut
    have k6:=(adg g6 B 6 (Nat.lt_of_lt_of_le hB4 HW5.out.size)).trans i6
    have k7:=(adg g6 B 7 (Nat.lt_of_lt_of_le hB4 HW5.out.size)).trans i7
    have G6:Hid (G w wc):=hid (G5.out.trans g6)
    clear i3 i4 i5 i6 i7 g6
    cases zd with
    |false=>
     have HX2:Hid ((⟨y,m,d,h,n,s,false,zn⟩:St).text=D++84::C):=hid (by rw[HX.out];simp)
     go_wp2_with fail
     go_ret2
     exact⟨by rw[HX2.out];rfl,G6.out⟩
    |true=>
     have HX2:Hid ((⟨y,m,d,h,n,s,true,zn⟩:St).text=D++84::(C++adA zn)):=hid (by rw[HX.out];simp)
     have hzl:=aup zn
     go_wp2_with fail
     refine(aiS zn _ GZ.out).use ?_
     intro w7 g7
     go_wp2_with fail
     go_ret2
     exact⟨by rw[HX2.out]<;>first|rfl|simp,G6.out.trans g7⟩
end Go.Proofs.YtmffejnigppbpaaGreatDoor
