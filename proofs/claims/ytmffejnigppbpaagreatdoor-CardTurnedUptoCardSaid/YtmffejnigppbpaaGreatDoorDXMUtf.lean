/-
  Texts merged into one: Utf, Utf2, Utf3, UtfPlain.
-/
import Derived.Test.YtmffejnigppbpaaGreatDoorDXMA59
set_option linter.unusedVariables false
set_option linter.unusedSimpArgs false
set_option maxHeartbeats 1000000
set_option maxRecDepth 100000
namespace Go.Proofs.YtmffejnigppbpaaGreatDoor
open Go.RowKit
def aj7(r:Int):Bool:=decide (0≤r∧r≤1114111∧(r<55296∨57343<r))
theorem aio(r:Int)(w:World):adV 206 #[.int .i64 r] w (.bool (aj7 r)):=by
 go_enter Tryz.func206,Tryz.ntmps206
 go_wp2
 all_goals go_ret
 all_goals exact⟨zF (by unfold aj7;rw[Bool.eq_iff_iff];simp;omega),rfl⟩
def isC(c:UInt8):Bool:=(c.toNat:Int)/64==2
def ajc(low r:Int)(n:Int):Int×Int:=if r<low∨aj7 r=false then(0,0)else(r,n)
def acc(r:Int)(c:UInt8):Int:=r*64+(c.toNat:Int)%64
def adw:List UInt8→Int×Int
 |[]=>(0,0)
 |b::t=>
  if b.toNat<128 then((b.toNat:Int),1)
  else if b.toNat<192 then(0,0)
  else if b.toNat<224 then(match t with
   |c1::_=>if isC c1=true then ajc 128 (acc ((b.toNat:Int)-192) c1) 2 else(0,0)
   |_=>(0,0))
  else if b.toNat<240 then(match t with
   |c1::c2::_=>if isC c1=true∧isC c2=true then ajc 2048 (acc (acc ((b.toNat:Int)-224) c1) c2) 3 else(0,0)
   |_=>(0,0))
  else if b.toNat<248 then(match t with
   |c1::c2::c3::_=>if isC c1=true∧isC c2=true∧isC c3=true then ajc 65536 (acc (acc (acc ((b.toNat:Int)-240) c1) c2) c3) 4 else(0,0)
   |_=>(0,0))
  else(0,0)
theorem afu{r:Int}{c:UInt8}{m:Int}(h0:0≤r)(h1:r<m):0≤acc r c∧acc r c<m*64:=by
 unfold acc;omega
theorem akB{r:Int}{c:UInt8}(h0:0≤r)(h1:r<16777216):bits .or .i64 (r*64) ((c.toNat:Int)%64)=acc r c:=
 aut 6 _ _ (by omega) (by simp) (by omega) (by omega) (by omega) (by omega)
theorem adL{a b:Value}{p:Int×Int}{x y:Int}(h:p=(x,y))(ha:a=.int .i64 x)(hb:b=.int .i64 y) :
  Ending.returned (.tuple #[a,b])=.returned (.tuple #[.int .i64 p.1,.int .i64 p.2]):=by rw[h,ha,hb]
def adx(l:List UInt8)(w:World):Prop:=adV 173 #[.string (S l)] w (.tuple #[.int .i64 (adw l).1,.int .i64 (adw l).2])
theorem avQ(w:World):adx [] w:=by
 unfold adx
 go_enter Tryz.func173,Tryz.ntmps173
 go_wp2
 go_ret2
 exact⟨rfl,rfl⟩
theorem ar0(b:UInt8)(t:List UInt8)(w:World)(ht:t.length≤140737488355328)(hb:b.toNat<128):adx (b::t) w:=by
 unfold adx
 have hp:Hid (adw (b::t)=((b.toNat:Int),1)):=hid (by show(if b.toNat<128 then _ else _)=_;rw[if_pos hb])
 go_enter Tryz.func173,Tryz.ntmps173
 go_wp2
 go_ret2
 exact⟨adL hp.out rfl rfl,rfl⟩
theorem aqF(b:UInt8)(t:List UInt8)(w:World)(ht:t.length≤140737488355328)(hb:128≤b.toNat∧b.toNat<192∨248≤b.toNat):adx (b::t) w:=by
 unfold adx
 have hp:Hid (adw (b::t)=(0,0)):=hid (by
  show(if b.toNat<128 then _ else _)=_
  rcases hb with hb|hb
  ·rw[if_neg (by omega),if_pos (by omega)]
  ·rw[if_neg (by omega),if_neg (by omega),if_neg (by omega),if_neg (by omega),if_neg (by omega)])
 have hlt:b.toNat<256:=b.toNat_lt
 have h1:((b.toNat:Int)/32==6)=false:=beq_eq_false_iff_ne.2 (by omega)
 have h2:((b.toNat:Int)/16==14)=false:=beq_eq_false_iff_ne.2 (by omega)
 have h3:((b.toNat:Int)/8==30)=false:=beq_eq_false_iff_ne.2 (by omega)
 have h4:128≤(b.toNat:Int):=by omega
 clear hb
 go_enter Tryz.func173,Tryz.ntmps173
 go_wp2
 go_ret2
 exact⟨adL hp.out rfl rfl,rfl⟩
theorem ax2{b:UInt8}(h:192≤b.toNat)(h':b.toNat<224):bits .and .i64 (b.toNat:Int) 31=(b.toNat:Int)-192:=by
 have:=alN 5 (by omega) (b.toNat:Int) 31 (by omega) (by omega) rfl
 omega
theorem avR{b:UInt8}(h:224≤b.toNat)(h':b.toNat<240):bits .and .i64 (b.toNat:Int) 15=(b.toNat:Int)-224:=by
 have:=alN 4 (by omega) (b.toNat:Int) 15 (by omega) (by omega) rfl
 omega
theorem asL{b:UInt8}(h:240≤b.toNat)(h':b.toNat<248):bits .and .i64 (b.toNat:Int) 7=(b.toNat:Int)-240:=by
 have:=alN 3 (by omega) (b.toNat:Int) 7 (by omega) (by omega) rfl
 omega
theorem akC{c:UInt8}(h:isC c=false):((c.toNat:Int)/64 != 2)=true:=by unfold isC at h;simp only[bne,h];rfl
theorem aip{c:UInt8}(h:isC c=true):((c.toNat:Int)/64 != 2)=false:=by unfold isC at h;simp only[bne,h];rfl
theorem alC{b c1:UInt8}{t:List UInt8}(h:192≤b.toNat)(h':b.toNat<224):adw (b::c1::t)=if isC c1=true then ajc 128 (acc ((b.toNat:Int)-192) c1) 2 else(0,0):=by
 show(if b.toNat<128 then _ else _)=_
 rw[if_neg (by omega),if_neg (by omega),if_pos (by omega)]
theorem alD{b c1 c2:UInt8}{t:List UInt8}(h:224≤b.toNat)(h':b.toNat<240):adw (b::c1::c2::t)=if isC c1=true∧isC c2=true then ajc 2048 (acc (acc ((b.toNat:Int)-224) c1) c2) 3 else(0,0):=by
 show(if b.toNat<128 then _ else _)=_
 rw[if_neg (by omega),if_neg (by omega),if_neg (by omega),if_pos (by omega)]
theorem alE{b c1 c2 c3:UInt8}{t:List UInt8}(h:240≤b.toNat)(h':b.toNat<248):adw (b::c1::c2::c3::t)=if isC c1=true∧isC c2=true∧isC c3=true then ajc 65536 (acc (acc (acc ((b.toNat:Int)-240) c1) c2) c3) 4 else(0,0):=by
 show(if b.toNat<128 then _ else _)=_
 rw[if_neg (by omega),if_neg (by omega),if_neg (by omega),if_neg (by omega),if_pos (by omega)]
theorem ayu(b c1:UInt8)(t:List UInt8)(w:World)(ht:t.length≤140737488355328)(hb:192≤b.toNat)(hb2:b.toNat<224):adx (b::c1::t) w:=by
 unfold adx
 have hp:=alC (c1:=c1) (t:=t) hb hb2
 have hlt:b.toNat<256:=b.toNat_lt
 have hc1:c1.toNat<256:=c1.toNat_lt
 have t0:((b.toNat:Int)/32==6)=true:=beq_iff_eq.2 (by omega)
 have h4:128≤(b.toNat:Int):=by omega
 have e0:=ax2 hb hb2
 cases hk0:isC c1
 ·rw[if_neg (by simp[hk0])]at hp
  have Hp:=hid hp
  have k0:=akC hk0
  clear hp hk0
  go_enter Tryz.func173,Tryz.ntmps173
  go_wp2
  refine wp_loop_rounds 2 ?_
  rw[rounds_succ]
  go_wp2
  go_ret2
  exact⟨adL Hp.out rfl rfl,rfl⟩
 ·have k0:=aip hk0
  have e1:=akB (r:=((b.toNat:Int)-192)) (c:=c1) (by omega) (by omega)
  have bd1:=afu (r:=((b.toNat:Int)-192)) (c:=c1) (m:=32) (by omega) (by omega)
  generalize acc ((b.toNat:Int)-192) c1=r1 at *
  obtain⟨bl1,bh1⟩:=bd1
  rw[if_pos (by simp[hk0])]at hp
  unfold ajc at hp
  by_cases hlow:r1<128
  ·rw[if_pos (Or.inl hlow)]at hp
   have Hp:=hid hp
   clear hp hk0
   go_enter Tryz.func173,Tryz.ntmps173
   go_wp2
   refine wp_loop_rounds 2 ?_
   rw[rounds_succ]
   go_wp2
   rw[rounds_succ]
   go_wp2
   go_ret2
   exact⟨adL Hp.out rfl rfl,rfl⟩
  ·cases hm:aj7 r1
   ·rw[if_pos (Or.inr hm)]at hp
    have Hp:=hid hp
    clear hp hk0
    go_enter Tryz.func173,Tryz.ntmps173
    go_wp2
    refine wp_loop_rounds 2 ?_
    rw[rounds_succ]
    go_wp2
    rw[rounds_succ]
    go_wp2_with (go_at_call 206;refine(aio r1 _).use ?_;rw[hm])
    go_ret2
    exact⟨adL Hp.out rfl rfl,rfl⟩
   ·rw[if_neg (by rw[hm];simp[hlow])]at hp
    have Hp:=hid hp
    clear hp hk0
    go_enter Tryz.func173,Tryz.ntmps173
    go_wp2
    refine wp_loop_rounds 2 ?_
    rw[rounds_succ]
    go_wp2
    rw[rounds_succ]
    go_wp2_with (go_at_call 206;refine(aio r1 _).use ?_;rw[hm])
    go_ret2
    exact⟨adL Hp.out rfl rfl,rfl⟩
theorem avS(b:UInt8)(w:World)(hb:192≤b.toNat)(hb2:b.toNat<224):adx [b] w:=by
 unfold adx
 have Hp:Hid (adw [b]=(0,0)):=hid (by
  show(if b.toNat<128 then _ else _)=_
  rw[if_neg (by omega),if_neg (by omega),if_pos (by omega)])
 have hlt:b.toNat<256:=b.toNat_lt
 have t0:((b.toNat:Int)/32==6)=true:=beq_iff_eq.2 (by omega)
 have h4:128≤(b.toNat:Int):=by omega
 have e0:=ax2 hb hb2
 go_enter Tryz.func173,Tryz.ntmps173
 go_wp2
 go_ret2
 exact⟨adL Hp.out rfl rfl,rfl⟩
theorem ayv(b c1 c2:UInt8)(t:List UInt8)(w:World)(ht:t.length≤140737488355328)(hb:224≤b.toNat)(hb2:b.toNat<240):adx (b::c1::c2::t) w:=by
 unfold adx
 have hp:=alD (c1:=c1) (c2:=c2) (t:=t) hb hb2
 have hlt:b.toNat<256:=b.toNat_lt
 have hc1:c1.toNat<256:=c1.toNat_lt
 have hc2:c2.toNat<256:=c2.toNat_lt
 have t0:((b.toNat:Int)/32==6)=false:=beq_eq_false_iff_ne.2 (by omega)
 have t1:((b.toNat:Int)/16==14)=true:=beq_iff_eq.2 (by omega)
 have h4:128≤(b.toNat:Int):=by omega
 have e0:=avR hb hb2
 cases hk0:isC c1
 ·rw[if_neg (by simp[hk0])]at hp
  have Hp:=hid hp
  have k0:=akC hk0
  clear hp hk0
  go_enter Tryz.func173,Tryz.ntmps173
  go_wp2
  refine wp_loop_rounds 3 ?_
  rw[rounds_succ]
  go_wp2
  go_ret2
  exact⟨adL Hp.out rfl rfl,rfl⟩
 ·have k0:=aip hk0
  have e1:=akB (r:=((b.toNat:Int)-224)) (c:=c1) (by omega) (by omega)
  have bd1:=afu (r:=((b.toNat:Int)-224)) (c:=c1) (m:=16) (by omega) (by omega)
  generalize acc ((b.toNat:Int)-224) c1=r1 at *
  obtain⟨bl1,bh1⟩:=bd1
  cases hk1:isC c2
  ·rw[if_neg (by simp[hk1])]at hp
   have Hp:=hid hp
   have k1:=akC hk1
   clear hp hk0 hk1
   go_enter Tryz.func173,Tryz.ntmps173
   go_wp2
   refine wp_loop_rounds 3 ?_
   rw[rounds_succ]
   go_wp2
   rw[rounds_succ]
   go_wp2
   go_ret2
   exact⟨adL Hp.out rfl rfl,rfl⟩
  ·have k1:=aip hk1
   have e2:=akB (r:=r1) (c:=c2) (by omega) (by omega)
   have bd2:=afu (r:=r1) (c:=c2) (m:=1024) (by omega) (by omega)
   generalize acc r1 c2=r2 at *
   obtain⟨bl2,bh2⟩:=bd2
   rw[if_pos (by simp[hk0,hk1])]at hp
   unfold ajc at hp
   by_cases hlow:r2<2048
   ·rw[if_pos (Or.inl hlow)]at hp
    have Hp:=hid hp
    clear hp hk0 hk1
    go_enter Tryz.func173,Tryz.ntmps173
    go_wp2
    refine wp_loop_rounds 3 ?_
    rw[rounds_succ]
    go_wp2
    rw[rounds_succ]
    go_wp2
    rw[rounds_succ]
    go_wp2
    go_ret2
    exact⟨adL Hp.out rfl rfl,rfl⟩
   ·cases hm:aj7 r2
    ·rw[if_pos (Or.inr hm)]at hp
     have Hp:=hid hp
     clear hp hk0 hk1
     go_enter Tryz.func173,Tryz.ntmps173
     go_wp2
     refine wp_loop_rounds 3 ?_
     rw[rounds_succ]
     go_wp2
     rw[rounds_succ]
     go_wp2
     rw[rounds_succ]
     go_wp2_with (go_at_call 206;refine(aio r2 _).use ?_;rw[hm])
     go_ret2
     exact⟨adL Hp.out rfl rfl,rfl⟩
    ·rw[if_neg (by rw[hm];simp[hlow])]at hp
     have Hp:=hid hp
     clear hp hk0 hk1
     go_enter Tryz.func173,Tryz.ntmps173
     go_wp2
     refine wp_loop_rounds 3 ?_
     rw[rounds_succ]
     go_wp2
     rw[rounds_succ]
     go_wp2
     rw[rounds_succ]
     go_wp2_with (go_at_call 206;refine(aio r2 _).use ?_;rw[hm])
     go_ret2
     exact⟨adL Hp.out rfl rfl,rfl⟩
theorem avT(b:UInt8)(w:World)(hb:224≤b.toNat)(hb2:b.toNat<240):adx [b] w:=by
 unfold adx
 have Hp:Hid (adw [b]=(0,0)):=hid (by
  show(if b.toNat<128 then _ else _)=_
  rw[if_neg (by omega),if_neg (by omega),if_neg (by omega),if_pos (by omega)])
 have hlt:b.toNat<256:=b.toNat_lt
 have t0:((b.toNat:Int)/32==6)=false:=beq_eq_false_iff_ne.2 (by omega)
 have t1:((b.toNat:Int)/16==14)=true:=beq_iff_eq.2 (by omega)
 have h4:128≤(b.toNat:Int):=by omega
 have e0:=avR hb hb2
 go_enter Tryz.func173,Tryz.ntmps173
 go_wp2
 go_ret2
 exact⟨adL Hp.out rfl rfl,rfl⟩
theorem avU(b c1:UInt8)(w:World)(hb:224≤b.toNat)(hb2:b.toNat<240):adx [b,c1] w:=by
 unfold adx
 have Hp:Hid (adw [b,c1]=(0,0)):=hid (by
  show(if b.toNat<128 then _ else _)=_
  rw[if_neg (by omega),if_neg (by omega),if_neg (by omega),if_pos (by omega)])
 have hlt:b.toNat<256:=b.toNat_lt
 have t0:((b.toNat:Int)/32==6)=false:=beq_eq_false_iff_ne.2 (by omega)
 have t1:((b.toNat:Int)/16==14)=true:=beq_iff_eq.2 (by omega)
 have h4:128≤(b.toNat:Int):=by omega
 have e0:=avR hb hb2
 go_enter Tryz.func173,Tryz.ntmps173
 go_wp2
 go_ret2
 exact⟨adL Hp.out rfl rfl,rfl⟩
theorem ayw(b c1 c2 c3:UInt8)(t:List UInt8)(w:World)(ht:t.length≤140737488355328)(hb:240≤b.toNat)(hb2:b.toNat<248):adx (b::c1::c2::c3::t) w:=by
 unfold adx
 have hp:=alE (c1:=c1) (c2:=c2) (c3:=c3) (t:=t) hb hb2
 have hlt:b.toNat<256:=b.toNat_lt
 have hc1:c1.toNat<256:=c1.toNat_lt
 have hc2:c2.toNat<256:=c2.toNat_lt
 have hc3:c3.toNat<256:=c3.toNat_lt
 have t0:((b.toNat:Int)/32==6)=false:=beq_eq_false_iff_ne.2 (by omega)
 have t1:((b.toNat:Int)/16==14)=false:=beq_eq_false_iff_ne.2 (by omega)
 have t2:((b.toNat:Int)/8==30)=true:=beq_iff_eq.2 (by omega)
 have h4:128≤(b.toNat:Int):=by omega
 have e0:=asL hb hb2
 cases hk0:isC c1
 ·rw[if_neg (by simp[hk0])]at hp
  have Hp:=hid hp
  have k0:=akC hk0
  clear hp hk0
  go_enter Tryz.func173,Tryz.ntmps173
  go_wp2
  refine wp_loop_rounds 4 ?_
  rw[rounds_succ]
  go_wp2
  go_ret2
  exact⟨adL Hp.out rfl rfl,rfl⟩
 ·have k0:=aip hk0
  have e1:=akB (r:=((b.toNat:Int)-240)) (c:=c1) (by omega) (by omega)
  have bd1:=afu (r:=((b.toNat:Int)-240)) (c:=c1) (m:=8) (by omega) (by omega)
  generalize acc ((b.toNat:Int)-240) c1=r1 at *
  obtain⟨bl1,bh1⟩:=bd1
  cases hk1:isC c2
  ·rw[if_neg (by simp[hk1])]at hp
   have Hp:=hid hp
   have k1:=akC hk1
   clear hp hk0 hk1
   go_enter Tryz.func173,Tryz.ntmps173
   go_wp2
   refine wp_loop_rounds 4 ?_
   rw[rounds_succ]
   go_wp2
   rw[rounds_succ]
   go_wp2
   go_ret2
   exact⟨adL Hp.out rfl rfl,rfl⟩
  ·have k1:=aip hk1
   have e2:=akB (r:=r1) (c:=c2) (by omega) (by omega)
   have bd2:=afu (r:=r1) (c:=c2) (m:=512) (by omega) (by omega)
   generalize acc r1 c2=r2 at *
   obtain⟨bl2,bh2⟩:=bd2
   cases hk2:isC c3
   ·rw[if_neg (by simp[hk2])]at hp
    have Hp:=hid hp
    have k2:=akC hk2
    clear hp hk0 hk1 hk2
    go_enter Tryz.func173,Tryz.ntmps173
    go_wp2
    refine wp_loop_rounds 4 ?_
    rw[rounds_succ]
    go_wp2
    rw[rounds_succ]
    go_wp2
    rw[rounds_succ]
    go_wp2
    go_ret2
    exact⟨adL Hp.out rfl rfl,rfl⟩
   ·have k2:=aip hk2
    have e3:=akB (r:=r2) (c:=c3) (by omega) (by omega)
    have bd3:=afu (r:=r2) (c:=c3) (m:=32768) (by omega) (by omega)
    generalize acc r2 c3=r3 at *
    obtain⟨bl3,bh3⟩:=bd3
    rw[if_pos (by simp[hk0,hk1,hk2])]at hp
    unfold ajc at hp
    by_cases hlow:r3<65536
    ·rw[if_pos (Or.inl hlow)]at hp
     have Hp:=hid hp
     clear hp hk0 hk1 hk2
     go_enter Tryz.func173,Tryz.ntmps173
     go_wp2
     refine wp_loop_rounds 4 ?_
     rw[rounds_succ]
     go_wp2
     rw[rounds_succ]
     go_wp2
     rw[rounds_succ]
     go_wp2
     rw[rounds_succ]
     go_wp2
     go_ret2
     exact⟨adL Hp.out rfl rfl,rfl⟩
    ·cases hm:aj7 r3
     ·rw[if_pos (Or.inr hm)]at hp
      have Hp:=hid hp
      clear hp hk0 hk1 hk2
      go_enter Tryz.func173,Tryz.ntmps173
      go_wp2
      refine wp_loop_rounds 4 ?_
      rw[rounds_succ]
      go_wp2
      rw[rounds_succ]
      go_wp2
      rw[rounds_succ]
      go_wp2
      rw[rounds_succ]
      go_wp2_with (go_at_call 206;refine(aio r3 _).use ?_;rw[hm])
      go_ret2
      exact⟨adL Hp.out rfl rfl,rfl⟩
     ·rw[if_neg (by rw[hm];simp[hlow])]at hp
      have Hp:=hid hp
      clear hp hk0 hk1 hk2
      go_enter Tryz.func173,Tryz.ntmps173
      go_wp2
      refine wp_loop_rounds 4 ?_
      rw[rounds_succ]
      go_wp2
      rw[rounds_succ]
      go_wp2
      rw[rounds_succ]
      go_wp2
      rw[rounds_succ]
      go_wp2_with (go_at_call 206;refine(aio r3 _).use ?_;rw[hm])
      go_ret2
      exact⟨adL Hp.out rfl rfl,rfl⟩
theorem avV(b:UInt8)(w:World)(hb:240≤b.toNat)(hb2:b.toNat<248):adx [b] w:=by
 unfold adx
 have Hp:Hid (adw [b]=(0,0)):=hid (by
  show(if b.toNat<128 then _ else _)=_
  rw[if_neg (by omega),if_neg (by omega),if_neg (by omega),if_neg (by omega),if_pos (by omega)])
 have hlt:b.toNat<256:=b.toNat_lt
 have t0:((b.toNat:Int)/32==6)=false:=beq_eq_false_iff_ne.2 (by omega)
 have t1:((b.toNat:Int)/16==14)=false:=beq_eq_false_iff_ne.2 (by omega)
 have t2:((b.toNat:Int)/8==30)=true:=beq_iff_eq.2 (by omega)
 have h4:128≤(b.toNat:Int):=by omega
 have e0:=asL hb hb2
 go_enter Tryz.func173,Tryz.ntmps173
 go_wp2
 go_ret2
 exact⟨adL Hp.out rfl rfl,rfl⟩
theorem avW(b c1:UInt8)(w:World)(hb:240≤b.toNat)(hb2:b.toNat<248):adx [b,c1] w:=by
 unfold adx
 have Hp:Hid (adw [b,c1]=(0,0)):=hid (by
  show(if b.toNat<128 then _ else _)=_
  rw[if_neg (by omega),if_neg (by omega),if_neg (by omega),if_neg (by omega),if_pos (by omega)])
 have hlt:b.toNat<256:=b.toNat_lt
 have t0:((b.toNat:Int)/32==6)=false:=beq_eq_false_iff_ne.2 (by omega)
 have t1:((b.toNat:Int)/16==14)=false:=beq_eq_false_iff_ne.2 (by omega)
 have t2:((b.toNat:Int)/8==30)=true:=beq_iff_eq.2 (by omega)
 have h4:128≤(b.toNat:Int):=by omega
 have e0:=asL hb hb2
 go_enter Tryz.func173,Tryz.ntmps173
 go_wp2
 go_ret2
 exact⟨adL Hp.out rfl rfl,rfl⟩
theorem avX(b c1 c2:UInt8)(w:World)(hb:240≤b.toNat)(hb2:b.toNat<248):adx [b,c1,c2] w:=by
 unfold adx
 have Hp:Hid (adw [b,c1,c2]=(0,0)):=hid (by
  show(if b.toNat<128 then _ else _)=_
  rw[if_neg (by omega),if_neg (by omega),if_neg (by omega),if_neg (by omega),if_pos (by omega)])
 have hlt:b.toNat<256:=b.toNat_lt
 have t0:((b.toNat:Int)/32==6)=false:=beq_eq_false_iff_ne.2 (by omega)
 have t1:((b.toNat:Int)/16==14)=false:=beq_eq_false_iff_ne.2 (by omega)
 have t2:((b.toNat:Int)/8==30)=true:=beq_iff_eq.2 (by omega)
 have h4:128≤(b.toNat:Int):=by omega
 have e0:=asL hb hb2
 go_enter Tryz.func173,Tryz.ntmps173
 go_wp2
 go_ret2
 exact⟨adL Hp.out rfl rfl,rfl⟩
theorem avY(l:List UInt8)(w:World)(hl:l.length≤140737488355328):adx l w:=by
 match l,hl with
 |[],_=>exact avQ w
 |b::t,hl=>
  simp only[List.length_cons]at hl
  by_cases h1:b.toNat<128
  ·exact ar0 b t w (by omega) h1
  by_cases h2:b.toNat<192
  ·exact aqF b t w (by omega) (by omega)
  by_cases h3:b.toNat<224
  ·match t,hl with
   |[],_=>exact avS b w (by omega) h3
   |c1::t,hl=>simp only[List.length_cons]at hl;exact ayu b c1 t w (by omega) (by omega) h3
  by_cases h4:b.toNat<240
  ·match t,hl with
   |[],_=>exact avT b w (by omega) h4
   |[c1],_=>exact avU b c1 w (by omega) h4
   |c1::c2::t,hl=>simp only[List.length_cons]at hl;exact ayv b c1 c2 t w (by omega) (by omega) h4
  by_cases h5:b.toNat<248
  ·match t,hl with
   |[],_=>exact avV b w (by omega) h5
   |[c1],_=>exact avW b c1 w (by omega) h5
   |[c1,c2],_=>exact avX b c1 c2 w (by omega) h5
   |c1::c2::c3::t,hl=>simp only[List.length_cons]at hl;exact ayw b c1 c2 c3 t w (by omega) (by omega) h5
  ·exact aqF b t w (by omega) (by omega)
end Go.Proofs.YtmffejnigppbpaaGreatDoor

namespace Go.Proofs.YtmffejnigppbpaaGreatDoor
open Go.RowKit
def afv(r:Int):List UInt8:=
 if r<128 then[acR r]
 else if r<2048 then[acR (192+r/64),acR (128+r%64)]
 else if r<65536 then[acR (224+r/4096),acR (128+r/64%64),acR (128+r%64)]
 else[acR (240+r/262144),acR (128+r/4096%64),acR (128+r/64%64),acR (128+r%64)]
theorem akD{r:Int}(h:aj7 r=true):0≤r∧r≤1114111:=by
 have:=of_decide_eq_true h;omega
theorem agA(low r n:Int):ajc low r n=(0,0)∨ajc low r n=(r,n)∧aj7 r=true∧low≤r:=by
 unfold ajc
 split
 ·exact Or.inl rfl
 ·rename_i h
  right
  refine⟨rfl,?_,by omega⟩
  cases hm:aj7 r
  ·exact absurd (Or.inr hm) h
  ·rfl
theorem adU(l:List UInt8):adw l=(0,0)∨∃r:Int,∃n:Nat,adw l=(r,(n:Int))∧aj7 r=true∧1≤n∧n≤4∧n≤l.length:=by
 match l with
 |[]=>left;rfl
 |b::t=>
  by_cases h1:b.toNat<128
  ·right
   refine⟨b.toNat,1,?_,?_,by omega,by omega,by simp⟩
   ·show(if b.toNat<128 then _ else _)=_
    rw[if_pos h1];rfl
   ·unfold aj7;simp;omega
  by_cases h2:b.toNat<192
  ·left
   show(if b.toNat<128 then _ else _)=_
   rw[if_neg h1,if_pos h2]
  by_cases h3:b.toNat<224
  ·match t with
   |[]=>left;show(if b.toNat<128 then _ else _)=_;rw[if_neg h1,if_neg h2,if_pos h3]
   |c1::t=>
    rw[alC (by omega) h3]
    split
    ·rcases agA 128 (acc ((b.toNat:Int)-192) c1) 2 with h|⟨h,h',_⟩
     ·exact Or.inl h
     ·right;exact⟨_,2,h,h',by omega,by omega,by simp⟩
    ·left;rfl
  by_cases h4:b.toNat<240
  ·match t with
   |[]=>left;show(if b.toNat<128 then _ else _)=_;rw[if_neg h1,if_neg h2,if_neg h3,if_pos h4]
   |[c1]=>left;show(if b.toNat<128 then _ else _)=_;rw[if_neg h1,if_neg h2,if_neg h3,if_pos h4]
   |c1::c2::t=>
    rw[alD (by omega) h4]
    split
    ·rcases agA 2048 (acc (acc ((b.toNat:Int)-224) c1) c2) 3 with h|⟨h,h',_⟩
     ·exact Or.inl h
     ·right;exact⟨_,3,h,h',by omega,by omega,by simp⟩
    ·left;rfl
  by_cases h5:b.toNat<248
  ·match t with
   |[]=>left;show(if b.toNat<128 then _ else _)=_;rw[if_neg h1,if_neg h2,if_neg h3,if_neg h4,if_pos h5]
   |[c1]=>left;show(if b.toNat<128 then _ else _)=_;rw[if_neg h1,if_neg h2,if_neg h3,if_neg h4,if_pos h5]
   |[c1,c2]=>left;show(if b.toNat<128 then _ else _)=_;rw[if_neg h1,if_neg h2,if_neg h3,if_neg h4,if_pos h5]
   |c1::c2::c3::t=>
    rw[alE (by omega) h5]
    split
    ·rcases agA 65536 (acc (acc (acc ((b.toNat:Int)-240) c1) c2) c3) 4 with h|⟨h,h',_⟩
     ·exact Or.inl h
     ·right;exact⟨_,4,h,h',by omega,by omega,by simp⟩
    ·left;rfl
  ·left
   show(if b.toNat<128 then _ else _)=_
   rw[if_neg h1,if_neg h2,if_neg h3,if_neg h4,if_neg h5]
def Ut(l:List UInt8):Nat:=(adw l).2.toNat
def UL(l:List UInt8):Option Nat:=
 match l with
 |[]=>none
 |b::t=>if h:Ut (b::t)=0 then some 0 else(UL ((b::t).drop (Ut (b::t)))).map (·+Ut (b::t))
termination_by l.length
decreasing_by simp;omega
def ayx(l:List UInt8):List Int:=
 match l with
 |[]=>[]
 |b::t=>if h:Ut (b::t)=0 then[] else(adw (b::t)).1::ayx ((b::t).drop (Ut (b::t)))
termination_by l.length
decreasing_by simp;omega
def adf(l:List UInt8)(n:Nat):Nat:=
 match l with
 |[]=>0
 |b::t=>if max (Ut (b::t)) 1≤n then max (Ut (b::t)) 1+adf ((b::t).drop (max (Ut (b::t)) 1)) (n-max (Ut (b::t)) 1)else 0
termination_by l.length
decreasing_by simp;omega
theorem aea:UL []=none:=by rw[UL]
theorem akE{l:List UInt8}(h0:l≠[])(h:Ut l=0):UL l=some 0:=by
 cases l with
 |nil=>exact absurd rfl h0
 |cons b t=>rw[UL,dif_pos h]
theorem aeo{l:List UInt8}(h:Ut l≠0):UL l=(UL (l.drop (Ut l))).map (·+Ut l):=by
 cases l with
 |nil=>exact absurd rfl h
 |cons b t=>rw[UL,dif_neg h]
end Go.Proofs.YtmffejnigppbpaaGreatDoor

set_option maxHeartbeats 1000000
set_option maxRecDepth 100000
namespace Go.Proofs.YtmffejnigppbpaaGreatDoor
open Go.RowKit
theorem ael{l:List UInt8}{r:Int}{n:Nat}(h:adw l=(r,(n:Int))):Ut l=n:=by unfold Ut;rw[h];simp
theorem ao4{l:List UInt8}{r n:Int}(h:adw l=(r,n))(w:World)(hl:l.length≤140737488355328):adV 173 #[.string (S l)] w (.tuple #[.int .i64 r,.int .i64 n]):=by
 have:=avY l w hl;unfold adx at this;rw[h]at this;exact this
def anx(o:Option Nat):Int:=match o with|none=>-1|some k=>(k:Int)
theorem avZ{l:List UInt8}{k n:Nat}{r:Int}(hn:adw (l.drop k)=(r,(n:Int)))(h1:1≤n)(h:UL l=(UL (l.drop k)).map (·+k)):UL l=(UL (l.drop (k+n))).map (·+(k+n)):=by
 rw[h,aeo (by rw[ael hn];omega),ael hn,List.drop_drop,Option.map_map]
 congr 1
 funext x
 simp only[Function.comp]
 omega
theorem av1{l:List UInt8}{k:Nat}(hk:k<l.length)(hn:adw (l.drop k)=(0,0))(h:UL l=(UL (l.drop k)).map (·+k)):UL l=some k:=by
 rw[h,akE (by intro h;have:=congrArg List.length h;simp at this;omega) (by unfold Ut;rw[hn];rfl)]
 simp
theorem axt{l:List UInt8}{k:Nat}(hk:l.length≤k)(h:UL l=(UL (l.drop k)).map (·+k)):UL l=none:=by
 rw[h,List.drop_eq_nil_of_le hk,aea];rfl
theorem alF(l:List UInt8)(w:World)(hl:l.length≤140737488351232):adV 122 #[.string (S l)] w (.int .i64 (anx (UL l))):=by
 go_enter Tryz.func122,Tryz.ntmps122
 go_wp2
 go_loop [3] (fun i=>∃k:Nat,k≤l.length∧i=.int .i64 k∧UL l=(UL (l.drop k)).map (·+k)) (fun i=>l.length-(intOf i).toNat)
 case atStart=>exact⟨0,Nat.zero_le _,rfl,by simp⟩
 case round=>
  obtain⟨k,hk,rfl,hb⟩:=hrel
  have Hb:=hid hb;clear hb
  by_cases hlt:k<l.length
  ·rcases adU (l.drop k)with hn|⟨r,n,hn,hm,n1,n4,nl⟩
   ·have Hn:=hid hn
    have c:=ao4 hn
    have C:=hid c
    clear hn c
    go_wp2_with (go_at_call 173;refine(C.out _ (by simp;omega)).use ?_)
    go_ret
    exact⟨adZ (by rw[av1 hlt Hn.out Hb.out];rfl),rfl⟩
   ·have Hn:=hid hn
    have c:=ao4 hn
    have C:=hid c
    rw[List.length_drop]at nl
    have z:((n:Int)==0)=false:=beq_eq_false_iff_ne.2 (by omega)
    clear hn c hm
    go_wp2_with (go_at_call 173;refine(C.out _ (by simp;omega)).use ?_)
    go_round
    case rel=>exact⟨k+n,by omega,by go_num,avZ Hn.out n1 Hb.out⟩
    case measure=>simp[intOf];omega
  ·go_wp2
   go_ret
   exact⟨adZ (by rw[axt (by omega) Hb.out];rfl),rfl⟩
theorem akF{l:List UInt8}{n m:Nat}(h0:l≠[])(hm:max (Ut l) 1=m)(h:m≤n):adf l n=m+adf (l.drop m) (n-m):=by
 cases l with
 |nil=>exact absurd rfl h0
 |cons b t=>rw[adf,hm,if_pos h]
theorem aiq{l:List UInt8}{n m:Nat}(h0:l≠[])(hm:max (Ut l) 1=m)(h:¬m≤n):adf l n=0:=by
 cases l with
 |nil=>exact absurd rfl h0
 |cons b t=>rw[adf,hm,if_neg h]
theorem amU(n:Nat):adf [] n=0:=by rw[adf]
theorem ao5{l:List UInt8}{k:Nat}(h:k<l.length):l.drop k≠[]:=by
 intro e;have:=congrArg List.length e;simp at this;omega
theorem aqG(l:List UInt8)(h:l≠[]):∃r:Int,∃n m:Nat,adw l=(r,(n:Int))∧max (Ut l) 1=m∧max n 1=m∧1≤m∧m≤4∧m≤l.length:=by
 have hl:1≤l.length:=by cases l with|nil=>exact absurd rfl h|cons _ _=>simp
 rcases adU l with hn|⟨r,n,hn,_,n1,n4,nl⟩
 ·exact⟨0,0,1,hn,by rw[ael hn];rfl,rfl,by omega,by omega,hl⟩
 ·exact⟨r,n,n,hn,by rw[ael hn];omega,by omega,n1,n4,nl⟩
theorem axu(l:List UInt8)(n:Nat)(w:World)(hl:l.length≤140737488351232)(hn:n≤1000000):adV 127 #[.string (S l),.int .i64 n] w (.int .i64 (adf l n)):=by
 go_enter Tryz.func127,Tryz.ntmps127
 go_wp2
 go_loop [5] (fun i=>∃k:Nat,k≤l.length∧k≤n∧i=.int .i64 k∧adf l n=k+adf (l.drop k) (n-k)) (fun i=>l.length-(intOf i).toNat)
 case atStart=>exact⟨0,Nat.zero_le _,Nat.zero_le _,rfl,by simp⟩
 case round=>
  obtain⟨k,hk,hkn,rfl,hb⟩:=hrel
  have Hb:=hid hb;clear hb
  by_cases hlt:k<l.length
  ·obtain⟨r,j,m,hnx,hm,hjm,m1,m4,ml⟩:=aqG (l.drop k) (ao5 hlt)
   have c:=ao4 hnx
   have C:=hid c
   rw[List.length_drop]at ml
   have Hm:=hid hm
   have hmx:max (j:Int) 1=(m:Int):=by omega
   clear hnx c hm hjm
   by_cases hfit:k+m≤n
   ·go_wp2_with (go_at_call 173;refine(C.out _ (by simp;omega)).use ?_)
    all_goals go_round
    all_goals try (case measure=>simp[intOf];omega)
    all_goals
     refine⟨k+m,by omega,by omega,by congr 1;omega,?_⟩
     rw[Hb.out,akF (ao5 hlt) Hm.out (by omega),List.drop_drop]
     have:n-k-m=n-(k+m):=by omega
     rw[this];omega
   ·go_wp2_with (go_at_call 173;refine(C.out _ (by simp;omega)).use ?_)
    all_goals go_ret
    all_goals exact⟨adZ (by rw[Hb.out,aiq (ao5 hlt) Hm.out (by omega)];rfl),rfl⟩
  ·go_wp2
   go_ret
   exact⟨adZ (by rw[Hb.out,List.drop_eq_nil_of_le (by omega),amU];rfl),rfl⟩
theorem av2:(Tryz.prog.info? 3).map (fun i=>(i.zero,i.size,i.bytes))=some (some (.int .i64 0),1,8):=by kernel_rfl
def adh(w:World)(v:Value)(xs:List Int):Prop:=
 (v=.slice none 0 0∧xs=[])∨∃b cap,v=.slice (some ⟨b,0,none⟩) xs.length cap∧b<w.heap.size∧xs≠[]∧∀j (h:j<xs.length),w.cell? ⟨b,j,none⟩=some (.int .i64 xs[j])
theorem adh.grow{w w':World}{v:Value}{xs:List Int}(h:adh w v xs)(g:G w w'):adh w' v xs:=by
 rcases h with h|⟨b,cap,h1,h2,h4,h3⟩
 ·exact Or.inl h
 ·exact Or.inr ⟨b,cap,h1,Nat.lt_of_lt_of_le h2 g.size,h4,fun j hj=>by rw[g.cell h2];exact h3 j hj⟩
theorem adh.own{w wr:World}{v:Value}{xs:List Int}(h:wr.ownsRow w.heap.size 3 1 v xs.length (xs.map (Value.int .i64)))(h0:xs=[]→v=.slice none 0 0):adh wr v xs:=by
 by_cases hx:xs=[]
 ·exact Or.inl ⟨h0 hx,hx⟩
 ·right
  obtain⟨h1,h2⟩:=h
  rcases h2 with⟨h3,h4⟩|⟨g,cap,cur,hv,hb,hh,hn,hm,hcs,ht⟩
  ·exact absurd (List.eq_nil_of_length_eq_zero h4) hx
  ·have hlt:g<wr.heap.size:=by
    rcases Nat.lt_or_ge g wr.heap.size with h|h
    ·exact h
    ·rw[Array.getElem?_eq_none h]at hh;cases hh
   refine⟨g,cap,hv,hlt,hx,fun j hj=>?_⟩
   subst hv
   have:=World.ownsRow.cellAt (w:=wr) (base:=w.heap.size) (e:=3) (size:=1) (g:=g) (n:=xs.length) (cap:=cap) (xs:=xs.map (Value.int .i64)) ⟨h1,Or.inr ⟨g,cap,cur,rfl,hb,hh,hn,hm,hcs,ht⟩⟩ j (by omega)
   rw[this]
   simp[List.getElem?_eq_getElem hj]
def air(l:List UInt8)(v:Value)(w':World):Prop:=
 match UL l with
 |none=>∃s,v=.tuple #[s,.nilIface]∧adh w' s (ayx l)
 |some k=>∃e,v=.tuple #[.slice none 0 0,e]∧UE w' e 3 k
theorem air.good{l:List UInt8}{s:Value}{w':World}(h:UL l=none)(hs:adh w' s (ayx l)):air l (.tuple #[s,.nilIface]) w':=by
 unfold air;rw[h];exact⟨s,rfl,hs⟩
theorem air.bad{l:List UInt8}{k:Nat}{e:Value}{w':World}(h:UL l=some k)(hs:UE w' e 3 k):air l (.tuple #[.slice none 0 0,e]) w':=by
 unfold air;rw[h];exact⟨e,rfl,hs⟩
end Go.Proofs.YtmffejnigppbpaaGreatDoor

namespace Go.Proofs.YtmffejnigppbpaaGreatDoor
open Go.RowKit
theorem ae0{c:UInt8}:isC c=true↔128≤c.toNat∧c.toNat<192:=by
 unfold isC;rw[beq_iff_eq];omega
theorem akG{low r n:Int}{x:Int}{m:Nat}(h:ajc low r n=(x,(m:Int)))(hm:1≤m):x=r∧(m:Int)=n∧low≤r∧aj7 r=true:=by
 rcases agA low r n with h'|⟨h',h2,h3⟩
 ·rw[h']at h;have:=congrArg Prod.snd h;simp at this;omega
 ·rw[h']at h
  have e1:=congrArg Prod.fst h
  have e2:=congrArg Prod.snd h
  exact⟨e1.symm,e2.symm,h3,h2⟩
theorem amV{r:Int}(h:r<128):afv r=[acR r]:=by unfold afv;rw[if_pos h]
theorem amW{r:Int}(h1:¬r<128)(h2:r<2048):afv r=[acR (192+r/64),acR (128+r%64)]:=by unfold afv;rw[if_neg h1,if_pos h2]
theorem amX{r:Int}(h1:¬r<128)(h2:¬r<2048)(h3:r<65536):afv r=[acR (224+r/4096),acR (128+r/64%64),acR (128+r%64)]:=by unfold afv;rw[if_neg h1,if_neg h2,if_pos h3]
theorem amY{r:Int}(h1:¬r<128)(h2:¬r<2048)(h3:¬r<65536):afv r=[acR (240+r/262144),acR (128+r/4096%64),acR (128+r/64%64),acR (128+r%64)]:=by unfold afv;rw[if_neg h1,if_neg h2,if_neg h3]
theorem afM{l:List UInt8}{r:Int}{n:Nat}(h:adw l=(r,(n:Int)))(hn:1≤n):afv r=l.take n:=by
 have hz:∀ {p:Int×Int},p=(0,0)→p=(r,(n:Int))→afv r=l.take n:=by
  intro p h1 h2;rw[h1]at h2;have:=congrArg Prod.snd h2;simp at this;omega
 match l with
 |[]=>exact hz rfl h
 |b::t=>
  by_cases h1:b.toNat<128
  ·have e:adw (b::t)=((b.toNat:Int),1):=by show(if b.toNat<128 then _ else _)=_;rw[if_pos h1]
   rw[e]at h
   have e1:=congrArg Prod.fst h
   have e2:=congrArg Prod.snd h
   simp only at e1 e2
   have:n=1:=by omega
   subst this
   rw[amV (by omega),←e1,ad1 rfl];rfl
  by_cases h2:b.toNat<192
  ·exact hz (by show(if b.toNat<128 then _ else _)=_;rw[if_neg h1,if_pos h2]) h
  by_cases h3:b.toNat<224
  ·match t,h with
   |[],h=>exact hz (by show(if b.toNat<128 then _ else _)=_;rw[if_neg h1,if_neg h2,if_pos h3]) h
   |c1::t,h=>
    rw[alC (by omega) h3]at h
    split at h
    ·rename_i hc
     obtain⟨rfl,hk,hlow,_⟩:=akG h hn
     have:n=2:=by omega
     subst this
     have k1:=ae0.1 hc
     unfold acc at *
     rw[amW (by omega) (by omega),ad1 (c:=b) (by omega),ad1 (c:=c1) (by omega)];rfl
    ·exact hz rfl h
  by_cases h4:b.toNat<240
  ·match t,h with
   |[],h=>exact hz (by show(if b.toNat<128 then _ else _)=_;rw[if_neg h1,if_neg h2,if_neg h3,if_pos h4]) h
   |[c1],h=>exact hz (by show(if b.toNat<128 then _ else _)=_;rw[if_neg h1,if_neg h2,if_neg h3,if_pos h4]) h
   |c1::c2::t,h=>
    rw[alD (by omega) h4]at h
    split at h
    ·rename_i hc
     obtain⟨rfl,hk,hlow,_⟩:=akG h hn
     have:n=3:=by omega
     subst this
     have k1:=ae0.1 hc.1
     have k2:=ae0.1 hc.2
     unfold acc at *
     rw[amX (by omega) (by omega) (by omega),ad1 (c:=b) (by omega),ad1 (c:=c1) (by omega),ad1 (c:=c2) (by omega)];rfl
    ·exact hz rfl h
  by_cases h5:b.toNat<248
  ·match t,h with
   |[],h=>exact hz (by show(if b.toNat<128 then _ else _)=_;rw[if_neg h1,if_neg h2,if_neg h3,if_neg h4,if_pos h5]) h
   |[c1],h=>exact hz (by show(if b.toNat<128 then _ else _)=_;rw[if_neg h1,if_neg h2,if_neg h3,if_neg h4,if_pos h5]) h
   |[c1,c2],h=>exact hz (by show(if b.toNat<128 then _ else _)=_;rw[if_neg h1,if_neg h2,if_neg h3,if_neg h4,if_pos h5]) h
   |c1::c2::c3::t,h=>
    rw[alE (by omega) h5]at h
    split at h
    ·rename_i hc
     obtain⟨rfl,hk,hlow,_⟩:=akG h hn
     have:n=4:=by omega
     subst this
     have k1:=ae0.1 hc.1
     have k2:=ae0.1 hc.2.1
     have k3:=ae0.1 hc.2.2
     unfold acc at *
     rw[amY (by omega) (by omega) (by omega),ad1 (c:=b) (by omega),ad1 (c:=c1) (by omega),ad1 (c:=c2) (by omega),ad1 (c:=c3) (by omega)];rfl
    ·exact hz rfl h
  ·exact hz (by show(if b.toNat<128 then _ else _)=_;rw[if_neg h1,if_neg h2,if_neg h3,if_neg h4,if_neg h5]) h
theorem ao6{low r n:Int}(h:low≤r)(hm:aj7 r=true):ajc low r n=(r,n):=by
 unfold ajc;rw[if_neg (by rw[hm];simp;omega)]
theorem ajd{r:Int}(hm:aj7 r=true)(more:List UInt8):adw (afv r++more)=(r,((afv r).length:Int)):=by
 obtain⟨h0,h9⟩:=akD hm
 by_cases h1:r<128
 ·rw[amV h1]
  have:=ac9 h0 (by omega)
  show(if (acR r).toNat<128 then(((acR r).toNat:Int),(1:Int))else _)=_
  rw[if_pos (by omega),this];rfl
 by_cases h2:r<2048
 ·rw[amW h1 h2]
  have a:=ac9 (n:=192+r/64) (by omega) (by omega)
  have b:=ac9 (n:=128+r%64) (by omega) (by omega)
  show adw (_::_::more)=_
  rw[alC (by omega) (by omega),if_pos (ae0.2 (by omega))]
  unfold acc
  rw[a,b]
  have e:(192+r/64-192)*64+(128+r%64)%64=r:=by omega
  rw[e,ao6 (by omega) hm];rfl
 by_cases h3:r<65536
 ·rw[amX h1 h2 h3]
  have a:=ac9 (n:=224+r/4096) (by omega) (by omega)
  have b:=ac9 (n:=128+r/64%64) (by omega) (by omega)
  have c:=ac9 (n:=128+r%64) (by omega) (by omega)
  show adw (_::_::_::more)=_
  rw[alD (by omega) (by omega),if_pos ⟨ae0.2 (by omega),ae0.2 (by omega)⟩]
  unfold acc
  rw[a,b,c]
  have e:((224+r/4096-224)*64+(128+r/64%64)%64)*64+(128+r%64)%64=r:=by omega
  rw[e,ao6 (by omega) hm];rfl
 ·rw[amY h1 h2 h3]
  have a:=ac9 (n:=240+r/262144) (by omega) (by omega)
  have b:=ac9 (n:=128+r/4096%64) (by omega) (by omega)
  have c:=ac9 (n:=128+r/64%64) (by omega) (by omega)
  have d:=ac9 (n:=128+r%64) (by omega) (by omega)
  show adw (_::_::_::_::more)=_
  rw[alE (by omega) (by omega),if_pos ⟨ae0.2 (by omega),ae0.2 (by omega),ae0.2 (by omega)⟩]
  unfold acc
  rw[a,b,c,d]
  have e:(((240+r/262144-240)*64+(128+r/4096%64)%64)*64+(128+r/64%64)%64)*64+(128+r%64)%64=r:=by omega
  rw[e,ao6 (by omega) hm];rfl
theorem aqH{l:List UInt8}(h:Ut l≠0)(m:List UInt8):adw (l++m)=adw l:=by
 rcases adU l with hn|⟨r,n,hn,hm,n1,n4,nl⟩
 ·exact absurd (by unfold Ut;rw[hn];rfl) h
 ·have e:=afM hn n1
  have hl:l=l.take n++l.drop n:=(List.take_append_drop n l).symm
  rw[hn]
  have e2:l++m=afv r++(l.drop n++m):=by rw[e,←List.append_assoc,List.take_append_drop]
  rw[e2,ajd hm]
  rw[e,List.length_take,Nat.min_eq_left nl]
theorem ak9{l:List UInt8}(h:Ut l≠0)(m:List UInt8):Ut (l++m)=Ut l:=by
 unfold Ut;rw[aqH h m]
theorem alG(l:List UInt8):Ut l≤l.length:=by
 rcases adU l with hn|⟨r,n,hn,_,_,_,nl⟩
 ·unfold Ut;rw[hn];simp
 ·rw[ael hn];exact nl
theorem amZ{p:List UInt8→Prop}(nil:p [])(step:∀l,Ut l≠0→p (l.drop (Ut l))→p l):∀l,UL l=none→p l:=by
 have key:∀n,∀l:List UInt8,l.length≤n→UL l=none→p l:=by
  intro n
  induction n with
  |zero=>intro l hl _;cases l with|nil=>exact nil|cons _ _=>simp at hl
  |succ n ih=>
   intro l hl hb
   by_cases h0:l=[]
   ·subst h0;exact nil
   ·by_cases hs:Ut l=0
    ·rw[akE h0 hs]at hb;cases hb
    ·refine step l hs (ih _ ?_ ?_)
     ·simp;omega
     ·rw[aeo hs]at hb
      cases hd:UL (l.drop (Ut l))with
      |none=>rfl
      |some x=>rw[hd]at hb;cases hb
 exact fun l hb=>key l.length l (Nat.le_refl _) hb
theorem ar1{a b:List UInt8}(ha:UL a=none):UL (a++b)=(UL b).map (·+a.length):=by
 refine amZ (p:=fun a=>UL (a++b)=(UL b).map (·+a.length)) (by simp) ?_ a ha
 intro l hs ih
 rw[aeo (by rw[ak9 hs];exact hs),ak9 hs,List.drop_append_of_le_length (alG l),ih,Option.map_map]
 congr 1
 funext x
 have:=alG l
 simp;omega
theorem ae1{a b:List UInt8}(ha:UL a=none)(hb:UL b=none):UL (a++b)=none:=by rw[ar1 ha,hb];rfl
theorem aqI{l:List UInt8}(h:UL l=none):∀n,adf l n≤n∧adf l n≤l.length∧UL (l.take (adf l n))=none∧UL (l.drop (adf l n))=none∧(adf l n=l.length∨n<adf l n+Ut (l.drop (adf l n))):=by
 refine amZ (p:=fun l=>∀n,adf l n≤n∧adf l n≤l.length∧UL (l.take (adf l n))=none∧UL (l.drop (adf l n))=none∧(adf l n=l.length∨n<adf l n+Ut (l.drop (adf l n)))) ?_ ?_ l h
 ·intro n;rw[amU];simp[aea]
 ·intro l hs ih n
  have h0:l≠[]:=by intro e;subst e;exact hs rfl
  have hm:max (Ut l) 1=Ut l:=by omega
  have hle:=alG l
  by_cases hf:Ut l≤n
  ·obtain⟨i1,i2,i3,i4,i5⟩:=ih (n-Ut l)
   rw[akF h0 hm hf]
   generalize adf (l.drop (Ut l)) (n-Ut l)=k at *
   rw[List.length_drop]at i2
   rw[List.drop_drop]at i4 i5
   rw[List.length_drop]at i5
   refine⟨by omega,by omega,?_,i4,by omega⟩
   rw[List.take_add]
   have e1:UL (l.take (Ut l))=none:=by
    rcases adU l with hn|⟨r,j,hn,hr,n1,_,nl⟩
    ·exact absurd (by unfold Ut;rw[hn];rfl) hs
    ·rw[ael hn]
     have hp:=afM hn n1
     have hnx:=ajd hr []
     rw[List.append_nil,hp]at hnx
     have hj:(l.take j).length=j:=by simp;omega
     rw[hj]at hnx
     rw[aeo (by rw[ael hnx];omega),ael hnx,List.drop_eq_nil_of_le (by omega),aea];rfl
   exact ae1 e1 i3
  ·rw[aiq h0 hm hf]
   refine⟨by omega,by omega,by simp[aea],?_,Or.inr (by simp;omega)⟩
   simp only[List.drop_zero]
   rw[aeo hs]
   obtain⟨_,_,_,i4,_⟩:=ih 0
   have:UL (l.drop (Ut l))=none:=by
    cases hd:UL (l.drop (Ut l))with
    |none=>rfl
    |some x=>
     exfalso
     have hc:=aiq (l:=l.drop (Ut l)) (n:=0) (m:=max (Ut (l.drop (Ut l))) 1)
     by_cases e0:l.drop (Ut l)=[]
     ·rw[e0,aea]at hd;cases hd
     ·rw[hc e0 rfl (by omega),List.drop_zero,hd]at i4;cases i4
   rw[this];rfl
end Go.Proofs.YtmffejnigppbpaaGreatDoor
