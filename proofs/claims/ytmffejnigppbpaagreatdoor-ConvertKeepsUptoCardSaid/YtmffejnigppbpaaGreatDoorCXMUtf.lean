/-
  Texts merged into one: Utf, Utf2, Utf3, UtfPlain.
-/
import Derived.Test.YtmffejnigppbpaaGreatDoorCXMA59
set_option linter.unusedVariables false
set_option linter.unusedSimpArgs false
set_option maxHeartbeats 1000000
set_option maxRecDepth 100000
namespace Go.Proofs.YtmffejnigppbpaaGreatDoor
open Go.RowKit
def Dl(r:Int):Bool:=decide (0≤r∧r≤1114111∧(r<55296∨57343<r))
theorem zf(r:Int)(w:World):nT 206 #[.int .i64 r] w (.bool (Dl r)):=by
 go_enter Tryz.func206,Tryz.ntmps206
 go_wp2
 all_goals go_ret
 all_goals exact⟨cO (by unfold Dl;rw[Bool.eq_iff_iff];simp;omega),rfl⟩
def isC(c:UInt8):Bool:=(c.toNat:Int)/64==2
def AV(low r:Int)(n:Int):Int×Int:=if r<low∨Dl r=false then(0,0)else(r,n)
def acc(r:Int)(c:UInt8):Int:=r*64+(c.toNat:Int)%64
def kQ:List UInt8→Int×Int
 |[]=>(0,0)
 |b::t=>
  if b.toNat<128 then((b.toNat:Int),1)
  else if b.toNat<192 then(0,0)
  else if b.toNat<224 then(match t with
   |c1::_=>if isC c1=true then AV 128 (acc ((b.toNat:Int)-192) c1) 2 else(0,0)
   |_=>(0,0))
  else if b.toNat<240 then(match t with
   |c1::c2::_=>if isC c1=true∧isC c2=true then AV 2048 (acc (acc ((b.toNat:Int)-224) c1) c2) 3 else(0,0)
   |_=>(0,0))
  else if b.toNat<248 then(match t with
   |c1::c2::c3::_=>if isC c1=true∧isC c2=true∧isC c3=true then AV 65536 (acc (acc (acc ((b.toNat:Int)-240) c1) c2) c3) 4 else(0,0)
   |_=>(0,0))
  else(0,0)
theorem qp{r:Int}{c:UInt8}{m:Int}(h0:0≤r)(h1:r<m):0≤acc r c∧acc r c<m*64:=by
 unfold acc;omega
theorem Ep{r:Int}{c:UInt8}(h0:0≤r)(h1:r<16777216):bits .or .i64 (r*64) ((c.toNat:Int)%64)=acc r c:=
 pg 6 _ _ (by omega) (by simp) (by omega) (by omega) (by omega) (by omega)
theorem kW{a b:Value}{p:Int×Int}{x y:Int}(h:p=(x,y))(ha:a=.int .i64 x)(hb:b=.int .i64 y) :
  Ending.returned (.tuple #[a,b])=.returned (.tuple #[.int .i64 p.1,.int .i64 p.2]):=by rw[h,ha,hb]
def kz(l:List UInt8)(w:World):Prop:=nT 173 #[.string (S l)] w (.tuple #[.int .i64 (kQ l).1,.int .i64 (kQ l).2])
theorem YV(w:World):kz [] w:=by
 unfold kz
 go_enter Tryz.func173,Tryz.ntmps173
 go_wp2
 go_ret2
 exact⟨rfl,rfl⟩
theorem TJ(b:UInt8)(t:List UInt8)(w:World)(ht:t.length≤140737488355328)(hb:b.toNat<128):kz (b::t) w:=by
 unfold kz
 have hp:Hid (kQ (b::t)=((b.toNat:Int),1)):=hid (by show(if b.toNat<128 then _ else _)=_;rw[if_pos hb])
 go_enter Tryz.func173,Tryz.ntmps173
 go_wp2
 go_ret2
 exact⟨kW hp.out rfl rfl,rfl⟩
theorem Qp(b:UInt8)(t:List UInt8)(w:World)(ht:t.length≤140737488355328)(hb:128≤b.toNat∧b.toNat<192∨248≤b.toNat):kz (b::t) w:=by
 unfold kz
 have hp:Hid (kQ (b::t)=(0,0)):=hid (by
  show(if b.toNat<128 then _ else _)=_
  rcases hb with hb|hb
  ·rw[if_neg (by omega),if_pos (by omega)]
  ·rw[if_neg (by omega),if_neg (by omega),if_neg (by omega),if_neg (by omega),if_neg (by omega)])
 have hlt:b.toNat<256:=b.toNat_lt
 have h1:((b.toNat:Int)/32==6)=false:=beq_eq_false_iff_ne.2 (by omega)
 have h2:((b.toNat:Int)/16==14)=false:=beq_eq_false_iff_ne.2 (by omega)
 have h3:((b.toNat:Int)/8==30)=false:=beq_eq_false_iff_ne.2 (by omega)
 have h4:128≤(b.toNat:Int):=by omega
 clear hb
 go_enter Tryz.func173,Tryz.ntmps173
 go_wp2
 go_ret2
 exact⟨kW hp.out rfl rfl,rfl⟩
theorem aaO{b:UInt8}(h:192≤b.toNat)(h':b.toNat<224):bits .and .i64 (b.toNat:Int) 31=(b.toNat:Int)-192:=by
 have:=lK 5 (by omega) (b.toNat:Int) 31 (by omega) (by omega) rfl
 omega
theorem YW{b:UInt8}(h:224≤b.toNat)(h':b.toNat<240):bits .and .i64 (b.toNat:Int) 15=(b.toNat:Int)-224:=by
 have:=lK 4 (by omega) (b.toNat:Int) 15 (by omega) (by omega) rfl
 omega
theorem Vo{b:UInt8}(h:240≤b.toNat)(h':b.toNat<248):bits .and .i64 (b.toNat:Int) 7=(b.toNat:Int)-240:=by
 have:=lK 3 (by omega) (b.toNat:Int) 7 (by omega) (by omega) rfl
 omega
theorem Es{c:UInt8}(h:isC c=false):((c.toNat:Int)/64 != 2)=true:=by unfold isC at h;simp only[bne,h];rfl
theorem zh{c:UInt8}(h:isC c=true):((c.toNat:Int)/64 != 2)=false:=by unfold isC at h;simp only[bne,h];rfl
theorem F6{b c1:UInt8}{t:List UInt8}(h:192≤b.toNat)(h':b.toNat<224):kQ (b::c1::t)=if isC c1=true then AV 128 (acc ((b.toNat:Int)-192) c1) 2 else(0,0):=by
 show(if b.toNat<128 then _ else _)=_
 rw[if_neg (by omega),if_neg (by omega),if_pos (by omega)]
theorem F7{b c1 c2:UInt8}{t:List UInt8}(h:224≤b.toNat)(h':b.toNat<240):kQ (b::c1::c2::t)=if isC c1=true∧isC c2=true then AV 2048 (acc (acc ((b.toNat:Int)-224) c1) c2) 3 else(0,0):=by
 show(if b.toNat<128 then _ else _)=_
 rw[if_neg (by omega),if_neg (by omega),if_neg (by omega),if_pos (by omega)]
theorem F8{b c1 c2 c3:UInt8}{t:List UInt8}(h:240≤b.toNat)(h':b.toNat<248):kQ (b::c1::c2::c3::t)=if isC c1=true∧isC c2=true∧isC c3=true then AV 65536 (acc (acc (acc ((b.toNat:Int)-240) c1) c2) c3) 4 else(0,0):=by
 show(if b.toNat<128 then _ else _)=_
 rw[if_neg (by omega),if_neg (by omega),if_neg (by omega),if_neg (by omega),if_pos (by omega)]
theorem abQ(b c1:UInt8)(t:List UInt8)(w:World)(ht:t.length≤140737488355328)(hb:192≤b.toNat)(hb2:b.toNat<224):kz (b::c1::t) w:=by
 unfold kz
 have hp:=F6 (c1:=c1) (t:=t) hb hb2
 have hlt:b.toNat<256:=b.toNat_lt
 have hc1:c1.toNat<256:=c1.toNat_lt
 have t0:((b.toNat:Int)/32==6)=true:=beq_iff_eq.2 (by omega)
 have h4:128≤(b.toNat:Int):=by omega
 have e0:=aaO hb hb2
 cases hk0:isC c1
 ·rw[if_neg (by simp[hk0])]at hp
  have Hp:=hid hp
  have k0:=Es hk0
  clear hp hk0
  go_enter Tryz.func173,Tryz.ntmps173
  go_wp2
  refine wp_loop_rounds 2 ?_
  rw[rounds_succ]
  go_wp2
  go_ret2
  exact⟨kW Hp.out rfl rfl,rfl⟩
 ·have k0:=zh hk0
  have e1:=Ep (r:=((b.toNat:Int)-192)) (c:=c1) (by omega) (by omega)
  have bd1:=qp (r:=((b.toNat:Int)-192)) (c:=c1) (m:=32) (by omega) (by omega)
  generalize acc ((b.toNat:Int)-192) c1=r1 at *
  obtain⟨bl1,bh1⟩:=bd1
  rw[if_pos (by simp[hk0])]at hp
  unfold AV at hp
  by_cases hlow:r1<128
  ·rw[if_pos (Or.inl hlow)]at hp
   have Hp:=hid hp
   clear hp hk0
   go_enter Tryz.func173,Tryz.ntmps173
   go_wp2
   refine wp_loop_rounds 2 ?_
   rw[rounds_succ]
   go_wp2
   rw[rounds_succ]
   go_wp2
   go_ret2
   exact⟨kW Hp.out rfl rfl,rfl⟩
  ·cases hm:Dl r1
   ·rw[if_pos (Or.inr hm)]at hp
    have Hp:=hid hp
    clear hp hk0
    go_enter Tryz.func173,Tryz.ntmps173
    go_wp2
    refine wp_loop_rounds 2 ?_
    rw[rounds_succ]
    go_wp2
    rw[rounds_succ]
    go_wp2_with (go_at_call 206;refine(zf r1 _).use ?_;rw[hm])
    go_ret2
    exact⟨kW Hp.out rfl rfl,rfl⟩
   ·rw[if_neg (by rw[hm];simp[hlow])]at hp
    have Hp:=hid hp
    clear hp hk0
    go_enter Tryz.func173,Tryz.ntmps173
    go_wp2
    refine wp_loop_rounds 2 ?_
    rw[rounds_succ]
    go_wp2
    rw[rounds_succ]
    go_wp2_with (go_at_call 206;refine(zf r1 _).use ?_;rw[hm])
    go_ret2
    exact⟨kW Hp.out rfl rfl,rfl⟩
theorem YX(b:UInt8)(w:World)(hb:192≤b.toNat)(hb2:b.toNat<224):kz [b] w:=by
 unfold kz
 have Hp:Hid (kQ [b]=(0,0)):=hid (by
  show(if b.toNat<128 then _ else _)=_
  rw[if_neg (by omega),if_neg (by omega),if_pos (by omega)])
 have hlt:b.toNat<256:=b.toNat_lt
 have t0:((b.toNat:Int)/32==6)=true:=beq_iff_eq.2 (by omega)
 have h4:128≤(b.toNat:Int):=by omega
 have e0:=aaO hb hb2
 go_enter Tryz.func173,Tryz.ntmps173
 go_wp2
 go_ret2
 exact⟨kW Hp.out rfl rfl,rfl⟩
theorem abR(b c1 c2:UInt8)(t:List UInt8)(w:World)(ht:t.length≤140737488355328)(hb:224≤b.toNat)(hb2:b.toNat<240):kz (b::c1::c2::t) w:=by
 unfold kz
 have hp:=F7 (c1:=c1) (c2:=c2) (t:=t) hb hb2
 have hlt:b.toNat<256:=b.toNat_lt
 have hc1:c1.toNat<256:=c1.toNat_lt
 have hc2:c2.toNat<256:=c2.toNat_lt
 have t0:((b.toNat:Int)/32==6)=false:=beq_eq_false_iff_ne.2 (by omega)
 have t1:((b.toNat:Int)/16==14)=true:=beq_iff_eq.2 (by omega)
 have h4:128≤(b.toNat:Int):=by omega
 have e0:=YW hb hb2
 cases hk0:isC c1
 ·rw[if_neg (by simp[hk0])]at hp
  have Hp:=hid hp
  have k0:=Es hk0
  clear hp hk0
  go_enter Tryz.func173,Tryz.ntmps173
  go_wp2
  refine wp_loop_rounds 3 ?_
  rw[rounds_succ]
  go_wp2
  go_ret2
  exact⟨kW Hp.out rfl rfl,rfl⟩
 ·have k0:=zh hk0
  have e1:=Ep (r:=((b.toNat:Int)-224)) (c:=c1) (by omega) (by omega)
  have bd1:=qp (r:=((b.toNat:Int)-224)) (c:=c1) (m:=16) (by omega) (by omega)
  generalize acc ((b.toNat:Int)-224) c1=r1 at *
  obtain⟨bl1,bh1⟩:=bd1
  cases hk1:isC c2
  ·rw[if_neg (by simp[hk1])]at hp
   have Hp:=hid hp
   have k1:=Es hk1
   clear hp hk0 hk1
   go_enter Tryz.func173,Tryz.ntmps173
   go_wp2
   refine wp_loop_rounds 3 ?_
   rw[rounds_succ]
   go_wp2
   rw[rounds_succ]
   go_wp2
   go_ret2
   exact⟨kW Hp.out rfl rfl,rfl⟩
  ·have k1:=zh hk1
   have e2:=Ep (r:=r1) (c:=c2) (by omega) (by omega)
   have bd2:=qp (r:=r1) (c:=c2) (m:=1024) (by omega) (by omega)
   generalize acc r1 c2=r2 at *
   obtain⟨bl2,bh2⟩:=bd2
   rw[if_pos (by simp[hk0,hk1])]at hp
   unfold AV at hp
   by_cases hlow:r2<2048
   ·rw[if_pos (Or.inl hlow)]at hp
    have Hp:=hid hp
    clear hp hk0 hk1
    go_enter Tryz.func173,Tryz.ntmps173
    go_wp2
    refine wp_loop_rounds 3 ?_
    rw[rounds_succ]
    go_wp2
    rw[rounds_succ]
    go_wp2
    rw[rounds_succ]
    go_wp2
    go_ret2
    exact⟨kW Hp.out rfl rfl,rfl⟩
   ·cases hm:Dl r2
    ·rw[if_pos (Or.inr hm)]at hp
     have Hp:=hid hp
     clear hp hk0 hk1
     go_enter Tryz.func173,Tryz.ntmps173
     go_wp2
     refine wp_loop_rounds 3 ?_
     rw[rounds_succ]
     go_wp2
     rw[rounds_succ]
     go_wp2
     rw[rounds_succ]
     go_wp2_with (go_at_call 206;refine(zf r2 _).use ?_;rw[hm])
     go_ret2
     exact⟨kW Hp.out rfl rfl,rfl⟩
    ·rw[if_neg (by rw[hm];simp[hlow])]at hp
     have Hp:=hid hp
     clear hp hk0 hk1
     go_enter Tryz.func173,Tryz.ntmps173
     go_wp2
     refine wp_loop_rounds 3 ?_
     rw[rounds_succ]
     go_wp2
     rw[rounds_succ]
     go_wp2
     rw[rounds_succ]
     go_wp2_with (go_at_call 206;refine(zf r2 _).use ?_;rw[hm])
     go_ret2
     exact⟨kW Hp.out rfl rfl,rfl⟩
theorem YY(b:UInt8)(w:World)(hb:224≤b.toNat)(hb2:b.toNat<240):kz [b] w:=by
 unfold kz
 have Hp:Hid (kQ [b]=(0,0)):=hid (by
  show(if b.toNat<128 then _ else _)=_
  rw[if_neg (by omega),if_neg (by omega),if_neg (by omega),if_pos (by omega)])
 have hlt:b.toNat<256:=b.toNat_lt
 have t0:((b.toNat:Int)/32==6)=false:=beq_eq_false_iff_ne.2 (by omega)
 have t1:((b.toNat:Int)/16==14)=true:=beq_iff_eq.2 (by omega)
 have h4:128≤(b.toNat:Int):=by omega
 have e0:=YW hb hb2
 go_enter Tryz.func173,Tryz.ntmps173
 go_wp2
 go_ret2
 exact⟨kW Hp.out rfl rfl,rfl⟩
theorem YZ(b c1:UInt8)(w:World)(hb:224≤b.toNat)(hb2:b.toNat<240):kz [b,c1] w:=by
 unfold kz
 have Hp:Hid (kQ [b,c1]=(0,0)):=hid (by
  show(if b.toNat<128 then _ else _)=_
  rw[if_neg (by omega),if_neg (by omega),if_neg (by omega),if_pos (by omega)])
 have hlt:b.toNat<256:=b.toNat_lt
 have t0:((b.toNat:Int)/32==6)=false:=beq_eq_false_iff_ne.2 (by omega)
 have t1:((b.toNat:Int)/16==14)=true:=beq_iff_eq.2 (by omega)
 have h4:128≤(b.toNat:Int):=by omega
 have e0:=YW hb hb2
 go_enter Tryz.func173,Tryz.ntmps173
 go_wp2
 go_ret2
 exact⟨kW Hp.out rfl rfl,rfl⟩
theorem abS(b c1 c2 c3:UInt8)(t:List UInt8)(w:World)(ht:t.length≤140737488355328)(hb:240≤b.toNat)(hb2:b.toNat<248):kz (b::c1::c2::c3::t) w:=by
 unfold kz
 have hp:=F8 (c1:=c1) (c2:=c2) (c3:=c3) (t:=t) hb hb2
 have hlt:b.toNat<256:=b.toNat_lt
 have hc1:c1.toNat<256:=c1.toNat_lt
 have hc2:c2.toNat<256:=c2.toNat_lt
 have hc3:c3.toNat<256:=c3.toNat_lt
 have t0:((b.toNat:Int)/32==6)=false:=beq_eq_false_iff_ne.2 (by omega)
 have t1:((b.toNat:Int)/16==14)=false:=beq_eq_false_iff_ne.2 (by omega)
 have t2:((b.toNat:Int)/8==30)=true:=beq_iff_eq.2 (by omega)
 have h4:128≤(b.toNat:Int):=by omega
 have e0:=Vo hb hb2
 cases hk0:isC c1
 ·rw[if_neg (by simp[hk0])]at hp
  have Hp:=hid hp
  have k0:=Es hk0
  clear hp hk0
  go_enter Tryz.func173,Tryz.ntmps173
  go_wp2
  refine wp_loop_rounds 4 ?_
  rw[rounds_succ]
  go_wp2
  go_ret2
  exact⟨kW Hp.out rfl rfl,rfl⟩
 ·have k0:=zh hk0
  have e1:=Ep (r:=((b.toNat:Int)-240)) (c:=c1) (by omega) (by omega)
  have bd1:=qp (r:=((b.toNat:Int)-240)) (c:=c1) (m:=8) (by omega) (by omega)
  generalize acc ((b.toNat:Int)-240) c1=r1 at *
  obtain⟨bl1,bh1⟩:=bd1
  cases hk1:isC c2
  ·rw[if_neg (by simp[hk1])]at hp
   have Hp:=hid hp
   have k1:=Es hk1
   clear hp hk0 hk1
   go_enter Tryz.func173,Tryz.ntmps173
   go_wp2
   refine wp_loop_rounds 4 ?_
   rw[rounds_succ]
   go_wp2
   rw[rounds_succ]
   go_wp2
   go_ret2
   exact⟨kW Hp.out rfl rfl,rfl⟩
  ·have k1:=zh hk1
   have e2:=Ep (r:=r1) (c:=c2) (by omega) (by omega)
   have bd2:=qp (r:=r1) (c:=c2) (m:=512) (by omega) (by omega)
   generalize acc r1 c2=r2 at *
   obtain⟨bl2,bh2⟩:=bd2
   cases hk2:isC c3
   ·rw[if_neg (by simp[hk2])]at hp
    have Hp:=hid hp
    have k2:=Es hk2
    clear hp hk0 hk1 hk2
    go_enter Tryz.func173,Tryz.ntmps173
    go_wp2
    refine wp_loop_rounds 4 ?_
    rw[rounds_succ]
    go_wp2
    rw[rounds_succ]
    go_wp2
    rw[rounds_succ]
    go_wp2
    go_ret2
    exact⟨kW Hp.out rfl rfl,rfl⟩
   ·have k2:=zh hk2
    have e3:=Ep (r:=r2) (c:=c3) (by omega) (by omega)
    have bd3:=qp (r:=r2) (c:=c3) (m:=32768) (by omega) (by omega)
    generalize acc r2 c3=r3 at *
    obtain⟨bl3,bh3⟩:=bd3
    rw[if_pos (by simp[hk0,hk1,hk2])]at hp
    unfold AV at hp
    by_cases hlow:r3<65536
    ·rw[if_pos (Or.inl hlow)]at hp
     have Hp:=hid hp
     clear hp hk0 hk1 hk2
     go_enter Tryz.func173,Tryz.ntmps173
     go_wp2
     refine wp_loop_rounds 4 ?_
     rw[rounds_succ]
     go_wp2
     rw[rounds_succ]
     go_wp2
     rw[rounds_succ]
     go_wp2
     rw[rounds_succ]
     go_wp2
     go_ret2
     exact⟨kW Hp.out rfl rfl,rfl⟩
    ·cases hm:Dl r3
     ·rw[if_pos (Or.inr hm)]at hp
      have Hp:=hid hp
      clear hp hk0 hk1 hk2
      go_enter Tryz.func173,Tryz.ntmps173
      go_wp2
      refine wp_loop_rounds 4 ?_
      rw[rounds_succ]
      go_wp2
      rw[rounds_succ]
      go_wp2
      rw[rounds_succ]
      go_wp2
      rw[rounds_succ]
      go_wp2_with (go_at_call 206;refine(zf r3 _).use ?_;rw[hm])
      go_ret2
      exact⟨kW Hp.out rfl rfl,rfl⟩
     ·rw[if_neg (by rw[hm];simp[hlow])]at hp
      have Hp:=hid hp
      clear hp hk0 hk1 hk2
      go_enter Tryz.func173,Tryz.ntmps173
      go_wp2
      refine wp_loop_rounds 4 ?_
      rw[rounds_succ]
      go_wp2
      rw[rounds_succ]
      go_wp2
      rw[rounds_succ]
      go_wp2
      rw[rounds_succ]
      go_wp2_with (go_at_call 206;refine(zf r3 _).use ?_;rw[hm])
      go_ret2
      exact⟨kW Hp.out rfl rfl,rfl⟩
theorem Y3(b:UInt8)(w:World)(hb:240≤b.toNat)(hb2:b.toNat<248):kz [b] w:=by
 unfold kz
 have Hp:Hid (kQ [b]=(0,0)):=hid (by
  show(if b.toNat<128 then _ else _)=_
  rw[if_neg (by omega),if_neg (by omega),if_neg (by omega),if_neg (by omega),if_pos (by omega)])
 have hlt:b.toNat<256:=b.toNat_lt
 have t0:((b.toNat:Int)/32==6)=false:=beq_eq_false_iff_ne.2 (by omega)
 have t1:((b.toNat:Int)/16==14)=false:=beq_eq_false_iff_ne.2 (by omega)
 have t2:((b.toNat:Int)/8==30)=true:=beq_iff_eq.2 (by omega)
 have h4:128≤(b.toNat:Int):=by omega
 have e0:=Vo hb hb2
 go_enter Tryz.func173,Tryz.ntmps173
 go_wp2
 go_ret2
 exact⟨kW Hp.out rfl rfl,rfl⟩
theorem Y4(b c1:UInt8)(w:World)(hb:240≤b.toNat)(hb2:b.toNat<248):kz [b,c1] w:=by
 unfold kz
 have Hp:Hid (kQ [b,c1]=(0,0)):=hid (by
  show(if b.toNat<128 then _ else _)=_
  rw[if_neg (by omega),if_neg (by omega),if_neg (by omega),if_neg (by omega),if_pos (by omega)])
 have hlt:b.toNat<256:=b.toNat_lt
 have t0:((b.toNat:Int)/32==6)=false:=beq_eq_false_iff_ne.2 (by omega)
 have t1:((b.toNat:Int)/16==14)=false:=beq_eq_false_iff_ne.2 (by omega)
 have t2:((b.toNat:Int)/8==30)=true:=beq_iff_eq.2 (by omega)
 have h4:128≤(b.toNat:Int):=by omega
 have e0:=Vo hb hb2
 go_enter Tryz.func173,Tryz.ntmps173
 go_wp2
 go_ret2
 exact⟨kW Hp.out rfl rfl,rfl⟩
theorem Y5(b c1 c2:UInt8)(w:World)(hb:240≤b.toNat)(hb2:b.toNat<248):kz [b,c1,c2] w:=by
 unfold kz
 have Hp:Hid (kQ [b,c1,c2]=(0,0)):=hid (by
  show(if b.toNat<128 then _ else _)=_
  rw[if_neg (by omega),if_neg (by omega),if_neg (by omega),if_neg (by omega),if_pos (by omega)])
 have hlt:b.toNat<256:=b.toNat_lt
 have t0:((b.toNat:Int)/32==6)=false:=beq_eq_false_iff_ne.2 (by omega)
 have t1:((b.toNat:Int)/16==14)=false:=beq_eq_false_iff_ne.2 (by omega)
 have t2:((b.toNat:Int)/8==30)=true:=beq_iff_eq.2 (by omega)
 have h4:128≤(b.toNat:Int):=by omega
 have e0:=Vo hb hb2
 go_enter Tryz.func173,Tryz.ntmps173
 go_wp2
 go_ret2
 exact⟨kW Hp.out rfl rfl,rfl⟩
theorem Y6(l:List UInt8)(w:World)(hl:l.length≤140737488355328):kz l w:=by
 match l,hl with
 |[],_=>exact YV w
 |b::t,hl=>
  simp only[List.length_cons]at hl
  by_cases h1:b.toNat<128
  ·exact TJ b t w (by omega) h1
  by_cases h2:b.toNat<192
  ·exact Qp b t w (by omega) (by omega)
  by_cases h3:b.toNat<224
  ·match t,hl with
   |[],_=>exact YX b w (by omega) h3
   |c1::t,hl=>simp only[List.length_cons]at hl;exact abQ b c1 t w (by omega) (by omega) h3
  by_cases h4:b.toNat<240
  ·match t,hl with
   |[],_=>exact YY b w (by omega) h4
   |[c1],_=>exact YZ b c1 w (by omega) h4
   |c1::c2::t,hl=>simp only[List.length_cons]at hl;exact abR b c1 c2 t w (by omega) (by omega) h4
  by_cases h5:b.toNat<248
  ·match t,hl with
   |[],_=>exact Y3 b w (by omega) h5
   |[c1],_=>exact Y4 b c1 w (by omega) h5
   |[c1,c2],_=>exact Y5 b c1 c2 w (by omega) h5
   |c1::c2::c3::t,hl=>simp only[List.length_cons]at hl;exact abS b c1 c2 c3 t w (by omega) (by omega) h5
  ·exact Qp b t w (by omega) (by omega)
end Go.Proofs.YtmffejnigppbpaaGreatDoor

namespace Go.Proofs.YtmffejnigppbpaaGreatDoor
open Go.RowKit
def qE(r:Int):List UInt8:=
 if r<128 then[dL r]
 else if r<2048 then[dL (192+r/64),dL (128+r%64)]
 else if r<65536 then[dL (224+r/4096),dL (128+r/64%64),dL (128+r%64)]
 else[dL (240+r/262144),dL (128+r/4096%64),dL (128+r/64%64),dL (128+r%64)]
theorem Et{r:Int}(h:Dl r=true):0≤r∧r≤1114111:=by
 have:=of_decide_eq_true h;omega
theorem uD(low r n:Int):AV low r n=(0,0)∨AV low r n=(r,n)∧Dl r=true∧low≤r:=by
 unfold AV
 split
 ·exact Or.inl rfl
 ·rename_i h
  right
  refine⟨rfl,?_,by omega⟩
  cases hm:Dl r
  ·exact absurd (Or.inr hm) h
  ·rfl
theorem qc(l:List UInt8):kQ l=(0,0)∨∃r:Int,∃n:Nat,kQ l=(r,(n:Int))∧Dl r=true∧1≤n∧n≤4∧n≤l.length:=by
 match l with
 |[]=>left;rfl
 |b::t=>
  by_cases h1:b.toNat<128
  ·right
   refine⟨b.toNat,1,?_,?_,by omega,by omega,by simp⟩
   ·show(if b.toNat<128 then _ else _)=_
    rw[if_pos h1];rfl
   ·unfold Dl;simp;omega
  by_cases h2:b.toNat<192
  ·left
   show(if b.toNat<128 then _ else _)=_
   rw[if_neg h1,if_pos h2]
  by_cases h3:b.toNat<224
  ·match t with
   |[]=>left;show(if b.toNat<128 then _ else _)=_;rw[if_neg h1,if_neg h2,if_pos h3]
   |c1::t=>
    rw[F6 (by omega) h3]
    split
    ·rcases uD 128 (acc ((b.toNat:Int)-192) c1) 2 with h|⟨h,h',_⟩
     ·exact Or.inl h
     ·right;exact⟨_,2,h,h',by omega,by omega,by simp⟩
    ·left;rfl
  by_cases h4:b.toNat<240
  ·match t with
   |[]=>left;show(if b.toNat<128 then _ else _)=_;rw[if_neg h1,if_neg h2,if_neg h3,if_pos h4]
   |[c1]=>left;show(if b.toNat<128 then _ else _)=_;rw[if_neg h1,if_neg h2,if_neg h3,if_pos h4]
   |c1::c2::t=>
    rw[F7 (by omega) h4]
    split
    ·rcases uD 2048 (acc (acc ((b.toNat:Int)-224) c1) c2) 3 with h|⟨h,h',_⟩
     ·exact Or.inl h
     ·right;exact⟨_,3,h,h',by omega,by omega,by simp⟩
    ·left;rfl
  by_cases h5:b.toNat<248
  ·match t with
   |[]=>left;show(if b.toNat<128 then _ else _)=_;rw[if_neg h1,if_neg h2,if_neg h3,if_neg h4,if_pos h5]
   |[c1]=>left;show(if b.toNat<128 then _ else _)=_;rw[if_neg h1,if_neg h2,if_neg h3,if_neg h4,if_pos h5]
   |[c1,c2]=>left;show(if b.toNat<128 then _ else _)=_;rw[if_neg h1,if_neg h2,if_neg h3,if_neg h4,if_pos h5]
   |c1::c2::c3::t=>
    rw[F8 (by omega) h5]
    split
    ·rcases uD 65536 (acc (acc (acc ((b.toNat:Int)-240) c1) c2) c3) 4 with h|⟨h,h',_⟩
     ·exact Or.inl h
     ·right;exact⟨_,4,h,h',by omega,by omega,by simp⟩
    ·left;rfl
  ·left
   show(if b.toNat<128 then _ else _)=_
   rw[if_neg h1,if_neg h2,if_neg h3,if_neg h4,if_neg h5]
def gI(l:List UInt8):Nat:=(kQ l).2.toNat
def kR(l:List UInt8):Option Nat:=
 match l with
 |[]=>none
 |b::t=>if h:gI (b::t)=0 then some 0 else(kR ((b::t).drop (gI (b::t)))).map (·+gI (b::t))
termination_by l.length
decreasing_by simp;omega
def abT(l:List UInt8):List Int:=
 match l with
 |[]=>[]
 |b::t=>if h:gI (b::t)=0 then[] else(kQ (b::t)).1::abT ((b::t).drop (gI (b::t)))
termination_by l.length
decreasing_by simp;omega
theorem yz:kR []=none:=by rw[kR]
theorem LG{l:List UInt8}(h0:l≠[])(h:gI l=0):kR l=some 0:=by
 cases l with
 |nil=>exact absurd rfl h0
 |cons b t=>rw[kR,dif_pos h]
theorem vT{l:List UInt8}(h:gI l≠0):kR l=(kR (l.drop (gI l))).map (·+gI l):=by
 cases l with
 |nil=>exact absurd rfl h
 |cons b t=>rw[kR,dif_neg h]
end Go.Proofs.YtmffejnigppbpaaGreatDoor

set_option maxHeartbeats 1000000
set_option maxRecDepth 100000
namespace Go.Proofs.YtmffejnigppbpaaGreatDoor
open Go.RowKit
theorem yB{l:List UInt8}{r:Int}{n:Nat}(h:kQ l=(r,(n:Int))):gI l=n:=by unfold gI;rw[h];simp
theorem Vp{l:List UInt8}{r n:Int}(h:kQ l=(r,n))(w:World)(hl:l.length≤140737488355328):nT 173 #[.string (S l)] w (.tuple #[.int .i64 r,.int .i64 n]):=by
 have:=Y6 l w hl;unfold kz at this;rw[h]at this;exact this
def TK(o:Option Nat):Int:=match o with|none=>-1|some k=>(k:Int)
theorem Y7{l:List UInt8}{k n:Nat}{r:Int}(hn:kQ (l.drop k)=(r,(n:Int)))(h1:1≤n)(h:kR l=(kR (l.drop k)).map (·+k)):kR l=(kR (l.drop (k+n))).map (·+(k+n)):=by
 rw[h,vT (by rw[yB hn];omega),yB hn,List.drop_drop,Option.map_map]
 congr 1
 funext x
 simp only[Function.comp]
 omega
theorem Y8{l:List UInt8}{k:Nat}(hk:k<l.length)(hn:kQ (l.drop k)=(0,0))(h:kR l=(kR (l.drop k)).map (·+k)):kR l=some k:=by
 rw[h,LG (by intro h;have:=congrArg List.length h;simp at this;omega) (by unfold gI;rw[hn];rfl)]
 simp
theorem aan{l:List UInt8}{k:Nat}(hk:l.length≤k)(h:kR l=(kR (l.drop k)).map (·+k)):kR l=none:=by
 rw[h,List.drop_eq_nil_of_le hk,yz];rfl
theorem Vq(l:List UInt8)(w:World)(hl:l.length≤140737488351232):nT 122 #[.string (S l)] w (.int .i64 (TK (kR l))):=by
 go_enter Tryz.func122,Tryz.ntmps122
 go_wp2
 go_loop [3] (fun i=>∃k:Nat,k≤l.length∧i=.int .i64 k∧kR l=(kR (l.drop k)).map (·+k)) (fun i=>l.length-(intOf i).toNat)
 case atStart=>exact⟨0,Nat.zero_le _,rfl,by simp⟩
 case round=>
  obtain⟨k,hk,rfl,hb⟩:=hrel
  have Hb:=hid hb;clear hb
  by_cases hlt:k<l.length
  ·rcases qc (l.drop k)with hn|⟨r,n,hn,hm,n1,n4,nl⟩
   ·have Hn:=hid hn
    have c:=Vp hn
    have C:=hid c
    clear hn c
    go_wp2_with (go_at_call 173;refine(C.out _ (by simp;omega)).use ?_)
    go_ret
    exact⟨kX (by rw[Y8 hlt Hn.out Hb.out];rfl),rfl⟩
   ·have Hn:=hid hn
    have c:=Vp hn
    have C:=hid c
    rw[List.length_drop]at nl
    have z:((n:Int)==0)=false:=beq_eq_false_iff_ne.2 (by omega)
    clear hn c hm
    go_wp2_with (go_at_call 173;refine(C.out _ (by simp;omega)).use ?_)
    go_round
    case rel=>exact⟨k+n,by omega,by go_num,Y7 Hn.out n1 Hb.out⟩
    case measure=>simp[intOf];omega
  ·go_wp2
   go_ret
   exact⟨kX (by rw[aan (by omega) Hb.out];rfl),rfl⟩
def AX(w:World)(v:Value)(xs:List Int):Prop:=
 (v=.slice none 0 0∧xs=[])∨∃b cap,v=.slice (some ⟨b,0,none⟩) xs.length cap∧b<w.heap.size∧xs≠[]∧∀j (h:j<xs.length),w.cell? ⟨b,j,none⟩=some (.int .i64 xs[j])
theorem AX.grow{w w':World}{v:Value}{xs:List Int}(h:AX w v xs)(g:G w w'):AX w' v xs:=by
 rcases h with h|⟨b,cap,h1,h2,h4,h3⟩
 ·exact Or.inl h
 ·exact Or.inr ⟨b,cap,h1,Nat.lt_of_lt_of_le h2 g.size,h4,fun j hj=>by rw[g.cell h2];exact h3 j hj⟩
theorem AX.own{w wr:World}{v:Value}{xs:List Int}(h:wr.ownsRow w.heap.size 3 1 v xs.length (xs.map (Value.int .i64)))(h0:xs=[]→v=.slice none 0 0):AX wr v xs:=by
 by_cases hx:xs=[]
 ·exact Or.inl ⟨h0 hx,hx⟩
 ·right
  obtain⟨h1,h2⟩:=h
  rcases h2 with⟨h3,h4⟩|⟨g,cap,cur,hv,hb,hh,hn,hm,hcs,ht⟩
  ·exact absurd (List.eq_nil_of_length_eq_zero h4) hx
  ·have hlt:g<wr.heap.size:=by
    rcases Nat.lt_or_ge g wr.heap.size with h|h
    ·exact h
    ·rw[Array.getElem?_eq_none h]at hh;cases hh
   refine⟨g,cap,hv,hlt,hx,fun j hj=>?_⟩
   subst hv
   have:=World.ownsRow.cellAt (w:=wr) (base:=w.heap.size) (e:=3) (size:=1) (g:=g) (n:=xs.length) (cap:=cap) (xs:=xs.map (Value.int .i64)) ⟨h1,Or.inr ⟨g,cap,cur,rfl,hb,hh,hn,hm,hcs,ht⟩⟩ j (by omega)
   rw[this]
   simp[List.getElem?_eq_getElem hj]
def NP(l:List UInt8)(v:Value)(w':World):Prop:=
 match kR l with
 |none=>∃s,v=.tuple #[s,.nilIface]∧AX w' s (abT l)
 |some k=>∃e,v=.tuple #[.slice none 0 0,e]∧ji w' e 3 k
theorem NP.good{l:List UInt8}{s:Value}{w':World}(h:kR l=none)(hs:AX w' s (abT l)):NP l (.tuple #[s,.nilIface]) w':=by
 unfold NP;rw[h];exact⟨s,rfl,hs⟩
end Go.Proofs.YtmffejnigppbpaaGreatDoor

namespace Go.Proofs.YtmffejnigppbpaaGreatDoor
open Go.RowKit
theorem oI{c:UInt8}:isC c=true↔128≤c.toNat∧c.toNat<192:=by
 unfold isC;rw[beq_iff_eq];omega
theorem Eu{low r n:Int}{x:Int}{m:Nat}(h:AV low r n=(x,(m:Int)))(hm:1≤m):x=r∧(m:Int)=n∧low≤r∧Dl r=true:=by
 rcases uD low r n with h'|⟨h',h2,h3⟩
 ·rw[h']at h;have:=congrArg Prod.snd h;simp at this;omega
 ·rw[h']at h
  have e1:=congrArg Prod.fst h
  have e2:=congrArg Prod.snd h
  exact⟨e1.symm,e2.symm,h3,h2⟩
theorem Je{r:Int}(h:r<128):qE r=[dL r]:=by unfold qE;rw[if_pos h]
theorem Jf{r:Int}(h1:¬r<128)(h2:r<2048):qE r=[dL (192+r/64),dL (128+r%64)]:=by unfold qE;rw[if_neg h1,if_pos h2]
theorem Jg{r:Int}(h1:¬r<128)(h2:¬r<2048)(h3:r<65536):qE r=[dL (224+r/4096),dL (128+r/64%64),dL (128+r%64)]:=by unfold qE;rw[if_neg h1,if_neg h2,if_pos h3]
theorem Jh{r:Int}(h1:¬r<128)(h2:¬r<2048)(h3:¬r<65536):qE r=[dL (240+r/262144),dL (128+r/4096%64),dL (128+r/64%64),dL (128+r%64)]:=by unfold qE;rw[if_neg h1,if_neg h2,if_neg h3]
theorem uF{l:List UInt8}{r:Int}{n:Nat}(h:kQ l=(r,(n:Int)))(hn:1≤n):qE r=l.take n:=by
 have hz:∀ {p:Int×Int},p=(0,0)→p=(r,(n:Int))→qE r=l.take n:=by
  intro p h1 h2;rw[h1]at h2;have:=congrArg Prod.snd h2;simp at this;omega
 match l with
 |[]=>exact hz rfl h
 |b::t=>
  by_cases h1:b.toNat<128
  ·have e:kQ (b::t)=((b.toNat:Int),1):=by show(if b.toNat<128 then _ else _)=_;rw[if_pos h1]
   rw[e]at h
   have e1:=congrArg Prod.fst h
   have e2:=congrArg Prod.snd h
   simp only at e1 e2
   have:n=1:=by omega
   subst this
   rw[Je (by omega),←e1,lX rfl];rfl
  by_cases h2:b.toNat<192
  ·exact hz (by show(if b.toNat<128 then _ else _)=_;rw[if_neg h1,if_pos h2]) h
  by_cases h3:b.toNat<224
  ·match t,h with
   |[],h=>exact hz (by show(if b.toNat<128 then _ else _)=_;rw[if_neg h1,if_neg h2,if_pos h3]) h
   |c1::t,h=>
    rw[F6 (by omega) h3]at h
    split at h
    ·rename_i hc
     obtain⟨rfl,hk,hlow,_⟩:=Eu h hn
     have:n=2:=by omega
     subst this
     have k1:=oI.1 hc
     unfold acc at *
     rw[Jf (by omega) (by omega),lX (c:=b) (by omega),lX (c:=c1) (by omega)];rfl
    ·exact hz rfl h
  by_cases h4:b.toNat<240
  ·match t,h with
   |[],h=>exact hz (by show(if b.toNat<128 then _ else _)=_;rw[if_neg h1,if_neg h2,if_neg h3,if_pos h4]) h
   |[c1],h=>exact hz (by show(if b.toNat<128 then _ else _)=_;rw[if_neg h1,if_neg h2,if_neg h3,if_pos h4]) h
   |c1::c2::t,h=>
    rw[F7 (by omega) h4]at h
    split at h
    ·rename_i hc
     obtain⟨rfl,hk,hlow,_⟩:=Eu h hn
     have:n=3:=by omega
     subst this
     have k1:=oI.1 hc.1
     have k2:=oI.1 hc.2
     unfold acc at *
     rw[Jg (by omega) (by omega) (by omega),lX (c:=b) (by omega),lX (c:=c1) (by omega),lX (c:=c2) (by omega)];rfl
    ·exact hz rfl h
  by_cases h5:b.toNat<248
  ·match t,h with
   |[],h=>exact hz (by show(if b.toNat<128 then _ else _)=_;rw[if_neg h1,if_neg h2,if_neg h3,if_neg h4,if_pos h5]) h
   |[c1],h=>exact hz (by show(if b.toNat<128 then _ else _)=_;rw[if_neg h1,if_neg h2,if_neg h3,if_neg h4,if_pos h5]) h
   |[c1,c2],h=>exact hz (by show(if b.toNat<128 then _ else _)=_;rw[if_neg h1,if_neg h2,if_neg h3,if_neg h4,if_pos h5]) h
   |c1::c2::c3::t,h=>
    rw[F8 (by omega) h5]at h
    split at h
    ·rename_i hc
     obtain⟨rfl,hk,hlow,_⟩:=Eu h hn
     have:n=4:=by omega
     subst this
     have k1:=oI.1 hc.1
     have k2:=oI.1 hc.2.1
     have k3:=oI.1 hc.2.2
     unfold acc at *
     rw[Jh (by omega) (by omega) (by omega),lX (c:=b) (by omega),lX (c:=c1) (by omega),lX (c:=c2) (by omega),lX (c:=c3) (by omega)];rfl
    ·exact hz rfl h
  ·exact hz (by show(if b.toNat<128 then _ else _)=_;rw[if_neg h1,if_neg h2,if_neg h3,if_neg h4,if_neg h5]) h
theorem NQ{low r n:Int}(h:low≤r)(hm:Dl r=true):AV low r n=(r,n):=by
 unfold AV;rw[if_neg (by rw[hm];simp;omega)]
theorem Ji{r:Int}(hm:Dl r=true)(more:List UInt8):kQ (qE r++more)=(r,((qE r).length:Int)):=by
 obtain⟨h0,h9⟩:=Et hm
 by_cases h1:r<128
 ·rw[Je h1]
  have:=dK h0 (by omega)
  show(if (dL r).toNat<128 then(((dL r).toNat:Int),(1:Int))else _)=_
  rw[if_pos (by omega),this];rfl
 by_cases h2:r<2048
 ·rw[Jf h1 h2]
  have a:=dK (n:=192+r/64) (by omega) (by omega)
  have b:=dK (n:=128+r%64) (by omega) (by omega)
  show kQ (_::_::more)=_
  rw[F6 (by omega) (by omega),if_pos (oI.2 (by omega))]
  unfold acc
  rw[a,b]
  have e:(192+r/64-192)*64+(128+r%64)%64=r:=by omega
  rw[e,NQ (by omega) hm];rfl
 by_cases h3:r<65536
 ·rw[Jg h1 h2 h3]
  have a:=dK (n:=224+r/4096) (by omega) (by omega)
  have b:=dK (n:=128+r/64%64) (by omega) (by omega)
  have c:=dK (n:=128+r%64) (by omega) (by omega)
  show kQ (_::_::_::more)=_
  rw[F7 (by omega) (by omega),if_pos ⟨oI.2 (by omega),oI.2 (by omega)⟩]
  unfold acc
  rw[a,b,c]
  have e:((224+r/4096-224)*64+(128+r/64%64)%64)*64+(128+r%64)%64=r:=by omega
  rw[e,NQ (by omega) hm];rfl
 ·rw[Jh h1 h2 h3]
  have a:=dK (n:=240+r/262144) (by omega) (by omega)
  have b:=dK (n:=128+r/4096%64) (by omega) (by omega)
  have c:=dK (n:=128+r/64%64) (by omega) (by omega)
  have d:=dK (n:=128+r%64) (by omega) (by omega)
  show kQ (_::_::_::_::more)=_
  rw[F8 (by omega) (by omega),if_pos ⟨oI.2 (by omega),oI.2 (by omega),oI.2 (by omega)⟩]
  unfold acc
  rw[a,b,c,d]
  have e:(((240+r/262144-240)*64+(128+r/4096%64)%64)*64+(128+r/64%64)%64)*64+(128+r%64)%64=r:=by omega
  rw[e,NQ (by omega) hm];rfl
theorem Qq{l:List UInt8}(h:gI l≠0)(m:List UInt8):kQ (l++m)=kQ l:=by
 rcases qc l with hn|⟨r,n,hn,hm,n1,n4,nl⟩
 ·exact absurd (by unfold gI;rw[hn];rfl) h
 ·have e:=uF hn n1
  have hl:l=l.take n++l.drop n:=(List.take_append_drop n l).symm
  rw[hn]
  have e2:l++m=qE r++(l.drop n++m):=by rw[e,←List.append_assoc,List.take_append_drop]
  rw[e2,Ji hm]
  rw[e,List.length_take,Nat.min_eq_left nl]
theorem Fe{l:List UInt8}(h:gI l≠0)(m:List UInt8):gI (l++m)=gI l:=by
 unfold gI;rw[Qq h m]
theorem NR(l:List UInt8):gI l≤l.length:=by
 rcases qc l with hn|⟨r,n,hn,_,_,_,nl⟩
 ·unfold gI;rw[hn];simp
 ·rw[yB hn];exact nl
theorem Qr{p:List UInt8→Prop}(nil:p [])(step:∀l,gI l≠0→p (l.drop (gI l))→p l):∀l,kR l=none→p l:=by
 have key:∀n,∀l:List UInt8,l.length≤n→kR l=none→p l:=by
  intro n
  induction n with
  |zero=>intro l hl _;cases l with|nil=>exact nil|cons _ _=>simp at hl
  |succ n ih=>
   intro l hl hb
   by_cases h0:l=[]
   ·subst h0;exact nil
   ·by_cases hs:gI l=0
    ·rw[LG h0 hs]at hb;cases hb
    ·refine step l hs (ih _ ?_ ?_)
     ·simp;omega
     ·rw[vT hs]at hb
      cases hd:kR (l.drop (gI l))with
      |none=>rfl
      |some x=>rw[hd]at hb;cases hb
 exact fun l hb=>key l.length l (Nat.le_refl _) hb
theorem TN{a b:List UInt8}(ha:kR a=none):kR (a++b)=(kR b).map (·+a.length):=by
 refine Qr (p:=fun a=>kR (a++b)=(kR b).map (·+a.length)) (by simp) ?_ a ha
 intro l hs ih
 rw[vT (by rw[Fe hs];exact hs),Fe hs,List.drop_append_of_le_length (NR l),ih,Option.map_map]
 congr 1
 funext x
 have:=NR l
 simp;omega
theorem rG{a b:List UInt8}(ha:kR a=none)(hb:kR b=none):kR (a++b)=none:=by rw[TN ha,hb];rfl
end Go.Proofs.YtmffejnigppbpaaGreatDoor
