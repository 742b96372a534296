/-
  Texts of this proof, joined.
-/
import Derived.Test.YtmffkpkgbdcnjaaGreatDoorTopExact01
import Derived.Deep.QuietTactic
import Derived.BigQuiet
import Derived.Laws.Externs
import Derived.Deep.MidRow
set_option linter.unusedVariables false
set_option linter.unusedSimpArgs false
set_option maxRecDepth 100000
set_option maxHeartbeats 20000000
namespace Go.Proofs.YtmffkpkgbdcnjaaGreatDoor
section
section
variable {P:Program} {ops:Array Oper} {Q:Exit->Act->World->Prop} {S:World->Prop}
def vU(P:Program)(ops:Array Oper)(S:World->Prop)(o:Oper)(v:Value)(a:Act): Prop:=
 Region.wanted o (yielded ops a.tmps)=true/\∃ f args,(∀ w,(execOp a.eval o).run P w=.ok (.enter f args) w)/\∀ w,S w->Calls P f args w (fun e w'=>e=.returned v/\S w')
theorem vU.put{o o':Oper}{v u:Value}{a:Act}(hy:vU P ops S o v a)(hs:∀ cs b,o.op≠.select cs b)(h:∀ d,o'.dst=some d->d ∉ o.looksAt ops): vU P ops S o v (a.put o'.dst u):=by
 unfold vU at *
 rw[execOp_put o hs a o'.dst u h,wanted_put o a o'.dst u h];exact hy
end
end
namespace A
open Go.RowKit
theorem BL(x:Int)(w:World): Calls Tryz.prog 358 #[Z x] w fun e w'=>e=.returned (.bool false)/\w=w':=by
 go_enter Tryz.func358,Tryz.ntmps358
 go_wp2
 go_ret;exact⟨rfl,rfl⟩
def bL(x y:Int): Int:=if x < y then -1 else if y < x then 1 else 0
theorem wQ(x y:Int)(w:World): Calls Tryz.prog 319 #[Z x,Z y] w fun e w'=>e=.returned (Z (bL x y))/\w=w':=by
 have fin:(x < y->bL x y = -1)/\(¬ x < y->y < x->bL x y=1)/\(¬ x < y->¬ y < x->bL x y=0):=by unfold bL;refine ⟨fun h=>by rw[if_pos h],fun h h'=>by rw[if_neg h,if_pos h'],fun h h'=>by rw[if_neg h,if_neg h']⟩
 have FIN:=zh fin;clear fin
 go_enter Tryz.func319,Tryz.ntmps319
 go_wp2_with fail;refine(BL _ _).mono ?_;rintro e w1 ⟨rfl,rfl⟩;go_wp2_with fail;refine(BL _ _).mono ?_;rintro e w1 ⟨rfl,rfl⟩
 by_cases h:x < y
 ·go_wp2_with fail
  go_ret;rw[FIN.out.1 h];exact⟨rfl,rfl⟩
 ·by_cases h2:y < x
  ·go_wp2_with fail
   go_ret;rw[FIN.out.2.1 h h2];exact⟨rfl,rfl⟩
  ·go_wp2_with fail
   go_ret;rw[FIN.out.2.2 h h2];exact⟨rfl,rfl⟩
def oU(x y z:Int): Int:=if x≠0 then x else if y≠0 then y else z
theorem SK(x y z:Int)(b c:Nat)(w:World)(h0:w.cell? ⟨b,0,none⟩=some (Z x))(h1:w.cell? ⟨b,1,none⟩=some (Z y))(h2:w.cell? ⟨b,2,none⟩=some (Z z)):
  Calls Tryz.prog 318 #[.slice (some ⟨b,0,none⟩) 3 c] w fun e w'=>e=.returned (Z (oU x y z))/\w=w':=by
 have fin:∀ (u:Int),u=oU x y z->Ending.returned (Z u)=.returned (Z (oU x y z)):=fun u h=>by rw[h]
 have FIN:=zh fin;clear fin
 go_enter Tryz.func318,Tryz.ntmps318
 go_wp2_with fail
 go_loopw [8] (fun i wr=>wr=w/\∃ k:Nat,k<=3/\i=Z k/\(0 < k->x=0)/\(1 < k->y=0)/\(2 < k->z=0)) (fun i _=>3-(intOf i).toNat)
 case atStart=>exact ⟨rfl,0,J,rfl,J,J,J⟩
 case round=>
  obtain⟨rfl,k,hk,rfl,k0,k1,k2⟩:=hrel;rcases(show k=0\/k=1\/k=2\/k=3 by omega) with rfl | rfl | rfl | rfl
  ·by_cases hx:x=0
   ·subst hx
    go_wp2_with fail
    go_roundw
    case rel=>exact ⟨trivial,1,J,by go_num,by simp,J,J⟩
    case measure=>simp[intOf]
   ·have d:(x != 0)=true:=by simp[hx]
    have e:oU x y z=x:=by unfold oU;rw[if_pos hx]
    have HE:=zh e;clear e;go_wp2_with fail;go_ret;rw[HE.out];exact⟨rfl,rfl⟩
  ·have hx:=k0 J
   by_cases hy:y=0
   ·subst hy
    go_wp2_with fail
    go_roundw
    case rel=>exact ⟨trivial,2,J,by go_num,by simp[hx],by simp,J⟩
    case measure=>simp[intOf]
   ·have d:(y != 0)=true:=by simp[hy]
    have HE:=zh (show oU x y z=y by unfold oU;rw[if_neg (by simp[hx]),if_pos hy]);go_wp2_with fail;go_ret;rw[HE.out];exact⟨rfl,rfl⟩
  ·have hx:=k0 J
   have hy:=k1 J
   by_cases hz:z=0
   ·subst hz
    go_wp2_with fail
    go_roundw
    case rel=>exact ⟨trivial,3,J,by go_num,by simp[hx],by simp[hy],by simp⟩
    case measure=>simp[intOf]
   ·have d:(z != 0)=true:=by simp[hz]
    have HE:=zh (show oU x y z=z by unfold oU;rw[if_neg (by simp[hx]),if_neg (by simp[hy])]);go_wp2_with fail;go_ret;rw[HE.out];exact⟨rfl,rfl⟩
  ·have hx:=k0 J
   have hy:=k1 J;have hz:=k2 J;clear k0 k1 k2;have HE:=zh (show oU x y z=0 by unfold oU;rw[if_neg (by simp[hx]),if_neg (by simp[hy]),hz]);go_wp2_with fail;go_ret;rw[HE.out];exact⟨rfl,rfl⟩
theorem Bp(x y c:Int)(hx:0<=x)(hy:0<=y)(hc0:0<=c)(hc:c<=1)(w:World): (callFunc 317 #[.int .u64 x,.int .u64 y,.int .u64 c]).run Tryz.prog w =
  .ok (.value (.tuple #[.int .u64 ((x+y+c)%18446744073709551616),.int .u64 ((x+y+c) / 18446744073709551616)])) w:=by
 rw[run_callFunc_extern Tryz.func317 (by kernel_rfl) (by kernel_rfl) (by kernel_rfl) (e:=add64Entry) (by kernel_rfl),run_add64 x y c hx hy hc0 hc];rfl
theorem GU(x y:Int)(hx:0<=x)(hy:0<=y)(w:World): (callFunc 317 #[.int .u64 x,.int .u64 y,.int .u64 0]).run Tryz.prog w =
  .ok (.value (.tuple #[.int .u64 ((x+y)%18446744073709551616),.int .u64 ((x+y) / 18446744073709551616)])) w:=by
 simpa using Bp x y 0 hx hy (Int.le_refl 0) (by decide) w
def aj(s:Int): Int:=s / 18446744073709551616
def au(s:Int): Int:=s%18446744073709551616
theorem jg(s:Int): 0<=au s:=by unfold au;omega
theorem kS(n:Int)(hn : -9223372036854775808<=n/\n<=9223372036854775807)(w:World): Calls Tryz.prog 172 #[Z n] w fun e w'=>e=.returned (.agg #[Z (aj n),.int .u64 (au n)])/\Below w.heap.size w w':=by
 have e1:n / 9223372036854775808=aj n:=by unfold aj;omega
 have e2:IntKind.u64.wrap n=au n:=by unfold au;simp[IntKind.wrap,IntKind.signed,IntKind.bits]
 go_enter Tryz.func172,Tryz.ntmps172
 go_wp2
 exact bodyPost_ret (v:=.agg #[Z (aj n),.int .u64 (au n)]) (by simp[results,Tryz.results172,go_sem]) rfl ⟨rfl,(Below.refl _ _).alloc (Nat.le_refl _) _⟩
theorem og(h l:Int)(w:World): Calls Tryz.prog 251 #[.agg #[Z h,.int .u64 l]] w fun e w'=>e=.returned (.bool (decide (h < 0)))/\Below w.heap.size w w':=by
 go_enter Tryz.func251,Tryz.ntmps251
 go_wp2
 go_ret;exact⟨rfl,(Below.refl _ _).alloc (Nat.le_refl _) _⟩
def dK(s:Int): Prop:=-170141183460469231731687303715884105728<=s/\s < 170141183460469231731687303715884105728
theorem dK.hi{s:Int}(h:dK s): -9223372036854775808<=aj s/\aj s<=9223372036854775807:=by unfold dK at h;unfold aj;omega
theorem pX(s:Int): au s < 18446744073709551616:=by unfold au;omega
theorem dU{s:Int}: aj s < 0↔s < 0:=by unfold aj;omega
def mh(x:Int): Int:=(x+170141183460469231731687303715884105728)%340282366920938463463374607431768211456-170141183460469231731687303715884105728
theorem Nh{x:Int}(h:dK x): mh x=x:=by unfold dK at h;unfold mh;omega
theorem Ng(x:Int): aj (mh x)=(aj x+9223372036854775808)%18446744073709551616-9223372036854775808:=by unfold mh aj;omega
theorem Ni(x:Int): au (mh x)=au x:=by unfold mh au;omega
theorem Ef(s:Int): aj s*18446744073709551616+au s=s:=by unfold aj au;omega
theorem Fg(s t:Int)(w:World): Calls Tryz.prog 253 #[.agg #[Z (aj s),.int .u64 (au s)],.agg #[Z (aj t),.int .u64 (au t)]] w fun e w'=>e=.returned (.agg #[Z (aj (mh (s+t))),.int .u64 (au (mh (s+t)))])/\Below w.heap.size w w':=by
 obtain⟨u1,hu1⟩:∃ u1,IntKind.u64.wrap (aj s)=u1:=⟨_,rfl⟩
 obtain⟨u2,hu2⟩:∃ u2,IntKind.u64.wrap (aj t)=u2:=⟨_,rfl⟩
 have a1:u1=aj s%18446744073709551616:=by rw[<-hu1];simp[IntKind.wrap,IntKind.signed,IntKind.bits]
 have a2:u2=aj t%18446744073709551616:=by rw[<-hu2];simp[IntKind.wrap,IntKind.signed,IntKind.bits]
 have p1:=jg s;have p2:=jg t;have p3:=pX s;have p4:=pX t;have k0:0<=(au s+au t) / 18446744073709551616:=J;have k1:(au s+au t) / 18446744073709551616<=1:=J;have q1:0<=u1:=J;have q2:0<=u2:=J;have hlo:(au s+au t)%18446744073709551616=au (mh (s+t)):=by rw[Ni];unfold au;omega
 have hc:aj s+aj t+(au s+au t) / 18446744073709551616=aj (s+t):=by unfold aj au;omega
 have hhi:IntKind.i64.wrap ((u1+u2+(au s+au t) / 18446744073709551616)%18446744073709551616)=aj (mh (s+t)):=by
  have e:(u1+u2+(au s+au t) / 18446744073709551616)%18446744073709551616=aj (s+t)%18446744073709551616:=by
   rw[a1,a2,<-hc];omega
  rw[e,Ng];simp[IntKind.wrap,IntKind.signed,IntKind.bits]
  split<;>omega
 clear a1 a2 hc;generalize hA:aj (mh (s+t))=A at *
 generalize hB:au (mh (s+t))=B at *
 generalize hC:aj s=C at *
 generalize hD:au s=D at *
 generalize hE:aj t=E at *
 generalize hF:au t=F at *
 clear hA hB hC hD hE hF
 go_enter Tryz.func253,Tryz.ntmps253
 go_wp2_with (first | simp only[GU D F p1 p2] | simp only[Bp u1 u2 _ q1 q2 k0 k1]);exact bodyPost_ret (v:=.agg #[Z A,.int .u64 B]) (by simp[results,Tryz.results253,go_sem]) rfl ⟨rfl,(((Below.refl _ _).alloc (Nat.le_refl _) _).alloc (by simp) _).alloc (by simp;omega) _⟩
end A
namespace A
open Go.RowKit
theorem eH{w w':World}{L:List (Nat × TypeId × Array Value)}(h:Own w L w')(u:Int)(b:Bool)(hb:decide (aj u < 0)=b):
  Calls Tryz.prog 251 #[.agg #[Z (aj u),.int .u64 (au u)]] w' fun e w''=>e=.returned (.bool b)/\Own w L w'':=by
 refine(og _ _ _).mono ?_;rintro e w'' ⟨rfl,hb'⟩;exact⟨by rw[hb],h.call hb'⟩
def Nw(s t:Int)(w:World)(e:Ending)(w':World): Prop:=
 ((dK (s+t)/\e=.returned (.tuple #[.agg #[Z (aj (s+t)),.int .u64 (au (s+t))],.bool true]))\/(¬ dK (s+t)/\e=.returned (.tuple #[.agg #[Z 0,.int .u64 0],.bool false])))/\Below w.heap.size w w'
def ig(x y:Nat)(s t v:Int): List (Nat × TypeId × Array Value):=[(x,193,#[Z (aj s),.int .u64 (au s)]),(x+1,193,#[Z (aj t),.int .u64 (au t)]),(x+1+1,193,#[Z 0,.int .u64 0]),(y,193,#[Z (aj v),.int .u64 (au v)])]
theorem PS(s t:Int)(hs:dK s)(ht:dK t)(w:World): Calls Tryz.prog 334 #[.agg #[Z (aj s),.int .u64 (au s)],.agg #[Z (aj t),.int .u64 (au t)]] w (Nw s t w):=by
 have HH:=zh (zN hs ht);clear hs ht
 go_enter Tryz.func334,Tryz.ntmps334
 go_wp2_with fail;refine(Fg s t _).mono ?_;rintro e w1 ⟨rfl,hb1⟩;obtain⟨x,hx⟩:∃ x,x=w.heap.size:=⟨_,rfl⟩
 obtain⟨y,hy⟩:∃ y,y=w1.heap.size:=⟨_,rfl⟩
 obtain⟨v,hv⟩:∃ v,v=mh (s+t):=⟨_,rfl⟩
 rw[<-hv];have o2:Own w (ig x y s t v) (w1.alloc (.cells #[Z (aj v),.int .u64 (au v)] 193)).drew:=(((Own.qI w hx _ _ _ _ _ _).call hb1).alloc hy _ _).drew;have hfits:(0<=s->t < 0->dK (s+t))/\(s < 0->0<=t->dK (s+t))/\(s < 0->t < 0->(v < 0↔dK (s+t)))/\(0<=s->0<=t->(0<=v↔dK (s+t)))/\(dK (s+t)->v=s+t):=by
  obtain⟨h1,h2⟩:=HH.out;refine⟨?_,?_,?_,?_,?_⟩
  ·unfold dK at *;omega
  ·unfold dK at *;omega
  ·rw[hv];unfold dK mh at *;omega
  ·rw[hv];unfold dK mh at *;omega
  ·intro h;rw[hv];exact Nh h
 have HV:=zh (zN hx (zN hy hfits));have H2:=zh o2;clear o2 hx hy hv hb1 hfits;go_wp2_with fail;rw[<-HV.out.1,<-HV.out.2.1];have hS1:=H2.out;generalize (w1.alloc (.cells #[Z (aj v),.int .u64 (au v)] 193))=w2 at hS1 ⊢
 clear H2
 by_cases hs0:s < 0
 ·by_cases ht0:t < 0
  ·skip
   by_cases hv0:v < 0
   ·have hfit:=(HV.out.2.2.2.2.1 hs0 ht0).1 hv0
    have HF:=zh hfit;clear hfit;have hS:(Own w (ig x y s t v)) (w2.drew):=hS1;refine aA (Own w (ig x y s t v)) (by kernel_rfl) hS ?_;refine zB [0,2] ?_;iterate 2 (refine zV ?_ ?_ hS ?_;rotate_left;(intro w' hSw;have z0_0:=hSw.c2 0;have z1_0:=hSw.c2 1;have z2_0:=hSw.c2 2;have z3_0:=hSw.c2 3;go_simp<;>with_reducible rfl);try simp only[zP])
    refine zE ?_;refine zC 1 fun K HK=>?_
    go_simp;refine(eH hS s true (by simp[dU];omega)).mono ?_;rintro e w3 ⟨rfl,h3⟩;have H3:=zh h3;clear h3;go_wp2_with fail;refine HK.out.zt (Own w (ig x y s t v)) (fun _ h=>h) (H3.out) ?_;clear HK hS;intro hS;try simp only[zP]
    refine zC 3 fun K HK=>?_
    go_simp;refine(eH hS t true (by simp[dU];omega)).mono ?_;rintro e w4 ⟨rfl,h4⟩;have H4:=zh h4;clear h4;go_wp2_with fail;refine HK.out.zt (Own w (ig x y s t v)) (fun _ h=>h) (H4.out) ?_;clear HK hS;intro hS;try simp only[zP]
    refine zB [4,5] ?_;iterate 2 (refine zv hS ?_;try simp only[zP])
    refine zE ?_;refine zB [6,8] ?_;iterate 2 (refine zV ?_ ?_ hS ?_;rotate_left;(intro w' hSw;have z0_0:=hSw.c2 0;have z1_0:=hSw.c2 1;have z2_0:=hSw.c2 2;have z3_0:=hSw.c2 3;go_simp<;>with_reducible rfl);try simp only[zP])
    refine zE ?_;refine zC 7 fun K HK=>?_
    go_simp;refine(eH hS v true (by simp[dU];omega)).mono ?_;rintro e w5 ⟨rfl,h5⟩;have H5:=zh h5;clear h5;go_wp2_with fail;refine HK.out.zt (Own w (ig x y s t v)) (fun _ h=>h) (H5.out) ?_;clear HK hS;intro hS;try simp only[zP]
    refine zC 9 fun K HK=>?_
    go_simp;refine(eH hS s true (by simp[dU];omega)).mono ?_;rintro e w6 ⟨rfl,h6⟩;have H6:=zh h6;clear h6;go_wp2_with fail;refine HK.out.zt (Own w (ig x y s t v)) (fun _ h=>h) (H6.out) ?_;clear HK hS;intro hS;try simp only[zP]
    refine zB [10,11] ?_;iterate 2 (refine zv hS ?_;try simp only[zP])
    refine zE ?_;refine zD ?_;try simp only[zP]
    have hfit:=HF.out;have z0_0:=hS.c2 0;have z1_0:=hS.c2 1;have z2_0:=hS.c2 2;have z3_0:=hS.c2 3;have zf2:=hS.free 2 rfl;have HS:=zh hS;clear hS;go_wp2_with fail;have r2:=(HS.out.set 2 0 rfl (Z (aj v))).set 2 1 rfl (.int .u64 (au v));have r0:=r2.c2 2;exact bodyPost_ret (v:=.tuple #[.agg #[Z (aj v),.int .u64 (au v)],.bool true]) (by simp[results,Tryz.results334,go_sem,r0]) rfl ⟨.inl ⟨hfit,by rw[HV.out.2.2.2.2.2.2 hfit]⟩,r2.av⟩
   ·have hfit:¬ dK (s+t):=fun h=>hv0 ((HV.out.2.2.2.2.1 hs0 ht0).2 h)
    have HF:=zh hfit;clear hfit;have hS:(Own w (ig x y s t v)) (w2.drew):=hS1;refine aA (Own w (ig x y s t v)) (by kernel_rfl) hS ?_;refine zB [0,2] ?_;iterate 2 (refine zV ?_ ?_ hS ?_;rotate_left;(intro w' hSw;have z0_0:=hSw.c2 0;have z1_0:=hSw.c2 1;have z2_0:=hSw.c2 2;have z3_0:=hSw.c2 3;go_simp<;>with_reducible rfl);try simp only[zP])
    refine zE ?_;refine zC 1 fun K HK=>?_
    go_simp;refine(eH hS s true (by simp[dU];omega)).mono ?_;rintro e w3 ⟨rfl,h3⟩;have H3:=zh h3;clear h3;go_wp2_with fail;refine HK.out.zt (Own w (ig x y s t v)) (fun _ h=>h) (H3.out) ?_;clear HK hS;intro hS;try simp only[zP]
    refine zC 3 fun K HK=>?_
    go_simp;refine(eH hS t true (by simp[dU];omega)).mono ?_;rintro e w4 ⟨rfl,h4⟩;have H4:=zh h4;clear h4;go_wp2_with fail;refine HK.out.zt (Own w (ig x y s t v)) (fun _ h=>h) (H4.out) ?_;clear HK hS;intro hS;try simp only[zP]
    refine zB [4,5] ?_;iterate 2 (refine zv hS ?_;try simp only[zP])
    refine zE ?_;refine zB [6,8] ?_;iterate 2 (refine zV ?_ ?_ hS ?_;rotate_left;(intro w' hSw;have z0_0:=hSw.c2 0;have z1_0:=hSw.c2 1;have z2_0:=hSw.c2 2;have z3_0:=hSw.c2 3;go_simp<;>with_reducible rfl);try simp only[zP])
    refine zE ?_;refine zC 7 fun K HK=>?_
    go_simp;refine(eH hS v false (by simp[dU];omega)).mono ?_;rintro e w5 ⟨rfl,h5⟩;have H5:=zh h5;clear h5;go_wp2_with fail;refine HK.out.zt (Own w (ig x y s t v)) (fun _ h=>h) (H5.out) ?_;clear HK hS;intro hS;try simp only[zP]
    refine zC 9 fun K HK=>?_
    go_simp;refine(eH hS s true (by simp[dU];omega)).mono ?_;rintro e w6 ⟨rfl,h6⟩;have H6:=zh h6;clear h6;go_wp2_with fail;refine HK.out.zt (Own w (ig x y s t v)) (fun _ h=>h) (H6.out) ?_;clear HK hS;intro hS;try simp only[zP]
    refine zB [10,11] ?_;iterate 2 (refine zv hS ?_;try simp only[zP])
    refine zE ?_;refine zD ?_;try simp only[zP]
    have hfit:=HF.out;have z0_0:=hS.c2 0;have z1_0:=hS.c2 1;have z2_0:=hS.c2 2;have z3_0:=hS.c2 3;have zf2:=hS.free 2 rfl;have HS:=zh hS;clear hS;go_wp2_with fail;have r2:=(HS.out.set 2 0 rfl (Z 0)).set 2 1 rfl (.int .u64 0);have r0:=r2.c2 2;exact bodyPost_ret (v:=.tuple #[.agg #[Z 0,.int .u64 0],.bool false]) (by simp[results,Tryz.results334,go_sem,r0]) rfl ⟨.inr ⟨hfit,rfl⟩,r2.av⟩
  ·have hfit:=HV.out.2.2.2.1 hs0 J
   have HF:=zh hfit;clear hfit;have hS:(Own w (ig x y s t v)) (w2.drew):=hS1;refine aA (Own w (ig x y s t v)) (by kernel_rfl) hS ?_;refine zB [0,2] ?_;iterate 2 (refine zV ?_ ?_ hS ?_;rotate_left;(intro w' hSw;have z0_0:=hSw.c2 0;have z1_0:=hSw.c2 1;have z2_0:=hSw.c2 2;have z3_0:=hSw.c2 3;go_simp<;>with_reducible rfl);try simp only[zP])
   refine zE ?_;refine zC 1 fun K HK=>?_
   go_simp;refine(eH hS s true (by simp[dU];omega)).mono ?_;rintro e w3 ⟨rfl,h3⟩;have H3:=zh h3;clear h3;go_wp2_with fail;refine HK.out.zt (Own w (ig x y s t v)) (fun _ h=>h) (H3.out) ?_;clear HK hS;intro hS;try simp only[zP]
   refine zC 3 fun K HK=>?_
   go_simp;refine(eH hS t false (by simp[dU];omega)).mono ?_;rintro e w4 ⟨rfl,h4⟩;have H4:=zh h4;clear h4;go_wp2_with fail;refine HK.out.zt (Own w (ig x y s t v)) (fun _ h=>h) (H4.out) ?_;clear HK hS;intro hS;try simp only[zP]
   refine zB [4,5] ?_;iterate 2 (refine zv hS ?_;try simp only[zP])
   refine zE ?_;refine zB [6,7,8,9,10] ?_;iterate 5 (refine zW hS ?_;try simp only[zP])
   refine zE ?_;refine zt 11 hS ?_;try simp only[zP]
   refine zD ?_;try simp only[zP]
   have hfit:=HF.out;have z0_0:=hS.c2 0;have z1_0:=hS.c2 1;have z2_0:=hS.c2 2;have z3_0:=hS.c2 3;have zf2:=hS.free 2 rfl;have HS:=zh hS;clear hS;go_wp2_with fail;have r2:=(HS.out.set 2 0 rfl (Z (aj v))).set 2 1 rfl (.int .u64 (au v));have r0:=r2.c2 2;exact bodyPost_ret (v:=.tuple #[.agg #[Z (aj v),.int .u64 (au v)],.bool true]) (by simp[results,Tryz.results334,go_sem,r0]) rfl ⟨.inl ⟨hfit,by rw[HV.out.2.2.2.2.2.2 hfit]⟩,r2.av⟩
 ·by_cases ht0:t < 0
  ·have hfit:=HV.out.2.2.1 J ht0
   have HF:=zh hfit;clear hfit;have hS:(Own w (ig x y s t v)) (w2.drew):=hS1;refine aA (Own w (ig x y s t v)) (by kernel_rfl) hS ?_;refine zB [0,2] ?_;iterate 2 (refine zV ?_ ?_ hS ?_;rotate_left;(intro w' hSw;have z0_0:=hSw.c2 0;have z1_0:=hSw.c2 1;have z2_0:=hSw.c2 2;have z3_0:=hSw.c2 3;go_simp<;>with_reducible rfl);try simp only[zP])
   refine zE ?_;refine zC 1 fun K HK=>?_
   go_simp;refine(eH hS s false (by simp[dU];omega)).mono ?_;rintro e w3 ⟨rfl,h3⟩;have H3:=zh h3;clear h3;go_wp2_with fail;refine HK.out.zt (Own w (ig x y s t v)) (fun _ h=>h) (H3.out) ?_;clear HK hS;intro hS;try simp only[zP]
   refine zC 3 fun K HK=>?_
   go_simp;refine(eH hS t true (by simp[dU];omega)).mono ?_;rintro e w4 ⟨rfl,h4⟩;have H4:=zh h4;clear h4;go_wp2_with fail;refine HK.out.zt (Own w (ig x y s t v)) (fun _ h=>h) (H4.out) ?_;clear HK hS;intro hS;try simp only[zP]
   refine zB [4,5] ?_;iterate 2 (refine zv hS ?_;try simp only[zP])
   refine zE ?_;refine zB [6,7,8,9,10] ?_;iterate 5 (refine zW hS ?_;try simp only[zP])
   refine zE ?_;refine zt 11 hS ?_;try simp only[zP]
   refine zD ?_;try simp only[zP]
   have hfit:=HF.out;have z0_0:=hS.c2 0;have z1_0:=hS.c2 1;have z2_0:=hS.c2 2;have z3_0:=hS.c2 3;have zf2:=hS.free 2 rfl;have HS:=zh hS;clear hS;go_wp2_with fail;have r2:=(HS.out.set 2 0 rfl (Z (aj v))).set 2 1 rfl (.int .u64 (au v));have r0:=r2.c2 2;exact bodyPost_ret (v:=.tuple #[.agg #[Z (aj v),.int .u64 (au v)],.bool true]) (by simp[results,Tryz.results334,go_sem,r0]) rfl ⟨.inl ⟨hfit,by rw[HV.out.2.2.2.2.2.2 hfit]⟩,r2.av⟩
  ·by_cases hv0:v < 0
   ·have hfit:¬ dK (s+t):=fun h=>absurd hv0 (Int.not_lt.2 ((HV.out.2.2.2.2.2.1 J J).2 h))
    have HF:=zh hfit;clear hfit;have hS:(Own w (ig x y s t v)) (w2.drew):=hS1;refine aA (Own w (ig x y s t v)) (by kernel_rfl) hS ?_;refine zB [0,2] ?_;iterate 2 (refine zV ?_ ?_ hS ?_;rotate_left;(intro w' hSw;have z0_0:=hSw.c2 0;have z1_0:=hSw.c2 1;have z2_0:=hSw.c2 2;have z3_0:=hSw.c2 3;go_simp<;>with_reducible rfl);try simp only[zP])
    refine zE ?_;refine zC 1 fun K HK=>?_
    go_simp;refine(eH hS s false (by simp[dU];omega)).mono ?_;rintro e w3 ⟨rfl,h3⟩;have H3:=zh h3;clear h3;go_wp2_with fail;refine HK.out.zt (Own w (ig x y s t v)) (fun _ h=>h) (H3.out) ?_;clear HK hS;intro hS;try simp only[zP]
    refine zC 3 fun K HK=>?_
    go_simp;refine(eH hS t false (by simp[dU];omega)).mono ?_;rintro e w4 ⟨rfl,h4⟩;have H4:=zh h4;clear h4;go_wp2_with fail;refine HK.out.zt (Own w (ig x y s t v)) (fun _ h=>h) (H4.out) ?_;clear HK hS;intro hS;try simp only[zP]
    refine zB [4,5] ?_;iterate 2 (refine zv hS ?_;try simp only[zP])
    refine zE ?_;refine zB [6,8] ?_;iterate 2 (refine zV ?_ ?_ hS ?_;rotate_left;(intro w' hSw;have z0_0:=hSw.c2 0;have z1_0:=hSw.c2 1;have z2_0:=hSw.c2 2;have z3_0:=hSw.c2 3;go_simp<;>with_reducible rfl);try simp only[zP])
    refine zE ?_;refine zC 7 fun K HK=>?_
    go_simp;refine(eH hS v true (by simp[dU];omega)).mono ?_;rintro e w5 ⟨rfl,h5⟩;have H5:=zh h5;clear h5;go_wp2_with fail;refine HK.out.zt (Own w (ig x y s t v)) (fun _ h=>h) (H5.out) ?_;clear HK hS;intro hS;try simp only[zP]
    refine zC 9 fun K HK=>?_
    go_simp;refine(eH hS s false (by simp[dU];omega)).mono ?_;rintro e w6 ⟨rfl,h6⟩;have H6:=zh h6;clear h6;go_wp2_with fail;refine HK.out.zt (Own w (ig x y s t v)) (fun _ h=>h) (H6.out) ?_;clear HK hS;intro hS;try simp only[zP]
    refine zB [10,11] ?_;iterate 2 (refine zv hS ?_;try simp only[zP])
    refine zE ?_;refine zD ?_;try simp only[zP]
    have hfit:=HF.out;have z0_0:=hS.c2 0;have z1_0:=hS.c2 1;have z2_0:=hS.c2 2;have z3_0:=hS.c2 3;have zf2:=hS.free 2 rfl;have HS:=zh hS;clear hS;go_wp2_with fail;have r2:=(HS.out.set 2 0 rfl (Z 0)).set 2 1 rfl (.int .u64 0);have r0:=r2.c2 2;exact bodyPost_ret (v:=.tuple #[.agg #[Z 0,.int .u64 0],.bool false]) (by simp[results,Tryz.results334,go_sem,r0]) rfl ⟨.inr ⟨hfit,rfl⟩,r2.av⟩
   ·have hfit:=(HV.out.2.2.2.2.2.1 J J).1 J
    have HF:=zh hfit;clear hfit;have hS:(Own w (ig x y s t v)) (w2.drew):=hS1;refine aA (Own w (ig x y s t v)) (by kernel_rfl) hS ?_;refine zB [0,2] ?_;iterate 2 (refine zV ?_ ?_ hS ?_;rotate_left;(intro w' hSw;have z0_0:=hSw.c2 0;have z1_0:=hSw.c2 1;have z2_0:=hSw.c2 2;have z3_0:=hSw.c2 3;go_simp<;>with_reducible rfl);try simp only[zP])
    refine zE ?_;refine zC 1 fun K HK=>?_
    go_simp;refine(eH hS s false (by simp[dU];omega)).mono ?_;rintro e w3 ⟨rfl,h3⟩;have H3:=zh h3;clear h3;go_wp2_with fail;refine HK.out.zt (Own w (ig x y s t v)) (fun _ h=>h) (H3.out) ?_;clear HK hS;intro hS;try simp only[zP]
    refine zC 3 fun K HK=>?_
    go_simp;refine(eH hS t false (by simp[dU];omega)).mono ?_;rintro e w4 ⟨rfl,h4⟩;have H4:=zh h4;clear h4;go_wp2_with fail;refine HK.out.zt (Own w (ig x y s t v)) (fun _ h=>h) (H4.out) ?_;clear HK hS;intro hS;try simp only[zP]
    refine zB [4,5] ?_;iterate 2 (refine zv hS ?_;try simp only[zP])
    refine zE ?_;refine zB [6,8] ?_;iterate 2 (refine zV ?_ ?_ hS ?_;rotate_left;(intro w' hSw;have z0_0:=hSw.c2 0;have z1_0:=hSw.c2 1;have z2_0:=hSw.c2 2;have z3_0:=hSw.c2 3;go_simp<;>with_reducible rfl);try simp only[zP])
    refine zE ?_;refine zC 7 fun K HK=>?_
    go_simp;refine(eH hS v false (by simp[dU];omega)).mono ?_;rintro e w5 ⟨rfl,h5⟩;have H5:=zh h5;clear h5;go_wp2_with fail;refine HK.out.zt (Own w (ig x y s t v)) (fun _ h=>h) (H5.out) ?_;clear HK hS;intro hS;try simp only[zP]
    refine zC 9 fun K HK=>?_
    go_simp;refine(eH hS s false (by simp[dU];omega)).mono ?_;rintro e w6 ⟨rfl,h6⟩;have H6:=zh h6;clear h6;go_wp2_with fail;refine HK.out.zt (Own w (ig x y s t v)) (fun _ h=>h) (H6.out) ?_;clear HK hS;intro hS;try simp only[zP]
    refine zB [10,11] ?_;iterate 2 (refine zv hS ?_;try simp only[zP])
    refine zE ?_;refine zD ?_;try simp only[zP]
    have hfit:=HF.out;have z0_0:=hS.c2 0;have z1_0:=hS.c2 1;have z2_0:=hS.c2 2;have z3_0:=hS.c2 3;have zf2:=hS.free 2 rfl;have HS:=zh hS;clear hS;go_wp2_with fail;have r2:=(HS.out.set 2 0 rfl (Z (aj v))).set 2 1 rfl (.int .u64 (au v));have r0:=r2.c2 2;exact bodyPost_ret (v:=.tuple #[.agg #[Z (aj v),.int .u64 (au v)],.bool true]) (by simp[results,Tryz.results334,go_sem,r0]) rfl ⟨.inl ⟨hfit,by rw[HV.out.2.2.2.2.2.2 hfit]⟩,r2.av⟩
end A
namespace A
open Go.RowKit
def dQ(p q:Pt): Int:=oU (bL p.t q.t) (bL p.s q.s) (bL p.v q.v)
structure OA(w:World)(x:Nat)(p q:Pt)(w':World): Prop where
 av:Below x w w'
 hx:x=w.heap.size
 a:ay w' x 149 #[Z p.t,Z p.v,Z p.s]
 b:ay w' (x+1) 149 #[Z q.t,Z q.v,Z q.s]
namespace OA
variable {w w' w'':World} {x:Nat} {p q:Pt}
theorem below(h:OA w x p q w')(hb:Below w'.heap.size w' w''): OA w x p q w'':=
 ⟨h.av.trans (hb.mono (Nat.le_of_lt h.a.lt)),h.hx,h.a.below hb h.a.lt,h.b.below hb h.b.lt⟩
theorem a0(h:OA w x p q w'): w'.cell? ⟨x,0,none⟩=some (Z p.t):=by simpa using h.a.cell 0
theorem a1(h:OA w x p q w'): w'.cell? ⟨x,1,none⟩=some (Z p.v):=by simpa using h.a.cell 1
theorem a2(h:OA w x p q w'): w'.cell? ⟨x,2,none⟩=some (Z p.s):=by simpa using h.a.cell 2
theorem b0(h:OA w x p q w'): w'.cell? ⟨x+1,0,none⟩=some (Z q.t):=by simpa using h.b.cell 0
theorem b1(h:OA w x p q w'): w'.cell? ⟨x+1,1,none⟩=some (Z q.v):=by simpa using h.b.cell 1
theorem b2(h:OA w x p q w'): w'.cell? ⟨x+1,2,none⟩=some (Z q.s):=by simpa using h.b.cell 2
end OA
theorem E8{w w':World}{x:Nat}{p q:Pt}(h:OA w x p q w')(a b:Int):
  Calls Tryz.prog 319 #[Z a,Z b] w' fun e w''=>e=.returned (Z (bL a b))/\OA w x p q w'':=by
 refine(wQ _ _ _).mono ?_;rintro e w'' ⟨rfl,rfl⟩;exact⟨rfl,h⟩
theorem TP(w:World)(t:TypeId)(a b c:Value): (w.alloc (.cells #[a,b,c] t)).cell? ⟨w.heap.size,0,none⟩=some a/\(w.alloc (.cells #[a,b,c] t)).cell? ⟨w.heap.size,1,none⟩=some b/\(w.alloc (.cells #[a,b,c] t)).cell? ⟨w.heap.size,2,none⟩=some c:=by
 have h:=ay.fresh w t #[a,b,c]
 exact⟨(h.cell 0).trans rfl,(h.cell 1).trans rfl,(h.cell 2).trans rfl⟩
theorem rG(p q:Pt)(w:World): Calls Tryz.prog 323 #[.agg #[Z p.t,Z p.v,Z p.s],.agg #[Z q.t,Z q.v,Z q.s]] w fun e w'=>e=.returned (Z (dQ p q))/\Below w.heap.size w w':=by
 have fin:∀ w',Below w.heap.size w w'->(Ending.returned (Z (oU (bL p.t q.t) (bL p.s q.s) (bL p.v q.v)))=.returned (Z (dQ p q))/\Below w.heap.size w w'):=fun w' h=>⟨rfl,h⟩
 have FIN:=zh fin;clear fin;obtain⟨x,hx⟩:∃ x,x=w.heap.size:=⟨_,rfl⟩
 have hS0:OA w x p q ((w.alloc (.cells #[Z p.t,Z p.v,Z p.s] 149)).alloc (.cells #[Z q.t,Z q.v,Z q.s] 149)):=by
  have b0:=ay.fresh w 149 #[Z p.t,Z p.v,Z p.s]
  have bA:=((Below.refl w.heap.size w).alloc (Nat.le_refl _) (.cells #[Z p.t,Z p.v,Z p.s] 149))
  generalize hW:w.alloc (.cells #[Z p.t,Z p.v,Z p.s] 149)=W at *
  have hWs:W.heap.size=x+1:=by rw[<-hW,hx];simp
  have b1:=ay.fresh W 149 #[Z q.t,Z q.v,Z q.s]
  have stp:=((Below.refl W.heap.size W).alloc (Nat.le_refl _) (.cells #[Z q.t,Z q.v,Z q.s] 149))
  refine⟨?_,hx,?_,?_⟩
  ·rw[hx];exact bA.trans (stp.mono J)
  ·rw[hx];exact b0.below stp J
  ·rw[<-hWs];exact b1
 have HX:=zh (zN hx hS0);clear hx hS0
 go_enter Tryz.func323,Tryz.ntmps323
 go_wp2_with fail;rw[<-HX.out.1];have hS1:=HX.out.2.below (Below.refl _ _).drew;generalize ((w.alloc (.cells #[Z p.t,Z p.v,Z p.s] 149)).alloc (.cells #[Z q.t,Z q.v,Z q.s] 149))=w2 at hS1 ⊢
 have hS:(OA w x p q) (w2.drew):=hS1;refine aA (OA w x p q) (by kernel_rfl) hS ?_;refine zB [0,1,2,3,5,6,7,8,10,11,12,13] ?_;iterate 12 (refine zV ?_ ?_ hS ?_;rotate_left;(intro w' hSw;have z0:=hSw.a0;have z1:=hSw.a1;have z2:=hSw.a2;have z3:=hSw.b0;have z4:=hSw.b1;have z5:=hSw.b2;go_simp<;>with_reducible rfl);try simp only[zP])
 refine zE ?_;refine zC 4 fun K HK=>?_
 go_simp;refine(E8 hS p.t q.t).mono ?_;rintro e w3 ⟨rfl,h3⟩;have H3:=zh h3;clear h3;go_wp2_with fail;refine HK.out.zt (OA w x p q) (fun _ h=>h) (H3.out) ?_;clear HK hS;intro hS;try simp only[zP]
 refine zC 9 fun K HK=>?_
 go_simp;refine(E8 hS p.s q.s).mono ?_;rintro e w4 ⟨rfl,h4⟩;have H4:=zh h4;clear h4;go_wp2_with fail;refine HK.out.zt (OA w x p q) (fun _ h=>h) (H4.out) ?_;clear HK hS;intro hS;try simp only[zP]
 refine zC 14 fun K HK=>?_
 go_simp;refine(E8 hS p.v q.v).mono ?_;rintro e w5 ⟨rfl,h5⟩;have H5:=zh h5;clear h5;go_wp2_with fail;refine HK.out.zt (OA w x p q) (fun _ h=>h) (H5.out) ?_;clear HK hS;intro hS;try simp only[zP]
 have HA:=zh (hS.below ((Below.refl w5.heap.size w5).alloc (Nat.le_refl _) (.cells #[Z (bL p.t q.t),Z (bL p.s q.s),Z (bL p.v q.v)] 3)));refine zC 15 fun K HK=>?_
 go_simp;go_wp2_with fail;refine HK.out.zt (OA w x p q) (fun _ h=>h) (HA.out) ?_;clear HK hS;intro hS;try simp only[zP]
 obtain⟨r0,r1,r2⟩:=TP w5 3 (Z (bL p.t q.t)) (Z (bL p.s q.s)) (Z (bL p.v q.v));refine zC 16 fun K HK=>?_
 go_simp;refine(SK _ _ _ _ _ _ r0 r1 r2).mono ?_;rintro e w6 ⟨rfl,rfl⟩;go_wp2_with fail;refine HK.out.zt (OA w x p q) (fun _ h=>h) (HA.out) ?_;clear HK hS;intro hS;try simp only[zP]
 refine zt 17 hS ?_;try simp only[zP]
 refine zD ?_;try simp only[zP]
 go_wp2_with fail;go_ret;exact FIN.out _ (by have:=hS.hx;rw[<-this];exact hS.av)
end A
namespace A
open Go.RowKit
structure Ag where
 n: Int
 s:Int
 lo:Int
 hi:Int
 f:Pt
 l:Pt
def aQ: Ag:=⟨0,0,0,0,⟨0,0,0⟩,⟨0,0,0⟩⟩
def bR(p:Pt): Ag:=⟨1,p.v,p.v,p.v,p,p⟩
instance (s:Int):Decidable (dK s):=inferInstanceAs (Decidable (_/\_))
def iH(a b:Ag): Ag:=⟨a.n+b.n,a.s+b.s,if b.lo < a.lo then b.lo else a.lo,if a.hi < b.hi then b.hi else a.hi,if dQ b.f a.f < 0 then b.f else a.f,if 0 < dQ b.l a.l then b.l else a.l⟩
def bE(a b:Ag): Ag × Int:=
 if a.n < 0\/b.n < 0 then (aQ,2) else if a.n=0/\b.n=0 then (aQ,0) else if a.n=0 then (b,0) else if b.n=0 then (a,0)
 else if ¬ dK (a.s+b.s)\/4611686018427387904 < a.n\/4611686018427387904-a.n < b.n then (aQ,3) else (iH a b,0)
def iw(a b:Ag)(w:World)(e:Ending)(w':World): Prop:=
 ∃ (r:Ag) (er:Int),bE a b=(r,er)/\e=.returned (.tuple #[.agg #[Z r.n,Z (aj r.s),.int .u64 (au r.s),Z r.lo,Z r.hi,Z r.f.t,Z r.f.v,Z r.f.s,Z r.l.t,Z r.l.v,Z r.l.s],Z er])/\Below w.heap.size w w'
def qh(p:Pt)(w:World)(e:Ending)(w':World): Prop:=e=.returned (.agg #[Z (bR p).n,Z (aj (bR p).s),.int .u64 (au (bR p).s),Z (bR p).lo,Z (bR p).hi,Z (bR p).f.t,Z (bR p).f.v,Z (bR p).f.s,Z (bR p).l.t,Z (bR p).l.v,Z (bR p).l.s])/\Below w.heap.size w w'
theorem Bt(p:Pt)(hp:bI p.v)(w:World): Calls Tryz.prog 181 #[.agg #[Z p.t,Z p.v,Z p.s]] w (qh p w):=by
 have HP:=zh hp;clear hp;obtain⟨x,hx⟩:∃ x,x=w.heap.size:=⟨_,rfl⟩
 have o0:=((Own.eD w hx 149 #[Z p.t,Z p.v,Z p.s] 195 #[Z 0,Z 0,.int .u64 0,Z 0,Z 0,Z 0,Z 0,Z 0,Z 0,Z 0,Z 0]).front 1 rfl).drew;have HO:=zh (zN hx o0);clear hx o0
 go_enter Tryz.func181,Tryz.ntmps181
 go_wp2_with fail;rw[<-HO.out.1];have hS1:aU w (x+1) 195 11 [(x,149,#[Z p.t,Z p.v,Z p.s])] _:=aU.of HO.out.2 rfl;generalize ((w.alloc (.cells #[Z p.t,Z p.v,Z p.s] 149)).alloc (.cells #[Z 0,Z 0,.int .u64 0,Z 0,Z 0,Z 0,Z 0,Z 0,Z 0,Z 0,Z 0] 195))=w2 at hS1 ⊢
 have hS:(aU w (x+1) 195 11 [(x,149,#[Z p.t,Z p.v,Z p.s])]) (w2.drew):=hS1;refine aA (aU w (x+1) 195 11 [(x,149,#[Z p.t,Z p.v,Z p.s])]) (by kernel_rfl) hS ?_;refine zB [0,1,3,4,5,6,7,8] ?_;iterate 8 (refine zV ?_ ?_ hS ?_;rotate_left;(intro w' hSw;have hSw:=hSw.rest;have z0_0:=hSw.c3 0;go_simp<;>with_reducible rfl);try simp only[zP])
 refine zE ?_;refine zC 2 fun K HK=>?_
 go_simp;refine(kS p.v HP.out _).mono ?_;rintro e w3 ⟨rfl,h3⟩;have H3:=zh (hS.call h3);clear h3;go_wp2_with fail;refine HK.out.zt (aU w (x+1) 195 11 [(x,149,#[Z p.t,Z p.v,Z p.s])]) (fun _ h=>h) (H3.out) ?_;clear HK hS;intro hS;try simp only[zP]
 refine zt 9 hS ?_;try simp only[zP]
 obtain⟨c0,c1,c2,c3,c4,c5,c6,c7,c8,c9,c10,hO⟩:=hS.eleven;have z0_0:=hO.c11 0;have z1_0:=hO.c3 1;have zf0:=hO.free 0 rfl;have HW:=zh (hS.put [Z (bR p).n,Z (aj (bR p).s),.int .u64 (au (bR p).s),Z (bR p).lo,Z (bR p).hi,Z (bR p).f.t,Z (bR p).f.v,Z (bR p).f.s,Z (bR p).l.t,Z (bR p).l.v,Z (bR p).l.s] rfl);clear hO;refine zC 10 fun K HK=>?_
 go_simp;go_wp2_with fail;refine HK.out.go (Own w [(x+1,195,#[Z (bR p).n,Z (aj (bR p).s),.int .u64 (au (bR p).s),Z (bR p).lo,Z (bR p).hi,Z (bR p).f.t,Z (bR p).f.v,Z (bR p).f.s,Z (bR p).l.t,Z (bR p).l.v,Z (bR p).l.s]),(x,149,#[Z p.t,Z p.v,Z p.s])]) (fun _ h=>aU.of h rfl) (HW.out) ?_;clear HK hS;intro w4 hS;try simp only[zP]
 refine zD ?_;try simp only[zP]
 have z0_0:=hS.c11 0;have z1_0:=hS.c3 1;have HS:=zh hS;clear hS;go_wp2_with fail;exact bodyPost_ret (v:=.agg #[Z (bR p).n,Z (aj (bR p).s),.int .u64 (au (bR p).s),Z (bR p).lo,Z (bR p).hi,Z (bR p).f.t,Z (bR p).f.v,Z (bR p).f.s,Z (bR p).l.t,Z (bR p).l.v,Z (bR p).l.s]) (by simp[results,Tryz.results181,go_sem,z0_0]) rfl ⟨rfl,HS.out.av⟩
end A
namespace A
open Go.RowKit
def kU(a:Ag): Prop:=bI a.n/\dK a.s/\bI a.lo/\bI a.hi
theorem Ms(a b:Ag)(ha:kU a)(hb:kU b)(w:World): Calls Tryz.prog 315 #[.agg #[Z a.n,Z (aj a.s),.int .u64 (au a.s),Z a.lo,Z a.hi,Z a.f.t,Z a.f.v,Z a.f.s,Z a.l.t,Z a.l.v,Z a.l.s],.agg #[Z b.n,Z (aj b.s),.int .u64 (au b.s),Z b.lo,Z b.hi,Z b.f.t,Z b.f.v,Z b.f.s,Z b.l.t,Z b.l.v,Z b.l.s]] w (iw a b w):=by
 have HH:=zh (zN ha hb);clear ha hb;obtain⟨x,hx⟩:∃ x,x=w.heap.size:=⟨_,rfl⟩
 have o0:=(Own.qI w hx 195 #[Z a.n,Z (aj a.s),.int .u64 (au a.s),Z a.lo,Z a.hi,Z a.f.t,Z a.f.v,Z a.f.s,Z a.l.t,Z a.l.v,Z a.l.s] 195 #[Z b.n,Z (aj b.s),.int .u64 (au b.s),Z b.lo,Z b.hi,Z b.f.t,Z b.f.v,Z b.f.s,Z b.l.t,Z b.l.v,Z b.l.s] 195 #[Z 0,Z 0,.int .u64 0,Z 0,Z 0,Z 0,Z 0,Z 0,Z 0,Z 0,Z 0]).front 2 rfl;have HO:=zh (zN hx o0);clear hx o0
 by_cases h1:a.n < 0
 ·have HR:=zh (show bE a b=(aQ,2) by unfold bE;rw[if_pos (.inl h1)])
  have d1:decide (a.n < 0)=true:=by simp[h1]
  go_enter Tryz.func315,Tryz.ntmps315
  go_wp2_with fail;exact bodyPost_ret (v:=.tuple #[.agg #[Z 0,Z 0,.int .u64 0,Z 0,Z 0,Z 0,Z 0,Z 0,Z 0,Z 0,Z 0],Z 2]) (by simp[results,Tryz.results315,go_sem]) rfl ⟨aQ,2,HR.out,rfl,(Own.qI w rfl _ _ _ _ _ _).av⟩
 have d1:decide (a.n < 0)=false:=by simp;omega
 by_cases h2:b.n < 0
 ·have HR:=zh (show bE a b=(aQ,2) by unfold bE;rw[if_pos (.inr h2)])
  have d2:decide (b.n < 0)=true:=by simp[h2]
  go_enter Tryz.func315,Tryz.ntmps315
  go_wp2_with fail;exact bodyPost_ret (v:=.tuple #[.agg #[Z 0,Z 0,.int .u64 0,Z 0,Z 0,Z 0,Z 0,Z 0,Z 0,Z 0,Z 0],Z 2]) (by simp[results,Tryz.results315,go_sem]) rfl ⟨aQ,2,HR.out,rfl,(Own.qI w rfl _ _ _ _ _ _).av⟩
 have d2:decide (b.n < 0)=false:=by simp;omega
 by_cases h3:a.n=0
 ·by_cases h4:b.n=0
  ·have HR:=zh (show bE a b=(aQ,0) by unfold bE;rw[if_neg J,if_pos ⟨h3,h4⟩])
   have d3:(a.n == 0)=true:=by simp[h3]
   have d4:(b.n == 0)=true:=by simp[h4]
   clear h1 h2 h3 h4
   go_enter Tryz.func315,Tryz.ntmps315
   go_wp2_with fail;exact bodyPost_ret (v:=.tuple #[.agg #[Z 0,Z 0,.int .u64 0,Z 0,Z 0,Z 0,Z 0,Z 0,Z 0,Z 0,Z 0],Z 0]) (by simp[results,Tryz.results315,go_sem]) rfl ⟨aQ,0,HR.out,rfl,(Own.qI w rfl _ _ _ _ _ _).av⟩
  ·have HR:=zh (show bE a b=(b,0) by unfold bE;rw[if_neg J,if_neg J,if_pos h3])
   have d3:(a.n == 0)=true:=by simp[h3]
   have d4:(b.n == 0)=false:=by simp[h4]
   clear h1 h2 h3 h4
   go_enter Tryz.func315,Tryz.ntmps315
   go_wp2_with fail;exact bodyPost_ret (v:=.tuple #[.agg #[Z b.n,Z (aj b.s),.int .u64 (au b.s),Z b.lo,Z b.hi,Z b.f.t,Z b.f.v,Z b.f.s,Z b.l.t,Z b.l.v,Z b.l.s],Z 0]) (by simp[results,Tryz.results315,go_sem]) rfl ⟨b,0,HR.out,rfl,(Own.qI w rfl _ _ _ _ _ _).av⟩
 have d3:(a.n == 0)=false:=by simp[h3]
 by_cases h4:b.n=0
 ·have HR:=zh (show bE a b=(a,0) by unfold bE;rw[if_neg J,if_neg J,if_neg h3,if_pos h4])
  have d4:(b.n == 0)=true:=by simp[h4]
  clear h1 h2 h3 h4
  go_enter Tryz.func315,Tryz.ntmps315
  go_wp2_with fail;exact bodyPost_ret (v:=.tuple #[.agg #[Z a.n,Z (aj a.s),.int .u64 (au a.s),Z a.lo,Z a.hi,Z a.f.t,Z a.f.v,Z a.f.s,Z a.l.t,Z a.l.v,Z a.l.s],Z 0]) (by simp[results,Tryz.results315,go_sem]) rfl ⟨a,0,HR.out,rfl,(Own.qI w rfl _ _ _ _ _ _).av⟩
 have d4:(b.n == 0)=false:=by simp[h4]
 have hrest:bE a b=if ¬ dK (a.s+b.s)\/4611686018427387904 < a.n\/4611686018427387904-a.n < b.n then (aQ,3) else (iH a b,0):=by
  unfold bE;rw[if_neg J,if_neg J,if_neg h3,if_neg h4]
 have HR:=zh hrest;have b1:0 < a.n:=J;have b2:0 < b.n:=J;have b3:a.n<=9223372036854775807:=HH.out.1.1.2;have b4:b.n<=9223372036854775807:=HH.out.2.1.2;clear h1 h2 h3 h4 hrest
 go_enter Tryz.func315,Tryz.ntmps315
 go_wp2_with fail;refine(PS a.s b.s HH.out.1.2.1 HH.out.2.2.1 _).mono ?_;rintro e w1 ⟨hcase,hb1⟩;obtain⟨y,hy⟩:∃ y,y=w1.heap.size:=⟨_,rfl⟩
 have o1:=HO.out.2.call hb1;rcases hcase with ⟨hfit,rfl⟩ | ⟨hfit,rfl⟩
 ·have o2:=o1.alloc hy 193 #[Z (aj (a.s+b.s)),.int .u64 (au (a.s+b.s))]
  have HS:=zh (zN hfit (zN hy o2));clear hfit hy o1 o2 hb1;go_upto_region 10 with (fail)
  rw[<-HO.out.1,<-HS.out.2.1];have hS:=HS.out.2.2;generalize w1.alloc _=w2 at hS ⊢
  have z0_0:=hS.c11 0;have z1_0:=hS.c11 1;have z2_0:=hS.c11 2;have z3_0:=hS.c2 3;have zf0:=hS.free 0 rfl;have HT:=zh hS;clear hS
  by_cases h5:4611686018427387904 < a.n
  ·have HZ:=zh (show bE a b=(aQ,3) by rw[HR.out,if_pos (.inr (.inl h5))])
   have d5:decide (4611686018427387904 < a.n)=true:=by simp[h5]
   go_wp2_with fail;exact bodyPost_ret (v:=.tuple #[.agg #[Z 0,Z 0,.int .u64 0,Z 0,Z 0,Z 0,Z 0,Z 0,Z 0,Z 0,Z 0],Z 3]) (by simp[results,Tryz.results315,go_sem,z0_0]) rfl ⟨aQ,3,HZ.out,rfl,((aU.of HT.out rfl).put [Z 0,Z 0,.int .u64 0,Z 0,Z 0,Z 0,Z 0,Z 0,Z 0,Z 0,Z 0] rfl).av⟩
  have d5:decide (4611686018427387904 < a.n)=false:=by simp;omega
  by_cases h6:4611686018427387904-a.n < b.n
  ·have HZ:=zh (show bE a b=(aQ,3) by rw[HR.out,if_pos (.inr (.inr h6))])
   have d6:decide (4611686018427387904-a.n < b.n)=true:=by simp[h6]
   go_wp2_with fail;exact bodyPost_ret (v:=.tuple #[.agg #[Z 0,Z 0,.int .u64 0,Z 0,Z 0,Z 0,Z 0,Z 0,Z 0,Z 0,Z 0],Z 3]) (by simp[results,Tryz.results315,go_sem,z0_0]) rfl ⟨aQ,3,HZ.out,rfl,((aU.of HT.out rfl).put [Z 0,Z 0,.int .u64 0,Z 0,Z 0,Z 0,Z 0,Z 0,Z 0,Z 0,Z 0] rfl).av⟩
  have d6:decide (4611686018427387904-a.n < b.n)=false:=by simp;omega
  have HZ:=zh (show bE a b=(iH a b,0) by rw[HR.out,if_neg (by have:=HS.out.1;rintro (h | h | h)<;>first | exact h this | omega)]);obtain⟨z,hz⟩:∃ z,z=w2.heap.size:=⟨_,rfl⟩
  have HW:=zh hz;clear hz;go_upto_region 13 with (fail)
  rw[<-HW.out];generalize hm:(if b.lo < a.lo then b.lo else a.lo)=m;generalize hM:(if a.hi < b.hi then b.hi else a.hi)=M;generalize hn:a.n+b.n=n;have hs:=HT.out.alloc HW.out 195 #[Z n,Z (aj (a.s+b.s)),.int .u64 (au (a.s+b.s)),Z m,Z M,Z a.f.t,Z a.f.v,Z a.f.s,Z a.l.t,Z a.l.v,Z a.l.s]
  have HV:Hid (∀ F L:Pt,(F=if dQ b.f a.f < 0 then b.f else a.f)->(L=if 0 < dQ b.l a.l then b.l else a.l)->bE a b=(⟨n,a.s+b.s,m,M,F,L⟩,0)):=zh (by
   intro F L hF hL;rw[HZ.out,hF,hL,<-hm,<-hM,<-hn];rfl)
  clear hm hM hn z0_0 z1_0 z2_0 z3_0 zf0 d1 d2 d3 d4 d5 d6;generalize a.s+b.s=s at hs HV ⊢
  have hS:Own w [(x+1+1,195,#[Z 0,Z 0,.int .u64 0,Z 0,Z 0,Z 0,Z 0,Z 0,Z 0,Z 0,Z 0]),(x,195,#[Z a.n,Z (aj a.s),.int .u64 (au a.s),Z a.lo,Z a.hi,Z a.f.t,Z a.f.v,Z a.f.s,Z a.l.t,Z a.l.v,Z a.l.s]),(x+1,195,#[Z b.n,Z (aj b.s),.int .u64 (au b.s),Z b.lo,Z b.hi,Z b.f.t,Z b.f.v,Z b.f.s,Z b.l.t,Z b.l.v,Z b.l.s]),(y,193,#[Z (aj s),.int .u64 (au s)]),(z,195,#[Z n,Z (aj s),.int .u64 (au s),Z m,Z M,Z a.f.t,Z a.f.v,Z a.f.s,Z a.l.t,Z a.l.v,Z a.l.s])] _:=hs;clear hs;generalize w2.alloc _=w3 at hS ⊢
  have z0_0:=hS.c11 0;have z1_0:=hS.c11 1;have z2_0:=hS.c11 2;have z3_0:=hS.c2 3;have z4_0:=hS.c11 4;have HA:=zh hS;clear hS;go_wp2_with fail;refine(rG b.f a.f _).mono ?_;rintro e w4 ⟨rfl,hb4⟩;have hS:=HA.out.call hb4;clear z0_0 z1_0 z2_0 z3_0 z4_0;clear hb4 HA
  by_cases h7:dQ b.f a.f < 0
  ·have HF:=zh (show b.f=if dQ b.f a.f < 0 then b.f else a.f by rw[if_pos h7])
   have d7:decide (dQ b.f a.f < 0)=true:=by simp[h7]
   have z0_0:=hS.c11 0;have z1_0:=hS.c11 1;have z2_0:=hS.c11 2;have z3_0:=hS.c2 3;have z4_0:=hS.c11 4;have zf0:=hS.free 0 rfl;have zf4:=hS.free 4 rfl;have hs:=((hS.set 4 5 rfl (Z b.f.t)).set 4 6 rfl (Z b.f.v)).set 4 7 rfl (Z b.f.s);have HB:=zh hs;clear hS hs;go_upto_region 15 with (fail)
   have hS:Own w [(x+1+1,195,#[Z 0,Z 0,.int .u64 0,Z 0,Z 0,Z 0,Z 0,Z 0,Z 0,Z 0,Z 0]),(x,195,#[Z a.n,Z (aj a.s),.int .u64 (au a.s),Z a.lo,Z a.hi,Z a.f.t,Z a.f.v,Z a.f.s,Z a.l.t,Z a.l.v,Z a.l.s]),(x+1,195,#[Z b.n,Z (aj b.s),.int .u64 (au b.s),Z b.lo,Z b.hi,Z b.f.t,Z b.f.v,Z b.f.s,Z b.l.t,Z b.l.v,Z b.l.s]),(y,193,#[Z (aj s),.int .u64 (au s)]),(z,195,#[Z n,Z (aj s),.int .u64 (au s),Z m,Z M,Z b.f.t,Z b.f.v,Z b.f.s,Z a.l.t,Z a.l.v,Z a.l.s])] _:=HB.out;clear z0_0 z1_0 z2_0 z3_0 z4_0 zf0 zf4 HB;generalize World.setCell _ _ _=w5 at hS ⊢
   have z0_0:=hS.c11 0;have z1_0:=hS.c11 1;have z2_0:=hS.c11 2;have z3_0:=hS.c2 3;have z4_0:=hS.c11 4;have HB:=zh hS;clear hS;go_wp2_with fail;refine(rG b.l a.l _).mono ?_;rintro e w6 ⟨rfl,hb6⟩;have hS:=HB.out.call hb6;clear z0_0 z1_0 z2_0 z3_0 z4_0;clear hb6 HB
   by_cases h8:0 < dQ b.l a.l
   ·have HL:=zh (show b.l=if 0 < dQ b.l a.l then b.l else a.l by rw[if_pos h8])
    have d8:decide (0 < dQ b.l a.l)=true:=by simp[h8]
    have z0_0:=hS.c11 0;have z1_0:=hS.c11 1;have z2_0:=hS.c11 2;have z3_0:=hS.c2 3;have z4_0:=hS.c11 4;have zf0:=hS.free 0 rfl;have zf4:=hS.free 4 rfl;have hs:=((hS.set 4 8 rfl (Z b.l.t)).set 4 9 rfl (Z b.l.v)).set 4 10 rfl (Z b.l.s);have HB:=zh hs;clear hS hs;go_upto_region 17 with (fail)
    have hS:Own w [(x+1+1,195,#[Z 0,Z 0,.int .u64 0,Z 0,Z 0,Z 0,Z 0,Z 0,Z 0,Z 0,Z 0]),(x,195,#[Z a.n,Z (aj a.s),.int .u64 (au a.s),Z a.lo,Z a.hi,Z a.f.t,Z a.f.v,Z a.f.s,Z a.l.t,Z a.l.v,Z a.l.s]),(x+1,195,#[Z b.n,Z (aj b.s),.int .u64 (au b.s),Z b.lo,Z b.hi,Z b.f.t,Z b.f.v,Z b.f.s,Z b.l.t,Z b.l.v,Z b.l.s]),(y,193,#[Z (aj s),.int .u64 (au s)]),(z,195,#[Z n,Z (aj s),.int .u64 (au s),Z m,Z M,Z b.f.t,Z b.f.v,Z b.f.s,Z b.l.t,Z b.l.v,Z b.l.s])] _:=HB.out;clear z0_0 z1_0 z2_0 z3_0 z4_0 zf0 zf4 HB;generalize World.setCell _ _ _=w7 at hS ⊢
    have z0_0:=hS.c11 0;have z1_0:=hS.c11 1;have z2_0:=hS.c11 2;have z3_0:=hS.c2 3;have z4_0:=hS.c11 4;have zf0:=hS.free 0 rfl;have zf4:=hS.free 4 rfl;have HB:=zh hS;clear hS;go_wp2_with fail;have r:=(aU.of HB.out rfl).put [Z n,Z (aj s),.int .u64 (au s),Z m,Z M,Z b.f.t,Z b.f.v,Z b.f.s,Z b.l.t,Z b.l.v,Z b.l.s] rfl;exact bodyPost_ret (v:=.tuple #[.agg #[Z n,Z (aj s),.int .u64 (au s),Z m,Z M,Z b.f.t,Z b.f.v,Z b.f.s,Z b.l.t,Z b.l.v,Z b.l.s],Z 0]) (by simp[results,Tryz.results315,go_sem,z0_0]) rfl ⟨⟨n,s,m,M,b.f,b.l⟩,0,HV.out _ _ HF.out HL.out,rfl,r.av⟩
   ·have HL:=zh (show a.l=if 0 < dQ b.l a.l then b.l else a.l by rw[if_neg h8])
    have d8:decide (0 < dQ b.l a.l)=false:=by simp;omega
    have z0_0:=hS.c11 0;have z1_0:=hS.c11 1;have z2_0:=hS.c11 2;have z3_0:=hS.c2 3;have z4_0:=hS.c11 4;have zf0:=hS.free 0 rfl;have zf4:=hS.free 4 rfl;have HB:=zh hS;clear hS;go_wp2_with fail;have r:=(aU.of HB.out rfl).put [Z n,Z (aj s),.int .u64 (au s),Z m,Z M,Z b.f.t,Z b.f.v,Z b.f.s,Z a.l.t,Z a.l.v,Z a.l.s] rfl;exact bodyPost_ret (v:=.tuple #[.agg #[Z n,Z (aj s),.int .u64 (au s),Z m,Z M,Z b.f.t,Z b.f.v,Z b.f.s,Z a.l.t,Z a.l.v,Z a.l.s],Z 0]) (by simp[results,Tryz.results315,go_sem,z0_0]) rfl ⟨⟨n,s,m,M,b.f,a.l⟩,0,HV.out _ _ HF.out HL.out,rfl,r.av⟩
  ·have HF:=zh (show a.f=if dQ b.f a.f < 0 then b.f else a.f by rw[if_neg h7])
   have d7:decide (dQ b.f a.f < 0)=false:=by simp;omega
   have z0_0:=hS.c11 0;have z1_0:=hS.c11 1;have z2_0:=hS.c11 2;have z3_0:=hS.c2 3;have z4_0:=hS.c11 4;have HB:=zh hS;clear hS;go_wp2_with fail;refine(rG b.l a.l _).mono ?_;rintro e w6 ⟨rfl,hb6⟩;have hS:=HB.out.call hb6;clear z0_0 z1_0 z2_0 z3_0 z4_0;clear hb6 HB
   by_cases h8:0 < dQ b.l a.l
   ·have HL:=zh (show b.l=if 0 < dQ b.l a.l then b.l else a.l by rw[if_pos h8])
    have d8:decide (0 < dQ b.l a.l)=true:=by simp[h8]
    have z0_0:=hS.c11 0;have z1_0:=hS.c11 1;have z2_0:=hS.c11 2;have z3_0:=hS.c2 3;have z4_0:=hS.c11 4;have zf0:=hS.free 0 rfl;have zf4:=hS.free 4 rfl;have hs:=((hS.set 4 8 rfl (Z b.l.t)).set 4 9 rfl (Z b.l.v)).set 4 10 rfl (Z b.l.s);have HB:=zh hs;clear hS hs;go_upto_region 17 with (fail)
    have hS:Own w [(x+1+1,195,#[Z 0,Z 0,.int .u64 0,Z 0,Z 0,Z 0,Z 0,Z 0,Z 0,Z 0,Z 0]),(x,195,#[Z a.n,Z (aj a.s),.int .u64 (au a.s),Z a.lo,Z a.hi,Z a.f.t,Z a.f.v,Z a.f.s,Z a.l.t,Z a.l.v,Z a.l.s]),(x+1,195,#[Z b.n,Z (aj b.s),.int .u64 (au b.s),Z b.lo,Z b.hi,Z b.f.t,Z b.f.v,Z b.f.s,Z b.l.t,Z b.l.v,Z b.l.s]),(y,193,#[Z (aj s),.int .u64 (au s)]),(z,195,#[Z n,Z (aj s),.int .u64 (au s),Z m,Z M,Z a.f.t,Z a.f.v,Z a.f.s,Z b.l.t,Z b.l.v,Z b.l.s])] _:=HB.out;clear z0_0 z1_0 z2_0 z3_0 z4_0 zf0 zf4 HB;generalize World.setCell _ _ _=w7 at hS ⊢
    have z0_0:=hS.c11 0;have z1_0:=hS.c11 1;have z2_0:=hS.c11 2;have z3_0:=hS.c2 3;have z4_0:=hS.c11 4;have zf0:=hS.free 0 rfl;have zf4:=hS.free 4 rfl;have HB:=zh hS;clear hS;go_wp2_with fail;have r:=(aU.of HB.out rfl).put [Z n,Z (aj s),.int .u64 (au s),Z m,Z M,Z a.f.t,Z a.f.v,Z a.f.s,Z b.l.t,Z b.l.v,Z b.l.s] rfl;exact bodyPost_ret (v:=.tuple #[.agg #[Z n,Z (aj s),.int .u64 (au s),Z m,Z M,Z a.f.t,Z a.f.v,Z a.f.s,Z b.l.t,Z b.l.v,Z b.l.s],Z 0]) (by simp[results,Tryz.results315,go_sem,z0_0]) rfl ⟨⟨n,s,m,M,a.f,b.l⟩,0,HV.out _ _ HF.out HL.out,rfl,r.av⟩
   ·have HL:=zh (show a.l=if 0 < dQ b.l a.l then b.l else a.l by rw[if_neg h8])
    have d8:decide (0 < dQ b.l a.l)=false:=by simp;omega
    have z0_0:=hS.c11 0;have z1_0:=hS.c11 1;have z2_0:=hS.c11 2;have z3_0:=hS.c2 3;have z4_0:=hS.c11 4;have zf0:=hS.free 0 rfl;have zf4:=hS.free 4 rfl;have HB:=zh hS;clear hS;go_wp2_with fail;have r:=(aU.of HB.out rfl).put [Z n,Z (aj s),.int .u64 (au s),Z m,Z M,Z a.f.t,Z a.f.v,Z a.f.s,Z a.l.t,Z a.l.v,Z a.l.s] rfl;exact bodyPost_ret (v:=.tuple #[.agg #[Z n,Z (aj s),.int .u64 (au s),Z m,Z M,Z a.f.t,Z a.f.v,Z a.f.s,Z a.l.t,Z a.l.v,Z a.l.s],Z 0]) (by simp[results,Tryz.results315,go_sem,z0_0]) rfl ⟨⟨n,s,m,M,a.f,a.l⟩,0,HV.out _ _ HF.out HL.out,rfl,r.av⟩
 ·have o2:=o1.alloc hy 193 #[Z 0,.int .u64 0]
  have HZ:=zh (show bE a b=(aQ,3) by rw[HR.out,if_pos (.inl hfit)]);have HS:=zh (zN hfit (zN hy o2));clear hfit hy o1 o2 hb1;go_upto_region 10 with (fail)
  rw[<-HO.out.1,<-HS.out.2.1];have hS:=HS.out.2.2;generalize w1.alloc _=w2 at hS ⊢
  have z0_0:=hS.c11 0;have z1_0:=hS.c11 1;have z2_0:=hS.c11 2;have z3_0:=hS.c2 3;have zf0:=hS.free 0 rfl;have HT:=zh hS;clear hS;go_wp2_with fail;exact bodyPost_ret (v:=.tuple #[.agg #[Z 0,Z 0,.int .u64 0,Z 0,Z 0,Z 0,Z 0,Z 0,Z 0,Z 0,Z 0],Z 3]) (by simp[results,Tryz.results315,go_sem,z0_0]) rfl ⟨aQ,3,HZ.out,rfl,((aU.of HT.out rfl).put [Z 0,Z 0,.int .u64 0,Z 0,Z 0,Z 0,Z 0,Z 0,Z 0,Z 0,Z 0] rfl).av⟩
end A
namespace A
open Go.RowKit
theorem oN: ∀ (vs:List Value) (k:Nat) (w:World) (g:Nat),w.setCells g k vs=setFrom w g k vs
 | [],_,_,_=>rfl
 | v :: vs,k,w,g=>oN vs (k+1) _ g
theorem jO{P:Program}{w:World}{g:Nat}{t:TypeId}{cs:Array Value}(hb:ay w g t cs)(ty:TypeId)(k n:Nat)(vs:List Value)(hn:vs.length=n)(hk:k+n<=cs.size)(hi:(P.info? ty).map (·.size)=some n)(h1:∀ v ∈ vs,v.oneCell'=true){ops:Array Oper}{rest:List Oper}{op:Oper}{a:Act}{Q:Exit->Act->World->Prop}(hgd:op.guard=none)(x y:Operand)(ho:op.op=.store ty x y)(hx:a.eval x=.pointer (some ⟨g,k,none⟩))(hy:a.eval y=.agg vs.toArray)(h:wpList P ops Q rest (a.put op.dst undef) (setFrom w g k vs)): wpList P ops Q (op :: rest) a w:=by
 refine wpList_store_mid (P:=P) hgd ty x y ho g k vs.toArray hx hy (fun j hj=>⟨by rw[hb.cell,Array.getElem?_eq_getElem (by simp at hj;omega)];rfl,hb.frozen _⟩) (by simpa [hn] using hi) (all_oneCell_toArray h1) ?_;rw[<-oN] at h
 simpa using h
theorem zO{P:Program}{w:World}{g:Nat}{t:TypeId}{cs:Array Value}(hb:ay w g t cs)(ty:TypeId)(k n:Nat)(vs:List Value)(d:TypeDesc)(hu:P.underlying ty=some d)(hd:d.isRow=true)(hn:vs.length=n)(hi:(P.info? ty).map (·.size)=some n)(hc:∀ j,j < n->cs[k+j]? = vs[j]?){ops:Array Oper}{rest:List Oper}{op:Oper}{a:Act}{Q:Exit->Act->World->Prop}(hgd:op.guard=none)(x:Operand)(ho:op.op=.load ty x)(hx:a.eval x=.pointer (some ⟨g,k,none⟩))(h:wpList P ops Q rest (a.put op.dst (.agg vs.toArray)) w): wpList P ops Q (op :: rest) a w:=
 wpList_load_mid (P:=P) hgd ty x ho g k hx vs d (fun j v hj=>by
  rw[hb.cell,hc j (by have:=(List.getElem?_eq_some_iff.1 hj).1;omega)];exact hj) hu hd (by rw[hn];exact hi) h
theorem qK{P:Program}{fn:Func}{tmps:Array Value}{w:World}{g:Nat}{t ty:TypeId}{cs:Array Value}{r:Tmp}(hf:fn.results=#[.cell r ty])(hr:tmps.getD r undef=.pointer (some ⟨g,0,none⟩))(hb:ay w g t cs)(n:Nat)(vs:List Value)(d:TypeDesc)(hu:P.underlying ty=some d)(hd:d.isRow=true)(hn:vs.length=n)(hi:(P.info? ty).map (·.size)=some n)(hc:∀ j,j < n->cs[0+j]? = vs[j]?): (results fn tmps).run P w=.ok (.agg vs.toArray) w:=by
 have h:=run_loadVar_mid (P:=P) w g 0 ty vs d (fun j v hj=>by
  rw[hb.cell,hc j (by have:=(List.getElem?_eq_some_iff.1 hj).1;omega)];exact hj) hu hd (by rw[hn];exact hi)
 have hr':tmps[r]?.getD undef=.pointer (some ⟨g,0,none⟩):=by simpa using hr
 simp[results,hf,hr',h,asAddr,Result.andThen]
theorem MQ{w:World}{g:Nat}{t:TypeId}{cs:Array Value}(hb:ay w g t cs)(k n:Nat)(vs:List Value)(hn:vs.length=n)(hc:∀ j,j < n->cs[k+j]? = vs[j]?): w.rangeAt g k vs:=fun j v hj=>by
 rw[hb.cell,hc j (by have:=(List.getElem?_eq_some_iff.1 hj).1;omega)];exact hj
theorem kP{P:Program}{w:World}{g:Nat}{t:TypeId}{cs:Array Value}(hb:ay w g t cs)(ty:TypeId)(k n:Nat)(vs:List Value)(hn:vs.length=n)(hk:k+n<=cs.size)(hi:(P.info? ty).map (·.size)=some n)(h1:∀ v ∈ vs,v.oneCell'=true){ops:Array Oper}{op:Oper}{a:Act}{K:Act->World->Prop}{Q:Exit->Act->World->Prop}{E:Prop}(hgd:op.guard=none)(x y:Operand)(ho:op.op=.store ty x y)(hx:a.eval x=.pointer (some ⟨g,k,none⟩))(hy:a.eval y=.agg vs.toArray)(h:K (a.put op.dst undef) (setFrom w g k vs)): if Region.wanted op (yielded ops a.tmps)=true then Oper.wp P op a w K Q else E:=by
 have hw:Region.wanted op (yielded ops a.tmps)=true:=by simp[Region.wanted,hgd]
 rw[if_pos hw];refine wp_store_mid (P:=P) ty x y ho g k vs.toArray hx hy (fun j hj=>⟨by rw[hb.cell,Array.getElem?_eq_getElem (by simp at hj;omega)];rfl,hb.frozen _⟩) (by simpa [hn] using hi) (all_oneCell_toArray h1) ?_;rw[<-oN] at h
 simpa using h
end A
namespace A
open Go.RowKit
theorem MB{p:Pt}(h:eU p): kU (bR p):=by
 obtain⟨h1,h2,h3⟩:=h;unfold kU bR dK;unfold bI at *
 simp only;omega
end A
namespace A
open Go.RowKit
def allA(f:Nat->Pt): Nat->Ag
 | 0=>aQ
 | k+1=>(bE (allA f k) (bR (f k))).1
structure iq(a:Ag)(k:Nat): Prop where
 n:a.n=k
 s : -9223372036854775808*(k:Int)<=a.s/\a.s<=9223372036854775807*(k:Int)
 lo:bI a.lo
 hi:bI a.hi
theorem iq.ok{a:Ag}{k:Nat}(h:iq a k)(hk:k<=4294967296): kU a:=by
 obtain⟨h1,h2,h3,h4⟩:=h;refine⟨?_,?_,h3,h4⟩
 ·unfold bI;omega
 ·unfold dK;omega
theorem qE{a:Ag}{p:Pt}{k:Nat}(h:iq a k)(hp:eU p)(hk:k < 4294967296): bE a (bR p)=(if k=0 then bR p else iH a (bR p),0):=by
 have h1:=h.n;obtain⟨q1,q2,q3⟩:=hp;unfold bI at *
 have h2:=h.s;unfold bE;have e:(bR p).n=1:=rfl;have e2:(bR p).s=p.v:=rfl;rw[if_neg J,if_neg J];rcases Nat.eq_zero_or_pos k with h0 | h0
 ·rw[if_pos J,if_pos h0]
 ·rw[if_neg J,if_neg J,if_neg (show ¬ k=0 by omega),if_neg]
  rintro (hh | hh | hh)
  ·apply hh
   unfold dK;omega
  ·omega
  ·omega
theorem wD{c:Prop}[Decidable c]{a b:Int}(ha:bI a)(hb:bI b): bI (if c then a else b):=by split<;>assumption
theorem iq.step{a:Ag}{p:Pt}{k:Nat}(h:iq a k)(hp:eU p)(hk:k < 4294967296): iq (bE a (bR p)).1 (k+1):=by
 rw[qE h hp hk];obtain⟨h1,h2,h3,h4⟩:=h;obtain⟨q1,q2,q3⟩:=hp;have q2':=q2;unfold bI at q2'
 rcases Nat.eq_zero_or_pos k with h0 | h0
 ·rw[if_pos h0]
  subst h0;exact⟨rfl,by simp only[bR];omega,q2,q2⟩
 ·rw[if_neg J]
  refine⟨?_,?_,?_,?_⟩
  ·simp only[iH,bR];omega
  ·simp only[iH,bR];omega
  ·exact wD q2 h3
  ·exact wD q2 h4
def zX(f:Nat->Pt)(n:Nat)(w:World)(e:Ending)(w':World): Prop:=e=.returned (.tuple #[.agg #[Z (allA f n).n,Z (aj (allA f n).s),.int .u64 (au (allA f n).s),Z (allA f n).lo,Z (allA f n).hi,Z (allA f n).f.t,Z (allA f n).f.v,Z (allA f n).f.s,Z (allA f n).l.t,Z (allA f n).l.v,Z (allA f n).l.s],Z 0])/\Below w.heap.size w w'
end A
namespace A
open Go.RowKit
theorem Q9(h:Int)(hh:bI h): bits .xor .i64 (-1) h = -1-h:=by
 show IntKind.i64.wrap ((BitVec.ofInt 64 (-1) ^^^ BitVec.ofInt 64 h).toNat:Int)=_
 have h1:BitVec.ofInt 64 (-1)=BitVec.allOnes 64:=by decide
 rw[h1,BitVec.allOnes_xor,BitVec.toNat_not,BitVec.toNat_ofInt];unfold bI at hh
 simp[IntKind.wrap,IntKind.bits,IntKind.signed];omega
theorem Ra(l:Int)(h0:0<=l)(h1:l < 18446744073709551616): bits .xor .u64 IntKind.u64.max l=18446744073709551615-l:=by
 show IntKind.u64.wrap ((BitVec.ofInt 64 IntKind.u64.max ^^^ BitVec.ofInt 64 l).toNat:Int)=_
 have h2:BitVec.ofInt 64 IntKind.u64.max=BitVec.allOnes 64:=by decide
 rw[h2,BitVec.allOnes_xor,BitVec.toNat_not,BitVec.toNat_ofInt];simp[IntKind.wrap,IntKind.bits,IntKind.signed];omega
theorem SF(s:Int)(hs:dK s): bits .xor .i64 (-1) (aj s)=aj (-s-1):=by
 rw[Q9 _ hs.hi];unfold aj;omega
theorem SG(s:Int): bits .xor .u64 IntKind.u64.max (au s)=au (-s-1):=by
 rw[Ra _ (jg s) (pX s)];unfold au;omega
theorem Cj(s:Int)(hs:dK s)(w:World): Calls Tryz.prog 252 #[.agg #[Z (aj s),.int .u64 (au s)]] w fun e w'=>e=.returned (.agg #[Z (aj (mh (-s))),.int .u64 (au (mh (-s)))])/\Below w.heap.size w w':=by
 have x1:IntKind.i64.signed=true:=rfl;have x2:IntKind.u64.signed=false:=rfl;obtain⟨x,hx⟩:∃ x,x=w.heap.size:=⟨_,rfl⟩
 have o0:=(Own.eD w hx 193 #[Z (aj s),.int .u64 (au s)] 193 #[Z 0,.int .u64 0]).front 1 rfl;have e1 : -s-1+1 = -s:=J;have HO:=zh (zN hx (zN o0 (zN hs e1)));clear hx o0 hs e1
 go_enter Tryz.func252,Tryz.ntmps252
 go_wp2_with fail;rw[SF s HO.out.2.2.1,SG s];refine(Fg (-s-1) 1 _).mono ?_;rintro e w1 ⟨rfl,hb⟩;rw[HO.out.2.2.2,<-HO.out.1];obtain⟨t,ht⟩:∃ t,t=mh (-s):=⟨_,rfl⟩
 rw[<-ht];have HT:=zh ht;clear ht;have hS:=HO.out.2.1.call hb;have z0_0:=hS.c2 0;have z1_0:=hS.c2 1;have zf0:=hS.free 0 rfl;have HS:=zh hS;clear hS hb;go_wp2_with fail;exact bodyPost_ret (v:=.agg #[Z (aj t),.int .u64 (au t)]) (by simp[results,Tryz.results252,go_sem,z0_0]) rfl ⟨by rw[HT.out],((aU.of HS.out rfl).put [Z (aj t),.int .u64 (au t)] rfl).av⟩
theorem QN{s t:Int}(h:aj s=aj t)(h':au s=au t): s=t:=by rw[<-Ef s,<-Ef t,h,h']
theorem Hr{s t:Int}: s < t↔aj s < aj t\/aj s=aj t/\au s < au t:=by unfold aj au;omega
def Qn(s t:Int)(w:World)(e:Ending)(w':World): Prop:=e=.returned (Z (bL s t))/\Below w.heap.size w w'
theorem FN(s t:Int)(w:World): Calls Tryz.prog 325 #[.agg #[Z (aj s),.int .u64 (au s)],.agg #[Z (aj t),.int .u64 (au t)]] w (Qn s t w):=by
 obtain⟨x,hx⟩:∃ x,x=w.heap.size:=⟨_,rfl⟩
 have o0:=(Own.eD w hx 193 #[Z (aj s),.int .u64 (au s)] 193 #[Z (aj t),.int .u64 (au t)]).av;have hs:=@Hr s t;have ht:=@Hr t s;have hc:∀ u,(s < t->u = -1)->(t < s->u=1)->(s=t->u=0)->Ending.returned (Z u)=Ending.returned (Z (bL s t)):=by
  intro u h1 h2 h3;unfold bL
  by_cases g1:s < t
  ·rw[if_pos g1,h1 g1]
  ·rw[if_neg g1]
   by_cases g2:t < s
   ·rw[if_pos g2,h2 g2]
   ·rw[if_neg g2,h3 J]
 have HO:=zh (zN o0 (zN hs (zN ht hc)));clear hx o0 hs ht hc
 by_cases c1:aj s=aj t
 ·by_cases c2:au s=au t
  ·obtain rfl:=QN c1 c2
   go_enter Tryz.func325,Tryz.ntmps325
   go_wp2_with fail;go_ret;exact⟨HO.out.2.2.2 _ J J J,HO.out.1⟩
  ·by_cases c3:au s < au t
   ·skip
    have HF:=zh (show Ending.returned (Z (-1))=Ending.returned (Z (bL s t)) from HO.out.2.2.2 _ (fun _=>rfl) (fun h=>by have:=HO.out.2.1;omega) (fun h=>by rw[h] at c2;exact absurd rfl c2));have d1:decide (aj s < aj t)=false:=by simp;omega
    have d2:(aj s == aj t)=true:=by simp[c1]
    have d3:(au s == au t)=false:=by simp[c2]
    have d4:decide (au s < au t)=true:=by simp[c3]
    clear c1 c2 c3
    go_enter Tryz.func325,Tryz.ntmps325
    go_wp2_with fail;go_ret;exact⟨HF.out,HO.out.1⟩
   ·skip
    have HF:=zh (show Ending.returned (Z 1)=Ending.returned (Z (bL s t)) from HO.out.2.2.2 _ (fun h=>by have:=HO.out.2.1;omega) (fun _=>rfl) (fun h=>by rw[h] at c2;exact absurd rfl c2));have d1:decide (aj s < aj t)=false:=by simp;omega
    have d2:(aj s == aj t)=true:=by simp[c1]
    have d3:(au s == au t)=false:=by simp[c2]
    have d4:decide (au s < au t)=false:=by simp;omega
    clear c1 c2 c3
    go_enter Tryz.func325,Tryz.ntmps325
    go_wp2_with fail;go_ret;exact⟨HF.out,HO.out.1⟩
 ·have d2:(aj s == aj t)=false:=by simp[c1]
  by_cases c2:aj s < aj t
  ·skip
   have HF:=zh (show Ending.returned (Z (-1))=Ending.returned (Z (bL s t)) from HO.out.2.2.2 _ (fun _=>rfl) (fun h=>by have:=HO.out.2.2.1;omega) (fun h=>by rw[h] at c1;exact absurd rfl c1));have d1:decide (aj s < aj t)=true:=by simp[c2]
   skip
   clear c1 c2
   go_enter Tryz.func325,Tryz.ntmps325
   go_wp2_with fail;go_ret;exact⟨HF.out,HO.out.1⟩
  ·skip
   have HF:=zh (show Ending.returned (Z 1)=Ending.returned (Z (bL s t)) from HO.out.2.2.2 _ (fun h=>by have:=HO.out.2.1;omega) (fun _=>rfl) (fun h=>by rw[h] at c1;exact absurd rfl c1));have d1:decide (aj s < aj t)=false:=by simp;omega
   skip
   clear c1 c2
   go_enter Tryz.func325,Tryz.ntmps325
   go_wp2_with fail;go_ret;exact⟨HF.out,HO.out.1⟩
def fP(s:Int): Int:=if s < 0 then -s else s
def Ql(s:Int)(w:World)(e:Ending)(w':World): Prop:=e=.returned (.agg #[.int .u64 (aj (fP s)),.int .u64 (au (fP s))])/\Below w.heap.size w w'
theorem yJ(s:Int)(hs:dK s)(w:World): Calls Tryz.prog 250 #[.agg #[Z (aj s),.int .u64 (au s)]] w (Ql s w):=by
 obtain⟨x,hx⟩:∃ x,x=w.heap.size:=⟨_,rfl⟩
 have o0:Own w [(x,193,#[Z (aj s),.int .u64 (au s)]),(x+1,374,#[.int .u64 0,.int .u64 0])] _:=Own.eD w hx 193 #[Z (aj s),.int .u64 (au s)] 374 #[.int .u64 0,.int .u64 0]
 have HO:=zh (zN hx (zN o0 hs));clear hx o0 hs
 go_enter Tryz.func250,Tryz.ntmps250
 go_wp2_with fail;refine(og _ _ _).mono ?_;rintro e w1 ⟨rfl,hb⟩;have hS:=HO.out.2.1.call hb
 by_cases h0:s < 0
 ·have d0:decide (aj s < 0)=true:=by simp[dU,h0]
  rw[d0,<-HO.out.1];have HA:=zh (show fP s = -s by unfold fP;rw[if_pos h0]);have z0_0:=hS.c2 0;have z1_0:=hS.c2 1;have HS:=zh (zN hS h0);clear hS hb d0 h0;go_wp2_with fail;refine(Cj s HO.out.2.2 _).mono ?_;rintro e w2 ⟨rfl,hb2⟩;have hS:=HS.out.1.call hb2;obtain⟨t,ht⟩:∃ t,t=mh (-s):=⟨_,rfl⟩
  rw[<-ht];have eh:IntKind.u64.wrap (aj t)=aj (fP s):=by
   have h1:=HO.out.2.2;have h2:=HS.out.2;rw[HA.out,ht,Ng];unfold dK at h1
   unfold aj;simp[IntKind.wrap,IntKind.signed,IntKind.bits];omega
  have el:au t=au (fP s):=by rw[ht,Ni,HA.out]
  have HE:=zh (zN eh el);clear HS ht eh el hb2 z0_0 z1_0;have hS2:=((aU.of hS rfl).put [Z (aj t),.int .u64 (au t)] rfl)
  have HS2:=zh hS2;have z0_0:=hS.c2 0;have z1_0:=hS.c2 1;have zf0:=hS.free 0 rfl;have zf1:=hS.free 1 rfl;clear hS hS2;go_upto_region 3 with (fail)
  refine aC (Own w [(x,193,#[Z (aj t),.int .u64 (au t)]),(x+1,374,#[.int .u64 0,.int .u64 0])]) HS2.out ?_;clear HS2 z0_0 z1_0 zf0 zf1;intro w3 hS;have hS:=hS.front 1 rfl;have z0_0:=hS.c2 0;have z1_0:=hS.c2 1;have zf0:=hS.free 0 rfl;have HS:=zh hS;clear hS;go_wp2_with fail;exact bodyPost_ret (v:=.agg #[.int .u64 (IntKind.u64.wrap (aj t)),.int .u64 (au t)]) (by simp[results,Tryz.results250,go_sem,z0_0]) rfl ⟨by rw[HE.out.1,HE.out.2],((aU.of HS.out rfl).put [.int .u64 (IntKind.u64.wrap (aj t)),.int .u64 (au t)] rfl).av⟩
 ·have d0:decide (aj s < 0)=false:=by simp[dU];omega
  rw[d0,<-HO.out.1];have ha:fP s=s:=by unfold fP;rw[if_neg h0]
  have eh:IntKind.u64.wrap (aj s)=aj s:=by
   have h1:=HO.out.2.2;unfold dK at h1
   unfold aj;simp[IntKind.wrap,IntKind.signed,IntKind.bits];omega
  have HE:=zh (zN eh ha);clear hb d0 h0 ha;have hS:=hS.front 1 rfl;have z0_0:=hS.c2 0;have z1_0:=hS.c2 1;have zf0:=hS.free 0 rfl;have HS:=zh hS;clear hS;go_wp2_with fail;exact bodyPost_ret (v:=.agg #[.int .u64 (aj s),.int .u64 (au s)]) (by simp[results,Tryz.results250,go_sem,z0_0]) rfl ⟨by rw[HE.out.2],((aU.of HS.out rfl).put [.int .u64 (aj s),.int .u64 (au s)] rfl).av⟩
end A
namespace A
def oP(p q:Pt): Prop:=p.t < q.t\/p.t=q.t/\(p.s < q.s\/p.s=q.s/\p.v < q.v)
theorem AP(p q:Pt): dQ p q < 0↔oP p q:=by
 unfold dQ oU bL oP
 repeat' split
 all_goals (simp at *;try omega)
theorem Ig(p q:Pt): 0 < dQ p q↔oP q p:=by
 unfold dQ oU bL oP
 repeat' split
 all_goals (simp at *;try omega)
theorem zq(p:Pt): ¬ oP p p:=by unfold oP;omega
theorem Ch{p q r:Pt}(h:oP p q)(h':oP q r): oP p r:=by unfold oP at *;omega
theorem Ib{p q r:Pt}(h:¬ oP p q)(h':¬ oP q r): ¬ oP p r:=by unfold oP at *;omega
def lG: List Pt->Int
 | []=>0
 | p :: l=>p.v+lG l
theorem FJ(l l':List Pt): lG (l ++ l')=lG l+lG l':=by
 induction l with
 | nil=>simp[lG]
 | cons p l ih=>simp only[List.cons_append,lG,ih];omega
structure Has(ps:List Pt)(a:Ag): Prop where
 n:a.n=ps.length
 s:a.s=lG ps
 lo:∃ p ∈ ps,p.v=a.lo
 lo_le:∀ p ∈ ps,a.lo<=p.v
 hi:∃ p ∈ ps,p.v=a.hi
 hi_le:∀ p ∈ ps,p.v<=a.hi
 fi:a.f ∈ ps
 f_le:∀ p ∈ ps,¬ oP p a.f
 la:a.l ∈ ps
 l_le:∀ p ∈ ps,¬ oP a.l p
theorem Has.one(p:Pt): Has [p] (bR p):=
 ⟨rfl,by simp[bR,lG],⟨p,by simp,rfl⟩,by simp[bR],⟨p,by simp,rfl⟩,by simp[bR],by simp[bR],by simp[bR,zq],by simp[bR],by simp[bR,zq]⟩
theorem Has.merge{l l':List Pt}{a b:Ag}(h:Has l a)(h':Has l' b): Has (l ++ l') (iH a b):=by
 have e1:=h.n;have e2:=h'.n;have e4:=h.s;have e5:=h'.s;have hlo:(iH a b).lo=if b.lo < a.lo then b.lo else a.lo:=rfl
 have hhi:(iH a b).hi=if a.hi < b.hi then b.hi else a.hi:=rfl
 have hf:(iH a b).f=if dQ b.f a.f < 0 then b.f else a.f:=rfl
 have hl:(iH a b).l=if 0 < dQ b.l a.l then b.l else a.l:=rfl
 refine⟨?_,?_,?_,?_,?_,?_,?_,?_,?_,?_⟩
 ·show a.n+b.n=_;rw[List.length_append];omega
 ·show a.s+b.s=_;rw[FJ];omega
 ·obtain ⟨p,m,v⟩:=h.lo
  obtain⟨p',m',v'⟩:=h'.lo
  by_cases c:b.lo < a.lo
  ·exact ⟨p',List.mem_append_right _ m',by rw[hlo,if_pos c];exact v'⟩
  ·exact ⟨p,List.mem_append_left _ m,by rw[hlo,if_neg c];exact v⟩
 ·intro p hp
  rw[hlo];rcases List.mem_append.1 hp with m | m
  ·have:=h.lo_le p m;split<;>omega
  ·have:=h'.lo_le p m;split<;>omega
 ·obtain ⟨p,m,v⟩:=h.hi
  obtain⟨p',m',v'⟩:=h'.hi
  by_cases c:a.hi < b.hi
  ·exact ⟨p',List.mem_append_right _ m',by rw[hhi,if_pos c];exact v'⟩
  ·exact ⟨p,List.mem_append_left _ m,by rw[hhi,if_neg c];exact v⟩
 ·intro p hp
  rw[hhi];rcases List.mem_append.1 hp with m | m
  ·have:=h.hi_le p m;split<;>omega
  ·have:=h'.hi_le p m;split<;>omega
 ·rw[hf]
  by_cases c:dQ b.f a.f < 0
  ·rw[if_pos c];exact List.mem_append_right _ h'.fi
  ·rw[if_neg c];exact List.mem_append_left _ h.fi
 ·intro p hp
  rw[hf]
  by_cases c:dQ b.f a.f < 0
  ·rw[if_pos c]
   have c':=(AP _ _).1 c;rcases List.mem_append.1 hp with m | m
   ·exact fun e=>h.f_le p m (Ch e c')
   ·exact h'.f_le p m
  ·rw[if_neg c]
   rw[AP] at c
   rcases List.mem_append.1 hp with m | m
   ·exact h.f_le p m
   ·exact Ib (h'.f_le p m) c
 ·rw[hl]
  by_cases c:0 < dQ b.l a.l
  ·rw[if_pos c];exact List.mem_append_right _ h'.la
  ·rw[if_neg c];exact List.mem_append_left _ h.la
 ·intro p hp
  rw[hl]
  by_cases c:0 < dQ b.l a.l
  ·rw[if_pos c]
   have c':=(Ig _ _).1 c;rcases List.mem_append.1 hp with m | m
   ·exact fun e=>h.l_le p m (Ch c' e)
   ·exact h'.l_le p m
  ·rw[if_neg c]
   rw[Ig] at c
   rcases List.mem_append.1 hp with m | m
   ·exact h.l_le p m
   ·exact Ib c (h'.l_le p m)
def upTo(f:Nat->Pt)(k:Nat): List Pt:=(List.range k).map f
theorem xL(f:Nat->Pt)(k:Nat): (upTo f k).length=k:=by simp[upTo]
theorem Cx(f:Nat->Pt)(k:Nat): upTo f (k+1)=upTo f k ++ [f k]:=by simp[upTo,List.range_succ]
theorem yA(f:Nat->Pt)(k:Nat)(p:Pt): p ∈ upTo f k↔∃ j,j < k/\f j=p:=by simp[upTo]
theorem Has.sum{l:List Pt}{a:Ag}(h:Has l a): a.n*a.lo<=a.s/\a.s<=a.n*a.hi:=by
 have aux:∀ (m:List Pt) (x y:Int),(∀ p ∈ m,x<=p.v)->(∀ p ∈ m,p.v<=y)->(m.length:Int)*x<=lG m/\lG m<=(m.length:Int)*y:=by
  intro m
  induction m with
  | nil=>intro x y _ _;simp[lG]
  | cons p m ih=>
   intro x y h1 h2;have:=ih x y (fun q hq=>h1 q (List.mem_cons_of_mem _ hq)) (fun q hq=>h2 q (List.mem_cons_of_mem _ hq));have a1:=h1 p List.mem_cons_self;have a2:=h2 p List.mem_cons_self;rw[List.length_cons,Int.natCast_add,Int.add_mul,Int.add_mul,lG];omega
 rw[h.n,h.s];exact aux l _ _ h.lo_le h.hi_le
end A
namespace A
open Go.RowKit
theorem tC(x:Int)(h0:0<=x)(h1:x < 18446744073709551616): bits .and .u64 x 4294967295=x%4294967296:=by
 show IntKind.u64.wrap ((BitVec.ofInt 64 x &&& BitVec.ofInt 64 4294967295).toNat:Int)=_
 have h2:(BitVec.ofInt 64 4294967295).toNat=2 ^ 32-1:=by decide
 rw[BitVec.toNat_and,h2,xD,Nat.and_two_pow_sub_one_eq_mod];simp[IntKind.wrap,IntKind.bits,IntKind.signed];omega
theorem wrap_u64(x:Int): IntKind.u64.wrap x=x%18446744073709551616:=by simp[IntKind.wrap,IntKind.signed,IntKind.bits]
theorem jk{x:Int}(h0:0<=x)(h1:x < 18446744073709551616): IntKind.u64.wrap x=x:=by rw[wrap_u64];omega
theorem Kg(a b c d:Int): (4294967296*a+b)*(4294967296*c+d)=18446744073709551616*(a*c)+4294967296*(a*d)+4294967296*(b*c)+b*d:=by grind
theorem zu{a b:Int}(a0:0<=a)(a1:a<=4294967295)(b0:0<=b)(b1:b<=4294967295): 0<=a*b/\a*b<=18446744065119617025:=
 ⟨Int.mul_nonneg a0 b0,Int.mul_le_mul a1 b1 b0 J⟩
theorem Sr(x y:Int)(hx:0<=x)(hx':x < 18446744073709551616)(hy:0<=y)(hy':y < 18446744073709551616):
  IntKind.u64.wrap (IntKind.u64.wrap (IntKind.u64.wrap (x / 4294967296*(y / 4294967296))+IntKind.u64.wrap (IntKind.u64.wrap (x / 4294967296*(y%4294967296))+IntKind.u64.wrap (x%4294967296*(y%4294967296)) / 4294967296) / 4294967296) +
   IntKind.u64.wrap (bits BinOp.and IntKind.u64 (IntKind.u64.wrap (IntKind.u64.wrap (x / 4294967296*(y%4294967296))+IntKind.u64.wrap (x%4294967296*(y%4294967296)) / 4294967296)) 4294967295+IntKind.u64.wrap (x%4294967296*(y / 4294967296))) / 4294967296)=aj (x*y):=by
 have e:x*y=18446744073709551616*(x / 4294967296*(y / 4294967296))+4294967296*(x / 4294967296*(y%4294967296))+4294967296*(x%4294967296*(y / 4294967296))+x%4294967296*(y%4294967296):=by
  rw[<-Kg,show 4294967296*(x / 4294967296)+x%4294967296=x by omega,show 4294967296*(y / 4294967296)+y%4294967296=y by omega]
 have b1:=zu (a:=x / 4294967296) (b:=y / 4294967296) J J J J;have b2:=zu (a:=x / 4294967296) (b:=y%4294967296) J J J J;have b3:=zu (a:=x%4294967296) (b:=y / 4294967296) J J J J;have b4:=zu (a:=x%4294967296) (b:=y%4294967296) J J J J;rw[e];unfold aj;generalize x / 4294967296*(y / 4294967296)=p at *
 generalize x / 4294967296*(y%4294967296)=q at *
 generalize x%4294967296*(y / 4294967296)=r at *
 generalize x%4294967296*(y%4294967296)=s at *
 rw[jk (x:=p) J J,jk (x:=q) J J,jk (x:=r) J J,jk (x:=s) J J,jk (x:=q+s / 4294967296) J J,
  tC _ J J,jk (x:=p+(q+s / 4294967296) / 4294967296) J J,jk (x:=(q+s / 4294967296)%4294967296+r) J J,wrap_u64]
 omega
theorem Sv(x y:Int): IntKind.u64.wrap (x*y)=au (x*y):=by rw[wrap_u64];rfl
theorem Cm(x y:Int)(hx:0<=x)(hx':x < 18446744073709551616)(hy:0<=y)(hy':y < 18446744073709551616)(w:World):
  Calls Tryz.prog 360 #[.int .u64 x,.int .u64 y] w fun e w'=>e=.returned (.tuple #[.int .u64 (aj (x*y)),.int .u64 (au (x*y))])/\w=w':=by
 have a1:=tC x hx hx';have a2:=tC y hy hy';have HM:=zh (zN (Sr x y hx hx' hy hy') (Sv x y))
 go_enter Tryz.func360,Tryz.ntmps360
 go_wp2_with fail;go_ret2;refine⟨?_,rfl⟩;rw[<-HM.out.1,<-HM.out.2];rfl
end A
namespace A
open Go.RowKit
def Ir(neg:Bool)(m:Int): Int:=if neg then -m else m
def yF(t:Int)(w:World)(e:Ending)(w':World): Prop:=e=.returned (.tuple #[.agg #[Z (aj t),.int .u64 (au t)],.bool true])/\Below w.heap.size w w'
theorem vJ(m:Int)(neg:Bool)(h0:0<=m)(h1:m < 170141183460469231731687303715884105728)(hn:neg=true->0 < m)(w:World):
  Calls Tryz.prog 361 #[.agg #[.int .u64 (aj m),.int .u64 (au m)],.bool neg] w (yF (Ir neg m) w):=by
 obtain⟨x,hx⟩:∃ x,x=w.heap.size:=⟨_,rfl⟩
 have c1:IntKind.i64.wrap (aj m)=aj m:=by
  unfold aj;simp[IntKind.wrap,IntKind.signed,IntKind.bits];omega
 have o0:Own w [(x,374,#[.int .u64 (aj m),.int .u64 (au m)]),(x+1,193,#[Z 0,.int .u64 0]),(x+1+1,193,#[Z (aj m),.int .u64 (au m)])] _:=Own.qI w hx _ _ _ _ _ _;have HO:=zh (zN hx (zN o0 (zN h0 (zN h1 hn))));clear hx o0 h0 h1 hn
 go_enter Tryz.func361,Tryz.ntmps361
 go_upto_if 13 with (fail)
 rw[<-HO.out.1];clear c1;refine aC (Own w [(x,374,#[.int .u64 (aj m),.int .u64 (au m)]),(x+1,193,#[Z 0,.int .u64 0]),(x+1+1,193,#[Z (aj m),.int .u64 (au m)])]) HO.out.2.1 ?_;intro w2 hS;obtain⟨t,ht⟩:∃ t,t=Ir neg m:=⟨_,rfl⟩
 go_cut [] (fun wx=>Own w [(x,374,#[.int .u64 (aj m),.int .u64 (au m)]),(x+1,193,#[Z 0,.int .u64 0]),(x+1+1,193,#[Z (aj t),.int .u64 (au t)])] wx)
 case first=>
  cases neg
  ·have HS:=zh (zN hS ht)
   clear hS ht;go_wp2_with fail
   go_meet
   have e:t=m:=HS.out.2;rw[e];exact HS.out.1
  ·have z0_0:=hS.c2 0;have z1_0:=hS.c2 1;have z2_0:=hS.c2 2
   have HS:=zh (zN hS ht);clear hS ht;go_wp2_with fail;refine(Cj m (by have:=HO.out;unfold dK;omega) _).mono ?_;rintro e w3 ⟨rfl,hb⟩;have e1:mh (-m)=t:=by
    have:=HO.out;rw[Nh (by unfold dK;omega)];exact HS.out.2.symm
   rw[e1];have hS:=(HS.out.1.call hb).front 2 rfl;clear z0_0 z1_0 z2_0 e1 hb;have z0_0:=hS.c2 0;have z1_0:=hS.c2 1;have z2_0:=hS.c2 2;have zf0:=hS.free 0 rfl;have HP:=zh (((aU.of hS rfl).put [Z (aj t),.int .u64 (au t)] rfl));clear hS;go_wp2_with fail
   go_meet
   exact⟨HP.out.av,fun b hb=>HP.out.blk b (by simp at hb ⊢;rcases hb with h | h | h<;>simp[h]),by
    have:=HP.out.nd;simp at this ⊢
    omega⟩
 case rest=>
  have hS:=hcut;have c2:t=0\/(t≠0/\neg=decide (aj t < 0)):=by
   have:=HO.out.2.2;rw[ht]
   cases neg
   ·show m=0\/(m≠0/\false=decide (aj m < 0))
    by_cases h:m=0
    ·exact .inl h
    ·refine .inr ⟨h,?_⟩
     simp[dU];omega
   ·have:=this.2.2 rfl
    show -m=0\/(-m≠0/\true=decide (aj (-m) < 0))
    refine .inr ⟨J,?_⟩;simp[dU];omega
  have HT:=zh ht;clear ht;have hS:=hS.front 1 rfl;have z0_0:=hS.c2 0;have z1_0:=hS.c2 1;have z2_0:=hS.c2 2;have zf0:=hS.free 0 rfl;have HS:=zh hS;clear hS;rcases c2 with c2 | ⟨c2,c3⟩
  ·have d1:aj t=0:=by rw[c2];rfl
   have d2:au t=0:=by rw[c2];rfl
   clear c2;go_wp2_with fail;have r:=(aU.of HS.out rfl).put [Z 0,.int .u64 0] rfl;exact bodyPost_ret (v:=.tuple #[.agg #[Z 0,.int .u64 0],.bool true]) (by simp[results,Tryz.results361,go_sem,z0_0]) rfl ⟨by rw[<-HT.out,d1,d2],r.av⟩
  ·subst c3
   by_cases d1:aj t=0
   ·have d2:¬ au t=0:=fun h=>c2 (by rw[<-Ef t,d1,h];rfl)
    have D1:=zh d1;have d1':(aj t == 0)=true:=by simp[d1]
    clear c2;go_wp2_with fail;refine(og _ _ _).mono ?_;rintro e w4 ⟨rfl,hb⟩;have hS:=HS.out.call hb;clear z0_0 z1_0 z2_0 zf0;have z0_0:=hS.c2 0;have z1_0:=hS.c2 1;have z2_0:=hS.c2 2;have zf0:=hS.free 0 rfl;have HU:=zh hS;clear hS hb;go_wp2_with fail;have r:=(aU.of HU.out rfl).put [Z 0,.int .u64 (au t)] rfl;exact bodyPost_ret (v:=.tuple #[.agg #[Z 0,.int .u64 (au t)],.bool true]) (by simp[results,Tryz.results361,go_sem,z0_0]) rfl ⟨by rw[<-HT.out,d1],r.av⟩
   ·clear c2
    go_wp2_with fail;refine(og _ _ _).mono ?_;rintro e w4 ⟨rfl,hb⟩;have hS:=HS.out.call hb;clear z0_0 z1_0 z2_0 zf0;have z0_0:=hS.c2 0;have z1_0:=hS.c2 1;have z2_0:=hS.c2 2;have zf0:=hS.free 0 rfl;have HU:=zh hS;clear hS hb;generalize decide (aj t < 0)=b at *
    have db:(b != b)=false:=by simp
    go_wp2_with fail;have r:=(aU.of HU.out rfl).put [Z (aj t),.int .u64 (au t)] rfl;exact bodyPost_ret (v:=.tuple #[.agg #[Z (aj t),.int .u64 (au t)],.bool true]) (by simp[results,Tryz.results361,go_sem,z0_0]) rfl ⟨by rw[HT.out],r.av⟩
theorem Tx{s n:Int}(h:s < 0): Ir true (fP s*n)=s*n:=by
 unfold fP;rw[if_pos h];show -(-s*n)=s*n
 rw[Int.neg_mul,Int.neg_neg]
theorem Tw{s n:Int}(h:¬ s < 0): Ir false (fP s*n)=s*n:=by
 unfold fP;rw[if_neg h];rfl
theorem Sb(a b:Value)(w:World): (Instr.index 374 (.agg #[a,b]) (Z 1)).run Tryz.prog w=.ok b w:=by kernel_rfl
theorem nK(s n:Int)(hs:bI s)(h0:0 < n)(h1:n<=4611686018427387904)(w:World):
  Calls Tryz.prog 324 #[.agg #[Z (aj s),.int .u64 (au s)],Z n] w (yF (s*n) w):=by
 obtain⟨x,hx⟩:∃ x,x=w.heap.size:=⟨_,rfl⟩
 have o0:Own w [(x,193,#[Z (aj s),.int .u64 (au s)]),(x+1,193,#[Z 0,.int .u64 0])] _:=Own.eD w hx _ _ _ _;have hs1:dK s:=by unfold bI at hs;unfold dK;omega
 have hn1:dK n:=by unfold dK;omega
 have HO:=zh (zN hx (zN o0 (zN hs (zN hs1 (zN hn1 (zN h0 h1))))));clear hx o0 hs hs1 hn1
 go_enter Tryz.func324,Tryz.ntmps324
 go_wp2_with fail;refine(yJ s HO.out.2.2.2.1 _).mono ?_;rintro e w1 ⟨rfl,hb1⟩;have hS:=HO.out.2.1.call hb1;have HS:=zh hS;clear hS hb1;go_wp2_with fail;refine(kS n J _).mono ?_;rintro e w2 ⟨rfl,hb2⟩;have hS:=HS.out.call hb2;clear HS;have HS:=zh hS;clear hS hb2;go_wp2_with fail;refine(yJ n HO.out.2.2.2.2.1 _).mono ?_;rintro e w3 ⟨rfl,hb3⟩;have hS:=HS.out.call hb3;clear HS;rw[show fP n=n by unfold fP;rw[if_neg J]];obtain⟨y,hy⟩:∃ y,y=w3.heap.size:=⟨_,rfl⟩
 have hS:=hS.alloc hy 374 #[.int .u64 (aj (fP s)),.int .u64 (au (fP s))]
 have HS:=zh (zN hy hS);clear hS hb3 hy;have hix:=fun a b w=>Sb a b w
 go_upto_region 2 with (fail)
 rw[<-HO.out.1,<-HS.out.1];refine aC (Own w [(x,193,#[Z (aj s),.int .u64 (au s)]),(x+1,193,#[Z 0,.int .u64 0]),(y,374,#[.int .u64 (aj (fP s)),.int .u64 (au (fP s))])]) HS.out.2 ?_;clear HS;intro w4 hS;obtain⟨m,hm⟩:∃ m,m=fP s*n:=⟨_,rfl⟩
 have hs:=HO.out.2.2.1;unfold bI at hs
 have a0:0<=fP s:=by unfold fP;split<;>omega
 have a1:fP s<=9223372036854775808:=by unfold fP;split<;>omega
 have e1:aj (fP s)=0:=by unfold aj;omega
 have e2:au (fP s)=fP s:=by unfold au;omega
 have e4:au n=n:=by unfold au;omega
 have m0:0<=m:=by rw[hm];exact Int.mul_nonneg a0 J
 have m1:m<=9223372036854775808*4611686018427387904:=by rw[hm];exact Int.mul_le_mul a1 h1 J J
 have m2:0<=aj m:=by unfold aj;omega
 have m3:aj m < 18446744073709551616:=by unfold aj;omega
 have m4:s < 0->0 < m:=fun h=>by rw[hm];exact Int.mul_pos (by unfold fP;rw[if_pos h];omega) h0
 have m5:s < 0->Ir true m=s*n:=fun h=>by rw[hm];exact Tx h
 have m6:¬ s < 0->Ir false m=s*n:=fun h=>by rw[hm];exact Tw h
 rw[e1,e2] at hS
 rw[e1,e2,e4];clear e1 e2 e4;have ad:=GU 0 (aj m) J m2;rw[show (0+aj m)%18446744073709551616=aj m by omega,show (0+aj m) / 18446744073709551616=0 by omega] at ad
 have z0_0:=hS.c2 0;have z1_0:=hS.c2 1;have z2_0:=hS.c2 2;have zf1:=hS.free 1 rfl;have HM:=zh (zN hm (zN m0 (zN m1 (zN m4 (zN m5 m6)))));have HS:=zh hS;clear hS hm m0 m1 m4 m5 m6 hs m2 m3 hix;go_wp2_with fail;refine(Cm 0 n J J J J _).mono ?_;rintro e w5 ⟨rfl,rfl⟩;rw[Int.zero_mul,show aj 0=0 from rfl,show au 0=0 from rfl];go_wp2_with fail;refine(Cm (fP s) n a0 J J J _).mono ?_;rintro e w5 ⟨rfl,rfl⟩;rw[<-HM.out.1];clear a0 a1;go_wp2_with (simp only[ad]);refine(og _ _ _).mono ?_;rintro e w5 ⟨rfl,hb5⟩;have hS:=(HS.out.call hb5).front 1 rfl;clear z0_0 z1_0 z2_0 zf1 ad HS;have d1:decide (n < 0)=false:=by simp;omega
 by_cases hneg:s < 0
 ·have d0:decide (aj s < 0)=true:=by simp[dU,hneg]
  rw[d0];have HS:=zh hS;have hm:=HM.out.2.2.2.1 hneg;clear hS hb5 d0
  by_cases g1:aj m=0
  ·have g2:¬ au m=0:=fun h=>by have:=Ef m;rw[g1,h] at this;omega
   have g3:(aj m != 0)=false:=by simp[g1]
   have g4:(au m != 0)=true:=by simp[g2]
   clear g1 g2 hm;go_wp2_with fail;refine(vJ m true HM.out.2.1 (by have:=HM.out.2.2.1;omega) (fun _=>HM.out.2.2.2.1 hneg) _).mono ?_;rw[HM.out.2.2.2.2.1 hneg];rintro e w6 ⟨rfl,hb6⟩;have hS:=HS.out.call hb6;have z0_0:=hS.c2 0;have z1_0:=hS.c2 1;have z2_0:=hS.c2 2;have zf0:=hS.free 0 rfl;have HU:=zh hS;clear hS hb6;obtain⟨t,ht⟩:∃ t,t=s*n:=⟨_,rfl⟩
   rw[<-ht];have HT:=zh ht;clear ht;go_wp2_with fail;have r:=(aU.of HU.out rfl).put [Z (aj t),.int .u64 (au t)] rfl;exact bodyPost_ret (v:=.tuple #[.agg #[Z (aj t),.int .u64 (au t)],.bool true]) (by simp[results,Tryz.results324,go_sem,z0_0]) rfl ⟨by rw[HT.out],r.av⟩
  ·have g3:(aj m != 0)=true:=by simp[g1]
   clear g1 hm;go_wp2_with fail;refine(vJ m true HM.out.2.1 (by have:=HM.out.2.2.1;omega) (fun _=>HM.out.2.2.2.1 hneg) _).mono ?_;rw[HM.out.2.2.2.2.1 hneg];rintro e w6 ⟨rfl,hb6⟩;have hS:=HS.out.call hb6;have z0_0:=hS.c2 0;have z1_0:=hS.c2 1;have z2_0:=hS.c2 2;have zf0:=hS.free 0 rfl;have HU:=zh hS;clear hS hb6;obtain⟨t,ht⟩:∃ t,t=s*n:=⟨_,rfl⟩
   rw[<-ht];have HT:=zh ht;clear ht;go_wp2_with fail;have r:=(aU.of HU.out rfl).put [Z (aj t),.int .u64 (au t)] rfl;exact bodyPost_ret (v:=.tuple #[.agg #[Z (aj t),.int .u64 (au t)],.bool true]) (by simp[results,Tryz.results324,go_sem,z0_0]) rfl ⟨by rw[HT.out],r.av⟩
 ·have d0:decide (aj s < 0)=false:=by simp[dU];omega
  rw[d0];have HS:=zh hS;clear hS hb5 d0;go_wp2_with fail;refine(vJ m false HM.out.2.1 (by have:=HM.out.2.2.1;omega) (fun h=>by cases h) _).mono ?_;rw[HM.out.2.2.2.2.2 hneg];rintro e w6 ⟨rfl,hb6⟩;have hS:=HS.out.call hb6;have z0_0:=hS.c2 0;have z1_0:=hS.c2 1;have z2_0:=hS.c2 2;have zf0:=hS.free 0 rfl;have HU:=zh hS;clear hS hb6;obtain⟨t,ht⟩:∃ t,t=s*n:=⟨_,rfl⟩
  rw[<-ht];have HT:=zh ht;clear ht;go_wp2_with fail;have r:=(aU.of HU.out rfl).put [Z (aj t),.int .u64 (au t)] rfl;exact bodyPost_ret (v:=.tuple #[.agg #[Z (aj t),.int .u64 (au t)],.bool true]) (by simp[results,Tryz.results324,go_sem,z0_0]) rfl ⟨by rw[HT.out],r.av⟩
end A
namespace A
open Go.RowKit
def Sd(a:Ag): Bool:=decide (a.n=0/\aj a.s=0/\au a.s=0/\a.lo=0/\a.hi=0/\a.f.t=0/\a.f.v=0/\a.f.s=0/\a.l.t=0/\a.l.v=0/\a.l.s=0)
def dM(a:Ag): Bool:=
 if a.n=0 then Sd a else
 if ¬ 0 < a.n then false else if 4611686018427387904 < a.n then false else if a.hi < a.lo then false else
 if ¬ (a.lo<=a.f.v/\a.f.v<=a.hi) then false else if ¬ (a.lo<=a.l.v/\a.l.v<=a.hi) then false else if dQ a.l a.f < 0 then false else
 if a.s < a.lo*a.n then false else if a.hi*a.n < a.s then false else
 if 1 < a.n then true else if uU a.f a.l=false then false else decide (a.lo=a.hi)
def qb(b:Bool)(w:World)(e:Ending)(w':World): Prop:=e=.returned (.bool b)/\Below w.heap.size w w'
theorem wO(a:Ag)(n:Int)(w:World): Calls Tryz.prog 322 #[.agg #[Z a.n,Z (aj a.s),.int .u64 (au a.s),Z a.lo,Z a.hi,Z a.f.t,Z a.f.v,Z a.f.s,Z a.l.t,Z a.l.v,Z a.l.s,.bool true],Z n] w (qb (decide (a.lo<=n/\n<=a.hi)) w):=by
 have o0:Own w [_] _:=Own.bn w rfl 464 #[Z a.n,Z (aj a.s),.int .u64 (au a.s),Z a.lo,Z a.hi,Z a.f.t,Z a.f.v,Z a.f.s,Z a.l.t,Z a.l.v,Z a.l.s,.bool true]
 have HO:=zh o0.av;clear o0
 by_cases h1:a.lo<=n
 ·by_cases h2:n<=a.hi
  ·have hf:decide (a.lo<=n/\n<=a.hi)=true:=by simp[h1,h2]
   rw[hf];clear hf
   go_enter Tryz.func322,Tryz.ntmps322
   go_wp2_with fail;go_ret;exact⟨rfl,HO.out⟩
  ·have hf:decide (a.lo<=n/\n<=a.hi)=false:=by simp[h1];omega
   rw[hf];have d2:decide (n<=a.hi)=false:=by simp;omega
   clear hf h2
   go_enter Tryz.func322,Tryz.ntmps322
   go_wp2_with fail;go_ret;exact⟨rfl,HO.out⟩
 ·have hf:decide (a.lo<=n/\n<=a.hi)=false:=by simp[h1]
  rw[hf];have d2:decide (a.lo<=n)=false:=by simp;omega
  clear hf h1
  go_enter Tryz.func322,Tryz.ntmps322
  go_wp2_with fail;go_ret;exact⟨rfl,HO.out⟩
theorem vO(a:Ag)(ha:kU a)(w:World): Calls Tryz.prog 260 #[.agg #[Z a.n,Z (aj a.s),.int .u64 (au a.s),Z a.lo,Z a.hi,Z a.f.t,Z a.f.v,Z a.f.s,Z a.l.t,Z a.l.v,Z a.l.s]] w (qb (dM a) w):=by
 obtain⟨x,hx⟩:∃ x,x=w.heap.size:=⟨_,rfl⟩
 have o1:Own w [(x,195,#[Z a.n,Z (aj a.s),.int .u64 (au a.s),Z a.lo,Z a.hi,Z a.f.t,Z a.f.v,Z a.f.s,Z a.l.t,Z a.l.v,Z a.l.s])] _:=Own.bn w hx _ _;have o2:Own w [(x,195,#[Z a.n,Z (aj a.s),.int .u64 (au a.s),Z a.lo,Z a.hi,Z a.f.t,Z a.f.v,Z a.f.s,Z a.l.t,Z a.l.v,Z a.l.s]),(x+1,464,#[Z a.n,Z (aj a.s),.int .u64 (au a.s),Z a.lo,Z a.hi,Z a.f.t,Z a.f.v,Z a.f.s,Z a.l.t,Z a.l.v,Z a.l.s,.bool true])] _:=o1.alloc (by simp[hx]) _ _;have o3:Own w [(x,195,#[Z a.n,Z (aj a.s),.int .u64 (au a.s),Z a.lo,Z a.hi,Z a.f.t,Z a.f.v,Z a.f.s,Z a.l.t,Z a.l.v,Z a.l.s]),(x+1,464,#[Z a.n,Z (aj a.s),.int .u64 (au a.s),Z a.lo,Z a.hi,Z a.f.t,Z a.f.v,Z a.f.s,Z a.l.t,Z a.l.v,Z a.l.s,.bool false])] _:=o1.alloc (by simp[hx]) _ _;have lo:bI a.lo:=ha.2.2.1;have hi:bI a.hi:=ha.2.2.2;have HO:=zh (zN hx (zN (zN o1.av (zN o2 o3.av)) (zN lo (zN hi ha))));clear hx o1 o2 o3 lo hi ha
 by_cases c0:a.n=0
 ·have d0:(a.n == 0)=true:=by simp[c0]
  by_cases hz:(a.n=0/\aj a.s=0/\au a.s=0/\a.lo=0/\a.hi=0/\a.f.t=0/\a.f.v=0/\a.f.s=0/\a.l.t=0/\a.l.v=0/\a.l.s=0)
  ·have hv:dM a=true:=by unfold dM Sd;rw[if_pos c0];simp only[hz,decide_true,and_self]
   rw[hv];obtain⟨z1,z2,z3,z4,z5,z6,z7,z8,z9,z10,z11⟩:=hz;have HB:=zh HO.out.2.1.1;rw[z1,z2,z3,z4,z5,z6,z7,z8,z9,z10,z11] at HB
   clear hv c0 HO d0;rw[z1,z2,z3,z4,z5,z6,z7,z8,z9,z10,z11];clear z1 z2 z3 z4 z5 z6 z7 z8 z9 z10 z11
   go_enter Tryz.func260,Tryz.ntmps260
   go_wp2_with fail;go_ret;exact⟨rfl,HB.out⟩
  ·have hv:dM a=false:=by unfold dM Sd;rw[if_pos c0];simp only[hz,decide_false]
   rw[hv];have HZ:=zh (zN c0 hz);have HB:=zh HO.out.2.1.1;clear hv c0 HO hz
   go_enter Tryz.func260,Tryz.ntmps260
   go_wp2_with fail
   all_goals first | exact absurd ⟨HZ.out.1,by assumption,by assumption,by assumption,by assumption,by assumption,by assumption,by assumption,by assumption,by assumption,by assumption⟩ HZ.out.2 | (go_ret;exact ⟨rfl,(Own.bn w rfl _ _).av⟩)
 have d0:(a.n == 0)=false:=by simp[c0]
 by_cases c1:0 < a.n
 rotate_left
 ·have hv:dM a=false:=by unfold dM;rw[if_neg c0,if_pos c1]
  rw[hv];have d1:decide (0 < a.n)=false:=by simp;omega
  clear hv c0 c1
  go_enter Tryz.func260,Tryz.ntmps260
  go_wp2_with fail;go_ret;exact⟨rfl,HO.out.2.1.2.2⟩
 have d1:decide (0 < a.n)=true:=by simp[c1]
 by_cases c2:4611686018427387904 < a.n
 ·have hv:dM a=false:=by unfold dM;rw[if_neg c0,if_neg J,if_pos c2]
  rw[hv];have d2:decide (a.n<=4611686018427387904)=false:=by simp;omega
  clear hv c0 c2
  go_enter Tryz.func260,Tryz.ntmps260
  go_wp2_with fail;go_ret;exact⟨rfl,HO.out.2.1.2.2⟩
 have d2:decide (a.n<=4611686018427387904)=true:=by simp;omega
 by_cases c3:a.hi < a.lo
 ·have hv:dM a=false:=by unfold dM;rw[if_neg c0,if_neg J,if_neg c2,if_pos c3]
  rw[hv];have d3:decide (a.lo<=a.hi)=false:=by simp;omega
  clear hv c0 c2 c3
  go_enter Tryz.func260,Tryz.ntmps260
  go_wp2_with fail;go_ret;exact⟨rfl,HO.out.2.1.2.2⟩
 have d3:decide (a.lo<=a.hi)=true:=by simp;omega
 have hv:dM a=(if ¬ (a.lo<=a.f.v/\a.f.v<=a.hi) then false else if ¬ (a.lo<=a.l.v/\a.l.v<=a.hi) then false else if dQ a.l a.f < 0 then false else
  if a.s < a.lo*a.n then false else if a.hi*a.n < a.s then false else if 1 < a.n then true else if uU a.f a.l=false then false else decide (a.lo=a.hi)):=by
  unfold dM;rw[if_neg c0,if_neg J,if_neg c2,if_neg c3]
 obtain⟨bv,hbv⟩:∃ bv,bv=dM a:=⟨_,rfl⟩
 rw[<-hbv];have HV:=zh (hbv.trans hv);clear hv hbv;have c2':a.n<=4611686018427387904:=J;clear c0 c2 c3
 go_enter Tryz.func260,Tryz.ntmps260
 go_upto_region 4 with (fail)
 clear d0 d1 d2 d3;rw[<-HO.out.1];refine aC (Own w [(x,195,#[Z a.n,Z (aj a.s),.int .u64 (au a.s),Z a.lo,Z a.hi,Z a.f.t,Z a.f.v,Z a.f.s,Z a.l.t,Z a.l.v,Z a.l.s]),(x+1,464,#[Z a.n,Z (aj a.s),.int .u64 (au a.s),Z a.lo,Z a.hi,Z a.f.t,Z a.f.v,Z a.f.s,Z a.l.t,Z a.l.v,Z a.l.s,.bool true])]) HO.out.2.1.2.1 ?_;intro w2 hS;have z0_0:=hS.c11 0;have z1_0:=hS.c12 1;have HS:=zh hS;clear hS;go_wp2_with fail;refine(wO a a.f.v _).mono ?_;rintro e w3 ⟨rfl,hb⟩;have hS:=HS.out.call hb;clear HS hb z0_0 z1_0
 by_cases c4:(a.lo<=a.f.v/\a.f.v<=a.hi)
 rotate_left
 ·rw[decide_eq_false c4]
  have z0_0:=hS.c11 0;have z1_0:=hS.c12 1;have HS:=zh hS;clear hS;have HF:=zh (show bv=false by rw[HV.out,if_pos c4]);go_wp2_with fail;go_ret;exact⟨by first | (rw[HF.out];done) | (rw[HF.out];rfl),HS.out.av⟩
 rw[decide_eq_true c4];have z0_0:=hS.c11 0;have z1_0:=hS.c12 1;have HS:=zh hS;clear hS;go_wp2_with fail;refine(wO a a.l.v _).mono ?_;rintro e w4 ⟨rfl,hb⟩;have hS:=HS.out.call hb;clear HS hb z0_0 z1_0
 by_cases c5:(a.lo<=a.l.v/\a.l.v<=a.hi)
 rotate_left
 ·rw[decide_eq_false c5]
  have z0_0:=hS.c11 0;have z1_0:=hS.c12 1;have HS:=zh hS;clear hS;have HF:=zh (show bv=false by rw[HV.out,if_neg (fun h=>h c4),if_pos c5]);go_wp2_with fail;go_ret;exact⟨by first | (rw[HF.out];done) | (rw[HF.out];rfl),HS.out.av⟩
 rw[decide_eq_true c5];have z0_0:=hS.c11 0;have z1_0:=hS.c12 1;have HS:=zh hS;clear hS;go_wp2_with fail;refine(rG a.l a.f _).mono ?_;rintro e w5 ⟨rfl,hb⟩;have hS:=HS.out.call hb;clear HS hb z0_0 z1_0
 by_cases c6:dQ a.l a.f < 0
 ·have d6:decide (dQ a.l a.f < 0)=true:=by simp[c6]
  have z0_0:=hS.c11 0;have z1_0:=hS.c12 1;have HS:=zh hS;clear hS;have HF:=zh (show bv=false by rw[HV.out,if_neg (fun h=>h c4),if_neg (fun h=>h c5),if_pos c6]);go_wp2_with fail;go_ret;exact⟨by first | (rw[HF.out];done) | (rw[HF.out];rfl),HS.out.av⟩
 have d6:decide (dQ a.l a.f < 0)=false:=by simp;omega
 have HS:=zh hS;clear hS;go_upto_region 6 with (fail)
 clear d6
 go_cut [4,5] from 62 to 72 (fun s4 s5 wx=>s5=.bool true/\∃ g,s4=.pointer (some ⟨g,0,none⟩)/\Own w [(g,193,#[Z (aj (a.lo*a.n)),.int .u64 (au (a.lo*a.n))]),(x,195,#[Z a.n,Z (aj a.s),.int .u64 (au a.s),Z a.lo,Z a.hi,Z a.f.t,Z a.f.v,Z a.f.s,Z a.l.t,Z a.l.v,Z a.l.s]),(x+1,464,#[Z a.n,Z (aj a.s),.int .u64 (au a.s),Z a.lo,Z a.hi,Z a.f.t,Z a.f.v,Z a.f.s,Z a.l.t,Z a.l.v,Z a.l.s,.bool true])] wx)
 case first=>
  have hS1:=HS.out.drew;have hS:(Own w [(x,195,#[Z a.n,Z (aj a.s),.int .u64 (au a.s),Z a.lo,Z a.hi,Z a.f.t,Z a.f.v,Z a.f.s,Z a.l.t,Z a.l.v,Z a.l.s]),(x+1,464,#[Z a.n,Z (aj a.s),.int .u64 (au a.s),Z a.lo,Z a.hi,Z a.f.t,Z a.f.v,Z a.f.s,Z a.l.t,Z a.l.v,Z a.l.s,.bool true])]) (w5.drew):=hS1;refine aA (Own w [(x,195,#[Z a.n,Z (aj a.s),.int .u64 (au a.s),Z a.lo,Z a.hi,Z a.f.t,Z a.f.v,Z a.f.s,Z a.l.t,Z a.l.v,Z a.l.s]),(x+1,464,#[Z a.n,Z (aj a.s),.int .u64 (au a.s),Z a.lo,Z a.hi,Z a.f.t,Z a.f.v,Z a.f.s,Z a.l.t,Z a.l.v,Z a.l.s,.bool true])]) (by kernel_rfl) hS ?_;refine zB [0,1,2,4,5,6] ?_;iterate 6 (refine zV ?_ ?_ hS ?_;rotate_left;(intro w' hSw;have z0_0:=hSw.c11 0;have z1_0:=hSw.c12 1;go_simp<;>with_reducible rfl);try simp only[zP])
  refine zE ?_;refine fA (i:=3) (j:=11) rfl rfl (by kernel_rfl) (fun K hK=>?_) (fun K hK=>?_)
  ·skip
   have HK:=zh hK;clear hK;go_simp;refine(kS a.lo HO.out.2.2.1 _).mono ?_;rintro e v1 ⟨rfl,hb1⟩;have HB:=zh (hS.call hb1);clear hb1;go_wp2_with fail;refine HK.out.go (Own w [(x,195,#[Z a.n,Z (aj a.s),.int .u64 (au a.s),Z a.lo,Z a.hi,Z a.f.t,Z a.f.v,Z a.f.s,Z a.l.t,Z a.l.v,Z a.l.s]),(x+1,464,#[Z a.n,Z (aj a.s),.int .u64 (au a.s),Z a.lo,Z a.hi,Z a.f.t,Z a.f.v,Z a.f.s,Z a.l.t,Z a.l.v,Z a.l.s,.bool true])]) (fun _ h=>h) (HB.out) ?_;clear HK hS;intro w2 hS;try simp only[zP]
   refine fA (i:=7) (j:=11) rfl rfl (by kernel_rfl) (fun K hK=>?_) (fun K hK=>?_)
   ·skip
    have HK:=zh hK;clear hK;go_simp;refine(nK a.lo a.n HO.out.2.2.1 J J _).mono ?_;rintro e v2 ⟨rfl,hb2⟩;have HB:=zh (hS.call hb2);clear hb2;go_wp2_with fail;refine HK.out.go (Own w [(x,195,#[Z a.n,Z (aj a.s),.int .u64 (au a.s),Z a.lo,Z a.hi,Z a.f.t,Z a.f.v,Z a.f.s,Z a.l.t,Z a.l.v,Z a.l.s]),(x+1,464,#[Z a.n,Z (aj a.s),.int .u64 (au a.s),Z a.lo,Z a.hi,Z a.f.t,Z a.f.v,Z a.f.s,Z a.l.t,Z a.l.v,Z a.l.s,.bool true])]) (fun _ h=>h) (HB.out) ?_;clear HK hS;intro w3 hS;try simp only[zP]
    refine zB [8,9,10] ?_;iterate 3 (refine zv hS ?_;try simp only[zP])
    refine zE ?_;obtain⟨g,hg⟩:∃ g,g=w3.heap.size:=⟨_,rfl⟩
    have HA:=zh (zN hg ((hS.alloc (show g=w3.heap.size from hg) 193 #[Z 0,.int .u64 0]).front 2 rfl));clear hg;refine zC 11 fun K HK=>?_
    go_simp;rw[<-HA.out.1];go_wp2_with fail;refine HK.out.go (aU w g 193 2 [(x,195,#[Z a.n,Z (aj a.s),.int .u64 (au a.s),Z a.lo,Z a.hi,Z a.f.t,Z a.f.v,Z a.f.s,Z a.l.t,Z a.l.v,Z a.l.s]),(x+1,464,#[Z a.n,Z (aj a.s),.int .u64 (au a.s),Z a.lo,Z a.hi,Z a.f.t,Z a.f.v,Z a.f.s,Z a.l.t,Z a.l.v,Z a.l.s,.bool true])]) (fun _ h=>h.rest) (aU.of HA.out.2 rfl) ?_;clear HK hS;intro v4 hS;try simp only[zP]
    obtain⟨c0,c1,hO⟩:=hS.two;have z0_0:=hO.c2 0;have zf0:=hO.free 0 rfl;have HW:=zh (hS.put [Z (aj (a.lo*a.n)),.int .u64 (au (a.lo*a.n))] rfl);clear hO;refine zC 12 fun K HK=>?_
    go_simp;go_wp2_with fail;refine HK.out.go (Own w [(g,193,#[Z (aj (a.lo*a.n)),.int .u64 (au (a.lo*a.n))]),(x,195,#[Z a.n,Z (aj a.s),.int .u64 (au a.s),Z a.lo,Z a.hi,Z a.f.t,Z a.f.v,Z a.f.s,Z a.l.t,Z a.l.v,Z a.l.s]),(x+1,464,#[Z a.n,Z (aj a.s),.int .u64 (au a.s),Z a.lo,Z a.hi,Z a.f.t,Z a.f.v,Z a.f.s,Z a.l.t,Z a.l.v,Z a.l.s,.bool true])]) (fun _ h=>aU.of h rfl) (HW.out) ?_;clear HK hS;intro v9 hS;try simp only[zP]
    refine zt 13 hS ?_;try simp only[zP]
    refine zD ?_;try simp only[zP]
    have HU:=zh hS;clear hS;go_wp2_with fail
    go_meet
    exact⟨rfl,g,rfl,HU.out⟩
   ·skip
    obtain⟨g,hg⟩:∃ g,g=w2.heap.size:=⟨_,rfl⟩
    have HA:=zh (zN hg ((hS.alloc (show g=w2.heap.size from hg) 193 #[Z 0,.int .u64 0]).front 2 rfl));clear hg;have HK:=zh hK;clear hK;go_simp;rw[<-HA.out.1];go_wp2_with fail;refine HK.out.go (aU w g 193 2 [(x,195,#[Z a.n,Z (aj a.s),.int .u64 (au a.s),Z a.lo,Z a.hi,Z a.f.t,Z a.f.v,Z a.f.s,Z a.l.t,Z a.l.v,Z a.l.s]),(x+1,464,#[Z a.n,Z (aj a.s),.int .u64 (au a.s),Z a.lo,Z a.hi,Z a.f.t,Z a.f.v,Z a.f.s,Z a.l.t,Z a.l.v,Z a.l.s,.bool true])]) (fun _ h=>h.rest) (aU.of HA.out.2 rfl) ?_;clear HK hS;intro v4 hS;try simp only[zP]
    refine zC 7 fun K HK=>?_
    go_simp;refine(nK a.lo a.n HO.out.2.2.1 J J _).mono ?_;rintro e v2 ⟨rfl,hb2⟩;have HB:=zh (hS.call hb2);clear hb2;go_wp2_with fail;refine HK.out.go (aU w g 193 2 [(x,195,#[Z a.n,Z (aj a.s),.int .u64 (au a.s),Z a.lo,Z a.hi,Z a.f.t,Z a.f.v,Z a.f.s,Z a.l.t,Z a.l.v,Z a.l.s]),(x+1,464,#[Z a.n,Z (aj a.s),.int .u64 (au a.s),Z a.lo,Z a.hi,Z a.f.t,Z a.f.v,Z a.f.s,Z a.l.t,Z a.l.v,Z a.l.s,.bool true])]) (fun _ h=>h) (HB.out) ?_;clear HK hS;intro w3 hS;try simp only[zP]
    refine zB [8,9,10] ?_;iterate 3 (refine zv hS ?_;try simp only[zP])
    refine zE ?_;obtain⟨c0,c1,hO⟩:=hS.two;have z0_0:=hO.c2 0;have zf0:=hO.free 0 rfl;have HW:=zh (hS.put [Z (aj (a.lo*a.n)),.int .u64 (au (a.lo*a.n))] rfl);clear hO;refine zC 12 fun K HK=>?_
    go_simp;go_wp2_with fail;refine HK.out.go (Own w [(g,193,#[Z (aj (a.lo*a.n)),.int .u64 (au (a.lo*a.n))]),(x,195,#[Z a.n,Z (aj a.s),.int .u64 (au a.s),Z a.lo,Z a.hi,Z a.f.t,Z a.f.v,Z a.f.s,Z a.l.t,Z a.l.v,Z a.l.s]),(x+1,464,#[Z a.n,Z (aj a.s),.int .u64 (au a.s),Z a.lo,Z a.hi,Z a.f.t,Z a.f.v,Z a.f.s,Z a.l.t,Z a.l.v,Z a.l.s,.bool true])]) (fun _ h=>aU.of h rfl) (HW.out) ?_;clear HK hS;intro v9 hS;try simp only[zP]
    refine zt 13 hS ?_;try simp only[zP]
    refine zD ?_;try simp only[zP]
    have HU:=zh hS;clear hS;go_wp2_with fail
    go_meet
    exact⟨rfl,g,rfl,HU.out⟩
  ·skip
   obtain⟨g,hg⟩:∃ g,g=w5.heap.size:=⟨_,rfl⟩
   have HA:=zh (zN hg ((hS.alloc (show g=w5.drew.heap.size from hg) 193 #[Z 0,.int .u64 0]).front 2 rfl));clear hg;have HK:=zh hK;clear hK;go_simp;rw[<-HA.out.1];go_wp2_with fail;refine HK.out.go (aU w g 193 2 [(x,195,#[Z a.n,Z (aj a.s),.int .u64 (au a.s),Z a.lo,Z a.hi,Z a.f.t,Z a.f.v,Z a.f.s,Z a.l.t,Z a.l.v,Z a.l.s]),(x+1,464,#[Z a.n,Z (aj a.s),.int .u64 (au a.s),Z a.lo,Z a.hi,Z a.f.t,Z a.f.v,Z a.f.s,Z a.l.t,Z a.l.v,Z a.l.s,.bool true])]) (fun _ h=>h.rest) (aU.of HA.out.2 rfl) ?_;clear HK hS;intro v4 hS;try simp only[zP]
   refine zC 3 fun K HK=>?_
   go_simp;refine(kS a.lo HO.out.2.2.1 _).mono ?_;rintro e v1 ⟨rfl,hb1⟩;have HB:=zh (hS.call hb1);clear hb1;go_wp2_with fail;refine HK.out.go (aU w g 193 2 [(x,195,#[Z a.n,Z (aj a.s),.int .u64 (au a.s),Z a.lo,Z a.hi,Z a.f.t,Z a.f.v,Z a.f.s,Z a.l.t,Z a.l.v,Z a.l.s]),(x+1,464,#[Z a.n,Z (aj a.s),.int .u64 (au a.s),Z a.lo,Z a.hi,Z a.f.t,Z a.f.v,Z a.f.s,Z a.l.t,Z a.l.v,Z a.l.s,.bool true])]) (fun _ h=>h) (HB.out) ?_;clear HK hS;intro w2 hS;try simp only[zP]
   refine zC 7 fun K HK=>?_
   go_simp;refine(nK a.lo a.n HO.out.2.2.1 J J _).mono ?_;rintro e v2 ⟨rfl,hb2⟩;have HB:=zh (hS.call hb2);clear hb2;go_wp2_with fail;refine HK.out.go (aU w g 193 2 [(x,195,#[Z a.n,Z (aj a.s),.int .u64 (au a.s),Z a.lo,Z a.hi,Z a.f.t,Z a.f.v,Z a.f.s,Z a.l.t,Z a.l.v,Z a.l.s]),(x+1,464,#[Z a.n,Z (aj a.s),.int .u64 (au a.s),Z a.lo,Z a.hi,Z a.f.t,Z a.f.v,Z a.f.s,Z a.l.t,Z a.l.v,Z a.l.s,.bool true])]) (fun _ h=>h) (HB.out) ?_;clear HK hS;intro w3 hS;try simp only[zP]
   refine zB [8,9,10] ?_;iterate 3 (refine zv hS ?_;try simp only[zP])
   refine zE ?_;obtain⟨c0,c1,hO⟩:=hS.two;have z0_0:=hO.c2 0;have zf0:=hO.free 0 rfl;have HW:=zh (hS.put [Z (aj (a.lo*a.n)),.int .u64 (au (a.lo*a.n))] rfl);clear hO;refine zC 12 fun K HK=>?_
   go_simp;go_wp2_with fail;refine HK.out.go (Own w [(g,193,#[Z (aj (a.lo*a.n)),.int .u64 (au (a.lo*a.n))]),(x,195,#[Z a.n,Z (aj a.s),.int .u64 (au a.s),Z a.lo,Z a.hi,Z a.f.t,Z a.f.v,Z a.f.s,Z a.l.t,Z a.l.v,Z a.l.s]),(x+1,464,#[Z a.n,Z (aj a.s),.int .u64 (au a.s),Z a.lo,Z a.hi,Z a.f.t,Z a.f.v,Z a.f.s,Z a.l.t,Z a.l.v,Z a.l.s,.bool true])]) (fun _ h=>aU.of h rfl) (HW.out) ?_;clear HK hS;intro v9 hS;try simp only[zP]
   refine zt 13 hS ?_;try simp only[zP]
   refine zD ?_;try simp only[zP]
   have HU:=zh hS;clear hS;go_wp2_with fail
   go_meet
   exact⟨rfl,g,rfl,HU.out⟩
 case rest=>
  obtain⟨rfl,g1,rfl,hS⟩:=hcut;clear HS;have HS:=zh hS;clear hS;go_upto_region 7 with (fail)
  go_cut [6,7] from 73 to 83 (fun s6 s7 wx=>s7=.bool true/\∃ g,s6=.pointer (some ⟨g,0,none⟩)/\Own w [(g,193,#[Z (aj (a.hi*a.n)),.int .u64 (au (a.hi*a.n))]),(g1,193,#[Z (aj (a.lo*a.n)),.int .u64 (au (a.lo*a.n))]),(x,195,#[Z a.n,Z (aj a.s),.int .u64 (au a.s),Z a.lo,Z a.hi,Z a.f.t,Z a.f.v,Z a.f.s,Z a.l.t,Z a.l.v,Z a.l.s]),(x+1,464,#[Z a.n,Z (aj a.s),.int .u64 (au a.s),Z a.lo,Z a.hi,Z a.f.t,Z a.f.v,Z a.f.s,Z a.l.t,Z a.l.v,Z a.l.s,.bool true])] wx)
  case first=>
   have hS1:=HS.out.drew;have hS:(Own w [(g1,193,#[Z (aj (a.lo*a.n)),.int .u64 (au (a.lo*a.n))]),(x,195,#[Z a.n,Z (aj a.s),.int .u64 (au a.s),Z a.lo,Z a.hi,Z a.f.t,Z a.f.v,Z a.f.s,Z a.l.t,Z a.l.v,Z a.l.s]),(x+1,464,#[Z a.n,Z (aj a.s),.int .u64 (au a.s),Z a.lo,Z a.hi,Z a.f.t,Z a.f.v,Z a.f.s,Z a.l.t,Z a.l.v,Z a.l.s,.bool true])]) (wc.drew):=hS1;refine aA (Own w [(g1,193,#[Z (aj (a.lo*a.n)),.int .u64 (au (a.lo*a.n))]),(x,195,#[Z a.n,Z (aj a.s),.int .u64 (au a.s),Z a.lo,Z a.hi,Z a.f.t,Z a.f.v,Z a.f.s,Z a.l.t,Z a.l.v,Z a.l.s]),(x+1,464,#[Z a.n,Z (aj a.s),.int .u64 (au a.s),Z a.lo,Z a.hi,Z a.f.t,Z a.f.v,Z a.f.s,Z a.l.t,Z a.l.v,Z a.l.s,.bool true])]) (by kernel_rfl) hS ?_;refine zB [0,1,2,4,5,6] ?_;iterate 6 (refine zV ?_ ?_ hS ?_;rotate_left;(intro w' hSw;have z0_0:=hSw.c2 0;have z1_0:=hSw.c11 1;have z2_0:=hSw.c12 2;go_simp<;>with_reducible rfl);try simp only[zP])
   refine zE ?_;refine fA (i:=3) (j:=11) rfl rfl (by kernel_rfl) (fun K hK=>?_) (fun K hK=>?_)
   ·skip
    have HK:=zh hK;clear hK;go_simp;refine(kS a.hi HO.out.2.2.2.1 _).mono ?_;rintro e v1 ⟨rfl,hb1⟩;have HB:=zh (hS.call hb1);clear hb1;go_wp2_with fail;refine HK.out.go (Own w [(g1,193,#[Z (aj (a.lo*a.n)),.int .u64 (au (a.lo*a.n))]),(x,195,#[Z a.n,Z (aj a.s),.int .u64 (au a.s),Z a.lo,Z a.hi,Z a.f.t,Z a.f.v,Z a.f.s,Z a.l.t,Z a.l.v,Z a.l.s]),(x+1,464,#[Z a.n,Z (aj a.s),.int .u64 (au a.s),Z a.lo,Z a.hi,Z a.f.t,Z a.f.v,Z a.f.s,Z a.l.t,Z a.l.v,Z a.l.s,.bool true])]) (fun _ h=>h) (HB.out) ?_;clear HK hS;intro w2 hS;try simp only[zP]
    refine fA (i:=7) (j:=11) rfl rfl (by kernel_rfl) (fun K hK=>?_) (fun K hK=>?_)
    ·skip
     have HK:=zh hK;clear hK;go_simp;refine(nK a.hi a.n HO.out.2.2.2.1 J J _).mono ?_;rintro e v2 ⟨rfl,hb2⟩;have HB:=zh (hS.call hb2);clear hb2;go_wp2_with fail;refine HK.out.go (Own w [(g1,193,#[Z (aj (a.lo*a.n)),.int .u64 (au (a.lo*a.n))]),(x,195,#[Z a.n,Z (aj a.s),.int .u64 (au a.s),Z a.lo,Z a.hi,Z a.f.t,Z a.f.v,Z a.f.s,Z a.l.t,Z a.l.v,Z a.l.s]),(x+1,464,#[Z a.n,Z (aj a.s),.int .u64 (au a.s),Z a.lo,Z a.hi,Z a.f.t,Z a.f.v,Z a.f.s,Z a.l.t,Z a.l.v,Z a.l.s,.bool true])]) (fun _ h=>h) (HB.out) ?_;clear HK hS;intro w3 hS;try simp only[zP]
     refine zB [8,9,10] ?_;iterate 3 (refine zv hS ?_;try simp only[zP])
     refine zE ?_;obtain⟨g,hg⟩:∃ g,g=w3.heap.size:=⟨_,rfl⟩
     have HA:=zh (zN hg ((hS.alloc (show g=w3.heap.size from hg) 193 #[Z 0,.int .u64 0]).front 3 rfl));clear hg;refine zC 11 fun K HK=>?_
     go_simp;rw[<-HA.out.1];go_wp2_with fail;refine HK.out.go (aU w g 193 2 [(g1,193,#[Z (aj (a.lo*a.n)),.int .u64 (au (a.lo*a.n))]),(x,195,#[Z a.n,Z (aj a.s),.int .u64 (au a.s),Z a.lo,Z a.hi,Z a.f.t,Z a.f.v,Z a.f.s,Z a.l.t,Z a.l.v,Z a.l.s]),(x+1,464,#[Z a.n,Z (aj a.s),.int .u64 (au a.s),Z a.lo,Z a.hi,Z a.f.t,Z a.f.v,Z a.f.s,Z a.l.t,Z a.l.v,Z a.l.s,.bool true])]) (fun _ h=>h.rest) (aU.of HA.out.2 rfl) ?_;clear HK hS;intro v4 hS;try simp only[zP]
     obtain⟨c0,c1,hO⟩:=hS.two;have z0_0:=hO.c2 0;have zf0:=hO.free 0 rfl;have HW:=zh (hS.put [Z (aj (a.hi*a.n)),.int .u64 (au (a.hi*a.n))] rfl);clear hO;refine zC 12 fun K HK=>?_
     go_simp;go_wp2_with fail;refine HK.out.go (Own w [(g,193,#[Z (aj (a.hi*a.n)),.int .u64 (au (a.hi*a.n))]),(g1,193,#[Z (aj (a.lo*a.n)),.int .u64 (au (a.lo*a.n))]),(x,195,#[Z a.n,Z (aj a.s),.int .u64 (au a.s),Z a.lo,Z a.hi,Z a.f.t,Z a.f.v,Z a.f.s,Z a.l.t,Z a.l.v,Z a.l.s]),(x+1,464,#[Z a.n,Z (aj a.s),.int .u64 (au a.s),Z a.lo,Z a.hi,Z a.f.t,Z a.f.v,Z a.f.s,Z a.l.t,Z a.l.v,Z a.l.s,.bool true])]) (fun _ h=>aU.of h rfl) (HW.out) ?_;clear HK hS;intro v9 hS;try simp only[zP]
     refine zt 13 hS ?_;try simp only[zP]
     refine zD ?_;try simp only[zP]
     have HU:=zh hS;clear hS;go_wp2_with fail
     go_meet
     exact⟨rfl,g,rfl,HU.out⟩
    ·skip
     obtain⟨g,hg⟩:∃ g,g=w2.heap.size:=⟨_,rfl⟩
     have HA:=zh (zN hg ((hS.alloc (show g=w2.heap.size from hg) 193 #[Z 0,.int .u64 0]).front 3 rfl));clear hg;have HK:=zh hK;clear hK;go_simp;rw[<-HA.out.1];go_wp2_with fail;refine HK.out.go (aU w g 193 2 [(g1,193,#[Z (aj (a.lo*a.n)),.int .u64 (au (a.lo*a.n))]),(x,195,#[Z a.n,Z (aj a.s),.int .u64 (au a.s),Z a.lo,Z a.hi,Z a.f.t,Z a.f.v,Z a.f.s,Z a.l.t,Z a.l.v,Z a.l.s]),(x+1,464,#[Z a.n,Z (aj a.s),.int .u64 (au a.s),Z a.lo,Z a.hi,Z a.f.t,Z a.f.v,Z a.f.s,Z a.l.t,Z a.l.v,Z a.l.s,.bool true])]) (fun _ h=>h.rest) (aU.of HA.out.2 rfl) ?_;clear HK hS;intro v4 hS;try simp only[zP]
     refine zC 7 fun K HK=>?_
     go_simp;refine(nK a.hi a.n HO.out.2.2.2.1 J J _).mono ?_;rintro e v2 ⟨rfl,hb2⟩;have HB:=zh (hS.call hb2);clear hb2;go_wp2_with fail;refine HK.out.go (aU w g 193 2 [(g1,193,#[Z (aj (a.lo*a.n)),.int .u64 (au (a.lo*a.n))]),(x,195,#[Z a.n,Z (aj a.s),.int .u64 (au a.s),Z a.lo,Z a.hi,Z a.f.t,Z a.f.v,Z a.f.s,Z a.l.t,Z a.l.v,Z a.l.s]),(x+1,464,#[Z a.n,Z (aj a.s),.int .u64 (au a.s),Z a.lo,Z a.hi,Z a.f.t,Z a.f.v,Z a.f.s,Z a.l.t,Z a.l.v,Z a.l.s,.bool true])]) (fun _ h=>h) (HB.out) ?_;clear HK hS;intro w3 hS;try simp only[zP]
     refine zB [8,9,10] ?_;iterate 3 (refine zv hS ?_;try simp only[zP])
     refine zE ?_;obtain⟨c0,c1,hO⟩:=hS.two;have z0_0:=hO.c2 0;have zf0:=hO.free 0 rfl;have HW:=zh (hS.put [Z (aj (a.hi*a.n)),.int .u64 (au (a.hi*a.n))] rfl);clear hO;refine zC 12 fun K HK=>?_
     go_simp;go_wp2_with fail;refine HK.out.go (Own w [(g,193,#[Z (aj (a.hi*a.n)),.int .u64 (au (a.hi*a.n))]),(g1,193,#[Z (aj (a.lo*a.n)),.int .u64 (au (a.lo*a.n))]),(x,195,#[Z a.n,Z (aj a.s),.int .u64 (au a.s),Z a.lo,Z a.hi,Z a.f.t,Z a.f.v,Z a.f.s,Z a.l.t,Z a.l.v,Z a.l.s]),(x+1,464,#[Z a.n,Z (aj a.s),.int .u64 (au a.s),Z a.lo,Z a.hi,Z a.f.t,Z a.f.v,Z a.f.s,Z a.l.t,Z a.l.v,Z a.l.s,.bool true])]) (fun _ h=>aU.of h rfl) (HW.out) ?_;clear HK hS;intro v9 hS;try simp only[zP]
     refine zt 13 hS ?_;try simp only[zP]
     refine zD ?_;try simp only[zP]
     have HU:=zh hS;clear hS;go_wp2_with fail
     go_meet
     exact⟨rfl,g,rfl,HU.out⟩
   ·skip
    obtain⟨g,hg⟩:∃ g,g=wc.heap.size:=⟨_,rfl⟩
    have HA:=zh (zN hg ((hS.alloc (show g=wc.drew.heap.size from hg) 193 #[Z 0,.int .u64 0]).front 3 rfl));clear hg;have HK:=zh hK;clear hK;go_simp;rw[<-HA.out.1];go_wp2_with fail;refine HK.out.go (aU w g 193 2 [(g1,193,#[Z (aj (a.lo*a.n)),.int .u64 (au (a.lo*a.n))]),(x,195,#[Z a.n,Z (aj a.s),.int .u64 (au a.s),Z a.lo,Z a.hi,Z a.f.t,Z a.f.v,Z a.f.s,Z a.l.t,Z a.l.v,Z a.l.s]),(x+1,464,#[Z a.n,Z (aj a.s),.int .u64 (au a.s),Z a.lo,Z a.hi,Z a.f.t,Z a.f.v,Z a.f.s,Z a.l.t,Z a.l.v,Z a.l.s,.bool true])]) (fun _ h=>h.rest) (aU.of HA.out.2 rfl) ?_;clear HK hS;intro v4 hS;try simp only[zP]
    refine zC 3 fun K HK=>?_
    go_simp;refine(kS a.hi HO.out.2.2.2.1 _).mono ?_;rintro e v1 ⟨rfl,hb1⟩;have HB:=zh (hS.call hb1);clear hb1;go_wp2_with fail;refine HK.out.go (aU w g 193 2 [(g1,193,#[Z (aj (a.lo*a.n)),.int .u64 (au (a.lo*a.n))]),(x,195,#[Z a.n,Z (aj a.s),.int .u64 (au a.s),Z a.lo,Z a.hi,Z a.f.t,Z a.f.v,Z a.f.s,Z a.l.t,Z a.l.v,Z a.l.s]),(x+1,464,#[Z a.n,Z (aj a.s),.int .u64 (au a.s),Z a.lo,Z a.hi,Z a.f.t,Z a.f.v,Z a.f.s,Z a.l.t,Z a.l.v,Z a.l.s,.bool true])]) (fun _ h=>h) (HB.out) ?_;clear HK hS;intro w2 hS;try simp only[zP]
    refine zC 7 fun K HK=>?_
    go_simp;refine(nK a.hi a.n HO.out.2.2.2.1 J J _).mono ?_;rintro e v2 ⟨rfl,hb2⟩;have HB:=zh (hS.call hb2);clear hb2;go_wp2_with fail;refine HK.out.go (aU w g 193 2 [(g1,193,#[Z (aj (a.lo*a.n)),.int .u64 (au (a.lo*a.n))]),(x,195,#[Z a.n,Z (aj a.s),.int .u64 (au a.s),Z a.lo,Z a.hi,Z a.f.t,Z a.f.v,Z a.f.s,Z a.l.t,Z a.l.v,Z a.l.s]),(x+1,464,#[Z a.n,Z (aj a.s),.int .u64 (au a.s),Z a.lo,Z a.hi,Z a.f.t,Z a.f.v,Z a.f.s,Z a.l.t,Z a.l.v,Z a.l.s,.bool true])]) (fun _ h=>h) (HB.out) ?_;clear HK hS;intro w3 hS;try simp only[zP]
    refine zB [8,9,10] ?_;iterate 3 (refine zv hS ?_;try simp only[zP])
    refine zE ?_;obtain⟨c0,c1,hO⟩:=hS.two;have z0_0:=hO.c2 0;have zf0:=hO.free 0 rfl;have HW:=zh (hS.put [Z (aj (a.hi*a.n)),.int .u64 (au (a.hi*a.n))] rfl);clear hO;refine zC 12 fun K HK=>?_
    go_simp;go_wp2_with fail;refine HK.out.go (Own w [(g,193,#[Z (aj (a.hi*a.n)),.int .u64 (au (a.hi*a.n))]),(g1,193,#[Z (aj (a.lo*a.n)),.int .u64 (au (a.lo*a.n))]),(x,195,#[Z a.n,Z (aj a.s),.int .u64 (au a.s),Z a.lo,Z a.hi,Z a.f.t,Z a.f.v,Z a.f.s,Z a.l.t,Z a.l.v,Z a.l.s]),(x+1,464,#[Z a.n,Z (aj a.s),.int .u64 (au a.s),Z a.lo,Z a.hi,Z a.f.t,Z a.f.v,Z a.f.s,Z a.l.t,Z a.l.v,Z a.l.s,.bool true])]) (fun _ h=>aU.of h rfl) (HW.out) ?_;clear HK hS;intro v9 hS;try simp only[zP]
    refine zt 13 hS ?_;try simp only[zP]
    refine zD ?_;try simp only[zP]
    have HU:=zh hS;clear hS;go_wp2_with fail
    go_meet
    exact⟨rfl,g,rfl,HU.out⟩
  case rest=>
   obtain⟨rfl,g2,rfl,hS⟩:=hcut;clear HS;have z0_0:=hS.c2 0;have z1_0:=hS.c2 1;have z2_0:=hS.c11 2;have z3_0:=hS.c12 3;have HS:=zh hS;clear hS;go_wp2_with fail;refine(FN a.s (a.lo*a.n) _).mono ?_;rintro e w7 ⟨rfl,hb⟩;have hS:=HS.out.call hb;clear HS hb z0_0 z1_0 z2_0 z3_0
   by_cases c7:a.s < a.lo*a.n
   ·rw[show bL a.s (a.lo*a.n) = -1 by unfold bL;rw[if_pos c7]]
    have z0_0:=hS.c2 0;have z1_0:=hS.c2 1;have z2_0:=hS.c11 2;have z3_0:=hS.c12 3;have HS:=zh hS;clear hS;have HF:=zh (show bv=false by rw[HV.out,if_neg (fun h=>h c4),if_neg (fun h=>h c5),if_neg (show ¬ dQ a.l a.f < 0 by omega),if_pos c7]);go_wp2_with fail;go_ret;exact⟨by first | (rw[HF.out];done) | (rw[HF.out];rfl),HS.out.av⟩
   have d7:decide (bL a.s (a.lo*a.n) < 0)=false:=by unfold bL;rw[if_neg (show ¬ a.s < a.lo*a.n by omega)];split<;>simp
   have z0_0:=hS.c2 0;have z1_0:=hS.c2 1;have z2_0:=hS.c11 2;have z3_0:=hS.c12 3;have HS:=zh hS;clear hS;go_wp2_with fail;refine(FN a.s (a.hi*a.n) _).mono ?_;rintro e w8 ⟨rfl,hb⟩;have hS:=HS.out.call hb;clear HS hb z0_0 z1_0 z2_0 z3_0;clear d7
   by_cases c8:a.hi*a.n < a.s
   ·rw[show bL a.s (a.hi*a.n)=1 by unfold bL;rw[if_neg J,if_pos c8]]
    have z0_0:=hS.c2 0;have z1_0:=hS.c2 1;have z2_0:=hS.c11 2;have z3_0:=hS.c12 3;have HS:=zh hS;clear hS;have HF:=zh (show bv=false by rw[HV.out,if_neg (fun h=>h c4),if_neg (fun h=>h c5),if_neg (show ¬ dQ a.l a.f < 0 by omega),if_neg (show ¬ a.s < a.lo*a.n by omega),if_pos c8]);go_wp2_with fail;go_ret;exact⟨by first | (rw[HF.out];done) | (rw[HF.out];rfl),HS.out.av⟩
   have d8:decide (0 < bL a.s (a.hi*a.n))=false:=by
    unfold bL;rw[if_neg (show ¬ a.hi*a.n < a.s by omega)]
    split<;>simp
   have HW:=zh (show bv=(if 1 < a.n then true else if uU a.f a.l=false then false else decide (a.lo=a.hi)) by rw[HV.out,if_neg (fun h=>h c4),if_neg (fun h=>h c5),if_neg (show ¬ dQ a.l a.f < 0 by omega),if_neg (show ¬ a.s < a.lo*a.n by omega),if_neg (show ¬ a.hi*a.n < a.s by omega)]);clear c4 c5 c6 c7 c8;have z0_0:=hS.c2 0;have z1_0:=hS.c2 1;have z2_0:=hS.c11 2;have z3_0:=hS.c12 3;have HS:=zh hS;clear hS
   by_cases c9:1 < a.n
   ·have HF:=zh (show bv=true by rw[HW.out,if_pos c9])
    have d9:decide (1 < a.n)=true:=by simp[c9]
    go_wp2_with fail;go_ret;exact⟨by first | (rw[HF.out];done) | (rw[HF.out];rfl),HS.out.av⟩
   have d9:decide (1 < a.n)=false:=by simp;omega
   have HX:=zh (show bv=(if uU a.f a.l=false then false else decide (a.lo=a.hi)) by rw[HW.out,if_neg c9]);clear c9
   by_cases f1:a.f.t=a.l.t
   ·have e1:(a.f.t == a.l.t)=true:=by simp[f1]
    by_cases f2:a.f.v=a.l.v
    ·have e2:(a.f.v == a.l.v)=true:=by simp[f2]
     by_cases f3:a.f.s=a.l.s
     ·have e3:(a.f.s == a.l.s)=true:=by simp[f3]
      have HY:=zh (show bv=decide (a.lo=a.hi) by rw[HX.out,if_neg (by unfold uU;rw[e1,e2,e3];simp)])
      by_cases f4:a.lo=a.hi
      ·have e4:(a.lo == a.hi)=true:=by simp[f4]
       have HF:=zh (show bv=true by rw[HY.out];simp[f4]);go_wp2_with fail;go_ret;exact⟨by first | (rw[HF.out];done) | (rw[HF.out];rfl),HS.out.av⟩
      ·have e4:(a.lo == a.hi)=false:=by simp[f4]
       have HF:=zh (show bv=false by rw[HY.out];simp[f4]);go_wp2_with fail;go_ret;exact⟨by first | (rw[HF.out];done) | (rw[HF.out];rfl),HS.out.av⟩
     ·have e3:(a.f.s == a.l.s)=false:=by simp[f3]
      have HF:=zh (show bv=false by rw[HX.out,if_pos (by unfold uU;rw[e3];simp)]);go_wp2_with fail;go_ret;exact⟨by first | (rw[HF.out];done) | (rw[HF.out];rfl),HS.out.av⟩
    ·have e2:(a.f.v == a.l.v)=false:=by simp[f2]
     have HF:=zh (show bv=false by rw[HX.out,if_pos (by unfold uU;rw[e2];simp)]);go_wp2_with fail;go_ret;exact⟨by first | (rw[HF.out];done) | (rw[HF.out];rfl),HS.out.av⟩
   ·have e1:(a.f.t == a.l.t)=false:=by simp[f1]
    have HF:=zh (show bv=false by rw[HX.out,if_pos (by unfold uU;rw[e1];simp)]);go_wp2_with fail;go_ret;exact⟨by first | (rw[HF.out];done) | (rw[HF.out];rfl),HS.out.av⟩
end A
namespace A
end A
namespace A
open V
open Go.RowKit
def aO(l:List Nat): Nat->Nat × Nat
 | 0=>(0,0)
 | k+1=>((aO l k).1+(aJ (l.drop (aO l k).1)).2.1,if (aO l k).2=0 then (aJ (l.drop (aO l k).1)).2.2 else (aO l k).2)
theorem kG(l:List Nat)(k:Nat): aO l (k+1)=((aO l k).1+(aJ (l.drop (aO l k).1)).2.1,if (aO l k).2=0 then (aJ (l.drop (aO l k).1)).2.2 else (aO l k).2):=rfl
def aT(l:List Nat)(k:Nat): Nat:=(aJ (l.drop (aO l k).1)).1
theorem gX(l:List Nat)(k:Nat): aT l k < 18446744073709551616:=(kQ _).1
theorem AU(l:List Nat): ∀ k,(aO l k).1<=l.length
 | 0=>Nat.zero_le _
 | k+1=>by
  have h1:=AU l k;have h2:=(kQ (l.drop (aO l k).1)).2.2;rw[List.length_drop] at h2
  rw[kG];show (aO l k).1+_<=_
  omega
theorem Fq(l:List Nat): ∀ k,(aO l k).2<=11
 | 0=>Nat.zero_le _
 | k+1=>by
  have h1:=Fq l k;have h2:=vP (l.drop (aO l k).1);rw[kG];show (if _ then _ else _)<=11
  split
  ·rcases h2 with h | ⟨h | h,-⟩<;>omega
  ·exact h1
def cat(us:List Nat): List Nat:=us.flatMap aF
theorem oZ(us vs:List Nat): cat (us ++ vs)=cat us ++ cat vs:=by unfold cat;rw[List.flatMap_append]
theorem wJ(us more:List Nat)(hu:∀ u ∈ us,u < 18446744073709551616): ∀ k,k<=us.length->aO (cat us ++ more) k=((cat (us.take k)).length,0)/\∀ u,us[k]? = some u->aT (cat us ++ more) k=u
 | k,hk=>by
  have val:aO (cat us ++ more) k=((cat (us.take k)).length,0)->∀ u,us[k]? = some u->aJ ((cat us ++ more).drop (aO (cat us ++ more) k).1)=(u,(aF u).length,0):=by
   intro h u hku;have hlt:k < us.length:=(List.getElem?_eq_some_iff.1 hku).1;have e:us=us.take k ++ (u :: us.drop (k+1)):=by
    conv=>lhs;rw[<-List.take_append_drop k us]
    rw[List.drop_eq_getElem_cons hlt];have:=(List.getElem?_eq_some_iff.1 hku).2;rw[this]
   rw[h];show aJ ((cat us ++ more).drop (cat (us.take k)).length)=_
   conv=>lhs;rw[e]
   rw[oZ,List.append_assoc,List.take_append_of_le_length (by rw[List.length_take];omega),List.take_take,Nat.min_self,List.drop_left];have e2:cat (u :: us.drop (k+1))=aF u ++ cat (us.drop (k+1)):=rfl;rw[e2,List.append_assoc,iC u _ (hu u (List.mem_of_getElem? hku))]
  have main:aO (cat us ++ more) k=((cat (us.take k)).length,0):=by
   match k,hk with
   | 0,_=>rfl
   | k+1,hk=>
    obtain⟨h1,h2⟩:=wJ us more hu k J;have hlt:k < us.length:=J;have hget:us[k]? = some us[k]:=List.getElem?_eq_getElem hlt;have hv:aJ ((cat us ++ more).drop (aO (cat us ++ more) k).1)=(us[k],(aF us[k]).length,0):=by
     have e:us=us.take k ++ (us[k] :: us.drop (k+1)):=by
      conv=>lhs;rw[<-List.take_append_drop k us]
      rw[List.drop_eq_getElem_cons hlt]
     rw[h1];show aJ ((cat us ++ more).drop (cat (us.take k)).length)=_
     have e3:cat us ++ more=cat (us.take k) ++ (aF us[k] ++ (cat (us.drop (k+1)) ++ more)):=by
      conv=>lhs;rw[e]
      rw[oZ,List.append_assoc];show _ ++ ((aF us[k] ++ cat (us.drop (k+1))) ++ more)=_
      rw[List.append_assoc]
     rw[e3,List.drop_left,iC _ _ (hu _ (List.getElem_mem hlt))]
    rw[kG,hv,h1];show ((cat (us.take k)).length+(aF us[k]).length,0)=_
    rw[List.take_succ_eq_append_getElem hlt,oZ,List.length_append];show _=(_+(aF us[k] ++ []).length,0)
    rw[List.append_nil]
  refine⟨main,fun u hku=>?_⟩;unfold aT;rw[val main u hku]
def vV(a:Ag): List Nat:=[zig a.lo,zig a.hi,zig a.f.t,zig a.f.v,zig a.f.s,zig a.l.t,zig a.l.v,zig a.l.s]
def mF(a:Ag): List Nat:=(a.n%18446744073709551616).toNat :: if a.n=0 then [] else zig (aj a.s) :: (au a.s).toNat :: vV a
def gJ(a:Ag): List Nat:=cat (mF a)
def bU(l:List Nat): Ag:=⟨IntKind.i64.wrap (aT l 0),zag (aT l 1)*18446744073709551616+(aT l 2:Nat),zag (aT l 3),zag (aT l 4),⟨zag (aT l 5),zag (aT l 6),zag (aT l 7)⟩,⟨zag (aT l 8),zag (aT l 9),zag (aT l 10)⟩⟩
def iY(l:List Nat): Ag × Nat × Nat:=
 if IntKind.i64.wrap (aT l 0)=0 then (if (aO l 1).2≠0 then (aQ,0,(aO l 1).2) else (aQ,(aO l 1).1,0))
 else if (aO l 11).2≠0 then (aQ,0,(aO l 11).2) else if dM (bU l)=true then (bU l,(aO l 11).1,0) else (aQ,0,11)
theorem Br{l:List Nat}(h:IntKind.i64.wrap (aT l 0)=0): iY l=if (aO l 1).2≠0 then (aQ,0,(aO l 1).2) else (aQ,(aO l 1).1,0):=by unfold iY;rw[if_pos h]
theorem Bq{l:List Nat}(h:IntKind.i64.wrap (aT l 0)≠0): iY l=if (aO l 11).2≠0 then (aQ,0,(aO l 11).2) else if dM (bU l)=true then (bU l,(aO l 11).1,0) else (aQ,0,11):=by unfold iY;rw[if_neg h]
theorem PI{n:Int}(h:bI n): (n%18446744073709551616).toNat < 18446744073709551616/\IntKind.i64.wrap (((n%18446744073709551616).toNat:Nat):Int)=n:=by
 unfold bI at h
 refine⟨J,?_⟩;rw[IntKind.wrap_i64];omega
structure jr(a:Ag): Prop where
 ok:kU a
 f:eU a.f
 l:eU a.l
theorem Dx{a:Ag}(h:jr a): ∀ u ∈ mF a,u < 18446744073709551616:=by
 obtain⟨⟨h1,h2,h3,h4⟩,⟨h5,h6,h7⟩,⟨h8,h9,h10⟩⟩:=h;have hh:=h2.hi;have l0:=jg a.s;have l1:=pX a.s;unfold bI at *
 intro u hu;unfold mF vV at hu
 by_cases h0:a.n=0
 ·rw[if_pos h0] at hu
  simp at hu
  omega
 ·rw[if_neg h0] at hu
  simp only[List.mem_cons,List.not_mem_nil,or_false] at hu
  rcases hu with rfl | rfl | rfl | rfl | rfl | rfl | rfl | rfl | rfl | rfl | rfl
  ·omega
  ·exact dJ hh.1 hh.2
  ·omega
  ·exact dJ h3.1 h3.2
  ·exact dJ h4.1 h4.2
  ·exact dJ h5.1 h5.2
  ·exact dJ h6.1 h6.2
  ·exact dJ h7.1 h7.2
  ·exact dJ h8.1 h8.2
  ·exact dJ h9.1 h9.2
  ·exact dJ h10.1 h10.2
theorem yI{a:Ag}(h:a.n≠0): mF a=[(a.n%18446744073709551616).toNat,zig (aj a.s),(au a.s).toNat,zig a.lo,zig a.hi,zig a.f.t,zig a.f.v,zig a.f.s,zig a.l.t,zig a.l.v,zig a.l.s]:=by
 unfold mF vV;rw[if_neg h]
theorem Bv{a:Ag}(h:a.n=0): gJ a=aF 0:=by
 unfold gJ mF;rw[if_pos h,h];show aF _ ++ []=_
 rw[List.append_nil];rfl
theorem KY{a:Ag}(h:jr a)(hv:dM a=true)(h0:a.n≠0)(L:List Nat)(q:Nat)(v0:aT L 0=(a.n%18446744073709551616).toNat)(v1:aT L 1=zig (aj a.s))(v2:aT L 2=(au a.s).toNat)(v3:aT L 3=zig a.lo)(v4:aT L 4=zig a.hi)(v5:aT L 5=zig a.f.t)(v6:aT L 6=zig a.f.v)(v7:aT L 7=zig a.f.s)(v8:aT L 8=zig a.l.t)(v9:aT L 9=zig a.l.v)(v10:aT L 10=zig a.l.s)(r11:aO L 11=(q,0)): iY L=(a,q,0):=by
 obtain⟨b1,b2⟩:=PI h.ok.1;have hl:=Ef a.s;have l0:=jg a.s;have ha:bU L=a:=by
  unfold bU;rw[v0,v1,v2,v3,v4,v5,v6,v7,v8,v9,v10,b2];simp only[Bj];rw[show aj a.s*18446744073709551616+(((au a.s).toNat:Nat):Int)=a.s by omega]
 rw[Bq (by rw[v0,b2];exact h0),r11,if_neg (by simp),ha,if_pos hv]
theorem KX{a:Ag}(h:jr a)(hv:dM a=true)(hz:a.n=0->a=aQ)(more:List Nat): iY (gJ a ++ more)=(a,(gJ a).length,0):=by
 have hu:=Dx h
 by_cases h0:a.n=0
 ·have ha:=hz h0
  have e:gJ a=cat [0]:=by rw[Bv h0];show _=aF 0 ++ [];rw[List.append_nil]
  obtain⟨-,v0⟩:=wJ [0] more (by simp) 0 (by simp);obtain⟨r1,-⟩:=wJ [0] more (by simp) 1 (by simp);rw[e];have v0:=v0 0 rfl;rw[Br (by rw[v0];rfl),r1];rw[if_neg (by simp),ha];rfl
 ·have e:=yI h0
  have rd:=fun k hk=>wJ (mF a) more hu k hk
  have hlen:(mF a).length=11:=by rw[e];rfl
  obtain⟨-,v0⟩:=rd 0 J;obtain⟨-,v1⟩:=rd 1 J;obtain⟨-,v2⟩:=rd 2 J;obtain⟨-,v3⟩:=rd 3 J;obtain⟨-,v4⟩:=rd 4 J;obtain⟨-,v5⟩:=rd 5 J;obtain⟨-,v6⟩:=rd 6 J;obtain⟨-,v7⟩:=rd 7 J;obtain⟨-,v8⟩:=rd 8 J;obtain⟨-,v9⟩:=rd 9 J;obtain⟨-,v10⟩:=rd 10 J;obtain⟨r11,-⟩:=rd 11 J;have v0:=v0 _ (by rw[e];rfl);have v1:=v1 _ (by rw[e];rfl);have v2:=v2 _ (by rw[e];rfl);have v3:=v3 _ (by rw[e];rfl);have v4:=v4 _ (by rw[e];rfl);have v5:=v5 _ (by rw[e];rfl);have v6:=v6 _ (by rw[e];rfl);have v7:=v7 _ (by rw[e];rfl);have v8:=v8 _ (by rw[e];rfl);have v9:=v9 _ (by rw[e];rfl);have v10:=v10 _ (by rw[e];rfl);have hfin:=KY h hv h0 (cat (mF a) ++ more) _ v0 v1 v2 v3 v4 v5 v6 v7 v8 v9 v10 r11;unfold gJ;rw[hfin,List.take_of_length_le J]
theorem Ny{a:Ag}(h:jr a): 1<=(gJ a).length/\(gJ a).length<=110:=by
 have hu:=Dx h;have hc:∀ us:List Nat,(∀ u ∈ us,u < 18446744073709551616)->(cat us).length<=10*us.length:=by
  intro us
  induction us with
  | nil=>intro _;simp[cat]
  | cons u us ih=>
   intro h;have h1:=ih (fun v hv=>h v (List.mem_cons_of_mem _ hv));have h2:=aK (h u (by simp));show (aF u ++ cat us).length<=_
   rw[List.length_append,List.length_cons];omega
 have h1:=hc _ hu;have h2:(mF a).length<=11:=by unfold mF vV;split<;>simp
 have h3:1<=(gJ a).length:=by
  have:=FM (a.n%18446744073709551616).toNat;show 1<=(aF _ ++ cat _).length
  rw[List.length_append];omega
 unfold gJ at *
 omega
theorem Bu(a:Ag): ∀ b ∈ gJ a,b < 256:=by
 intro b hb;unfold gJ cat at hb
 obtain⟨u,-,hu⟩:=List.mem_flatMap.1 hb;exact bH u b hu
end A
namespace A
open V
open Go.RowKit
def iF(a:Ag): List Int:=[a.lo,a.hi,a.f.t,a.f.v,a.f.s,a.l.t,a.l.v,a.l.s]
theorem Qu{a:Ag}(h:jr a): ∀ z ∈ iF a,bI z:=by
 obtain⟨⟨h1,h2,h3,h4⟩,⟨h5,h6,h7⟩,⟨h8,h9,h10⟩⟩:=h;intro z hz;unfold iF at hz
 simp only[List.mem_cons,List.not_mem_nil,or_false] at hz
 rcases hz with rfl | rfl | rfl | rfl | rfl | rfl | rfl | rfl<;>assumption
theorem NM(zs:List Int)(k:Nat)(h:k < zs.length): cat ((zs.take (k+1)).map zig)=cat ((zs.take k).map zig) ++ aF (zig zs[k]):=by
 rw[List.take_succ_eq_append_getElem h,List.map_append,oZ];show _ ++ (aF _ ++ [])=_
 rw[List.append_nil]
theorem KZ{a:Ag}(h:a.n≠0): gJ a=aF (a.n%18446744073709551616).toNat ++ (aF (zig (aj a.s)) ++ (aF (au a.s).toNat ++ cat ((iF a).map zig))):=by
 unfold gJ;rw[yI h];rfl
theorem IX(w:World)(A:Option Addr)(len c:Nat)(bs:List Nat)(a:Ag)(ha:jr a)(hl:bs.length=len)(hsl:Sl w (fun k=>k < w.heap.size) A len (aI bs))(hlc:len<=c)(hsm:len<=1099511627000):
  Calls Tryz.prog 246 #[.slice A len c,.agg #[Z a.n,Z (aj a.s),.int .u64 (au a.s),Z a.lo,Z a.hi,Z a.f.t,Z a.f.v,Z a.f.s,Z a.l.t,Z a.l.v,Z a.l.s]] w (qj w (bs ++ gJ a)):=by
 obtain⟨x,hx⟩:∃ x,x=w.heap.size:=⟨_,rfl⟩
 have o0:=Own.bn w hx 195 #[Z a.n,Z (aj a.s),.int .u64 (au a.s),Z a.lo,Z a.hi,Z a.f.t,Z a.f.v,Z a.f.s,Z a.l.t,Z a.l.v,Z a.l.s]
 obtain⟨u,hu⟩:∃ u,u=(a.n%18446744073709551616).toNat:=⟨_,rfl⟩
 have ku:IntKind.u64.wrap a.n=(u:Int):=by rw[IntKind.wrap_u64];omega
 have hu64:u < 18446744073709551616:=J;have HO:=zh (zN hx (zN o0 (zN (eY hsl o0.av) (zN hl (zN hu ha)))));clear hx o0 hsl hl hu ha
 go_enter Tryz.func246,Tryz.ntmps246
 go_wp2_with fail;refine(iJ _ A len c bs (u:Int) HO.out.2.2.2.1 HO.out.2.2.1 hlc J J J).mono ?_;rintro e w1 ⟨v,rfl,ho,hb⟩;rw[Int.toNat_natCast] at ho
 have hlen:(bs ++ aF u).length<=len+10:=by
  have:=aK hu64;rw[List.length_append,HO.out.2.2.2.1];omega
 obtain⟨B,hB⟩:∃ B,B=bs ++ aF u:=⟨_,rfl⟩
 rw[<-hB] at ho hlen
 obtain⟨n1,hn1⟩:∃ n,n=B.length:=⟨_,rfl⟩
 rw[<-hn1] at ho hlen
 obtain⟨A1,c1,hv1,hc1,-⟩:=aH ho;subst hv1;have hS:=HO.out.2.1.call hb;have ho':=aN ho (by have:=HO.out.2.1.av.size;exact this);have HB:=zh (zN hB (zN hn1.symm (zN (gI ho) (zN hS ho'))));clear hb hB hn1 ho ho';rw[<-HO.out.1];have z0_0:=hS.c11 0;clear hS ku
 by_cases h0:a.n=0
 ·have d:(a.n == 0)=true:=by simp[h0]
  have e1:bs ++ gJ a=B:=by
   have hu0:u=0:=by rw[HO.out.2.2.2.2.1,h0];rfl
   rw[Bv h0,HB.out.1,hu0]
  have HE:=zh e1;clear h0 e1;go_wp2_with fail;go_ret;refine⟨_,rfl,?_,HB.out.2.2.2.1.av⟩;rw[HE.out,HB.out.2.1];exact HB.out.2.2.2.2
 ·have d:(a.n == 0)=false:=by simp[h0]
  have e1:=KZ h0;rw[<-HO.out.2.2.2.2.1,] at e1
  have e2:bs ++ gJ a=B ++ (aF (zig (aj a.s)) ++ (aF (au a.s).toNat ++ cat ((iF a).map zig))):=by rw[e1,HB.out.1,List.append_assoc]
  have hh:=HO.out.2.2.2.2.2.ok.2.1.hi;have HE:=zh (zN e2 hh);clear h0 e1 e2 hh;go_upto_region 4 with (fail)
  clear z0_0;have hS:(Own w [(x,195,#[Z a.n,Z (aj a.s),.int .u64 (au a.s),Z a.lo,Z a.hi,Z a.f.t,Z a.f.v,Z a.f.s,Z a.l.t,Z a.l.v,Z a.l.s])]) (w1.drew):=HB.out.2.2.2.1.drew;refine aA (Own w [(x,195,#[Z a.n,Z (aj a.s),.int .u64 (au a.s),Z a.lo,Z a.hi,Z a.f.t,Z a.f.v,Z a.f.s,Z a.l.t,Z a.l.v,Z a.l.s])]) (by kernel_rfl) hS ?_;refine zB [0,1,2] ?_;iterate 3 (refine zv hS ?_;try simp only[zP])
  refine zE ?_;refine zT 3 ?_ ?_ hS ?_;rotate_left
  ·(intro w' hSw;have u0:=hSw.c 0 1;go_simp<;>with_reducible rfl)
  try simp only[zP]
  refine zB [5,6] ?_;iterate 2 (refine zv hS ?_;try simp only[zP])
  refine zE ?_;refine zT 7 ?_ ?_ hS ?_;rotate_left
  ·(intro w' hSw;have u0:=hSw.c 0 2;go_simp<;>with_reducible rfl)
  try simp only[zP]
  refine zC 4 fun K HK=>?_
  go_simp;refine(eG _ A1 n1 c1 B (aj a.s) HB.out.2.1 (eY HB.out.2.2.1 (Below.refl _ _).drew) hc1 J HE.out.2.1 HE.out.2.2).mono ?_;rintro e w2 ⟨v,rfl,ho,hb⟩;have hlen2:(B ++ aF (zig (aj a.s))).length<=len+20:=by
   have:=aK (dJ HE.out.2.1 HE.out.2.2);rw[List.length_append,HB.out.2.1];omega
  obtain⟨B2,hB2⟩:∃ C,C=B ++ aF (zig (aj a.s)):=⟨_,rfl⟩
  rw[<-hB2] at ho hlen2
  obtain⟨n2,hn2⟩:∃ n,n=B2.length:=⟨_,rfl⟩
  rw[<-hn2] at ho hlen2
  obtain⟨A2,c2,hv2,hc2,-⟩:=aH ho;subst hv2;have H2:=zh (zN hB2 (zN hn2.symm (zN (gI ho) (hS.call hb))));clear ho hb hB2 hn2;go_wp2_with fail;refine HK.out.zt (Own w [(x,195,#[Z a.n,Z (aj a.s),.int .u64 (au a.s),Z a.lo,Z a.hi,Z a.f.t,Z a.f.v,Z a.f.s,Z a.l.t,Z a.l.v,Z a.l.s])]) (fun _ h=>h) (H2.out.2.2.2) ?_;clear HK hS;intro hS;try simp only[zP]
  refine zC 8 fun K HK=>?_
  go_simp;refine(iJ _ A2 n2 c2 B2 (au a.s) H2.out.2.1 H2.out.2.2.1 hc2 J (jg _) (pX _)).mono ?_;rintro e w3 ⟨v,rfl,ho,hb⟩;have hlen3:(B2 ++ aF (au a.s).toNat).length<=len+30:=by
   have:=aK (u:=(au a.s).toNat) (by have:=pX a.s;have:=jg a.s;omega);rw[List.length_append,H2.out.2.1];omega
  obtain⟨B3,hB3⟩:∃ C,C=B2 ++ aF (au a.s).toNat:=⟨_,rfl⟩
  rw[<-hB3] at ho hlen3
  have hS3:=hS.call hb;have ho3:=aN ho H2.out.2.2.2.size;have e3:bs ++ gJ a=B3 ++ cat ((iF a).map zig):=by rw[HE.out.1,hB3,H2.out.1];simp only[List.append_assoc]
  have H3:=zh (zN ho3 (zN hS3 (zN e3 (aH ho3))));clear ho hb hB3 hS3 ho3 e3;go_wp2_with fail;refine HK.out.zt (Own w [(x,195,#[Z a.n,Z (aj a.s),.int .u64 (au a.s),Z a.lo,Z a.hi,Z a.f.t,Z a.f.v,Z a.f.s,Z a.l.t,Z a.l.v,Z a.l.s])]) (fun _ h=>h) (H3.out.2.1) ?_;clear HK hS;intro hS;try simp only[zP]
  refine zt 9 hS ?_;try simp only[zP]
  refine zD ?_;try simp only[zP]
  clear hS;have hS:=H3.out.2.1;have z0_0:=hS.c11 0;clear hS;obtain⟨A3,c3,hv3,hc3,-⟩:=H3.out.2.2.2;subst hv3;go_wp2_with fail;clear z0_0
  go_loopw [0,6,48] (fun s0 s6 i wr=>∃ (k:Nat) (p:List Nat),k<=8/\i=Z k/\p=B3 ++ cat (((iF a).take k).map zig)/\p.length<=len+30+10*k/\wr.ownsRow w.heap.size 5 1 s0 p.length (p.map aR)/\Own w [(x,195,#[Z a.n,Z (aj a.s),.int .u64 (au a.s),Z a.lo,Z a.hi,Z a.f.t,Z a.f.v,Z a.f.s,Z a.l.t,Z a.l.v,Z a.l.s])] wr) (fun _ _ i _=>8-(intOf i).toNat)
  case atStart=>exact ⟨0,B3,J,rfl,by simp[cat],J,H3.out.1,H3.out.2.1⟩
  case round=>
   obtain⟨k,p,hk,rfl,hp,hpl,ho,hS⟩:=hrel
   by_cases hlt:k < 8
   ·have hok:=Qu HO.out.2.2.2.2.2
    have hst:=NM (iF a) k (by exact hlt);obtain⟨n4,hn4⟩:∃ n,n=p.length:=⟨_,rfl⟩
    rw[<-hn4] at ho hpl
    obtain⟨A4,c4,hv4,hc4,-⟩:=aH ho;subst hv4;have HP:=zh (zN hp (zN hn4.symm (zN (gI ho) (zN hS (zN hst ho)))));have HK:=zh hok;clear hp hn4 ho hS hst hok;rcases(show k=0\/k=1\/k=2\/k=3\/k=4\/k=5\/k=6\/k=7 by omega) with rfl | rfl | rfl | rfl | rfl | rfl | rfl | rfl
    ·skip
     have hz:bI a.lo:=HK.out _ (by unfold iF;simp);have HZ:=zh hz;clear hz;have hx:∀ w:World,(Instr.index 455 (.agg #[Z a.lo,Z a.hi,Z a.f.t,Z a.f.v,Z a.f.s,Z a.l.t,Z a.l.v,Z a.l.s]) (Z 0)).run Tryz.prog w=.ok (Z a.lo) w:=fun w=>by kernel_rfl
     go_wp2_with fail;refine(eG _ A4 n4 c4 p a.lo HP.out.2.1 HP.out.2.2.1 hc4 J HZ.out.1 HZ.out.2).mono ?_;rintro e w4 ⟨v,rfl,ho,hb⟩;have hlen4:(p ++ aF (zig a.lo)).length<=len+30+10*(0+1):=by
      have:=aK (dJ HZ.out.1 HZ.out.2);rw[List.length_append,HP.out.2.1];omega
     have e4:p ++ aF (zig a.lo)=B3 ++ cat (((iF a).take (0+1)).map zig):=by rw[HP.out.1,HP.out.2.2.2.2.1,List.append_assoc];rfl
     have H4:=zh (zN (aN ho HP.out.2.2.2.1.size) (zN (HP.out.2.2.2.1.call hb) (zN e4 hlen4)));clear ho hb e4 hlen4;go_wp2_with fail
     go_roundw
     case rel=>exact ⟨0+1,_,J,by go_num,H4.out.2.2.1,H4.out.2.2.2,H4.out.1,H4.out.2.1⟩
     case measure=>simp[intOf]<;>omega
    ·skip
     have hz:bI a.hi:=HK.out _ (by unfold iF;simp);have HZ:=zh hz;clear hz;have hx:∀ w:World,(Instr.index 455 (.agg #[Z a.lo,Z a.hi,Z a.f.t,Z a.f.v,Z a.f.s,Z a.l.t,Z a.l.v,Z a.l.s]) (Z 1)).run Tryz.prog w=.ok (Z a.hi) w:=fun w=>by kernel_rfl
     go_wp2_with fail;refine(eG _ A4 n4 c4 p a.hi HP.out.2.1 HP.out.2.2.1 hc4 J HZ.out.1 HZ.out.2).mono ?_;rintro e w4 ⟨v,rfl,ho,hb⟩;have hlen4:(p ++ aF (zig a.hi)).length<=len+30+10*(1+1):=by
      have:=aK (dJ HZ.out.1 HZ.out.2);rw[List.length_append,HP.out.2.1];omega
     have e4:p ++ aF (zig a.hi)=B3 ++ cat (((iF a).take (1+1)).map zig):=by rw[HP.out.1,HP.out.2.2.2.2.1,List.append_assoc];rfl
     have H4:=zh (zN (aN ho HP.out.2.2.2.1.size) (zN (HP.out.2.2.2.1.call hb) (zN e4 hlen4)));clear ho hb e4 hlen4;go_wp2_with fail
     go_roundw
     case rel=>exact ⟨1+1,_,J,by go_num,H4.out.2.2.1,H4.out.2.2.2,H4.out.1,H4.out.2.1⟩
     case measure=>simp[intOf]<;>omega
    ·skip
     have hz:bI a.f.t:=HK.out _ (by unfold iF;simp);have HZ:=zh hz;clear hz;have hx:∀ w:World,(Instr.index 455 (.agg #[Z a.lo,Z a.hi,Z a.f.t,Z a.f.v,Z a.f.s,Z a.l.t,Z a.l.v,Z a.l.s]) (Z 2)).run Tryz.prog w=.ok (Z a.f.t) w:=fun w=>by kernel_rfl
     go_wp2_with fail;refine(eG _ A4 n4 c4 p a.f.t HP.out.2.1 HP.out.2.2.1 hc4 J HZ.out.1 HZ.out.2).mono ?_;rintro e w4 ⟨v,rfl,ho,hb⟩;have hlen4:(p ++ aF (zig a.f.t)).length<=len+30+10*(2+1):=by
      have:=aK (dJ HZ.out.1 HZ.out.2);rw[List.length_append,HP.out.2.1];omega
     have e4:p ++ aF (zig a.f.t)=B3 ++ cat (((iF a).take (2+1)).map zig):=by rw[HP.out.1,HP.out.2.2.2.2.1,List.append_assoc];rfl
     have H4:=zh (zN (aN ho HP.out.2.2.2.1.size) (zN (HP.out.2.2.2.1.call hb) (zN e4 hlen4)));clear ho hb e4 hlen4;go_wp2_with fail
     go_roundw
     case rel=>exact ⟨2+1,_,J,by go_num,H4.out.2.2.1,H4.out.2.2.2,H4.out.1,H4.out.2.1⟩
     case measure=>simp[intOf]<;>omega
    ·skip
     have hz:bI a.f.v:=HK.out _ (by unfold iF;simp);have HZ:=zh hz;clear hz;have hx:∀ w:World,(Instr.index 455 (.agg #[Z a.lo,Z a.hi,Z a.f.t,Z a.f.v,Z a.f.s,Z a.l.t,Z a.l.v,Z a.l.s]) (Z 3)).run Tryz.prog w=.ok (Z a.f.v) w:=fun w=>by kernel_rfl
     go_wp2_with fail;refine(eG _ A4 n4 c4 p a.f.v HP.out.2.1 HP.out.2.2.1 hc4 J HZ.out.1 HZ.out.2).mono ?_;rintro e w4 ⟨v,rfl,ho,hb⟩;have hlen4:(p ++ aF (zig a.f.v)).length<=len+30+10*(3+1):=by
      have:=aK (dJ HZ.out.1 HZ.out.2);rw[List.length_append,HP.out.2.1];omega
     have e4:p ++ aF (zig a.f.v)=B3 ++ cat (((iF a).take (3+1)).map zig):=by rw[HP.out.1,HP.out.2.2.2.2.1,List.append_assoc];rfl
     have H4:=zh (zN (aN ho HP.out.2.2.2.1.size) (zN (HP.out.2.2.2.1.call hb) (zN e4 hlen4)));clear ho hb e4 hlen4;go_wp2_with fail
     go_roundw
     case rel=>exact ⟨3+1,_,J,by go_num,H4.out.2.2.1,H4.out.2.2.2,H4.out.1,H4.out.2.1⟩
     case measure=>simp[intOf]<;>omega
    ·skip
     have hz:bI a.f.s:=HK.out _ (by unfold iF;simp);have HZ:=zh hz;clear hz;have hx:∀ w:World,(Instr.index 455 (.agg #[Z a.lo,Z a.hi,Z a.f.t,Z a.f.v,Z a.f.s,Z a.l.t,Z a.l.v,Z a.l.s]) (Z 4)).run Tryz.prog w=.ok (Z a.f.s) w:=fun w=>by kernel_rfl
     go_wp2_with fail;refine(eG _ A4 n4 c4 p a.f.s HP.out.2.1 HP.out.2.2.1 hc4 J HZ.out.1 HZ.out.2).mono ?_;rintro e w4 ⟨v,rfl,ho,hb⟩;have hlen4:(p ++ aF (zig a.f.s)).length<=len+30+10*(4+1):=by
      have:=aK (dJ HZ.out.1 HZ.out.2);rw[List.length_append,HP.out.2.1];omega
     have e4:p ++ aF (zig a.f.s)=B3 ++ cat (((iF a).take (4+1)).map zig):=by rw[HP.out.1,HP.out.2.2.2.2.1,List.append_assoc];rfl
     have H4:=zh (zN (aN ho HP.out.2.2.2.1.size) (zN (HP.out.2.2.2.1.call hb) (zN e4 hlen4)));clear ho hb e4 hlen4;go_wp2_with fail
     go_roundw
     case rel=>exact ⟨4+1,_,J,by go_num,H4.out.2.2.1,H4.out.2.2.2,H4.out.1,H4.out.2.1⟩
     case measure=>simp[intOf]<;>omega
    ·skip
     have hz:bI a.l.t:=HK.out _ (by unfold iF;simp);have HZ:=zh hz;clear hz;have hx:∀ w:World,(Instr.index 455 (.agg #[Z a.lo,Z a.hi,Z a.f.t,Z a.f.v,Z a.f.s,Z a.l.t,Z a.l.v,Z a.l.s]) (Z 5)).run Tryz.prog w=.ok (Z a.l.t) w:=fun w=>by kernel_rfl
     go_wp2_with fail;refine(eG _ A4 n4 c4 p a.l.t HP.out.2.1 HP.out.2.2.1 hc4 J HZ.out.1 HZ.out.2).mono ?_;rintro e w4 ⟨v,rfl,ho,hb⟩;have hlen4:(p ++ aF (zig a.l.t)).length<=len+30+10*(5+1):=by
      have:=aK (dJ HZ.out.1 HZ.out.2);rw[List.length_append,HP.out.2.1];omega
     have e4:p ++ aF (zig a.l.t)=B3 ++ cat (((iF a).take (5+1)).map zig):=by rw[HP.out.1,HP.out.2.2.2.2.1,List.append_assoc];rfl
     have H4:=zh (zN (aN ho HP.out.2.2.2.1.size) (zN (HP.out.2.2.2.1.call hb) (zN e4 hlen4)));clear ho hb e4 hlen4;go_wp2_with fail
     go_roundw
     case rel=>exact ⟨5+1,_,J,by go_num,H4.out.2.2.1,H4.out.2.2.2,H4.out.1,H4.out.2.1⟩
     case measure=>simp[intOf]<;>omega
    ·skip
     have hz:bI a.l.v:=HK.out _ (by unfold iF;simp);have HZ:=zh hz;clear hz;have hx:∀ w:World,(Instr.index 455 (.agg #[Z a.lo,Z a.hi,Z a.f.t,Z a.f.v,Z a.f.s,Z a.l.t,Z a.l.v,Z a.l.s]) (Z 6)).run Tryz.prog w=.ok (Z a.l.v) w:=fun w=>by kernel_rfl
     go_wp2_with fail;refine(eG _ A4 n4 c4 p a.l.v HP.out.2.1 HP.out.2.2.1 hc4 J HZ.out.1 HZ.out.2).mono ?_;rintro e w4 ⟨v,rfl,ho,hb⟩;have hlen4:(p ++ aF (zig a.l.v)).length<=len+30+10*(6+1):=by
      have:=aK (dJ HZ.out.1 HZ.out.2);rw[List.length_append,HP.out.2.1];omega
     have e4:p ++ aF (zig a.l.v)=B3 ++ cat (((iF a).take (6+1)).map zig):=by rw[HP.out.1,HP.out.2.2.2.2.1,List.append_assoc];rfl
     have H4:=zh (zN (aN ho HP.out.2.2.2.1.size) (zN (HP.out.2.2.2.1.call hb) (zN e4 hlen4)));clear ho hb e4 hlen4;go_wp2_with fail
     go_roundw
     case rel=>exact ⟨6+1,_,J,by go_num,H4.out.2.2.1,H4.out.2.2.2,H4.out.1,H4.out.2.1⟩
     case measure=>simp[intOf]<;>omega
    ·skip
     have hz:bI a.l.s:=HK.out _ (by unfold iF;simp);have HZ:=zh hz;clear hz;have hx:∀ w:World,(Instr.index 455 (.agg #[Z a.lo,Z a.hi,Z a.f.t,Z a.f.v,Z a.f.s,Z a.l.t,Z a.l.v,Z a.l.s]) (Z 7)).run Tryz.prog w=.ok (Z a.l.s) w:=fun w=>by kernel_rfl
     go_wp2_with fail;refine(eG _ A4 n4 c4 p a.l.s HP.out.2.1 HP.out.2.2.1 hc4 J HZ.out.1 HZ.out.2).mono ?_;rintro e w4 ⟨v,rfl,ho,hb⟩;have hlen4:(p ++ aF (zig a.l.s)).length<=len+30+10*(7+1):=by
      have:=aK (dJ HZ.out.1 HZ.out.2);rw[List.length_append,HP.out.2.1];omega
     have e4:p ++ aF (zig a.l.s)=B3 ++ cat (((iF a).take (7+1)).map zig):=by rw[HP.out.1,HP.out.2.2.2.2.1,List.append_assoc];rfl
     have H4:=zh (zN (aN ho HP.out.2.2.2.1.size) (zN (HP.out.2.2.2.1.call hb) (zN e4 hlen4)));clear ho hb e4 hlen4;go_wp2_with fail
     go_roundw
     case rel=>exact ⟨7+1,_,J,by go_num,H4.out.2.2.1,H4.out.2.2.2,H4.out.1,H4.out.2.1⟩
     case measure=>simp[intOf]<;>omega
   ·obtain rfl:k=8:=J
    have HF:=zh (zN hp (zN ho hS));clear hp ho hS hpl;go_wp2_with fail;go_ret;refine⟨_,rfl,?_,HF.out.2.2.av⟩;have e5:bs ++ gJ a=p:=by rw[HF.out.1,H3.out.2.2.1];rfl
    rw[e5];exact HF.out.2.1
end A
namespace A
open V
open Go.RowKit
theorem ME(w:World): (sizeOf 5).run Tryz.prog w=.ok 1 w:=by kernel_rfl
structure IL(w0:World)(A:Option Addr)(n c:Nat)(l:List Nat): Prop where
 len:l.length=n
 byte:∀ j,l.getD j 0 < 256
 sl:Sl w0 (fun q=>q < w0.heap.size) A n (aI l)
 cap:n<=c
 big:c<=9223372036854775807
 small:n<=1125899906842624
 herr:dh w0
def Rb(w0:World)(L:List (Nat × TypeId × Array Value))(x:Nat)(A:Option Addr)(n c:Nat)(l:List Nat)(k:Nat)(e:Ending)(w':World): Prop:=
 e=.returned (.int .u64 ((aT l k):Nat))/\Own w0 ((x,520,#[.slice A n c,Z ((aO l (k+1)).1:Nat),Z ((aO l (k+1)).2:Nat)]) :: L) w'
theorem Ie(w0 w:World)(L:List (Nat × TypeId × Array Value))(x:Nat)(A:Option Addr)(n c:Nat)(l:List Nat)(k:Nat)(hr:IL w0 A n c l)(hS:Own w0 ((x,520,#[.slice A n c,Z ((aO l k).1:Nat),Z ((aO l k).2:Nat)]) :: L) w):
  Calls Tryz.prog 379 #[.pointer (some ⟨x,0,none⟩)] w (Rb w0 L x A n c l k):=by
 have hat:=AU l k;rw[hr.len] at hat
 have hs1:((aO l (k+1)).1:Int)=((aO l k).1:Int)+((aJ (l.drop (aO l k).1)).2.1:Int):=by rw[kG];simp
 have hs2:((aO l (k+1)).2:Int)=if (aO l k).2=0 then ((aJ (l.drop (aO l k).1)).2.2:Int) else ((aO l k).2:Int):=by rw[kG];simp only[];split<;>rfl
 have hv1:aT l k=(aJ (l.drop (aO l k).1)).1:=rfl;obtain⟨p,hp⟩:∃ p,p=(aO l k).1:=⟨_,rfl⟩
 obtain⟨e0,he0⟩:∃ e,e=(aO l k).2:=⟨_,rfl⟩
 have he1:=Fq l k;rw[<-hp] at hat hs1 hs2 hv1 hS
 rw[<-he0] at hs2 hS he1
 have hm:(l.drop p).length=n-p:=by rw[List.length_drop,hr.len]
 have hvl:=kQ (l.drop p);rw[hm] at hvl
 have hve:=vP (l.drop p);obtain⟨A1,hA1,hA2⟩:=ni (P:=Tryz.prog) 72 5 Tryz.underlying72 ME A n c p hat hr.cap;have HR:=zh (zN hr (zN hA2 (zN hm (zN hs1 (zN hs2 hv1)))));have hcap:=hr.cap;have hbig:=hr.big;clear hr hA2 hm hs1 hs2 hv1 hp he0
 go_enter Tryz.func379,Tryz.ntmps379
 go_upto_region 1 with (fail)
 have HS:=zh hS;clear hS;have hS:(Own w0 ((x,520,#[.slice A n c,Z (p:Nat),Z (e0:Nat)]) :: L)) (w.drew):=HS.out.drew;refine aA (Own w0 ((x,520,#[.slice A n c,Z (p:Nat),Z (e0:Nat)]) :: L)) (by kernel_rfl) hS ?_;refine zB [0,1,2] ?_;iterate 3 (refine zv hS ?_;try simp only[zP])
 refine zE ?_;refine zT 3 ?_ ?_ hS ?_;rotate_left
 ·(intro w' hSw;have u0:=hSw.c 0 0;go_simp<;>with_reducible rfl)
 try simp only[zP]
 refine zB [4,5,6] ?_;iterate 3 (refine zv hS ?_;try simp only[zP])
 refine zE ?_;refine zT 7 ?_ ?_ hS ?_;rotate_left
 ·(intro w' hSw;have u0:=hSw.c 0 1;go_simp<;>with_reducible rfl)
 try simp only[zP]
 refine zt 8 hS ?_;try simp only[zP]
 generalize w.drew=wd at hS ⊢
 have HD:=zh hS;refine zC 9 fun K HK=>?_
 go_simp;refine(mg _ _ A1 (n-p) (c-p) (l.drop p) HR.out.2.2.1 (jB HR.out.1.byte p) (HR.out.2.1 wd _ l (eY HR.out.1.sl HD.out.av)) J (HR.out.1.herr.below HD.out.av)).mono ?_;rintro e w1 ⟨rfl,hb1⟩;obtain⟨u,hu⟩:∃ u,u=(aJ (l.drop p)).1:=⟨_,rfl⟩
 obtain⟨q,hq⟩:∃ q,q=(aJ (l.drop p)).2.1:=⟨_,rfl⟩
 obtain⟨r,hrr⟩:∃ r,r=(aJ (l.drop p)).2.2:=⟨_,rfl⟩
 rw[<-hu,<-hq] at hvl
 rw[<-hrr] at hve
 rw[<-hu,<-hq,<-hrr];obtain⟨hu64,hq10,hqn⟩:=hvl;have hr11:r<=11:=by rcases hve with h | ⟨h | h,-⟩<;>omega
 obtain⟨z,hz⟩:∃ z:Int,z=(u:Nat):=⟨_,rfl⟩
 have HU:=zh (zN hu (zN hq (zN hrr hz)));rw[<-hz];have H1:=zh (HD.out.call hb1);clear hb1 hu hq hrr hve hz hA1 HD HS;go_wp2_with fail;refine HK.out.zt (Own w0 ((x,520,#[.slice A n c,Z (p:Nat),Z (e0:Nat)]) :: L)) (fun _ h=>h) (H1.out) ?_;clear HK hS;intro hS;try simp only[zP]
 refine zB [10,11,12,13,14,15,16] ?_;iterate 7 (refine zv hS ?_;try simp only[zP])
 refine zE ?_;refine zD ?_;try simp only[zP]
 clear hS;have hS:=H1.out;have z0_0:=hS.c3 0;have zf0:=hS.free 0 rfl;clear hS;have hw:wrap64 ((p:Int)+(q:Int))=(p:Int)+(q:Int):=by unfold wrap64;omega
 by_cases h0:e0=0
 ·have d:((e0:Int) == 0)=true:=by simp[h0]
  have h2:=(H1.out.set 0 2 rfl (Z (r:Nat))).set 0 1 rfl (Z ((p:Int)+(q:Int)));have HP:=zh h2;have HZ:=zh h0;clear h2 h0;go_wp2_with fail;go_ret;obtain⟨hu,hq,hrr,hz⟩:=HU.out;refine⟨by rw[HR.out.2.2.2.2.2,<-hu,<-hz];rfl,?_⟩;rw[HR.out.2.2.2.1,HR.out.2.2.2.2.1,if_pos HZ.out,<-hq,<-hrr];exact HP.out
 ·have d:((e0:Int) == 0)=false:=by simp[h0]
  have h2:=H1.out.set 0 1 rfl (Z ((p:Int)+(q:Int)));have HP:=zh h2;have HZ:=zh h0;clear h2 h0;go_wp2_with fail;go_ret;obtain⟨hu,hq,hrr,hz⟩:=HU.out;refine⟨by rw[HR.out.2.2.2.2.2,<-hu,<-hz];rfl,?_⟩;rw[HR.out.2.2.2.1,HR.out.2.2.2.2.1,if_neg HZ.out,<-hq];exact HP.out
def Ol(w0:World)(L:List (Nat × TypeId × Array Value))(x:Nat)(A:Option Addr)(n c:Nat)(l:List Nat)(k:Nat)(e:Ending)(w':World): Prop:=
 e=.returned (Z (zag (aT l k)))/\Own w0 ((x,520,#[.slice A n c,Z ((aO l (k+1)).1:Nat),Z ((aO l (k+1)).2:Nat)]) :: L) w'
theorem nG(w0 w:World)(L:List (Nat × TypeId × Array Value))(x:Nat)(A:Option Addr)(n c:Nat)(l:List Nat)(k:Nat)(hr:IL w0 A n c l)(hS:Own w0 ((x,520,#[.slice A n c,Z ((aO l k).1:Nat),Z ((aO l k).2:Nat)]) :: L) w):
  Calls Tryz.prog 380 #[.pointer (some ⟨x,0,none⟩)] w (Ol w0 L x A n c l k):=by
 have hat:=AU l k;rw[hr.len] at hat
 have hs1:((aO l (k+1)).1:Int)=((aO l k).1:Int)+((aJ (l.drop (aO l k).1)).2.1:Int):=by rw[kG];simp
 have hs2:((aO l (k+1)).2:Int)=if (aO l k).2=0 then ((aJ (l.drop (aO l k).1)).2.2:Int) else ((aO l k).2:Int):=by rw[kG];simp only[];split<;>rfl
 have hv1:aT l k=(aJ (l.drop (aO l k).1)).1:=rfl;obtain⟨p,hp⟩:∃ p,p=(aO l k).1:=⟨_,rfl⟩
 obtain⟨e0,he0⟩:∃ e,e=(aO l k).2:=⟨_,rfl⟩
 have he1:=Fq l k;rw[<-hp] at hat hs1 hs2 hv1 hS
 rw[<-he0] at hs2 hS he1
 have hm:(l.drop p).length=n-p:=by rw[List.length_drop,hr.len]
 have hvl:=kQ (l.drop p);rw[hm] at hvl
 have hve:=vP (l.drop p);obtain⟨A1,hA1,hA2⟩:=ni (P:=Tryz.prog) 72 5 Tryz.underlying72 ME A n c p hat hr.cap;have HR:=zh (zN hr (zN hA2 (zN hm (zN hs1 (zN hs2 hv1)))));have hcap:=hr.cap;have hbig:=hr.big;clear hr hA2 hm hs1 hs2 hv1 hp he0
 go_enter Tryz.func380,Tryz.ntmps380
 go_upto_region 1 with (fail)
 have HS:=zh hS;clear hS;have hS:(Own w0 ((x,520,#[.slice A n c,Z (p:Nat),Z (e0:Nat)]) :: L)) (w.drew):=HS.out.drew;refine aA (Own w0 ((x,520,#[.slice A n c,Z (p:Nat),Z (e0:Nat)]) :: L)) (by kernel_rfl) hS ?_;refine zB [0,1,2] ?_;iterate 3 (refine zv hS ?_;try simp only[zP])
 refine zE ?_;refine zT 3 ?_ ?_ hS ?_;rotate_left
 ·(intro w' hSw;have u0:=hSw.c 0 0;go_simp<;>with_reducible rfl)
 try simp only[zP]
 refine zB [4,5,6] ?_;iterate 3 (refine zv hS ?_;try simp only[zP])
 refine zE ?_;refine zT 7 ?_ ?_ hS ?_;rotate_left
 ·(intro w' hSw;have u0:=hSw.c 0 1;go_simp<;>with_reducible rfl)
 try simp only[zP]
 refine zt 8 hS ?_;try simp only[zP]
 generalize w.drew=wd at hS ⊢
 have HD:=zh hS;refine zC 9 fun K HK=>?_
 go_simp;refine(qN _ _ A1 (n-p) (c-p) (l.drop p) HR.out.2.2.1 (jB HR.out.1.byte p) (HR.out.2.1 wd _ l (eY HR.out.1.sl HD.out.av)) J (HR.out.1.herr.below HD.out.av)).mono ?_;rintro e w1 ⟨rfl,hb1⟩;obtain⟨u,hu⟩:∃ u,u=(aJ (l.drop p)).1:=⟨_,rfl⟩
 obtain⟨q,hq⟩:∃ q,q=(aJ (l.drop p)).2.1:=⟨_,rfl⟩
 obtain⟨r,hrr⟩:∃ r,r=(aJ (l.drop p)).2.2:=⟨_,rfl⟩
 rw[<-hu,<-hq] at hvl
 rw[<-hrr] at hve
 rw[<-hu,<-hq,<-hrr];obtain⟨hu64,hq10,hqn⟩:=hvl;have hr11:r<=11:=by rcases hve with h | ⟨h | h,-⟩<;>omega
 obtain⟨z,hz⟩:∃ z:Int,z=(zag u):=⟨_,rfl⟩
 have HU:=zh (zN hu (zN hq (zN hrr hz)));rw[<-hz];have H1:=zh (HD.out.call hb1);clear hb1 hu hq hrr hve hz hA1 HD HS;go_wp2_with fail;refine HK.out.zt (Own w0 ((x,520,#[.slice A n c,Z (p:Nat),Z (e0:Nat)]) :: L)) (fun _ h=>h) (H1.out) ?_;clear HK hS;intro hS;try simp only[zP]
 refine zB [10,11,12,13,14,15,16] ?_;iterate 7 (refine zv hS ?_;try simp only[zP])
 refine zE ?_;refine zD ?_;try simp only[zP]
 clear hS;have hS:=H1.out;have z0_0:=hS.c3 0;have zf0:=hS.free 0 rfl;clear hS;have hw:wrap64 ((p:Int)+(q:Int))=(p:Int)+(q:Int):=by unfold wrap64;omega
 by_cases h0:e0=0
 ·have d:((e0:Int) == 0)=true:=by simp[h0]
  have h2:=(H1.out.set 0 2 rfl (Z (r:Nat))).set 0 1 rfl (Z ((p:Int)+(q:Int)));have HP:=zh h2;have HZ:=zh h0;clear h2 h0;go_wp2_with fail;go_ret;obtain⟨hu,hq,hrr,hz⟩:=HU.out;refine⟨by rw[HR.out.2.2.2.2.2,<-hu,<-hz];rfl,?_⟩;rw[HR.out.2.2.2.1,HR.out.2.2.2.2.1,if_pos HZ.out,<-hq,<-hrr];exact HP.out
 ·have d:((e0:Int) == 0)=false:=by simp[h0]
  have h2:=H1.out.set 0 1 rfl (Z ((p:Int)+(q:Int)));have HP:=zh h2;have HZ:=zh h0;clear h2 h0;go_wp2_with fail;go_ret;obtain⟨hu,hq,hrr,hz⟩:=HU.out;refine⟨by rw[HR.out.2.2.2.2.2,<-hu,<-hz];rfl,?_⟩;rw[HR.out.2.2.2.1,HR.out.2.2.2.2.1,if_neg HZ.out,<-hq];exact HP.out
def RG(w0:World)(L:List (Nat × TypeId × Array Value))(x:Nat)(A:Option Addr)(n c:Nat)(l:List Nat)(k:Nat)(e:Ending)(w':World): Prop:=
 e=.returned (.agg #[Z (zag (aT l k)),Z (zag (aT l (k+1))),Z (zag (aT l (k+1+1)))])/\Own w0 ((x,520,#[.slice A n c,Z ((aO l (k+1+1+1)).1:Nat),Z ((aO l (k+1+1+1)).2:Nat)]) :: L) w'
theorem oH{P:Program}{f:Func}{post:Ending->World->Prop}{ex:Exit}{a:Act}{w:World}(S:World->Prop)(hS:S w)(h:∀ w,S w->bodyPost P f post ex a w): bodyPost P f post ex a w:=h w hS
theorem Co(w0 w:World)(L:List (Nat × TypeId × Array Value))(x:Nat)(A:Option Addr)(n c:Nat)(l:List Nat)(k:Nat)(hr:IL w0 A n c l)(hS:Own w0 ((x,520,#[.slice A n c,Z ((aO l k).1:Nat),Z ((aO l k).2:Nat)]) :: L) w):
  Calls Tryz.prog 381 #[.pointer (some ⟨x,0,none⟩)] w (RG w0 L x A n c l k):=by
 obtain⟨y,hy⟩:∃ y,y=w.heap.size:=⟨_,rfl⟩
 have h0:=hS.alloc hy 149 #[Z 0,Z 0,Z 0]
 have HR:=zh (zN hr (zN hy h0));clear hr hS hy h0
 go_enter Tryz.func381,Tryz.ntmps381
 go_wp2_with fail;refine(nG w0 _ (L ++ [(y,149,#[Z 0,Z 0,Z 0])]) x A n c l k HR.out.1 (show Own w0 ((x,520,#[.slice A n c,Z ((aO l k).1:Nat),Z ((aO l k).2:Nat)]) :: (L ++ [(y,149,#[Z 0,Z 0,Z 0])])) _ from HR.out.2.2)).mono ?_;rintro e w1 ⟨rfl,h1⟩;have H1:=zh h1;clear h1;go_wp2_with fail;refine(nG w0 _ (L ++ [(y,149,#[Z 0,Z 0,Z 0])]) x A n c l (k+1) HR.out.1 H1.out).mono ?_;rintro e w2 ⟨rfl,h2⟩;have H2:=zh h2;clear h2;go_wp2_with fail;refine(nG w0 _ (L ++ [(y,149,#[Z 0,Z 0,Z 0])]) x A n c l (k+1+1) HR.out.1 H2.out).mono ?_;rintro e w3 ⟨rfl,h3⟩;rw[<-HR.out.2.1];have hf:(((x,520,#[.slice A n c,Z ((aO l (k+1+1+1)).1:Nat),Z ((aO l (k+1+1+1)).2:Nat)]) :: L) ++ [(y,149,#[Z 0,Z 0,Z 0])])[L.length+1]? = some (y,149,#[Z 0,Z 0,Z 0]):=by simp
 have h4:=Own.front (L:=((x,520,#[.slice A n c,Z ((aO l (k+1+1+1)).1:Nat),Z ((aO l (k+1+1+1)).2:Nat)]) :: L) ++ [(y,149,#[Z 0,Z 0,Z 0])]) h3 (L.length+1) hf;obtain⟨t,ht⟩:∃ t,t=zag (aT l k):=⟨_,rfl⟩
 obtain⟨v,hv⟩:∃ v,v=zag (aT l (k+1)):=⟨_,rfl⟩
 obtain⟨s,hs⟩:∃ s,s=zag (aT l (k+1+1)):=⟨_,rfl⟩
 rw[<-ht,<-hv,<-hs];have hst:=@jO Tryz.prog _ _ _ _ (h4.get 0 rfl) 149 0 3 [Z t,Z v,Z s] rfl (Nat.le_of_ble_eq_true rfl) (by kernel_rfl) (List.all_eq_true.1 rfl);have h5:=(aU.of (n:=3) h4 rfl).put [Z t,Z v,Z s] rfl;rw[show List.eraseIdx (((x,520,#[.slice A n c,Z ((aO l (k+1+1+1)).1:Nat),Z ((aO l (k+1+1+1)).2:Nat)]) :: L) ++ [(y,149,#[Z 0,Z 0,Z 0])]) (L.length+1)=(x,520,#[.slice A n c,Z ((aO l (k+1+1+1)).1:Nat),Z ((aO l (k+1+1+1)).2:Nat)]) :: L by
  rw[show L.length+1=(((x,520,#[.slice A n c,Z ((aO l (k+1+1+1)).1:Nat),Z ((aO l (k+1+1+1)).2:Nat)]) :: L)).length by simp,List.eraseIdx_append_of_length_le (Nat.le_refl _)];simp] at h5
 have H5:=zh h5;have HV:=zh (zN ht (zN hv hs));clear h3 h4 h5 hf ht hv hs;go_wp2_with (refine hst rfl _ _ rfl rfl rfl ?_);refine oH (Own w0 ((y,149,#[Z t,Z v,Z s]) :: (x,520,#[.slice A n c,Z ((aO l (k+1+1+1)).1:Nat),Z ((aO l (k+1+1+1)).2:Nat)]) :: L)) H5.out ?_;intro w9 hS9;exact bodyPost_ret (v:=.agg #[Z t,Z v,Z s]) (qK (P:=Tryz.prog) Tryz.results381 rfl (hS9.get 0 rfl) 3 [Z t,Z v,Z s] _ Tryz.underlying149 rfl rfl (by kernel_rfl) (fun j _=>by simp)) rfl ⟨by rw[HV.out.1,HV.out.2.1,HV.out.2.2],hS9.sub (List.sublist_cons_self _ _)⟩
end A
namespace A
open V
open Go.RowKit
theorem qL{P:Program}{fn:Func}{tmps:Array Value}{w:World}{g:Nat}{t ty:TypeId}{cs:Array Value}{r u u2:Tmp}(hf:fn.results=#[.cell r ty,.tmp u,.tmp u2])(hr:tmps.getD r undef=.pointer (some ⟨g,0,none⟩))(hb:ay w g t cs)(n:Nat)(vs:List Value)(d:TypeDesc)(hu:P.underlying ty=some d)(hd:d.isRow=true)(hn:vs.length=n)(hi:(P.info? ty).map (·.size)=some n)(hc:∀ j,j < n->cs[0+j]? = vs[j]?): (results fn tmps).run P w=.ok (.tuple #[.agg vs.toArray,tmps.getD u undef,tmps.getD u2 undef]) w:=by
 have h:=run_loadVar_mid (P:=P) w g 0 ty vs d (fun j v hj=>by
  rw[hb.cell,hc j (by have:=(List.getElem?_eq_some_iff.1 hj).1;omega)];exact hj) hu hd (by rw[hn];exact hi)
 have hr':tmps[r]?.getD undef=.pointer (some ⟨g,0,none⟩):=by simpa using hr
 simp[results,hf,hr',h,asAddr,Result.andThen]
def zS(l:List Nat)(w:World)(e:Ending)(w':World): Prop:=
 e=.returned (.tuple #[.agg #[Z (iY l).1.n,Z (aj (iY l).1.s),.int .u64 (au (iY l).1.s),Z (iY l).1.lo,Z (iY l).1.hi,Z (iY l).1.f.t,Z (iY l).1.f.v,Z (iY l).1.f.s,Z (iY l).1.l.t,Z (iY l).1.l.v,Z (iY l).1.l.s],Z ((iY l).2.1:Nat),Z ((iY l).2.2:Nat)])/\Below w.heap.size w w'
theorem xV{l:List Nat}{a:Ag}{p e:Nat}{w w':World}{v:Value}(h:iY l=(a,p,e))(hv:v=.tuple #[.agg #[Z a.n,Z (aj a.s),.int .u64 (au a.s),Z a.lo,Z a.hi,Z a.f.t,Z a.f.v,Z a.f.s,Z a.l.t,Z a.l.v,Z a.l.s],Z (p:Nat),Z (e:Nat)])(hb:Below w.heap.size w w'): zS l w (.returned v) w':=by
 subst hv;unfold zS;rw[h];exact⟨rfl,hb⟩
theorem IY(l:List Nat): jr (bU l):=by
 have r0:=gX l 0;have r1:=gX l 1;have r2:=gX l 2;have r3:=gX l 3;have r4:=gX l 4;have r5:=gX l 5;have r6:=gX l 6;have r7:=gX l 7;have r8:=gX l 8;have r9:=gX l 9;have r10:=gX l 10;unfold bU;generalize aT l 0=v0 at *
 generalize aT l 1=v1 at *
 generalize aT l 2=v2 at *
 generalize aT l 3=v3 at *
 generalize aT l 4=v4 at *
 generalize aT l 5=v5 at *
 generalize aT l 6=v6 at *
 generalize aT l 7=v7 at *
 generalize aT l 8=v8 at *
 generalize aT l 9=v9 at *
 generalize aT l 10=v10 at *
 have h1:=iX r1;refine⟨⟨?_,?_,iX r3,iX r4⟩,⟨iX r5,iX r6,iX r7⟩,⟨iX r8,iX r9,iX r10⟩⟩
 ·unfold bI;simp only[IntKind.wrap_i64];omega
 ·unfold dK;simp only[];omega
theorem Dw(l:List Nat): aj (bU l).s=zag (aT l 1)/\au (bU l).s=(aT l 2:Nat):=by
 have r2:=gX l 2;unfold bU aj au;simp only[];omega
theorem FW{l:List Nat}{cn sh sl lo hi ft fv fs lt lv ls:Int}(hc:cn=IntKind.i64.wrap ((aT l 0:Nat):Int))(hsh:sh=zag (aT l 1))(hsl:sl=((aT l 2:Nat):Int))(hlo:lo=zag (aT l 3))(hhi:hi=zag (aT l 4))(hft:ft=zag (aT l 5))(hfv:fv=zag (aT l (5+1)))(hfs:fs=zag (aT l (5+1+1)))(hlt:lt=zag (aT l 8))(hlv:lv=zag (aT l (8+1)))(hls:ls=zag (aT l (8+1+1))):
  (#[Z cn,Z sh,.int .u64 sl,Z lo,Z hi,Z ft,Z fv,Z fs,Z lt,Z lv,Z ls]:Array Value)=#[Z (bU l).n,Z (aj (bU l).s),.int .u64 (au (bU l).s),Z (bU l).lo,Z (bU l).hi,Z (bU l).f.t,Z (bU l).f.v,Z (bU l).f.s,Z (bU l).l.t,Z (bU l).l.v,Z (bU l).l.s]:=by
 have e0:(bU l).n=cn:=by rw[hc];simp only[bU]
 have e1:aj (bU l).s=sh:=(Dw l).1.trans hsh.symm;have e2:au (bU l).s=sl:=(Dw l).2.trans hsl.symm;have e3:(bU l).lo=lo:=by rw[hlo];simp only[bU]
 have e4:(bU l).hi=hi:=by rw[hhi];simp only[bU]
 have e5:(bU l).f.t=ft:=by rw[hft];simp only[bU]
 have e6:(bU l).f.v=fv:=by rw[hfv];simp only[bU]
 have e7:(bU l).f.s=fs:=by rw[hfs];simp only[bU]
 have e8:(bU l).l.t=lt:=by rw[hlt];simp only[bU]
 have e9:(bU l).l.v=lv:=by rw[hlv];simp only[bU]
 have e10:(bU l).l.s=ls:=by rw[hls];simp only[bU]
 rw[e0,e1,e2,e3,e4,e5,e6,e7,e8,e9,e10]
theorem oI{P:Program}{f:Func}{post:Ending->World->Prop}{ex:Exit}{a:Act}{w:World}(S:World->Prop)(hS:S w)(h:∀ w,S w->bodyPost P f post ex a w): bodyPost P f post ex a w:=h w hS
theorem FX(w:World)(A:Option Addr)(n c:Nat)(l:List Nat)(hr:IL w A n c l): Calls Tryz.prog 355 #[.slice A n c] w (zS l w):=by
 obtain⟨y,hy⟩:∃ y,y=w.heap.size:=⟨_,rfl⟩
 have o0:=(Own.eD w hy 195 #[Z 0,Z 0,.int .u64 0,Z 0,Z 0,Z 0,Z 0,Z 0,Z 0,Z 0,Z 0] 520 #[.slice A n c,Z 0,Z 0]).front 1 rfl;obtain⟨x,hx⟩:∃ x,x=y+1:=⟨_,rfl⟩
 rw[<-hx] at o0
 have HO:=zh (zN hy (zN hx (show Own w [(x,520,#[.slice A n c,Z ((aO l 0).1:Nat),Z ((aO l 0).2:Nat)]),(y,195,#[Z 0,Z 0,.int .u64 0,Z 0,Z 0,Z 0,Z 0,Z 0,Z 0,Z 0,Z 0])] _ from o0)));have HR:=zh hr;clear hy hx o0 hr
 go_enter Tryz.func355,Tryz.ntmps355
 go_upto_region 2 with (fail)
 rw[<-HO.out.1,<-HO.out.2.1];refine aC (Own w [(x,520,#[.slice A n c,Z ((aO l 0).1:Nat),Z ((aO l 0).2:Nat)]),(y,195,#[Z 0,Z 0,.int .u64 0,Z 0,Z 0,Z 0,Z 0,Z 0,Z 0,Z 0,Z 0])]) HO.out.2.2 ?_;intro w0 hS0;have H0:=zh hS0;clear hS0;go_wp2_with fail;refine(Ie w _ [(y,195,#[Z 0,Z 0,.int .u64 0,Z 0,Z 0,Z 0,Z 0,Z 0,Z 0,Z 0,Z 0])] x A n c l 0 HR.out H0.out).mono ?_;rintro e w1 ⟨rfl,h1⟩;obtain⟨cn,hcn⟩:∃ z:Int,z=IntKind.i64.wrap ((aT l 0:Nat):Int):=⟨_,rfl⟩
 have k0:IntKind.i64.wrap ((aT l 0:Nat):Int)=cn:=hcn.symm;have z1_0:=h1.c 1 0;have zf1:=h1.free 1 rfl;have H1:=zh (show Own w [(x,520,#[.slice A n c,Z ((aO l 1).1:Nat),Z ((aO l 1).2:Nat)]),(y,195,#[Z cn,Z 0,.int .u64 0,Z 0,Z 0,Z 0,Z 0,Z 0,Z 0,Z 0,Z 0])] _ from h1.set 1 0 rfl (Z cn));have HC:=zh hcn;clear h1 hcn H0;go_upto_region 3 with (fail)
 refine aC (Own w [(x,520,#[.slice A n c,Z ((aO l 1).1:Nat),Z ((aO l 1).2:Nat)]),(y,195,#[Z cn,Z 0,.int .u64 0,Z 0,Z 0,Z 0,Z 0,Z 0,Z 0,Z 0,Z 0])]) H1.out ?_;clear z1_0 zf1 H1 k0;intro w2 hS;have z1_0:=hS.c 1 0;have H2:=zh hS;clear hS
 go_upto_if 15 with (fail)
 go_cut [3] (fun s3 wx=>∃ (m:Nat) (ag:Ag),s3=Z 0/\((cn=0/\m=1/\ag=aQ)\/(cn≠0/\m=11/\ag=bU l))/\Own w [(x,520,#[.slice A n c,Z ((aO l m).1:Nat),Z ((aO l m).2:Nat)]),(y,195,#[Z ag.n,Z (aj ag.s),.int .u64 (au ag.s),Z ag.lo,Z ag.hi,Z ag.f.t,Z ag.f.v,Z ag.f.s,Z ag.l.t,Z ag.l.v,Z ag.l.s])] wx)
 case first=>
  by_cases h0:cn=0
  ·have d:(cn != 0)=false:=by simp[h0]
   have HZ:=zh h0;clear h0;go_wp2_with fail
   go_meet
   refine⟨1,aQ,rfl,.inl ⟨HZ.out,rfl,rfl⟩,?_⟩;have h:=H2.out;rw[HZ.out] at h
   exact h
  ·have d:(cn != 0)=true:=by simp[h0]
   have HZ:=zh h0;clear h0;go_wp2_with fail;refine(nG w _ [(y,195,#[Z cn,Z 0,.int .u64 0,Z 0,Z 0,Z 0,Z 0,Z 0,Z 0,Z 0,Z 0])] x A n c l 1 HR.out H2.out).mono ?_;rintro e w3 ⟨rfl,h3⟩;obtain⟨sh,hsh⟩:∃ z:Int,z=zag (aT l 1):=⟨_,rfl⟩
   rw[<-hsh];have H3:=zh h3;have Hsh:=zh hsh;clear h3 hsh z1_0 d;go_wp2_with fail;refine(Ie w _ [(y,195,#[Z cn,Z 0,.int .u64 0,Z 0,Z 0,Z 0,Z 0,Z 0,Z 0,Z 0,Z 0])] x A n c l 2 HR.out H3.out).mono ?_;rintro e w4 ⟨rfl,h4⟩;obtain⟨sl,hsl⟩:∃ z:Int,z=((aT l 2:Nat):Int):=⟨_,rfl⟩
   rw[<-hsl];have z1_1:=h4.c 1 1;have z1_2:=h4.c 1 2;have zf1:=h4.free 1 rfl;have H4:=zh (show Own w [(x,520,#[.slice A n c,Z ((aO l 3).1:Nat),Z ((aO l 3).2:Nat)]),(y,195,#[Z cn,Z sh,.int .u64 sl,Z 0,Z 0,Z 0,Z 0,Z 0,Z 0,Z 0,Z 0])] _ from (h4.set 1 1 rfl (Z sh)).set 1 2 rfl (.int .u64 sl));have Hsl:=zh hsl;clear h4 hsl;go_upto_region 5 with (fail)
   refine aC (Own w [(x,520,#[.slice A n c,Z ((aO l 3).1:Nat),Z ((aO l 3).2:Nat)]),(y,195,#[Z cn,Z sh,.int .u64 sl,Z 0,Z 0,Z 0,Z 0,Z 0,Z 0,Z 0,Z 0])]) H4.out ?_;clear z1_1 z1_2 zf1 H4;intro w5 hS;have H5:=zh hS;clear hS;go_wp2_with fail;refine(nG w _ [(y,195,#[Z cn,Z sh,.int .u64 sl,Z 0,Z 0,Z 0,Z 0,Z 0,Z 0,Z 0,Z 0])] x A n c l 3 HR.out H5.out).mono ?_;rintro e w6 ⟨rfl,h6⟩;obtain⟨lo,hlo⟩:∃ z:Int,z=zag (aT l 3):=⟨_,rfl⟩
   rw[<-hlo];have H6:=zh h6;have Hlo:=zh hlo;clear h6 hlo;go_wp2_with fail;refine(nG w _ [(y,195,#[Z cn,Z sh,.int .u64 sl,Z 0,Z 0,Z 0,Z 0,Z 0,Z 0,Z 0,Z 0])] x A n c l 4 HR.out H6.out).mono ?_;rintro e w7 ⟨rfl,h7⟩;obtain⟨hi,hhi⟩:∃ z:Int,z=zag (aT l 4):=⟨_,rfl⟩
   rw[<-hhi];have z1_3:=h7.c 1 3;have z1_4:=h7.c 1 4;have zf1:=h7.free 1 rfl;have H7:=zh (show Own w [(x,520,#[.slice A n c,Z ((aO l 5).1:Nat),Z ((aO l 5).2:Nat)]),(y,195,#[Z cn,Z sh,.int .u64 sl,Z lo,Z hi,Z 0,Z 0,Z 0,Z 0,Z 0,Z 0])] _ from (h7.set 1 3 rfl (Z lo)).set 1 4 rfl (Z hi));have Hhi:=zh hhi;clear h7 hhi;go_upto_region 6 with (fail)
   refine aC (Own w [(x,520,#[.slice A n c,Z ((aO l 5).1:Nat),Z ((aO l 5).2:Nat)]),(y,195,#[Z cn,Z sh,.int .u64 sl,Z lo,Z hi,Z 0,Z 0,Z 0,Z 0,Z 0,Z 0])]) H7.out ?_;clear z1_3 z1_4 zf1 H7;intro w8 hS;have H8:=zh hS;clear hS;go_wp2_with fail;refine(Co w _ [(y,195,#[Z cn,Z sh,.int .u64 sl,Z lo,Z hi,Z 0,Z 0,Z 0,Z 0,Z 0,Z 0])] x A n c l 5 HR.out H8.out).mono ?_;rintro e w9 ⟨rfl,h9⟩;obtain⟨ft,hft⟩:∃ z:Int,z=zag (aT l 5):=⟨_,rfl⟩
   obtain⟨fv,hfv⟩:∃ z:Int,z=zag (aT l (5+1)):=⟨_,rfl⟩
   obtain⟨fs,hfs⟩:∃ z:Int,z=zag (aT l (5+1+1)):=⟨_,rfl⟩
   rw[<-hft,<-hfv,<-hfs];have H9:=zh (show Own w [(x,520,#[.slice A n c,Z ((aO l 8).1:Nat),Z ((aO l 8).2:Nat)]),(y,195,#[Z cn,Z sh,.int .u64 sl,Z lo,Z hi,Z 0,Z 0,Z 0,Z 0,Z 0,Z 0])] _ from h9);have Hf:=zh (zN hft (zN hfv hfs));clear h9 hft hfv hfs;go_wp2_with fail;refine(Co w _ [(y,195,#[Z cn,Z sh,.int .u64 sl,Z lo,Z hi,Z 0,Z 0,Z 0,Z 0,Z 0,Z 0])] x A n c l 8 HR.out H9.out).mono ?_;rintro e w10 ⟨rfl,h10⟩;obtain⟨lt,hlt⟩:∃ z:Int,z=zag (aT l 8):=⟨_,rfl⟩
   obtain⟨lv,hlv⟩:∃ z:Int,z=zag (aT l (8+1)):=⟨_,rfl⟩
   obtain⟨ls,hls⟩:∃ z:Int,z=zag (aT l (8+1+1)):=⟨_,rfl⟩
   rw[<-hlt,<-hlv,<-hls];have h11:Own w [(x,520,#[.slice A n c,Z ((aO l 11).1:Nat),Z ((aO l 11).2:Nat)]),(y,195,#[Z cn,Z sh,.int .u64 sl,Z lo,Z hi,Z 0,Z 0,Z 0,Z 0,Z 0,Z 0])] w10:=h10;have z1_5:=h11.c 1 5;have z1_6:=h11.c 1 6;have z1_7:=h11.c 1 7;have z1_8:=h11.c 1 8;have z1_9:=h11.c 1 9;have z1_10:=h11.c 1 10;have zf1:=h11.free 1 rfl;have H11:=zh (show Own w [(x,520,#[.slice A n c,Z ((aO l 11).1:Nat),Z ((aO l 11).2:Nat)]),(y,195,#[Z cn,Z sh,.int .u64 sl,Z lo,Z hi,Z ft,Z fv,Z fs,Z lt,Z lv,Z ls])] _ from (((((h11.set 1 5 rfl (Z ft)).set 1 6 rfl (Z fv)).set 1 7 rfl (Z fs)).set 1 8 rfl (Z lt)).set 1 9 rfl (Z lv)).set 1 10 rfl (Z ls));have Hl:=zh (zN hlt (zN hlv hls));clear h10 h11 hlt hlv hls;go_wp2_with fail
   go_meet
   refine⟨11,bU l,rfl,.inr ⟨HZ.out,rfl,rfl⟩,?_⟩;have h:=H11.out;rw[FW HC.out Hsh.out Hsl.out Hlo.out Hhi.out Hf.out.1 Hf.out.2.1 Hf.out.2.2 Hl.out.1 Hl.out.2.1 Hl.out.2.2] at h
   exact h
 case rest=>
  obtain⟨m,ag,rfl,hrel,hS⟩:=hcut;have hfin:iY l=if (aO l m).2≠0 then (aQ,0,(aO l m).2) else if dM ag=true then (ag,(aO l m).1,0) else (aQ,0,11):=by
   rcases hrel with ⟨h0,rfl,rfl⟩ | ⟨h0,rfl,rfl⟩
   ·rw[Br (by rw[<-HC.out];exact h0)]
    rfl
   ·rw[Bq (by rw[<-HC.out];exact h0)]
  have hok:kU ag:=by
   rcases hrel with ⟨h0,rfl,rfl⟩ | ⟨h0,rfl,rfl⟩
   ·unfold kU aQ bI dK;simp
   ·exact (IY l).ok
  obtain⟨p,hp⟩:∃ p,p=(aO l m).1:=⟨_,rfl⟩
  obtain⟨e0,he⟩:∃ e,e=(aO l m).2:=⟨_,rfl⟩
  rw[<-hp,<-he] at hfin hS
  have HF:=zh (zN hfin hok);clear hrel hfin hok hp he;have z0_0:=hS.c3 0;have HS:=zh hS;clear hS
  by_cases h0:e0=0
  ·have d:((e0:Int) != 0)=false:=by simp[h0]
   have HZ:=zh h0;clear h0;have hl0:=@zO Tryz.prog _ _ _ _ (HS.out.get 1 rfl) 195 0 11 [Z ag.n,Z (aj ag.s),.int .u64 (au ag.s),Z ag.lo,Z ag.hi,Z ag.f.t,Z ag.f.v,Z ag.f.s,Z ag.l.t,Z ag.l.v,Z ag.l.s] _ Tryz.underlying195 rfl rfl (by kernel_rfl) (fun j _=>by simp);go_wp2_with (refine hl0 rfl _ rfl rfl ?_);refine(vO ag HF.out.2 _).mono ?_;rintro e w3 ⟨rfl,hb3⟩;clear z0_0 hl0 d;have h3:=HS.out.call hb3
   cases hv:dM ag with
   | true=>
    have HV:=zh hv;have H3:=zh h3;clear hv h3 hb3;go_upto_region 11 with (fail)
    have hS:(Own w [(x,520,#[.slice A n c,Z (p:Nat),Z (e0:Nat)]),(y,195,#[Z ag.n,Z (aj ag.s),.int .u64 (au ag.s),Z ag.lo,Z ag.hi,Z ag.f.t,Z ag.f.v,Z ag.f.s,Z ag.l.t,Z ag.l.v,Z ag.l.s])]) (w3.drew):=H3.out.drew;refine aA (Own w [(x,520,#[.slice A n c,Z (p:Nat),Z (e0:Nat)]),(y,195,#[Z ag.n,Z (aj ag.s),.int .u64 (au ag.s),Z ag.lo,Z ag.hi,Z ag.f.t,Z ag.f.v,Z ag.f.s,Z ag.l.t,Z ag.l.v,Z ag.l.s])]) (by kernel_rfl) hS ?_;refine lS (i:=0) (v:=.agg [Z ag.n,Z (aj ag.s),.int .u64 (au ag.s),Z ag.lo,Z ag.hi,Z ag.f.t,Z ag.f.v,Z ag.f.s,Z ag.l.t,Z ag.l.v,Z ag.l.s].toArray) rfl (by kernel_rfl) (by kernel_rfl) (by kernel_rfl) (fun _ _ _ h=>h) (yieldsIf_load_mid (by kernel_rfl) _ _ rfl y 0 rfl [Z ag.n,Z (aj ag.s),.int .u64 (au ag.s),Z ag.lo,Z ag.hi,Z ag.f.t,Z ag.f.v,Z ag.f.s,Z ag.l.t,Z ag.l.v,Z ag.l.s] _ (fun w' h=>MQ (h.get 1 rfl) 0 11 _ rfl (fun j _=>by simp)) Tryz.underlying195 rfl (by kernel_rfl)) hS ?_;try simp only[zP]
    refine zB [1,2,3] ?_;iterate 3 (refine zv hS ?_;try simp only[zP])
    refine zE ?_;refine zT 4 ?_ ?_ hS ?_;rotate_left
    ·(intro w' hSw;have u0:=hSw.c 0 1;go_simp<;>with_reducible rfl)
    try simp only[zP]
    generalize w3.drew=wd at hS ⊢
    have HD:=zh hS;refine zC 5 fun K HK=>?_
    refine kP (HD.out.get 1 rfl) 195 0 11 [Z ag.n,Z (aj ag.s),.int .u64 (au ag.s),Z ag.lo,Z ag.hi,Z ag.f.t,Z ag.f.v,Z ag.f.s,Z ag.l.t,Z ag.l.v,Z ag.l.s] rfl (Nat.le_of_ble_eq_true rfl) (by kernel_rfl) (List.all_eq_true.1 rfl) rfl _ _ rfl rfl rfl ?_;have HT:=zh ((aU.of (n:=11) (HD.out.front 1 rfl) rfl).put [Z ag.n,Z (aj ag.s),.int .u64 (au ag.s),Z ag.lo,Z ag.hi,Z ag.f.t,Z ag.f.v,Z ag.f.s,Z ag.l.t,Z ag.l.v,Z ag.l.s] rfl);refine HK.out.zt (fun w'=>Own w [(y,195,#[Z ag.n,Z (aj ag.s),.int .u64 (au ag.s),Z ag.lo,Z ag.hi,Z ag.f.t,Z ag.f.v,Z ag.f.s,Z ag.l.t,Z ag.l.v,Z ag.l.s]),(x,520,#[.slice A n c,Z (p:Nat),Z (e0:Nat)])] w') (fun _ h=>h.front 1 rfl) (HT.out) ?_;clear HK hS;intro hS;try simp only[zP]
    refine zB [6,7] ?_;iterate 2 (refine zv hS ?_;try simp only[zP])
    refine zE ?_;refine zD ?_;try simp only[zP]
    clear hS;go_wp2_with fail;refine oI (Own w [(y,195,#[Z ag.n,Z (aj ag.s),.int .u64 (au ag.s),Z ag.lo,Z ag.hi,Z ag.f.t,Z ag.f.v,Z ag.f.s,Z ag.l.t,Z ag.l.v,Z ag.l.s]),(x,520,#[.slice A n c,Z (p:Nat),Z (e0:Nat)])]) HT.out ?_;intro w9 hS9;exact bodyPost_ret (v:=.tuple #[.agg [Z ag.n,Z (aj ag.s),.int .u64 (au ag.s),Z ag.lo,Z ag.hi,Z ag.f.t,Z ag.f.v,Z ag.f.s,Z ag.l.t,Z ag.l.v,Z ag.l.s].toArray,Z (p:Nat),Z 0]) (qL (P:=Tryz.prog) Tryz.results355 rfl (hS9.get 0 rfl) 11 [Z ag.n,Z (aj ag.s),.int .u64 (au ag.s),Z ag.lo,Z ag.hi,Z ag.f.t,Z ag.f.v,Z ag.f.s,Z ag.l.t,Z ag.l.v,Z ag.l.s] _ Tryz.underlying195 rfl rfl (by kernel_rfl) (fun j _=>by simp)) rfl (xV (by rw[HF.out.1,if_neg (by rw[HZ.out];simp),if_pos HV.out]) rfl hS9.av)
   | false=>
    have HV:=zh hv;have hst:=@jO Tryz.prog _ _ _ _ (h3.get 1 rfl) 195 0 11 [Z 0,Z 0,.int .u64 0,Z 0,Z 0,Z 0,Z 0,Z 0,Z 0,Z 0,Z 0] rfl (Nat.le_of_ble_eq_true rfl) (by kernel_rfl) (List.all_eq_true.1 rfl);have HT:=zh ((aU.of (n:=11) (h3.front 1 rfl) rfl).put [Z 0,Z 0,.int .u64 0,Z 0,Z 0,Z 0,Z 0,Z 0,Z 0,Z 0,Z 0] rfl);clear hv h3 hb3;go_wp2_with (refine hst rfl _ _ rfl rfl rfl ?_);refine oI (Own w [(y,195,#[Z 0,Z 0,.int .u64 0,Z 0,Z 0,Z 0,Z 0,Z 0,Z 0,Z 0,Z 0]),(x,520,#[.slice A n c,Z (p:Nat),Z (e0:Nat)])]) HT.out ?_;intro w9 hS9;exact bodyPost_ret (v:=.tuple #[.agg [Z 0,Z 0,.int .u64 0,Z 0,Z 0,Z 0,Z 0,Z 0,Z 0,Z 0,Z 0].toArray,Z 0,Z 11]) (qL (P:=Tryz.prog) Tryz.results355 rfl (hS9.get 0 rfl) 11 [Z 0,Z 0,.int .u64 0,Z 0,Z 0,Z 0,Z 0,Z 0,Z 0,Z 0,Z 0] _ Tryz.underlying195 rfl rfl (by kernel_rfl) (fun j _=>by simp)) rfl (xV (a:=aQ) (p:=0) (e:=11) (by rw[HF.out.1,if_neg (by rw[HZ.out];simp),if_neg (by rw[HV.out];simp)]) rfl hS9.av)
  ·have d:((e0:Int) != 0)=true:=by simp[h0]
   have HZ:=zh h0;clear h0;go_upto_region 8 with (fail)
   clear z0_0;have hS:(Own w [(x,520,#[.slice A n c,Z (p:Nat),Z (e0:Nat)])]) (wc.drew):=(HS.out.take 1).drew;refine aA (Own w [(x,520,#[.slice A n c,Z (p:Nat),Z (e0:Nat)])]) (by kernel_rfl) hS ?_;refine zB [0,1,2,3] ?_;iterate 4 (refine zv hS ?_;try simp only[zP])
   refine zE ?_;refine zT 4 ?_ ?_ hS ?_;rotate_left
   ·(intro w' hSw;have u0:=hSw.c 0 2;go_simp<;>with_reducible rfl)
   try simp only[zP]
   have HD:=zh HS.out.drew;generalize wc.drew=wd at hS HD ⊢
   refine zC 5 fun K HK=>?_
   refine kP (HD.out.get 1 rfl) 195 0 11 [Z 0,Z 0,.int .u64 0,Z 0,Z 0,Z 0,Z 0,Z 0,Z 0,Z 0,Z 0] rfl (Nat.le_of_ble_eq_true rfl) (by kernel_rfl) (List.all_eq_true.1 rfl) rfl _ _ rfl rfl rfl ?_;have HT:=zh ((aU.of (n:=11) (HD.out.front 1 rfl) rfl).put [Z 0,Z 0,.int .u64 0,Z 0,Z 0,Z 0,Z 0,Z 0,Z 0,Z 0,Z 0] rfl);refine HK.out.zt (fun w'=>Own w [(y,195,#[Z 0,Z 0,.int .u64 0,Z 0,Z 0,Z 0,Z 0,Z 0,Z 0,Z 0,Z 0]),(x,520,#[.slice A n c,Z (p:Nat),Z (e0:Nat)])] w') (fun _ h=>h.sub (List.sublist_cons_self _ _)) (HT.out) ?_;clear HK hS;intro hS;try simp only[zP]
   refine zB [6,7] ?_;iterate 2 (refine zv hS ?_;try simp only[zP])
   refine zE ?_;refine zD ?_;try simp only[zP]
   clear hS;go_wp2_with fail;refine oI (Own w [(y,195,#[Z 0,Z 0,.int .u64 0,Z 0,Z 0,Z 0,Z 0,Z 0,Z 0,Z 0,Z 0]),(x,520,#[.slice A n c,Z (p:Nat),Z (e0:Nat)])]) HT.out ?_;intro w9 hS9;exact bodyPost_ret (v:=.tuple #[.agg [Z 0,Z 0,.int .u64 0,Z 0,Z 0,Z 0,Z 0,Z 0,Z 0,Z 0,Z 0].toArray,Z 0,Z (e0:Nat)]) (qL (P:=Tryz.prog) Tryz.results355 rfl (hS9.get 0 rfl) 11 [Z 0,Z 0,.int .u64 0,Z 0,Z 0,Z 0,Z 0,Z 0,Z 0,Z 0,Z 0] _ Tryz.underlying195 rfl rfl (by kernel_rfl) (fun j _=>by simp)) rfl (xV (a:=aQ) (p:=0) (by rw[HF.out.1,if_pos HZ.out]) rfl hS9.av)
end A
end Go.Proofs.YtmffkpkgbdcnjaaGreatDoor
