/-
  Texts of this proof, joined.
-/
import Derived.Test.YtmffkpkgbdcnjaaGreatDoorTopExact09
import Derived.Test.YtmffkpkgbdcnjaaGreatDoorTopExact08
set_option linter.unusedVariables false
set_option linter.unusedSimpArgs false
set_option maxRecDepth 100000
set_option maxHeartbeats 20000000
namespace Go.Proofs.YtmffkpkgbdcnjaaGreatDoor
section
open Go.RowKit Go.Maps A
theorem JG(w:World)(A:Option Addr)(n c:Nat)(L:List Pt)(W O a b:Int)(hL:L.length=n)(hsl:dN w (fun q=>q < w.heap.size) A n (fun j=>L.getD j ⟨0,0,0⟩))(hn:n<=900)(hf:∀ p ∈ L,eU p)(hin:∀ p ∈ L,a<=p.t/\p.t < b)(hk:bP W O)(ha:aP a)(hb:aP b)(hab:a<=b)(ma:(a-O).tmod W=0)(mb:(b-O).tmod W=0):
  Calls Tryz.prog 160 #[.slice A n c,.int .i64 W,.int .i64 O,.agg #[.int .i64 a,.int .i64 b]] w (Af w W (dS W O (fun j=>L.getD j ⟨0,0,0⟩) n)):=by
 obtain⟨x,hx⟩:∃ x,x=w.heap.size:=⟨_,rfl⟩
 have o0:=Own.eD w hx 171 #[.int .i64 a,.int .i64 b] 364 #[.int .i64 W,.int .i64 O]
 have hw1:=hk.w1;have hw2:=hk.w2;have ho1:=hk.o1;have ho2:=hk.o2;have e1:IntKind.i64.wrap (a-O)=a-O:=by have:=ha.1;have:=ha.2;simp only[IntKind.wrap_i64];omega
 have e2:IntKind.i64.wrap (b-O)=b-O:=by have:=hb.1;have:=hb.2;simp only[IntKind.wrap_i64];omega
 have hW0:W≠0:=J;have r1:IntKind.i64.wrap ((a-O).tmod W)=0:=by rw[ma];rfl
 have r2:IntKind.i64.wrap ((b-O).tmod W)=0:=by rw[mb];rfl
 have d1:decide (b < a)=false:=decide_eq_false (Int.not_lt.2 hab);have HD:=zh (zN o0 (zN hsl (zN hf (zN hin (zN hk (zN ha (zN hb hL)))))));have nt:∀ w:World,(Op.unary .not (.bool true)).run Tryz.prog w=.ok (.bool false) w:=bJ
 clear o0 hsl hf hin hk ha hb hab hL hw1 hw2 ho1 ho2
 go_enter Tryz.func160,Tryz.ntmps160
 go_upto_region 2 with (fail)
 rw[<-hx];clear hx;refine aC (Own w [(x,171,#[.int .i64 a,.int .i64 b]),(x+1,364,#[.int .i64 W,.int .i64 O])]) HD.out.1 ?_;intro w1 h1;have H1:=zh h1;have z0_0:=h1.c2 0;have z1_0:=h1.c2 1;clear h1;go_wp2_with fail;clear z0_0 z1_0;refine(pF w1 W O).mono ?_;rintro e w2 ⟨rfl,hb2⟩;have H2:=zh (H1.out.call hb2);clear hb2;go_wp2_with fail;refine(gH w2 W O HD.out.2.2.2.2.1).mono ?_;rintro e w3 ⟨rfl,hb3⟩;have h3:=H2.out.call hb3;have H3:=zh h3;have z0_0:=h3.c2 0;have z1_0:=h3.c2 1;clear hb3 h3;go_wp2_with fail;clear z0_0 z1_0;refine(mQ w3 a HD.out.2.2.2.2.2.1).mono ?_;rintro e w4 ⟨rfl,hb4⟩;have h4:=H3.out.call hb4;have H4:=zh h4;have z0_0:=h4.c2 0;have z1_0:=h4.c2 1;clear hb4 h4;go_wp2_with fail;clear z0_0 z1_0;refine(mQ w4 b HD.out.2.2.2.2.2.2.1).mono ?_;rintro e w5 ⟨rfl,hb5⟩;have h5:=H4.out.call hb5;have H5:=zh h5;have z0_0:=h5.c2 0;have z1_0:=h5.c2 1;clear hb5 h5;go_wp2_with fail;clear z0_0 z1_0
 go_loopw [11,60] (fun o i wr=>∃ k,k<=n/\i=.int .i64 (k:Nat)/\bB wr w.heap.size o (L.take k)/\Own w [(x,171,#[.int .i64 a,.int .i64 b]),(x+1,364,#[.int .i64 W,.int .i64 O])] wr) (fun _ i _=>n-(intOf i).toNat)
 case atStart=>exact ⟨0,Nat.zero_le _,rfl,bB.nil _ _,H5.out⟩
 case round=>
  obtain⟨k,hk,rfl,hr,hO⟩:=hrel;obtain⟨wo,rfl⟩:∃ wo,wo=wr:=⟨wr,rfl⟩
  by_cases hkn:k < n
  ·have dk:(k:Int) < (n:Int):=J
   have hs2:=HD.out.2.1.below hO.av;obtain⟨bb,off,rfl,hbl,hc⟩:=hs2 J;obtain⟨u0,u1,u2⟩:=hc k hkn;have hmem:L.getD k ⟨0,0,0⟩ ∈ L:=kg (by rw[HD.out.2.2.2.2.2.2.2];exact hkn);have htk:L.take (k+1)=L.take k ++ [L.getD k ⟨0,0,0⟩]:=by
    have hkl:k < L.length:=by rw[HD.out.2.2.2.2.2.2.2];exact hkn
    rw[List.take_add_one,List.getD_eq_getElem?_getD,List.getElem?_eq_getElem hkl];rfl
   have hik:=HD.out.2.2.2.1 _ hmem;obtain⟨p,hp⟩:∃ p,p=L.getD k ⟨0,0,0⟩:=⟨_,rfl⟩
   simp only at u0 u1 u2
   rw[<-hp] at u0 u1 u2 htk hik
   have d2:decide (a<=p.t)=true:=decide_eq_true hik.1;have d3:decide (p.t < b)=true:=decide_eq_true hik.2;obtain⟨A3,c3,hv3,-,-⟩:=aH hr;subst hv3;have H6:=zh (zN hr (zN hO htk));clear hr hO htk hs2 hc hbl hmem hik hp;go_upto_region 8 with (fail)
   obtain⟨y,hy⟩:∃ y,y=wo.heap.size:=⟨_,rfl⟩
   have oy:=H6.out.2.1.alloc hy 149 #[.int .i64 p.t,.int .i64 p.v,.int .i64 p.s]
   have by_:Below wo.heap.size wo (wo.alloc (.cells #[.int .i64 p.t,.int .i64 p.v,.int .i64 p.s] 149)):=(Below.refl _ _).alloc (Nat.le_refl _) _;rw[<-hy];refine aC (fun wx=>Own w [(x,171,#[.int .i64 a,.int .i64 b]),(x+1,364,#[.int .i64 W,.int .i64 O]),(y,149,#[.int .i64 p.t,.int .i64 p.v,.int .i64 p.s])] wx/\bB wx w.heap.size (.slice A3 (L.take k).length c3) (L.take k)) ⟨oy,H6.out.1.below by_⟩ ?_;clear oy by_ u0 u1 u2 hy;rintro w6 ⟨h6,hr6⟩;have z0_0:=h6.c2 0;have z1_0:=h6.c2 1;have z2_0:=h6.c3 2;obtain⟨w7,hw7⟩:∃ w7,w7=w6.alloc (.cells #[.int .i64 p.t,.int .i64 p.v,.int .i64 p.s] 149):=⟨_,rfl⟩
   have hb7:Below w6.heap.size w6 w7:=by rw[hw7];exact (Below.refl _ _).alloc (Nat.le_refl _) _
   have hbk:ay w7 w6.heap.size 149 #[.int .i64 p.t,.int .i64 p.v,.int .i64 p.s]:=by rw[hw7];exact ay.fresh _ _ _
   obtain⟨v8,w8,hrun,hr8,hg8,hx8⟩:=oM (ty:=186) (c:=1) (hr6.below hb7) hbk (by rw[List.length_take];omega) (Nat.le_trans h6.size hb7.size);rw[<-H6.out.2.2] at hr8
   have hb8:Below w7.heap.size w7 w8\/True:=.inr trivial;have ho8:Own w [(x,171,#[.int .i64 a,.int .i64 b]),(x+1,364,#[.int .i64 W,.int .i64 O])] w8:=by
    have h7:=(h6.take 2).call hb7;have hk8:Keeps (fun q=>(Value.slice A3 (L.take k).length c3).ownBlock=some q) w7 w8:=(Keeps.refl _ w7).grown hg8 (fun q hq _=>hq);have hr7:=hr6.below hb7;have hS:∀ q,(Value.slice A3 (L.take k).length c3).ownBlock=some q->w.heap.size<=q:=fun q hq=>(hr7.fB q hq).1
    exact⟨h7.av.trans (hk8.below h7.size (fun q hq hs=>by have:=hS q hs;omega)),fun bq hbq=>⟨(h7.blk bq hbq).1,(h7.blk bq hbq).2.keeps hk8 (fun hs=>by
     have:=own_ne hr7 (h7.blk bq hbq).2 (by
      simp only[List.mem_cons,List.not_mem_nil,or_false] at hbq
      rcases hbq with rfl | rfl
      ·show 149≠171;decide
      ·show 149≠364;decide)
     exact this hs)⟩,h7.nd⟩
   have H8:=zh (zN hr8 ho8);rw[hw7] at hrun
   clear hr6 hbk hb7 hg8 hx8 hr8 hb8 h6 hw7 ho8;go_wp2_with (at_builtin;refine wpList_append_run rfl (.tmp 76) (.tmp 78) rfl rfl rfl hrun ?_)
   go_roundw
   case rel=>exact ⟨k+1,J,by go_num,H8.out.1,H8.out.2⟩
   case measure=>simp[intOf]<;>omega
  ·obtain rfl:k=n:=J
   have htk:L.take k=L:=by rw[<-HD.out.2.2.2.2.2.2.2];exact List.take_length
   rw[htk] at hr
   obtain⟨A3,c3,hv3,-,-⟩:=aH hr;subst hv3;have H6:=zh (zN hr hO);have hll:=HD.out.2.2.2.2.2.2.2;rw[hll];have z0_0:=hO.c2 0;have z1_0:=hO.c2 1;clear hr hO htk;go_wp2_with fail;clear z0_0 z1_0;refine(pF wo W O).mono ?_;rintro e w7 ⟨rfl,hb7⟩;have hr7:=H6.out.1.below hb7;have H7:=zh (zN hr7 (H6.out.2.call hb7));clear hb7 hr7;go_wp2_with fail;refine(CJ w7 A3 k c3 (fun j=>L.getD j ⟨0,0,0⟩) W O (by rw[<-hll];exact H7.out.1.sl.mono (fun q hq=>(H7.out.1.fB q hq.2).2)) hn (fun j=>by
    rcases Nat.lt_or_ge j L.length with hj | hj
    ·exact HD.out.2.2.1 _ (kg hj)
    ·rw[List.getD_eq_getElem?_getD,List.getElem?_eq_none hj]
     exact⟨by unfold bI;decide,by unfold bI;decide,by unfold bI;decide⟩) (fun j hj=>by
    have:=HD.out.2.2.2.1 _ (kg (l:=L) (j:=j) J);have h1:=HD.out.2.2.2.2.2.1;have h2:=HD.out.2.2.2.2.2.2.1;unfold aP at *
    omega) HD.out.2.2.2.2.1).mono ?_
   rintro e w8 ⟨d,A8,c8,rfl,hr8,hb8,hB8⟩;have H8:=zh (zN (aN hr8 H7.out.2.av.size) (zN (V.aB H7.out.2.av hb8) hB8));clear hr8 hb8 hB8;go_wp2_with fail;go_ret2;exact⟨d,A8,c8,rfl,H8.out.1,H8.out.2.1,H8.out.2.2⟩
structure yC(fr tu a b:Int)(n:Nat)(f:Nat->Pt)(m:Nat)(q:Nat->bC): Prop where
 fa:fr<=a
 ab:a<=b
 bt:b<=tu
 pb:∀ j,j < n->b<=(f j).t
 pt:∀ j,j < n->(f j).t < tu
 rise:∀ j,j+1 < n->(f j).t < (f (j+1)).t
 ba:∀ j,j < m->a<=(q j).a
 bb:∀ j,j < m->(q j).b<=b
 side:∀ j,j+1 < m->(q j).b<=(q (j+1)).a
theorem Jw(w:World)(fn fr tu W O fi ti a b:Int)(A A2:Option Addr)(n c m c2:Nat)(f:Nat->Pt)(q:Nat->bC)(hsl:dN w (fun q=>q < w.heap.size) A n f)(hsb:jw w A2 m q)(hn:n<=70000)(hm:m<=70000)(hok:yC fr tu a b n f m q):
  Calls Tryz.prog 179 #[.agg (qW fn fr tu W O fi),.agg (dO ti a b),.slice A n c,.slice A2 m c2] w fun e w'=>e=.returned (.bool true)/\Below w.heap.size w w':=by
 obtain⟨x,hx⟩:∃ x,x=w.heap.size:=⟨_,rfl⟩
 have o0:=Own.eD w hx 43 (qW fn fr tu W O fi) 102 (dO ti a b);have d1:decide (fr<=a)=true:=decide_eq_true hok.fa;have d2:decide (a<=b)=true:=decide_eq_true hok.ab;have d3:decide (b<=tu)=true:=decide_eq_true hok.bt;have HD:=zh (zN o0 (zN hsl (zN hsb hok)));clear o0 hsl hsb hok;unfold qW dO
 go_enter Tryz.func179,Tryz.ntmps179
 go_upto_region 1 with (fail)
 rw[<-hx];clear hx;refine aC (Own w [(x,43,qW fn fr tu W O fi),(x+1,102,dO ti a b)]) HD.out.1 ?_;intro w1 h1;have H1:=zh h1;obtain⟨z0_0,z0_1,z0_2,z0_3,z0_4,z0_5,z0_6,z0_7,z0_8,z0_9,z0_10,z0_11⟩:=h1.c12 0;obtain⟨z1_0,z1_1,z1_2⟩:=h1.c3 1;clear h1;go_wp2_with fail;clear z0_0 z0_1 z0_2 z0_3 z0_4 z0_5 z0_6 z0_7 z0_8 z0_9 z0_10 z0_11 z1_0 z1_1 z1_2
 go_loopw [9,37] (fun ok i wr=>∃ k:Nat,k<=n/\i=.int .i64 (k:Nat)/\ok=.bool true/\Own w [(x,43,qW fn fr tu W O fi),(x+1,102,dO ti a b)] wr) (fun _ i _=>n-(intOf i).toNat)
 case atStart=>exact ⟨0,Nat.zero_le _,rfl,rfl,H1.out⟩
 case round=>
  obtain⟨k,hk,rfl,rfl,hO⟩:=hrel
  by_cases hlt:k < n
  ·have hki:(k:Int) < (n:Int):=J
   obtain⟨wo,rfl⟩:∃ wo,wo=wr:=⟨wr,rfl⟩
   have hs2:=HD.out.2.1.below hO.av;have hxl:x+1 < wo.heap.size:=hO.lt (x+1,102,dO ti a b) (List.mem_cons_of_mem _ (List.mem_singleton.2 rfl));obtain⟨bb,off,rfl,hbl,hc⟩:=hs2 J;obtain⟨u0,u1,u2⟩:=hc k hlt;have hp1:=HD.out.2.2.2.pb k hlt;have hp2:=HD.out.2.2.2.pt k hlt;have hfa:=HD.out.2.2.2.fa;have hab:=HD.out.2.2.2.ab;have hpr:∀ k',k=k'+1->(f k').t < (f k).t/\wo.cell? ⟨bb,off+k'*3,none⟩=some (.int .i64 (f k').t):=fun k' e=>by
    subst e;exact⟨HD.out.2.2.2.rise k' hlt,(hc k' J).1⟩
   obtain⟨p,hp⟩:∃ p,p=(f k).t:=⟨_,rfl⟩
   obtain⟨pv,hpv⟩:∃ p,p=(f k).v:=⟨_,rfl⟩
   obtain⟨ps,hps⟩:∃ p,p=(f k).s:=⟨_,rfl⟩
   rw[<-hp] at u0 hp1 hp2 hpr
   rw[<-hpv] at u1
   rw[<-hps] at u2
   have e1:decide (fr<=p)=true:=decide_eq_true J;have e2:decide (p < a)=false:=decide_eq_false J;have e3:decide (b<=p)=true:=decide_eq_true J;have e4:decide (p < tu)=true:=decide_eq_true hp2;have hbw:bb < wo.heap.size:=Nat.lt_of_lt_of_le hbl hO.av.size;have HB:=zh (zN hO (zN hpr hbw));clear hO hs2 hc hpr hbl hp hpv hps hp1 hp2 hfa hab hbw;go_upto_region 5 with (fail)
   obtain⟨y,hy⟩:∃ y,y=wo.heap.size:=⟨_,rfl⟩
   have oy:=Own.bn wo hy 149 #[.int .i64 p,.int .i64 pv,.int .i64 ps]
   rw[<-hy];refine aC (Own wo [(y,149,#[.int .i64 p,.int .i64 pv,.int .i64 ps])]) oy ?_;clear oy u0 u1 u2 hy;intro w5 h5;have hS:=h5.drew;have H5:=zh h5;clear h5;have hS:(Own wo [(y,149,#[.int .i64 p,.int .i64 pv,.int .i64 ps])]) (w5.drew):=hS;refine aA (Own wo [(y,149,#[.int .i64 p,.int .i64 pv,.int .i64 ps])]) (by kernel_rfl) hS ?_;refine zB [0,1,2,3,4,5,6,7,8,9,10,11,12,13,14,15,16,17,18,19,20,21,22,23,24,25] ?_;iterate 26 (refine zV ?_ ?_ hS ?_;rotate_left;(intro w' hSw;have v0:=hSw.c 0 0;have v4:=(hSw.av.cell (p:=⟨x,4,none⟩) (show x < wo.heap.size by omega)).trans (HB.out.1.cell 0 4 rfl rfl);have v5:=(hSw.av.cell (p:=⟨x,5,none⟩) (show x < wo.heap.size by omega)).trans (HB.out.1.cell 0 5 rfl rfl);have c1:=(hSw.av.cell (p:=⟨x+1,1,none⟩) hxl).trans (HB.out.1.cell 1 1 rfl rfl);have c2:=(hSw.av.cell (p:=⟨x+1,2,none⟩) hxl).trans (HB.out.1.cell 1 2 rfl rfl);go_simp<;>with_reducible rfl);try simp only[zP])
   refine zE ?_;refine zD ?_;try simp only[zP]
   clear hS;go_upto_region 6 with (fail)
   have H6:=zh H5.out.drew;have hS:=H6.out.drew
   cases k with
   | zero=>
    have hS:(Own wo [(y,149,#[.int .i64 p,.int .i64 pv,.int .i64 ps])]) (w5.drew.drew):=hS;refine aA (Own wo [(y,149,#[.int .i64 p,.int .i64 pv,.int .i64 ps])]) (by kernel_rfl) hS ?_;refine zB [0,1,2,3,4,5,6,7,8,9,10] ?_;iterate 11 (refine zv hS ?_;try simp only[zP])
    refine zE ?_;refine zB [11,12,13,14,15,16,17,18,19] ?_;iterate 9 (refine zW hS ?_;try simp only[zP])
    refine zE ?_;refine zB [20,21,22] ?_;iterate 3 (refine zv hS ?_;try simp only[zP])
    refine zE ?_;refine zD ?_;try simp only[zP]
    clear hS;go_wp2_with fail
    go_roundw
    case rel=>exact ⟨0+1,J,by first | rfl | go_num,rfl,HB.out.1.call H6.out.drew.av⟩
    case measure=>simp[intOf]<;>omega
   | succ k'=>
    obtain⟨hr1,hr2⟩:=HB.out.2.1 k' rfl;obtain⟨pp,hpp⟩:∃ z,z=(f k').t:=⟨_,rfl⟩
    rw[<-hpp] at hr1 hr2
    have g0:(((k':Int)+1) == 0)=false:=by simp;omega
    have g1:IntKind.i64.wrap ((k':Int))=(k':Int):=by simp only[IntKind.wrap_i64];omega
    have g2:(0:Int)<=(k':Int):=J;have g3:(k':Int) < (n:Int):=J;have g4:decide (pp < p)=true:=decide_eq_true hr1;have HR:=zh hr2;clear hr1 hr2 hpp;have hS:(Own wo [(y,149,#[.int .i64 p,.int .i64 pv,.int .i64 ps])]) (w5.drew.drew):=hS;refine aA (Own wo [(y,149,#[.int .i64 p,.int .i64 pv,.int .i64 ps])]) (by kernel_rfl) hS ?_;refine zB [0,1,2,3,4,5,6,7,8,9,10,11,12,13,14,15,16,17,18,19,20,21,22] ?_;iterate 23 (refine zV ?_ ?_ hS ?_;rotate_left;(intro w' hSw;have v0:=hSw.c 0 0;have pc:=(hSw.av.cell (p:=⟨bb,off+k'*3,none⟩) HB.out.2.2).trans HR.out;go_simp<;>with_reducible rfl);try simp only[zP])
    refine zE ?_;refine zD ?_;try simp only[zP]
    clear hS;go_wp2_with fail
    go_roundw
    case rel=>exact ⟨k'+1+1,J,by first | rfl | go_num,rfl,HB.out.1.call H6.out.drew.av⟩
    case measure=>simp[intOf]<;>omega
  ·obtain rfl:k=n:=J
   have HO2:=zh hO;clear hO;go_wp2_with fail
   go_loopw [9,91] (fun ok i wr=>∃ k:Nat,k<=m/\i=.int .i64 (k:Nat)/\ok=.bool true/\Own w [(x,43,qW fn fr tu W O fi),(x+1,102,dO ti a b)] wr) (fun _ i _=>m-(intOf i).toNat)
   case atStart=>exact ⟨0,Nat.zero_le _,rfl,rfl,HO2.out⟩
   case round=>
    obtain⟨j,hj,rfl,rfl,hO⟩:=hrel;obtain⟨wo,rfl⟩:∃ wo,wo=wr:=⟨wr,rfl⟩
    by_cases hlt:j < m
    ·have hki:(j:Int) < (m:Int):=J
     have hxl:x+1 < wo.heap.size:=hO.lt (x+1,102,dO ti a b) (List.mem_cons_of_mem _ (List.mem_singleton.2 rfl));obtain⟨bb,rfl,hbl,hc⟩:=(HD.out.2.2.1.below hO.av) J;have hck:=hc j hlt;have hp1:=HD.out.2.2.2.ba j hlt;have hp2:=HD.out.2.2.2.bb j hlt;have hpr:∀ k',j=k'+1->(q k').b<=(q j).a/\wo.cell? ⟨bb,k'*13+1,none⟩=some (.int .i64 (q k').b):=fun k' e=>by
      subst e;exact⟨HD.out.2.2.2.side k' hlt,hc k' J 1 _ rfl⟩
     obtain⟨p,hpe⟩:∃ p,p=q j:=⟨_,rfl⟩
     rw[<-hpe] at hck hp1 hp2 hpr
     obtain⟨ba,be,yy⟩:=p;have u0:=hck 0 _ rfl;have u1:=hck 1 _ rfl;have u2:=hck 2 _ rfl;have u3:=hck 3 _ rfl;have u4:=hck 4 _ rfl;have u5:=hck 5 _ rfl;have u6:=hck 6 _ rfl;have u7:=hck 7 _ rfl;have u8:=hck 8 _ rfl;have u9:=hck 9 _ rfl;have u10:=hck 10 _ rfl;have u11:=hck 11 _ rfl;have u12:=hck 12 _ rfl;have e1:decide (a<=ba)=true:=decide_eq_true hp1;have e2:decide (be<=b)=true:=decide_eq_true hp2;have HB:=zh (zN hO (zN hpr hbl));clear hO hck hc hpr hbl hp1 hp2 hpe;simp only[Nat.add_zero] at u0
     go_upto_region 11 with (fail)
     obtain⟨y,hy⟩:∃ y,y=wo.heap.size:=⟨_,rfl⟩
     have oy:=Own.bn wo hy 197 #[.int .i64 ba,.int .i64 be,.int .i64 yy.n,.int .i64 (aj yy.s),.int .u64 (au yy.s),.int .i64 yy.lo,.int .i64 yy.hi,.int .i64 yy.f.t,.int .i64 yy.f.v,.int .i64 yy.f.s,.int .i64 yy.l.t,.int .i64 yy.l.v,.int .i64 yy.l.s]
     rw[<-hy];refine aC (Own wo [(y,197,#[.int .i64 ba,.int .i64 be,.int .i64 yy.n,.int .i64 (aj yy.s),.int .u64 (au yy.s),.int .i64 yy.lo,.int .i64 yy.hi,.int .i64 yy.f.t,.int .i64 yy.f.v,.int .i64 yy.f.s,.int .i64 yy.l.t,.int .i64 yy.l.v,.int .i64 yy.l.s])]) oy ?_;clear oy u0 u1 u2 u3 u4 u5 u6 u7 u8 u9 u10 u11 u12 hy;intro w5 h5;have hS:=h5.drew;have H5:=zh h5;clear h5
     cases j with
     | zero=>
      have hS:(Own wo [(y,197,#[.int .i64 ba,.int .i64 be,.int .i64 yy.n,.int .i64 (aj yy.s),.int .u64 (au yy.s),.int .i64 yy.lo,.int .i64 yy.hi,.int .i64 yy.f.t,.int .i64 yy.f.v,.int .i64 yy.f.s,.int .i64 yy.l.t,.int .i64 yy.l.v,.int .i64 yy.l.s])]) (w5.drew):=hS;refine aA (Own wo [(y,197,#[.int .i64 ba,.int .i64 be,.int .i64 yy.n,.int .i64 (aj yy.s),.int .u64 (au yy.s),.int .i64 yy.lo,.int .i64 yy.hi,.int .i64 yy.f.t,.int .i64 yy.f.v,.int .i64 yy.f.s,.int .i64 yy.l.t,.int .i64 yy.l.v,.int .i64 yy.l.s])]) (by kernel_rfl) hS ?_;refine zB [0,1,2,3,4,5,6,7,8,9,10,11,12,13,14,15,16,17,18,19,20] ?_;iterate 21 (refine zV ?_ ?_ hS ?_;rotate_left;(intro w' hSw;obtain⟨v0,v1⟩:=hSw.c2 0;have c1:=(hSw.av.cell (p:=⟨x+1,1,none⟩) hxl).trans (HB.out.1.cell 1 1 rfl rfl);have c2:=(hSw.av.cell (p:=⟨x+1,2,none⟩) hxl).trans (HB.out.1.cell 1 2 rfl rfl);go_simp<;>with_reducible rfl);try simp only[zP])
      refine zE ?_;refine zB [21,22,23,24,25,26,27,28,29,30,31] ?_;iterate 11 (refine zW hS ?_;try simp only[zP])
      refine zE ?_;refine zB [32,33,34] ?_;iterate 3 (refine zv hS ?_;try simp only[zP])
      refine zE ?_;refine zD ?_;try simp only[zP]
      clear hS;go_wp2_with fail
      go_roundw
      case rel=>exact ⟨0+1,J,by first | rfl | go_num,rfl,HB.out.1.call H5.out.drew.av⟩
      case measure=>simp[intOf]<;>omega
     | succ k'=>
      obtain⟨hr1,hr2⟩:=HB.out.2.1 k' rfl;obtain⟨pp,hpp⟩:∃ z,z=(q k').b:=⟨_,rfl⟩
      rw[<-hpp] at hr1 hr2
      have g0:(((k':Int)+1) == 0)=false:=by simp;omega
      have g1:IntKind.i64.wrap ((k':Int))=(k':Int):=by simp only[IntKind.wrap_i64];omega
      have g2:(0:Int)<=(k':Int):=J;have g3:(k':Int) < (m:Int):=J;have g4:decide (pp<=ba)=true:=decide_eq_true hr1;have HR:=zh hr2;clear hr1 hr2 hpp;have hS:(Own wo [(y,197,#[.int .i64 ba,.int .i64 be,.int .i64 yy.n,.int .i64 (aj yy.s),.int .u64 (au yy.s),.int .i64 yy.lo,.int .i64 yy.hi,.int .i64 yy.f.t,.int .i64 yy.f.v,.int .i64 yy.f.s,.int .i64 yy.l.t,.int .i64 yy.l.v,.int .i64 yy.l.s])]) (w5.drew):=hS;refine aA (Own wo [(y,197,#[.int .i64 ba,.int .i64 be,.int .i64 yy.n,.int .i64 (aj yy.s),.int .u64 (au yy.s),.int .i64 yy.lo,.int .i64 yy.hi,.int .i64 yy.f.t,.int .i64 yy.f.v,.int .i64 yy.f.s,.int .i64 yy.l.t,.int .i64 yy.l.v,.int .i64 yy.l.s])]) (by kernel_rfl) hS ?_;refine zB [0,1,2,3,4,5,6,7,8,9,10,11,12,13,14,15,16,17,18,19,20,21,22,23,24,25,26,27,28,29,30,31,32,33,34] ?_;iterate 35 (refine zV ?_ ?_ hS ?_;rotate_left;(intro w' hSw;obtain⟨v0,v1⟩:=hSw.c2 0;have c1:=(hSw.av.cell (p:=⟨x+1,1,none⟩) hxl).trans (HB.out.1.cell 1 1 rfl rfl);have c2:=(hSw.av.cell (p:=⟨x+1,2,none⟩) hxl).trans (HB.out.1.cell 1 2 rfl rfl);have pc:=(hSw.av.cell (p:=⟨bb,k'*13+1,none⟩) HB.out.2.2).trans HR.out;go_simp<;>with_reducible rfl);try simp only[zP])
      refine zE ?_;refine zD ?_;try simp only[zP]
      clear hS;go_wp2_with fail
      go_roundw
      case rel=>exact ⟨k'+1+1,J,by first | rfl | go_num,rfl,HB.out.1.call H5.out.drew.av⟩
      case measure=>simp[intOf]<;>omega
    ·obtain rfl:j=m:=J
     have HO3:=zh hO;clear hO;go_wp2_with fail;go_ret;exact⟨rfl,HO3.out.av⟩
theorem oq(w:World)(p q:bC)(hp:aP p.a)(hq:aP q.a)(hpq:q.a<=p.a):
  Calls Tryz.prog 183 #[.agg #[Z p.a,Z p.b,Z p.x.n,Z (aj p.x.s),.int .u64 (au p.x.s),Z p.x.lo,Z p.x.hi,Z p.x.f.t,Z p.x.f.v,Z p.x.f.s,Z p.x.l.t,Z p.x.l.v,Z p.x.l.s],.agg #[Z q.a,Z q.b,Z q.x.n,Z (aj q.x.s),.int .u64 (au q.x.s),Z q.x.lo,Z q.x.hi,Z q.x.f.t,Z q.x.f.v,Z q.x.f.s,Z q.x.l.t,Z q.x.l.v,Z q.x.l.s]] w fun e w'=>e=.returned (Z (p.a-q.a))/\Below w.heap.size w w':=by
 obtain⟨x,hx⟩:∃ x,x=w.heap.size:=⟨_,rfl⟩
 have o0:=Own.eD w hx 197 #[Z p.a,Z p.b,Z p.x.n,Z (aj p.x.s),.int .u64 (au p.x.s),Z p.x.lo,Z p.x.hi,Z p.x.f.t,Z p.x.f.v,Z p.x.f.s,Z p.x.l.t,Z p.x.l.v,Z p.x.l.s] 197 #[Z q.a,Z q.b,Z q.x.n,Z (aj q.x.s),.int .u64 (au q.x.s),Z q.x.lo,Z q.x.hi,Z q.x.f.t,Z q.x.f.v,Z q.x.f.s,Z q.x.l.t,Z q.x.l.v,Z q.x.l.s]
 have e1:IntKind.i64.wrap (p.a-q.a)=p.a-q.a:=by
  have h1:=hp.1;have h2:=hp.2;have h3:=hq.1;have h4:=hq.2;simp only[IntKind.wrap_i64];omega
 have HO:=zh o0;clear o0 hp hq hpq
 go_enter Tryz.func183,Tryz.ntmps183
 go_upto_region 1 with (fail)
 rw[<-hx];clear hx;refine aC (Own w [(x,197,#[Z p.a,Z p.b,Z p.x.n,Z (aj p.x.s),.int .u64 (au p.x.s),Z p.x.lo,Z p.x.hi,Z p.x.f.t,Z p.x.f.v,Z p.x.f.s,Z p.x.l.t,Z p.x.l.v,Z p.x.l.s]),(x+1,197,#[Z q.a,Z q.b,Z q.x.n,Z (aj q.x.s),.int .u64 (au q.x.s),Z q.x.lo,Z q.x.hi,Z q.x.f.t,Z q.x.f.v,Z q.x.f.s,Z q.x.l.t,Z q.x.l.v,Z q.x.l.s])]) HO.out ?_;intro w1 h1;have z0:=h1.c 0 0;have z1:=h1.c 1 0;have H1:=zh h1;clear h1;go_wp2_with fail;go_ret;exact⟨rfl,H1.out.av⟩
structure sU(n:Nat)(q:Nat->bC): Prop where
 t:∀ i,i < n->aP (q i).a
 le:∀ i j,i<=j->j < n->(q i).a<=(q j).a
theorem BP(w:World)(A:Option Addr)(n c:Nat)(q:Nat->bC)(a b:Nat)(hsl:jw w A n q)(hr:sU n q)(hb:b<=n)(hab:a<=b)(hn:n<=100000):
  Calls Tryz.prog 320 #[.slice A n c,.int .i64 (a:Nat),.int .i64 (b:Nat),.func (.func 183) #[] #[]] w fun e w'=>e=.returned (.tuple #[])/\Below w.heap.size w w':=by
 have HD:=zh (zN hsl hr);clear hsl hr
 go_enter Tryz.func320,Tryz.ntmps320
 go_wp2_with fail
 go_loopw [8] (fun i wr=>∃ k:Nat,a<=k/\k<=b/\i=.int .i64 ((k:Int)+1)/\Below w.heap.size w wr) (fun i _=>b+1-(intOf i).toNat)
 case atStart=>exact ⟨a,Nat.le_refl _,hab,rfl,Below.refl _ _⟩
 case round=>
  obtain⟨k,hk1,hk2,rfl,hbel⟩:=hrel
  by_cases hlt:k+1 < b
  ·have d1:(k:Int)+1 < (b:Int):=J
   obtain⟨wo,rfl⟩:∃ wo,wo=wr:=⟨wr,rfl⟩
   have HB:=zh hbel;clear hbel;go_wp2_with fail
   go_loopw [9] (fun j wr=>j=.int .i64 ((k:Int)+1)/\Below w.heap.size w wr) (fun _ _=>0)
   case atStart=>exact ⟨rfl,HB.out⟩
   case round=>
    obtain⟨rfl,hb2⟩:=hrel;obtain⟨bb,rfl,hbb,hc⟩:=(HD.out.1.below hb2) J;have hc1:=hc (k+1) J;have hc0:=hc k J;have t1:=HD.out.2.t (k+1) J;have t0:=HD.out.2.t k J;have hle:=HD.out.2.le k (k+1) J J;obtain⟨p,hp⟩:∃ p,p=q (k+1):=⟨_,rfl⟩
    obtain⟨r,hr⟩:∃ p,p=q k:=⟨_,rfl⟩
    rw[<-hp] at hc1 t1 hle
    rw[<-hr] at hc0 t0 hle
    have hS:=hb2.drew;have HB2:=zh (zN hb2 (zN t1 (zN t0 (zN hc1 (zN hc0 hbb)))));have ww:=wr.drew;have da:decide ((a:Int) < (k:Int)+1)=true:=decide_eq_true J;have g0:(0:Int)<=(k:Int):=J;have g1:(k:Int) < (n:Int):=J;have g2:(0:Int)<=(k:Int)+1:=J;have g3:(k:Int)+1 < (n:Int):=J;have g4:IntKind.i64.wrap ((k:Int))=(k:Int):=by simp only[IntKind.wrap_i64];omega
    have dle:decide (p.a-r.a < 0)=false:=decide_eq_false J;clear hb2 hc hc0 hc1 hp hr t0 t1 hbb;go_upto_region 4 with (fail)
    have HC:=zh (fun (w':World) (hb:Below w.heap.size w w') (i:Nat) (u:Value) (h:w'.cell? ⟨bb,i,none⟩=some u)=>h);have hS:(Below wr.heap.size wr) (wr.drew):=(Below.refl _ _).drew;refine aA (Below wr.heap.size wr) (by kernel_rfl) hS ?_;refine zB [0,1,2,3,4,5,6,7] ?_;iterate 8 (refine zv hS ?_;try simp only[zP])
    refine zE ?_;refine zT 8 ?_ ?_ hS ?_;rotate_left
    ·(intro w' hSw;have hx:=fun i v hv=>(hSw.cell (p:=⟨bb,(k+1)*13+i,none⟩) HB2.out.2.2.2.2.2).trans (HB2.out.2.2.2.1 i v hv);have v0:=hx 0 _ rfl;have v1:=hx 1 _ rfl;have v2:=hx 2 _ rfl;have v3:=hx 3 _ rfl;have v4:=hx 4 _ rfl;have v5:=hx 5 _ rfl;have v6:=hx 6 _ rfl;have v7:=hx 7 _ rfl;have v8:=hx 8 _ rfl;have v9:=hx 9 _ rfl;have v10:=hx 10 _ rfl;have v11:=hx 11 _ rfl;have v12:=hx 12 _ rfl;clear hx;simp only[Nat.add_zero] at v0;go_simp<;>with_reducible rfl)
    try simp only[zP]
    refine zB [9,10,11,12] ?_;iterate 4 (refine zv hS ?_;try simp only[zP])
    refine zE ?_;refine zT 13 ?_ ?_ hS ?_;rotate_left
    ·(intro w' hSw;have hx:=fun i v hv=>(hSw.cell (p:=⟨bb,k*13+i,none⟩) HB2.out.2.2.2.2.2).trans (HB2.out.2.2.2.2.1 i v hv);have v0:=hx 0 _ rfl;have v1:=hx 1 _ rfl;have v2:=hx 2 _ rfl;have v3:=hx 3 _ rfl;have v4:=hx 4 _ rfl;have v5:=hx 5 _ rfl;have v6:=hx 6 _ rfl;have v7:=hx 7 _ rfl;have v8:=hx 8 _ rfl;have v9:=hx 9 _ rfl;have v10:=hx 10 _ rfl;have v11:=hx 11 _ rfl;have v12:=hx 12 _ rfl;clear hx;simp only[Nat.add_zero] at v0;go_simp<;>with_reducible rfl)
    try simp only[zP]
    refine zC 14 fun K HK=>?_
    go_simp;refine(oq wr.drew p r HB2.out.2.1 HB2.out.2.2.1 J).mono ?_;rintro e w5 ⟨rfl,hb5⟩;have H5:=zh (zN (V.aB (Below.refl wr.heap.size wr).drew hb5) (V.aB HB2.out.1 (V.aB (Below.refl wr.heap.size wr).drew hb5)));clear hb5;go_wp2_with fail;refine HK.out.zt (Below wr.heap.size wr) (fun _ h=>h) (H5.out.1) ?_;clear HK hS;intro hS;try simp only[zP]
    refine zB [15,16] ?_;iterate 2 (refine zv hS ?_;try simp only[zP])
    refine zE ?_;refine zD ?_;try simp only[zP]
    clear hS;go_wp2_with fail
    go_roundw
    case rel=>exact ⟨k+1,J,J,by first | rfl | go_num,H5.out.2⟩
    case measure=>simp[intOf]<;>omega
  ·have d1:decide ((k:Int)+1 < (b:Int))=false:=decide_eq_false J
   have HB:=zh hbel;clear hbel;go_wp2_with fail;refine bodyPost_end (v:=.tuple #[]) (by simp[results,Tryz.results320,go_sem]) rfl ?_;exact⟨rfl,HB.out⟩
theorem EA(A:Option Addr)(n c:Nat)(q:Nat->bC)(hr:sU n q)(hn:n<=100000): ∀ (N:Nat) (w:World) (a m b:Nat),b-a<=N->a < m->m < b->b<=n->jw w A n q->
  Calls Tryz.prog 321 #[.slice A n c,.int .i64 (a:Nat),.int .i64 (m:Nat),.int .i64 (b:Nat),.func (.func 183) #[] #[]] w fun e w'=>e=.returned (.tuple #[])/\Below w.heap.size w w':=by
 intro N
 induction N with
 | zero=>intro w a m b h1 h2 h3 h4 hsl;omega
 | succ N ih=>
 intro w a m b hN ham hmb hbn hsl;have HD:=zh (zN hsl (zN hr ih));clear hsl hr ih
 by_cases c1:m-a=1
 ·have HM:=zh c1
  have g1:((m:Int)-(a:Int) == 1)=true:=by simp;omega
  have g2:IntKind.i64.wrap ((m:Int)-(a:Int))=(m:Int)-(a:Int):=by simp only[IntKind.wrap_i64];omega
  clear c1
  go_enter Tryz.func321,Tryz.ntmps321
  go_wp2_with fail
  go_loopw [10,11] (fun i j wr=>i=.int .i64 (m:Nat)/\(∃ h:Nat,m<=h/\h<=b/\j=.int .i64 (h:Nat))/\Below w.heap.size w wr) (fun _ j _=>(intOf j).toNat-m)
  case atStart=>exact ⟨rfl,⟨b,J,J,rfl⟩,Below.refl _ _⟩
  case round=>
   obtain⟨rfl,⟨h,h1,h2,rfl⟩,hb⟩:=hrel
   by_cases hlt:m < h
   ·have d1:(m:Int) < (h:Int):=J
    obtain⟨z,hz⟩:∃ z:Nat,((m:Int)+(h:Int)) / 2=(z:Int):=⟨(m+h) / 2,J⟩
    have z1:m<=z:=J;have z2:z < h:=J;have HZ:=zh HM.out;obtain⟨bb,rfl,hbb,hc⟩:=(HD.out.1.below hb) J;have hc1:=hc z J;have hc0:=hc a J;have t1:=HD.out.2.1.t z J;have t0:=HD.out.2.1.t a J;have hle:=HD.out.2.1.le a z J J;obtain⟨p,hp⟩:∃ p,p=q z:=⟨_,rfl⟩
    obtain⟨r,hr⟩:∃ p,p=q a:=⟨_,rfl⟩
    rw[<-hp] at hc1 t1 hle
    rw[<-hr] at hc0 t0 hle
    have hS:=hb.drew;have HB2:=zh (zN hb (zN t1 (zN t0 (zN hc1 (zN hc0 (zN hbb hle))))));have dle:decide (p.a-r.a < 0)=false:=decide_eq_false J;clear hb hc hc0 hc1 hp hr t0 t1 hbb hle hS;have gz0:(0:Int)<=(z:Int):=J;have gz1:(z:Int) < (n:Int):=J;have ga0:(0:Int)<=(a:Int):=J;have ga1:(a:Int) < (n:Int):=J;go_upto_region 5 with (fail)
    have hS:(Below wr.heap.size wr) (wr.drew):=(Below.refl _ _).drew;refine aA (Below wr.heap.size wr) (by kernel_rfl) hS ?_;refine zB [0,1,2,3] ?_;iterate 4 (refine zv hS ?_;try simp only[zP])
    refine zE ?_;refine zT 4 ?_ ?_ hS ?_;rotate_left
    ·(intro w' hSw;have hx:=fun i v hv=>(hSw.cell (p:=⟨bb,z*13+i,none⟩) HB2.out.2.2.2.2.2.1).trans (HB2.out.2.2.2.1 i v hv);have v0:=hx 0 _ rfl;have v1:=hx 1 _ rfl;have v2:=hx 2 _ rfl;have v3:=hx 3 _ rfl;have v4:=hx 4 _ rfl;have v5:=hx 5 _ rfl;have v6:=hx 6 _ rfl;have v7:=hx 7 _ rfl;have v8:=hx 8 _ rfl;have v9:=hx 9 _ rfl;have v10:=hx 10 _ rfl;have v11:=hx 11 _ rfl;have v12:=hx 12 _ rfl;clear hx;simp only[Nat.add_zero] at v0;go_simp<;>with_reducible rfl)
    try simp only[zP]
    refine zB [5,6,7] ?_;iterate 3 (refine zv hS ?_;try simp only[zP])
    refine zE ?_;refine zT 8 ?_ ?_ hS ?_;rotate_left
    ·(intro w' hSw;have hx:=fun i v hv=>(hSw.cell (p:=⟨bb,a*13+i,none⟩) HB2.out.2.2.2.2.2.1).trans (HB2.out.2.2.2.2.1 i v hv);have v0:=hx 0 _ rfl;have v1:=hx 1 _ rfl;have v2:=hx 2 _ rfl;have v3:=hx 3 _ rfl;have v4:=hx 4 _ rfl;have v5:=hx 5 _ rfl;have v6:=hx 6 _ rfl;have v7:=hx 7 _ rfl;have v8:=hx 8 _ rfl;have v9:=hx 9 _ rfl;have v10:=hx 10 _ rfl;have v11:=hx 11 _ rfl;have v12:=hx 12 _ rfl;clear hx;simp only[Nat.add_zero] at v0;go_simp<;>with_reducible rfl)
    try simp only[zP]
    refine zC 9 fun K HK=>?_
    go_simp;refine(oq wr.drew p r HB2.out.2.1 HB2.out.2.2.1 (by have:=HB2.out.2.2.2.2.2.2;omega)).mono ?_;rintro e w5 ⟨rfl,hb5⟩;have H5:=zh (zN (V.aB (Below.refl wr.heap.size wr).drew hb5) (V.aB HB2.out.1 (V.aB (Below.refl wr.heap.size wr).drew hb5)));clear hb5;go_wp2_with fail;refine HK.out.zt (Below wr.heap.size wr) (fun _ h=>h) (H5.out.1) ?_;clear HK hS;intro hS;try simp only[zP]
    refine zt 10 hS ?_;try simp only[zP]
    refine zD ?_;try simp only[zP]
    clear hS;go_wp2_with fail
    go_roundw
    case rel=>exact ⟨rfl,⟨z,z1,J,rfl⟩,H5.out.2⟩
    case measure=>simp[intOf]<;>omega
   ·obtain rfl:h=m:=J
    have g3:IntKind.i64.wrap ((h:Int)-1)=(h:Int)-1:=by simp only[IntKind.wrap_i64];omega
    have g4:decide ((a:Int) < (h:Int)-1)=false:=decide_eq_false (by have:=HM.out;omega);have HB:=zh hb;clear hb;go_wp2_with fail
    go_loopw [13] (fun k wr=>k=.int .i64 (a:Nat)/\Below w.heap.size w wr) (fun _ _=>0)
    case atStart=>exact ⟨rfl,HB.out⟩
    case round=>
     obtain⟨rfl,hb⟩:=hrel;have HB3:=zh hb;clear hb;go_wp2_with fail;refine bodyPost_ret (v:=.tuple #[]) (by simp[results,Tryz.results321,go_sem]) rfl ?_;exact⟨rfl,HB3.out⟩
 ·have g1:((m:Int)-(a:Int) == 1)=false:=by simp;omega
  have g2:IntKind.i64.wrap ((m:Int)-(a:Int))=(m:Int)-(a:Int):=by simp only[IntKind.wrap_i64];omega
  have g5:IntKind.i64.wrap ((b:Int)-(m:Int))=(b:Int)-(m:Int):=by simp only[IntKind.wrap_i64];omega
  have HM:=zh c1;clear c1
  by_cases c2:b-m=1
  ·have HM2:=zh c2
   have g6:((b:Int)-(m:Int) == 1)=true:=by simp;omega
   clear c2
   go_enter Tryz.func321,Tryz.ntmps321
   go_wp2_with fail
   go_loopw [14,15] (fun i j wr=>j=.int .i64 (m:Nat)/\(∃ h:Nat,a<=h/\h<=m/\i=.int .i64 (h:Nat))/\Below w.heap.size w wr) (fun i _ _=>m-(intOf i).toNat)
   case atStart=>exact ⟨rfl,⟨a,J,J,rfl⟩,Below.refl _ _⟩
   case round=>
    obtain⟨rfl,⟨h,h1,h2,rfl⟩,hb⟩:=hrel
    by_cases hlt:h < m
    ·have d1:(h:Int) < (m:Int):=J
     obtain⟨z,hz⟩:∃ z:Nat,((h:Int)+(m:Int)) / 2=(z:Int):=⟨(h+m) / 2,J⟩
     have z1:h<=z:=J;have z2:z < m:=J;obtain⟨bb,rfl,hbb,hc⟩:=(HD.out.1.below hb) J;have hc1:=hc m J;have hc0:=hc z J;have t1:=HD.out.2.1.t m J;have t0:=HD.out.2.1.t z J;have hle:=HD.out.2.1.le z m J J;obtain⟨p,hp⟩:∃ p,p=q m:=⟨_,rfl⟩
     obtain⟨r,hr⟩:∃ p,p=q z:=⟨_,rfl⟩
     rw[<-hp] at hc1 t1 hle
     rw[<-hr] at hc0 t0 hle
     have hS:=hb.drew;have HB2:=zh (zN hb (zN t1 (zN t0 (zN hc1 (zN hc0 (zN hbb hle))))));have dle:decide (p.a-r.a < 0)=false:=decide_eq_false J;clear hb hc hc0 hc1 hp hr t0 t1 hbb hle hS;have gz0:(0:Int)<=(z:Int):=J;have gz1:(z:Int) < (n:Int):=J;have ga0:(0:Int)<=(m:Int):=J;have ga1:(m:Int) < (n:Int):=J;have nf:∀ w:World,(Op.unary .not (.bool false)).run Tryz.prog w=.ok (.bool true) w:=eP
     go_upto_region 17 with (fail)
     have hS:(Below wr.heap.size wr) (wr.drew):=(Below.refl _ _).drew;refine aA (Below wr.heap.size wr) (by kernel_rfl) hS ?_;refine zB [0,1,2,3] ?_;iterate 4 (refine zv hS ?_;try simp only[zP])
     refine zE ?_;refine zT 4 ?_ ?_ hS ?_;rotate_left
     ·(intro w' hSw;have hx:=fun i v hv=>(hSw.cell (p:=⟨bb,m*13+i,none⟩) HB2.out.2.2.2.2.2.1).trans (HB2.out.2.2.2.1 i v hv);have v0:=hx 0 _ rfl;have v1:=hx 1 _ rfl;have v2:=hx 2 _ rfl;have v3:=hx 3 _ rfl;have v4:=hx 4 _ rfl;have v5:=hx 5 _ rfl;have v6:=hx 6 _ rfl;have v7:=hx 7 _ rfl;have v8:=hx 8 _ rfl;have v9:=hx 9 _ rfl;have v10:=hx 10 _ rfl;have v11:=hx 11 _ rfl;have v12:=hx 12 _ rfl;clear hx;simp only[Nat.add_zero] at v0;go_simp<;>with_reducible rfl)
     try simp only[zP]
     refine zB [5,6,7] ?_;iterate 3 (refine zv hS ?_;try simp only[zP])
     refine zE ?_;refine zT 8 ?_ ?_ hS ?_;rotate_left
     ·(intro w' hSw;have hx:=fun i v hv=>(hSw.cell (p:=⟨bb,z*13+i,none⟩) HB2.out.2.2.2.2.2.1).trans (HB2.out.2.2.2.2.1 i v hv);have v0:=hx 0 _ rfl;have v1:=hx 1 _ rfl;have v2:=hx 2 _ rfl;have v3:=hx 3 _ rfl;have v4:=hx 4 _ rfl;have v5:=hx 5 _ rfl;have v6:=hx 6 _ rfl;have v7:=hx 7 _ rfl;have v8:=hx 8 _ rfl;have v9:=hx 9 _ rfl;have v10:=hx 10 _ rfl;have v11:=hx 11 _ rfl;have v12:=hx 12 _ rfl;clear hx;simp only[Nat.add_zero] at v0;go_simp<;>with_reducible rfl)
     try simp only[zP]
     refine zC 9 fun K HK=>?_
     go_simp;refine(oq wr.drew p r HB2.out.2.1 HB2.out.2.2.1 (by have:=HB2.out.2.2.2.2.2.2;omega)).mono ?_;rintro e w5 ⟨rfl,hb5⟩;have H5:=zh (zN (V.aB (Below.refl wr.heap.size wr).drew hb5) (V.aB HB2.out.1 (V.aB (Below.refl wr.heap.size wr).drew hb5)));clear hb5;go_wp2_with fail;refine HK.out.zt (Below wr.heap.size wr) (fun _ h=>h) (H5.out.1) ?_;clear HK hS;intro hS;try simp only[zP]
     refine zB [10,11] ?_;iterate 2 (refine zv hS ?_;try simp only[zP])
     refine zE ?_;refine zD ?_;try simp only[zP]
     clear hS;go_wp2_with fail
     go_roundw
     case rel=>exact ⟨rfl,⟨z+1,J,J,by first | rfl | go_num⟩,H5.out.2⟩
     case measure=>simp[intOf]<;>omega
    ·obtain rfl:h=m:=J
     have HB:=zh hb;clear hb;go_wp2_with fail
     go_loopw [17] (fun k wr=>k=.int .i64 (h:Nat)/\Below w.heap.size w wr) (fun _ _=>0)
     case atStart=>exact ⟨rfl,HB.out⟩
     case round=>
      obtain⟨rfl,hb⟩:=hrel;have HB3:=zh hb;clear hb;go_wp2_with fail;refine bodyPost_ret (v:=.tuple #[]) (by simp[results,Tryz.results321,go_sem]) rfl ?_;exact⟨rfl,HB3.out⟩
  ·have g6:((b:Int)-(m:Int) == 1)=false:=by simp;omega
   have HM2:=zh c2;clear c2;obtain⟨md,hmd⟩:∃ z:Nat,((a:Int)+(b:Int)) / 2=(z:Int):=⟨(a+b) / 2,J⟩
   have m1:a < md:=J;have m2:md < b:=J;have m3:2*md<=a+b:=J;have m4:a+b<=2*md+1:=J
   by_cases c3:md < m
   ·have d3:decide ((md:Int) < (m:Int))=true:=decide_eq_true J
    have e1:IntKind.i64.wrap ((md:Int)+(m:Int)-(b:Int))=(md:Int)+(m:Int)-(b:Int):=by simp only[IntKind.wrap_i64];omega
    go_enter Tryz.func321,Tryz.ntmps321
    go_wp2_with fail
    go_loopw [20,21] (fun i j wr=>j=.int .i64 (md:Nat)/\(∃ h:Nat,md+m-b<=h/\h<=md/\i=.int .i64 (h:Nat))/\Below w.heap.size w wr) (fun i _ _=>md-(intOf i).toNat)
    case atStart=>exact ⟨rfl,⟨md+m-b,J,J,congrArg (Value.int .i64) J⟩,Below.refl _ _⟩
    case round=>
     obtain⟨rfl,⟨h,h1,h2,rfl⟩,hb⟩:=hrel
     by_cases hlt:h < md
     ·have d1:(h:Int) < (md:Int):=J
      obtain⟨z,hz⟩:∃ z:Nat,((h:Int)+(md:Int)) / 2=(z:Int):=⟨(h+md) / 2,J⟩
      have z1:h<=z:=J;have z2:z < md:=J;obtain⟨y,hy⟩:∃ y:Nat,(md:Int)+(m:Int)-1-(z:Int)=(y:Int):=⟨md+m-1-z,J⟩
      have y1:y < b:=J;have y2:z<=y:=J;obtain⟨bb,rfl,hbb,hc⟩:=(HD.out.1.below hb) J;have hc1:=hc y J;have hc0:=hc z J;have t1:=HD.out.2.1.t y J;have t0:=HD.out.2.1.t z J;have hle:=HD.out.2.1.le z y J J;obtain⟨p,hp⟩:∃ p,p=q y:=⟨_,rfl⟩
      obtain⟨r,hr⟩:∃ p,p=q z:=⟨_,rfl⟩
      rw[<-hp] at hc1 t1 hle
      rw[<-hr] at hc0 t0 hle
      have hS:=hb.drew;have HB2:=zh (zN hb (zN t1 (zN t0 (zN hc1 (zN hc0 (zN hbb hle))))));have dle:decide (p.a-r.a < 0)=false:=decide_eq_false J;clear hb hc hc0 hc1 hp hr t0 t1 hbb hle hS;have gz0:(0:Int)<=(z:Int):=J;have gz1:(z:Int) < (n:Int):=J;have ga0:(0:Int)<=(y:Int):=J;have ga1:(y:Int) < (n:Int):=J;have nf:∀ w:World,(Op.unary .not (.bool false)).run Tryz.prog w=.ok (.bool true) w:=eP
      have gy:IntKind.i64.wrap (y:Int)=(y:Int):=by simp only[IntKind.wrap_i64];omega
      go_upto_region 35 with (fail)
      have hS:(Below wr.heap.size wr) (wr.drew):=(Below.refl _ _).drew;refine aA (Below wr.heap.size wr) (by kernel_rfl) hS ?_;refine zB [0,1,2,3,4,5] ?_;iterate 6 (refine zv hS ?_;try simp only[zP])
      refine zE ?_;refine zT 6 ?_ ?_ hS ?_;rotate_left
      ·(intro w' hSw;have hx:=fun i v hv=>(hSw.cell (p:=⟨bb,y*13+i,none⟩) HB2.out.2.2.2.2.2.1).trans (HB2.out.2.2.2.1 i v hv);have v0:=hx 0 _ rfl;have v1:=hx 1 _ rfl;have v2:=hx 2 _ rfl;have v3:=hx 3 _ rfl;have v4:=hx 4 _ rfl;have v5:=hx 5 _ rfl;have v6:=hx 6 _ rfl;have v7:=hx 7 _ rfl;have v8:=hx 8 _ rfl;have v9:=hx 9 _ rfl;have v10:=hx 10 _ rfl;have v11:=hx 11 _ rfl;have v12:=hx 12 _ rfl;clear hx;simp only[Nat.add_zero] at v0;go_simp<;>with_reducible rfl)
      try simp only[zP]
      refine zB [7,8,9] ?_;iterate 3 (refine zv hS ?_;try simp only[zP])
      refine zE ?_;refine zT 10 ?_ ?_ hS ?_;rotate_left
      ·(intro w' hSw;have hx:=fun i v hv=>(hSw.cell (p:=⟨bb,z*13+i,none⟩) HB2.out.2.2.2.2.2.1).trans (HB2.out.2.2.2.2.1 i v hv);have v0:=hx 0 _ rfl;have v1:=hx 1 _ rfl;have v2:=hx 2 _ rfl;have v3:=hx 3 _ rfl;have v4:=hx 4 _ rfl;have v5:=hx 5 _ rfl;have v6:=hx 6 _ rfl;have v7:=hx 7 _ rfl;have v8:=hx 8 _ rfl;have v9:=hx 9 _ rfl;have v10:=hx 10 _ rfl;have v11:=hx 11 _ rfl;have v12:=hx 12 _ rfl;clear hx;simp only[Nat.add_zero] at v0;go_simp<;>with_reducible rfl)
      try simp only[zP]
      refine zC 11 fun K HK=>?_
      go_simp;refine(oq wr.drew p r HB2.out.2.1 HB2.out.2.2.1 (by have:=HB2.out.2.2.2.2.2.2;omega)).mono ?_;rintro e w5 ⟨rfl,hb5⟩;have H5:=zh (zN (V.aB (Below.refl wr.heap.size wr).drew hb5) (V.aB HB2.out.1 (V.aB (Below.refl wr.heap.size wr).drew hb5)));clear hb5;go_wp2_with fail;refine HK.out.zt (Below wr.heap.size wr) (fun _ h=>h) (H5.out.1) ?_;clear HK hS;intro hS;try simp only[zP]
      refine zB [12,13] ?_;iterate 2 (refine zv hS ?_;try simp only[zP])
      refine zE ?_;refine zD ?_;try simp only[zP]
      clear hS;go_wp2_with fail
      go_roundw
      case rel=>exact ⟨rfl,⟨z+1,J,J,by first | rfl | go_num⟩,H5.out.2⟩
      case measure=>simp[intOf]<;>omega
     ·obtain rfl:h=md:=J
      have e2:(h:Int)+(m:Int)-(h:Int)=(m:Int):=J;have d4:decide ((a:Int) < (h:Int))=true:=decide_eq_true J;have d5:decide ((m:Int) < (b:Int))=true:=decide_eq_true J;have HB:=zh hb;clear hb;go_wp2_with fail;refine(HD.out.2.2 wr h m b J J hmb hbn (HD.out.1.below HB.out)).mono ?_;rintro e w5 ⟨rfl,hb5⟩;have H5:=zh (V.aB HB.out hb5);clear hb5;go_wp2_with fail;refine bodyPost_end (v:=.tuple #[]) (by simp[results,Tryz.results321,go_sem]) rfl ?_;exact⟨rfl,H5.out⟩
   ·have d3:decide ((md:Int) < (m:Int))=false:=decide_eq_false J
    go_enter Tryz.func321,Tryz.ntmps321
    go_wp2_with fail
    go_loopw [20,21] (fun i j wr=>j=.int .i64 (m:Nat)/\(∃ h:Nat,a<=h/\h<=m/\i=.int .i64 (h:Nat))/\Below w.heap.size w wr) (fun i _ _=>m-(intOf i).toNat)
    case atStart=>exact ⟨rfl,⟨a,J,J,rfl⟩,Below.refl _ _⟩
    case round=>
     obtain⟨rfl,⟨h,h1,h2,rfl⟩,hb⟩:=hrel
     by_cases hlt:h < m
     ·have d1:(h:Int) < (m:Int):=J
      obtain⟨z,hz⟩:∃ z:Nat,((h:Int)+(m:Int)) / 2=(z:Int):=⟨(h+m) / 2,J⟩
      have z1:h<=z:=J;have z2:z < m:=J;obtain⟨y,hy⟩:∃ y:Nat,(md:Int)+(m:Int)-1-(z:Int)=(y:Int):=⟨md+m-1-z,J⟩
      have y1:y < b:=J;have y2:z<=y:=J;obtain⟨bb,rfl,hbb,hc⟩:=(HD.out.1.below hb) J;have hc1:=hc y J;have hc0:=hc z J;have t1:=HD.out.2.1.t y J;have t0:=HD.out.2.1.t z J;have hle:=HD.out.2.1.le z y J J;obtain⟨p,hp⟩:∃ p,p=q y:=⟨_,rfl⟩
      obtain⟨r,hr⟩:∃ p,p=q z:=⟨_,rfl⟩
      rw[<-hp] at hc1 t1 hle
      rw[<-hr] at hc0 t0 hle
      have hS:=hb.drew;have HB2:=zh (zN hb (zN t1 (zN t0 (zN hc1 (zN hc0 (zN hbb hle))))));have dle:decide (p.a-r.a < 0)=false:=decide_eq_false J;clear hb hc hc0 hc1 hp hr t0 t1 hbb hle hS;have gz0:(0:Int)<=(z:Int):=J;have gz1:(z:Int) < (n:Int):=J;have ga0:(0:Int)<=(y:Int):=J;have ga1:(y:Int) < (n:Int):=J;have nf:∀ w:World,(Op.unary .not (.bool false)).run Tryz.prog w=.ok (.bool true) w:=eP
      have gy:IntKind.i64.wrap (y:Int)=(y:Int):=by simp only[IntKind.wrap_i64];omega
      go_upto_region 35 with (fail)
      have hS:(Below wr.heap.size wr) (wr.drew):=(Below.refl _ _).drew;refine aA (Below wr.heap.size wr) (by kernel_rfl) hS ?_;refine zB [0,1,2,3,4,5] ?_;iterate 6 (refine zv hS ?_;try simp only[zP])
      refine zE ?_;refine zT 6 ?_ ?_ hS ?_;rotate_left
      ·(intro w' hSw;have hx:=fun i v hv=>(hSw.cell (p:=⟨bb,y*13+i,none⟩) HB2.out.2.2.2.2.2.1).trans (HB2.out.2.2.2.1 i v hv);have v0:=hx 0 _ rfl;have v1:=hx 1 _ rfl;have v2:=hx 2 _ rfl;have v3:=hx 3 _ rfl;have v4:=hx 4 _ rfl;have v5:=hx 5 _ rfl;have v6:=hx 6 _ rfl;have v7:=hx 7 _ rfl;have v8:=hx 8 _ rfl;have v9:=hx 9 _ rfl;have v10:=hx 10 _ rfl;have v11:=hx 11 _ rfl;have v12:=hx 12 _ rfl;clear hx;simp only[Nat.add_zero] at v0;go_simp<;>with_reducible rfl)
      try simp only[zP]
      refine zB [7,8,9] ?_;iterate 3 (refine zv hS ?_;try simp only[zP])
      refine zE ?_;refine zT 10 ?_ ?_ hS ?_;rotate_left
      ·(intro w' hSw;have hx:=fun i v hv=>(hSw.cell (p:=⟨bb,z*13+i,none⟩) HB2.out.2.2.2.2.2.1).trans (HB2.out.2.2.2.2.1 i v hv);have v0:=hx 0 _ rfl;have v1:=hx 1 _ rfl;have v2:=hx 2 _ rfl;have v3:=hx 3 _ rfl;have v4:=hx 4 _ rfl;have v5:=hx 5 _ rfl;have v6:=hx 6 _ rfl;have v7:=hx 7 _ rfl;have v8:=hx 8 _ rfl;have v9:=hx 9 _ rfl;have v10:=hx 10 _ rfl;have v11:=hx 11 _ rfl;have v12:=hx 12 _ rfl;clear hx;simp only[Nat.add_zero] at v0;go_simp<;>with_reducible rfl)
      try simp only[zP]
      refine zC 11 fun K HK=>?_
      go_simp;refine(oq wr.drew p r HB2.out.2.1 HB2.out.2.2.1 (by have:=HB2.out.2.2.2.2.2.2;omega)).mono ?_;rintro e w5 ⟨rfl,hb5⟩;have H5:=zh (zN (V.aB (Below.refl wr.heap.size wr).drew hb5) (V.aB HB2.out.1 (V.aB (Below.refl wr.heap.size wr).drew hb5)));clear hb5;go_wp2_with fail;refine HK.out.zt (Below wr.heap.size wr) (fun _ h=>h) (H5.out.1) ?_;clear HK hS;intro hS;try simp only[zP]
      refine zB [12,13] ?_;iterate 2 (refine zv hS ?_;try simp only[zP])
      refine zE ?_;refine zD ?_;try simp only[zP]
      clear hS;go_wp2_with fail
      go_roundw
      case rel=>exact ⟨rfl,⟨z+1,J,J,by first | rfl | go_num⟩,H5.out.2⟩
      case measure=>simp[intOf]<;>omega
     ·obtain rfl:h=m:=J
      have e2:(md:Int)+(h:Int)-(h:Int)=(md:Int):=J;have d4:decide ((a:Int) < (h:Int))=true:=decide_eq_true J;have HB:=zh hb;clear hb
      by_cases c4:h < md
      ·have d5:decide ((h:Int) < (md:Int))=true:=decide_eq_true J
       go_wp2_with fail;refine(HD.out.2.2 wr a h md J J J J (HD.out.1.below HB.out)).mono ?_;rintro e w5 ⟨rfl,hb5⟩;have H5:=zh (V.aB HB.out hb5);clear hb5;go_wp2_with fail;refine bodyPost_end (v:=.tuple #[]) (by simp[results,Tryz.results321,go_sem]) rfl ?_;exact⟨rfl,H5.out⟩
      ·have d5:decide ((h:Int) < (md:Int))=false:=decide_eq_false J
       go_wp2_with fail;refine bodyPost_end (v:=.tuple #[]) (by simp[results,Tryz.results321,go_sem]) rfl ?_;exact⟨rfl,HB.out⟩
theorem Gq(w:World)(A:Option Addr)(n c:Nat)(q:Nat->bC)(hsl:jw w A n q)(hr:sU n q)(hn:n<=10000):
  Calls Tryz.prog 259 #[.slice A n c,.int .i64 (n:Nat),.func (.func 183) #[] #[]] w fun e w'=>e=.returned (.tuple #[])/\Below w.heap.size w w':=by
 have HD:=zh (zN hsl hr);clear hsl hr
 go_enter Tryz.func259,Tryz.ntmps259
 go_wp2_with fail
 go_loopw [7,8] (fun i j wr=>∃ a b:Nat,i=.int .i64 (a:Nat)/\j=.int .i64 (b:Nat)/\(a+20<=b/\b<=a+20)/\a<=n/\Below w.heap.size w wr) (fun i _ _=>n-(intOf i).toNat)
 case atStart=>exact ⟨0,20,rfl,rfl,J,J,Below.refl _ _⟩
 case round=>
  obtain⟨a,b,rfl,rfl,hab,han,hb⟩:=hrel;have HB:=zh hb;clear hb
  by_cases hlt:b<=n
  ·have d1:decide ((b:Int)<=(n:Int))=true:=decide_eq_true J
   have g1:IntKind.i64.wrap ((b:Int)+20)=(b:Int)+20:=by simp only[IntKind.wrap_i64];omega
   go_wp2_with fail;refine(BP wr A n c q a b (HD.out.1.below HB.out) HD.out.2 J J J).mono ?_;rintro e w5 ⟨rfl,hb5⟩;have H5:=zh (V.aB HB.out hb5);clear hb5;go_wp2_with fail
   go_roundw
   case rel=>exact ⟨b,b+20,rfl,congrArg (Value.int .i64) J,J,J,H5.out⟩
   case measure=>simp[intOf]<;>omega
  ·have d1:decide ((b:Int)<=(n:Int))=false:=decide_eq_false J
   go_wp2_with fail;refine(BP wr A n c q a n (HD.out.1.below HB.out) HD.out.2 J J J).mono ?_;rintro e w5 ⟨rfl,hb5⟩;have H5:=zh (V.aB HB.out hb5);clear hb5 HB;go_wp2_with fail
   go_loopw [6] (fun i wr=>∃ s:Nat,i=.int .i64 (s:Nat)/\1<=s/\s<=20000+20/\Below w.heap.size w wr) (fun i _=>n-(intOf i).toNat)
   case atStart=>exact ⟨20,rfl,J,J,H5.out⟩
   case round=>
    obtain⟨s,rfl,s1,s2,hb⟩:=hrel;have HB:=zh hb;clear hb H5;have g2:IntKind.i64.wrap (2*(s:Int))=2*(s:Int):=by simp only[IntKind.wrap_i64];omega
    have g3:IntKind.i64.wrap ((s:Int)*2)=(s:Int)*2:=by simp only[IntKind.wrap_i64];omega
    by_cases hs:s < n
    ·have d2:decide ((s:Int) < (n:Int))=true:=decide_eq_true J
     go_wp2_with fail
     go_loopw [7,8] (fun i j wr=>∃ a b:Nat,i=.int .i64 (a:Nat)/\j=.int .i64 (b:Nat)/\(a+2*s<=b/\b<=a+2*s)/\a<=n/\Below w.heap.size w wr) (fun i _ _=>n-(intOf i).toNat)
     case atStart=>exact ⟨0,2*s,rfl,congrArg (Value.int .i64) J,J,J,HB.out⟩
     case round=>
      obtain⟨a,b,rfl,rfl,hab,han,hb⟩:=hrel;have HB2:=zh hb;clear hb;have g5:IntKind.i64.wrap ((a:Int)+(s:Int))=((a+s:Nat):Int):=by simp only[IntKind.wrap_i64];omega
      by_cases hlt:b<=n
      ·have d1:decide ((b:Int)<=(n:Int))=true:=decide_eq_true J
       have g4:IntKind.i64.wrap ((b:Int)+2*(s:Int))=(b:Int)+2*(s:Int):=by simp only[IntKind.wrap_i64];omega
       go_wp2_with fail;refine(EA A n c q HD.out.2 J (b-a) wr a (a+s) b J J J J (HD.out.1.below HB2.out)).mono ?_;rintro e w5 ⟨rfl,hb5⟩;have H5:=zh (V.aB HB2.out hb5);clear hb5;go_wp2_with fail
       go_roundw
       case rel=>exact ⟨b,b+2*s,rfl,congrArg (Value.int .i64) J,J,J,H5.out⟩
       case measure=>simp[intOf]<;>omega
      ·have d1:decide ((b:Int)<=(n:Int))=false:=decide_eq_false J
       by_cases hms:a+s < n
       ·have d3:decide (((a+s:Nat):Int) < (n:Int))=true:=decide_eq_true J
        go_wp2_with fail;refine(EA A n c q HD.out.2 J (n-a) wr a (a+s) n J J J J (HD.out.1.below HB2.out)).mono ?_;rintro e w5 ⟨rfl,hb5⟩;have H5:=zh (V.aB HB2.out hb5);clear hb5;go_wp2_with fail
        go_roundw
        case rel=>exact ⟨2*s,congrArg (Value.int .i64) J,J,J,H5.out⟩
        case measure=>simp[intOf]<;>omega
       ·have d3:decide (((a+s:Nat):Int) < (n:Int))=false:=decide_eq_false J
        go_wp2_with fail
        go_roundw
        case rel=>exact ⟨2*s,congrArg (Value.int .i64) J,J,J,HB2.out⟩
        case measure=>simp[intOf]<;>omega
    ·have d2:decide ((s:Int) < (n:Int))=false:=decide_eq_false J
     go_wp2_with fail;refine bodyPost_end (v:=.tuple #[]) (by simp[results,Tryz.results259,go_sem]) rfl ?_;exact⟨rfl,HB.out⟩
theorem CQ(w:World)(A:Option Addr)(n c:Nat)(q:Nat->bC)(hsl:jw w A n q)(hr:sU n q)(hn:n<=10000):
  Calls Tryz.prog 182 #[.slice A n c,.func (.func 183) #[] #[]] w fun e w'=>e=.returned (.tuple #[])/\Below w.heap.size w w':=by
 have HD:=zh (zN hsl hr);clear hsl hr
 go_enter Tryz.func182,Tryz.ntmps182
 go_wp2_with fail;refine(Gq w A n c q HD.out.1 HD.out.2 hn).mono ?_;rintro e w5 ⟨rfl,hb5⟩;have H5:=zh hb5;clear hb5;go_wp2_with fail;refine bodyPost_end (v:=.tuple #[]) (by simp[results,Tryz.results182,go_sem]) rfl ?_;exact⟨rfl,H5.out⟩
theorem QG: (Tryz.prog.info? 102).map (fun i=>(i.zero,i.size,i.bytes))=some (some (.agg #[Z 0,Z 0,Z 0]),3,24):=by kernel_rfl
def zY(w:World)(fr a b:Int)(e:Ending)(w':World): Prop:=∃ A c,e=.returned (.tuple #[.slice A 2 c,Z 0])/\w'.ownsRow w.heap.size 102 3 (.slice A 2 c) 2 [Z (-1),Z fr,Z fr,Z 0,Z a,Z b]/\Below w.heap.size w w'
theorem Rf(w:World)(e:TypeId)(cs:Array Value): (w.alloc (.cells cs e)).ownsRow w.heap.size e cs.size (.slice (some ⟨w.heap.size,0,none⟩) 1 1) 1 cs.toList:=
 ⟨by simp,.inr ⟨w.heap.size,1,cs,rfl,Nat.le_refl _,heap_alloc_new w _,Nat.le_refl _,by unfold maxLen;omega,by simp,by rw[Nat.one_mul,<-Array.length_toList,List.take_length]⟩⟩
theorem L9(w:World)(fn fr tu W O v p u low a b a' b':Int)(g c:Nat)(s:ByteArray)(h:bP W O)(hk:bP v p)(f1:W.tmod v=0)(f2:(O-p).tmod v=0)(hf1:0<=fn)(hf2:fn<=6)(r1 : -1152921504606846976<=fr)(r2:fr<=tu)(r3:tu<=1152921504606846976)(l1 : -1152921504606846976<=low)(l2:low<=1152921504606846976)(hmx:max fr low=a)(hmn:min tu u=b)(a1 : -1152921504606846976<=a)(a2:a<=1152921504606846976)(b1 : -1152921504606846976<=b)(b2:b<=1152921504606846976)(ha':a+(p-a)%v=a')(hb':b-(b-p)%v=b')(hab:a' < b')(hg:g < w.heap.size)(ht:∀ i u',(dP v p u true s)[i]? = some u'->w.cell? ⟨g,i,none⟩=some u'):
  Calls Tryz.prog 51 #[.agg (qW fn fr tu W O 0),.slice (some ⟨g,0,none⟩) 1 c,.int .i64 low] w (zY w fr a' b'):=by
 obtain⟨x,hx⟩:∃ x,x=w.heap.size:=⟨_,rfl⟩
 have o0:=Own.bn w hx 43 (qW fn fr tu W O 0);have k1:=fun w=>wW w fn fr tu W O h hf1 hf2 r1 r2 r3
 have k2:=fun w=>Ma w fn fr tu W O 0
 have k3:=fun w=>za w fn fr tu W O 0
 have k4:=fun w=>JQ w W O v p h hk f1 f2
 have k5:=fun w=>Jy w fn fr tu W O 0 v p u low s a b hk.w1 hk.w2 hk.o1 (by have:=hk.o2;have:=hk.w2;omega) hmx hmn a1 a2 b1 b2
 rw[ha',hb'] at k5
 have d1:decide (low < -1152921504606846976)=false:=decide_eq_false J;have d2:decide (1152921504606846976 < low)=false:=decide_eq_false J;have d3:decide (a' < b')=true:=decide_eq_true hab;have t0:w.cell? ⟨g,0,none⟩=some (.int .i64 v):=ht 0 _ rfl;have t1:w.cell? ⟨g,1,none⟩=some (.int .i64 p):=ht 1 _ rfl;have t2:w.cell? ⟨g,2,none⟩=some (.int .i64 u):=ht 2 _ rfl;have t3:w.cell? ⟨g,3,none⟩=some (.bool true):=ht 3 _ rfl;have t4:w.cell? ⟨g,4,none⟩=some (.string s):=ht 4 _ rfl;have nt:∀ w:World,(Op.unary .not (.bool true)).run Tryz.prog w=.ok (.bool false) w:=bJ
 have HD:=zh (zN o0 (zN hg (zN t0 (zN t1 (zN t2 (zN t3 t4))))));clear o0 h hk f1 f2 hf1 hf2 r1 r2 r3 l1 l2 hmx hmn a1 a2 b1 b2 ha' hb' hab hg ht t0 t1 t2 t3 t4;unfold qW at *
 go_enter Tryz.func51,Tryz.ntmps51
 go_upto_region 1 with (fail)
 rw[<-hx];clear hx;refine aC (Own w [(x,43,qW fn fr tu W O 0)]) HD.out.1 ?_;intro w1 h1;have H1:=zh h1;have z0_0:=h1.c12 0;clear h1;go_wp2_with fail;clear z0_0;refine(k1 w1).mono ?_;rintro e w2 ⟨rfl,hb⟩;have h2:=H1.out.call hb;have H2:=zh h2;have z0_0:=h2.c12 0;clear h2 hb;go_wp2_with fail;clear z0_0;refine(k2 w2).mono ?_;rintro e w3 ⟨rfl,hb⟩;have H3:=zh (H2.out.call hb);clear hb;unfold dO;go_wp2_with fail;have g1:=HD.out.2.1;have hsz3:w.heap.size<=w3.heap.size:=H3.out.av.size;have ow:=aN (Rf w3 102 #[.int .i64 (-1),.int .i64 fr,.int .i64 fr]) hsz3;have b4:Below w3.heap.size w3 (w3.alloc (.cells #[.int .i64 (-1),.int .i64 fr,.int .i64 fr] 102)):=(Below.refl _ _).alloc (Nat.le_refl _) _;have H4:=zh (zN (H3.out.call b4) ow);clear ow b4;obtain⟨g0,hg0⟩:∃ y,y=w3.heap.size:=⟨_,rfl⟩
 rw[<-hg0] at H4 ⊢
 clear hg0
 go_loopw [9,30] (fun out i wr=>(i=.int .i64 0/\out=.slice (some ⟨g0,0,none⟩) 1 1/\(ay wr x 43 (qW fn fr tu W O 0)/\Below w.heap.size w wr)/\wr.ownsRow w.heap.size 102 3 out 1 [.int .i64 (-1),.int .i64 fr,.int .i64 fr])\/(i=.int .i64 1/\∃ A c,out=.slice A 2 c/\Below w.heap.size w wr/\wr.ownsRow w.heap.size 102 3 out 2 [.int .i64 (-1),.int .i64 fr,.int .i64 fr,.int .i64 0,.int .i64 a',.int .i64 b'])) (fun _ i _=>1-(intOf i).toNat)
 case atStart=>exact .inl ⟨rfl,rfl,⟨H4.out.1.get 0 rfl,H4.out.1.av⟩,H4.out.2⟩
 case round=>
  rcases hrel with ⟨rfl,rfl,hb,hr⟩ | ⟨rfl,A,cA,rfl,hb,hr⟩
  ·obtain ⟨wo,rfl⟩:∃ wo,wo=wr:=⟨wr,rfl⟩
   have u0:=(hb.2.cell (p:=⟨g,0,none⟩) g1).trans HD.out.2.2.1;have u1:=(hb.2.cell (p:=⟨g,1,none⟩) g1).trans HD.out.2.2.2.1;have u2:=(hb.2.cell (p:=⟨g,2,none⟩) g1).trans HD.out.2.2.2.2.1;have u3:=(hb.2.cell (p:=⟨g,3,none⟩) g1).trans HD.out.2.2.2.2.2.1;have u4:=(hb.2.cell (p:=⟨g,4,none⟩) g1).trans HD.out.2.2.2.2.2.2;have HB:=zh (zN hb hr);clear hb hr;go_upto_region 10 with (fail)
   obtain⟨y,hy⟩:∃ y,y=wo.heap.size:=⟨_,rfl⟩
   have oy:=Own.bn wo hy 169 (dP v p u true s);rw[<-hy];refine aC (Own wo [(y,169,dP v p u true s)]) oy ?_;clear oy hy u0 u1 u2 u3 u4;intro w5 h5;have hS:=h5.drew;have H5:=zh h5.drew;clear h5;have HX:=zh (fun (w':World) (hb:Below wo.heap.size wo w')=>(HB.out.1.1.below hb HB.out.1.1.lt:ay w' x 43 (qW fn fr tu W O 0)));have hS:(Own wo [(y,169,dP v p u true s)]) (w5.drew):=hS;refine aA (Own wo [(y,169,dP v p u true s)]) (by kernel_rfl) hS ?_;refine zB [0,1,2,3] ?_;iterate 4 (refine zV ?_ ?_ hS ?_;rotate_left;(intro w' hSw;have v3:=hSw.c 0 3;go_simp<;>with_reducible rfl);try simp only[zP])
   refine zE ?_;refine zT 4 ?_ ?_ hS ?_;rotate_left
   ·(intro w' hSw;have hx:=HX.out w' hSw.av;unfold qW at hx;have y0:=hx.cell 0;have y1:=hx.cell 1;have y2:=hx.cell 2;have y3:=hx.cell 3;have y4:=hx.cell 4;have y5:=hx.cell 5;have y6:=hx.cell 6;have y7:=hx.cell 7;have y8:=hx.cell 8;have y9:=hx.cell 9;have y10:=hx.cell 10;have y11:=hx.cell 11;go_simp<;>with_reducible rfl)
   try simp only[zP]
   refine zB [6,7,8,9] ?_;iterate 4 (refine zV ?_ ?_ hS ?_;rotate_left;(intro w' hSw;have v0:=hSw.c2 0;go_simp<;>with_reducible rfl);try simp only[zP])
   refine zE ?_;refine zC 5 fun K HK=>?_
   go_simp;refine(k3 w5.drew).mono ?_;rintro e w6 ⟨rfl,hb6⟩;have H6:=zh (H5.out.call hb6);clear hb6;go_wp2_with fail;refine HK.out.zt (Own wo [(y,169,dP v p u true s)]) (fun _ h=>h) (H6.out) ?_;clear HK hS;intro hS;try simp only[zP]
   refine zC 10 fun K HK=>?_
   go_simp;refine(k4 w6).mono ?_;rintro e w7 ⟨rfl,hb7⟩;have H7:=zh (H6.out.call hb7);clear hb7;go_wp2_with fail;refine HK.out.zt (Own wo [(y,169,dP v p u true s)]) (fun _ h=>h) (H7.out) ?_;clear HK hS;intro hS;try simp only[zP]
   refine zB [11,12] ?_;iterate 2 (refine zv hS ?_;try simp only[zP])
   refine zE ?_;refine zD ?_;try simp only[zP]
   clear hS;have h7:=H7.out;have hx:=HX.out w7 h7.av;unfold qW at hx
   have y0:=hx.cell 0;have y1:=hx.cell 1;have y2:=hx.cell 2;have y3:=hx.cell 3;have y4:=hx.cell 4;have y5:=hx.cell 5;have y6:=hx.cell 6;have y7:=hx.cell 7;have y8:=hx.cell 8;have y9:=hx.cell 9;have y10:=hx.cell 10;have y11:=hx.cell 11;have z0_0:=h7.c5 0;clear h7 hx;go_wp2_with fail;clear z0_0 y0 y1 y2 y3 y4 y5 y6 y7 y8 y9 y10 y11;refine(k5 w7).mono ?_;rintro e w8 ⟨rfl,hb8⟩;have hb08:Below wo.heap.size wo w8:=(H7.out.call hb8).av;have hr8:w8.ownsRow w.heap.size 102 3 (.slice (some ⟨g0,0,none⟩) 1 1) 1 [.int .i64 (-1),.int .i64 fr,.int .i64 fr]:=aG HB.out.2 (S:=fun _=>False) (Keeps.of_below hb08) (fun _ _ h=>h);obtain⟨A5,c5,w9,hrun,hap⟩:=iO (P:=Tryz.prog) (w:=w8) (t:=106) (ty:=106) (cs:=#[.int .i64 0,.int .i64 a',.int .i64 b']) Tryz.underlying106 QG rfl J hr8 rfl (List.all_eq_true.1 rfl) J J (Nat.le_trans HB.out.1.2.size hb08.size);have hb9:Below w.heap.size w w9:=hap.av hr8 (HB.out.1.2.trans (hb08.mono HB.out.1.2.size)) (Nat.le_trans HB.out.1.2.size hb08.size);have H9:=zh (zN hb9 hap.row);clear hb8 hb08 hr8 hap hb9;go_wp2_with (at_builtin;refine wpList_append_run rfl (.tmp 58) (.tmp 63) rfl rfl rfl hrun ?_)
   go_roundw
   case rel=>exact .inr ⟨rfl,A5,c5,rfl,H9.out.1,H9.out.2⟩
   case measure=>simp[intOf]
  ·have HB:=zh (zN hb hr)
   clear hb hr;go_wp2_with fail;go_ret2;exact⟨A,cA,rfl,HB.out.2,HB.out.1⟩
end
section
open Go.RowKit Go.Maps
def Sp: Type:={ p:Int × Int // bI p.1/\bI p.2 }
instance:DecidableEq Sp:=inferInstanceAs (DecidableEq { p:Int × Int // bI p.1/\bI p.2 })
def Qj(p:Sp): Value:=.agg #[.int .i64 p.1.1,.int .i64 p.1.2]
def AJ(p:Sp): Lit:=.string (keyBytes [.int .i64 p.1.1,.int .i64 p.1.2])
theorem Ct: WideMaps.KeyLaw Tryz.prog 277:=deep_law (m:=3) J (by kernel_rfl) (by kernel_rfl) (by kernel_rfl)
theorem FB: Keyed Tryz.prog 277:=Keyed.of_law Ct
theorem uz(p:Sp): keyOf Tryz.prog 277 (Qj p)=some (AJ p):=by
 obtain⟨⟨a,b⟩,ha,hb⟩:=p;have hu:=Tryz.underlying277;have hi:=Tryz.underlying3;have h1:Tryz.prog.keyType 277=true:=by kernel_rfl
 have h2:(Value.agg #[.int .i64 a,.int .i64 b]).formed Tryz.prog 277=true:=by kernel_rfl
 obtain⟨m,h4⟩:∃ m,Tryz.prog.types.size=m+1:=⟨Tryz.prog.types.size-1,by kernel_rfl⟩
 have hwa:(Lit.int .i64 a).wf=true:=by
  obtain⟨h1,h2⟩:=ha;exact WalkArith.wf_i64 J
 have hwb:(Lit.int .i64 b).wf=true:=by
  obtain⟨h1,h2⟩:=hb;exact WalkArith.wf_i64 J
 have c0:Tryz.prog.cellsOf 277=2:=by kernel_rfl
 have c3:Tryz.prog.cellsOf 3=1:=by kernel_rfl
 have ka:Tryz.prog.keyLits (m+1) 3 [.int .i64 a]=some [.int .i64 a]:=by
  unfold Program.keyLits;rw[hi];simp only[];rw[if_pos ⟨trivial,hwa⟩]
 have kb:Tryz.prog.keyLits (m+1) 3 [.int .i64 b]=some [.int .i64 b]:=by
  unfold Program.keyLits;rw[hi];simp only[];rw[if_pos ⟨trivial,hwb⟩]
 have h3:Tryz.prog.keyLits (m+1+1) 277 [.int .i64 a,.int .i64 b]=some [.int .i64 a,.int .i64 b]:=by
  unfold Program.keyLits;rw[hu];simp only[];rw[if_pos ⟨by rw[c0];rfl,by kernel_rfl⟩];simp[List.mapM_cons,c3,ka,kb]
 show keyOf Tryz.prog 277 (.agg #[.int .i64 a,.int .i64 b])=some (.string (keyBytes [.int .i64 a,.int .i64 b]))
 unfold keyOf;rw[hu];simp only[h1,h2,h4,Value.cells];rw[h3];rfl
theorem Ow: ∀ x y,AJ x=AJ y->x=y:=fun x y h=>by
 have h1:=uz x;have h2:=uz y;rw[h] at h1
 have:=Ct.inj h1 h2;unfold Qj at this
 injection this with this
 injection this with this
 injection this with e1 this
 injection this with e2 this
 injection e1 with _ e1
 injection e2 with _ e2
 apply Subtype.ext;exact Prod.ext e1 e2
theorem Ox(x:Sp): WideAt.IsKeyLit (AJ x):=by unfold AJ;simp[WideAt.IsKeyLit]
def KP(w:World)(A:Option Addr)(m:Nat)(W a:Int): Prop:=0 < m->∃ g,A=some ⟨g,0,none⟩/\g < w.heap.size/\∀ j,j < m->w.cell? ⟨g,j*2,none⟩=some (Z (a+(j:Nat)*W))/\w.cell? ⟨g,j*2+1,none⟩=some (Z (a+(j:Nat)*W+W))
theorem Ro{w:World}{B:Nat}{A:Option Addr}{c m:Nat}{W a:Int}(h:w.ownsRow B 277 2 (.slice A m c) m (qP W a m)): KP w A m W a:=fun hm=>by
 obtain⟨A',c',e1,-,hg⟩:=aH h;injection e1 with e1 _ e2
 subst e1;subst e2;obtain⟨g,rfl,-,h2⟩:=hg hm;refine⟨g,rfl,h2,fun j hj=>?_⟩;have r0:=h.cells (g:=g) rfl _ _ (FQ W a j m hj).1;have r1:=h.cells (g:=g) rfl _ _ (FQ W a j m hj).2;rw[iE] at r0 r1
 exact⟨r0,r1⟩
theorem KP.below{w w':World}{A:Option Addr}{m:Nat}{W a:Int}(h:KP w A m W a)(hb:Below w.heap.size w w'): KP w' A m W a:=fun hm=>by
 obtain⟨g,h1,h2,h3⟩:=h hm;exact⟨g,h1,Nat.lt_of_lt_of_le h2 hb.size,fun j hj=>⟨(hb.cell (p:=⟨g,j*2,none⟩) h2).trans (h3 j hj).1,(hb.cell (p:=⟨g,j*2+1,none⟩) h2).trans (h3 j hj).2⟩⟩
theorem PY(w:World): (zeroValue 4).run Tryz.prog w=.ok (.bool false) w:=by kernel_rfl
structure oG(w0 w:World)(M:Nat)(p0:Sp)(k:Nat): Prop where
 map:∃ n D,w.ownsMap Tryz.prog 277 eO M n D/\n<=k/\IsMap D/\(0 < k->∀ z,D.atKey (AJ p0) z=.held (.bool true))
 av:Below w0.heap.size w0 w
 ge:w0.heap.size<=M
theorem oG.call{w0 w w':World}{M:Nat}{p0:Sp}{k:Nat}(h:oG w0 w M p0 k)(hb:Below w.heap.size w w'): oG w0 w' M p0 k:=by
 obtain⟨n,D,h1,h2⟩:=h.map;have hlt:=World.ownsMap.lt h1;obtain⟨es,clock,e1,e2⟩:=h1;exact⟨⟨n,D,⟨es,clock,by rw[hb.block M hlt];exact e1,e2⟩,h2⟩,h.av.trans (hb.mono h.av.size),h.ge⟩
theorem oG.look{w0 w:World}{M:Nat}{p0:Sp}{k:Nat}(h:oG w0 w M p0 k)(hk:0 < k): (Instr.lookup 473 (.map (some M)) (Qj p0) false).run Tryz.prog w=.ok (.bool true) w:=by
 obtain⟨n,D,h1,-,-,h3⟩:=h.map;obtain⟨v,ps,hrun,hv⟩:=World.ownsMap.lookup h1 FB Tryz.underlying473 (PY w) (zd:=.held (.bool false)) (zp:=[]) rfl (uz p0);rw[h3 hk] at hv
 unfold eO at hv
 simp only[Option.some.injEq,Prod.mk.injEq,DataW.held.injEq] at hv
 rw[hv.1] at hrun
 exact hrun
theorem oG.upd{w0 w:World}{M:Nat}{p0:Sp}{k:Nat}(h:oG w0 w M p0 k)(hk:k < 100000)(p:Sp)(hp:k=0->p=p0): ∃ w',(Instr.mapUpdate 473 (.map (some M)) (Qj p) (.bool true)).run Tryz.prog w=.ok () w'/\oG w0 w' M p0 (k+1):=by
 obtain⟨n,D,h1,h2,h3,h4⟩:=h.map;obtain⟨w',hr,hown,hg⟩:=Df FB Tryz.underlying473 (by unfold maxLen;omega) h1 (uz p) (.bool true);have hkp:Keeps (fun q=>q=M) w w':=(Keeps.refl _ w).grown hg (fun k e _=>by injection e with e;exact e.symm);refine⟨w',hr,⟨n+1,_,hown,J,h3.put _ _,fun _ z=>?_⟩,h.av.trans (hkp.below h.av.size fun q hq hs=>by have:=h.ge;omega),h.ge⟩
 by_cases e:p=p0
 ·subst e
  exact atKey_put_same h3 (Ox p) _ _
 ·rw[atKey_put_other (fun he=>e (Ow _ _ he).symm)]
  exact h4 (Nat.pos_of_ne_zero fun h0=>e (hp h0)) z
def rM(w:World)(A:Option Addr)(n:Nat)(a b hi lo:Int): Prop:=0 < n->∃ g,A=some ⟨g,0,none⟩/\g < w.heap.size/\w.cell? ⟨g,0,none⟩=some (Z a)/\w.cell? ⟨g,1,none⟩=some (Z b)/\w.cell? ⟨g,2,none⟩=some (.bool false)/\w.cell? ⟨g,3,none⟩=some (Z hi)/\w.cell? ⟨g,4,none⟩=some (.int .u64 lo)
theorem rM.below{w w':World}{A:Option Addr}{n:Nat}{a b hi lo:Int}(h:rM w A n a b hi lo)(hb:Below w.heap.size w w'): rM w' A n a b hi lo:=fun hn=>by
 obtain⟨g,h1,h2,h3,h4,h5,h6,h7⟩:=h hn;have e:=fun i=>hb.cell (p:=⟨g,i,none⟩) h2
 exact⟨g,h1,Nat.lt_of_lt_of_le h2 hb.size,(e 0).trans h3,(e 1).trans h4,(e 2).trans h5,(e 3).trans h6,(e 4).trans h7⟩
theorem Js(w:World)(A Aw:Option Addr)(n c m cw:Nat)(W a hi lo:Int)(hrw:rM w A n a (a+W) hi lo)(hn:n<=1)(hsl:KP w Aw m W a)(hm1:1<=m)(hm:m<=65536)(h0:1<=W)(h1:W<=1099511627776)(h2:(m:Int)*W<=2305843009213693952)(h3 : -2305843009213693952<=a)(h4:a<=2305843009213693952):
  Calls Tryz.prog 269 #[.slice A n c,.slice Aw m cw] w fun e w'=>e=.returned (.bool true)/\Below w.heap.size w w':=by
 have hmm:=@run_makeMap Tryz.prog;have nt:∀ w:World,(Op.unary .not (.bool true)).run Tryz.prog w=.ok (.bool false) w:=bJ
 have hp0:bI a/\bI (a+W):=⟨⟨J,J⟩,⟨J,J⟩⟩
 have HD:=zh (zN hrw hsl);clear hrw hsl
 go_enter Tryz.func269,Tryz.ntmps269
 go_upto_region 2 with (fail)
 obtain⟨M,hM⟩:∃ M,M=w.heap.size:=⟨_,rfl⟩
 have hS0:oG w (w.alloc (.map #[] 0)) M ⟨(a,a+W),hp0⟩ 0:=by
  rw[hM];exact⟨⟨0,.map [],World.ownsMap_made _ _ _ _,Nat.le_refl _,isMap_empty,fun h=>absurd h J⟩,(Below.refl _ _).alloc (Nat.le_refl _) _,Nat.le_refl _⟩
 rw[<-hM];refine aC (oG w · M ⟨(a,a+W),hp0⟩ 0) hS0 ?_;clear hS0 hM;intro w1 hs1;have H1:=zh hs1;clear hs1;go_wp2_with fail
 go_loopw [13] (fun i wr=>∃ k:Nat,k<=m/\i=.int .i64 (k:Nat)/\oG w wr M ⟨(a,a+W),hp0⟩ k) (fun i _=>m-(intOf i).toNat)
 case atStart=>exact ⟨0,Nat.zero_le _,rfl,H1.out⟩
 case round=>
  obtain⟨k,hk,rfl,hs⟩:=hrel
  by_cases hlt:k < m
  ·have hki:(k:Int) < (m:Int):=J
   obtain⟨g,rfl,hgl,hc⟩:=(HD.out.2.below hs.av) J;obtain⟨u0,u1⟩:=hc k hlt;have hm0:0<=(k:Int)*W:=Int.mul_nonneg J J;have hm2:(k:Int)*W<=(m:Int)*W:=Int.mul_le_mul_of_nonneg_right J J;have hpk:∃ x,x=a+(k:Int)*W/\(bI x/\bI (x+W))/\(k=0->x=a):=⟨_,rfl,⟨⟨J,J⟩,⟨J,J⟩⟩,fun e=>by subst e;simp⟩
   obtain⟨x,hx,hxi,hx0⟩:=hpk;rw[<-hx] at u0 u1
   have hs2:=hs.call ((Below.refl wr.heap.size wr).alloc (Nat.le_refl _) (.cells #[.int .i64 x,.int .i64 (x+W)] 277));obtain⟨w5,hr5,hs5⟩:=hs2.upd J ⟨(x,x+W),hxi⟩ (fun e=>by have:=hx0 e;subst this;rfl);have hr6:(Instr.mapUpdate 473 (.map (some M)) (.agg #[.int .i64 x,.int .i64 (x+W)]) (.bool true)).run Tryz.prog (wr.alloc (.cells #[.int .i64 x,.int .i64 (x+W)] 277))=.ok () w5:=hr5;have HS:=zh hs5;have hbs:=ay.fresh wr 277 #[.int .i64 x,.int .i64 (x+W)]
   have c0:=hbs.cell 0;have c1:=hbs.cell 1;clear hs hs2 hs5 hr5 hc hx hxi hx0 hm0 hm2 hbs;go_wp2_with fail
   go_roundw
   case rel=>exact ⟨k+1,J,by go_num,HS.out⟩
   case measure=>simp[intOf]<;>omega
  ·obtain rfl:k=m:=J
   have HS:=zh hs;clear hs;go_wp2_with fail
   go_loopw [22] (fun i wr=>(i=.int .i64 0\/i=.int .i64 (n:Nat))/\oG w wr M ⟨(a,a+W),hp0⟩ k) (fun i _=>n-(intOf i).toNat)
   case atStart=>exact ⟨.inl rfl,HS.out⟩
   case round=>
    obtain⟨hi',hs⟩:=hrel;rcases(show n=0\/n=1 by omega) with rfl | rfl
    ·have HS2:=zh hs
     clear hs;rcases hi' with rfl | rfl
     all_goals
      go_wp2_with fail;go_ret;exact⟨rfl,HS2.out.av⟩
    ·rcases hi' with rfl | rfl
     ·obtain ⟨g,rfl,hgl,v0,v1,v2,v3,v4⟩:=(HD.out.1.below hs.av) J
      have HS2:=zh (zN hs (fun wx hb=>show (Instr.lookup 473 (.map (some M)) (.agg #[.int .i64 a,.int .i64 (a+W)]) false).run Tryz.prog wx=.ok (.bool true) wx from (hs.call (w':=wx) hb).look J));clear hs;go_upto_region 10 with (fail)
      obtain⟨z,hz⟩:∃ z,z=wr.heap.size:=⟨_,rfl⟩
      have oz:=Own.bn wr hz 54 #[.int .i64 a,.int .i64 (a+W),.bool false,.int .i64 hi,.int .u64 lo]
      rw[<-hz];refine aC (Own wr [(z,54,#[.int .i64 a,.int .i64 (a+W),.bool false,.int .i64 hi,.int .u64 lo])]) oz ?_;clear oz hz v0 v1 v2 v3 v4;intro w7 h7;have hS:=h7.drew;have H7:=zh h7;clear h7;have hS:(Own wr [(z,54,#[.int .i64 a,.int .i64 (a+W),.bool false,.int .i64 hi,.int .u64 lo])]) (w7.drew):=hS;refine aA (Own wr [(z,54,#[.int .i64 a,.int .i64 (a+W),.bool false,.int .i64 hi,.int .u64 lo])]) (by kernel_rfl) hS ?_;refine zB [0,1,2,3,4,5,6,7,8] ?_;iterate 9 (refine zV ?_ ?_ hS ?_;rotate_left;(intro w' hSw;obtain⟨v0,v1,v2⟩:=hSw.c3 0;go_simp<;>with_reducible rfl);try simp only[zP])
      refine zE ?_;refine zT 9 ?_ ?_ hS ?_;rotate_left
      ·(intro w' hSw;have lk:=HS2.out.2 w' hSw.av;go_simp<;>with_reducible rfl)
      try simp only[zP]
      refine zB [10,11,12,13,14,15] ?_;iterate 6 (refine zv hS ?_;try simp only[zP])
      refine zE ?_;refine zB [16,17,18,19,20,21,22,23,24] ?_;iterate 9 (refine zW hS ?_;try simp only[zP])
      refine zE ?_;refine zB [25,26] ?_;iterate 2 (refine zv hS ?_;try simp only[zP])
      refine zE ?_;refine zD ?_;try simp only[zP]
      clear hS;go_wp2_with fail
      go_roundw
      case rel=>exact ⟨.inr rfl,HS2.out.1.call H7.out.drew.av⟩
      case measure=>simp[intOf]
     ·have HS2:=zh hs
      clear hs;go_wp2_with fail;go_ret;exact⟨rfl,HS2.out.av⟩
def Il(n:Nat)(a b hi lo:Int): List Value:=if n=0 then [] else [Z a,Z b,.bool false,Z hi,.int .u64 lo]
def iD(w:World)(n:Nat)(a b hi lo:Int)(e:Ending)(w':World): Prop:=∃ (A:Option Addr) (c:Nat),e=.returned (.tuple #[.slice A n c,Z 0])/\w'.ownsRow w.heap.size 54 5 (.slice A n c) n (Il n a b hi lo)/\Below w.heap.size w w'
theorem Jr(w:World)(A:Option Addr)(n c m:Nat)(W O f t hi lo:Int)(hrw:rM w A n (aD W O f) (aD W O f+W) hi lo)(hn:n<=1)(hA0:n=0->A=none/\c=0)(hk:bP W O)(hf:aP f)(ht:aP t)(hft:f < t)(hm:(aD W O (t-1)-aD W O f) / W+1=(m:Nat))(hm2:m<=65536)(hm3:(m:Int)*W<=2305843009213693952):
  Calls Tryz.prog 185 #[.slice A n c,.agg (bX W O),.agg #[Z f,Z t],Z 0] w (iD w n (aD W O f) (aD W O f+W) hi lo):=by
 obtain⟨x,hx⟩:∃ x,x=w.heap.size:=⟨_,rfl⟩
 have o0:=Own.qI w hx 39 #[.slice A n c] 211 (bX W O) 171 #[Z f,Z t]
 have hall:=fun wx=>Mg wx W O f t m hk hf ht hft hm hm2 hm3
 have hs:=dD hk (t:=f);have hw1:=hk.w1;have hw2:=hk.w2;have hm1:1<=m:=by
  have h0:0<=(aD W O (t-1)-aD W O f) / W:=by
   refine Int.ediv_nonneg ?_ J;unfold aD;have e1:=Int.mul_ediv_add_emod (f-O) W;have e2:=Int.mul_ediv_add_emod (t-1-O) W;have:(f-O) / W<=(t-1-O) / W:=Int.ediv_le_ediv J J;have:=Int.mul_le_mul_of_nonneg_left this (show 0<=W by omega);omega
  omega
 obtain⟨a,ha⟩:∃ a,a=aD W O f:=⟨_,rfl⟩
 rw[<-ha] at hrw hall hs ⊢
 have hf1:=hf.1;have hf2:=hf.2;have HD:=zh (zN o0 (zN hrw hall));clear o0 hrw hall ha hm hk hf ht;have nt:∀ w:World,(Op.unary .not (.bool true)).run Tryz.prog w=.ok (.bool false) w:=bJ
 unfold bX
 go_enter Tryz.func185,Tryz.ntmps185
 go_upto_region 1 with (fail)
 rw[<-hx];clear hx;refine aC (Own w [(x,39,#[.slice A n c]),(x+1,211,bX W O),(x+1+1,171,#[Z f,Z t])]) HD.out.1 ?_;intro w1 h1;have H1:=zh h1;have z0_0:=h1.c 0 0;have z1_0:=h1.c3 1;have z2_0:=h1.c2 2;clear h1;go_wp2_with fail;clear z0_0 z1_0 z2_0;refine(HD.out.2.2 w1).mono ?_;rintro e w2 ⟨⟨Aw,cw,rfl,hr⟩,hb⟩;have h2:=H1.out.call hb;have H2:=zh (zN h2 hr);have z0_0:=h2.c 0 0;clear h2 hr hb;go_wp2_with fail;refine(Js w2 A Aw n c m cw W a hi lo (HD.out.2.1.below H2.out.1.av) hn (Ro H2.out.2) hm1 hm2 hw1 hw2 hm3 J J).mono ?_;rintro e w3 ⟨rfl,hb⟩;have h3:=H2.out.1.call hb;have H3:=zh h3;clear hb z0_0;have z0_0:=h3.c 0 0;clear h3;go_upto_region 16 with (fail)
 have b4:Below w3.heap.size w3 (w3.alloc (.cells #[] 54)):=(Below.refl _ _).alloc (Nat.le_refl _) _;have y0:=(H3.out.call b4).cell 0 0 rfl rfl;rcases(show n=0\/n=1 by omega) with rfl | rfl
 ·obtain ⟨rfl,rfl⟩:=hA0 rfl
  have HA:=zh b4;clear b4;go_wp2_with fail;go_ret2;exact⟨some ⟨w3.heap.size,0,none⟩,0,rfl,aN (World.ownsRow_made w3 #[] 0 (Nat.le_refl _) (by unfold maxLen;omega) rfl) H3.out.av.size,H3.out.av.trans (HA.out.mono H3.out.av.size)⟩
 ·obtain ⟨g,hA,hgl,v0,v1,v2,v3,v4⟩:=(HD.out.2.1.below H3.out.av) J
  subst hA;have hc5:∀ j u,[Z a,Z (a+W),.bool false,Z hi,.int .u64 lo][j]? = some u->(w3.alloc (.cells #[] 54)).cell? ((⟨g,0,none⟩:Addr).add j)=some u:=fun j u hu=>by
   rw[iE];refine(b4.cell (p:=⟨g,j,none⟩) hgl).trans ?_
   match j,hu with
   | 0,hu=>simp at hu;rw[<-hu];exact v0
   | 1,hu=>simp at hu;rw[<-hu];exact v1
   | 2,hu=>simp at hu;rw[<-hu];exact v2
   | 3,hu=>simp at hu;rw[<-hu];exact v3
   | 4,hu=>simp at hu;rw[<-hu];exact v4
   | j+5,hu=>simp at hu
  obtain⟨A5,c5,w5,hrun,hap⟩:=qo (P:=Tryz.prog) (w:=w3.alloc (.cells #[] 54)) (base:=w.heap.size) (t:=39) (ty:=39) (v:=.slice (some ⟨w3.heap.size,0,none⟩) 0 0) (n:=0) (xs:=[]) (a:=⟨g,0,none⟩) (c:=c) (m:=1) Tryz.underlying39 yu rfl J (World.ownsRow_made w3 #[] 0 (Nat.le_refl _) (by unfold maxLen;omega) rfl |> fun h=>aN h H3.out.av.size) rfl hc5 (List.all_eq_true.1 rfl) J J (Nat.le_trans H3.out.av.size b4.size);have hbel:=hap.av (aN (World.ownsRow_made w3 #[] 0 (Nat.le_refl _) (by unfold maxLen;omega) rfl) H3.out.av.size) (H3.out.av.trans (b4.mono H3.out.av.size)) (Nat.le_trans H3.out.av.size b4.size);have HA:=zh (zN hap.row hbel);clear hap hbel hc5 b4 v0 v1 v2 v3 v4;go_wp2_with (at_builtin;refine wpList_append_run rfl (.tmp 45) (.tmp 46) rfl rfl rfl hrun ?_);go_ret2;exact⟨A5,c5,rfl,HA.out.1,HA.out.2⟩
end
section
open Go.RowKit Go.Maps A
theorem Oo(w:World): (binOp .eql 190 (.slice none 0 0) (.slice none 0 0)).run Tryz.prog w=.ok (.bool true) w:=by kernel_rfl
theorem LJ(a:Addr)(n c:Nat)(w:World): (binOp .eql 190 (.slice (some a) n c) (.slice none 0 0)).run Tryz.prog w=.ok (.bool false) w:=by kernel_rfl
def Rz(w:World)(n:Nat)(q:Nat->bC)(e:Ending)(w':World): Prop:=∃ A c,e=.returned (.slice A n c)/\dL w' w.heap.size (.slice A n c) q n/\Below w.heap.size w w'
theorem Px{w:World}{n:Nat}{a:Addr}{q:Nat->bC}(h:jw w (some a) n q): ∀ j u,(gZ q n)[j]? = some u->w.cell? (a.add j)=some u:=by
 rcases Nat.eq_zero_or_pos n with h0 | h0
 ·subst h0
  intro j u hu
  cases hu
 ·obtain ⟨bb,he,-⟩:=h h0
  injection he with he
  subst he;exact h.news
theorem F8(w:World)(A:Option Addr)(n c:Nat)(q:Nat->bC)(h:jw w A n q)(hn:n<=900)(h0:A=none->n=0/\c=0):
  Calls Tryz.prog 180 #[.slice A n c] w (Rz w n q):=by
 have e1:=Oo;have e2:=LJ
 match A,h,h0 with
 | none,_,h0=>
  obtain⟨rfl,rfl⟩:=h0 rfl;clear h0
  go_enter Tryz.func180,Tryz.ntmps180
  go_wp2_with fail;go_ret;exact⟨none,0,rfl,⟨rfl,.inl ⟨rfl,rfl⟩⟩,Below.refl _ _⟩
 | some a,h,_=>
  have hsl:jw (w.alloc (.cells #[] 197)) (some a) n q:=h.below ((Below.refl w.heap.size w).alloc (Nat.le_refl _) (.cells #[] 197));obtain⟨A6,c6,w6,hrun,hap⟩:=qo (P:=Tryz.prog) (w:=w.alloc (.cells #[] 197)) (base:=w.heap.size) (t:=190) (ty:=190) (v:=.slice (some ⟨w.heap.size,0,none⟩) 0 0) (n:=0) (m:=n) (xs:=[]) (news:=gZ q n) (a:=a) (c:=c) Tryz.underlying190 lM rfl J (World.ownsRow_made w #[] 0 (Nat.le_refl _) (by unfold maxLen;omega) rfl) (by rw[sG]) (Px hsl) (Ak q n) J J (by simp);have hr6:=hap.row;rw[List.nil_append] at hr6
  rw[Nat.zero_add] at hr6 hrun
  have hb6:Below w.heap.size w w6:=((Below.refl w.heap.size w).alloc (Nat.le_refl _) (.cells #[] 197)).trans (hap.keeps.below (by simp) (fun k hk e=>by simp[Value.ownBlock] at e;omega));have HE:=zh (zN hr6 hb6);clear h hsl hap hr6 hb6
  go_enter Tryz.func180,Tryz.ntmps180
  go_wp2_with (at_builtin;refine wpList_append_run rfl (.tmp 5) (.tmp 6) rfl rfl rfl hrun ?_);go_ret;exact⟨A6,c6,rfl,HE.out.1,HE.out.2⟩
def iM(m:Nat)(q:Nat->bC)(f:Nat->Pt)(j:Nat): bC:=if j < m then q j else ⟨(f (j-m)).t,(f (j-m)).t+1,bR (f (j-m))⟩
theorem MO(m:Nat)(q:Nat->bC)(f:Nat->Pt)(k:Nat): iM m q f (m+k)=⟨(f k).t,(f k).t+1,bR (f k)⟩:=by
 unfold iM;rw[if_neg J,Nat.add_sub_cancel_left]
theorem NI(W:Int){s:Int->Option Ag}{d:Array (Int × Ag)}{t0:Int}{y:Ag}{K:Nat}(h:jG s d)(hK:K<=1)(hs:∀ x,s x=if 0 < K/\x=t0 then some y else none): d.size=K/\∀ j,j < K->qd W d j=⟨t0,t0+W,y⟩:=by
 obtain⟨l⟩:=d;have h1:=h.val;have h2:=h.all;have h3:=h.inc;simp only at h1 h2 h3
 have hk:∀ p ∈ l,0 < K/\p=(t0,y):=fun p hp=>by
  have e:=h1 p hp;rw[hs] at e
  split at e
  ·next hc=>
   injection e with e
   exact⟨hc.1,Prod.ext hc.2 e.symm⟩
  ·cases e
 match l,hk,h2,h3 with
 | [],hk,h2,h3=>
  rcases Nat.eq_zero_or_pos K with h0 | h0
  ·exact ⟨h0.symm,fun j hj=>absurd hj J⟩
  ·obtain ⟨p,hp,-⟩:=h2 t0 (by rw[hs,if_pos ⟨h0,rfl⟩];rfl)
   cases hp
 | [p],hk,h2,h3=>
  obtain⟨h4,rfl⟩:=hk p List.mem_cons_self;obtain rfl:K=1:=J;refine⟨rfl,fun j hj=>?_⟩;obtain rfl:j=0:=J;rfl
 | p :: p' :: r,hk,h2,h3=>
  obtain⟨-,rfl⟩:=hk p List.mem_cons_self;obtain⟨-,rfl⟩:=hk p' (List.mem_cons_of_mem _ List.mem_cons_self);have:=(List.pairwise_cons.1 h3).1 (t0,y) List.mem_cons_self;exact absurd this J
theorem sQ{w:World}{B n c:Nat}{A:Option Addr}{a b hi lo:Int}(h:w.ownsRow B 54 5 (.slice A n c) n (Il n a b hi lo)): rM w A n a b hi lo:=fun hn=>by
 obtain⟨A',c',e,hcc,hg⟩:=aH h;injection e with ea eb ec
 obtain⟨g,hA',hb,hl⟩:=hg hn;have hA:A=some ⟨g,0,none⟩:=ea.trans hA';subst hA;have hr:Il n a b hi lo=[Z a,Z b,.bool false,Z hi,.int .u64 lo]:=by unfold Il;rw[if_neg J]
 rw[hr] at h
 have e:=fun i v hv=>(World.ownsRow.cells h (g:=g) rfl i v hv)
 simp only[iE] at e
 exact⟨g,rfl,hl,e 0 _ rfl,e 1 _ rfl,e 2 _ rfl,e 3 _ rfl,e 4 _ rfl⟩
theorem Pz{w:World}{D D':Nat->Prop}{A:Option Addr}{n:Nat}{f:Nat->Pt}(h:dN w D A n f)(hD:∀ q,D q->D' q): dN w D' A n f:=fun hn=>by
 obtain⟨b,off,h1,h2,h3⟩:=h hn;exact⟨b,off,h1,hD _ h2,h3⟩
structure KN(w:World)(fr tu W O a b:Int)(A:Option Addr)(n:Nat)(f:Nat->Pt)(A2:Option Addr)(m c2:Nat)(q:Nat->bC)(K:Nat)(y:Ag)(nw:Nat): Prop where
 kind:bP W O
 sl:dN w (fun q=>q < w.heap.size) A n f
 sb:jw w A2 m q
 le:m+n<=900
 nil:A2=none->m=0/\c2=0
 lies:yC fr tu a b n f m q
 val:∀ j,j < n->bI (f j).v
 rise:sU (m+n) (iM m q f)
 join:∃ mm,mq W O (m+n) (iM m q f) mm
 K1:K<=1
 one:∀ x,gQ W O (iM m q f) (m+n) x=if 0 < K/\x=aD W O fr then some y else none
 pos:0 < y.n
 tf:aP fr
 tt:aP tu
 ft:fr < tu
 nwe:(aD W O (tu-1)-aD W O fr) / W+1=(nw:Nat)
 nw2:nw<=65536
 nw3:(nw:Int)*W<=2305843009213693952
theorem BU(w:World)(fr tu W O ti a b:Int)(A A2:Option Addr)(n c m c2 K nw:Nat)(f:Nat->Pt)(q:Nat->bC)(y:Ag)(h:KN w fr tu W O a b A n f A2 m c2 q K y nw):
  Calls Tryz.prog 113 #[.agg (qW 1 fr tu W O 0),.agg (dO ti a b),.slice A n c,.slice A2 m c2] w (iD w K (aD W O fr) (aD W O fr+W) (aj y.s) (au y.s)):=by
 obtain⟨x,hx⟩:∃ x,x=w.heap.size:=⟨_,rfl⟩
 have o0:=Own.eD w hx 43 (qW 1 fr tu W O 0) 102 (dO ti a b);have k1:=fun wx=>wW wx 1 fr tu W O h.kind J J h.tf.1 (by have:=h.ft;omega) h.tt.2
 have k2:=fun wx hsl hsb=>Jw wx 1 fr tu W O 0 ti a b A A2 n c m c2 f q hsl hsb (by have:=h.le;omega) (by have:=h.le;omega) h.lies
 have k3:=fun wx=>za wx 1 fr tu W O 0
 have hle:=h.le;have HD:=zh (zN o0 h);have hK1:=h.K1;obtain⟨mm,hmm⟩:=h.join;have HJ:=zh hmm;clear o0 h hmm;unfold dO at k2
 unfold qW at k1 k2 k3
 unfold qW dO
 go_enter Tryz.func113,Tryz.ntmps113
 go_upto_region 1 with (fail)
 rw[<-hx];clear hx;refine aC (Own w [(x,43,qW 1 fr tu W O 0),(x+1,102,dO ti a b)]) HD.out.1 ?_;intro w1 h1;have H1:=zh h1;have z0_0:=h1.c12 0;have z1_0:=h1.c3 1;clear h1;go_wp2_with fail;clear z0_0 z1_0;refine(k1 w1).mono ?_;rintro e w2 ⟨rfl,hb2⟩;have h2:=H1.out.call hb2;have H2:=zh h2;have z0_0:=h2.c12 0;have z1_0:=h2.c3 1;clear h2 hb2;go_wp2_with fail;clear z0_0 z1_0;refine(k2 w2 (Pz (HD.out.2.sl.below H2.out.av) (fun z hz=>Nat.lt_of_lt_of_le hz H2.out.size)) (HD.out.2.sb.below H2.out.av)).mono ?_;rintro e w3 ⟨rfl,hb3⟩;have H3:=zh (H2.out.call hb3);clear hb3;go_wp2_with fail;refine(F8 w3 A2 m c2 q (HD.out.2.sb.below H3.out.av) J HD.out.2.nil).mono ?_;rintro e w4 ⟨A4,c4,rfl,hr4,hb4⟩;have hr4':dL w4 w.heap.size (.slice A4 m c4) (iM m q f) (m+0):=by
  show w4.ownsRow _ _ _ _ _ (gZ (iM m q f) m)
  rw[qZ (q':=q) m (fun j hj=>by unfold iM;rw[if_pos hj])];exact aN hr4 H3.out.size
 have H4:=zh (zN hr4' (H3.out.call hb4));clear hr4 hr4' hb4;go_wp2_with fail
 go_loopw [11,36] (fun o i wr=>∃ k:Nat,k<=n/\i=.int .i64 (k:Nat)/\dL wr w.heap.size o (iM m q f) (m+k)/\Own w [(x,43,qW 1 fr tu W O 0),(x+1,102,dO ti a b)] wr) (fun _ i _=>n-(intOf i).toNat)
 case atStart=>exact ⟨0,Nat.zero_le _,rfl,H4.out.1,H4.out.2⟩
 case round=>
  obtain⟨k,hk,rfl,hr,hO⟩:=hrel;obtain⟨wo,rfl⟩:∃ wo,wo=wr:=⟨wr,rfl⟩
  obtain⟨A3,c3,hv3,-,-⟩:=aH hr;subst hv3
  by_cases hlt:k < n
  ·have hki:(k:Int) < (n:Int):=J
   obtain⟨bb,off,rfl,hbl,hc⟩:=(HD.out.2.sl.below hO.av) J;obtain⟨u0,u1,u2⟩:=hc k hlt;have hv:=HD.out.2.val k hlt;have htb:=HJ.out.tb (m+k) J;have hv8:gZ (iM m q f) (m+(k+1))=gZ (iM m q f) (m+k) ++ mI (iM m q f (m+k)):=rfl;rw[MO] at htb hv8
   obtain⟨p,hp⟩:∃ p,p=f k:=⟨_,rfl⟩
   rw[<-hp] at u0 u1 u2 hv htb hv8
   obtain⟨z,hz⟩:∃ z,z=bR p:=⟨_,rfl⟩
   have k4:∀ wx:World,Calls Tryz.prog 181 #[.agg #[.int .i64 p.t,.int .i64 p.v,.int .i64 p.s]] wx (fun e w'=>e=.returned (.agg #[.int .i64 z.n,.int .i64 (aj z.s),.int .u64 (au z.s),.int .i64 z.lo,.int .i64 z.hi,.int .i64 z.f.t,.int .i64 z.f.v,.int .i64 z.f.s,.int .i64 z.l.t,.int .i64 z.l.v,.int .i64 z.l.s])/\Below wx.heap.size wx w'):=fun wx=>by rw[hz];exact Bt p hv wx
   rw[<-hz] at hv8
   have e1:IntKind.i64.wrap (p.t+1)=p.t+1:=by
    have h1:=htb.1;have h2:=htb.2;simp only at h1 h2
    simp only[IntKind.wrap_i64];omega
   have HB:=zh (zN hr (zN hO hv8));clear hr hO hv8 hc hbl hv htb hp hz;go_upto_region 10 with (fail)
   obtain⟨g,hg⟩:∃ g,g=wo.heap.size:=⟨_,rfl⟩
   have oy:=Own.bn wo hg 149 #[.int .i64 p.t,.int .i64 p.v,.int .i64 p.s]
   rw[<-hg];refine aC (Own wo [(g,149,#[.int .i64 p.t,.int .i64 p.v,.int .i64 p.s])]) oy ?_;clear oy u0 u1 u2 hg;intro w5 h5;have hS:ay w5.drew g 149 #[.int .i64 p.t,.int .i64 p.v,.int .i64 p.s]:=h5.drew.get 0 rfl
   have H5:=zh h5.drew;clear h5;have hS:(fun wx=>ay wx g 149 #[.int .i64 p.t,.int .i64 p.v,.int .i64 p.s]) (w5.drew):=hS;refine aA (fun wx=>ay wx g 149 #[.int .i64 p.t,.int .i64 p.v,.int .i64 p.s]) (by kernel_rfl) hS ?_;refine zB [0,1,2,3,4,5,6,7] ?_;iterate 8 (refine zV ?_ ?_ hS ?_;rotate_left;(intro w' hSw;have v0:=hSw.cell 0;have v1:=hSw.cell 1;have v2:=hSw.cell 2;go_simp<;>with_reducible rfl);try simp only[zP])
   refine zE ?_;refine zC 8 fun K HK=>?_
   go_simp;refine(k4 w5.drew).mono ?_;rintro e w6 ⟨rfl,hb6⟩;have h6:=H5.out.call hb6;have H6:=zh h6;clear hb6 h6;go_wp2_with fail;refine HK.out.zt (fun wx=>ay wx g 149 #[.int .i64 p.t,.int .i64 p.v,.int .i64 p.s]) (fun _ h=>h) (H6.out.get 0 rfl) ?_;clear HK hS;intro hS;try simp only[zP]
   refine zt 9 hS ?_;try simp only[zP]
   have hr6:dL w6 w.heap.size (.slice A3 (m+k) c3) (iM m q f) (m+k):=aG HB.out.1 (S:=fun _=>False) (Keeps.of_below H6.out.av) (fun _ _ h=>h);have ho6:=HB.out.2.1.call H6.out.av;obtain⟨A7,c7,w7,hrun,hap⟩:=iO (P:=Tryz.prog) (w:=w6) (t:=190) (ty:=190) (cs:=#[.int .i64 p.t,.int .i64 (p.t+1),.int .i64 z.n,.int .i64 (aj z.s),.int .u64 (au z.s),.int .i64 z.lo,.int .i64 z.hi,.int .i64 z.f.t,.int .i64 z.f.v,.int .i64 z.f.s,.int .i64 z.l.t,.int .i64 z.l.v,.int .i64 z.l.s]) Tryz.underlying190 lM rfl J hr6 rfl (List.all_eq_true.1 rfl) J J ho6.size;have b6:ay w6 g 149 #[.int .i64 p.t,.int .i64 p.v,.int .i64 p.s]:=H6.out.get 0 rfl
   have b7:ay w7 g 149 #[.int .i64 p.t,.int .i64 p.v,.int .i64 p.s]:=b6.keeps hap.keeps (own_ne hr6 b6 (show 197≠149 by decide))
   have hb7:=hap.av hr6 ho6.av ho6.size;have ho7:Own w [(x,43,qW 1 fr tu W O 0),(x+1,102,dO ti a b)] w7:=⟨hb7,fun bq hbq=>⟨(ho6.blk bq hbq).1,(ho6.blk bq hbq).2.keeps hap.keeps (fun hs=>by
    refine own_ne hr6 (ho6.blk bq hbq).2 ?_ hs;simp only[List.mem_cons,List.not_mem_nil,or_false] at hbq
    rcases hbq with rfl | rfl
    ·show 197≠43;decide
    ·show 197≠102;decide)⟩,ho6.nd⟩
   have hr7:dL w7 w.heap.size (.slice A7 (m+k+1) c7) (iM m q f) (m+(k+1)):=by
    show w7.ownsRow _ _ _ _ _ (gZ (iM m q f) (m+(k+1)))
    rw[HB.out.2.2];exact hap.row
   have H7:=zh (zN hr7 ho7);clear hap hb7 ho7 hr7 hr6 ho6;refine zC 10 fun K HK=>?_
   go_simp;obtain⟨w65,hw65⟩:∃ w65,w65=w6.alloc (.cells #[.int .i64 p.t,.int .i64 (p.t+1),.int .i64 z.n,.int .i64 (aj z.s),.int .u64 (au z.s),.int .i64 z.lo,.int .i64 z.hi,.int .i64 z.f.t,.int .i64 z.f.v,.int .i64 z.f.s,.int .i64 z.l.t,.int .i64 z.l.v,.int .i64 z.l.s] 197):=⟨_,rfl⟩
   have b65:ay w65 g 149 #[.int .i64 p.t,.int .i64 p.v,.int .i64 p.s]:=by rw[hw65];exact b6.below ((Below.refl _ _).alloc (Nat.le_refl _) _) b6.lt
   rw[<-hw65] at hrun ⊢
   clear hw65;go_wp2_with fail;refine HK.out.zt (fun wx=>ay wx g 149 #[.int .i64 p.t,.int .i64 p.v,.int .i64 p.s]) (fun _ h=>h) (b65) ?_;clear HK hS;intro hS;try simp only[zP]
   refine zC 11 fun K HK=>?_
   refine dA rfl (.tmp 40) (.tmp 50) rfl rfl rfl hrun ?_;refine HK.out.zt (fun wx=>ay wx g 149 #[.int .i64 p.t,.int .i64 p.v,.int .i64 p.s]) (fun _ h=>h) (b7) ?_;clear HK hS;intro hS;try simp only[zP]
   refine zt 12 hS ?_;try simp only[zP]
   refine zD ?_;try simp only[zP]
   clear hS b6 b65 b7 hrun;go_wp2_with fail
   go_roundw
   case rel=>exact ⟨k+1,J,by first | rfl | go_num,H7.out.1,H7.out.2⟩
   case measure=>simp[intOf]<;>omega
  ·obtain rfl:k=n:=J
   have HB:=zh (zN hr hO);clear hr hO;go_wp2_with fail;refine(CQ wo A3 (m+k) c3 (iM m q f) HB.out.1.Fx HD.out.2.rise J).mono ?_;rintro e w5 ⟨rfl,hb5⟩;have h5:=HB.out.2.call hb5;have H5:=zh (zN (HB.out.1.Fx.below hb5) h5);have z0_0:=h5.c12 0;have z1_0:=h5.c3 1;clear h5 hb5;go_wp2_with fail;clear z0_0 z1_0;refine(k3 w5).mono ?_;rintro e w6 ⟨rfl,hb6⟩;have H6:=zh (zN (H5.out.1.below hb6) (H5.out.2.call hb6));clear hb6;go_wp2_with fail;refine(Jf w6 A3 (m+k) c3 (iM m q f) mm W O H6.out.1 J HJ.out HD.out.2.kind).mono ?_;rintro e w7 ⟨d,A7,c7,rfl,hr7,hb7,hbk⟩;obtain⟨hd,hqd⟩:=NI W hbk HD.out.2.K1 HD.out.2.one;rw[Ea,hd] at hr7
   rw[hd];have hs7:jw w7 A7 K (fun _=>⟨aD W O fr,aD W O fr+W,y⟩):=by
    have e:gZ (qd W d) K=gZ (fun _=>⟨aD W O fr,aD W O fr+W,y⟩) K:=qZ K (fun j hj=>hqd j hj);rw[e] at hr7
    exact dL.Fx hr7
   have H7:=zh (zN hs7 (H6.out.2.call hb7));clear hr7 hb7 hbk hd hqd hs7;obtain⟨t0,ht0⟩:∃ t,t=aD W O fr:=⟨_,rfl⟩
   have HT:=zh ht0;clear ht0;go_wp2_with fail
   go_loopw [16,67] (fun r i wr=>∃ (j c8:Nat) (A8:Option Addr),j<=K/\i=.int .i64 (j:Nat)/\r=.slice A8 j c8/\(j=0->A8=none/\c8=0)/\wr.ownsRow w.heap.size 54 5 (.slice A8 j c8) j (Il j t0 (t0+W) (aj y.s) (au y.s))/\(j < K->jw wr A7 K (fun _=>⟨t0,t0+W,y⟩))/\Own w [(x,43,qW 1 fr tu W O 0),(x+1,102,dO ti a b)] wr) (fun _ i _=>K-(intOf i).toNat)
   case atStart=>exact ⟨0,0,none,Nat.zero_le _,rfl,rfl,fun _=>⟨rfl,rfl⟩,⟨rfl,.inl ⟨rfl,rfl⟩⟩,fun _=>by rw[HT.out];exact H7.out.1,H7.out.2⟩
   case round=>
    obtain⟨j,c8,A8,hj,rfl,rfl,hn8,hr8,hs8,hO⟩:=hrel;obtain⟨wo2,rfl⟩:∃ wo2,wo2=wr:=⟨wr,rfl⟩
    by_cases hlt:j < K
    ·obtain ⟨b2,rfl,hb2,hc2⟩:=hs8 hlt J
     have hck:=hc2 j hlt;obtain⟨rfl,rfl⟩:=hn8 J;obtain rfl:j=0:=J;have K1:K=1:=J;have d1:(0:Int) < (K:Int):=J;have v0:=hck 0 _ rfl;have v1:=hck 1 _ rfl;have v2:=hck 2 _ rfl;have v3:=hck 3 _ rfl;have v4:=hck 4 _ rfl;have v5:=hck 5 _ rfl;have v6:=hck 6 _ rfl;have v7:=hck 7 _ rfl;have v8:=hck 8 _ rfl;have v9:=hck 9 _ rfl;have v10:=hck 10 _ rfl;have v11:=hck 11 _ rfl;have v12:=hck 12 _ rfl;simp only[Nat.zero_mul,Nat.zero_add] at v0 v1 v2 v3 v4 v5 v6 v7 v8 v9 v10 v11 v12
     have k5:=fun wx=>F7 wx y HD.out.2.pos
     have HB3:=zh (zN hO K1);clear hr8 hs8 hO hb2 hc2 hck hn8 K1;go_upto_region 20 with (fail)
     obtain⟨g,hg⟩:∃ g,g=wo2.heap.size:=⟨_,rfl⟩
     have oy:=HB3.out.1.alloc hg 197 #[.int .i64 t0,.int .i64 (t0+W),.int .i64 y.n,.int .i64 (aj y.s),.int .u64 (au y.s),.int .i64 y.lo,.int .i64 y.hi,.int .i64 y.f.t,.int .i64 y.f.v,.int .i64 y.f.s,.int .i64 y.l.t,.int .i64 y.l.v,.int .i64 y.l.s]
     rw[<-hg];refine aC (Own w [(x,43,qW 1 fr tu W O 0),(x+1,102,dO ti a b),(g,197,#[.int .i64 t0,.int .i64 (t0+W),.int .i64 y.n,.int .i64 (aj y.s),.int .u64 (au y.s),.int .i64 y.lo,.int .i64 y.hi,.int .i64 y.f.t,.int .i64 y.f.v,.int .i64 y.f.s,.int .i64 y.l.t,.int .i64 y.l.v,.int .i64 y.l.s])]) oy ?_;clear oy hg v0 v1 v2 v3 v4 v5 v6 v7 v8 v9 v10 v11 v12;intro w8 h8;have H8:=zh h8;have z0_0:=h8.c12 0;have z1_0:=h8.c3 1;have z2_0:=h8.c13 2;clear h8;go_wp2_with fail;clear z0_0 z1_0 z2_0;refine(k5 w8).mono ?_;rintro e w9 ⟨rfl,hb9⟩;have h9:=H8.out.call hb9;have H9:=zh h9;clear h9 hb9;obtain⟨hi,hhi⟩:∃ z,z=aj y.s:=⟨_,rfl⟩
     obtain⟨lo,hlo⟩:∃ z,z=au y.s:=⟨_,rfl⟩
     rw[<-hhi,<-hlo];have HH:=zh (zN hhi hlo);clear hhi hlo;go_upto_region 21 with (fail)
     obtain⟨g2,hg2⟩:∃ g,g=w9.heap.size:=⟨_,rfl⟩
     have oz:=H9.out.alloc hg2 52 #[.int .i64 hi,.int .u64 lo]
     rw[<-hg2];refine aC (Own w [(x,43,qW 1 fr tu W O 0),(x+1,102,dO ti a b),(g,197,#[.int .i64 t0,.int .i64 (t0+W),.int .i64 y.n,.int .i64 (aj y.s),.int .u64 (au y.s),.int .i64 y.lo,.int .i64 y.hi,.int .i64 y.f.t,.int .i64 y.f.v,.int .i64 y.f.s,.int .i64 y.l.t,.int .i64 y.l.v,.int .i64 y.l.s]),(g2,52,#[.int .i64 hi,.int .u64 lo])]) oz ?_;clear oz hg2;intro w10 h10;have hz10:w10.ownsRow w.heap.size 54 5 (.slice none 0 0) 0 []:=⟨rfl,.inl ⟨rfl,rfl⟩⟩
     obtain⟨A11,c11,w11,hrun,hap⟩:=iO (P:=Tryz.prog) (w:=w10) (t:=39) (ty:=39) (cs:=#[.int .i64 t0,.int .i64 (t0+W),.bool false,.int .i64 hi,.int .u64 lo]) Tryz.underlying39 yu rfl J hz10 rfl (List.all_eq_true.1 rfl) J J h10.size;have hr11:=hap.row;rw[List.nil_append] at hr11
     have hb11:Below w10.heap.size w10 w11:=(hap.keeps.mono (fun q _ h=>(nomatch h:False))).fF;have ho11:=(h10.take 2).call hb11;have H11:=zh (zN hr11 ho11);have z0_0:=h10.c12 0;have z1_0:=h10.c3 1;have z2_0:=h10.c13 2;have z3_0:=h10.c2 3;clear h10 hz10 hap hr11 hb11 ho11;go_wp2_with (at_builtin;refine wpList_append_run rfl (.tmp 79) (.tmp 88) rfl rfl rfl hrun ?_)
     go_roundw
     case rel=>
      have hK:=HB3.out.2;refine⟨1,c11,A11,J,by first | rfl | go_num,by first | rfl | go_num,fun h=>absurd h J,?_,fun h=>absurd h J,H11.out.2⟩;rw[<-HH.out.1,<-HH.out.2];exact H11.out.1
     case measure=>simp[intOf]<;>omega
    ·obtain rfl:j=K:=J
     have HB3:=zh (zN hr8 (zN hn8 hO));clear hr8 hn8 hO hs8;go_upto_region 23 with (fail)
     have hS:=HB3.out.2.2.drew;have hr9:wo2.drew.ownsRow w.heap.size 54 5 (.slice A8 j c8) j (Il j t0 (t0+W) (aj y.s) (au y.s)):=aG HB3.out.1 (S:=fun _=>False) (Keeps.of_below (Below.refl _ _).drew) (fun _ _ h=>h);have HS:=zh (zN hS (sQ hr9));clear hr9;have hS:(Own w [(x,43,qW 1 fr tu W O 0),(x+1,102,dO ti a b)]) (wo2.drew):=hS;refine aA (Own w [(x,43,qW 1 fr tu W O 0),(x+1,102,dO ti a b)]) (by kernel_rfl) hS ?_;refine zB [0,1,3,4,5,6,7,8,9] ?_;iterate 9 (refine zV ?_ ?_ hS ?_;rotate_left;(intro w' hSw;obtain⟨v0,v1,v2,v3,v4,v5,v6,v7,v8,v9,v10,v11⟩:=hSw.c12 0;go_simp<;>with_reducible rfl);try simp only[zP])
     refine zE ?_;refine zC 2 fun K HK=>?_
     go_simp;refine(k3 wo2.drew).mono ?_;rintro e w8 ⟨rfl,hb8⟩;have H8:=zh (zN (HS.out.1.call hb8) (HS.out.2.below hb8));clear hb8;go_wp2_with fail;refine HK.out.zt (Own w [(x,43,qW 1 fr tu W O 0),(x+1,102,dO ti a b)]) (fun _ h=>h) (H8.out.1) ?_;clear HK hS;intro hS;try simp only[zP]
     refine zC 10 fun K HK=>?_
     go_simp;refine(Jr w8 A8 j c8 nw W O fr tu (aj y.s) (au y.s) (by rw[<-HT.out];exact H8.out.2) HD.out.2.K1 HB3.out.2.1 HD.out.2.kind HD.out.2.tf HD.out.2.tt HD.out.2.ft HD.out.2.nwe HD.out.2.nw2 HD.out.2.nw3).mono ?_;rintro e w9 ⟨A9,c9,rfl,hr9,hb9⟩;have H9:=zh (zN (aN hr9 H8.out.1.av.size) (H8.out.1.call hb9));clear hr9 hb9;go_wp2_with fail;refine HK.out.zt (Own w [(x,43,qW 1 fr tu W O 0),(x+1,102,dO ti a b)]) (fun _ h=>h) (H9.out.2) ?_;clear HK hS;intro hS;try simp only[zP]
     refine zB [11,12,13,14] ?_;iterate 4 (refine zv hS ?_;try simp only[zP])
     refine zE ?_;refine zD ?_;try simp only[zP]
     clear hS;go_wp2_with fail;go_ret2;exact⟨A9,c9,rfl,H9.out.1,H9.out.2.av⟩
end
end Go.Proofs.YtmffkpkgbdcnjaaGreatDoor
