/-
  Texts of this proof, joined.
-/
import Derived.Test.YtmffkpkgbdcnjaaGreatDoorTopExact06
import Derived.Test.YtmffkpkgbdcnjaaGreatDoorTopExact03
set_option linter.unusedVariables false
set_option linter.unusedSimpArgs false
set_option maxRecDepth 100000
set_option maxHeartbeats 20000000
namespace Go.Proofs.YtmffkpkgbdcnjaaGreatDoor
section
open Go.RowKit Go.Maps
structure GN(w0 w1 w2:World)(A:Option Addr)(n:Nat)(f:Nat->Pt)(v:Value)(l:List Pt)(w:World): Prop where
 row:bB w w0.heap.size v l
 av:Below w0.heap.size w0 w
 sl:dN w (fun q=>w1.heap.size<=q/\q < w2.heap.size) A n f
 far:∀ g,v.ownBlock=some g->g < w1.heap.size\/w2.heap.size<=g
 sz:w2.heap.size<=w.heap.size
theorem GN.call{w0 w1 w2 w w':World}{A:Option Addr}{n:Nat}{f:Nat->Pt}{v:Value}{l:List Pt}(h:GN w0 w1 w2 A n f v l w)(hb:Below w.heap.size w w'): GN w0 w1 w2 A n f v l w':=
 ⟨h.row.below hb,h.av.trans (hb.mono h.av.size),h.sl.below hb,h.far,Nat.le_trans h.sz hb.size⟩
theorem GN.app{w0 w1 w2 w w':World}{A:Option Addr}{n:Nat}{f:Nat->Pt}{v v':Value}{l l':List Pt}(h:GN w0 w1 w2 A n f v l w)(hr:bB w' w0.heap.size v' l')(hg:w.grownBy w' v.ownBlock)(hx:v'.ownBlock=v.ownBlock\/v'.ownBlock=some w.heap.size): GN w0 w1 w2 A n f v' l' w':=by
 refine⟨hr,BJ h.av h.row hg,h.sl.keep (fun q hq hlt=>hg.block q hlt (fun e=>?_)),fun g hgq=>?_,Nat.le_trans h.sz hg.size⟩
 ·rcases h.far q e.symm with h1 | h1
  ·have:=hq.1;omega
  ·have:=hq.2;omega
 ·rcases hx with hx | hx
  ·exact h.far g (by rw[<-hx];exact hgq)
  ·rw[hx] at hgq
   injection hgq with hgq
   right
   have:=h.sz;omega
theorem Q7(n:Nat): min (1024*fq n) n=n:=by unfold fq;omega
end
section
open Go.RowKit
theorem sP{w:World}{base c n:Nat}{v:Value}{l l2:List Pt}{A:Option Addr}{D:Nat->Prop}{ty:TypeId}(hown:bB w base v l)(hl2:l2.length=n)(hr:dN w D A n (fun j=>l2.getD j ⟨0,0,0⟩))(h63:l.length+n < 4294967296)(hbase:base<=w.heap.size):
  ∃ v' w',(Builtin.append_ #[186,186] ty #[v,.slice A n c]).run Tryz.prog w=.ok v' w'/\bB w' base v' (l ++ l2)/\w.grownBy w' v.ownBlock/\(v'.ownBlock=v.ownBlock\/v'.ownBlock=some w.heap.size):=by
 subst hl2;obtain⟨i,hi,hz,hs,hb⟩:=info_parts rW;rcases A with _ | ad
 ·have hm:l2=[]:=by
   cases l2 with
   | nil=>rfl
   | cons p l2=>
    obtain⟨b,off,h,_⟩:=hr (by simp)
    cases h
  subst hm;refine⟨v,w,?_,by simpa using hown,World.grownBy.refl w _,.inl rfl⟩;rcases hown.2 with ⟨rfl,h0⟩ | ⟨g,cap,cur,rfl,_,_,hnc,_⟩
  ·simp[Builtin.append_,run_underlying Tryz.underlying186,sizeOf,typeInfo,hi,Builtin.lenOf,Builtin.firstCells]
  ·simp[Builtin.append_,run_underlying Tryz.underlying186,sizeOf,typeInfo,hi,Builtin.lenOf,Builtin.firstCells,hnc,storeCells]
 ·have hcells:∀ j u,(dZ l2)[j]? = some u->w.cell? (ad.add j)=some u:=by
   intro j u hu;obtain⟨p,hp,he⟩:=xE l2 j u hu;have hjl:j / 3 < l2.length:=(List.getElem?_eq_some_iff.1 hp).1;obtain⟨b,off,h,_,hc⟩:=hr J;injection h with h
   subst h;have hadd:(⟨b,off,none⟩:Addr).add j=⟨b,off+j,none⟩:=by unfold Addr.add;split<;>simp_all
   rw[hadd];obtain⟨c0,c1,c2⟩:=hc (j / 3) hjl;have e:(fun j=>l2.getD j (⟨0,0,0⟩:Pt)) (j / 3)=p:=by
    show l2.getD (j / 3) _=p
    rw[List.getD_eq_getElem?_getD,hp];rfl
   rw[e] at c0 c1 c2
   rcases(show j%3=0\/j%3=1\/j%3=2 by omega) with h3 | h3 | h3
   ·rw[show off+j=off+j / 3*3 by omega,he,if_pos h3];exact c0
   ·rw[show off+j=off+j / 3*3+1 by omega,he,if_neg J,if_pos h3];exact c1
   ·rw[show off+j=off+j / 3*3+2 by omega,he,if_neg J,if_neg J];exact c2
  obtain⟨v',w',h1,h2,h3,_,h4⟩:=run_append_own_at (P:=Tryz.prog) w base 186 ty 149 i _ 3 24 Tryz.underlying186 hi hz hs hb rfl (by decide) v l.length (dZ l) hown ad l2.length c (dZ l2) (AQ l2) hcells (GH l2) (by unfold maxLen;omega) J hbase;refine⟨v',w',h1,?_,h3,h4⟩;unfold bB;rw[sN,List.length_append];exact h2
theorem wM{w:World}{base c n:Nat}{v:Value}{l l2:List Pt}{A:Option Addr}{D:Nat->Prop}{ops:Array Oper}{rest:List Oper}{o:Oper}{a:Act}{Q:Exit->Act->World->Prop}(hg:o.guard=none)(s x:Operand)(ho:o.op=.call { callee:=.builtin .append,args:=#[s,x],argTypes:=#[186,186] })(hs:a.eval s=v)(hx:a.eval x=.slice A n c)(hown:bB w base v l)(hl2:l2.length=n)(hr:dN w D A n (fun j=>l2.getD j ⟨0,0,0⟩))(h63:l.length+n < 4294967296)(hbase:base<=w.heap.size)(h:∀ v' w',bB w' base v' (l ++ l2)->w.grownBy w' v.ownBlock->(v'.ownBlock=v.ownBlock\/v'.ownBlock=some w.heap.size)->wpList Tryz.prog ops Q rest (a.put o.dst v') w'): wpList Tryz.prog ops Q (o :: rest) a w:=by
 refine wpList_plain hg fun K hK=>?_
 obtain⟨v',w',hrun,h2,h3,h4⟩:=sP (ty:=o.type) (c:=c) hown hl2 hr h63 hbase;unfold Oper.wp execOp;simp only[ho,resolve,invoke,builtin,Sem.run_bind,Sem.run_pure,Result.andThen_ok,List.map_toArray,List.map_cons,List.map_nil,hs,hx,hrun];exact hK _ _ (h v' w' h2 h3 h4)
theorem dA{P:Program}{t:TypeId}{w w':World}{v u v':Value}{ops:Array Oper}{o:Oper}{a:Act}{K:Act->World->Prop}{Q:Exit->Act->World->Prop}{E:Prop}(hgd:o.guard=none)(s x:Operand)(ho:o.op=.call { callee:=.builtin .append,args:=#[s,x],argTypes:=#[t,t] })(hs:a.eval s=v)(hx:a.eval x=u)(hrun:(Builtin.append_ #[t,t] o.type #[v,u]).run P w=.ok v' w')(h:K (a.put o.dst v') w'):
  if Region.wanted o (yielded ops a.tmps)=true then Oper.wp P o a w K Q else E:=by
 have hw:Region.wanted o (yielded ops a.tmps)=true:=by simp[Region.wanted,hgd]
 rw[if_pos hw];unfold Oper.wp execOp;simp only[ho,resolve,invoke,builtin,Sem.run_bind,Sem.run_pure,Result.andThen_ok,List.map_toArray,List.map_cons,List.map_nil,hs,hx,hrun];exact h
theorem kZ{w:World}{D:Nat->Prop}{bb off n j:Nat}{f:Nat->Pt}(h:dN w D (some ⟨bb,off,none⟩) n f)(hj:j < n): w.cell? ⟨bb,off+j*3,none⟩=some (Z (f j).t)/\w.cell? ⟨bb,off+j*3+1,none⟩=some (Z (f j).v)/\w.cell? ⟨bb,off+j*3+2,none⟩=some (Z (f j).s):=by
 obtain⟨b,o,e,-,hc⟩:=h J;simp only[Option.some.injEq,Addr.mk.injEq] at e
 obtain⟨rfl,rfl,-⟩:=e;exact hc j hj
theorem GD(w:World): (Op.unary .not (.bool false)).run Tryz.prog w=.ok (.bool true) w:=by kernel_rfl
theorem wY(w:World)(n:Nat)(F:FuncId)(caps:Array Value)(hn:n<=1048576)(hcf:∀ (i:Int) (w:World),(callFunc F (#[.int .i64 i] ++ caps)).run Tryz.prog w=.ok (.enter F (#[.int .i64 i] ++ caps)) w)(hF:∀ w1,Below w.heap.size w w1->∀ i:Nat,i < n->Calls Tryz.prog F (#[.int .i64 (i:Nat)] ++ caps) w1 fun e w2=>e=.returned (.bool false)/\Below w1.heap.size w1 w2):
  Calls Tryz.prog 209 #[.int .i64 (n:Nat),.func (.func F) #[] caps] w fun e w'=>e=.returned (.int .i64 (n:Nat))/\Below w.heap.size w w':=by
 have nf:=GD;have HF:=zh hF;clear hF
 go_enter Tryz.func209,Tryz.ntmps209
 go_wp2_with fail
 go_loopw [5,6] (fun s5 s6 wr=>∃ lo:Nat,lo<=n/\s5=.int .i64 (lo:Nat)/\s6=.int .i64 (n:Nat)/\Below w.heap.size w wr) (fun s5 _ _=>n-(intOf s5).toNat)
 case atStart=>exact ⟨0,J,rfl,rfl,Below.refl _ _⟩
 case round=>
  obtain⟨lo,hlo,rfl,rfl,hb⟩:=hrel;have HB:=zh hb;clear hb
  by_cases hlt:lo < n
  ·have hc:=HF.out wr HB.out ((lo+n) / 2) J
   rw[show (((lo+n) / 2:Nat):Int)=((lo:Int)+(n:Int)) / 2 by omega] at hc
   have HC:=zh hc;clear hc;go_wp2_with fail;refine HC.out.mono ?_;rintro e w2 ⟨rfl,hb2⟩;have HB2:=zh (HB.out.trans (hb2.mono HB.out.size));clear hb2;go_wp2_with fail
   go_roundw
   case rel=>exact ⟨(lo+n) / 2+1,J,by go_num,rfl,HB2.out⟩
   case measure=>simp[intOf];omega
  ·obtain rfl:lo=n:=J
   go_wp2_with fail;go_ret;exact⟨rfl,HB.out⟩
theorem wX(w:World)(A:Option Addr)(n c:Nat)(f:Nat->Pt)(hsl:dN w (fun q=>q < w.heap.size) A n f)(hn:n<=1048576)(hrise:∀ j,j+1 < n->(f j).t < (f (j+1)).t):
  Calls Tryz.prog 211 #[.slice A n c] w fun e w'=>e=.returned (.bool true)/\Below w.heap.size w w':=by
 have HS:=zh (zN hsl hrise);clear hsl hrise
 go_enter Tryz.func211,Tryz.ntmps211
 go_wp2_with fail
 go_loopw [7] (fun i wr=>∃ k:Nat,k<=n/\i=.int .i64 (k:Nat)/\Below w.heap.size w wr) (fun i _=>n-(intOf i).toNat)
 case atStart=>exact ⟨0,J,rfl,Below.refl _ _⟩
 case round=>
  obtain⟨k,hk,rfl,hb⟩:=hrel
  by_cases hlt:k < n
  ·have hki:(k:Int) < (n:Int):=J
   obtain⟨bb,off,rfl,-,hc⟩:=(HS.out.1.below hb) J;obtain⟨P0,hP0⟩:∃ P0,P0=f k:=⟨_,rfl⟩
   have hcj:=hc k hlt;rw[<-hP0] at hcj
   have c0:=hcj.1;have c1:=hcj.2.1;have c2:=hcj.2.2;have HB:=zh (zN hb hP0);clear hb hP0 hc hcj;go_upto_region 4 with (fail)
   obtain⟨gp,hgp⟩:∃ gp,gp=wr.heap.size:=⟨_,rfl⟩
   rw[<-hgp];have hal:Below wr.heap.size wr (wr.alloc (.cells #[.int .i64 P0.t,.int .i64 P0.v,.int .i64 P0.s] 149)):=(Below.refl _ _).alloc (Nat.le_refl _) _;refine aC (fun wx=>Below w.heap.size w wx/\ay wx gp 149 #[.int .i64 P0.t,.int .i64 P0.v,.int .i64 P0.s]) ⟨HB.out.1.trans (hal.mono HB.out.1.size),by rw[hgp];exact ay.fresh _ _ _⟩ ?_;rintro w9 ⟨h9,g9⟩;clear c0 c1 c2 hal hgp;have hS:=zN (V.aB h9 (Below.refl _ _).drew) g9.drew;clear h9 g9
   cases k with
   | zero=>
    have hS:(fun wx=>Below w.heap.size w wx/\ay wx gp 149 #[.int .i64 P0.t,.int .i64 P0.v,.int .i64 P0.s]) (w9.drew):=hS;refine aA (fun wx=>Below w.heap.size w wx/\ay wx gp 149 #[.int .i64 P0.t,.int .i64 P0.v,.int .i64 P0.s]) (by kernel_rfl) hS ?_;refine zB [0,1,2] ?_;iterate 3 (refine zv hS ?_;try simp only[zP])
    refine zE ?_;refine zB [3,4,5,6,7,8,9,10,11] ?_;iterate 9 (refine zW hS ?_;try simp only[zP])
    refine zE ?_;refine zt 12 hS ?_;try simp only[zP]
    refine zD ?_;try simp only[zP]
    have HS2:=zh hS.1;clear hS;go_wp2_with fail
    go_roundw
    case rel=>exact ⟨1,J,by go_num,HS2.out⟩
    case measure=>simp[intOf]<;>omega
   | succ k=>
    have d1:decide (P0.t<=(f k).t)=false:=by
     have:=HS.out.2 k hlt;rw[HB.out.2];simp;omega
    have d2:decide ((0:Int) < ((k+1:Nat):Int))=true:=by simp<;>omega
    have d3:decide ((0:Int) < (k:Int)+1)=true:=by simp<;>omega
    have e1:IntKind.i64.wrap (k:Int)=(k:Int):=by simp only[IntKind.wrap_i64];omega
    have e2:(k:Int) < (n:Int):=J;have e3:(0:Int) < (k:Int)+1:=J;have hS:(fun wx=>Below w.heap.size w wx/\ay wx gp 149 #[.int .i64 P0.t,.int .i64 P0.v,.int .i64 P0.s]) (w9.drew):=hS;refine aA (fun wx=>Below w.heap.size w wx/\ay wx gp 149 #[.int .i64 P0.t,.int .i64 P0.v,.int .i64 P0.s]) (by kernel_rfl) hS ?_;refine zB [0,1,2,3,4,5,6,7,8,9,10,11,12] ?_;iterate 13 (refine zV ?_ ?_ hS ?_;rotate_left;(intro w' hSw;have u0:=hSw.2.cell 0;have u1:=(kZ (HS.out.1.below hSw.1) (j:=k) J).1;go_simp<;>with_reducible rfl);try simp only[zP])
    refine zE ?_;refine zD ?_;try simp only[zP]
    have HS2:=zh hS.1;clear hS d1 d2 d3 e1 e2 e3;go_wp2_with fail
    go_roundw
    case rel=>exact ⟨k+1+1,J,by go_num,HS2.out⟩
    case measure=>simp[intOf]<;>omega
  ·obtain rfl:k=n:=J
   have HB:=zh hb;clear hb;go_wp2_with fail;go_ret;exact⟨rfl,HB.out⟩
def bL(x y:Int): Int:=if x < y then -1 else if y < x then 1 else 0
theorem kM(w:World)(x:Int): Calls Tryz.prog 358 #[Z x] w fun e w'=>e=.returned (.bool false)/\Below w.heap.size w w':=by
 go_enter Tryz.func358,Tryz.ntmps358
 go_wp2_with fail;go_ret;exact⟨by simp,Below.refl _ _⟩
theorem jC(w:World)(x y:Int): Calls Tryz.prog 319 #[Z x,Z y] w fun e w'=>e=.returned (Z (bL x y))/\Below w.heap.size w w':=by
 by_cases h1:x < y
 ·have d1:decide (x < y)=true:=by simp[h1]
  have HC:=zh (show bL x y = -1 by unfold bL;rw[if_pos h1]);clear h1
  go_enter Tryz.func319,Tryz.ntmps319
  go_wp2_with fail;refine(kM w x).mono ?_;rintro e w1 ⟨rfl,hb1⟩;have HB:=zh hb1;clear hb1;go_wp2_with fail;refine(kM w1 y).mono ?_;rintro e w2 ⟨rfl,hb2⟩;have HB2:=zh (HB.out.trans (hb2.mono HB.out.size));clear hb2;go_wp2_with fail;go_ret;exact⟨by rw[HC.out];rfl,HB2.out⟩
 ·have d1:decide (x < y)=false:=by simp;omega
  by_cases h2:y < x
  ·have d2:decide (y < x)=true:=by simp[h2]
   have HC:=zh (show bL x y=1 by unfold bL;rw[if_neg h1,if_pos h2]);clear h1 h2
   go_enter Tryz.func319,Tryz.ntmps319
   go_wp2_with fail;refine(kM w x).mono ?_;rintro e w1 ⟨rfl,hb1⟩;have HB:=zh hb1;clear hb1;go_wp2_with fail;refine(kM w1 y).mono ?_;rintro e w2 ⟨rfl,hb2⟩;have HB2:=zh (HB.out.trans (hb2.mono HB.out.size));clear hb2;go_wp2_with fail;go_ret;exact⟨by rw[HC.out];rfl,HB2.out⟩
  ·have d2:decide (y < x)=false:=by simp;omega
   have HC:=zh (show bL x y=0 by unfold bL;rw[if_neg h1,if_neg h2]);clear h1 h2
   go_enter Tryz.func319,Tryz.ntmps319
   go_wp2_with fail;refine(kM w x).mono ?_;rintro e w1 ⟨rfl,hb1⟩;have HB:=zh hb1;clear hb1;go_wp2_with fail;refine(kM w1 y).mono ?_;rintro e w2 ⟨rfl,hb2⟩;have HB2:=zh (HB.out.trans (hb2.mono HB.out.size));clear hb2;go_wp2_with fail;go_ret;exact⟨by rw[HC.out];rfl,HB2.out⟩
theorem BR(w:World)(g c:Nat)(u a b:Int)(hu:u≠0)(hg:ay w g 3 #[Z u,Z a,Z b]): Calls Tryz.prog 318 #[.slice (some ⟨g,0,none⟩) 3 c] w fun e w'=>e=.returned (Z u)/\Below w.heap.size w w':=by
 have z0:=hg.cell 0;have d1:(u == 0)=false:=by simp[hu]
 have HG:=zh hg;clear hg hu
 go_enter Tryz.func318,Tryz.ntmps318
 go_wp2_with fail
 go_loopw [8] (fun i wr=>i=Z 0/\wr=w) (fun _ _=>0)
 case atStart=>exact ⟨rfl,rfl⟩
 case round=>
  obtain⟨rfl,rfl⟩:=hrel;go_wp2_with fail;go_ret;exact⟨rfl,Below.refl _ _⟩
theorem wI{w wx:World}{u a b v:Nat × TypeId × Array Value}(h:Own w [u,a,b,v] wx): Own w [a,b] wx:=h.sub (List.Sublist.cons _ (List.Sublist.cons_cons _ (List.Sublist.cons_cons _ (List.nil_sublist _))))
theorem F5(w:World)(Aa:Option Addr)(na ca ka:Nat)(fa:Nat->Pt)(Ab:Option Addr)(nb cb kb:Nat)(fb:Nat->Pt)(ha:dN w (fun q=>q < w.heap.size) Aa na fa)(hb:dN w (fun q=>q < w.heap.size) Ab nb fb)(hna:0 < na)(hnb:0 < nb)(hne:(fa 0).t≠(fb 0).t):
  Calls Tryz.prog 254 #[.agg #[.slice Aa na ca,Z (ka:Nat)],.agg #[.slice Ab nb cb,Z (kb:Nat)]] w fun e w'=>e=.returned (.bool (decide ((fa 0).t < (fb 0).t)))/\Below w.heap.size w w':=by
 obtain⟨ga,oa,rfl,-,-⟩:=id ha hna;obtain⟨gb,ob,rfl,-,-⟩:=id hb hnb;obtain⟨a,hae⟩:∃ a,a=fa 0:=⟨_,rfl⟩
 obtain⟨b,hbe⟩:∃ b,b=fb 0:=⟨_,rfl⟩
 rw[<-hae,<-hbe] at hne ⊢
 have cA:=fun wx (h:Below w.heap.size w wx)=>kZ (ha.below h) hna
 have cB:=fun wx (h:Below w.heap.size w wx)=>kZ (hb.below h) hnb
 simp only[<-hae,<-hbe,Nat.zero_mul,Nat.add_zero] at cA cB
 obtain⟨x,hx⟩:∃ x,x=w.heap.size:=⟨_,rfl⟩
 have o0:=Own.eD w hx 387 #[.slice (some ⟨ga,oa,none⟩) na ca,Z (ka:Nat)] 387 #[.slice (some ⟨gb,ob,none⟩) nb cb,Z (kb:Nat)]
 have HD:=zh (zN cA (zN cB (zN hne (zN hx o0))));have ea:(0:Int) < (na:Int):=J;have eb:(0:Int) < (nb:Int):=J;clear ha hb cA cB hne o0 hae hbe
 go_enter Tryz.func254,Tryz.ntmps254
 go_wp2_with fail;rw[<-hx];clear hx;refine aC (Own w [(x,387,#[.slice (some ⟨ga,oa,none⟩) na ca,Z (ka:Nat)]),(x+1,387,#[.slice (some ⟨gb,ob,none⟩) nb cb,Z (kb:Nat)])]) HD.out.2.2.2.2 ?_;intro w1 h1;have H1:=zh h1;have hS:=h1.drew;clear h1;have hS:(Own w [(x,387,#[.slice (some ⟨ga,oa,none⟩) na ca,Z (ka:Nat)]),(x+1,387,#[.slice (some ⟨gb,ob,none⟩) nb cb,Z (kb:Nat)])]) (w1.drew):=hS;refine aA (Own w [(x,387,#[.slice (some ⟨ga,oa,none⟩) na ca,Z (ka:Nat)]),(x+1,387,#[.slice (some ⟨gb,ob,none⟩) nb cb,Z (kb:Nat)])]) (by kernel_rfl) hS ?_;refine zB [0,1,2,3,4,5,6,7] ?_;iterate 8 (refine zV ?_ ?_ hS ?_;rotate_left;(intro w' hSw;have u0:=hSw.c 0 0;have u1:=hSw.c 1 0;obtain ⟨v0,v1,v2⟩:=HD.out.1 _ hSw.av;obtain ⟨v3,v4,v5⟩:=HD.out.2.1 _ hSw.av;go_simp<;>with_reducible rfl);try simp only[zP])
 refine zE ?_;refine fA (i:=8) (j:=9) rfl rfl (by kernel_rfl) (fun K hK=>?_) (fun K hK=>?_)
 ·skip
  have HK:=zh hK;clear hK;go_simp;go_wp2_with fail;refine HK.out.zt (Own w [(x,387,#[.slice (some ⟨ga,oa,none⟩) na ca,Z (ka:Nat)]),(x+1,387,#[.slice (some ⟨gb,ob,none⟩) nb cb,Z (kb:Nat)])]) (fun _ h=>h) (H1.out.call (((Below.refl _ _).alloc (Nat.le_refl _) (.cells #[Z 0,Z 0,Z 0] 149)).drew)) ?_;clear HK hS;intro hS;try simp only[zP]
  obtain⟨gx,hgx⟩:∃ gx,gx=w1.heap.size:=⟨_,rfl⟩
  obtain⟨gy,hgy⟩:∃ gy,gy=w1.heap.size+1:=⟨_,rfl⟩
  obtain⟨W,hW⟩:∃ W,W=((w1.alloc (.cells #[Z 0,Z 0,Z 0] 149)).alloc (.cells #[Z 0,Z 0,Z 0] 149)).drew:=⟨_,rfl⟩
  have o4:Own w [(x,387,#[.slice (some ⟨ga,oa,none⟩) na ca,Z (ka:Nat)]),(x+1,387,#[.slice (some ⟨gb,ob,none⟩) nb cb,Z (kb:Nat)]),(gx,149,#[Z 0,Z 0,Z 0]),(gy,149,#[Z 0,Z 0,Z 0])] W:=by rw[hW];exact ((H1.out.alloc hgx _ _).alloc (by rw[hgy];simp) _ _).drew
  have H4:=zh (o4.front 2 rfl);have HS4:=zh (o4.take 2);clear o4;refine zC 9 fun K HK=>?_
  go_simp;rw[<-hW,<-hgy,<-hgx];go_wp2_with fail;refine HK.out.zt (Own w [(x,387,#[.slice (some ⟨ga,oa,none⟩) na ca,Z (ka:Nat)]),(x+1,387,#[.slice (some ⟨gb,ob,none⟩) nb cb,Z (kb:Nat)])]) (fun _ h=>h) (HS4.out) ?_;clear HK hS;intro hS;try simp only[zP]
  clear hW hgx hgy;have z0:=H4.out.c3 0;have zf:=H4.out.free 0 rfl;obtain⟨W5,hW5⟩:∃ W5,W5=((W.setCell ⟨gx,0,none⟩ (Z a.t)).setCell ⟨gx,1,none⟩ (Z a.v)).setCell ⟨gx,2,none⟩ (Z a.s):=⟨_,rfl⟩
  have h5:Own w [(gx,149,#[Z a.t,Z a.v,Z a.s]),(x,387,#[.slice (some ⟨ga,oa,none⟩) na ca,Z (ka:Nat)]),(x+1,387,#[.slice (some ⟨gb,ob,none⟩) nb cb,Z (kb:Nat)]),(gy,149,#[Z 0,Z 0,Z 0])] W5:=by rw[hW5];exact ((H4.out.set 0 0 rfl (Z a.t)).set 0 1 rfl (Z a.v)).set 0 2 rfl (Z a.s)
  have H5:=zh h5;clear h5;refine zC 10 fun K HK=>?_
  go_simp;rw[<-hW5];go_wp2_with fail;refine HK.out.zt (Own w [(x,387,#[.slice (some ⟨ga,oa,none⟩) na ca,Z (ka:Nat)]),(x+1,387,#[.slice (some ⟨gb,ob,none⟩) nb cb,Z (kb:Nat)])]) (fun _ h=>h) (wI H5.out) ?_;clear HK hS;intro hS;try simp only[zP]
  clear z0 zf hW5;have z0:=H5.out.c3 3;have zf:=H5.out.free 3 rfl;obtain⟨W6,hW6⟩:∃ W6,W6=((W5.setCell ⟨gy,0,none⟩ (Z b.t)).setCell ⟨gy,1,none⟩ (Z b.v)).setCell ⟨gy,2,none⟩ (Z b.s):=⟨_,rfl⟩
  have h6:Own w [(gx,149,#[Z a.t,Z a.v,Z a.s]),(x,387,#[.slice (some ⟨ga,oa,none⟩) na ca,Z (ka:Nat)]),(x+1,387,#[.slice (some ⟨gb,ob,none⟩) nb cb,Z (kb:Nat)]),(gy,149,#[Z b.t,Z b.v,Z b.s])] W6:=by rw[hW6];exact ((H5.out.set 3 0 rfl (Z b.t)).set 3 1 rfl (Z b.v)).set 3 2 rfl (Z b.s)
  have H6:=zh h6;clear h6;refine zC 11 fun K HK=>?_
  go_simp;rw[<-hW6];go_wp2_with fail;refine HK.out.zt (Own w [(x,387,#[.slice (some ⟨ga,oa,none⟩) na ca,Z (ka:Nat)]),(x+1,387,#[.slice (some ⟨gb,ob,none⟩) nb cb,Z (kb:Nat)])]) (fun _ h=>h) (wI H6.out) ?_;clear HK hS;intro hS;try simp only[zP]
  clear z0 zf hW6;refine zD ?_;try simp only[zP]
  clear hS;go_wp2_with fail;have hS:=H6.out.drew;have hS:(Own w [(gx,149,#[Z a.t,Z a.v,Z a.s]),(x,387,#[.slice (some ⟨ga,oa,none⟩) na ca,Z (ka:Nat)]),(x+1,387,#[.slice (some ⟨gb,ob,none⟩) nb cb,Z (kb:Nat)]),(gy,149,#[Z b.t,Z b.v,Z b.s])]) (W6.drew):=hS;refine aA (Own w [(gx,149,#[Z a.t,Z a.v,Z a.s]),(x,387,#[.slice (some ⟨ga,oa,none⟩) na ca,Z (ka:Nat)]),(x+1,387,#[.slice (some ⟨gb,ob,none⟩) nb cb,Z (kb:Nat)]),(gy,149,#[Z b.t,Z b.v,Z b.s])]) (by kernel_rfl) hS ?_;refine zB [0,1,2,3,5,6,7,8,10,11,12,13] ?_;iterate 12 (refine zV ?_ ?_ hS ?_;rotate_left;(intro w' hSw;have u0:=hSw.c 0 0;have u1:=hSw.c 0 2;have u2:=hSw.c 3 0;have u3:=hSw.c 3 2;have u4:=hSw.c 1 1;have u5:=hSw.c 2 1;go_simp<;>with_reducible rfl);try simp only[zP])
  refine zE ?_;refine zC 4 fun K HK=>?_
  go_simp;refine(jC _ a.t b.t).mono ?_;rintro e W7 ⟨rfl,hb7⟩;have H7:=zh (H6.out.drew.call hb7);clear hb7;go_wp2_with fail;refine HK.out.zt (Own w [(gx,149,#[Z a.t,Z a.v,Z a.s]),(x,387,#[.slice (some ⟨ga,oa,none⟩) na ca,Z (ka:Nat)]),(x+1,387,#[.slice (some ⟨gb,ob,none⟩) nb cb,Z (kb:Nat)]),(gy,149,#[Z b.t,Z b.v,Z b.s])]) (fun _ h=>h) (H7.out) ?_;clear HK hS;intro hS;try simp only[zP]
  refine zC 9 fun K HK=>?_
  go_simp;refine(jC _ b.s a.s).mono ?_;rintro e W8 ⟨rfl,hb8⟩;have H8:=zh (H7.out.call hb8);clear hb8;go_wp2_with fail;refine HK.out.zt (Own w [(gx,149,#[Z a.t,Z a.v,Z a.s]),(x,387,#[.slice (some ⟨ga,oa,none⟩) na ca,Z (ka:Nat)]),(x+1,387,#[.slice (some ⟨gb,ob,none⟩) nb cb,Z (kb:Nat)]),(gy,149,#[Z b.t,Z b.v,Z b.s])]) (fun _ h=>h) (H8.out) ?_;clear HK hS;intro hS;try simp only[zP]
  refine zC 14 fun K HK=>?_
  go_simp;refine(jC _ (kb:Int) (ka:Int)).mono ?_;rintro e W9 ⟨rfl,hb9⟩;have H9:=zh (H8.out.call hb9);clear hb9;go_wp2_with fail;refine HK.out.zt (Own w [(gx,149,#[Z a.t,Z a.v,Z a.s]),(x,387,#[.slice (some ⟨ga,oa,none⟩) na ca,Z (ka:Nat)]),(x+1,387,#[.slice (some ⟨gb,ob,none⟩) nb cb,Z (kb:Nat)]),(gy,149,#[Z b.t,Z b.v,Z b.s])]) (fun _ h=>h) (H9.out) ?_;clear HK hS;intro hS;try simp only[zP]
  obtain⟨r0,hr0⟩:∃ r0,r0=bL a.t b.t:=⟨_,rfl⟩
  obtain⟨r1,hr1⟩:∃ r1,r1=bL b.s a.s:=⟨_,rfl⟩
  obtain⟨r2,hr2⟩:∃ r2,r2=bL (kb:Int) (ka:Int):=⟨_,rfl⟩
  rw[<-hr0,<-hr1,<-hr2];have hnz:r0≠0:=by
   have:=HD.out.2.2.1;rw[hr0];unfold bL
   split
   ·omega
   ·split<;>omega
  have hres:decide (r0 < 0)=decide (a.t < b.t):=by
   rw[hr0];unfold bL
   by_cases h:a.t < b.t
   ·rw[if_pos h];simp[h]
   ·rw[if_neg h]
    split<;>simp<;>omega
  have HR:=zh (zN hnz hres);clear hr0 hr1 hr2 hnz;refine zC 15 fun K HK=>?_
  go_simp;go_wp2_with fail;refine HK.out.zt (Own w [(gx,149,#[Z a.t,Z a.v,Z a.s]),(x,387,#[.slice (some ⟨ga,oa,none⟩) na ca,Z (ka:Nat)]),(x+1,387,#[.slice (some ⟨gb,ob,none⟩) nb cb,Z (kb:Nat)]),(gy,149,#[Z b.t,Z b.v,Z b.s])]) (fun _ h=>h) (H9.out.call ((Below.refl _ _).alloc (Nat.le_refl _) (.cells #[Z r0,Z r1,Z r2] 3))) ?_;clear HK hS;intro hS;try simp only[zP]
  refine zC 16 fun K HK=>?_
  go_simp;refine(BR _ _ _ r0 r1 r2 HR.out.1 (ay.fresh _ _ _)).mono ?_;rintro e W10 ⟨rfl,hb10⟩;have H10:=zh ((H9.out.call ((Below.refl _ _).alloc (Nat.le_refl _) (.cells #[Z r0,Z r1,Z r2] 3))).call hb10);clear hb10;go_wp2_with fail;refine HK.out.zt (Own w [(gx,149,#[Z a.t,Z a.v,Z a.s]),(x,387,#[.slice (some ⟨ga,oa,none⟩) na ca,Z (ka:Nat)]),(x+1,387,#[.slice (some ⟨gb,ob,none⟩) nb cb,Z (kb:Nat)]),(gy,149,#[Z b.t,Z b.v,Z b.s])]) (fun _ h=>h) (H10.out) ?_;clear HK hS;intro hS;try simp only[zP]
  refine zB [17,18] ?_;iterate 2 (refine zv hS ?_;try simp only[zP])
  refine zE ?_;refine zD ?_;try simp only[zP]
  clear hS;go_wp2_with fail;go_ret;exact⟨by first | rfl | (rw[<-HR.out.2];rfl),H10.out.av⟩
 ·skip
  have HK:=zh hK;clear hK;go_simp;go_wp2_with fail;refine HK.out.zt (Own w [(x,387,#[.slice (some ⟨ga,oa,none⟩) na ca,Z (ka:Nat)]),(x+1,387,#[.slice (some ⟨gb,ob,none⟩) nb cb,Z (kb:Nat)])]) (fun _ h=>h) (H1.out.call (((Below.refl _ _).alloc (Nat.le_refl _) (.cells #[Z 0,Z 0,Z 0] 149)).drew)) ?_;clear HK hS;intro hS;try simp only[zP]
  obtain⟨gy,hgy⟩:∃ gy,gy=w1.heap.size:=⟨_,rfl⟩
  obtain⟨gx,hgx⟩:∃ gx,gx=w1.heap.size+1:=⟨_,rfl⟩
  obtain⟨W,hW⟩:∃ W,W=((w1.alloc (.cells #[Z 0,Z 0,Z 0] 149)).alloc (.cells #[Z 0,Z 0,Z 0] 149)).drew:=⟨_,rfl⟩
  have o4:Own w [(x,387,#[.slice (some ⟨ga,oa,none⟩) na ca,Z (ka:Nat)]),(x+1,387,#[.slice (some ⟨gb,ob,none⟩) nb cb,Z (kb:Nat)]),(gy,149,#[Z 0,Z 0,Z 0]),(gx,149,#[Z 0,Z 0,Z 0])] W:=by rw[hW];exact ((H1.out.alloc hgy _ _).alloc (by rw[hgx];simp) _ _).drew
  have H4:=zh (o4.front 3 rfl);have HS4:=zh (o4.take 2);clear o4;refine zC 8 fun K HK=>?_
  go_simp;rw[<-hW,<-hgx,<-hgy];go_wp2_with fail;refine HK.out.zt (Own w [(x,387,#[.slice (some ⟨ga,oa,none⟩) na ca,Z (ka:Nat)]),(x+1,387,#[.slice (some ⟨gb,ob,none⟩) nb cb,Z (kb:Nat)])]) (fun _ h=>h) (HS4.out) ?_;clear HK hS;intro hS;try simp only[zP]
  clear hW hgx hgy;have z0:=H4.out.c3 0;have zf:=H4.out.free 0 rfl;obtain⟨W5,hW5⟩:∃ W5,W5=((W.setCell ⟨gx,0,none⟩ (Z a.t)).setCell ⟨gx,1,none⟩ (Z a.v)).setCell ⟨gx,2,none⟩ (Z a.s):=⟨_,rfl⟩
  have h5:Own w [(gx,149,#[Z a.t,Z a.v,Z a.s]),(x,387,#[.slice (some ⟨ga,oa,none⟩) na ca,Z (ka:Nat)]),(x+1,387,#[.slice (some ⟨gb,ob,none⟩) nb cb,Z (kb:Nat)]),(gy,149,#[Z 0,Z 0,Z 0])] W5:=by rw[hW5];exact ((H4.out.set 0 0 rfl (Z a.t)).set 0 1 rfl (Z a.v)).set 0 2 rfl (Z a.s)
  have H5:=zh h5;clear h5;refine zC 10 fun K HK=>?_
  go_simp;rw[<-hW5];go_wp2_with fail;refine HK.out.zt (Own w [(x,387,#[.slice (some ⟨ga,oa,none⟩) na ca,Z (ka:Nat)]),(x+1,387,#[.slice (some ⟨gb,ob,none⟩) nb cb,Z (kb:Nat)])]) (fun _ h=>h) (wI H5.out) ?_;clear HK hS;intro hS;try simp only[zP]
  clear z0 zf hW5;have z0:=H5.out.c3 3;have zf:=H5.out.free 3 rfl;obtain⟨W6,hW6⟩:∃ W6,W6=((W5.setCell ⟨gy,0,none⟩ (Z b.t)).setCell ⟨gy,1,none⟩ (Z b.v)).setCell ⟨gy,2,none⟩ (Z b.s):=⟨_,rfl⟩
  have h6:Own w [(gx,149,#[Z a.t,Z a.v,Z a.s]),(x,387,#[.slice (some ⟨ga,oa,none⟩) na ca,Z (ka:Nat)]),(x+1,387,#[.slice (some ⟨gb,ob,none⟩) nb cb,Z (kb:Nat)]),(gy,149,#[Z b.t,Z b.v,Z b.s])] W6:=by rw[hW6];exact ((H5.out.set 3 0 rfl (Z b.t)).set 3 1 rfl (Z b.v)).set 3 2 rfl (Z b.s)
  have H6:=zh h6;clear h6;refine zC 11 fun K HK=>?_
  go_simp;rw[<-hW6];go_wp2_with fail;refine HK.out.zt (Own w [(x,387,#[.slice (some ⟨ga,oa,none⟩) na ca,Z (ka:Nat)]),(x+1,387,#[.slice (some ⟨gb,ob,none⟩) nb cb,Z (kb:Nat)])]) (fun _ h=>h) (wI H6.out) ?_;clear HK hS;intro hS;try simp only[zP]
  clear z0 zf hW6;refine zD ?_;try simp only[zP]
  clear hS;go_wp2_with fail;have hS:=H6.out.drew;have hS:(Own w [(gx,149,#[Z a.t,Z a.v,Z a.s]),(x,387,#[.slice (some ⟨ga,oa,none⟩) na ca,Z (ka:Nat)]),(x+1,387,#[.slice (some ⟨gb,ob,none⟩) nb cb,Z (kb:Nat)]),(gy,149,#[Z b.t,Z b.v,Z b.s])]) (W6.drew):=hS;refine aA (Own w [(gx,149,#[Z a.t,Z a.v,Z a.s]),(x,387,#[.slice (some ⟨ga,oa,none⟩) na ca,Z (ka:Nat)]),(x+1,387,#[.slice (some ⟨gb,ob,none⟩) nb cb,Z (kb:Nat)]),(gy,149,#[Z b.t,Z b.v,Z b.s])]) (by kernel_rfl) hS ?_;refine zB [0,1,2,3,5,6,7,8,10,11,12,13] ?_;iterate 12 (refine zV ?_ ?_ hS ?_;rotate_left;(intro w' hSw;have u0:=hSw.c 0 0;have u1:=hSw.c 0 2;have u2:=hSw.c 3 0;have u3:=hSw.c 3 2;have u4:=hSw.c 1 1;have u5:=hSw.c 2 1;go_simp<;>with_reducible rfl);try simp only[zP])
  refine zE ?_;refine zC 4 fun K HK=>?_
  go_simp;refine(jC _ a.t b.t).mono ?_;rintro e W7 ⟨rfl,hb7⟩;have H7:=zh (H6.out.drew.call hb7);clear hb7;go_wp2_with fail;refine HK.out.zt (Own w [(gx,149,#[Z a.t,Z a.v,Z a.s]),(x,387,#[.slice (some ⟨ga,oa,none⟩) na ca,Z (ka:Nat)]),(x+1,387,#[.slice (some ⟨gb,ob,none⟩) nb cb,Z (kb:Nat)]),(gy,149,#[Z b.t,Z b.v,Z b.s])]) (fun _ h=>h) (H7.out) ?_;clear HK hS;intro hS;try simp only[zP]
  refine zC 9 fun K HK=>?_
  go_simp;refine(jC _ b.s a.s).mono ?_;rintro e W8 ⟨rfl,hb8⟩;have H8:=zh (H7.out.call hb8);clear hb8;go_wp2_with fail;refine HK.out.zt (Own w [(gx,149,#[Z a.t,Z a.v,Z a.s]),(x,387,#[.slice (some ⟨ga,oa,none⟩) na ca,Z (ka:Nat)]),(x+1,387,#[.slice (some ⟨gb,ob,none⟩) nb cb,Z (kb:Nat)]),(gy,149,#[Z b.t,Z b.v,Z b.s])]) (fun _ h=>h) (H8.out) ?_;clear HK hS;intro hS;try simp only[zP]
  refine zC 14 fun K HK=>?_
  go_simp;refine(jC _ (kb:Int) (ka:Int)).mono ?_;rintro e W9 ⟨rfl,hb9⟩;have H9:=zh (H8.out.call hb9);clear hb9;go_wp2_with fail;refine HK.out.zt (Own w [(gx,149,#[Z a.t,Z a.v,Z a.s]),(x,387,#[.slice (some ⟨ga,oa,none⟩) na ca,Z (ka:Nat)]),(x+1,387,#[.slice (some ⟨gb,ob,none⟩) nb cb,Z (kb:Nat)]),(gy,149,#[Z b.t,Z b.v,Z b.s])]) (fun _ h=>h) (H9.out) ?_;clear HK hS;intro hS;try simp only[zP]
  obtain⟨r0,hr0⟩:∃ r0,r0=bL a.t b.t:=⟨_,rfl⟩
  obtain⟨r1,hr1⟩:∃ r1,r1=bL b.s a.s:=⟨_,rfl⟩
  obtain⟨r2,hr2⟩:∃ r2,r2=bL (kb:Int) (ka:Int):=⟨_,rfl⟩
  rw[<-hr0,<-hr1,<-hr2];have hnz:r0≠0:=by
   have:=HD.out.2.2.1;rw[hr0];unfold bL
   split
   ·omega
   ·split<;>omega
  have hres:decide (r0 < 0)=decide (a.t < b.t):=by
   rw[hr0];unfold bL
   by_cases h:a.t < b.t
   ·rw[if_pos h];simp[h]
   ·rw[if_neg h]
    split<;>simp<;>omega
  have HR:=zh (zN hnz hres);clear hr0 hr1 hr2 hnz;refine zC 15 fun K HK=>?_
  go_simp;go_wp2_with fail;refine HK.out.zt (Own w [(gx,149,#[Z a.t,Z a.v,Z a.s]),(x,387,#[.slice (some ⟨ga,oa,none⟩) na ca,Z (ka:Nat)]),(x+1,387,#[.slice (some ⟨gb,ob,none⟩) nb cb,Z (kb:Nat)]),(gy,149,#[Z b.t,Z b.v,Z b.s])]) (fun _ h=>h) (H9.out.call ((Below.refl _ _).alloc (Nat.le_refl _) (.cells #[Z r0,Z r1,Z r2] 3))) ?_;clear HK hS;intro hS;try simp only[zP]
  refine zC 16 fun K HK=>?_
  go_simp;refine(BR _ _ _ r0 r1 r2 HR.out.1 (ay.fresh _ _ _)).mono ?_;rintro e W10 ⟨rfl,hb10⟩;have H10:=zh ((H9.out.call ((Below.refl _ _).alloc (Nat.le_refl _) (.cells #[Z r0,Z r1,Z r2] 3))).call hb10);clear hb10;go_wp2_with fail;refine HK.out.zt (Own w [(gx,149,#[Z a.t,Z a.v,Z a.s]),(x,387,#[.slice (some ⟨ga,oa,none⟩) na ca,Z (ka:Nat)]),(x+1,387,#[.slice (some ⟨gb,ob,none⟩) nb cb,Z (kb:Nat)]),(gy,149,#[Z b.t,Z b.v,Z b.s])]) (fun _ h=>h) (H10.out) ?_;clear HK hS;intro hS;try simp only[zP]
  refine zB [17,18] ?_;iterate 2 (refine zv hS ?_;try simp only[zP])
  refine zE ?_;refine zD ?_;try simp only[zP]
  clear hS;go_wp2_with fail;go_ret;exact⟨by first | rfl | (rw[<-HR.out.2];rfl),H10.out.av⟩
def jM(it:Nat->Value)(f:Nat->Nat): Nat->List Value
 | 0=>[]
 | n+1=>jM it f n ++ [it (f n),Z (f n:Nat)]
theorem gD(it:Nat->Value)(f:Nat->Nat): ∀ n,(jM it f n).length=n*2
 | 0=>rfl
 | n+1=>by
  show (jM it f n ++ _).length=_
  rw[List.length_append,gD it f n];simp;omega
theorem wK(it:Nat->Value)(f:Nat->Nat)(j:Nat): ∀ n,j < n->(jM it f n)[j*2]? = some (it (f j))/\(jM it f n)[j*2+1]? = some (Z (f j:Nat))
 | 0,h=>absurd h (Nat.not_lt_zero _)
 | n+1,h=>by
  show (jM it f n ++ _)[j*2]? = _/\(jM it f n ++ _)[j*2+1]? = _
  by_cases e:j < n
  ·rw[List.getElem?_append_left (by rw[gD];omega),List.getElem?_append_left (by rw[gD];omega)]
   exact wK it f j n e
  ·obtain rfl:j=n:=J
   rw[List.getElem?_append_right (by rw[gD];omega),List.getElem?_append_right (by rw[gD];omega),gD];simp
theorem uw{it it':Nat->Value}{f f':Nat->Nat}: ∀ n,(∀ j,j < n->f j=f' j/\it (f j)=it' (f j))->jM it f n=jM it' f' n
 | 0,_=>rfl
 | n+1,h=>by
  show jM it f n ++ _=jM it' f' n ++ _
  rw[uw n (fun j hj=>h j J),<-(h n J).1,(h n J).2]
theorem Pm(it:Nat->Value)(f:Nat->Nat)(n i x:Nat)(hi:i < n): ((jM it f n).set (i*2) (it x)).set (i*2+1) (Z (x:Nat))=jM it (fun j=>if j=i then x else f j) n:=by
 apply List.ext_getElem?;intro q
 by_cases hq:q < n*2
 ·have hj:q / 2 < n:=J
  obtain⟨h1,h2⟩:=wK it f (q / 2) n hj;obtain⟨h3,h4⟩:=wK it (fun j=>if j=i then x else f j) (q / 2) n hj;rw[List.getElem?_set,List.getElem?_set];simp only[List.length_set,gD];rcases(show q%2=0\/q%2=1 by omega) with h | h
  ·rw[show q=q / 2*2 by omega,h3]
   by_cases e:q / 2=i
   ·rw[if_neg J,if_pos J,if_pos J,if_pos e]
   ·rw[if_neg J,if_neg J,if_neg e,h1]
  ·rw[show q=q / 2*2+1 by omega,h4]
   by_cases e:q / 2=i
   ·rw[if_pos J,if_pos J,if_pos e]
   ·rw[if_neg J,if_neg J,if_neg e,h2]
 ·rw[List.getElem?_eq_none (by simp[gD];omega),List.getElem?_eq_none (by rw[gD];omega)]
theorem NR: (Tryz.prog.info? 387).map (fun i=>(i.zero,i.size,i.bytes))=some (some (.agg #[.slice none 0 0,Z 0]),2,32):=by kernel_rfl
theorem AY{w:World}{base g c n:Nat}{v u:Value}{k:Nat}{xs:List Value}{ty:TypeId}(hown:w.ownsRow base 387 2 v n xs)(hu:u.oneCell'=true)(hg:ay w g 387 #[u,Z (k:Nat)])(hn:n < 100000)(hbase:base<=w.heap.size):
  ∃ v' w',(Builtin.append_ #[382,382] ty #[v,.slice (some ⟨g,0,none⟩) 1 c]).run Tryz.prog w=.ok v' w'/\w'.ownsRow base 387 2 v' (n+1) (xs ++ [u,Z (k:Nat)])/\w.grownBy w' v.ownBlock/\(v'.ownBlock=v.ownBlock\/v'.ownBlock=some w.heap.size):=by
 obtain⟨i,hi,hz,hs,hb⟩:=info_parts NR;have hadd:∀ i,(⟨g,0,none⟩:Addr).add i=⟨g,0+i,none⟩:=fun i=>by unfold Addr.add;split<;>simp_all
 obtain⟨v',w',h1,h2,h3,_,h4⟩:=run_append_own_at (P:=Tryz.prog) w base 382 ty 387 i _ 2 32 Tryz.underlying382 hi hz hs hb rfl (by decide) v n xs hown ⟨g,0,none⟩ 1 c [u,Z (k:Nat)] rfl
  (fun j u' hu'=>by
   rw[hadd,Nat.zero_add,hg.cell j]
   simpa using hu')
  (by intro u' hu';simp at hu';rcases hu' with rfl | rfl;exact hu;rfl) (by unfold maxLen;omega) J hbase
 exact⟨v',w',h1,h2,h3,h4⟩
structure aL(w:World)(B h:Nat)(A:Option Addr)(cp:Nat)(it:Nat->Value)(f:Nat->Nat)(n:Nat): Prop where
 blk:ay w h 384 #[.slice A n cp,.func (.func 254) #[] #[]]
 row:w.ownsRow B 387 2 (.slice A n cp) n (jM it f n)
 hB:B<=h
theorem aL.call{w w':World}{B h:Nat}{A:Option Addr}{cp:Nat}{it:Nat->Value}{f:Nat->Nat}{n:Nat}(hh:aL w B h A cp it f n)(hb:Below w.heap.size w w'): aL w' B h A cp it f n:=
 ⟨hh.blk.below hb hh.blk.lt,aG hh.row (Keeps.of_below (S:=fun _=>False) hb) (fun _ _ h=>h),hh.hB⟩
theorem aL.yH{w:World}{B h:Nat}{A:Option Addr}{cp:Nat}{it:Nat->Value}{f:Nat->Nat}{n:Nat}(hh:aL w B h A cp it f n)(hn:0 < n): ∃ g,A=some ⟨g,0,none⟩/\n<=cp/\B<=g/\g≠h/\cp<=9223372036854775807:=by
 obtain⟨A',c',hv,hc,hg⟩:=aH hh.row;injection hv with h1 h2 h3
 subst h1;subst h3;obtain⟨g,hA,hlo,hlt⟩:=hg hn;refine⟨g,hA,hc,hlo,fun e=>?_,(V.lY hh.row).2⟩;have:=own_ne hh.row hh.blk (by decide);rw[hA] at this
 exact this (by rw[e];rfl)
theorem aL.cell{w:World}{B h g:Nat}{cp:Nat}{it:Nat->Value}{f:Nat->Nat}{n j:Nat}(hh:aL w B h (some ⟨g,0,none⟩) cp it f n)(hj:j < n): w.cell? ⟨g,j*2,none⟩=some (it (f j))/\w.cell? ⟨g,j*2+1,none⟩=some (Z (f j:Nat)):=by
 have hadd:∀ j,(⟨g,0,none⟩:Addr).add j=⟨g,j,none⟩:=fun j=>by unfold Addr.add;split<;>simp_all
 obtain⟨h1,h2⟩:=wK it f j n hj;have c1:=hh.row.cells (g:=g) rfl _ _ h1;have c2:=hh.row.cells (g:=g) rfl _ _ h2;rw[hadd] at c1 c2
 exact⟨c1,c2⟩
theorem aL.eu{w:World}{B h g:Nat}{cp:Nat}{it:Nat->Value}{f:Nat->Nat}{n:Nat}(hh:aL w B h (some ⟨g,0,none⟩) cp it f n)(i:Nat): w.frozen? ⟨g,i,none⟩=false:=by
 rcases hh.row.2 with ⟨h,-⟩ | ⟨g',cap,cur,hv,_,hg,_⟩
 ·cases h
 ·injection hv with h1
  injection h1 with h1
  injection h1 with h1
  subst h1;exact ay.frozen hg i
theorem aL.put{w w':World}{B h g:Nat}{cp:Nat}{it:Nat->Value}{f:Nat->Nat}{n:Nat}(hh:aL w B h (some ⟨g,0,none⟩) cp it f n){i x:Nat}(hi:i < n)(hw:w'=(w.setCell ⟨g,i*2,none⟩ (it x)).setCell ⟨g,i*2+1,none⟩ (Z (x:Nat))):
  aL w' B h (some ⟨g,0,none⟩) cp it (fun j=>if j=i then x else f j) n/\Keeps (fun q=>q=g) w w':=by
 have hk:Keeps (fun q=>q=g) w w':=by rw[hw];exact ((Keeps.refl (fun q=>q=g) w).setCell (fun _=>rfl) _).setCell (fun _=>rfl) _
 obtain⟨-,-,-,-,hgh,-⟩:=hh.yH J;refine⟨⟨hh.blk.keeps hk (fun e=>by obtain ⟨g',hA,_,_,h2,_⟩:=hh.yH J;injection hA with hA;injection hA with hA;exact h2 (by rw[<-hA,e])),?_,hh.hB⟩,hk⟩;rcases hh.row.2 with ⟨hv,-⟩ | ⟨g',cap,cur,hv,hB',hg,hnc,hcm,hcs,htk⟩
 ·cases hv
 ·injection hv with h1 h2 h3
  injection h1 with h1
  injection h1 with h1
  subst h1;subst h3;have hb2:=(ay.set (w:=w) (cs:=cur) hg (i*2) (it x)).set (i*2+1) (Z (x:Nat));rw[<-hw] at hb2
  refine⟨by rw[gD],.inr ⟨g,cp,_,rfl,hB',hb2,hnc,hcm,by simp[hcs],?_⟩⟩;rw[<-Pm it f n i x hi,<-htk];rw[Array.toList_setIfInBounds,Array.toList_setIfInBounds,List.take_set,List.take_set]
def jD(w:World)(q:Nat): Option TypeId:=match w.heap[q]? with
 | some (.cells _ t _)=>some t
 | _=>none
theorem bZ{w:World}{g:Nat}{t:TypeId}{cs:Array Value}(h:ay w g t cs): jD w g=some t:=by unfold jD;unfold ay at h;rw[h]
theorem fG{w:World}{base size n g:Nat}{e:TypeId}{v:Value}{xs:List Value}(h:w.ownsRow base e size v n xs)(hg:v.ownBlock=some g): jD w g=some e:=by
 rcases h.2 with ⟨rfl,_⟩ | ⟨g',cap,cur,rfl,_,hh,_⟩
 ·cases hg
 ·have:g'=g:=by simpa [Value.ownBlock] using hg
  subst this;exact bZ (cs:=cur) hh
theorem M8{w w':World}{q:Nat}(h:w'.heap[q]? = w.heap[q]?): jD w' q=jD w q:=by unfold jD;rw[h]
def HT(w:World)(q:Nat): Prop:=jD w q=some 387\/jD w q=some 384
structure HB(B:Nat)(w w':World): Prop where
 av:Below B w w'
 hk:Keeps (HT w) w w'
 hB:B<=w.heap.size
namespace HB
variable {B:Nat} {w w1 w2:World}
theorem size(h:HB B w w1): w.heap.size<=w1.heap.size:=h.av.size
theorem ht(h:HB B w w1){q:Nat}(hq:q < w.heap.size)(ht:HT w1 q): HT w q:=by
 refine Classical.byContradiction fun hn=>hn ?_
 have:=M8 (h.hk.block q hq hn);unfold HT at ht ⊢
 rw[this] at ht
 exact ht
theorem refl(w:World)(hB:B<=w.heap.size): HB B w w:=⟨Below.refl _ _,Keeps.refl _ _,hB⟩
theorem zy(hb:Below w.heap.size w w1)(hB:B<=w.heap.size): HB B w w1:=⟨hb.mono hB,(Keeps.of_below (S:=fun _=>False) hb).mono (fun _ _ h=>h.elim),hB⟩
theorem trans(h:HB B w w1)(k:HB B w1 w2): HB B w w2:=⟨h.av.trans k.av,h.hk.trans k.hk (fun q hq ht=>h.ht hq ht),h.hB⟩
theorem call(h:HB B w w1)(hb:Below w1.heap.size w1 w2): HB B w w2:=h.trans (zy hb (Nat.le_trans h.hB h.size))
theorem drew(h:HB B w w1): HB B w w1.drew:=h.call (Below.refl _ _).drew
theorem keeps{g:Nat}(h:HB B w w1)(hk:Keeps (fun q=>q=g) w1 w2)(ht:HT w1 g)(hg:B<=g): HB B w w2:=
 h.trans ⟨hk.below (Nat.le_trans h.hB h.size) (fun k hk' e=>J),hk.mono (fun q _ e=>by rw[e];exact ht),Nat.le_trans h.hB h.size⟩
theorem grown{row:Option Nat}(h:HB B w w1)(hg:w1.grownBy w2 row)(hr:∀ q,row=some q->B<=q/\HT w1 q): HB B w w2:=
 h.trans ⟨(Below.refl _ _).grown hg (Nat.le_trans h.hB h.size) (fun q e=>(hr q e).1),((Keeps.refl (HT w1) w1).grown hg (fun k e _=>(hr k e).2)),Nat.le_trans h.hB h.size⟩
end HB
theorem aL.ht1{w:World}{B h:Nat}{A:Option Addr}{cp:Nat}{it:Nat->Value}{f:Nat->Nat}{n:Nat}(hh:aL w B h A cp it f n): HT w h:=.inr (bZ hh.blk)
theorem aL.ht2{w:World}{B h g:Nat}{cp:Nat}{it:Nat->Value}{f:Nat->Nat}{n:Nat}(hh:aL w B h (some ⟨g,0,none⟩) cp it f n): HT w g:=.inl (fG hh.row rfl)
structure uL(w0:World)(B:Nat)(it:Nat->Value)(ip:Nat->Nat->Pt)(S:Nat->Prop): Prop where
 at_:∀ x,S x->∃ A n c,it x=.slice A n c/\0 < n/\dN w0 (fun q=>q < B) A n (ip x)
 lt:∀ x y,S x->S y->x < y->(ip x 0).t < (ip y 0).t
theorem uL.mono{w0:World}{B:Nat}{it:Nat->Value}{ip:Nat->Nat->Pt}{S T:Nat->Prop}(h:uL w0 B it ip S)(hT:∀ x,T x->S x): uL w0 B it ip T:=⟨fun x hx=>h.at_ x (hT x hx),fun x y hx hy=>h.lt x y (hT x hx) (hT y hy)⟩
theorem kL(w0 wx:World)(B:Nat)(it:Nat->Value)(ip:Nat->Nat->Pt)(S:Nat->Prop)(hb:Below B w0 wx)(hB:B<=w0.heap.size)(hit:uL w0 B it ip S)(x y:Nat)(hx:S x)(hy:S y)(hne:x≠y):
  Calls Tryz.prog 254 #[.agg #[it x,Z (x:Nat)],.agg #[it y,Z (y:Nat)]] wx fun e w'=>e=.returned (.bool (decide (x < y)))/\Below wx.heap.size wx w':=by
 obtain⟨Aa,na,ca,ea,hna,hsa⟩:=hit.at_ x hx;obtain⟨Ab,nb,cb,eb,hnb,hsb⟩:=hit.at_ y hy;rw[ea,eb];have hk:∀ (A:Option Addr) (n:Nat) (f:Nat->Pt),dN w0 (fun q=>q < B) A n f->dN wx (fun q=>q < wx.heap.size) A n f:=fun A n f h=>(h.keep (fun k hk _=>hb.block k hk)).mono (fun q hq=>Nat.lt_of_lt_of_le (Nat.lt_of_lt_of_le hq hB) hb.size)
 have hcmp:(ip x 0).t≠(ip y 0).t/\decide ((ip x 0).t < (ip y 0).t)=decide (x < y):=by
  rcases Nat.lt_or_gt_of_ne hne with h | h
  ·have:=hit.lt x y hx hy h
   exact⟨J,by simp[h];omega⟩
  ·have:=hit.lt y x hy hx h
   exact⟨J,by simp;omega⟩
 refine(F5 wx Aa na ca x (ip x) Ab nb cb y (ip y) (hk _ _ _ hsa) (hk _ _ _ hsb) hna hnb hcmp.1).mono ?_;rintro e w' ⟨rfl,hb'⟩;exact⟨by rw[hcmp.2],hb'⟩
def Nt(w:World)(B h:Nat)(it:Nat->Value)(n:Nat)(S:Nat->Prop)(x:Nat)(e:Ending)(w':World): Prop:=
 e=.returned (.tuple #[])/\∃ A' cp' f',aL w' B h A' cp' it f' (n+1)/\jl f' (n+1)/\Holds f' (n+1) (fun y=>S y\/y=x)/\HB B w w'
theorem uY(w0 w:World)(B h:Nat)(A:Option Addr)(cp:Nat)(it:Nat->Value)(ip:Nat->Nat->Pt)(f:Nat->Nat)(n:Nat)(S:Nat->Prop)(x:Nat)(hw:Below B w0 w)(hB:B<=w0.heap.size)(hh:aL w B h A cp it f n)(hp:jl f n)(hs:Holds f n S)(hx:¬ S x)(hit:uL w0 B it ip (fun y=>S y\/y=x))(hn:n < 1000):
  Calls Tryz.prog 255 #[.pointer (some ⟨h,0,none⟩),.agg #[it x,Z (x:Nat)]] w (Nt w B h it n S x):=by
 obtain⟨Ax,nx,cx,ex,-,-⟩:=hit.at_ x (.inr rfl);have hBw:B<=w.heap.size:=Nat.le_trans hB hw.size;obtain⟨bx,hbx⟩:∃ bx,bx=w.heap.size:=⟨_,rfl⟩
 have a1:Below w.heap.size w (w.alloc (.cells #[it x,Z (x:Nat)] 387)):=(Below.refl _ _).alloc (Nat.le_refl _) _;have HD:=zh (zN hw (zN hB (zN hh (zN hp (zN hs (zN hx (zN hit (zN hBw (zN hbx ex)))))))));clear hw hB hh hp hs hx hit;rw[ex] at a1 ⊢
 go_enter Tryz.func255,Tryz.ntmps255
 go_wp2_with fail;rw[<-hbx];refine aC (fun wx=>HB B w wx/\aL wx B h A cp it f n/\ay wx bx 387 #[.slice Ax nx cx,Z (x:Nat)]) ⟨HB.zy a1 hBw,HD.out.2.2.1.call a1,by rw[hbx];exact ay.fresh _ _ _⟩ ?_;rintro w1 ⟨b1,h1,g1⟩;have H1:=zh (zN b1 (zN h1 g1));clear b1 h1 g1 a1 hbx;have hS:=H1.out.2.2.drew;have hS:(fun wx=>ay wx bx 387 #[.slice Ax nx cx,Z (x:Nat)]) (w1.drew):=hS;refine aA (fun wx=>ay wx bx 387 #[.slice Ax nx cx,Z (x:Nat)]) (by kernel_rfl) hS ?_;refine zB [0,1,2,3,5] ?_;iterate 5 (refine zV ?_ ?_ hS ?_;rotate_left;(intro w' hSw;have u0:=hSw.cell 0;have u1:=hSw.cell 1;go_simp<;>with_reducible rfl);try simp only[zP])
 refine zE ?_;obtain⟨W2,hW2⟩:∃ W2,W2=(w1.alloc (.cells #[.slice Ax nx cx,Z (x:Nat)] 387)).drew:=⟨_,rfl⟩
 have a2:Below w1.heap.size w1 W2:=by rw[hW2];exact ((Below.refl _ _).alloc (Nat.le_refl _) _).drew
 have hh2:=H1.out.2.1.call a2;have hBW:B<=W2.heap.size:=Nat.le_trans (Nat.le_trans HD.out.2.2.2.2.2.2.2.1 H1.out.1.size) a2.size;obtain⟨v3,w3,hrun3,r3,g3,x3⟩:=AY (w:=W2) (base:=B) (g:=w1.heap.size) (c:=1) (n:=n) (v:=.slice A n cp) (u:=.slice Ax nx cx) (k:=x) (xs:=jM it f n) (ty:=382) hh2.row rfl (by rw[hW2];exact (ay.fresh _ _ _).drew) J hBW;obtain⟨A3,c3,hv3,hc3,-⟩:=aH r3;subst hv3;have hrw:jM it (fun j=>if j=n then x else f j) (n+1)=jM it f n ++ [.slice Ax nx cx,Z (x:Nat)]:=by
  show jM it (fun j=>if j=n then x else f j) n ++ [it (if n=n then x else f n),Z ((if n=n then x else f n:Nat))]=_
  rw[if_pos rfl,HD.out.2.2.2.2.2.2.2.2.2,uw n (fun j hj=>by rw[if_neg J];exact ⟨rfl,rfl⟩)]
 rw[<-hrw] at r3
 have hbh3:=cZ g3 hh2.blk (fun e=>own_ne hh2.row hh2.blk (by decide) e.symm);have hbx3:ay w3 bx 387 #[.slice Ax nx cx,Z (x:Nat)]:=cZ g3 (H1.out.2.2.below a2 H1.out.2.2.lt) (fun e=>by
  have:=(HD.out.2.2.1.row.lt bx e.symm).2;rw[HD.out.2.2.2.2.2.2.2.2.1] at this
  omega)
 obtain⟨w4,hw4⟩:∃ w4,w4=w3.setCell ⟨h,0,none⟩ (.slice A3 (n+1) c3):=⟨_,rfl⟩
 have hk4:Keeps (fun q=>q=h) w3 w4:=by rw[hw4];exact (Keeps.refl (fun q=>q=h) w3).setCell (fun _=>rfl) _
 have hb4:=hbh3.set 0 (.slice A3 (n+1) c3);rw[<-hw4] at hb4
 have hh4:aL w4 B h A3 c3 it (fun j=>if j=n then x else f j) (n+1):=⟨hb4,aG r3 hk4 (fun q hq e=>own_ne r3 hbh3 (by decide) (by rw[hq,e])),HD.out.2.2.1.hB⟩
 have hup4:j6 (fun j=>if j=n then x else f j) (n+1) n:=jl.up (fun j h0 hj=>by
  have:=oD h0;rw[if_neg J,if_neg J];exact HD.out.2.2.2.1 j h0 hj)
 have hs4:=HD.out.2.2.2.2.1.push HD.out.2.2.2.2.2.1;have hbx4:=hbx3.keeps hk4 (fun e=>by
  have:=HD.out.2.2.1.blk.lt;rw[HD.out.2.2.2.2.2.2.2.2.1] at e
  omega)
 have hbel4:HB B w w4:=((H1.out.1.call a2).grown g3 (fun q hq=>⟨(hh2.row.lt q hq).1,.inl (fG hh2.row hq)⟩)).keeps hk4 (.inr (bZ hbh3)) HD.out.2.2.1.hB;have u3:=hbh3.cell 0;have uf:=hbh3.frozen;have HW2:=zh hW2;have HW4:=zh hw4;clear hW2 hw4;have HP:=zh (zN hh4 (zN hup4 (zN hs4 (zN hbx3 hbx4))));have HW:=zh hbel4;clear a2 hh2 hBW r3 g3 x3 hrw hbh3 hbx3 hk4 hb4 hh4 hup4 hs4 hbx4 hbel4 hc3;refine fA (i:=4) (j:=6) rfl rfl (by kernel_rfl) (fun K hK=>?_) (fun K hK=>?_)
 ·skip
  have HK:=zh hK;clear hK;have u4:w1.drew.cell? ⟨h,0,none⟩=some (.slice A n cp):=H1.out.2.1.blk.cell 0;go_simp;go_wp2_with fail;refine HK.out.zt (fun wx=>ay wx bx 387 #[.slice Ax nx cx,Z (x:Nat)]) (fun _ h=>h) (hS) ?_;clear HK hS;intro hS;try simp only[zP]
  clear u4;have hS2:ay W2 bx 387 #[.slice Ax nx cx,Z (x:Nat)]:=by rw[HW2.out];exact (H1.out.2.2.alloc _).drew
  refine zC 6 fun K HK=>?_
  go_simp;rw[<-HW2.out];go_wp2_with fail;refine HK.out.zt (fun wx=>ay wx bx 387 #[.slice Ax nx cx,Z (x:Nat)]) (fun _ h=>h) (hS2) ?_;clear HK hS;intro hS;try simp only[zP]
  clear hS2;refine zC 7 fun K HK=>?_
  refine dA rfl (.tmp 9) (.tmp 11) rfl rfl rfl hrun3 ?_;refine HK.out.zt (fun wx=>ay wx bx 387 #[.slice Ax nx cx,Z (x:Nat)]) (fun _ h=>h) (HP.out.2.2.2.1) ?_;clear HK hS;intro hS;try simp only[zP]
  refine zB [8,9] ?_;iterate 2 (refine zv hS ?_;try simp only[zP])
  refine zE ?_;refine zC 10 fun K HK=>?_
  go_simp;rw[<-HW4.out];go_wp2_with fail;refine HK.out.zt (fun wx=>ay wx bx 387 #[.slice Ax nx cx,Z (x:Nat)]) (fun _ h=>h) (HP.out.2.2.2.2) ?_;clear HK hS;intro hS;try simp only[zP]
  refine zD ?_;try simp only[zP]
  clear hrun3 hS u3 uf;have v0:=HP.out.1.blk.cell 0;go_wp2_with fail;clear v0;obtain⟨g,hA3,-,-,-,-⟩:=HP.out.1.yH J;subst hA3
  go_loopw [4] (fun i wr=>∃ (k:Nat) (f':Nat->Nat),k<=n/\i=Z (k:Nat)/\aL wr B h (some ⟨g,0,none⟩) c3 it f' (n+1)/\j6 f' (n+1) k/\Holds f' (n+1) (fun y=>S y\/y=x)/\HB B w wr) (fun i _=>(intOf i).toNat)
  case atStart=>exact ⟨n,_,Nat.le_refl _,rfl,HP.out.1,HP.out.2.1,HP.out.2.2.1,HW.out⟩
  case round=>
   obtain⟨k,f',hk,rfl,hh,hup,hs,hbel⟩:=hrel;have hS:=hh.call (Below.refl _ _).drew;have HL:=zh (zN hh (zN hup (zN hs hbel)));clear hh hup hs hbel
   cases k with
   | zero=>
    go_wp2_with fail;have hS:(fun wx=>aL wx B h (some ⟨g,0,none⟩) c3 it f' (n+1)) (wr.drew):=hS;refine aA (fun wx=>aL wx B h (some ⟨g,0,none⟩) c3 it f' (n+1)) (by kernel_rfl) hS ?_;refine zB [0,1,2] ?_;iterate 3 (refine zv hS ?_;try simp only[zP])
    refine zE ?_;refine zB [3,4,5,6,7,8,9,10,11,12,13,14,15,16,17,18,19,20,21,22,23] ?_;iterate 21 (refine zW hS ?_;try simp only[zP])
    refine zE ?_;refine zt 24 hS ?_;try simp only[zP]
    refine zD ?_;try simp only[zP]
    have HS2:=zh hS;clear hS;go_wp2_with fail;refine bodyPost_end (v:=.tuple #[]) (by simp[results,Tryz.results255,go_sem]) rfl ?_;exact⟨rfl,_,c3,f',HS2.out,HL.out.2.1.Qa,HL.out.2.2.1,HL.out.2.2.2.drew⟩
   | succ k=>
    have hm1:=HL.out.2.2.1.mem (k+1) J;have hm2:=HL.out.2.2.1.mem (k / 2) J;obtain⟨A1,n1,c1,e1,-,-⟩:=HD.out.2.2.2.2.2.2.1.at_ _ hm1;obtain⟨A2,n2,c2,e2,-,-⟩:=HD.out.2.2.2.2.2.2.1.at_ _ hm2;obtain⟨x1,hx1⟩:∃ x1,x1=f' (k+1):=⟨_,rfl⟩
    obtain⟨x2,hx2⟩:∃ x2,x2=f' (k / 2):=⟨_,rfl⟩
    rw[<-hx1] at hm1 e1
    rw[<-hx2] at hm2 e2
    have hne:x1≠x2:=fun e=>by
     have:=HL.out.2.2.1.inj (k+1) (k / 2) J J (by rw[<-hx1,<-hx2,e]);omega
    have hcell:∀ wx,aL wx B h (some ⟨g,0,none⟩) c3 it f' (n+1)->(wx.cell? ⟨g,(k+1)*2,none⟩=some (.slice A1 n1 c1)/\wx.cell? ⟨g,(k+1)*2+1,none⟩=some (Z (x1:Nat)))/\(wx.cell? ⟨g,k / 2*2,none⟩=some (.slice A2 n2 c2)/\wx.cell? ⟨g,k / 2*2+1,none⟩=some (Z (x2:Nat))):=fun wx hx=>by
     have q1:=hx.cell (j:=k+1) J;have q2:=hx.cell (j:=k / 2) J;rw[<-hx1,e1] at q1
     rw[<-hx2,e2] at q2
     exact⟨q1,q2⟩
    have HX:=zh (zN hm1 (zN hm2 (zN hne (zN hcell (zN e1 (zN e2 (zN hx1 hx2)))))));clear hm1 hm2 hne hcell e1 e2 hx1 hx2;have d1:decide ((0:Int) < (k:Int)+1)=true:=by simp<;>omega
    have d2:(0:Int) < (k:Int)+1:=J;have d3:(k:Int)+1 < (n:Int)+1:=J;have d4:(k:Int) / 2 < (n:Int)+1:=J;have d5:IntKind.i64.wrap (k:Int)=(k:Int):=by simp only[IntKind.wrap_i64];omega
    have d6:(0:Int)<=(k:Int) / 2:=J;have d8:(0:Int)<=(k:Int)+1:=J;have d9:IntKind.i64.wrap ((k:Int) / 2)=(k:Int) / 2:=by simp only[IntKind.wrap_i64];omega
    have d10:((k:Int) / 2).toNat=k / 2:=J;go_wp2_with fail;have hS:(fun wx=>aL wx B h (some ⟨g,0,none⟩) c3 it f' (n+1)) (wr.drew):=hS;refine aA (fun wx=>aL wx B h (some ⟨g,0,none⟩) c3 it f' (n+1)) (by kernel_rfl) hS ?_;refine zB [0,1,2,3,4,5,6,7,8,9,10,11,12,13,14,15,16,17,18,19,20,21,22] ?_;iterate 23 (refine zV ?_ ?_ hS ?_;rotate_left;(intro w' hSw;have u0:=hSw.blk.cell 0;have u1:=hSw.blk.cell 1;obtain ⟨⟨u2,u3⟩,u4,u5⟩:=HX.out.2.2.2.1 _ hSw;go_simp<;>with_reducible rfl);try simp only[zP])
    refine zE ?_;have hcall:Calls Tryz.prog 254 #[.agg #[.slice A1 n1 c1,Z (x1:Nat)],.agg #[.slice A2 n2 c2,Z (x2:Nat)]] wr.drew fun e w'=>e=.returned (.bool (decide (x1 < x2)))/\Below wr.drew.heap.size wr.drew w':=by
     have hc:=kL w0 wr.drew B it ip _ ((HD.out.1.trans HL.out.2.2.2.av).drew) HD.out.2.1 HD.out.2.2.2.2.2.2.1 x1 x2 HX.out.1 HX.out.2.1 HX.out.2.2.1;rw[HX.out.2.2.2.2.1,HX.out.2.2.2.2.2.1] at hc
     exact hc
    refine zC 23 fun K HK=>?_
    go_simp;refine(hcall).mono ?_;rintro e w6 ⟨rfl,hb6⟩;have hh6:=(HL.out.1.call (Below.refl _ _).drew).call hb6;have hbel6:HB B w w6:=HL.out.2.2.2.drew.call hb6;have H6:=zh (zN hh6 hbel6);clear hh6 hbel6 hb6 hcall;go_wp2_with fail;refine HK.out.zt (fun wx=>aL wx B h (some ⟨g,0,none⟩) c3 it f' (n+1)) (fun _ h=>h) (H6.out.1) ?_;clear HK hS;intro hS;try simp only[zP]
    refine zt 24 hS ?_;try simp only[zP]
    refine zD ?_;try simp only[zP]
    clear hS
    by_cases hlt:x1 < x2
    ·have d7:decide (x1 < x2)=true:=by simp[hlt]
     go_wp2_with fail;clear d7;have hS:=H6.out.1.blk.drew;have hS:(fun wx=>ay wx h 384 #[.slice (some ⟨g,0,none⟩) (n+1) c3,.func (.func 254) #[] #[]]) (w6.drew):=hS;refine aA (fun wx=>ay wx h 384 #[.slice (some ⟨g,0,none⟩) (n+1) c3,.func (.func 254) #[] #[]]) (by kernel_rfl) hS ?_;refine zB [0,1,2,3,4,5,6,7,8,9,10,11,12,13,14,15,16,17,18,19,21,22,23,24,25,26] ?_;iterate 26 (refine zV ?_ ?_ hS ?_;rotate_left;(intro w' hSw;have u0:=hSw.cell 0;go_simp<;>with_reducible rfl);try simp only[zP])
     refine zE ?_;refine fA (i:=20) (j:=27) rfl rfl (by kernel_rfl) (fun K hK=>?_) (fun K hK=>?_)
     ·skip
      have HK:=zh hK;clear hK;obtain⟨⟨u2,u3⟩,u4,u5⟩:=HX.out.2.2.2.1 _ (H6.out.1.call (Below.refl _ _).drew);go_simp;go_wp2_with fail;refine HK.out.zt (fun wx=>ay wx h 384 #[.slice (some ⟨g,0,none⟩) (n+1) c3,.func (.func 254) #[] #[]]) (fun _ h=>h) (hS) ?_;clear HK hS;intro hS;try simp only[zP]
      refine zC 27 fun K HK=>?_
      go_simp;go_wp2_with fail;refine HK.out.zt (fun wx=>ay wx h 384 #[.slice (some ⟨g,0,none⟩) (n+1) c3,.func (.func 254) #[] #[]]) (fun _ h=>h) (hS) ?_;clear HK hS;intro hS;try simp only[zP]
      clear u2 u3 u4 u5;refine zt 28 hS ?_;try simp only[zP]
      have q1:=(HX.out.2.2.2.1 _ H6.out.1).1.1;have q2:=(HX.out.2.2.2.1 _ H6.out.1).1.2;have qf:=H6.out.1.eu;obtain⟨w7,hw7⟩:∃ w7,w7=((w6.setCell ⟨g,(k+1)*2,none⟩ (.slice A2 n2 c2)).setCell ⟨g,(k+1)*2+1,none⟩ (Z (x2:Nat))).drew:=⟨_,rfl⟩
      have h7:aL w7 B h (some ⟨g,0,none⟩) c3 it (fun j=>if j=k+1 then x2 else f' j) (n+1)/\Keeps (fun q=>q=g) w6 w7:=by
       have h:=H6.out.1.put (i:=k+1) (x:=x2) J (w':=(w6.setCell ⟨g,(k+1)*2,none⟩ (.slice A2 n2 c2)).setCell ⟨g,(k+1)*2+1,none⟩ (Z (x2:Nat))) (by rw[HX.out.2.2.2.2.2.1]);rw[hw7];exact⟨h.1.call (Below.refl _ _).drew,h.2.drew⟩
      have H7:=zh h7;have HW7:=zh hw7;clear h7 hw7;refine zC 29 fun K HK=>?_
      go_simp;rw[<-HW7.out];go_wp2_with fail;refine HK.out.zt (fun wx=>ay wx h 384 #[.slice (some ⟨g,0,none⟩) (n+1) c3,.func (.func 254) #[] #[]]) (fun _ h=>h) (H7.out.1.blk) ?_;clear HK hS;intro hS;try simp only[zP]
      clear q1 q2 qf;refine zt 30 hS ?_;try simp only[zP]
      have q34:w7.cell? ⟨g,k / 2*2,none⟩=some (.slice A2 n2 c2)/\w7.cell? ⟨g,k / 2*2+1,none⟩=some (Z (x2:Nat)):=by
       have h:=H7.out.1.cell (j:=k / 2) J;rw[if_neg J,<-HX.out.2.2.2.2.2.2.2,HX.out.2.2.2.2.2.1] at h
       exact h
      have q1:=q34.1;have q2:=q34.2;have qf:=H7.out.1.eu;obtain⟨w8,hw8⟩:∃ w8,w8=((w7.setCell ⟨g,k / 2*2,none⟩ (.slice A1 n1 c1)).setCell ⟨g,k / 2*2+1,none⟩ (Z (x1:Nat))):=⟨_,rfl⟩
      have h8:=H7.out.1.put (i:=k / 2) (x:=x1) J (w':=w8) (by rw[HX.out.2.2.2.2.1];exact hw8);have hbel8:HB B w w8:=by
       have hg:B<=g:=by
        obtain⟨g',hA,_,hlo,_⟩:=H6.out.1.yH J;injection hA with hA
        injection hA with hA
        rw[hA];exact hlo
       exact(H6.out.2.keeps H7.out.2 H6.out.1.ht2 hg).keeps h8.2 H7.out.1.ht2 hg
      have H8:=zh (zN h8.1 hbel8);have HW8:=zh hw8;clear q34 h8 hbel8 hw8;refine zC 31 fun K HK=>?_
      go_simp;rw[<-HW8.out];go_wp2_with fail;refine HK.out.zt (fun wx=>ay wx h 384 #[.slice (some ⟨g,0,none⟩) (n+1) c3,.func (.func 254) #[] #[]]) (fun _ h=>h) (H8.out.1.blk) ?_;clear HK hS;intro hS;try simp only[zP]
      refine zD ?_;try simp only[zP]
      clear q1 q2 qf hS;go_wp2_with fail
      go_roundw
      case rel=>
       have e:par (k+1)=k / 2:=by unfold par;omega
       have hfe:∀ j,(if j=k / 2 then x1 else if j=k+1 then x2 else f' j)=dB f' (k+1) (par (k+1)) j:=fun j=>by
        unfold dB;rw[e,HX.out.2.2.2.2.2.2.1,HX.out.2.2.2.2.2.2.2]
        by_cases h1:j=k / 2
        ·rw[if_pos h1,if_neg J,if_pos h1]
        ·rw[if_neg h1]
         by_cases h2:j=k+1
         ·rw[if_pos h2,if_pos h2]
         ·rw[if_neg h2,if_neg h2,if_neg h1]
       have hfe2:=funext hfe;refine⟨k / 2,_,J,by go_num,H8.out.1,?_,?_,H8.out.2⟩
       ·rw[hfe2,<-e]
        exact HL.out.2.1.step J J (by rw[e,<-HX.out.2.2.2.2.2.2.1,<-HX.out.2.2.2.2.2.2.2];exact hlt)
       ·rw[hfe2]
        exact HL.out.2.2.1.swap J (by rw[e];omega)
      case measure=>simp[intOf]<;>omega
     ·skip
      have HK:=zh hK;clear hK;obtain⟨⟨u2,u3⟩,u4,u5⟩:=HX.out.2.2.2.1 _ (H6.out.1.call (Below.refl _ _).drew);go_simp;go_wp2_with fail;refine HK.out.zt (fun wx=>ay wx h 384 #[.slice (some ⟨g,0,none⟩) (n+1) c3,.func (.func 254) #[] #[]]) (fun _ h=>h) (hS) ?_;clear HK hS;intro hS;try simp only[zP]
      refine zC 20 fun K HK=>?_
      go_simp;go_wp2_with fail;refine HK.out.zt (fun wx=>ay wx h 384 #[.slice (some ⟨g,0,none⟩) (n+1) c3,.func (.func 254) #[] #[]]) (fun _ h=>h) (hS) ?_;clear HK hS;intro hS;try simp only[zP]
      clear u2 u3 u4 u5;refine zt 28 hS ?_;try simp only[zP]
      have q1:=(HX.out.2.2.2.1 _ H6.out.1).1.1;have q2:=(HX.out.2.2.2.1 _ H6.out.1).1.2;have qf:=H6.out.1.eu;obtain⟨w7,hw7⟩:∃ w7,w7=((w6.setCell ⟨g,(k+1)*2,none⟩ (.slice A2 n2 c2)).setCell ⟨g,(k+1)*2+1,none⟩ (Z (x2:Nat))).drew:=⟨_,rfl⟩
      have h7:aL w7 B h (some ⟨g,0,none⟩) c3 it (fun j=>if j=k+1 then x2 else f' j) (n+1)/\Keeps (fun q=>q=g) w6 w7:=by
       have h:=H6.out.1.put (i:=k+1) (x:=x2) J (w':=(w6.setCell ⟨g,(k+1)*2,none⟩ (.slice A2 n2 c2)).setCell ⟨g,(k+1)*2+1,none⟩ (Z (x2:Nat))) (by rw[HX.out.2.2.2.2.2.1]);rw[hw7];exact⟨h.1.call (Below.refl _ _).drew,h.2.drew⟩
      have H7:=zh h7;have HW7:=zh hw7;clear h7 hw7;refine zC 29 fun K HK=>?_
      go_simp;rw[<-HW7.out];go_wp2_with fail;refine HK.out.zt (fun wx=>ay wx h 384 #[.slice (some ⟨g,0,none⟩) (n+1) c3,.func (.func 254) #[] #[]]) (fun _ h=>h) (H7.out.1.blk) ?_;clear HK hS;intro hS;try simp only[zP]
      clear q1 q2 qf;refine zt 30 hS ?_;try simp only[zP]
      have q34:w7.cell? ⟨g,k / 2*2,none⟩=some (.slice A2 n2 c2)/\w7.cell? ⟨g,k / 2*2+1,none⟩=some (Z (x2:Nat)):=by
       have h:=H7.out.1.cell (j:=k / 2) J;rw[if_neg J,<-HX.out.2.2.2.2.2.2.2,HX.out.2.2.2.2.2.1] at h
       exact h
      have q1:=q34.1;have q2:=q34.2;have qf:=H7.out.1.eu;obtain⟨w8,hw8⟩:∃ w8,w8=((w7.setCell ⟨g,k / 2*2,none⟩ (.slice A1 n1 c1)).setCell ⟨g,k / 2*2+1,none⟩ (Z (x1:Nat))):=⟨_,rfl⟩
      have h8:=H7.out.1.put (i:=k / 2) (x:=x1) J (w':=w8) (by rw[HX.out.2.2.2.2.1];exact hw8);have hbel8:HB B w w8:=by
       have hg:B<=g:=by
        obtain⟨g',hA,_,hlo,_⟩:=H6.out.1.yH J;injection hA with hA
        injection hA with hA
        rw[hA];exact hlo
       exact(H6.out.2.keeps H7.out.2 H6.out.1.ht2 hg).keeps h8.2 H7.out.1.ht2 hg
      have H8:=zh (zN h8.1 hbel8);have HW8:=zh hw8;clear q34 h8 hbel8 hw8;refine zC 31 fun K HK=>?_
      go_simp;rw[<-HW8.out];go_wp2_with fail;refine HK.out.zt (fun wx=>ay wx h 384 #[.slice (some ⟨g,0,none⟩) (n+1) c3,.func (.func 254) #[] #[]]) (fun _ h=>h) (H8.out.1.blk) ?_;clear HK hS;intro hS;try simp only[zP]
      refine zD ?_;try simp only[zP]
      clear q1 q2 qf hS;go_wp2_with fail
      go_roundw
      case rel=>
       have e:par (k+1)=k / 2:=by unfold par;omega
       have hfe:∀ j,(if j=k / 2 then x1 else if j=k+1 then x2 else f' j)=dB f' (k+1) (par (k+1)) j:=fun j=>by
        unfold dB;rw[e,HX.out.2.2.2.2.2.2.1,HX.out.2.2.2.2.2.2.2]
        by_cases h1:j=k / 2
        ·rw[if_pos h1,if_neg J,if_pos h1]
        ·rw[if_neg h1]
         by_cases h2:j=k+1
         ·rw[if_pos h2,if_pos h2]
         ·rw[if_neg h2,if_neg h2,if_neg h1]
       have hfe2:=funext hfe;refine⟨k / 2,_,J,by go_num,H8.out.1,?_,?_,H8.out.2⟩
       ·rw[hfe2,<-e]
        exact HL.out.2.1.step J J (by rw[e,<-HX.out.2.2.2.2.2.2.1,<-HX.out.2.2.2.2.2.2.2];exact hlt)
       ·rw[hfe2]
        exact HL.out.2.2.1.swap J (by rw[e];omega)
      case measure=>simp[intOf]<;>omega
    ·have d7:decide (x1 < x2)=false:=by simp;omega
     go_wp2_with fail;refine bodyPost_end (v:=.tuple #[]) (by simp[results,Tryz.results255,go_sem]) rfl ?_;exact⟨rfl,_,c3,f',H6.out.1,HL.out.2.1.done (by
      have e:par (k+1)=k / 2:=by unfold par;omega
      rw[e,<-HX.out.2.2.2.2.2.2.2,<-HX.out.2.2.2.2.2.2.1];omega),HL.out.2.2.1,H6.out.2⟩
 ·skip
  have HK:=zh hK;clear hK;have hS2:ay W2 bx 387 #[.slice Ax nx cx,Z (x:Nat)]:=by rw[HW2.out];exact (H1.out.2.2.alloc _).drew
  have u4:W2.cell? ⟨h,0,none⟩=some (.slice A n cp):=by rw[HW2.out];exact (H1.out.2.1.blk.alloc _).drew.cell 0
  go_simp;rw[<-HW2.out];go_wp2_with fail;refine HK.out.zt (fun wx=>ay wx bx 387 #[.slice Ax nx cx,Z (x:Nat)]) (fun _ h=>h) (hS2) ?_;clear HK hS;intro hS;try simp only[zP]
  refine zC 4 fun K HK=>?_
  go_simp;go_wp2_with fail;refine HK.out.zt (fun wx=>ay wx bx 387 #[.slice Ax nx cx,Z (x:Nat)]) (fun _ h=>h) (hS2) ?_;clear HK hS;intro hS;try simp only[zP]
  clear hS2 u4;refine zC 7 fun K HK=>?_
  refine dA rfl (.tmp 9) (.tmp 11) rfl rfl rfl hrun3 ?_;refine HK.out.zt (fun wx=>ay wx bx 387 #[.slice Ax nx cx,Z (x:Nat)]) (fun _ h=>h) (HP.out.2.2.2.1) ?_;clear HK hS;intro hS;try simp only[zP]
  refine zB [8,9] ?_;iterate 2 (refine zv hS ?_;try simp only[zP])
  refine zE ?_;refine zC 10 fun K HK=>?_
  go_simp;rw[<-HW4.out];go_wp2_with fail;refine HK.out.zt (fun wx=>ay wx bx 387 #[.slice Ax nx cx,Z (x:Nat)]) (fun _ h=>h) (HP.out.2.2.2.2) ?_;clear HK hS;intro hS;try simp only[zP]
  refine zD ?_;try simp only[zP]
  clear hrun3 hS u3 uf;have v0:=HP.out.1.blk.cell 0;go_wp2_with fail;clear v0;obtain⟨g,hA3,-,-,-,-⟩:=HP.out.1.yH J;subst hA3
  go_loopw [4] (fun i wr=>∃ (k:Nat) (f':Nat->Nat),k<=n/\i=Z (k:Nat)/\aL wr B h (some ⟨g,0,none⟩) c3 it f' (n+1)/\j6 f' (n+1) k/\Holds f' (n+1) (fun y=>S y\/y=x)/\HB B w wr) (fun i _=>(intOf i).toNat)
  case atStart=>exact ⟨n,_,Nat.le_refl _,rfl,HP.out.1,HP.out.2.1,HP.out.2.2.1,HW.out⟩
  case round=>
   obtain⟨k,f',hk,rfl,hh,hup,hs,hbel⟩:=hrel;have hS:=hh.call (Below.refl _ _).drew;have HL:=zh (zN hh (zN hup (zN hs hbel)));clear hh hup hs hbel
   cases k with
   | zero=>
    go_wp2_with fail;have hS:(fun wx=>aL wx B h (some ⟨g,0,none⟩) c3 it f' (n+1)) (wr.drew):=hS;refine aA (fun wx=>aL wx B h (some ⟨g,0,none⟩) c3 it f' (n+1)) (by kernel_rfl) hS ?_;refine zB [0,1,2] ?_;iterate 3 (refine zv hS ?_;try simp only[zP])
    refine zE ?_;refine zB [3,4,5,6,7,8,9,10,11,12,13,14,15,16,17,18,19,20,21,22,23] ?_;iterate 21 (refine zW hS ?_;try simp only[zP])
    refine zE ?_;refine zt 24 hS ?_;try simp only[zP]
    refine zD ?_;try simp only[zP]
    have HS2:=zh hS;clear hS;go_wp2_with fail;refine bodyPost_end (v:=.tuple #[]) (by simp[results,Tryz.results255,go_sem]) rfl ?_;exact⟨rfl,_,c3,f',HS2.out,HL.out.2.1.Qa,HL.out.2.2.1,HL.out.2.2.2.drew⟩
   | succ k=>
    have hm1:=HL.out.2.2.1.mem (k+1) J;have hm2:=HL.out.2.2.1.mem (k / 2) J;obtain⟨A1,n1,c1,e1,-,-⟩:=HD.out.2.2.2.2.2.2.1.at_ _ hm1;obtain⟨A2,n2,c2,e2,-,-⟩:=HD.out.2.2.2.2.2.2.1.at_ _ hm2;obtain⟨x1,hx1⟩:∃ x1,x1=f' (k+1):=⟨_,rfl⟩
    obtain⟨x2,hx2⟩:∃ x2,x2=f' (k / 2):=⟨_,rfl⟩
    rw[<-hx1] at hm1 e1
    rw[<-hx2] at hm2 e2
    have hne:x1≠x2:=fun e=>by
     have:=HL.out.2.2.1.inj (k+1) (k / 2) J J (by rw[<-hx1,<-hx2,e]);omega
    have hcell:∀ wx,aL wx B h (some ⟨g,0,none⟩) c3 it f' (n+1)->(wx.cell? ⟨g,(k+1)*2,none⟩=some (.slice A1 n1 c1)/\wx.cell? ⟨g,(k+1)*2+1,none⟩=some (Z (x1:Nat)))/\(wx.cell? ⟨g,k / 2*2,none⟩=some (.slice A2 n2 c2)/\wx.cell? ⟨g,k / 2*2+1,none⟩=some (Z (x2:Nat))):=fun wx hx=>by
     have q1:=hx.cell (j:=k+1) J;have q2:=hx.cell (j:=k / 2) J;rw[<-hx1,e1] at q1
     rw[<-hx2,e2] at q2
     exact⟨q1,q2⟩
    have HX:=zh (zN hm1 (zN hm2 (zN hne (zN hcell (zN e1 (zN e2 (zN hx1 hx2)))))));clear hm1 hm2 hne hcell e1 e2 hx1 hx2;have d1:decide ((0:Int) < (k:Int)+1)=true:=by simp<;>omega
    have d2:(0:Int) < (k:Int)+1:=J;have d3:(k:Int)+1 < (n:Int)+1:=J;have d4:(k:Int) / 2 < (n:Int)+1:=J;have d5:IntKind.i64.wrap (k:Int)=(k:Int):=by simp only[IntKind.wrap_i64];omega
    have d6:(0:Int)<=(k:Int) / 2:=J;have d8:(0:Int)<=(k:Int)+1:=J;have d9:IntKind.i64.wrap ((k:Int) / 2)=(k:Int) / 2:=by simp only[IntKind.wrap_i64];omega
    have d10:((k:Int) / 2).toNat=k / 2:=J;go_wp2_with fail;have hS:(fun wx=>aL wx B h (some ⟨g,0,none⟩) c3 it f' (n+1)) (wr.drew):=hS;refine aA (fun wx=>aL wx B h (some ⟨g,0,none⟩) c3 it f' (n+1)) (by kernel_rfl) hS ?_;refine zB [0,1,2,3,4,5,6,7,8,9,10,11,12,13,14,15,16,17,18,19,20,21,22] ?_;iterate 23 (refine zV ?_ ?_ hS ?_;rotate_left;(intro w' hSw;have u0:=hSw.blk.cell 0;have u1:=hSw.blk.cell 1;obtain ⟨⟨u2,u3⟩,u4,u5⟩:=HX.out.2.2.2.1 _ hSw;go_simp<;>with_reducible rfl);try simp only[zP])
    refine zE ?_;have hcall:Calls Tryz.prog 254 #[.agg #[.slice A1 n1 c1,Z (x1:Nat)],.agg #[.slice A2 n2 c2,Z (x2:Nat)]] wr.drew fun e w'=>e=.returned (.bool (decide (x1 < x2)))/\Below wr.drew.heap.size wr.drew w':=by
     have hc:=kL w0 wr.drew B it ip _ ((HD.out.1.trans HL.out.2.2.2.av).drew) HD.out.2.1 HD.out.2.2.2.2.2.2.1 x1 x2 HX.out.1 HX.out.2.1 HX.out.2.2.1;rw[HX.out.2.2.2.2.1,HX.out.2.2.2.2.2.1] at hc
     exact hc
    refine zC 23 fun K HK=>?_
    go_simp;refine(hcall).mono ?_;rintro e w6 ⟨rfl,hb6⟩;have hh6:=(HL.out.1.call (Below.refl _ _).drew).call hb6;have hbel6:HB B w w6:=HL.out.2.2.2.drew.call hb6;have H6:=zh (zN hh6 hbel6);clear hh6 hbel6 hb6 hcall;go_wp2_with fail;refine HK.out.zt (fun wx=>aL wx B h (some ⟨g,0,none⟩) c3 it f' (n+1)) (fun _ h=>h) (H6.out.1) ?_;clear HK hS;intro hS;try simp only[zP]
    refine zt 24 hS ?_;try simp only[zP]
    refine zD ?_;try simp only[zP]
    clear hS
    by_cases hlt:x1 < x2
    ·have d7:decide (x1 < x2)=true:=by simp[hlt]
     go_wp2_with fail;clear d7;have hS:=H6.out.1.blk.drew;have hS:(fun wx=>ay wx h 384 #[.slice (some ⟨g,0,none⟩) (n+1) c3,.func (.func 254) #[] #[]]) (w6.drew):=hS;refine aA (fun wx=>ay wx h 384 #[.slice (some ⟨g,0,none⟩) (n+1) c3,.func (.func 254) #[] #[]]) (by kernel_rfl) hS ?_;refine zB [0,1,2,3,4,5,6,7,8,9,10,11,12,13,14,15,16,17,18,19,21,22,23,24,25,26] ?_;iterate 26 (refine zV ?_ ?_ hS ?_;rotate_left;(intro w' hSw;have u0:=hSw.cell 0;go_simp<;>with_reducible rfl);try simp only[zP])
     refine zE ?_;refine fA (i:=20) (j:=27) rfl rfl (by kernel_rfl) (fun K hK=>?_) (fun K hK=>?_)
     ·skip
      have HK:=zh hK;clear hK;obtain⟨⟨u2,u3⟩,u4,u5⟩:=HX.out.2.2.2.1 _ (H6.out.1.call (Below.refl _ _).drew);go_simp;go_wp2_with fail;refine HK.out.zt (fun wx=>ay wx h 384 #[.slice (some ⟨g,0,none⟩) (n+1) c3,.func (.func 254) #[] #[]]) (fun _ h=>h) (hS) ?_;clear HK hS;intro hS;try simp only[zP]
      refine zC 27 fun K HK=>?_
      go_simp;go_wp2_with fail;refine HK.out.zt (fun wx=>ay wx h 384 #[.slice (some ⟨g,0,none⟩) (n+1) c3,.func (.func 254) #[] #[]]) (fun _ h=>h) (hS) ?_;clear HK hS;intro hS;try simp only[zP]
      clear u2 u3 u4 u5;refine zt 28 hS ?_;try simp only[zP]
      have q1:=(HX.out.2.2.2.1 _ H6.out.1).1.1;have q2:=(HX.out.2.2.2.1 _ H6.out.1).1.2;have qf:=H6.out.1.eu;obtain⟨w7,hw7⟩:∃ w7,w7=((w6.setCell ⟨g,(k+1)*2,none⟩ (.slice A2 n2 c2)).setCell ⟨g,(k+1)*2+1,none⟩ (Z (x2:Nat))).drew:=⟨_,rfl⟩
      have h7:aL w7 B h (some ⟨g,0,none⟩) c3 it (fun j=>if j=k+1 then x2 else f' j) (n+1)/\Keeps (fun q=>q=g) w6 w7:=by
       have h:=H6.out.1.put (i:=k+1) (x:=x2) J (w':=(w6.setCell ⟨g,(k+1)*2,none⟩ (.slice A2 n2 c2)).setCell ⟨g,(k+1)*2+1,none⟩ (Z (x2:Nat))) (by rw[HX.out.2.2.2.2.2.1]);rw[hw7];exact⟨h.1.call (Below.refl _ _).drew,h.2.drew⟩
      have H7:=zh h7;have HW7:=zh hw7;clear h7 hw7;refine zC 29 fun K HK=>?_
      go_simp;rw[<-HW7.out];go_wp2_with fail;refine HK.out.zt (fun wx=>ay wx h 384 #[.slice (some ⟨g,0,none⟩) (n+1) c3,.func (.func 254) #[] #[]]) (fun _ h=>h) (H7.out.1.blk) ?_;clear HK hS;intro hS;try simp only[zP]
      clear q1 q2 qf;refine zt 30 hS ?_;try simp only[zP]
      have q34:w7.cell? ⟨g,k / 2*2,none⟩=some (.slice A2 n2 c2)/\w7.cell? ⟨g,k / 2*2+1,none⟩=some (Z (x2:Nat)):=by
       have h:=H7.out.1.cell (j:=k / 2) J;rw[if_neg J,<-HX.out.2.2.2.2.2.2.2,HX.out.2.2.2.2.2.1] at h
       exact h
      have q1:=q34.1;have q2:=q34.2;have qf:=H7.out.1.eu;obtain⟨w8,hw8⟩:∃ w8,w8=((w7.setCell ⟨g,k / 2*2,none⟩ (.slice A1 n1 c1)).setCell ⟨g,k / 2*2+1,none⟩ (Z (x1:Nat))):=⟨_,rfl⟩
      have h8:=H7.out.1.put (i:=k / 2) (x:=x1) J (w':=w8) (by rw[HX.out.2.2.2.2.1];exact hw8);have hbel8:HB B w w8:=by
       have hg:B<=g:=by
        obtain⟨g',hA,_,hlo,_⟩:=H6.out.1.yH J;injection hA with hA
        injection hA with hA
        rw[hA];exact hlo
       exact(H6.out.2.keeps H7.out.2 H6.out.1.ht2 hg).keeps h8.2 H7.out.1.ht2 hg
      have H8:=zh (zN h8.1 hbel8);have HW8:=zh hw8;clear q34 h8 hbel8 hw8;refine zC 31 fun K HK=>?_
      go_simp;rw[<-HW8.out];go_wp2_with fail;refine HK.out.zt (fun wx=>ay wx h 384 #[.slice (some ⟨g,0,none⟩) (n+1) c3,.func (.func 254) #[] #[]]) (fun _ h=>h) (H8.out.1.blk) ?_;clear HK hS;intro hS;try simp only[zP]
      refine zD ?_;try simp only[zP]
      clear q1 q2 qf hS;go_wp2_with fail
      go_roundw
      case rel=>
       have e:par (k+1)=k / 2:=by unfold par;omega
       have hfe:∀ j,(if j=k / 2 then x1 else if j=k+1 then x2 else f' j)=dB f' (k+1) (par (k+1)) j:=fun j=>by
        unfold dB;rw[e,HX.out.2.2.2.2.2.2.1,HX.out.2.2.2.2.2.2.2]
        by_cases h1:j=k / 2
        ·rw[if_pos h1,if_neg J,if_pos h1]
        ·rw[if_neg h1]
         by_cases h2:j=k+1
         ·rw[if_pos h2,if_pos h2]
         ·rw[if_neg h2,if_neg h2,if_neg h1]
       have hfe2:=funext hfe;refine⟨k / 2,_,J,by go_num,H8.out.1,?_,?_,H8.out.2⟩
       ·rw[hfe2,<-e]
        exact HL.out.2.1.step J J (by rw[e,<-HX.out.2.2.2.2.2.2.1,<-HX.out.2.2.2.2.2.2.2];exact hlt)
       ·rw[hfe2]
        exact HL.out.2.2.1.swap J (by rw[e];omega)
      case measure=>simp[intOf]<;>omega
     ·skip
      have HK:=zh hK;clear hK;obtain⟨⟨u2,u3⟩,u4,u5⟩:=HX.out.2.2.2.1 _ (H6.out.1.call (Below.refl _ _).drew);go_simp;go_wp2_with fail;refine HK.out.zt (fun wx=>ay wx h 384 #[.slice (some ⟨g,0,none⟩) (n+1) c3,.func (.func 254) #[] #[]]) (fun _ h=>h) (hS) ?_;clear HK hS;intro hS;try simp only[zP]
      refine zC 20 fun K HK=>?_
      go_simp;go_wp2_with fail;refine HK.out.zt (fun wx=>ay wx h 384 #[.slice (some ⟨g,0,none⟩) (n+1) c3,.func (.func 254) #[] #[]]) (fun _ h=>h) (hS) ?_;clear HK hS;intro hS;try simp only[zP]
      clear u2 u3 u4 u5;refine zt 28 hS ?_;try simp only[zP]
      have q1:=(HX.out.2.2.2.1 _ H6.out.1).1.1;have q2:=(HX.out.2.2.2.1 _ H6.out.1).1.2;have qf:=H6.out.1.eu;obtain⟨w7,hw7⟩:∃ w7,w7=((w6.setCell ⟨g,(k+1)*2,none⟩ (.slice A2 n2 c2)).setCell ⟨g,(k+1)*2+1,none⟩ (Z (x2:Nat))).drew:=⟨_,rfl⟩
      have h7:aL w7 B h (some ⟨g,0,none⟩) c3 it (fun j=>if j=k+1 then x2 else f' j) (n+1)/\Keeps (fun q=>q=g) w6 w7:=by
       have h:=H6.out.1.put (i:=k+1) (x:=x2) J (w':=(w6.setCell ⟨g,(k+1)*2,none⟩ (.slice A2 n2 c2)).setCell ⟨g,(k+1)*2+1,none⟩ (Z (x2:Nat))) (by rw[HX.out.2.2.2.2.2.1]);rw[hw7];exact⟨h.1.call (Below.refl _ _).drew,h.2.drew⟩
      have H7:=zh h7;have HW7:=zh hw7;clear h7 hw7;refine zC 29 fun K HK=>?_
      go_simp;rw[<-HW7.out];go_wp2_with fail;refine HK.out.zt (fun wx=>ay wx h 384 #[.slice (some ⟨g,0,none⟩) (n+1) c3,.func (.func 254) #[] #[]]) (fun _ h=>h) (H7.out.1.blk) ?_;clear HK hS;intro hS;try simp only[zP]
      clear q1 q2 qf;refine zt 30 hS ?_;try simp only[zP]
      have q34:w7.cell? ⟨g,k / 2*2,none⟩=some (.slice A2 n2 c2)/\w7.cell? ⟨g,k / 2*2+1,none⟩=some (Z (x2:Nat)):=by
       have h:=H7.out.1.cell (j:=k / 2) J;rw[if_neg J,<-HX.out.2.2.2.2.2.2.2,HX.out.2.2.2.2.2.1] at h
       exact h
      have q1:=q34.1;have q2:=q34.2;have qf:=H7.out.1.eu;obtain⟨w8,hw8⟩:∃ w8,w8=((w7.setCell ⟨g,k / 2*2,none⟩ (.slice A1 n1 c1)).setCell ⟨g,k / 2*2+1,none⟩ (Z (x1:Nat))):=⟨_,rfl⟩
      have h8:=H7.out.1.put (i:=k / 2) (x:=x1) J (w':=w8) (by rw[HX.out.2.2.2.2.1];exact hw8);have hbel8:HB B w w8:=by
       have hg:B<=g:=by
        obtain⟨g',hA,_,hlo,_⟩:=H6.out.1.yH J;injection hA with hA
        injection hA with hA
        rw[hA];exact hlo
       exact(H6.out.2.keeps H7.out.2 H6.out.1.ht2 hg).keeps h8.2 H7.out.1.ht2 hg
      have H8:=zh (zN h8.1 hbel8);have HW8:=zh hw8;clear q34 h8 hbel8 hw8;refine zC 31 fun K HK=>?_
      go_simp;rw[<-HW8.out];go_wp2_with fail;refine HK.out.zt (fun wx=>ay wx h 384 #[.slice (some ⟨g,0,none⟩) (n+1) c3,.func (.func 254) #[] #[]]) (fun _ h=>h) (H8.out.1.blk) ?_;clear HK hS;intro hS;try simp only[zP]
      refine zD ?_;try simp only[zP]
      clear q1 q2 qf hS;go_wp2_with fail
      go_roundw
      case rel=>
       have e:par (k+1)=k / 2:=by unfold par;omega
       have hfe:∀ j,(if j=k / 2 then x1 else if j=k+1 then x2 else f' j)=dB f' (k+1) (par (k+1)) j:=fun j=>by
        unfold dB;rw[e,HX.out.2.2.2.2.2.2.1,HX.out.2.2.2.2.2.2.2]
        by_cases h1:j=k / 2
        ·rw[if_pos h1,if_neg J,if_pos h1]
        ·rw[if_neg h1]
         by_cases h2:j=k+1
         ·rw[if_pos h2,if_pos h2]
         ·rw[if_neg h2,if_neg h2,if_neg h1]
       have hfe2:=funext hfe;refine⟨k / 2,_,J,by go_num,H8.out.1,?_,?_,H8.out.2⟩
       ·rw[hfe2,<-e]
        exact HL.out.2.1.step J J (by rw[e,<-HX.out.2.2.2.2.2.2.1,<-HX.out.2.2.2.2.2.2.2];exact hlt)
       ·rw[hfe2]
        exact HL.out.2.2.1.swap J (by rw[e];omega)
      case measure=>simp[intOf]<;>omega
    ·have d7:decide (x1 < x2)=false:=by simp;omega
     go_wp2_with fail;refine bodyPost_end (v:=.tuple #[]) (by simp[results,Tryz.results255,go_sem]) rfl ?_;exact⟨rfl,_,c3,f',H6.out.1,HL.out.2.1.done (by
      have e:par (k+1)=k / 2:=by unfold par;omega
      rw[e,<-HX.out.2.2.2.2.2.2.2,<-HX.out.2.2.2.2.2.2.1];omega),HL.out.2.2.1,H6.out.2⟩
theorem bJ(w:World): (Op.unary .not (.bool true)).run Tryz.prog w=.ok (.bool false) w:=by kernel_rfl
theorem eP(w:World): (Op.unary .not (.bool false)).run Tryz.prog w=.ok (.bool true) w:=by kernel_rfl
def Qr(w:World)(B h:Nat)(cp:Nat)(it:Nat->Value)(n:Nat)(S:Nat->Prop)(x:Nat)(e:Ending)(w':World): Prop:=
 e=.returned (.agg #[it x,Z (x:Nat)])/\∃ A' f',aL w' B h A' cp it f' n/\jl f' n/\Holds f' n (fun y=>S y/\y≠x)/\HB B w w'
theorem aL.cut{w w':World}{B h g:Nat}{cp:Nat}{it:Nat->Value}{f:Nat->Nat}{n:Nat}(hh:aL w B h (some ⟨g,0,none⟩) cp it f (n+1))(hw:w'=w.setCell ⟨h,0,none⟩ (.slice (some ⟨g,0,none⟩) n cp)): aL w' B h (some ⟨g,0,none⟩) cp it f n/\Keeps (fun q=>q=h) w w':=by
 have hk:Keeps (fun q=>q=h) w w':=by rw[hw];exact (Keeps.refl (fun q=>q=h) w).setCell (fun _=>rfl) _
 have hb:=hh.blk.set 0 (.slice (some ⟨g,0,none⟩) n cp);rw[<-hw] at hb
 have hr:=aG hh.row hk (fun q hq e=>own_ne hh.row hh.blk (by decide) (by rw[hq,e]));refine⟨⟨hb,?_,hh.hB⟩,hk⟩;rcases hr.2 with ⟨hv,-⟩ | ⟨g',cap,cur,hv,hB',hg,hnc,hcm,hcs,htk⟩
 ·cases hv
 ·injection hv with h1 h2 h3
  injection h1 with h1
  injection h1 with h1
  subst h1;subst h3;refine⟨gD _ _ _,.inr ⟨g,cp,cur,rfl,hB',hg,J,hcm,hcs,?_⟩⟩;have h:=congrArg (List.take (n*2)) htk;rw[List.take_take,Nat.min_eq_left J] at h
  rw[h];show List.take (n*2) (jM it f n ++ _)=_
  rw[List.take_append_of_le_length (by rw[gD];exact Nat.le_refl _),List.take_of_length_le (by rw[gD];exact Nat.le_refl _)]
theorem OC(w0 w:World)(B h:Nat)(A:Option Addr)(cp:Nat)(it:Nat->Value)(ip:Nat->Nat->Pt)(f:Nat->Nat)(n:Nat)(S:Nat->Prop)(hw:Below B w0 w)(hB:B<=w0.heap.size)(hh:aL w B h A cp it f (n+1))(hp:jl f (n+1))(hs:Holds f (n+1) S)(hit:uL w0 B it ip S)(hn:n < 1000):
  Calls Tryz.prog 256 #[.pointer (some ⟨h,0,none⟩)] w (Qr w B h cp it n S (f 0)):=by
 obtain⟨g,rfl,hnc,hBg,hgh,hc63⟩:=hh.yH J;obtain⟨x0,hx0⟩:∃ x0,x0=f 0:=⟨_,rfl⟩
 obtain⟨xn,hxn⟩:∃ xn,xn=f n:=⟨_,rfl⟩
 obtain⟨A0,n0,c0,e0,-,-⟩:=hit.at_ _ (hs.mem 0 J);obtain⟨An,nn,cn,en,-,-⟩:=hit.at_ _ (hs.mem n J);rw[<-hx0] at e0 ⊢
 rw[<-hxn] at en
 have hBw:B<=w.heap.size:=Nat.le_trans hB hw.size;obtain⟨r0,hr0⟩:∃ r0,r0=w.heap.size:=⟨_,rfl⟩
 have o0:=Own.bn w hr0 387 #[.slice none 0 0,Z 0]
 have hcl:∀ wx,aL wx B h (some ⟨g,0,none⟩) cp it f (n+1)->(wx.cell? ⟨g,0,none⟩=some (.slice A0 n0 c0)/\wx.cell? ⟨g,1,none⟩=some (Z (x0:Nat)))/\(wx.cell? ⟨g,n*2,none⟩=some (.slice An nn cn)/\wx.cell? ⟨g,n*2+1,none⟩=some (Z (xn:Nat))):=fun wx hx=>by
  have q1:=hx.cell (j:=0) J;have q2:=hx.cell (j:=n) J;rw[<-hx0,e0] at q1
  rw[<-hxn,en] at q2
  exact⟨q1,q2⟩
 have HD:=zh (zN hw (zN hB (zN hh (zN hp (zN hs (zN hit (zN hBw (zN hr0 (zN o0 (zN hcl (zN hx0 (zN hxn (zN e0 (zN en (zN hBg hgh)))))))))))))));clear hw hB hh hp hs hit o0 hcl hx0 hxn e0 en hBg hgh
 go_enter Tryz.func256,Tryz.ntmps256
 go_wp2_with fail;rw[<-hr0];clear hr0;refine aC (fun wx=>Own w [(r0,387,#[.slice none 0 0,Z 0])] wx) HD.out.2.2.2.2.2.2.2.2.1 ?_;intro w1 o1;have hh1:=HD.out.2.2.1.call o1.av;have hS:=hh1.call (Below.refl _ _).drew;have H1:=zh (zN o1 hh1);clear o1 hh1;have d1:IntKind.i64.wrap (n:Int)=(n:Int):=by simp only[IntKind.wrap_i64];omega
 have d2:(0:Int) < (n:Int)+1:=J;have d3:(n:Int) < (n:Int)+1:=J;have hS:(fun wx=>aL wx B h (some ⟨g,0,none⟩) cp it f (n+1)) (w1.drew):=hS;refine aA (fun wx=>aL wx B h (some ⟨g,0,none⟩) cp it f (n+1)) (by kernel_rfl) hS ?_;refine zB [0,1,2,3,4,5,6,7,8,9,10,11] ?_;iterate 12 (refine zV ?_ ?_ hS ?_;rotate_left;(intro w' hSw;have u0:=hSw.blk.cell 0;obtain ⟨⟨u2,u3⟩,-,-⟩:=HD.out.2.2.2.2.2.2.2.2.2.1 _ hSw;go_simp<;>with_reducible rfl);try simp only[zP])
 refine zE ?_;refine zC 12 fun K HK=>?_
 go_simp;obtain⟨gx,hgx⟩:∃ gx,gx=w1.heap.size:=⟨_,rfl⟩
 obtain⟨W2,hW2⟩:∃ W2,W2=(w1.alloc (.cells #[.slice none 0 0,Z 0] 387)).drew:=⟨_,rfl⟩
 have o2:Own w [(r0,387,#[.slice none 0 0,Z 0]),(gx,387,#[.slice none 0 0,Z 0])] W2:=by rw[hW2];exact (H1.out.1.alloc hgx _ _).drew
 rw[<-hgx,<-hW2];clear hgx hW2;obtain⟨z0,z1⟩:=o2.c2 1;have zf:=o2.free 1 rfl;have o3:Own w [(r0,387,#[.slice none 0 0,Z 0]),(gx,387,#[.slice A0 n0 c0,Z (x0:Nat)])] ((W2.setCell ⟨gx,0,none⟩ (.slice A0 n0 c0)).setCell ⟨gx,1,none⟩ (Z (x0:Nat))):=(o2.set 1 0 rfl _).set 1 1 rfl _;obtain⟨W3,hW3⟩:∃ W3,W3=(W2.setCell ⟨gx,0,none⟩ (.slice A0 n0 c0)).setCell ⟨gx,1,none⟩ (Z (x0:Nat)):=⟨_,rfl⟩
 rw[<-hW3] at o3
 have H2:=zh (zN o2 o3);have HW3:=zh hW3;clear o2 o3 hW3;go_wp2_with fail;refine HK.out.zt (fun wx=>aL wx B h (some ⟨g,0,none⟩) cp it f (n+1)) (fun _ h=>h) (HD.out.2.2.1.call H2.out.1.av) ?_;clear HK hS;intro hS;try simp only[zP]
 refine zC 13 fun K HK=>?_
 go_simp;rw[<-HW3.out];go_wp2_with fail;refine HK.out.zt (fun wx=>aL wx B h (some ⟨g,0,none⟩) cp it f (n+1)) (fun _ h=>h) (HD.out.2.2.1.call H2.out.2.av) ?_;clear HK hS;intro hS;try simp only[zP]
 refine zt 14 hS ?_;try simp only[zP]
 refine zD ?_;try simp only[zP]
 clear hS z0 z1 zf;go_wp2_with fail;have hh3:=HD.out.2.2.1.call H2.out.2.av;have hS:=hh3.blk.drew;have hS:(fun wx=>ay wx h 384 #[.slice (some ⟨g,0,none⟩) (n+1) cp,.func (.func 254) #[] #[]]) (W3.drew):=hS;refine aA (fun wx=>ay wx h 384 #[.slice (some ⟨g,0,none⟩) (n+1) cp,.func (.func 254) #[] #[]]) (by kernel_rfl) hS ?_;refine zB [0,1,2,3,4,5,6,7,8,9] ?_;iterate 10 (refine zV ?_ ?_ hS ?_;rotate_left;(intro w' hSw;have u0:=hSw.cell 0;go_simp<;>with_reducible rfl);try simp only[zP])
 refine zE ?_;obtain⟨-,u4,u5⟩:=HD.out.2.2.2.2.2.2.2.2.2.1 _ (hh3.call (Below.refl _ _).drew);refine zC 10 fun K HK=>?_
 go_simp;go_wp2_with fail;refine HK.out.zt (fun wx=>ay wx h 384 #[.slice (some ⟨g,0,none⟩) (n+1) cp,.func (.func 254) #[] #[]]) (fun _ h=>h) (hS) ?_;clear HK hS;intro hS;try simp only[zP]
 clear u4 u5;refine zt 11 hS ?_;try simp only[zP]
 obtain⟨⟨q1,q2⟩,-,-⟩:=HD.out.2.2.2.2.2.2.2.2.2.1 _ hh3;have qf:=hh3.eu;obtain⟨W4,hW4⟩:∃ W4,W4=((W3.setCell ⟨g,0,none⟩ (.slice An nn cn)).setCell ⟨g,1,none⟩ (Z (xn:Nat))).drew:=⟨_,rfl⟩
 have h4:aL W4 B h (some ⟨g,0,none⟩) cp it (fun j=>if j=0 then xn else f j) (n+1)/\Keeps (fun q=>q=g) W3 W4:=by
  have h:=hh3.put (i:=0) (x:=xn) J (w':=(W3.setCell ⟨g,0,none⟩ (.slice An nn cn)).setCell ⟨g,1,none⟩ (Z (xn:Nat))) (by rw[HD.out.2.2.2.2.2.2.2.2.2.2.2.2.2.1]);rw[hW4];exact⟨h.1.call (Below.refl _ _).drew,h.2.drew⟩
 have H4:=zh h4;have HW4:=zh hW4;clear h4 hW4 hh3;refine zC 12 fun K HK=>?_
 go_simp;rw[<-HW4.out];go_wp2_with fail;refine HK.out.zt (fun wx=>ay wx h 384 #[.slice (some ⟨g,0,none⟩) (n+1) cp,.func (.func 254) #[] #[]]) (fun _ h=>h) (H4.out.1.blk) ?_;clear HK hS;intro hS;try simp only[zP]
 refine zD ?_;try simp only[zP]
 clear q1 q2 qf hS;have v0:=H4.out.1.blk.cell 0;have vf:=H4.out.1.blk.frozen;obtain⟨W5,hW5⟩:∃ W5,W5=W4.setCell ⟨h,0,none⟩ (.slice (some ⟨g,0,none⟩) n cp):=⟨_,rfl⟩
 have h5:=H4.out.1.cut hW5;have hgw:g < w.heap.size/\h < w.heap.size:=⟨(HD.out.2.2.1.row.lt g rfl).2,HD.out.2.2.1.blk.lt⟩
 have hr0:=HD.out.2.2.2.2.2.2.2.1;have hgx1:=H2.out.2.geq 1 rfl;have hbr:ay W5 r0 387 #[.slice none 0 0,Z 0]:=((H2.out.2.get 0 rfl).keeps H4.out.2 (fun e=>J)).keeps h5.2 (fun e=>J)
 have hbx:ay W5 gx 387 #[.slice A0 n0 c0,Z (x0:Nat)]:=((H2.out.2.get 1 rfl).keeps H4.out.2 (fun e=>J)).keeps h5.2 (fun e=>J)
 have hbel:HB B w W5:=((HB.zy H2.out.2.av HD.out.2.2.2.2.2.2.1).keeps H4.out.2 ((HD.out.2.2.1.call H2.out.2.av).ht2) HD.out.2.2.2.2.2.2.2.2.2.2.2.2.2.2.1).keeps h5.2 H4.out.1.ht1 HD.out.2.2.1.hB;have hdn:nY (fun j=>if j=0 then xn else f j) n 0:=by rw[HD.out.2.2.2.2.2.2.2.2.2.2.2.1];exact HD.out.2.2.2.1.down
 have hho:Holds (fun j=>if j=0 then xn else f j) n (fun y=>S y/\y≠x0):=by rw[HD.out.2.2.2.2.2.2.2.2.2.2.2.1,HD.out.2.2.2.2.2.2.2.2.2.2.1];exact HD.out.2.2.2.2.1.pop
 have hgr:gx≠r0:=H2.out.2.ne (i:=1) (j:=0) rfl rfl J;have H5:=zh (zN h5.1 (zN hdn (zN hho (zN hbr (zN hbx hbel)))));have HN:=zh (zN hgw (zN hr0 (zN hgx1 hgr)));have HW5:=zh hW5;clear h5 hgw hr0 hgx1 hbr hbx hbel hdn hho hgr hW5 d2 d3;go_wp2_with fail;rw[<-HW5.out];clear v0 vf
 go_loopw [5] (fun i wr=>∃ (k:Nat) (f':Nat->Nat),(k < n\/k=0)/\i=Z (k:Nat)/\aL wr B h (some ⟨g,0,none⟩) cp it f' n/\nY f' n k/\Holds f' n (fun y=>S y/\y≠x0)/\ay wr r0 387 #[.slice none 0 0,Z 0]/\ay wr gx 387 #[.slice A0 n0 c0,Z (x0:Nat)]/\HB B w wr) (fun i _=>n-(intOf i).toNat)
 case atStart=>exact ⟨0,_,.inr rfl,rfl,H5.out.1,H5.out.2.1,H5.out.2.2.1,H5.out.2.2.2.1,H5.out.2.2.2.2.1,H5.out.2.2.2.2.2⟩
 case round=>
  obtain⟨i,f',hi,rfl,hh,hdn,hs,hbr,hbx,hbel⟩:=hrel;have HL:=zh (zN hh (zN hdn (zN hs (zN hbr (zN hbx hbel)))));clear hh hdn hs hbr hbx hbel;have hi1:i < 1000:=J;go_wp2_with fail;obtain⟨k,hk⟩:∃ k,k=2*i+1:=⟨_,rfl⟩
  rw[show (2:Int)*(i:Int)+1=(k:Int) by omega];have hk4k:k < 3000/\i < k:=J;have hk4a:=hk4k.1;have hk4b:=hk4k.2;have HKK:=zh hk;clear hk hk4k;have hT:uL w0 B it ip (fun y=>S y/\y≠x0):=HD.out.2.2.2.2.2.1.mono (fun y hy=>hy.1);have HT:=zh hT;clear hT
  by_cases hk1:k+1 < n
  ·have hm1:=HL.out.2.2.1.mem (k+1) J
   have hm2:=HL.out.2.2.1.mem k J;obtain⟨A1,n1,c1,e1,-,-⟩:=HT.out.at_ _ hm1;obtain⟨A2,n2,c2,e2,-,-⟩:=HT.out.at_ _ hm2;obtain⟨y1,hy1⟩:∃ y1,y1=f' (k+1):=⟨_,rfl⟩
   obtain⟨y2,hy2⟩:∃ y2,y2=f' k:=⟨_,rfl⟩
   rw[<-hy1] at hm1 e1
   rw[<-hy2] at hm2 e2
   have hne:y1≠y2:=fun e=>by
    have:=HL.out.2.2.1.inj (k+1) k J J (by rw[<-hy1,<-hy2,e]);omega
   have hcell:∀ wx,aL wx B h (some ⟨g,0,none⟩) cp it f' n->(wx.cell? ⟨g,(k+1)*2,none⟩=some (.slice A1 n1 c1)/\wx.cell? ⟨g,(k+1)*2+1,none⟩=some (Z (y1:Nat)))/\(wx.cell? ⟨g,k*2,none⟩=some (.slice A2 n2 c2)/\wx.cell? ⟨g,k*2+1,none⟩=some (Z (y2:Nat))):=fun wx hx=>by
    have q1:=hx.cell (j:=k+1) J;have q2:=hx.cell (j:=k) J;rw[<-hy1,e1] at q1
    rw[<-hy2,e2] at q2
    exact⟨q1,q2⟩
   have hcall:Calls Tryz.prog 254 #[.agg #[.slice A1 n1 c1,Z (y1:Nat)],.agg #[.slice A2 n2 c2,Z (y2:Nat)]] wr.drew fun e w'=>e=.returned (.bool (decide (y1 < y2)))/\Below wr.drew.heap.size wr.drew w':=by
    have hc:=kL w0 wr.drew B it ip _ ((HD.out.1.trans HL.out.2.2.2.2.2.av).drew) HD.out.2.1 HT.out y1 y2 hm1 hm2 hne;rw[e1,e2] at hc
    exact hc
   have HX:=zh (zN hcell (zN hcall (zN hy1 (zN hy2 hne))));clear hcell hcall hy1 hy2 hne hm1 hm2 e1 e2;have d5:IntKind.i64.wrap ((k:Int)+1)=(k:Int)+1:=by simp only[IntKind.wrap_i64];omega
   have d1:decide ((k:Int)+1 < (n:Int))=true:=by simp;omega
   have d2:(k:Int)+1 < (n:Int):=J;have d3:(k:Int) < (n:Int):=J;have d4:(0:Int)<=(k:Int)+1:=J;have hS:=HL.out.1.call (Below.refl _ _).drew;have hS:(fun wx=>aL wx B h (some ⟨g,0,none⟩) cp it f' n) (wr.drew):=hS;refine aA (fun wx=>aL wx B h (some ⟨g,0,none⟩) cp it f' n) (by kernel_rfl) hS ?_;refine zB [0,1,2,3,4,5,6,7,8,9,10,11,12,13,14,15,16,17,18,19,20,21,22,23] ?_;iterate 24 (refine zV ?_ ?_ hS ?_;rotate_left;(intro w' hSw;have u0:=hSw.blk.cell 0;have u1:=hSw.blk.cell 1;obtain ⟨⟨u2,u3⟩,u4,u5⟩:=HX.out.1 _ hSw;go_simp<;>with_reducible rfl);try simp only[zP])
   refine zE ?_;refine zC 24 fun K HK=>?_
   go_simp;refine(HX.out.2.1).mono ?_;rintro e w6 ⟨rfl,hb6⟩;have hb6':Below wr.heap.size wr w6:=V.aB (Below.refl _ _).drew hb6;have H6:=zh (zN (HL.out.1.call hb6') (zN (HL.out.2.2.2.1.below hb6' HL.out.2.2.2.1.lt) (zN (HL.out.2.2.2.2.1.below hb6' HL.out.2.2.2.2.1.lt) (HL.out.2.2.2.2.2.call hb6'))));clear hb6 hb6';go_wp2_with fail;refine HK.out.zt (fun wx=>aL wx B h (some ⟨g,0,none⟩) cp it f' n) (fun _ h=>h) (H6.out.1) ?_;clear HK hS;intro hS;try simp only[zP]
   refine zt 25 hS ?_;try simp only[zP]
   refine zD ?_;try simp only[zP]
   clear hS d1 d2 d3 d4
   by_cases hlt:y1 < y2
   ·have d7:decide (y1 < y2)=true:=by simp[hlt]
    go_wp2_with fail;clear d7;obtain⟨kk,hkk⟩:∃ kk,kk=k+1:=⟨_,rfl⟩
    rw[show (k:Int)+1=(kk:Int) by omega];have hleast:∀ j,0 < j->j < n->par j=i->kk < n/\f' kk<=f' j:=fun j h0 hj hpj=>by
     have hj2:j=k\/j=k+1:=by have hk:=HKK.out;unfold par at hpj;omega
     refine⟨J,?_⟩;rcases hj2 with rfl | rfl
     ·rw[hkk,<-HX.out.2.2.1,<-HX.out.2.2.2.1];omega
     ·rw[hkk];exact Nat.le_refl _
    have hpk:par kk=i/\i < kk/\0 < kk/\kk < 4000:=by have hk:=HKK.out;unfold par;omega
    have HQ:=zh (zN hleast hpk.1);have hik:=hpk.2.1;have hk0:=hpk.2.2.1;have hk4:=hpk.2.2.2;clear hleast hpk hkk hk1 hlt HX hk4a hk4b
    by_cases hkn:kk < n
    ·have hm1:=HL.out.2.2.1.mem kk hkn
     have hm2:=HL.out.2.2.1.mem i J;obtain⟨A1,n1,c1,e1,-,-⟩:=HT.out.at_ _ hm1;obtain⟨A2,n2,c2,e2,-,-⟩:=HT.out.at_ _ hm2;obtain⟨y1,hy1⟩:∃ y1,y1=f' kk:=⟨_,rfl⟩
     obtain⟨y2,hy2⟩:∃ y2,y2=f' i:=⟨_,rfl⟩
     rw[<-hy1] at hm1 e1
     rw[<-hy2] at hm2 e2
     have hne:y1≠y2:=fun e=>by
      have:=HL.out.2.2.1.inj kk i hkn J (by rw[<-hy1,<-hy2,e]);omega
     have hcell:∀ wx,aL wx B h (some ⟨g,0,none⟩) cp it f' n->(wx.cell? ⟨g,kk*2,none⟩=some (.slice A1 n1 c1)/\wx.cell? ⟨g,kk*2+1,none⟩=some (Z (y1:Nat)))/\(wx.cell? ⟨g,i*2,none⟩=some (.slice A2 n2 c2)/\wx.cell? ⟨g,i*2+1,none⟩=some (Z (y2:Nat))):=fun wx hx=>by
      have q1:=hx.cell (j:=kk) hkn;have q2:=hx.cell (j:=i) J;rw[<-hy1,e1] at q1
      rw[<-hy2,e2] at q2
      exact⟨q1,q2⟩
     have hcall:Calls Tryz.prog 254 #[.agg #[.slice A1 n1 c1,Z (y1:Nat)],.agg #[.slice A2 n2 c2,Z (y2:Nat)]] w6.drew fun e w'=>e=.returned (.bool (decide (y1 < y2)))/\Below w6.drew.heap.size w6.drew w':=by
      have hc:=kL w0 w6.drew B it ip _ ((HD.out.1.trans H6.out.2.2.2.av).drew) HD.out.2.1 HT.out y1 y2 hm1 hm2 hne;rw[e1,e2] at hc
      exact hc
     have HX:=zh (zN hcell (zN hy1 (zN hy2 (zN e1 (zN e2 hcall)))));clear hcell hcall hy1 hy2 hne hm1 hm2 e1 e2;have d1:decide ((n:Int)<=(kk:Int))=false:=by simp;omega
     have d2:decide (n<=kk)=false:=by simp;omega
     have d3:(kk:Int) < (n:Int):=J;have d4:(i:Int) < (n:Int):=J;have nt:=bJ;have nf:=eP;have hS:=H6.out.1.call (Below.refl _ _).drew;have hS:(fun wx=>aL wx B h (some ⟨g,0,none⟩) cp it f' n) (w6.drew):=hS;refine aA (fun wx=>aL wx B h (some ⟨g,0,none⟩) cp it f' n) (by kernel_rfl) hS ?_;refine zB [0,1,2,3,4,5,6,7,8,9,10,11,12,13,14,15,16,17,18,19,20,21] ?_;iterate 22 (refine zV ?_ ?_ hS ?_;rotate_left;(intro w' hSw;have u0:=hSw.blk.cell 0;have u1:=hSw.blk.cell 1;obtain ⟨⟨u2,u3⟩,u4,u5⟩:=HX.out.1 _ hSw;go_simp<;>with_reducible rfl);try simp only[zP])
     refine zE ?_;refine zC 22 fun K HK=>?_
     go_simp;refine(HX.out.2.2.2.2.2).mono ?_;rintro e w7 ⟨rfl,hb7⟩;have hb7':Below w6.heap.size w6 w7:=V.aB (Below.refl _ _).drew hb7;have H7:=zh (zN (H6.out.1.call hb7') (zN (H6.out.2.1.below hb7' H6.out.2.1.lt) (zN (H6.out.2.2.1.below hb7' H6.out.2.2.1.lt) (H6.out.2.2.2.call hb7'))));clear hb7 hb7';go_wp2_with fail;refine HK.out.zt (fun wx=>aL wx B h (some ⟨g,0,none⟩) cp it f' n) (fun _ h=>h) (H7.out.1) ?_;clear HK hS;intro hS;try simp only[zP]
     by_cases hlt:y1 < y2
     ·have d7:decide (y1 < y2)=true:=by simp[hlt]
      refine zB [23,24] ?_;iterate 2 (refine zv hS ?_;try simp only[zP])
      refine zE ?_;refine zD ?_;try simp only[zP]
      clear hS;go_wp2_with fail;clear d7;have hS:=H7.out.1.blk.drew;have hS:(fun wx=>ay wx h 384 #[.slice (some ⟨g,0,none⟩) n cp,.func (.func 254) #[] #[]]) (w7.drew):=hS;refine aA (fun wx=>ay wx h 384 #[.slice (some ⟨g,0,none⟩) n cp,.func (.func 254) #[] #[]]) (by kernel_rfl) hS ?_;refine zB [0,1,2,3,4,5,6,7,8,9,10,11,12,13,14,15,17,18,19,20,21,22] ?_;iterate 22 (refine zV ?_ ?_ hS ?_;rotate_left;(intro w' hSw;have u0:=hSw.cell 0;go_simp<;>with_reducible rfl);try simp only[zP])
      refine zE ?_;refine fA (i:=16) (j:=23) rfl rfl (by kernel_rfl) (fun K hK=>?_) (fun K hK=>?_)
      ·skip
       have HK:=zh hK;clear hK;obtain⟨⟨u2,u3⟩,u4,u5⟩:=HX.out.1 _ (H7.out.1.call (Below.refl _ _).drew);go_simp;go_wp2_with fail;refine HK.out.zt (fun wx=>ay wx h 384 #[.slice (some ⟨g,0,none⟩) n cp,.func (.func 254) #[] #[]]) (fun _ h=>h) (hS) ?_;clear HK hS;intro hS;try simp only[zP]
       refine zC 23 fun K HK=>?_
       go_simp;go_wp2_with fail;refine HK.out.zt (fun wx=>ay wx h 384 #[.slice (some ⟨g,0,none⟩) n cp,.func (.func 254) #[] #[]]) (fun _ h=>h) (hS) ?_;clear HK hS;intro hS;try simp only[zP]
       clear u2 u3 u4 u5;refine zt 24 hS ?_;try simp only[zP]
       have q1:=(HX.out.1 _ H7.out.1).2.1;have q2:=(HX.out.1 _ H7.out.1).2.2;have qf:=H7.out.1.eu;obtain⟨w8,hw8⟩:∃ w8,w8=((w7.setCell ⟨g,i*2,none⟩ (.slice A1 n1 c1)).setCell ⟨g,i*2+1,none⟩ (Z (y1:Nat))).drew:=⟨_,rfl⟩
       have h8:aL w8 B h (some ⟨g,0,none⟩) cp it (fun j=>if j=i then y1 else f' j) n/\Keeps (fun q=>q=g) w7 w8:=by
        have h:=H7.out.1.put (i:=i) (x:=y1) J (w':=(w7.setCell ⟨g,i*2,none⟩ (.slice A1 n1 c1)).setCell ⟨g,i*2+1,none⟩ (Z (y1:Nat))) (by rw[HX.out.2.2.2.1]);rw[hw8];exact⟨h.1.call (Below.refl _ _).drew,h.2.drew⟩
       have H8:=zh h8;have HW8:=zh hw8;clear h8 hw8;refine zC 25 fun K HK=>?_
       go_simp;rw[<-HW8.out];go_wp2_with fail;refine HK.out.zt (fun wx=>ay wx h 384 #[.slice (some ⟨g,0,none⟩) n cp,.func (.func 254) #[] #[]]) (fun _ h=>h) (H8.out.1.blk) ?_;clear HK hS;intro hS;try simp only[zP]
       clear q1 q2 qf;refine zt 26 hS ?_;try simp only[zP]
       have q34:w8.cell? ⟨g,kk*2,none⟩=some (.slice A1 n1 c1)/\w8.cell? ⟨g,kk*2+1,none⟩=some (Z (y1:Nat)):=by
        have h:=H8.out.1.cell (j:=kk) J;rw[if_neg J,<-HX.out.2.1,HX.out.2.2.2.1] at h
        exact h
       have q1:=q34.1;have q2:=q34.2;have qf:=H8.out.1.eu;obtain⟨w9,hw9⟩:∃ w9,w9=((w8.setCell ⟨g,kk*2,none⟩ (.slice A2 n2 c2)).setCell ⟨g,kk*2+1,none⟩ (Z (y2:Nat))):=⟨_,rfl⟩
       have h9:=H8.out.1.put (i:=kk) (x:=y2) J (w':=w9) (by rw[HX.out.2.2.2.2.1];exact hw9);have hBg:=HD.out.2.2.2.2.2.2.2.2.2.2.2.2.2.2.1;have hbel9:HB B w w9:=(H7.out.2.2.2.keeps H8.out.2 H7.out.1.ht2 hBg).keeps h9.2 H8.out.1.ht2 hBg;have hn9:=HN.out;have H9:=zh (zN h9.1 (zN ((H7.out.2.1.keeps H8.out.2 (fun e=>J)).keeps h9.2 (fun e=>J)) (zN ((H7.out.2.2.1.keeps H8.out.2 (fun e=>J)).keeps h9.2 (fun e=>J)) hbel9)));have HW9:=zh hw9;clear q34 h9 hbel9 hw9 hn9 hBg;refine zC 27 fun K HK=>?_
       go_simp;rw[<-HW9.out];go_wp2_with fail;refine HK.out.zt (fun wx=>ay wx h 384 #[.slice (some ⟨g,0,none⟩) n cp,.func (.func 254) #[] #[]]) (fun _ h=>h) (H9.out.1.blk) ?_;clear HK hS;intro hS;try simp only[zP]
       refine zD ?_;try simp only[zP]
       clear q1 q2 qf hS;go_wp2_with fail
       go_roundw
       case rel=>
        have hfe:∀ j,(if j=kk then y2 else if j=i then y1 else f' j)=dB f' i kk j:=fun j=>by
         unfold dB;rw[HX.out.2.1,HX.out.2.2.1]
         by_cases h1:j=kk
         ·rw[if_pos h1,if_neg J,if_pos h1]
         ·rw[if_neg h1]
          by_cases h2:j=i
          ·rw[if_pos h2,if_pos h2]
          ·rw[if_neg h2,if_neg h2,if_neg h1]
        have hfe2:=funext hfe;refine⟨kk,_,.inl hkn,rfl,H9.out.1,?_,?_,H9.out.2.1,H9.out.2.2.1,H9.out.2.2.2⟩
        ·rw[hfe2]
         exact HL.out.2.1.step hk0 hkn HQ.out.2 (by rw[<-HX.out.2.1,<-HX.out.2.2.1];exact hlt) (fun j h0 hj hpj=>(HQ.out.1 j h0 hj hpj).2)
        ·rw[hfe2]
         exact HL.out.2.2.1.swap J hkn
       case measure=>simp[intOf]<;>omega
      ·skip
       have HK:=zh hK;clear hK;obtain⟨⟨u2,u3⟩,u4,u5⟩:=HX.out.1 _ (H7.out.1.call (Below.refl _ _).drew);go_simp;go_wp2_with fail;refine HK.out.zt (fun wx=>ay wx h 384 #[.slice (some ⟨g,0,none⟩) n cp,.func (.func 254) #[] #[]]) (fun _ h=>h) (hS) ?_;clear HK hS;intro hS;try simp only[zP]
       refine zC 16 fun K HK=>?_
       go_simp;go_wp2_with fail;refine HK.out.zt (fun wx=>ay wx h 384 #[.slice (some ⟨g,0,none⟩) n cp,.func (.func 254) #[] #[]]) (fun _ h=>h) (hS) ?_;clear HK hS;intro hS;try simp only[zP]
       clear u2 u3 u4 u5;refine zt 24 hS ?_;try simp only[zP]
       have q1:=(HX.out.1 _ H7.out.1).2.1;have q2:=(HX.out.1 _ H7.out.1).2.2;have qf:=H7.out.1.eu;obtain⟨w8,hw8⟩:∃ w8,w8=((w7.setCell ⟨g,i*2,none⟩ (.slice A1 n1 c1)).setCell ⟨g,i*2+1,none⟩ (Z (y1:Nat))).drew:=⟨_,rfl⟩
       have h8:aL w8 B h (some ⟨g,0,none⟩) cp it (fun j=>if j=i then y1 else f' j) n/\Keeps (fun q=>q=g) w7 w8:=by
        have h:=H7.out.1.put (i:=i) (x:=y1) J (w':=(w7.setCell ⟨g,i*2,none⟩ (.slice A1 n1 c1)).setCell ⟨g,i*2+1,none⟩ (Z (y1:Nat))) (by rw[HX.out.2.2.2.1]);rw[hw8];exact⟨h.1.call (Below.refl _ _).drew,h.2.drew⟩
       have H8:=zh h8;have HW8:=zh hw8;clear h8 hw8;refine zC 25 fun K HK=>?_
       go_simp;rw[<-HW8.out];go_wp2_with fail;refine HK.out.zt (fun wx=>ay wx h 384 #[.slice (some ⟨g,0,none⟩) n cp,.func (.func 254) #[] #[]]) (fun _ h=>h) (H8.out.1.blk) ?_;clear HK hS;intro hS;try simp only[zP]
       clear q1 q2 qf;refine zt 26 hS ?_;try simp only[zP]
       have q34:w8.cell? ⟨g,kk*2,none⟩=some (.slice A1 n1 c1)/\w8.cell? ⟨g,kk*2+1,none⟩=some (Z (y1:Nat)):=by
        have h:=H8.out.1.cell (j:=kk) J;rw[if_neg J,<-HX.out.2.1,HX.out.2.2.2.1] at h
        exact h
       have q1:=q34.1;have q2:=q34.2;have qf:=H8.out.1.eu;obtain⟨w9,hw9⟩:∃ w9,w9=((w8.setCell ⟨g,kk*2,none⟩ (.slice A2 n2 c2)).setCell ⟨g,kk*2+1,none⟩ (Z (y2:Nat))):=⟨_,rfl⟩
       have h9:=H8.out.1.put (i:=kk) (x:=y2) J (w':=w9) (by rw[HX.out.2.2.2.2.1];exact hw9);have hBg:=HD.out.2.2.2.2.2.2.2.2.2.2.2.2.2.2.1;have hbel9:HB B w w9:=(H7.out.2.2.2.keeps H8.out.2 H7.out.1.ht2 hBg).keeps h9.2 H8.out.1.ht2 hBg;have hn9:=HN.out;have H9:=zh (zN h9.1 (zN ((H7.out.2.1.keeps H8.out.2 (fun e=>J)).keeps h9.2 (fun e=>J)) (zN ((H7.out.2.2.1.keeps H8.out.2 (fun e=>J)).keeps h9.2 (fun e=>J)) hbel9)));have HW9:=zh hw9;clear q34 h9 hbel9 hw9 hn9 hBg;refine zC 27 fun K HK=>?_
       go_simp;rw[<-HW9.out];go_wp2_with fail;refine HK.out.zt (fun wx=>ay wx h 384 #[.slice (some ⟨g,0,none⟩) n cp,.func (.func 254) #[] #[]]) (fun _ h=>h) (H9.out.1.blk) ?_;clear HK hS;intro hS;try simp only[zP]
       refine zD ?_;try simp only[zP]
       clear q1 q2 qf hS;go_wp2_with fail
       go_roundw
       case rel=>
        have hfe:∀ j,(if j=kk then y2 else if j=i then y1 else f' j)=dB f' i kk j:=fun j=>by
         unfold dB;rw[HX.out.2.1,HX.out.2.2.1]
         by_cases h1:j=kk
         ·rw[if_pos h1,if_neg J,if_pos h1]
         ·rw[if_neg h1]
          by_cases h2:j=i
          ·rw[if_pos h2,if_pos h2]
          ·rw[if_neg h2,if_neg h2,if_neg h1]
        have hfe2:=funext hfe;refine⟨kk,_,.inl hkn,rfl,H9.out.1,?_,?_,H9.out.2.1,H9.out.2.2.1,H9.out.2.2.2⟩
        ·rw[hfe2]
         exact HL.out.2.1.step hk0 hkn HQ.out.2 (by rw[<-HX.out.2.1,<-HX.out.2.2.1];exact hlt) (fun j h0 hj hpj=>(HQ.out.1 j h0 hj hpj).2)
        ·rw[hfe2]
         exact HL.out.2.2.1.swap J hkn
       case measure=>simp[intOf]<;>omega
     ·have d7:decide (y1 < y2)=false:=by simp;omega
      refine zB [23,24] ?_;iterate 2 (refine zv hS ?_;try simp only[zP])
      refine zE ?_;refine zD ?_;try simp only[zP]
      clear hS;have z0:w7.cell? ⟨r0,0,none⟩=some (.slice none 0 0):=H7.out.2.1.cell 0;have z1:w7.cell? ⟨r0,1,none⟩=some (Z 0):=H7.out.2.1.cell 1;have zf:=H7.out.2.1.frozen;have v0:w7.cell? ⟨gx,0,none⟩=some (.slice A0 n0 c0):=H7.out.2.2.1.cell 0;have v1:w7.cell? ⟨gx,1,none⟩=some (Z (x0:Nat)):=H7.out.2.2.1.cell 1;go_wp2_with fail;clear d7;have HE:=zh (show ∀ j,0 < j->j < n->par j=i->f' i<=f' j from fun j h0 hj hpj=>by
       have h1:=(HQ.out.1 j h0 hj hpj).2;have h2:=HX.out.2.1;have h3:=HX.out.2.2.1;omega)
      obtain⟨W8,hW8⟩:∃ W8,W8=(w7.setCell ⟨r0,0,none⟩ (.slice A0 n0 c0)).setCell ⟨r0,1,none⟩ (Z (x0:Nat)):=⟨_,rfl⟩
      have hk8:Keeps (fun q=>q=r0) w7 W8:=by rw[hW8];exact ((Keeps.refl (fun q=>q=r0) w7).setCell (fun _=>rfl) _).setCell (fun _=>rfl) _
      have hb8:=(H7.out.2.1.set 0 (.slice A0 n0 c0)).set 1 (Z (x0:Nat));rw[<-hW8] at hb8
      have hn8:=HN.out;have hh8:aL W8 B h (some ⟨g,0,none⟩) cp it f' n:=⟨H7.out.1.blk.keeps hk8 (fun e=>J),aG H7.out.1.row hk8 (fun q hq e=>by
       have:g=q:=by simpa [Value.ownBlock] using hq
       omega),H7.out.1.hB⟩
      have H8:=zh (zN hh8 (zN hb8 (H7.out.2.2.2.keeps hk8 (.inl (bZ H7.out.2.1)) (by rw[HD.out.2.2.2.2.2.2.2.1];exact HD.out.2.2.2.2.2.2.1))));have HW8:=zh hW8;clear hk8 hb8 hn8 hh8 hW8;rw[<-HW8.out];have y8:=H8.out.2.1.cell 0;have y9:=H8.out.2.1.cell 1;simp at y8 y9
      refine bodyPost_ret (v:=.agg #[.slice A0 n0 c0,Z (x0:Nat)]) (by simp[results,Tryz.results256,go_sem,y8,y9]) rfl ?_;exact⟨by rw[HD.out.2.2.2.2.2.2.2.2.2.2.2.2.1],_,f',H8.out.1,HL.out.2.1.done HE.out,HL.out.2.2.1,H8.out.2.2⟩
    ·have d1:decide ((n:Int)<=(kk:Int))=true:=by simp;omega
     have d2:decide (n<=kk)=true:=by simp;omega
     have hS:=H6.out.1.call (Below.refl _ _).drew;have hS:(fun wx=>aL wx B h (some ⟨g,0,none⟩) cp it f' n) (w6.drew):=hS;refine aA (fun wx=>aL wx B h (some ⟨g,0,none⟩) cp it f' n) (by kernel_rfl) hS ?_;refine zB [0,1,2,3] ?_;iterate 4 (refine zv hS ?_;try simp only[zP])
     refine zE ?_;refine zB [4,5,6,7,8,9,10,11,12,13,14,15,16,17,18,19,20,21,22,23] ?_;iterate 20 (refine zW hS ?_;try simp only[zP])
     refine zE ?_;refine zt 24 hS ?_;try simp only[zP]
     refine zD ?_;try simp only[zP]
     clear hS;have HE:=zh (show ∀ j,0 < j->j < n->par j=i->f' i<=f' j from fun j h0 hj hpj=>absurd (HQ.out.1 j h0 hj hpj).1 hkn);obtain⟨w7,hw7⟩:∃ w7,w7=w6.drew:=⟨_,rfl⟩
     have H7:=zh (show aL w7 B h (some ⟨g,0,none⟩) cp it f' n/\ay w7 r0 387 #[.slice none 0 0,Z 0]/\ay w7 gx 387 #[.slice A0 n0 c0,Z (x0:Nat)]/\HB B w w7 from by
      rw[hw7];exact⟨H6.out.1.call (Below.refl _ _).drew,H6.out.2.1.drew,H6.out.2.2.1.drew,H6.out.2.2.2.drew⟩)
     rw[<-hw7];clear hw7;have z0:w7.cell? ⟨r0,0,none⟩=some (.slice none 0 0):=H7.out.2.1.cell 0;have z1:w7.cell? ⟨r0,1,none⟩=some (Z 0):=H7.out.2.1.cell 1;have zf:=H7.out.2.1.frozen;have v0:w7.cell? ⟨gx,0,none⟩=some (.slice A0 n0 c0):=H7.out.2.2.1.cell 0;have v1:w7.cell? ⟨gx,1,none⟩=some (Z (x0:Nat)):=H7.out.2.2.1.cell 1;go_wp2_with fail;obtain⟨W8,hW8⟩:∃ W8,W8=(w7.setCell ⟨r0,0,none⟩ (.slice A0 n0 c0)).setCell ⟨r0,1,none⟩ (Z (x0:Nat)):=⟨_,rfl⟩
     have hk8:Keeps (fun q=>q=r0) w7 W8:=by rw[hW8];exact ((Keeps.refl (fun q=>q=r0) w7).setCell (fun _=>rfl) _).setCell (fun _=>rfl) _
     have hb8:=(H7.out.2.1.set 0 (.slice A0 n0 c0)).set 1 (Z (x0:Nat));rw[<-hW8] at hb8
     have hn8:=HN.out;have hh8:aL W8 B h (some ⟨g,0,none⟩) cp it f' n:=⟨H7.out.1.blk.keeps hk8 (fun e=>J),aG H7.out.1.row hk8 (fun q hq e=>by
      have:g=q:=by simpa [Value.ownBlock] using hq
      omega),H7.out.1.hB⟩
     have H8:=zh (zN hh8 (zN hb8 (H7.out.2.2.2.keeps hk8 (.inl (bZ H7.out.2.1)) (by rw[HD.out.2.2.2.2.2.2.2.1];exact HD.out.2.2.2.2.2.2.1))));have HW8:=zh hW8;clear hk8 hb8 hn8 hh8 hW8;rw[<-HW8.out];have y8:=H8.out.2.1.cell 0;have y9:=H8.out.2.1.cell 1;simp at y8 y9
     refine bodyPost_ret (v:=.agg #[.slice A0 n0 c0,Z (x0:Nat)]) (by simp[results,Tryz.results256,go_sem,y8,y9]) rfl ?_;exact⟨by rw[HD.out.2.2.2.2.2.2.2.2.2.2.2.2.1],_,f',H8.out.1,HL.out.2.1.done HE.out,HL.out.2.2.1,H8.out.2.2⟩
   ·have d7:decide (y1 < y2)=false:=by simp;omega
    go_wp2_with fail;clear d7;obtain⟨kk,hkk⟩:∃ kk,kk=k:=⟨_,rfl⟩
    rw[<-hkk];have hleast:∀ j,0 < j->j < n->par j=i->kk < n/\f' kk<=f' j:=fun j h0 hj hpj=>by
     have hj2:j=k\/j=k+1:=by have hk:=HKK.out;unfold par at hpj;omega
     refine⟨J,?_⟩;rcases hj2 with rfl | rfl
     ·rw[hkk];exact Nat.le_refl _
     ·rw[hkk,<-HX.out.2.2.1,<-HX.out.2.2.2.1];omega
    have hpk:par kk=i/\i < kk/\0 < kk/\kk < 4000:=by have hk:=HKK.out;unfold par;omega
    have HQ:=zh (zN hleast hpk.1);have hik:=hpk.2.1;have hk0:=hpk.2.2.1;have hk4:=hpk.2.2.2;clear hleast hpk hkk hk1 hlt HX hk4a hk4b
    by_cases hkn:kk < n
    ·have hm1:=HL.out.2.2.1.mem kk hkn
     have hm2:=HL.out.2.2.1.mem i J;obtain⟨A1,n1,c1,e1,-,-⟩:=HT.out.at_ _ hm1;obtain⟨A2,n2,c2,e2,-,-⟩:=HT.out.at_ _ hm2;obtain⟨y1,hy1⟩:∃ y1,y1=f' kk:=⟨_,rfl⟩
     obtain⟨y2,hy2⟩:∃ y2,y2=f' i:=⟨_,rfl⟩
     rw[<-hy1] at hm1 e1
     rw[<-hy2] at hm2 e2
     have hne:y1≠y2:=fun e=>by
      have:=HL.out.2.2.1.inj kk i hkn J (by rw[<-hy1,<-hy2,e]);omega
     have hcell:∀ wx,aL wx B h (some ⟨g,0,none⟩) cp it f' n->(wx.cell? ⟨g,kk*2,none⟩=some (.slice A1 n1 c1)/\wx.cell? ⟨g,kk*2+1,none⟩=some (Z (y1:Nat)))/\(wx.cell? ⟨g,i*2,none⟩=some (.slice A2 n2 c2)/\wx.cell? ⟨g,i*2+1,none⟩=some (Z (y2:Nat))):=fun wx hx=>by
      have q1:=hx.cell (j:=kk) hkn;have q2:=hx.cell (j:=i) J;rw[<-hy1,e1] at q1
      rw[<-hy2,e2] at q2
      exact⟨q1,q2⟩
     have hcall:Calls Tryz.prog 254 #[.agg #[.slice A1 n1 c1,Z (y1:Nat)],.agg #[.slice A2 n2 c2,Z (y2:Nat)]] w6.drew fun e w'=>e=.returned (.bool (decide (y1 < y2)))/\Below w6.drew.heap.size w6.drew w':=by
      have hc:=kL w0 w6.drew B it ip _ ((HD.out.1.trans H6.out.2.2.2.av).drew) HD.out.2.1 HT.out y1 y2 hm1 hm2 hne;rw[e1,e2] at hc
      exact hc
     have HX:=zh (zN hcell (zN hy1 (zN hy2 (zN e1 (zN e2 hcall)))));clear hcell hcall hy1 hy2 hne hm1 hm2 e1 e2;have d1:decide ((n:Int)<=(kk:Int))=false:=by simp;omega
     have d2:decide (n<=kk)=false:=by simp;omega
     have d3:(kk:Int) < (n:Int):=J;have d4:(i:Int) < (n:Int):=J;have nt:=bJ;have nf:=eP;have hS:=H6.out.1.call (Below.refl _ _).drew;have hS:(fun wx=>aL wx B h (some ⟨g,0,none⟩) cp it f' n) (w6.drew):=hS;refine aA (fun wx=>aL wx B h (some ⟨g,0,none⟩) cp it f' n) (by kernel_rfl) hS ?_;refine zB [0,1,2,3,4,5,6,7,8,9,10,11,12,13,14,15,16,17,18,19,20,21] ?_;iterate 22 (refine zV ?_ ?_ hS ?_;rotate_left;(intro w' hSw;have u0:=hSw.blk.cell 0;have u1:=hSw.blk.cell 1;obtain ⟨⟨u2,u3⟩,u4,u5⟩:=HX.out.1 _ hSw;go_simp<;>with_reducible rfl);try simp only[zP])
     refine zE ?_;refine zC 22 fun K HK=>?_
     go_simp;refine(HX.out.2.2.2.2.2).mono ?_;rintro e w7 ⟨rfl,hb7⟩;have hb7':Below w6.heap.size w6 w7:=V.aB (Below.refl _ _).drew hb7;have H7:=zh (zN (H6.out.1.call hb7') (zN (H6.out.2.1.below hb7' H6.out.2.1.lt) (zN (H6.out.2.2.1.below hb7' H6.out.2.2.1.lt) (H6.out.2.2.2.call hb7'))));clear hb7 hb7';go_wp2_with fail;refine HK.out.zt (fun wx=>aL wx B h (some ⟨g,0,none⟩) cp it f' n) (fun _ h=>h) (H7.out.1) ?_;clear HK hS;intro hS;try simp only[zP]
     by_cases hlt:y1 < y2
     ·have d7:decide (y1 < y2)=true:=by simp[hlt]
      refine zB [23,24] ?_;iterate 2 (refine zv hS ?_;try simp only[zP])
      refine zE ?_;refine zD ?_;try simp only[zP]
      clear hS;go_wp2_with fail;clear d7;have hS:=H7.out.1.blk.drew;have hS:(fun wx=>ay wx h 384 #[.slice (some ⟨g,0,none⟩) n cp,.func (.func 254) #[] #[]]) (w7.drew):=hS;refine aA (fun wx=>ay wx h 384 #[.slice (some ⟨g,0,none⟩) n cp,.func (.func 254) #[] #[]]) (by kernel_rfl) hS ?_;refine zB [0,1,2,3,4,5,6,7,8,9,10,11,12,13,14,15,17,18,19,20,21,22] ?_;iterate 22 (refine zV ?_ ?_ hS ?_;rotate_left;(intro w' hSw;have u0:=hSw.cell 0;go_simp<;>with_reducible rfl);try simp only[zP])
      refine zE ?_;refine fA (i:=16) (j:=23) rfl rfl (by kernel_rfl) (fun K hK=>?_) (fun K hK=>?_)
      ·skip
       have HK:=zh hK;clear hK;obtain⟨⟨u2,u3⟩,u4,u5⟩:=HX.out.1 _ (H7.out.1.call (Below.refl _ _).drew);go_simp;go_wp2_with fail;refine HK.out.zt (fun wx=>ay wx h 384 #[.slice (some ⟨g,0,none⟩) n cp,.func (.func 254) #[] #[]]) (fun _ h=>h) (hS) ?_;clear HK hS;intro hS;try simp only[zP]
       refine zC 23 fun K HK=>?_
       go_simp;go_wp2_with fail;refine HK.out.zt (fun wx=>ay wx h 384 #[.slice (some ⟨g,0,none⟩) n cp,.func (.func 254) #[] #[]]) (fun _ h=>h) (hS) ?_;clear HK hS;intro hS;try simp only[zP]
       clear u2 u3 u4 u5;refine zt 24 hS ?_;try simp only[zP]
       have q1:=(HX.out.1 _ H7.out.1).2.1;have q2:=(HX.out.1 _ H7.out.1).2.2;have qf:=H7.out.1.eu;obtain⟨w8,hw8⟩:∃ w8,w8=((w7.setCell ⟨g,i*2,none⟩ (.slice A1 n1 c1)).setCell ⟨g,i*2+1,none⟩ (Z (y1:Nat))).drew:=⟨_,rfl⟩
       have h8:aL w8 B h (some ⟨g,0,none⟩) cp it (fun j=>if j=i then y1 else f' j) n/\Keeps (fun q=>q=g) w7 w8:=by
        have h:=H7.out.1.put (i:=i) (x:=y1) J (w':=(w7.setCell ⟨g,i*2,none⟩ (.slice A1 n1 c1)).setCell ⟨g,i*2+1,none⟩ (Z (y1:Nat))) (by rw[HX.out.2.2.2.1]);rw[hw8];exact⟨h.1.call (Below.refl _ _).drew,h.2.drew⟩
       have H8:=zh h8;have HW8:=zh hw8;clear h8 hw8;refine zC 25 fun K HK=>?_
       go_simp;rw[<-HW8.out];go_wp2_with fail;refine HK.out.zt (fun wx=>ay wx h 384 #[.slice (some ⟨g,0,none⟩) n cp,.func (.func 254) #[] #[]]) (fun _ h=>h) (H8.out.1.blk) ?_;clear HK hS;intro hS;try simp only[zP]
       clear q1 q2 qf;refine zt 26 hS ?_;try simp only[zP]
       have q34:w8.cell? ⟨g,kk*2,none⟩=some (.slice A1 n1 c1)/\w8.cell? ⟨g,kk*2+1,none⟩=some (Z (y1:Nat)):=by
        have h:=H8.out.1.cell (j:=kk) J;rw[if_neg J,<-HX.out.2.1,HX.out.2.2.2.1] at h
        exact h
       have q1:=q34.1;have q2:=q34.2;have qf:=H8.out.1.eu;obtain⟨w9,hw9⟩:∃ w9,w9=((w8.setCell ⟨g,kk*2,none⟩ (.slice A2 n2 c2)).setCell ⟨g,kk*2+1,none⟩ (Z (y2:Nat))):=⟨_,rfl⟩
       have h9:=H8.out.1.put (i:=kk) (x:=y2) J (w':=w9) (by rw[HX.out.2.2.2.2.1];exact hw9);have hBg:=HD.out.2.2.2.2.2.2.2.2.2.2.2.2.2.2.1;have hbel9:HB B w w9:=(H7.out.2.2.2.keeps H8.out.2 H7.out.1.ht2 hBg).keeps h9.2 H8.out.1.ht2 hBg;have hn9:=HN.out;have H9:=zh (zN h9.1 (zN ((H7.out.2.1.keeps H8.out.2 (fun e=>J)).keeps h9.2 (fun e=>J)) (zN ((H7.out.2.2.1.keeps H8.out.2 (fun e=>J)).keeps h9.2 (fun e=>J)) hbel9)));have HW9:=zh hw9;clear q34 h9 hbel9 hw9 hn9 hBg;refine zC 27 fun K HK=>?_
       go_simp;rw[<-HW9.out];go_wp2_with fail;refine HK.out.zt (fun wx=>ay wx h 384 #[.slice (some ⟨g,0,none⟩) n cp,.func (.func 254) #[] #[]]) (fun _ h=>h) (H9.out.1.blk) ?_;clear HK hS;intro hS;try simp only[zP]
       refine zD ?_;try simp only[zP]
       clear q1 q2 qf hS;go_wp2_with fail
       go_roundw
       case rel=>
        have hfe:∀ j,(if j=kk then y2 else if j=i then y1 else f' j)=dB f' i kk j:=fun j=>by
         unfold dB;rw[HX.out.2.1,HX.out.2.2.1]
         by_cases h1:j=kk
         ·rw[if_pos h1,if_neg J,if_pos h1]
         ·rw[if_neg h1]
          by_cases h2:j=i
          ·rw[if_pos h2,if_pos h2]
          ·rw[if_neg h2,if_neg h2,if_neg h1]
        have hfe2:=funext hfe;refine⟨kk,_,.inl hkn,rfl,H9.out.1,?_,?_,H9.out.2.1,H9.out.2.2.1,H9.out.2.2.2⟩
        ·rw[hfe2]
         exact HL.out.2.1.step hk0 hkn HQ.out.2 (by rw[<-HX.out.2.1,<-HX.out.2.2.1];exact hlt) (fun j h0 hj hpj=>(HQ.out.1 j h0 hj hpj).2)
        ·rw[hfe2]
         exact HL.out.2.2.1.swap J hkn
       case measure=>simp[intOf]<;>omega
      ·skip
       have HK:=zh hK;clear hK;obtain⟨⟨u2,u3⟩,u4,u5⟩:=HX.out.1 _ (H7.out.1.call (Below.refl _ _).drew);go_simp;go_wp2_with fail;refine HK.out.zt (fun wx=>ay wx h 384 #[.slice (some ⟨g,0,none⟩) n cp,.func (.func 254) #[] #[]]) (fun _ h=>h) (hS) ?_;clear HK hS;intro hS;try simp only[zP]
       refine zC 16 fun K HK=>?_
       go_simp;go_wp2_with fail;refine HK.out.zt (fun wx=>ay wx h 384 #[.slice (some ⟨g,0,none⟩) n cp,.func (.func 254) #[] #[]]) (fun _ h=>h) (hS) ?_;clear HK hS;intro hS;try simp only[zP]
       clear u2 u3 u4 u5;refine zt 24 hS ?_;try simp only[zP]
       have q1:=(HX.out.1 _ H7.out.1).2.1;have q2:=(HX.out.1 _ H7.out.1).2.2;have qf:=H7.out.1.eu;obtain⟨w8,hw8⟩:∃ w8,w8=((w7.setCell ⟨g,i*2,none⟩ (.slice A1 n1 c1)).setCell ⟨g,i*2+1,none⟩ (Z (y1:Nat))).drew:=⟨_,rfl⟩
       have h8:aL w8 B h (some ⟨g,0,none⟩) cp it (fun j=>if j=i then y1 else f' j) n/\Keeps (fun q=>q=g) w7 w8:=by
        have h:=H7.out.1.put (i:=i) (x:=y1) J (w':=(w7.setCell ⟨g,i*2,none⟩ (.slice A1 n1 c1)).setCell ⟨g,i*2+1,none⟩ (Z (y1:Nat))) (by rw[HX.out.2.2.2.1]);rw[hw8];exact⟨h.1.call (Below.refl _ _).drew,h.2.drew⟩
       have H8:=zh h8;have HW8:=zh hw8;clear h8 hw8;refine zC 25 fun K HK=>?_
       go_simp;rw[<-HW8.out];go_wp2_with fail;refine HK.out.zt (fun wx=>ay wx h 384 #[.slice (some ⟨g,0,none⟩) n cp,.func (.func 254) #[] #[]]) (fun _ h=>h) (H8.out.1.blk) ?_;clear HK hS;intro hS;try simp only[zP]
       clear q1 q2 qf;refine zt 26 hS ?_;try simp only[zP]
       have q34:w8.cell? ⟨g,kk*2,none⟩=some (.slice A1 n1 c1)/\w8.cell? ⟨g,kk*2+1,none⟩=some (Z (y1:Nat)):=by
        have h:=H8.out.1.cell (j:=kk) J;rw[if_neg J,<-HX.out.2.1,HX.out.2.2.2.1] at h
        exact h
       have q1:=q34.1;have q2:=q34.2;have qf:=H8.out.1.eu;obtain⟨w9,hw9⟩:∃ w9,w9=((w8.setCell ⟨g,kk*2,none⟩ (.slice A2 n2 c2)).setCell ⟨g,kk*2+1,none⟩ (Z (y2:Nat))):=⟨_,rfl⟩
       have h9:=H8.out.1.put (i:=kk) (x:=y2) J (w':=w9) (by rw[HX.out.2.2.2.2.1];exact hw9);have hBg:=HD.out.2.2.2.2.2.2.2.2.2.2.2.2.2.2.1;have hbel9:HB B w w9:=(H7.out.2.2.2.keeps H8.out.2 H7.out.1.ht2 hBg).keeps h9.2 H8.out.1.ht2 hBg;have hn9:=HN.out;have H9:=zh (zN h9.1 (zN ((H7.out.2.1.keeps H8.out.2 (fun e=>J)).keeps h9.2 (fun e=>J)) (zN ((H7.out.2.2.1.keeps H8.out.2 (fun e=>J)).keeps h9.2 (fun e=>J)) hbel9)));have HW9:=zh hw9;clear q34 h9 hbel9 hw9 hn9 hBg;refine zC 27 fun K HK=>?_
       go_simp;rw[<-HW9.out];go_wp2_with fail;refine HK.out.zt (fun wx=>ay wx h 384 #[.slice (some ⟨g,0,none⟩) n cp,.func (.func 254) #[] #[]]) (fun _ h=>h) (H9.out.1.blk) ?_;clear HK hS;intro hS;try simp only[zP]
       refine zD ?_;try simp only[zP]
       clear q1 q2 qf hS;go_wp2_with fail
       go_roundw
       case rel=>
        have hfe:∀ j,(if j=kk then y2 else if j=i then y1 else f' j)=dB f' i kk j:=fun j=>by
         unfold dB;rw[HX.out.2.1,HX.out.2.2.1]
         by_cases h1:j=kk
         ·rw[if_pos h1,if_neg J,if_pos h1]
         ·rw[if_neg h1]
          by_cases h2:j=i
          ·rw[if_pos h2,if_pos h2]
          ·rw[if_neg h2,if_neg h2,if_neg h1]
        have hfe2:=funext hfe;refine⟨kk,_,.inl hkn,rfl,H9.out.1,?_,?_,H9.out.2.1,H9.out.2.2.1,H9.out.2.2.2⟩
        ·rw[hfe2]
         exact HL.out.2.1.step hk0 hkn HQ.out.2 (by rw[<-HX.out.2.1,<-HX.out.2.2.1];exact hlt) (fun j h0 hj hpj=>(HQ.out.1 j h0 hj hpj).2)
        ·rw[hfe2]
         exact HL.out.2.2.1.swap J hkn
       case measure=>simp[intOf]<;>omega
     ·have d7:decide (y1 < y2)=false:=by simp;omega
      refine zB [23,24] ?_;iterate 2 (refine zv hS ?_;try simp only[zP])
      refine zE ?_;refine zD ?_;try simp only[zP]
      clear hS;have z0:w7.cell? ⟨r0,0,none⟩=some (.slice none 0 0):=H7.out.2.1.cell 0;have z1:w7.cell? ⟨r0,1,none⟩=some (Z 0):=H7.out.2.1.cell 1;have zf:=H7.out.2.1.frozen;have v0:w7.cell? ⟨gx,0,none⟩=some (.slice A0 n0 c0):=H7.out.2.2.1.cell 0;have v1:w7.cell? ⟨gx,1,none⟩=some (Z (x0:Nat)):=H7.out.2.2.1.cell 1;go_wp2_with fail;clear d7;have HE:=zh (show ∀ j,0 < j->j < n->par j=i->f' i<=f' j from fun j h0 hj hpj=>by
       have h1:=(HQ.out.1 j h0 hj hpj).2;have h2:=HX.out.2.1;have h3:=HX.out.2.2.1;omega)
      obtain⟨W8,hW8⟩:∃ W8,W8=(w7.setCell ⟨r0,0,none⟩ (.slice A0 n0 c0)).setCell ⟨r0,1,none⟩ (Z (x0:Nat)):=⟨_,rfl⟩
      have hk8:Keeps (fun q=>q=r0) w7 W8:=by rw[hW8];exact ((Keeps.refl (fun q=>q=r0) w7).setCell (fun _=>rfl) _).setCell (fun _=>rfl) _
      have hb8:=(H7.out.2.1.set 0 (.slice A0 n0 c0)).set 1 (Z (x0:Nat));rw[<-hW8] at hb8
      have hn8:=HN.out;have hh8:aL W8 B h (some ⟨g,0,none⟩) cp it f' n:=⟨H7.out.1.blk.keeps hk8 (fun e=>J),aG H7.out.1.row hk8 (fun q hq e=>by
       have:g=q:=by simpa [Value.ownBlock] using hq
       omega),H7.out.1.hB⟩
      have H8:=zh (zN hh8 (zN hb8 (H7.out.2.2.2.keeps hk8 (.inl (bZ H7.out.2.1)) (by rw[HD.out.2.2.2.2.2.2.2.1];exact HD.out.2.2.2.2.2.2.1))));have HW8:=zh hW8;clear hk8 hb8 hn8 hh8 hW8;rw[<-HW8.out];have y8:=H8.out.2.1.cell 0;have y9:=H8.out.2.1.cell 1;simp at y8 y9
      refine bodyPost_ret (v:=.agg #[.slice A0 n0 c0,Z (x0:Nat)]) (by simp[results,Tryz.results256,go_sem,y8,y9]) rfl ?_;exact⟨by rw[HD.out.2.2.2.2.2.2.2.2.2.2.2.2.1],_,f',H8.out.1,HL.out.2.1.done HE.out,HL.out.2.2.1,H8.out.2.2⟩
    ·have d1:decide ((n:Int)<=(kk:Int))=true:=by simp;omega
     have d2:decide (n<=kk)=true:=by simp;omega
     have hS:=H6.out.1.call (Below.refl _ _).drew;have hS:(fun wx=>aL wx B h (some ⟨g,0,none⟩) cp it f' n) (w6.drew):=hS;refine aA (fun wx=>aL wx B h (some ⟨g,0,none⟩) cp it f' n) (by kernel_rfl) hS ?_;refine zB [0,1,2,3] ?_;iterate 4 (refine zv hS ?_;try simp only[zP])
     refine zE ?_;refine zB [4,5,6,7,8,9,10,11,12,13,14,15,16,17,18,19,20,21,22,23] ?_;iterate 20 (refine zW hS ?_;try simp only[zP])
     refine zE ?_;refine zt 24 hS ?_;try simp only[zP]
     refine zD ?_;try simp only[zP]
     clear hS;have HE:=zh (show ∀ j,0 < j->j < n->par j=i->f' i<=f' j from fun j h0 hj hpj=>absurd (HQ.out.1 j h0 hj hpj).1 hkn);obtain⟨w7,hw7⟩:∃ w7,w7=w6.drew:=⟨_,rfl⟩
     have H7:=zh (show aL w7 B h (some ⟨g,0,none⟩) cp it f' n/\ay w7 r0 387 #[.slice none 0 0,Z 0]/\ay w7 gx 387 #[.slice A0 n0 c0,Z (x0:Nat)]/\HB B w w7 from by
      rw[hw7];exact⟨H6.out.1.call (Below.refl _ _).drew,H6.out.2.1.drew,H6.out.2.2.1.drew,H6.out.2.2.2.drew⟩)
     rw[<-hw7];clear hw7;have z0:w7.cell? ⟨r0,0,none⟩=some (.slice none 0 0):=H7.out.2.1.cell 0;have z1:w7.cell? ⟨r0,1,none⟩=some (Z 0):=H7.out.2.1.cell 1;have zf:=H7.out.2.1.frozen;have v0:w7.cell? ⟨gx,0,none⟩=some (.slice A0 n0 c0):=H7.out.2.2.1.cell 0;have v1:w7.cell? ⟨gx,1,none⟩=some (Z (x0:Nat)):=H7.out.2.2.1.cell 1;go_wp2_with fail;obtain⟨W8,hW8⟩:∃ W8,W8=(w7.setCell ⟨r0,0,none⟩ (.slice A0 n0 c0)).setCell ⟨r0,1,none⟩ (Z (x0:Nat)):=⟨_,rfl⟩
     have hk8:Keeps (fun q=>q=r0) w7 W8:=by rw[hW8];exact ((Keeps.refl (fun q=>q=r0) w7).setCell (fun _=>rfl) _).setCell (fun _=>rfl) _
     have hb8:=(H7.out.2.1.set 0 (.slice A0 n0 c0)).set 1 (Z (x0:Nat));rw[<-hW8] at hb8
     have hn8:=HN.out;have hh8:aL W8 B h (some ⟨g,0,none⟩) cp it f' n:=⟨H7.out.1.blk.keeps hk8 (fun e=>J),aG H7.out.1.row hk8 (fun q hq e=>by
      have:g=q:=by simpa [Value.ownBlock] using hq
      omega),H7.out.1.hB⟩
     have H8:=zh (zN hh8 (zN hb8 (H7.out.2.2.2.keeps hk8 (.inl (bZ H7.out.2.1)) (by rw[HD.out.2.2.2.2.2.2.2.1];exact HD.out.2.2.2.2.2.2.1))));have HW8:=zh hW8;clear hk8 hb8 hn8 hh8 hW8;rw[<-HW8.out];have y8:=H8.out.2.1.cell 0;have y9:=H8.out.2.1.cell 1;simp at y8 y9
     refine bodyPost_ret (v:=.agg #[.slice A0 n0 c0,Z (x0:Nat)]) (by simp[results,Tryz.results256,go_sem,y8,y9]) rfl ?_;exact⟨by rw[HD.out.2.2.2.2.2.2.2.2.2.2.2.2.1],_,f',H8.out.1,HL.out.2.1.done HE.out,HL.out.2.2.1,H8.out.2.2⟩
  ·have d5:IntKind.i64.wrap ((k:Int)+1)=(k:Int)+1:=by simp only[IntKind.wrap_i64];omega
   have d1:decide ((k:Int)+1 < (n:Int))=false:=by simp;omega
   have hS:=HL.out.1.call (Below.refl _ _).drew;have hS:(fun wx=>aL wx B h (some ⟨g,0,none⟩) cp it f' n) (wr.drew):=hS;refine aA (fun wx=>aL wx B h (some ⟨g,0,none⟩) cp it f' n) (by kernel_rfl) hS ?_;refine zB [0,1,2,3,4] ?_;iterate 5 (refine zv hS ?_;try simp only[zP])
   refine zE ?_;refine zB [5,6,7,8,9,10,11,12,13,14,15,16,17,18,19,20,21,22,23,24] ?_;iterate 20 (refine zW hS ?_;try simp only[zP])
   refine zE ?_;refine zt 25 hS ?_;try simp only[zP]
   refine zD ?_;try simp only[zP]
   clear hS d1;go_wp2_with fail;refine aC (fun wx=>aL wx B h (some ⟨g,0,none⟩) cp it f' n/\ay wx r0 387 #[.slice none 0 0,Z 0]/\ay wx gx 387 #[.slice A0 n0 c0,Z (x0:Nat)]/\HB B w wx) ⟨HL.out.1.call (Below.refl _ _).drew,HL.out.2.2.2.1.drew,HL.out.2.2.2.2.1.drew,HL.out.2.2.2.2.2.drew⟩ ?_;rintro w6 h6;have H6:=zh h6;clear h6;obtain⟨kk,hkk⟩:∃ kk,kk=k:=⟨_,rfl⟩
   rw[<-hkk];have hleast:∀ j,0 < j->j < n->par j=i->kk < n/\f' kk<=f' j:=fun j h0 hj hpj=>by
    have hj2:j=k\/j=k+1:=by have hk:=HKK.out;unfold par at hpj;omega
    have hj3:j=kk:=J;rw[hj3];exact⟨J,Nat.le_refl _⟩
   have hpk:par kk=i/\i < kk/\0 < kk/\kk < 4000:=by have hk:=HKK.out;unfold par;omega
   have HQ:=zh (zN hleast hpk.1);have hik:=hpk.2.1;have hk0:=hpk.2.2.1;have hk4:=hpk.2.2.2;clear hleast hpk hkk hk1 hk4a hk4b
   by_cases hkn:kk < n
   ·have hm1:=HL.out.2.2.1.mem kk hkn
    have hm2:=HL.out.2.2.1.mem i J;obtain⟨A1,n1,c1,e1,-,-⟩:=HT.out.at_ _ hm1;obtain⟨A2,n2,c2,e2,-,-⟩:=HT.out.at_ _ hm2;obtain⟨y1,hy1⟩:∃ y1,y1=f' kk:=⟨_,rfl⟩
    obtain⟨y2,hy2⟩:∃ y2,y2=f' i:=⟨_,rfl⟩
    rw[<-hy1] at hm1 e1
    rw[<-hy2] at hm2 e2
    have hne:y1≠y2:=fun e=>by
     have:=HL.out.2.2.1.inj kk i hkn J (by rw[<-hy1,<-hy2,e]);omega
    have hcell:∀ wx,aL wx B h (some ⟨g,0,none⟩) cp it f' n->(wx.cell? ⟨g,kk*2,none⟩=some (.slice A1 n1 c1)/\wx.cell? ⟨g,kk*2+1,none⟩=some (Z (y1:Nat)))/\(wx.cell? ⟨g,i*2,none⟩=some (.slice A2 n2 c2)/\wx.cell? ⟨g,i*2+1,none⟩=some (Z (y2:Nat))):=fun wx hx=>by
     have q1:=hx.cell (j:=kk) hkn;have q2:=hx.cell (j:=i) J;rw[<-hy1,e1] at q1
     rw[<-hy2,e2] at q2
     exact⟨q1,q2⟩
    have hcall:Calls Tryz.prog 254 #[.agg #[.slice A1 n1 c1,Z (y1:Nat)],.agg #[.slice A2 n2 c2,Z (y2:Nat)]] w6.drew fun e w'=>e=.returned (.bool (decide (y1 < y2)))/\Below w6.drew.heap.size w6.drew w':=by
     have hc:=kL w0 w6.drew B it ip _ ((HD.out.1.trans H6.out.2.2.2.av).drew) HD.out.2.1 HT.out y1 y2 hm1 hm2 hne;rw[e1,e2] at hc
     exact hc
    have HX:=zh (zN hcell (zN hy1 (zN hy2 (zN e1 (zN e2 hcall)))));clear hcell hcall hy1 hy2 hne hm1 hm2 e1 e2;have d1:decide ((n:Int)<=(kk:Int))=false:=by simp;omega
    have d2:decide (n<=kk)=false:=by simp;omega
    have d3:(kk:Int) < (n:Int):=J;have d4:(i:Int) < (n:Int):=J;have nt:=bJ;have nf:=eP;have hS:=H6.out.1.call (Below.refl _ _).drew;have hS:(fun wx=>aL wx B h (some ⟨g,0,none⟩) cp it f' n) (w6.drew):=hS;refine aA (fun wx=>aL wx B h (some ⟨g,0,none⟩) cp it f' n) (by kernel_rfl) hS ?_;refine zB [0,1,2,3,4,5,6,7,8,9,10,11,12,13,14,15,16,17,18,19,20,21] ?_;iterate 22 (refine zV ?_ ?_ hS ?_;rotate_left;(intro w' hSw;have u0:=hSw.blk.cell 0;have u1:=hSw.blk.cell 1;obtain ⟨⟨u2,u3⟩,u4,u5⟩:=HX.out.1 _ hSw;go_simp<;>with_reducible rfl);try simp only[zP])
    refine zE ?_;refine zC 22 fun K HK=>?_
    go_simp;refine(HX.out.2.2.2.2.2).mono ?_;rintro e w7 ⟨rfl,hb7⟩;have hb7':Below w6.heap.size w6 w7:=V.aB (Below.refl _ _).drew hb7;have H7:=zh (zN (H6.out.1.call hb7') (zN (H6.out.2.1.below hb7' H6.out.2.1.lt) (zN (H6.out.2.2.1.below hb7' H6.out.2.2.1.lt) (H6.out.2.2.2.call hb7'))));clear hb7 hb7';go_wp2_with fail;refine HK.out.zt (fun wx=>aL wx B h (some ⟨g,0,none⟩) cp it f' n) (fun _ h=>h) (H7.out.1) ?_;clear HK hS;intro hS;try simp only[zP]
    by_cases hlt:y1 < y2
    ·have d7:decide (y1 < y2)=true:=by simp[hlt]
     refine zB [23,24] ?_;iterate 2 (refine zv hS ?_;try simp only[zP])
     refine zE ?_;refine zD ?_;try simp only[zP]
     clear hS;go_wp2_with fail;clear d7;have hS:=H7.out.1.blk.drew;have hS:(fun wx=>ay wx h 384 #[.slice (some ⟨g,0,none⟩) n cp,.func (.func 254) #[] #[]]) (w7.drew):=hS;refine aA (fun wx=>ay wx h 384 #[.slice (some ⟨g,0,none⟩) n cp,.func (.func 254) #[] #[]]) (by kernel_rfl) hS ?_;refine zB [0,1,2,3,4,5,6,7,8,9,10,11,12,13,14,15,17,18,19,20,21,22] ?_;iterate 22 (refine zV ?_ ?_ hS ?_;rotate_left;(intro w' hSw;have u0:=hSw.cell 0;go_simp<;>with_reducible rfl);try simp only[zP])
     refine zE ?_;refine fA (i:=16) (j:=23) rfl rfl (by kernel_rfl) (fun K hK=>?_) (fun K hK=>?_)
     ·skip
      have HK:=zh hK;clear hK;obtain⟨⟨u2,u3⟩,u4,u5⟩:=HX.out.1 _ (H7.out.1.call (Below.refl _ _).drew);go_simp;go_wp2_with fail;refine HK.out.zt (fun wx=>ay wx h 384 #[.slice (some ⟨g,0,none⟩) n cp,.func (.func 254) #[] #[]]) (fun _ h=>h) (hS) ?_;clear HK hS;intro hS;try simp only[zP]
      refine zC 23 fun K HK=>?_
      go_simp;go_wp2_with fail;refine HK.out.zt (fun wx=>ay wx h 384 #[.slice (some ⟨g,0,none⟩) n cp,.func (.func 254) #[] #[]]) (fun _ h=>h) (hS) ?_;clear HK hS;intro hS;try simp only[zP]
      clear u2 u3 u4 u5;refine zt 24 hS ?_;try simp only[zP]
      have q1:=(HX.out.1 _ H7.out.1).2.1;have q2:=(HX.out.1 _ H7.out.1).2.2;have qf:=H7.out.1.eu;obtain⟨w8,hw8⟩:∃ w8,w8=((w7.setCell ⟨g,i*2,none⟩ (.slice A1 n1 c1)).setCell ⟨g,i*2+1,none⟩ (Z (y1:Nat))).drew:=⟨_,rfl⟩
      have h8:aL w8 B h (some ⟨g,0,none⟩) cp it (fun j=>if j=i then y1 else f' j) n/\Keeps (fun q=>q=g) w7 w8:=by
       have h:=H7.out.1.put (i:=i) (x:=y1) J (w':=(w7.setCell ⟨g,i*2,none⟩ (.slice A1 n1 c1)).setCell ⟨g,i*2+1,none⟩ (Z (y1:Nat))) (by rw[HX.out.2.2.2.1]);rw[hw8];exact⟨h.1.call (Below.refl _ _).drew,h.2.drew⟩
      have H8:=zh h8;have HW8:=zh hw8;clear h8 hw8;refine zC 25 fun K HK=>?_
      go_simp;rw[<-HW8.out];go_wp2_with fail;refine HK.out.zt (fun wx=>ay wx h 384 #[.slice (some ⟨g,0,none⟩) n cp,.func (.func 254) #[] #[]]) (fun _ h=>h) (H8.out.1.blk) ?_;clear HK hS;intro hS;try simp only[zP]
      clear q1 q2 qf;refine zt 26 hS ?_;try simp only[zP]
      have q34:w8.cell? ⟨g,kk*2,none⟩=some (.slice A1 n1 c1)/\w8.cell? ⟨g,kk*2+1,none⟩=some (Z (y1:Nat)):=by
       have h:=H8.out.1.cell (j:=kk) J;rw[if_neg J,<-HX.out.2.1,HX.out.2.2.2.1] at h
       exact h
      have q1:=q34.1;have q2:=q34.2;have qf:=H8.out.1.eu;obtain⟨w9,hw9⟩:∃ w9,w9=((w8.setCell ⟨g,kk*2,none⟩ (.slice A2 n2 c2)).setCell ⟨g,kk*2+1,none⟩ (Z (y2:Nat))):=⟨_,rfl⟩
      have h9:=H8.out.1.put (i:=kk) (x:=y2) J (w':=w9) (by rw[HX.out.2.2.2.2.1];exact hw9);have hBg:=HD.out.2.2.2.2.2.2.2.2.2.2.2.2.2.2.1;have hbel9:HB B w w9:=(H7.out.2.2.2.keeps H8.out.2 H7.out.1.ht2 hBg).keeps h9.2 H8.out.1.ht2 hBg;have hn9:=HN.out;have H9:=zh (zN h9.1 (zN ((H7.out.2.1.keeps H8.out.2 (fun e=>J)).keeps h9.2 (fun e=>J)) (zN ((H7.out.2.2.1.keeps H8.out.2 (fun e=>J)).keeps h9.2 (fun e=>J)) hbel9)));have HW9:=zh hw9;clear q34 h9 hbel9 hw9 hn9 hBg;refine zC 27 fun K HK=>?_
      go_simp;rw[<-HW9.out];go_wp2_with fail;refine HK.out.zt (fun wx=>ay wx h 384 #[.slice (some ⟨g,0,none⟩) n cp,.func (.func 254) #[] #[]]) (fun _ h=>h) (H9.out.1.blk) ?_;clear HK hS;intro hS;try simp only[zP]
      refine zD ?_;try simp only[zP]
      clear q1 q2 qf hS;go_wp2_with fail
      go_roundw
      case rel=>
       have hfe:∀ j,(if j=kk then y2 else if j=i then y1 else f' j)=dB f' i kk j:=fun j=>by
        unfold dB;rw[HX.out.2.1,HX.out.2.2.1]
        by_cases h1:j=kk
        ·rw[if_pos h1,if_neg J,if_pos h1]
        ·rw[if_neg h1]
         by_cases h2:j=i
         ·rw[if_pos h2,if_pos h2]
         ·rw[if_neg h2,if_neg h2,if_neg h1]
       have hfe2:=funext hfe;refine⟨kk,_,.inl hkn,rfl,H9.out.1,?_,?_,H9.out.2.1,H9.out.2.2.1,H9.out.2.2.2⟩
       ·rw[hfe2]
        exact HL.out.2.1.step hk0 hkn HQ.out.2 (by rw[<-HX.out.2.1,<-HX.out.2.2.1];exact hlt) (fun j h0 hj hpj=>(HQ.out.1 j h0 hj hpj).2)
       ·rw[hfe2]
        exact HL.out.2.2.1.swap J hkn
      case measure=>simp[intOf]<;>omega
     ·skip
      have HK:=zh hK;clear hK;obtain⟨⟨u2,u3⟩,u4,u5⟩:=HX.out.1 _ (H7.out.1.call (Below.refl _ _).drew);go_simp;go_wp2_with fail;refine HK.out.zt (fun wx=>ay wx h 384 #[.slice (some ⟨g,0,none⟩) n cp,.func (.func 254) #[] #[]]) (fun _ h=>h) (hS) ?_;clear HK hS;intro hS;try simp only[zP]
      refine zC 16 fun K HK=>?_
      go_simp;go_wp2_with fail;refine HK.out.zt (fun wx=>ay wx h 384 #[.slice (some ⟨g,0,none⟩) n cp,.func (.func 254) #[] #[]]) (fun _ h=>h) (hS) ?_;clear HK hS;intro hS;try simp only[zP]
      clear u2 u3 u4 u5;refine zt 24 hS ?_;try simp only[zP]
      have q1:=(HX.out.1 _ H7.out.1).2.1;have q2:=(HX.out.1 _ H7.out.1).2.2;have qf:=H7.out.1.eu;obtain⟨w8,hw8⟩:∃ w8,w8=((w7.setCell ⟨g,i*2,none⟩ (.slice A1 n1 c1)).setCell ⟨g,i*2+1,none⟩ (Z (y1:Nat))).drew:=⟨_,rfl⟩
      have h8:aL w8 B h (some ⟨g,0,none⟩) cp it (fun j=>if j=i then y1 else f' j) n/\Keeps (fun q=>q=g) w7 w8:=by
       have h:=H7.out.1.put (i:=i) (x:=y1) J (w':=(w7.setCell ⟨g,i*2,none⟩ (.slice A1 n1 c1)).setCell ⟨g,i*2+1,none⟩ (Z (y1:Nat))) (by rw[HX.out.2.2.2.1]);rw[hw8];exact⟨h.1.call (Below.refl _ _).drew,h.2.drew⟩
      have H8:=zh h8;have HW8:=zh hw8;clear h8 hw8;refine zC 25 fun K HK=>?_
      go_simp;rw[<-HW8.out];go_wp2_with fail;refine HK.out.zt (fun wx=>ay wx h 384 #[.slice (some ⟨g,0,none⟩) n cp,.func (.func 254) #[] #[]]) (fun _ h=>h) (H8.out.1.blk) ?_;clear HK hS;intro hS;try simp only[zP]
      clear q1 q2 qf;refine zt 26 hS ?_;try simp only[zP]
      have q34:w8.cell? ⟨g,kk*2,none⟩=some (.slice A1 n1 c1)/\w8.cell? ⟨g,kk*2+1,none⟩=some (Z (y1:Nat)):=by
       have h:=H8.out.1.cell (j:=kk) J;rw[if_neg J,<-HX.out.2.1,HX.out.2.2.2.1] at h
       exact h
      have q1:=q34.1;have q2:=q34.2;have qf:=H8.out.1.eu;obtain⟨w9,hw9⟩:∃ w9,w9=((w8.setCell ⟨g,kk*2,none⟩ (.slice A2 n2 c2)).setCell ⟨g,kk*2+1,none⟩ (Z (y2:Nat))):=⟨_,rfl⟩
      have h9:=H8.out.1.put (i:=kk) (x:=y2) J (w':=w9) (by rw[HX.out.2.2.2.2.1];exact hw9);have hBg:=HD.out.2.2.2.2.2.2.2.2.2.2.2.2.2.2.1;have hbel9:HB B w w9:=(H7.out.2.2.2.keeps H8.out.2 H7.out.1.ht2 hBg).keeps h9.2 H8.out.1.ht2 hBg;have hn9:=HN.out;have H9:=zh (zN h9.1 (zN ((H7.out.2.1.keeps H8.out.2 (fun e=>J)).keeps h9.2 (fun e=>J)) (zN ((H7.out.2.2.1.keeps H8.out.2 (fun e=>J)).keeps h9.2 (fun e=>J)) hbel9)));have HW9:=zh hw9;clear q34 h9 hbel9 hw9 hn9 hBg;refine zC 27 fun K HK=>?_
      go_simp;rw[<-HW9.out];go_wp2_with fail;refine HK.out.zt (fun wx=>ay wx h 384 #[.slice (some ⟨g,0,none⟩) n cp,.func (.func 254) #[] #[]]) (fun _ h=>h) (H9.out.1.blk) ?_;clear HK hS;intro hS;try simp only[zP]
      refine zD ?_;try simp only[zP]
      clear q1 q2 qf hS;go_wp2_with fail
      go_roundw
      case rel=>
       have hfe:∀ j,(if j=kk then y2 else if j=i then y1 else f' j)=dB f' i kk j:=fun j=>by
        unfold dB;rw[HX.out.2.1,HX.out.2.2.1]
        by_cases h1:j=kk
        ·rw[if_pos h1,if_neg J,if_pos h1]
        ·rw[if_neg h1]
         by_cases h2:j=i
         ·rw[if_pos h2,if_pos h2]
         ·rw[if_neg h2,if_neg h2,if_neg h1]
       have hfe2:=funext hfe;refine⟨kk,_,.inl hkn,rfl,H9.out.1,?_,?_,H9.out.2.1,H9.out.2.2.1,H9.out.2.2.2⟩
       ·rw[hfe2]
        exact HL.out.2.1.step hk0 hkn HQ.out.2 (by rw[<-HX.out.2.1,<-HX.out.2.2.1];exact hlt) (fun j h0 hj hpj=>(HQ.out.1 j h0 hj hpj).2)
       ·rw[hfe2]
        exact HL.out.2.2.1.swap J hkn
      case measure=>simp[intOf]<;>omega
    ·have d7:decide (y1 < y2)=false:=by simp;omega
     refine zB [23,24] ?_;iterate 2 (refine zv hS ?_;try simp only[zP])
     refine zE ?_;refine zD ?_;try simp only[zP]
     clear hS;have z0:w7.cell? ⟨r0,0,none⟩=some (.slice none 0 0):=H7.out.2.1.cell 0;have z1:w7.cell? ⟨r0,1,none⟩=some (Z 0):=H7.out.2.1.cell 1;have zf:=H7.out.2.1.frozen;have v0:w7.cell? ⟨gx,0,none⟩=some (.slice A0 n0 c0):=H7.out.2.2.1.cell 0;have v1:w7.cell? ⟨gx,1,none⟩=some (Z (x0:Nat)):=H7.out.2.2.1.cell 1;go_wp2_with fail;clear d7;have HE:=zh (show ∀ j,0 < j->j < n->par j=i->f' i<=f' j from fun j h0 hj hpj=>by
      have h1:=(HQ.out.1 j h0 hj hpj).2;have h2:=HX.out.2.1;have h3:=HX.out.2.2.1;omega)
     obtain⟨W8,hW8⟩:∃ W8,W8=(w7.setCell ⟨r0,0,none⟩ (.slice A0 n0 c0)).setCell ⟨r0,1,none⟩ (Z (x0:Nat)):=⟨_,rfl⟩
     have hk8:Keeps (fun q=>q=r0) w7 W8:=by rw[hW8];exact ((Keeps.refl (fun q=>q=r0) w7).setCell (fun _=>rfl) _).setCell (fun _=>rfl) _
     have hb8:=(H7.out.2.1.set 0 (.slice A0 n0 c0)).set 1 (Z (x0:Nat));rw[<-hW8] at hb8
     have hn8:=HN.out;have hh8:aL W8 B h (some ⟨g,0,none⟩) cp it f' n:=⟨H7.out.1.blk.keeps hk8 (fun e=>J),aG H7.out.1.row hk8 (fun q hq e=>by
      have:g=q:=by simpa [Value.ownBlock] using hq
      omega),H7.out.1.hB⟩
     have H8:=zh (zN hh8 (zN hb8 (H7.out.2.2.2.keeps hk8 (.inl (bZ H7.out.2.1)) (by rw[HD.out.2.2.2.2.2.2.2.1];exact HD.out.2.2.2.2.2.2.1))));have HW8:=zh hW8;clear hk8 hb8 hn8 hh8 hW8;rw[<-HW8.out];have y8:=H8.out.2.1.cell 0;have y9:=H8.out.2.1.cell 1;simp at y8 y9
     refine bodyPost_ret (v:=.agg #[.slice A0 n0 c0,Z (x0:Nat)]) (by simp[results,Tryz.results256,go_sem,y8,y9]) rfl ?_;exact⟨by rw[HD.out.2.2.2.2.2.2.2.2.2.2.2.2.1],_,f',H8.out.1,HL.out.2.1.done HE.out,HL.out.2.2.1,H8.out.2.2⟩
   ·have d1:decide ((n:Int)<=(kk:Int))=true:=by simp;omega
    have d2:decide (n<=kk)=true:=by simp;omega
    have hS:=H6.out.1.call (Below.refl _ _).drew;have hS:(fun wx=>aL wx B h (some ⟨g,0,none⟩) cp it f' n) (w6.drew):=hS;refine aA (fun wx=>aL wx B h (some ⟨g,0,none⟩) cp it f' n) (by kernel_rfl) hS ?_;refine zB [0,1,2,3] ?_;iterate 4 (refine zv hS ?_;try simp only[zP])
    refine zE ?_;refine zB [4,5,6,7,8,9,10,11,12,13,14,15,16,17,18,19,20,21,22,23] ?_;iterate 20 (refine zW hS ?_;try simp only[zP])
    refine zE ?_;refine zt 24 hS ?_;try simp only[zP]
    refine zD ?_;try simp only[zP]
    clear hS;have HE:=zh (show ∀ j,0 < j->j < n->par j=i->f' i<=f' j from fun j h0 hj hpj=>absurd (HQ.out.1 j h0 hj hpj).1 hkn);obtain⟨w7,hw7⟩:∃ w7,w7=w6.drew:=⟨_,rfl⟩
    have H7:=zh (show aL w7 B h (some ⟨g,0,none⟩) cp it f' n/\ay w7 r0 387 #[.slice none 0 0,Z 0]/\ay w7 gx 387 #[.slice A0 n0 c0,Z (x0:Nat)]/\HB B w w7 from by
     rw[hw7];exact⟨H6.out.1.call (Below.refl _ _).drew,H6.out.2.1.drew,H6.out.2.2.1.drew,H6.out.2.2.2.drew⟩)
    rw[<-hw7];clear hw7;have z0:w7.cell? ⟨r0,0,none⟩=some (.slice none 0 0):=H7.out.2.1.cell 0;have z1:w7.cell? ⟨r0,1,none⟩=some (Z 0):=H7.out.2.1.cell 1;have zf:=H7.out.2.1.frozen;have v0:w7.cell? ⟨gx,0,none⟩=some (.slice A0 n0 c0):=H7.out.2.2.1.cell 0;have v1:w7.cell? ⟨gx,1,none⟩=some (Z (x0:Nat)):=H7.out.2.2.1.cell 1;go_wp2_with fail;obtain⟨W8,hW8⟩:∃ W8,W8=(w7.setCell ⟨r0,0,none⟩ (.slice A0 n0 c0)).setCell ⟨r0,1,none⟩ (Z (x0:Nat)):=⟨_,rfl⟩
    have hk8:Keeps (fun q=>q=r0) w7 W8:=by rw[hW8];exact ((Keeps.refl (fun q=>q=r0) w7).setCell (fun _=>rfl) _).setCell (fun _=>rfl) _
    have hb8:=(H7.out.2.1.set 0 (.slice A0 n0 c0)).set 1 (Z (x0:Nat));rw[<-hW8] at hb8
    have hn8:=HN.out;have hh8:aL W8 B h (some ⟨g,0,none⟩) cp it f' n:=⟨H7.out.1.blk.keeps hk8 (fun e=>J),aG H7.out.1.row hk8 (fun q hq e=>by
     have:g=q:=by simpa [Value.ownBlock] using hq
     omega),H7.out.1.hB⟩
    have H8:=zh (zN hh8 (zN hb8 (H7.out.2.2.2.keeps hk8 (.inl (bZ H7.out.2.1)) (by rw[HD.out.2.2.2.2.2.2.2.1];exact HD.out.2.2.2.2.2.2.1))));have HW8:=zh hW8;clear hk8 hb8 hn8 hh8 hW8;rw[<-HW8.out];have y8:=H8.out.2.1.cell 0;have y9:=H8.out.2.1.cell 1;simp at y8 y9
    refine bodyPost_ret (v:=.agg #[.slice A0 n0 c0,Z (x0:Nat)]) (by simp[results,Tryz.results256,go_sem,y8,y9]) rfl ?_;exact⟨by rw[HD.out.2.2.2.2.2.2.2.2.2.2.2.2.1],_,f',H8.out.1,HL.out.2.1.done HE.out,HL.out.2.2.1,H8.out.2.2⟩
def cK(r:Nat->List Pt): Nat->List Pt
 | 0=>[]
 | k+1=>cK r k ++ r k
def gP(r:Nat->List Pt)(x:Nat)(t:List Pt): Nat->List Pt:=fun y=>if y=x then t else r y
def Inc(l:List Pt): Prop:=l.Pairwise (fun a b=>a.t < b.t)
theorem yL{r s:Nat->List Pt}: ∀ K,(∀ y,y < K->r y=s y)->cK r K=cK s K
 | 0,_=>rfl
 | K+1,h=>by
  show cK r K ++ r K=cK s K ++ s K
  rw[yL K (fun y hy=>h y J),h K J]
theorem tK{r:Nat->List Pt}: ∀ K,(∀ y,y < K->r y=[])->cK r K=[]
 | 0,_=>rfl
 | K+1,h=>by
  show cK r K ++ r K=[]
  rw[tK K (fun y hy=>h y J),h K J];rfl
theorem BA{r:Nat->List Pt}{x:Nat}{p:Pt}{t:List Pt}(hx:r x=p :: t)(h0:∀ y,y < x->r y=[]): ∀ K,x < K->cK r K=p :: cK (gP r x t) K
 | 0,h=>J
 | K+1,h=>by
  show cK r K ++ r K=p :: (cK (gP r x t) K ++ gP r x t K)
  by_cases e:x=K
  ·subst e
   rw[tK x h0,tK (r:=gP r x t) x (fun y hy=>by unfold gP;rw[if_neg J];exact h0 y hy),hx];unfold gP;simp
  ·rw[BA hx h0 K J]
   unfold gP;rw[if_neg J];rfl
theorem DR{r:Nat->List Pt}{p:Pt}: ∀ K y,y < K->p ∈ r y->p ∈ cK r K
 | 0,_,h,_=>J
 | K+1,y,h,hp=>by
  show p ∈ cK r K ++ r K
  rw[List.mem_append]
  by_cases e:y=K
  ·subst e;exact .inr hp
  ·exact .inl (DR K y J hp)
theorem Inc.parts{a b:List Pt}(h:Inc (a ++ b)): Inc a/\Inc b/\∀ p ∈ a,∀ q ∈ b,p.t < q.t:=by
 unfold Inc at h
 rw[List.pairwise_append] at h
 exact h
theorem DT{r:Nat->List Pt}: ∀ K,Inc (cK r K)->∀ y,y < K->Inc (r y)
 | 0,_,_,h=>J
 | K+1,hi,y,h=>by
  have hi':Inc (cK r K ++ r K):=hi
  by_cases e:y=K
  ·subst e;exact hi'.parts.2.1
  ·exact DT K hi'.parts.1 y J
theorem G9{r:Nat->List Pt}: ∀ K,Inc (cK r K)->∀ x y,x < y->y < K->∀ p ∈ r x,∀ q ∈ r y,p.t < q.t
 | 0,_,_,_,_,h,_,_,_,_=>J
 | K+1,hi,x,y,hxy,h,p,hp,q,hq=>by
  have hi':Inc (cK r K ++ r K):=hi
  by_cases e:y=K
  ·subst e;exact hi'.parts.2.2 p (DR y x hxy hp) q hq
  ·exact G9 K hi'.parts.1 x y hxy J p hp q hq
theorem xX{r:Nat->List Pt}: ∀ K y,y < K->(r y).length<=(cK r K).length
 | 0,_,h=>J
 | K+1,y,h=>by
  show _<=(cK r K ++ r K).length
  rw[List.length_append]
  by_cases e:y=K
  ·subst e;omega
  ·have:=xX (r:=r) K y J;omega
theorem Inc.rises{l:List Pt}(h:Inc l)(j:Nat)(hj:j+1 < l.length): (l.getD j ⟨0,0,0⟩).t < (l.getD (j+1) ⟨0,0,0⟩).t:=by
 have:=List.pairwise_iff_getElem.1 h j (j+1) J hj J;rw[List.getD_eq_getElem?_getD,List.getD_eq_getElem?_getD,List.getElem?_eq_getElem J,List.getElem?_eq_getElem hj];exact this
theorem kg{l:List Pt}{j:Nat}(hj:j < l.length): l.getD j ⟨0,0,0⟩ ∈ l:=by
 rw[List.getD_eq_getElem?_getD,List.getElem?_eq_getElem hj];exact List.getElem_mem _
theorem Py{w:World}{D:Nat->Prop}{b off n:Nat}{f:Nat->Pt}(h:dN w D (some ⟨b,off,none⟩) (n+1) f): dN w D (some ⟨b,off+3,none⟩) n (fun j=>f (j+1)):=fun hn=>by
 obtain⟨b',o',e,hD,hc⟩:=h J;injection e with e
 injection e with e1 e2
 subst e1;subst e2;refine⟨b,off+3,rfl,hD,fun j hj=>?_⟩;have:=hc (j+1) J;rw[show off+(j+1)*3=off+3+j*3 by omega] at this
 exact this
def eX(r:Nat->List Pt)(K:Nat): Nat->Prop:=fun y=>y < K/\0 < (r y).length
theorem J8{r:Nat->List Pt}{i:Nat}(h:0 < (r i).length): (fun y=>eX r i y\/y=i)=eX r (i+1):=by
 funext y
 apply propext;unfold eX;constructor
 ·rintro (⟨h1,h2⟩ | rfl)
  ·exact ⟨J,h2⟩
  ·exact ⟨J,h⟩
 ·rintro ⟨h1,h2⟩
  by_cases e:y=i
  ·exact .inr e
  ·exact .inl ⟨J,h2⟩
theorem J9{r:Nat->List Pt}{i:Nat}(h:(r i).length=0): eX r i=eX r (i+1):=by
 funext y
 apply propext;unfold eX;constructor
 ·rintro ⟨h1,h2⟩
  exact⟨J,h2⟩
 ·rintro ⟨h1,h2⟩
  refine⟨?_,h2⟩
  by_cases e:y=i
  ·subst e;omega
  ·omega
theorem Cg{r:Nat->List Pt}{K x:Nat}{t:List Pt}(hx:x < K)(ht:0 < t.length)(h0:0 < (r x).length): (fun y=>(eX r K y/\y≠x)\/y=x)=eX (gP r x t) K:=by
 funext y
 apply propext;unfold eX gP
 by_cases e:y=x
 ·subst e;simp[hx,ht]
 ·simp[e]
theorem zn{r:Nat->List Pt}{K x:Nat}: (fun y=>eX r K y/\y≠x)=eX (gP r x []) K:=by
 funext y
 apply propext;unfold eX gP
 by_cases e:y=x
 ·subst e;simp
 ·simp[e]
def fM(At:Nat->Option Addr)(ct:Nat->Nat)(r:Nat->List Pt): Nat->Value:=fun x=>.slice (At x) (r x).length (ct x)
def qB(r:Nat->List Pt): Nat->Nat->Pt:=fun x j=>(r x).getD j ⟨0,0,0⟩
theorem Je{w:World}{B K:Nat}{At:Nat->Option Addr}{ct:Nat->Nat}{r:Nat->List Pt}(hs:∀ x,x < K->dN w (fun q=>q < B) (At x) (r x).length (qB r x))(hi:Inc (cK r K)): uL w B (fM At ct r) (qB r) (eX r K):=by
 refine⟨fun x hx=>⟨At x,(r x).length,ct x,rfl,hx.2,hs x hx.1⟩,fun x y hx hy hxy=>?_⟩;exact G9 K hi x y hxy hy.1 _ (kg hx.2) _ (kg hy.2)
def aP(t:Int): Prop:=-1152921504606846976<=t/\t<=1152921504606846976
def xP(p:Pt): Prop:=(0<=p.t/\p.t<=1000000)/\(0<=p.v/\p.v<=1000000)/\0<=p.s/\p.s<=1000000
def R5(l:List Pt): Int:=(l.getD 0 ⟨0,0,0⟩).t
def Sq(l:List Pt): Int:=(l.getD (l.length-1) ⟨0,0,0⟩).t
structure IK(pl:Nat->List Pt)(K:Nat): Prop where
 len:∀ j,j < K->0 < (pl j).length/\(pl j).length<=40
 inc:Inc (cK pl K)
 sm:∀ j,j < K->∀ p ∈ pl j,xP p
def zZ(w:World)(D:Nat->Prop)(A:Option Addr)(K:Nat)(pl:Nat->List Pt): Prop:=0 < K->∃ g,A=some ⟨g,0,none⟩/\D g/\∀ j,j < K->
 (w.cell? ⟨g,j*4,none⟩=some (.string (aW 115 j))/\w.cell? ⟨g,j*4+1,none⟩=some (Z (R5 (pl j))))/\w.cell? ⟨g,j*4+2,none⟩=some (Z (Sq (pl j)))/\w.cell? ⟨g,j*4+3,none⟩=some (Z ((pl j).length:Nat))
theorem zZ.keep{w w':World}{S D:Nat->Prop}{A:Option Addr}{K:Nat}{pl:Nat->List Pt}(h:zZ w D A K pl)(hk:Keeps S w w')(hS:∀ q,D q->¬ S q): zZ w' D A K pl:=fun hK=>by
 obtain⟨g,hA,hD,hc⟩:=h hK;have hlt:g < w.heap.size:=World.block_lt_of_cell? w _ (hc 0 hK).1.1;have e:=fun i=>World.cell?_of_block (w:=w) (w':=w') (a:=⟨g,i,none⟩) (hk.block g hlt (hS g hD))
 exact⟨g,hA,hD,fun j hj=>⟨⟨(e _).trans (hc j hj).1.1,(e _).trans (hc j hj).1.2⟩,(e _).trans (hc j hj).2.1,(e _).trans (hc j hj).2.2⟩⟩
theorem zZ.later{w w':World}{A:Option Addr}{K:Nat}{pl:Nat->List Pt}(h:zZ w (fun q=>q < w.heap.size) A K pl)(hb:Below w.heap.size w w'): zZ w' (fun q=>q < w'.heap.size) A K pl:=fun hK=>by
 obtain⟨g,hA,hD,hc⟩:=(h.keep (S:=fun _=>False) (Keeps.of_below hb) (fun _ _ h=>h)) hK;exact⟨g,hA,Nat.lt_of_lt_of_le hD hb.size,hc⟩
theorem Jm(w:World)(s:ByteArray)(h1:1<=s.size)(h64:s.size<=64): Calls Tryz.prog 341 #[.string s] w fun e w'=>e=.returned (.bool true)/\Below w.heap.size w w':=by
 have hne:s≠ByteArray.empty:=fun h=>by rw[h] at h1;exact absurd h1 (by decide)
 have d0:s.toList.isEmpty=false:=by
  cases h:s.toList with
  | nil=>exact absurd ((toList_nil_iff_emptyBytes s).1 h) hne
  | cons a l=>rfl
 have d1:decide ((s.size:Int)<=64)=true:=by simp;omega
 have d2:decide (s.size<=64)=true:=by simp;omega
 go_enter Tryz.func341,Tryz.ntmps341
 go_wp2_with fail;go_ret;exact⟨rfl,Below.refl _ _⟩
theorem Jq(w:World)(t:Int)(ht:aP t): Calls Tryz.prog 342 #[Z t] w fun e w'=>e=.returned (.bool true)/\Below w.heap.size w w':=by
 have d1:decide (-1152921504606846976<=t)=true:=by simp;exact ht.1
 have d2:decide (t<=1152921504606846976)=true:=by simp;exact ht.2
 clear ht
 go_enter Tryz.func342,Tryz.ntmps342
 go_wp2_with fail;go_ret;exact⟨rfl,Below.refl _ _⟩
theorem Jo(w:World)(A:Option Addr)(n c:Nat)(f:Nat->Int)(hsl:Sl w (fun q=>q < w.heap.size) A n (fun j=>Z (f j)))(hn:n<=1000)(hf:∀ j,j < n->0<=f j/\f j<=1000000): Calls Tryz.prog 290 #[.slice A n c] w fun e w'=>e=.returned (.bool true)/\Below w.heap.size w w':=by
 have HS:=zh (zN hsl hf);clear hsl hf
 go_enter Tryz.func290,Tryz.ntmps290
 go_wp2_with fail
 go_loopw [7] (fun i wr=>∃ k:Nat,k<=n/\i=Z (k:Nat)/\Below w.heap.size w wr) (fun i _=>n-(intOf i).toNat)
 case atStart=>exact ⟨0,J,rfl,Below.refl _ _⟩
 case round=>
  obtain⟨k,hk,rfl,hb⟩:=hrel
  by_cases hlt:k < n
  ·have hki:(k:Int) < (n:Int):=J
   obtain⟨bb,off,rfl,-,hc⟩:=(V.eY HS.out.1 hb) J;have c0:wr.cell? ⟨bb,off+k,none⟩=some (Z (f k)):=hc k hlt;have hr:=HS.out.2 k hlt;obtain⟨z,hz⟩:∃ z,z=f k:=⟨_,rfl⟩
   rw[<-hz] at c0 hr
   have d1:decide (z < 0)=false:=by simp;exact hr.1
   have d2:decide (1152921504606846976 < z)=false:=by simp;omega
   have HB:=zh hb;clear hb hc hz hr;go_wp2_with fail
   go_roundw
   case rel=>exact ⟨k+1,J,by go_num,HB.out⟩
   case measure=>simp[intOf]<;>omega
  ·obtain rfl:k=n:=J
   have HB:=zh hb;clear hb;go_wp2_with fail;go_ret;exact⟨rfl,HB.out⟩
def iV(N R q:Nat)(s:Bool)(la lg:Int)(A:Option Addr)(K cp:Nat): Array Value:=#[Z (N:Nat),Z (R:Nat),Z (q:Nat),.bool s,Z la,Z lg,.slice A K cp,.slice none 0 0]
structure fJ(w0:World)(L:List (Nat × TypeId × Array Value))(xb:Nat)(v:Value)(bs:List Nat)(w:World): Prop where
 own:Own w0 ((xb,72,#[v]) :: L) w
 row:w.ownsRow w0.heap.size 5 1 v bs.length (bs.map V.aR)
 byte:∀ b ∈ bs,b < 256
theorem fJ.call{w0 w w':World}{L:List (Nat × TypeId × Array Value)}{xb:Nat}{v:Value}{bs:List Nat}(h:fJ w0 L xb v bs w)(hb:Below w.heap.size w w'): fJ w0 L xb v bs w':=⟨h.own.call hb,V.cO h.row hb,h.byte⟩
theorem fJ.drew{w0 w:World}{L:List (Nat × TypeId × Array Value)}{xb:Nat}{v:Value}{bs:List Nat}(h:fJ w0 L xb v bs w): fJ w0 L xb v bs w.drew:=h.call (Below.refl _ _).drew
theorem fJ.put{w0 w w':World}{L:List (Nat × TypeId × Array Value)}{xb:Nat}{v v':Value}{bs bs':List Nat}(h:fJ w0 L xb v bs w)(hb:Below w.heap.size w w')(ho:w'.ownsRow w.heap.size 5 1 v' bs'.length (bs'.map V.aR))(hy:∀ b ∈ bs',b < 256): fJ w0 L xb v' bs' (w'.setCell ⟨xb,0,none⟩ v'):=by
 have h':=h.call hb;have hx:=h'.own.get 0 rfl;exact⟨h'.own.set 0 0 rfl v',AX (aN ho h.own.av.size) hx,hy⟩
theorem fJ.alloc{w0 w:World}{L:List (Nat × TypeId × Array Value)}{xb y:Nat}{v:Value}{bs:List Nat}(h:fJ w0 L xb v bs w)(hy:y=w.heap.size)(t:TypeId)(cs:Array Value): fJ w0 (L ++ [(y,t,cs)]) xb v bs (w.alloc (.cells cs t)):=
 ⟨h.own.alloc hy t cs,V.cO h.row ((Below.refl _ _).alloc (Nat.le_refl _) _),h.byte⟩
theorem fJ.drop{w0 w:World}{L M:List (Nat × TypeId × Array Value)}{xb:Nat}{v:Value}{bs:List Nat}(h:fJ w0 (L ++ M) xb v bs w): fJ w0 L xb v bs w:=
 ⟨h.own.sub (List.Sublist.cons_cons _ (List.sublist_append_left L M)),h.row,h.byte⟩
theorem fJ.form{w0 w:World}{L:List (Nat × TypeId × Array Value)}{xb:Nat}{v:Value}{bs:List Nat}(h:fJ w0 L xb v bs w): ∃ A c,v=.slice A bs.length c/\bs.length<=c:=by
 obtain⟨A,c,hv,hc,-⟩:=aH h.row;exact⟨A,c,hv,hc⟩
theorem jd{a b:List Nat}(ha:∀ x ∈ a,x < 256)(hb:∀ x ∈ b,x < 256): ∀ x ∈ a ++ b,x < 256:=fun x hx=>by
 rcases List.mem_append.1 hx with h | h
 ·exact ha x h
 ·exact hb x h
def Qp(w0:World)(L:List (Nat × TypeId × Array Value))(xb:Nat)(bs:List Nat)(e:Ending)(w':World): Prop:=e=.returned (.tuple #[])/\∃ (v':Value) (bs':List Nat),fJ w0 L xb v' bs' w'/\bs'.length<=bs.length+10
theorem ko(w0 w:World)(L:List (Nat × TypeId × Array Value))(xb:Nat)(v:Value)(bs:List Nat)(n:Nat)(h:fJ w0 L xb v bs w)(hl:bs.length<=1000000)(hn:n<=1000000):
  Calls Tryz.prog 301 #[Z (n:Nat),.pointer (some ⟨xb,0,none⟩)] w (Qp w0 L xb bs):=by
 obtain⟨A,c,rfl,hc⟩:=h.form;have u0:=h.own.c 0 0;have ku:IntKind.u64.wrap (n:Int)=((n:Nat):Int):=by rw[IntKind.wrap_u64];omega
 have HD:=zh h;clear h
 go_enter Tryz.func301,Tryz.ntmps301
 go_wp2_with fail;refine(V.iJ w A bs.length c bs (n:Nat) rfl (V.gI (V.cO HD.out.row (Below.refl _ _))) hc J J J).mono ?_;rintro e w1 ⟨v1,rfl,ho,hb⟩;rw[Int.toNat_natCast] at ho
 have hl10:=V.aK (u:=n) J;have hby:=jd HD.out.byte (V.bH n);have hll:(bs ++ V.aF n).length<=bs.length+10:=by rw[List.length_append];omega
 obtain⟨l1,hl1⟩:∃ l1,l1=bs ++ V.aF n:=⟨_,rfl⟩
 rw[<-hl1] at ho hby hll
 obtain⟨A1,c1,hv1,hc1,-⟩:=aH ho;subst hv1;have hP:=HD.out.put hb ho hby;have h1:=HD.out.call hb;have u1:=h1.own.c 0 0;have uf:=h1.own.free 0 rfl;have HP:=zh hP;clear hP h1 ho hb u0 hl1 hby;go_wp2_with fail;refine bodyPost_end (v:=.tuple #[]) (by simp[results,Tryz.results301,go_sem]) rfl ?_;exact⟨rfl,_,l1,HP.out,hll⟩
theorem Q8(w:World)(B:Nat): w.ownsRow B 5 1 (.slice none 0 0) ([]:List Nat).length (([]:List Nat).map V.aR):=⟨rfl,.inl ⟨rfl,rfl⟩⟩
def RA(w:World)(K:Nat)(e:Ending)(w':World): Prop:=∃ (A:Option Addr) (c:Nat) (bs:List Nat),e=.returned (.tuple #[.slice A bs.length c,Z 0])/\bs.length<=100+53*K/\w'.ownsRow w.heap.size 5 1 (.slice A bs.length c) bs.length (bs.map V.aR)/\Below w.heap.size w w'
end
section
open Go.RowKit Go.Maps
def iI: ByteArray:=⟨#[110]⟩
def oQ: ByteArray:=⟨#[109]⟩
theorem SB: iI≠oQ:=by decide
theorem DStep.EY{w w':World}{d M:Nat}{p p':ByteArray->Option FS}(h:DStep w w' d M p p'){q:Nat}(hq:q < w.heap.size)(hn:¬ aM d M p q): ¬ aM d M p' q:=fun hf=>hn (h.far q hq hf)
theorem bD.fresh{w:World}{d M:Nat}{p:ByteArray->Option FS}{room T G:Nat}(h:bD w d M p room T G){q:Nat}(hq:w.heap.size<=q): ¬ aM d M p q:=fun hf=>by have:=h.dY hf;omega
theorem Ph{w:World}{q:Nat}{t:TypeId}{cs:Array Value}(h:ay w q t cs)(i:Nat)(v:Value)(hi:cs[i]? = some v): ay (w.setCell ⟨q,i,none⟩ v) q t cs:=by
 have:=h.set i v;have e:cs.setIfInBounds i v=cs:=by
  apply Array.ext_getElem?;intro j;rw[Array.getElem?_setIfInBounds]
  by_cases hij:i=j
  ·subst hij
   rw[if_pos rfl];have hlt:i < cs.size:=by
    rcases Nat.lt_or_ge i cs.size with h1 | h1
    ·exact h1
    ·rw[Array.getElem?_eq_none h1] at hi;cases hi
   rw[if_pos hlt,hi]
  ·rw[if_neg hij]
 rw[e] at this
 exact this
theorem x9(w:World)(x8:Nat)(F:FuncId)(caps:Array Value)(Post:World->Prop)(h8:ay w x8 24 #[Z 0])(hcf:∀ w,(callFunc F caps).run Tryz.prog w=.ok (.enter F caps) w)(hF:Calls Tryz.prog F caps w fun e w2=>e=.returned (Z 0)/\Post w2)(hP:∀ w2,Post w2->ay w2 x8 24 #[Z 0]):
  Calls Tryz.prog 235 #[.func (.func F) #[] caps,.pointer (some ⟨x8,0,none⟩)] w fun e w'=>e=.returned (.tuple #[])/\∃ w2,Post w2/\Keeps (fun q=>q=x8) w2 w'/\ay w' x8 24 #[Z 0]:=by
 have u0:w.cell? ⟨x8,0,none⟩=some (Z 0):=h8.cell 0;have HD:=zh (zN hF hP);clear hF hP h8
 go_enter Tryz.func235,Tryz.ntmps235
 go_wp2_with fail;refine HD.out.1.mono ?_;rintro e w2 ⟨rfl,hp⟩;have hb:=HD.out.2 w2 hp;have u1:w2.cell? ⟨x8,0,none⟩=some (Z 0):=hb.cell 0;have uf:=hb.frozen;have H2:=zh (zN hp hb);clear hp hb u0;go_wp2_with fail;refine bodyPost_end (v:=.tuple #[]) (by simp[results,Tryz.results235,go_sem]) rfl ?_;exact⟨rfl,w2,H2.out.1,(Keeps.refl (fun q=>q=x8) w2).setCell (fun _=>rfl) _,Ph H2.out.2 0 _ rfl⟩
structure P8(w:World)(d x2 x7 x8:Nat)(A:Option Addr)(n c:Nat)(bs:List Nat): Prop where
 b2:ay w x2 23 #[.pointer (some ⟨d,0,none⟩)]
 b7:ay w x7 72 #[.slice A n c]
 b8:ay w x8 24 #[Z 0]
 row:w.ownsRow 0 5 1 (.slice A n c) n (bs.map V.aR)
theorem P8.keep{S:Nat->Prop}{w w':World}{d x2 x7 x8:Nat}{A:Option Addr}{n c:Nat}{bs:List Nat}(h:P8 w d x2 x7 x8 A n c bs)(hk:Keeps S w w')(h2:¬ S x2)(h7:¬ S x7)(h8:¬ S x8)(hr:∀ g,(Value.slice A n c).ownBlock=some g->¬ S g): P8 w' d x2 x7 x8 A n c bs:=
 ⟨h.b2.keeps hk h2,h.b7.keeps hk h7,h.b8.keeps hk h8,aG h.row hk hr⟩
theorem JH(w:World)(d M:Nat)(p:ByteArray->Option FS)(room T G x2 x7 n c:Nat)(A:Option Addr)(bs:List Nat)(h2:w.cell? ⟨x2,0,none⟩=some (.pointer (some ⟨d,0,none⟩)))(h7:w.cell? ⟨x7,0,none⟩=some (.slice A n c))(h:bD w d M p room T G)(hlen:bs.length=n)(hsl:Sl w (fun q=>q < w.heap.size/\¬ aM d M p q) A n (aI bs))(hT:T+n<=1048576)(hr1:1048576<=room)(hr:room<=1073741824)(hG:G < 512):
  Calls Tryz.prog 237 #[.pointer (some ⟨x2,0,none⟩),.pointer (some ⟨x7,0,none⟩)] w (sj w d M p room (T+n) (G+1) (aV (fb p) iI ((fb p iI).getD [] ++ bs))):=by
 have hc:=oh w d M n c A iI bs p room T G h hlen hsl hT hr1 hr hG (by decide) (by decide);have HD:=zh hc;clear hc h hsl
 go_enter Tryz.func237,Tryz.ntmps237
 go_wp2_with fail;refine HD.out.mono ?_;rintro e w' ⟨rfl,hp⟩;have HP:=zh hp;clear hp;go_wp2_with fail;go_ret;exact⟨rfl,HP.out⟩
theorem JI(w:World)(d M:Nat)(p:ByteArray->Option FS)(room T G x2:Nat)(bs:List Nat)(h2:w.cell? ⟨x2,0,none⟩=some (.pointer (some ⟨d,0,none⟩)))(h:bD w d M p room T G)(hf:fb p iI=some bs)(hT:T<=1048576)(hG:G < 512):
  Calls Tryz.prog 238 #[.pointer (some ⟨x2,0,none⟩)] w (sj w d M p room T (G+1) (fb p)):=by
 have hc:=Au w d M iI bs p room T G h hf hT hG (by decide) (by decide);have HD:=zh hc;clear hc h hf
 go_enter Tryz.func238,Tryz.ntmps238
 go_wp2_with fail;refine HD.out.mono ?_;rintro e w' ⟨rfl,hp⟩;have HP:=zh hp;clear hp;go_wp2_with fail;go_ret;exact⟨rfl,HP.out⟩
theorem JJ(w:World)(d M:Nat)(p:ByteArray->Option FS)(room T G x2:Nat)(bs:List Nat)(h2:w.cell? ⟨x2,0,none⟩=some (.pointer (some ⟨d,0,none⟩)))(h:bD w d M p room T G)(hf:fb p iI=some bs)(hT:T<=1048576)(hG:G < 512):
  Calls Tryz.prog 239 #[.pointer (some ⟨x2,0,none⟩)] w (sj w d M p room T (G+1) (aV (fQ (fb p) iI) oQ bs)):=by
 have hc:=Li w d M iI oQ bs p room T G h hf SB hT hG (by decide) (by decide) (by decide) (by decide);have HD:=zh hc;clear hc h hf
 go_enter Tryz.func239,Tryz.ntmps239
 go_wp2_with fail;refine HD.out.mono ?_;rintro e w' ⟨rfl,hp⟩;have HP:=zh hp;clear hp;go_wp2_with fail;go_ret;exact⟨rfl,HP.out⟩
theorem LW(w:World)(d M:Nat)(p:ByteArray->Option FS)(room T G:Nat)(h:bD w d M p room T G)(hf:fb p oQ=none):
  Calls Tryz.prog 57 #[.pointer (some ⟨d,0,none⟩)] w fun e w'=>e=.returned (.tuple #[.agg (iV 0 0 0 false 0 0 none 0 0),.bool false,Z 0])/\Below w.heap.size w w':=by
 obtain⟨x,hx⟩:∃ x,x=w.heap.size:=⟨_,rfl⟩
 have o0:=Own.bn w hx 92 (iV 0 0 0 false 0 0 none 0 0);have HD:=zh (zN h (zN hf o0));clear h hf o0
 go_enter Tryz.func57,Tryz.ntmps57
 go_wp2_with fail;rw[<-hx];clear hx;refine bQ (Own w [(x,92,iV 0 0 0 false 0 0 none 0 0)]) HD.out.2.2 ?_;intro w1 h1;refine(jA w1 d M oQ p room T G (HD.out.1.call h1.av) HD.out.2.1 (by decide)).mono ?_;rintro e w2 ⟨rfl,hb2⟩;have h2:=h1.call hb2;obtain⟨W,hW⟩:∃ W,W=((((((((w2.setCell ⟨x,0,none⟩ (Z 0)).setCell ⟨x,1,none⟩ (Z 0)).setCell ⟨x,2,none⟩ (Z 0)).setCell ⟨x,3,none⟩ (.bool false)).setCell ⟨x,4,none⟩ (Z 0)).setCell ⟨x,5,none⟩ (Z 0)).setCell ⟨x,6,none⟩ (.slice none 0 0)).setCell ⟨x,7,none⟩ (.slice none 0 0)):=⟨_,rfl⟩
 have hP:Own w [(x,92,iV 0 0 0 false 0 0 none 0 0)] W:=by rw[hW];exact (aU.of h2 rfl).put [Z 0,Z 0,Z 0,.bool false,Z 0,Z 0,.slice none 0 0,.slice none 0 0] rfl
 have H2:=zh hP;have HW:=zh hW;obtain⟨z0_0,z0_1,z0_2,z0_3,z0_4,z0_5,z0_6,z0_7⟩:=h2.c8 0;have zf0:=h2.free 0 rfl;clear h1 h2 hb2 hW hP;go_wp2_with (rw[<-HW.out]);clear z0_0 z0_1 z0_2 z0_3 z0_4 z0_5 z0_6 z0_7 zf0;have h3:=H2.out;obtain⟨z0_0,z0_1,z0_2,z0_3,z0_4,z0_5,z0_6,z0_7⟩:=h3.c8 0;simp only[Int.ofNat_eq_natCast,Int.natCast_zero] at z0_0 z0_1 z0_2 z0_3 z0_4 z0_5 z0_6 z0_7
 refine bodyPost_ret (v:=.tuple #[.agg (iV 0 0 0 false 0 0 none 0 0),.bool false,Z 0]) (by unfold iV;simp[results,Tryz.results57,go_sem,z0_0,z0_1,z0_2,z0_3,z0_4,z0_5,z0_6,z0_7]) rfl ?_;exact⟨rfl,H2.out.av⟩
theorem DStep.locals{w w1 w2:World}{d M x:Nat}{p p1:ByteArray->Option FS}(h:DStep w w1 d M p p1)(hk:Keeps (fun q=>q=x) w1 w2)(hx:w.heap.size<=x): DStep w w2 d M p p1:=
 ⟨h.keep.trans hk (fun q hq e=>J),h.far⟩
structure uG(w wx:World)(d M:Nat)(p p':ByteArray->Option FS)(room T G:Nat)(f:ByteArray->Option (List Nat))(x2 x7 x8:Nat)(A:Option Addr)(n c:Nat)(bs:List Nat): Prop where
 dt:bD wx d M p' room T G
 st:DStep w wx d M p p'
 fe:fb p'=f
 sv:P8 wx d x2 x7 x8 A n c bs
 nf:∀ q,(q=x2\/q=x7\/q=x8\/(Value.slice A n c).ownBlock=some q)->¬ aM d M p' q
theorem uG.op{w wx wy:World}{d M:Nat}{p p' p2:ByteArray->Option FS}{room T G T2 G2:Nat}{f f2:ByteArray->Option (List Nat)}{x2 x7 x8:Nat}{A:Option Addr}{n c:Nat}{bs:List Nat}(h:uG w wx d M p p' room T G f x2 x7 x8 A n c bs)(hd:bD wy d M p2 room T2 G2)(hs:DStep wx wy d M p' p2)(hf:fb p2=f2): uG w wy d M p p2 room T2 G2 f2 x2 x7 x8 A n c bs:=
 ⟨hd,h.st.trans hs,hf,h.sv.keep hs.keep (h.nf _ (.inl rfl)) (h.nf _ (.inr (.inl rfl))) (h.nf _ (.inr (.inr (.inl rfl)))) (fun g hg=>h.nf g (.inr (.inr (.inr hg)))),fun q hq=>hs.EY (by
  rcases hq with rfl | rfl | rfl | hq
  ·exact h.sv.b2.lt
  ·exact h.sv.b7.lt
  ·exact h.sv.b8.lt
  ·exact (h.sv.row.lt q hq).2) (h.nf q hq)⟩
theorem uG.x8{w wx wy:World}{d M:Nat}{p p':ByteArray->Option FS}{room T G:Nat}{f:ByteArray->Option (List Nat)}{x2 x7 x8:Nat}{A:Option Addr}{n c:Nat}{bs:List Nat}(h:uG w wx d M p p' room T G f x2 x7 x8 A n c bs)(hk:Keeps (fun q=>q=x8) wx wy)(hb:ay wy x8 24 #[Z 0])(hx:w.heap.size<=x8): uG w wy d M p p' room T G f x2 x7 x8 A n c bs:=
 ⟨h.dt.keep hk (fun q hq e=>h.nf q (.inr (.inr (.inl e))) hq),h.st.locals hk hx,h.fe,
  ⟨h.sv.b2.keeps hk (h.sv.b2.ne h.sv.b8 (by decide)),h.sv.b7.keeps hk (h.sv.b7.ne h.sv.b8 (by decide)),hb,aG h.sv.row hk (fun g hg e=>own_ne h.sv.row h.sv.b8 (by decide) (by rw[hg,e]))⟩,h.nf⟩
theorem uG.sl{w wx:World}{d M:Nat}{p p':ByteArray->Option FS}{room T G:Nat}{f:ByteArray->Option (List Nat)}{x2 x7 x8:Nat}{A:Option Addr}{n c:Nat}{bs:List Nat}(h:uG w wx d M p p' room T G f x2 x7 x8 A n c bs)(hl:bs.length=n): Sl wx (fun q=>q < wx.heap.size/\¬ aM d M p' q) A n (aI bs):=by
 have hr:=h.sv.row;subst hl;exact(F.sM rfl hr).mono (fun q hq=>⟨(h.sv.row.lt q hq).2,h.nf q (.inr (.inr (.inr hq)))⟩)
def Nu(w:World)(d M:Nat)(p:ByteArray->Option FS)(room T G K:Nat)(e:Ending)(w':World): Prop:=
 e=.returned (Z 0)/\∃ (p':ByteArray->Option FS) (bs:List Nat),bD w' d M p' room (T+(100+53*K)) (G+3)/\DStep w w' d M p p'/\fb p'=aV (fb p) oQ bs
theorem Ku(f:ByteArray->Option (List Nat))(bs:List Nat)(h:f iI=none): aV (fQ (aV f iI ((f iI).getD [] ++ bs)) iI) oQ bs=aV f oQ bs:=by
 funext y
 unfold aV fQ
 by_cases e:y=oQ
 ·rw[if_pos e,if_pos e]
 ·rw[if_neg e,if_neg e]
  by_cases e2:y=iI
  ·rw[if_pos e2,e2,h]
  ·rw[if_neg e2];show (if y=iI then _ else f y)=f y;rw[if_neg e2]
end
section
open Go.RowKit
theorem Ki(w:World): (Op.unary .not (.bool true)).run Tryz.prog w=.ok (.bool false) w:=by kernel_rfl
theorem fH{w w1:World}{a:Addr}{v:Value}(hb:Below w.heap.size w w1)(h:w.cell? a=some v): w1.cell? a=some v:=wu (jK hb none) h (by simp)
theorem Eo(w:World)(xl xp:Nat)(A:Option Addr)(n c:Nat)(f:Nat->Pt)(t:Int)(i:Nat)(hi:i < n)(hsl:dN w (fun q=>q < w.heap.size) A n f)(hn:n<=1048576)(b1:w.cell? ⟨xl,0,none⟩=some (.slice A n c))(b2:w.cell? ⟨xp,0,none⟩=some (Z t))(hlt:(f i).t < t):
  Calls Tryz.prog 212 #[Z (i:Nat),.pointer (some ⟨xl,0,none⟩),.pointer (some ⟨xp,0,none⟩)] w fun e w'=>e=.returned (.bool false)/\Below w.heap.size w w':=by
 obtain⟨bb,off,rfl,-,-⟩:=id hsl J;have d1:decide (t<=(f i).t)=false:=by simp;omega
 have e2:(i:Int) < (n:Int):=J;have HD:=zh (zN hsl (zN b1 b2));clear hsl b1 b2 hlt
 go_enter Tryz.func212,Tryz.ntmps212
 go_wp2_with fail;have hS:Below w.heap.size w w.drew:=(Below.refl _ _).drew;have hS:(Below w.heap.size w) (w.drew):=hS;refine aA (Below w.heap.size w) (by kernel_rfl) hS ?_;refine zB [0,1,2,3,4,5,6,7,8] ?_;iterate 9 (refine zV ?_ ?_ hS ?_;rotate_left;(intro w' hSw;have u1:=fH hSw HD.out.2.1;have u2:=fH hSw HD.out.2.2;have u3:=(kZ (HD.out.1.below hSw) hi).1;go_simp<;>with_reducible rfl);try simp only[zP])
 refine zE ?_;refine zD ?_;try simp only[zP]
 have HS:=zh hS;clear hS;go_wp2_with fail;go_ret;exact⟨rfl,HS.out⟩
def Qo(w:World)(l:List Pt)(e:Ending)(w':World): Prop:=∃ A c,e=.returned (.tuple #[.slice A l.length c,Z 0])/\bB w' w.heap.size (.slice A l.length c) l/\Below w.heap.size w w'
theorem Gc(w:World)(A:Option Addr)(n c:Nat)(l:List Pt)(p:Pt)(hl:l.length=n)(hsl:dN w (fun q=>q < w.heap.size) A n (fun j=>l.getD j ⟨0,0,0⟩))(hn:n<=1000)(hnc:n<=c)(hc63:c<=9223372036854775807)(hrise:∀ j,j+1 < n->(l.getD j ⟨0,0,0⟩).t < (l.getD (j+1) ⟨0,0,0⟩).t)(hlt:∀ j,j < n->(l.getD j ⟨0,0,0⟩).t < p.t):
  Calls Tryz.prog 138 #[.slice A n c,.agg #[Z p.t,Z p.v,Z p.s]] w (Qo w (l ++ [p])):=by
 have nt:=Ki;obtain⟨x,hx⟩:∃ x,x=w.heap.size:=⟨_,rfl⟩
 have o0:=Own.eD w hx 186 #[.slice A n c] 149 #[Z p.t,Z p.v,Z p.s]
 have HD:=zh (zN hl (zN hsl (zN hrise (zN hlt (zN hx o0)))));clear hl hsl hrise hlt o0
 go_enter Tryz.func138,Tryz.ntmps138
 go_wp2_with fail;rw[<-hx];clear hx;refine bQ (Own w [(x,186,#[.slice A n c]),(x+1,149,#[Z p.t,Z p.v,Z p.s])]) HD.out.2.2.2.2.2 ?_;intro w1 h1;have H1:=zh h1;clear h1;refine(wX w1 A n c _ ((HD.out.2.1.below H1.out.av).mono (fun q hq=>Nat.lt_of_lt_of_le hq H1.out.av.size)) J HD.out.2.2.1).mono ?_;rintro e w2 ⟨rfl,hb2⟩;have H2:=zh (H1.out.call hb2);clear hb2;have z0:=H2.out.c 0 0;go_wp2_with fail;refine(wY w2 n 212 #[.pointer (some ⟨x,0,none⟩),.pointer (some ⟨x+1,0,none⟩)] J (fun _ _=>by kernel_rfl) ?_).mono ?_
 ·intro w3 hb3 i hi
  have o3:=H2.out.call hb3;exact Eo w3 x (x+1) A n c _ p.t i hi ((HD.out.2.1.below o3.av).mono (fun q hq=>Nat.lt_of_lt_of_le hq o3.av.size)) J (o3.cell 0 0 rfl rfl) (o3.cell 1 0 rfl rfl) (HD.out.2.2.2.1 i hi)
 rintro e w3 ⟨rfl,hb3⟩;have H3:=zh (H2.out.call hb3);clear hb3 z0;have z0:=(H3.out.get 0 rfl).alloc (.cells #[] 149) |>.cell 0
 have hbs:=H3.out.av.size;go_wp2_with (at_builtin;refine wM (base:=w.heap.size) (n:=n) (l:=[]) (l2:=l) (D:=fun q=>q < w3.heap.size) rfl (.tmp 15) (.tmp 18) rfl rfl rfl ?hown ?hl2 ?hr ?h63 ?hbase ?_)
 case hown=>exact World.ownsRow_made w3 #[] 0 hbs (by unfold maxLen;omega) rfl
 case hl2=>exact HD.out.1
 case hr=>exact ((HD.out.2.1.below (H3.out.av.alloc hbs (.cells #[] 149))).mono (fun q hq=>Nat.lt_of_lt_of_le hq hbs))
 case h63=>simp;omega
 case hbase=>simp;omega
 intro v4 w4 hr4 hg4 hx4;have o4:=(H3.out.call ((Below.refl w3.heap.size w3).alloc (Nat.le_refl _) (.cells #[] 149))).grown hg4 (fun k hk=>by
  simp[Value.ownBlock] at hk
  subst hk;exact⟨hbs,fun b hb=>Nat.ne_of_lt (H3.out.lt b hb)⟩)
 have hlo:∀ g,v4.ownBlock=some g->w3.heap.size<=g:=fun g hg=>by
  rcases hx4 with h | h<;>rw[h] at hg<;>simp[Value.ownBlock] at hg<;>omega
 obtain⟨A4,c4,hv4,hc4⟩:=hr4.form;rw[HD.out.1] at hv4 hc4
 subst hv4;have hs34:w3.heap.size<=w4.heap.size:=by have:=hg4.size;simp at this;omega
 have H4:=zh (zN o4 (zN hr4 hlo));have hS:=o4.drew;clear o4 hr4 hg4 hx4 hlo z0;go_wp2_with fail;have hS:(Own w [(x,186,#[.slice A n c]),(x+1,149,#[Z p.t,Z p.v,Z p.s])]) (w4.drew):=hS;refine aA (Own w [(x,186,#[.slice A n c]),(x+1,149,#[Z p.t,Z p.v,Z p.s])]) (by kernel_rfl) hS ?_;refine zB [0,1,2,3,4] ?_;iterate 5 (refine zV ?_ ?_ hS ?_;rotate_left;(intro w' hSw;have u0:=hSw.c 0 0;go_simp<;>with_reducible rfl);try simp only[zP])
 refine zE ?_;refine zB [5,6,7,8,9,10,11,12] ?_;iterate 8 (refine zW hS ?_;try simp only[zP])
 refine zE ?_;refine zt 13 hS ?_;try simp only[zP]
 refine zD ?_;try simp only[zP]
 clear hS;go_wp2_with fail;refine aC (fun wx=>Own w [(x,186,#[.slice A n c]),(x+1,149,#[Z p.t,Z p.v,Z p.s])] wx/\bB wx w.heap.size (.slice A4 n c4) l/\w4.heap.size<=wx.heap.size) ⟨H4.out.1.drew,H4.out.2.1.below (Below.refl _ _).drew,Nat.le_refl _⟩ ?_;rintro w5 ⟨o5,r5,s5⟩;have hS:=o5.drew;have H5:=zh (zN o5 (zN r5 s5));clear o5 r5 s5;have hS:(Own w [(x,186,#[.slice A n c]),(x+1,149,#[Z p.t,Z p.v,Z p.s])]) (w5.drew):=hS;refine aA (Own w [(x,186,#[.slice A n c]),(x+1,149,#[Z p.t,Z p.v,Z p.s])]) (by kernel_rfl) hS ?_;refine zB [0,1,4,5,6] ?_;iterate 5 (refine zV ?_ ?_ hS ?_;rotate_left;(intro w' hSw;have u0:=hSw.c 0 0;have u1:=hSw.c3 1;go_simp<;>with_reducible rfl);try simp only[zP])
 refine zE ?_;obtain⟨A',hA'⟩:∃ A',A'=(if c=n then A else Option.map (fun x=>x.add (n*3)) A):=⟨_,rfl⟩
 rw[<-hA'];clear hA';have hb5:=H5.out.1.av.size;have a5:Below w5.heap.size w5 (w5.alloc (.cells #[Z p.t,Z p.v,Z p.s] 149)).drew:=((Below.refl _ _).alloc (Nat.le_refl _) _).drew;obtain⟨v6,w6,hrun6,r6,g6,x6⟩:=oM (w:=(w5.alloc (.cells #[Z p.t,Z p.v,Z p.s] 149)).drew) (base:=w.heap.size) (g:=w5.heap.size) (v:=.slice A4 n c4) (l:=l) (p:=p) (c:=1) (ty:=186) (H5.out.2.1.below a5) (ay.fresh w5 _ _).drew (by have:=HD.out.1;omega) (Nat.le_trans hb5 a5.size);have o6:=(H5.out.1.call a5).grown g6 (fun k hk=>by
  have h1:=H4.out.2.2 k hk;exact⟨Nat.le_trans hbs h1,fun b hb=>Nat.ne_of_lt (Nat.lt_of_lt_of_le (H3.out.lt b hb) h1)⟩)
 obtain⟨v7,w7,hrun7,r7,g7,x7⟩:=sP (w:=w6) (base:=w.heap.size) (n:=0) (A:=A') (c:=c-n) (v:=v6) (l:=l ++ [p]) (l2:=[]) (D:=fun _=>True) (ty:=186) r6 rfl (dN.nil _ _ _ _) (by have:=HD.out.1;simp;omega) o6.av.size;have o7:=o6.grown g7 (fun k hk=>by
  have h1:w3.heap.size<=k:=by
   rcases x6 with h | h
   ·exact H4.out.2.2 k (by rw[<-h];exact hk)
   ·rw[h] at hk
    injection hk with hk
    have:=H5.out.2.2;have:=g6.size;have h4:w3.heap.size<=w4.heap.size:=by
     have:=H4.out.1.av.size;exact hs34
    have:(w5.alloc (.cells #[Z p.t,Z p.v,Z p.s] 149)).drew.heap.size=w5.heap.size+1:=by simp
    omega
  exact⟨Nat.le_trans hbs h1,fun b hb=>Nat.ne_of_lt (Nat.lt_of_lt_of_le (H3.out.lt b hb) h1)⟩)
 obtain⟨A7,c7,hv7,hc7⟩:=r7.form;rw[List.append_nil] at r7 hv7 hc7
 have HL:=zh (show (l ++ [p]).length=n+1 by rw[List.length_append,HD.out.1];rfl);rw[HL.out] at hv7
 subst hv7;have H7:=zh (zN r7 (zN o7 o6));clear r6 g6 x6 o6 r7 g7 x7 o7 a5 hc7;refine zC 2 fun K HK=>?_
 go_simp;go_wp2_with fail;refine HK.out.zt (Own w [(x,186,#[.slice A n c]),(x+1,149,#[Z p.t,Z p.v,Z p.s])]) (fun _ h=>h) (H5.out.1.call (((Below.refl _ _).alloc (Nat.le_refl _) _).drew)) ?_;clear HK hS;intro hS;try simp only[zP]
 refine zC 3 fun K HK=>?_
 refine dA rfl (.tmp 48) (.tmp 50) rfl rfl rfl hrun6 ?_;refine HK.out.zt (Own w [(x,186,#[.slice A n c]),(x+1,149,#[Z p.t,Z p.v,Z p.s])]) (fun _ h=>h) (H7.out.2.2) ?_;clear HK hS;intro hS;try simp only[zP]
 refine zC 7 fun K HK=>?_
 refine dA rfl (.tmp 51) (.tmp 54) rfl rfl rfl hrun7 ?_;refine HK.out.zt (Own w [(x,186,#[.slice A n c]),(x+1,149,#[Z p.t,Z p.v,Z p.s])]) (fun _ h=>h) (H7.out.2.1) ?_;clear HK hS;intro hS;try simp only[zP]
 refine zB [8,9] ?_;iterate 2 (refine zv hS ?_;try simp only[zP])
 refine zE ?_;refine zD ?_;try simp only[zP]
 clear hrun6 hrun7 hS;go_wp2_with fail;go_ret2;refine⟨A7,c7,by rw[HL.out];rfl,?_,H7.out.2.1.av⟩;rw[HL.out];exact H7.out.1
end
section
open Go.RowKit Go.Maps
def aY: ByteArray:=⟨#[97]⟩
theorem PZ(w:World): (zeroValue 186).run Tryz.prog w=.ok (.slice none 0 0) w:=by kernel_rfl
theorem vD{w:World}{M N c:Nat}{D:DataW Value}{s:ByteArray->Option Value}(t e:TypeId)(ht:Tryz.prog.underlying t=some (.map 9 e))(z:Value)(hz:∀ w:World,(zeroValue e).run Tryz.prog w=.ok z w)(hown:w.ownsMap Tryz.prog 9 eO M N D)(hF:gT D s c)(k:ByteArray)(hk:k.size<=maxLen):
  (Instr.lookup t (.map (some M)) (.string k) false).run Tryz.prog w=.ok ((s k).getD z) w:=by
 obtain⟨v,ps,hrun,hv⟩:=World.ownsMap.lookup hown law ht (hz w) (zd:=.held z) (zp:=[]) rfl (mO hk);have hv2:v=(s k).getD z:=by
  unfold eO at hv
  cases hs:s k with
  | none=>
   rw[hF.none hs] at hv
   simp only[Option.some.injEq,Prod.mk.injEq,DataW.held.injEq] at hv
   exact hv.1
  | some u=>
   rw[hF.val k u hs] at hv
   simp only[Option.some.injEq,Prod.mk.injEq,DataW.held.injEq] at hv
   exact hv.1
 rw[hv2] at hrun
 exact hrun
structure fE(w:World)(t Mt:Nat)(A:Option Addr)(cp:Nat)(L:List Pt)(n most U:Nat): Prop where
 blk:ay w t 117 #[.map (some Mt),Z (n:Nat),Z (most:Nat)]
 map:∃ s N D,w.ownsMap Tryz.prog 9 eO Mt N D/\N<=U/\gT D s U/\(∀ x,x≠aY->s x=none)/\(s aY).getD (.slice none 0 0)=.slice A n cp/\(0 < n->s aY=some (.slice A n cp))
 row:bB w 0 (.slice A n cp) L
 len:L.length=n
def dX(t Mt:Nat)(A:Option Addr)(q:Nat): Prop:=q=t\/q=Mt\/(A.map (·.block))=some q
theorem jo(A:Option Addr)(n c:Nat): (Value.slice A n c).ownBlock=A.map (·.block):=by cases A<;>rfl
theorem fE.keep{S:Nat->Prop}{w w':World}{t Mt:Nat}{A:Option Addr}{cp:Nat}{L:List Pt}{n most U:Nat}(h:fE w t Mt A cp L n most U)(hk:Keeps S w w')(hS:∀ q,dX t Mt A q->¬ S q): fE w' t Mt A cp L n most U:=by
 refine⟨h.blk.keeps hk (hS _ (.inl rfl)),?_,h.row.keeps hk (fun g hg=>hS _ (.inr (.inr (by rw[<-jo A n cp];exact hg)))),h.len⟩;obtain⟨s,N,D,h1,h2⟩:=h.map;have hM:w'.heap[Mt]? = w.heap[Mt]?:=hk.block Mt (World.ownsMap.lt h1) (hS _ (.inr (.inl rfl)));obtain⟨es,clock,e1,e2⟩:=h1;exact⟨s,N,D,⟨es,clock,by rw[hM];exact e1,e2⟩,h2⟩
theorem fE.call{w w':World}{t Mt:Nat}{A:Option Addr}{cp:Nat}{L:List Pt}{n most U:Nat}(h:fE w t Mt A cp L n most U)(hb:Below w.heap.size w w'): fE w' t Mt A cp L n most U:=
 h.keep (S:=fun _=>False) (Keeps.of_below hb) (fun _ _ h=>h)
theorem fE.dY{w:World}{t Mt:Nat}{A:Option Addr}{cp:Nat}{L:List Pt}{n most U:Nat}(h:fE w t Mt A cp L n most U){q:Nat}(hq:dX t Mt A q): q < w.heap.size:=by
 rcases hq with rfl | rfl | hq
 ·exact h.blk.lt
 ·obtain ⟨s,N,D,h1,-⟩:=h.map
  exact World.ownsMap.lt h1
 ·exact (h.row.fB q (by rw[jo];exact hq)).2
theorem fE.look{w:World}{t Mt:Nat}{A:Option Addr}{cp:Nat}{L:List Pt}{n most U:Nat}(h:fE w t Mt A cp L n most U): (Instr.lookup 115 (.map (some Mt)) (.string aY) false).run Tryz.prog w=.ok (.slice A n cp) w:=by
 obtain⟨s,N,D,h1,h2,h3,h4,h5,-⟩:=h.map;have:=vD 115 186 Tryz.underlying115 (.slice none 0 0) PZ h1 h3 aY (by decide);rw[h5] at this
 exact this
theorem fE.cap{w:World}{t Mt:Nat}{A:Option Addr}{cp:Nat}{L:List Pt}{n most U:Nat}(h:fE w t Mt A cp L n most U): n<=cp/\cp<=9223372036854775807:=V.lY h.row
theorem fE.sl{w:World}{t Mt:Nat}{A:Option Addr}{cp:Nat}{L:List Pt}{n most U:Nat}(h:fE w t Mt A cp L n most U): dN w (fun q=>q < w.heap.size/\dX t Mt A q) A n (fun j=>L.getD j ⟨0,0,0⟩):=by
 have hr:=h.row;have hlt:=h.row.fB;rw[<-h.len] at hr hlt ⊢
 exact(hr.sl).mono (fun q hq=>⟨(hlt q hq.2).2,.inr (.inr (by rw[<-jo A L.length cp];exact hq.2))⟩)
theorem BZ(a:Addr)(w:World): (binOp .eql 77 (.pointer (some a)) (.pointer none)).run Tryz.prog w=.ok (.bool false) w:=by kernel_rfl
theorem JO(M:Nat)(w:World): (binOp .eql 115 (.map (some M)) (.map none)).run Tryz.prog w=.ok (.bool false) w:=by kernel_rfl
theorem Kj(w:World): (Op.unary .not (.bool true)).run Tryz.prog w=.ok (.bool false) w:=by kernel_rfl
theorem rV(w:World): (Op.unary .not (.bool false)).run Tryz.prog w=.ok (.bool true) w:=by kernel_rfl
theorem pE(w:World)(t M:Nat)(hc:w.cell? ⟨t,0,none⟩=some (.map (some M))): Calls Tryz.prog 85 #[.pointer (some ⟨t,0,none⟩)] w fun e w'=>e=.returned (.bool false)/\Below w.heap.size w w':=by
 have q2:=fun y=>BZ ⟨y,0,none⟩
 have q3:=JO
 go_enter Tryz.func85,Tryz.ntmps85
 go_wp2_with fail;go_ret;exact⟨rfl,Below.refl _ _⟩
theorem LZ(w:World)(most:Nat)(h1:1<=most)(h2:most<=65536): Calls Tryz.prog 22 #[Z (most:Nat)] w fun e w'=>∃ t M,e=.returned (.tuple #[.pointer (some ⟨t,0,none⟩),Z 0])/\w.heap.size<=M/\w.heap.size<=t/\fE w' t M none 0 [] 0 most 0/\Below w.heap.size w w':=by
 have hmm:=@run_makeMap Tryz.prog;have d1:decide ((most:Int) < 1)=false:=by simp;omega
 have d2:decide ((65536:Int) < (most:Int))=false:=by simp;omega
 have d3:decide (most < 1)=false:=by simp;omega
 have d4:decide (65536 < most)=false:=by simp;omega
 go_enter Tryz.func22,Tryz.ntmps22
 go_wp2_with fail;go_ret2;refine⟨w.heap.size+1,w.heap.size,rfl,Nat.le_refl _,J,⟨?_,⟨fun _=>none,0,_,(World.ownsMap_made w Tryz.prog 9 eO).alloc _,Nat.le_refl _,gT.nil,fun _ _=>rfl,rfl,fun h=>absurd h (Nat.lt_irrefl _)⟩,bB.nil _ _,rfl⟩,((Below.refl _ _).alloc (Nat.le_refl _) _).alloc (by simp) _⟩;have:=ay.fresh (w.alloc (.map #[] 0)) 117 #[.map (some w.heap.size),Z 0,Z (most:Nat)]
 rw[show (w.alloc (.map #[] 0)).heap.size=w.heap.size+1 by simp] at this
 exact this
theorem LU(w:World)(xl xp:Nat)(A:Option Addr)(n c:Nat)(f:Nat->Pt)(t:Int)(i:Nat)(hi:i < n)(hsl:dN w (fun q=>q < w.heap.size) A n f)(hn:n<=1048576)(b1:w.cell? ⟨xl,0,none⟩=some (.slice A n c))(b2:w.cell? ⟨xp,0,none⟩=some (Z t))(hlt:(f i).t < t):
  Calls Tryz.prog 210 #[Z (i:Nat),.pointer (some ⟨xl,0,none⟩),.pointer (some ⟨xp,0,none⟩)] w fun e w'=>e=.returned (.bool false)/\Below w.heap.size w w':=by
 obtain⟨bb,off,rfl,-,-⟩:=id hsl J;have d1:decide (t<=(f i).t)=false:=by simp;omega
 have e2:(i:Int) < (n:Int):=J;have HD:=zh (zN hsl (zN b1 b2));clear hsl b1 b2 hlt
 go_enter Tryz.func210,Tryz.ntmps210
 go_wp2_with fail;have hS:Below w.heap.size w w.drew:=(Below.refl _ _).drew;have hS:(Below w.heap.size w) (w.drew):=hS;refine aA (Below w.heap.size w) (by kernel_rfl) hS ?_;refine zB [0,1,2,3,4,5,6,7] ?_;iterate 8 (refine zV ?_ ?_ hS ?_;rotate_left;(intro w' hSw;have u1:=fH hSw HD.out.2.1;have u2:=fH hSw HD.out.2.2;have u3:=(kZ (HD.out.1.below hSw) hi).1;go_simp<;>with_reducible rfl);try simp only[zP])
 refine zE ?_;refine zD ?_;try simp only[zP]
 have HS:=zh hS;clear hS;go_wp2_with fail;go_ret;exact⟨rfl,HS.out⟩
theorem En(w:World)(t Mt:Nat)(A:Option Addr)(cp:Nat)(L:List Pt)(n most U:Nat)(tm:Int)(h:fE w t Mt A cp L n most U)(hn:n<=1000)(hlt:∀ j,j < n->(L.getD j ⟨0,0,0⟩).t < tm):
  Calls Tryz.prog 137 #[.pointer (some ⟨t,0,none⟩),.string aY,Z tm] w fun e w'=>e=.returned (.bool false)/\Below w.heap.size w w':=by
 obtain⟨x,hx⟩:∃ x,x=w.heap.size:=⟨_,rfl⟩
 have o0:=Own.eD w hx 3 #[Z tm] 186 #[.slice A n cp]
 have a0:Below w.heap.size w (w.alloc (.cells #[Z tm] 3)):=(Below.refl _ _).alloc (Nat.le_refl _) _;have u0:=(h.call a0).blk.cell 0;have u1:=(h.call a0).look;have HD:=zh (zN h (zN hlt (zN hx o0)));clear h hlt o0 a0
 go_enter Tryz.func137,Tryz.ntmps137
 go_wp2_with fail;rw[<-hx];clear hx u0 u1;refine bQ (Own w [(x,3,#[Z tm]),(x+1,186,#[.slice A n cp])]) HD.out.2.2.2 ?_;intro w1 h1;have H1:=zh h1;clear h1;refine(wY w1 n 210 #[.pointer (some ⟨x+1,0,none⟩),.pointer (some ⟨x,0,none⟩)] J (fun _ _=>by kernel_rfl) ?_).mono ?_
 ·intro w3 hb3 i hi
  have o3:=H1.out.call hb3;exact LU w3 (x+1) x A n cp _ tm i hi (((HD.out.1.call o3.av).sl).mono (fun q hq=>hq.1)) J (o3.cell 1 0 rfl rfl) (o3.cell 0 0 rfl rfl) (HD.out.2.1 i hi)
 rintro e w2 ⟨rfl,hb2⟩;have H2:=zh (H1.out.call hb2);clear hb2;go_wp2_with fail;have hS:=H2.out.drew;have hS:(Own w [(x,3,#[Z tm]),(x+1,186,#[.slice A n cp])]) (w2.drew):=hS;refine aA (Own w [(x,3,#[Z tm]),(x+1,186,#[.slice A n cp])]) (by kernel_rfl) hS ?_;refine zB [0,1,2,3,4] ?_;iterate 5 (refine zV ?_ ?_ hS ?_;rotate_left;(intro w' hSw;have u0:=hSw.c 1 0;go_simp<;>with_reducible rfl);try simp only[zP])
 refine zE ?_;refine zB [5,6,7,8,9,10,11] ?_;iterate 7 (refine zW hS ?_;try simp only[zP])
 refine zE ?_;refine zB [12,13] ?_;iterate 2 (refine zv hS ?_;try simp only[zP])
 refine zE ?_;refine zD ?_;try simp only[zP]
 have HS:=zh hS;clear hS;go_wp2_with fail;go_ret;exact⟨rfl,HS.out.av⟩
theorem sK: fZ aY=true:=by kernel_rfl
structure Stp(w w':World)(F F':Nat->Prop): Prop where
 keep:Keeps F w w'
 far:∀ q,q < w.heap.size->F' q->F q
theorem Stp.trans{w w1 w2:World}{F F1 F2:Nat->Prop}(h:Stp w w1 F F1)(k:Stp w1 w2 F1 F2): Stp w w2 F F2:=
 ⟨h.keep.trans k.keep (fun q hq hf=>h.far q hq hf),fun q hq hf=>h.far q hq (k.far q (Nat.lt_of_lt_of_le hq h.keep.size) hf)⟩
theorem Stp.of_below{w w':World}(F:Nat->Prop)(h:Below w.heap.size w w'): Stp w w' F F:=⟨Keeps.of_below h,fun _ _ h=>h⟩
def IQ(L:List Pt): Prop:=∀ j,j+1 < L.length->(L.getD j ⟨0,0,0⟩).t < (L.getD (j+1) ⟨0,0,0⟩).t
def Dl(w:World)(t Mt:Nat)(A:Option Addr)(L:List Pt)(n most U:Nat)(p:Pt)(e:Ending)(w':World): Prop:=
 e=.returned (Z 0)/\∃ A' cp',fE w' t Mt A' cp' (L ++ [p]) (n+1) most (U+1)/\Stp w w' (dX t Mt A) (dX t Mt A')
theorem fE.jR{w:World}{t Mt:Nat}{A:Option Addr}{cp:Nat}{L:List Pt}{n most U:Nat}(h:fE w t Mt A cp L n most U): ∀ q ty cs,ay w q ty cs->q≠Mt:=by
 intro q ty cs hq e;obtain⟨s,N,D,h1,-⟩:=h.map;obtain⟨es,clock,e1,-⟩:=h1;unfold ay at hq
 rw[e,e1] at hq
 cases hq
theorem Rh{w w6 w7 w8:World}{t Mt:Nat}{A A6:Option Addr}{cp c6:Nat}{L:List Pt}{n most U N:Nat}{p:Pt}{s:ByteArray->Option Value}{D:DataW Value}(h6:fE w6 t Mt A cp L n most U)(hb:Below w.heap.size w w6)(hrow:bB w6 w.heap.size (.slice A6 (n+1) c6) (L ++ [p]))(hN:N<=U)(hF:gT D s U)(hso:∀ x,x≠aY->s x=none)(hown:w7.ownsMap Tryz.prog 9 eO Mt (N+1) (D.put (fV aY) (.held (.slice A6 (n+1) c6))))(hm:w6.mapTurned w7 Mt)(hM:w6.ownsMap Tryz.prog 9 eO Mt N D)(hE:w8=w7.setCell ⟨t,1,none⟩ (Z ((n:Int)+1))): Dl w t Mt A L n most U p (.returned (Z 0)) w8:=by
 have hg:=hm.grown;have htM:=h6.jR _ _ _ h6.blk;have hb7:=cZ hg h6.blk (fun e=>htM (by injection e));have hrow7:bB w7 w.heap.size (.slice A6 (n+1) c6) (L ++ [p]):=hrow.kept hg (iT hM hrow);have hk7:Keeps (fun q=>q=Mt) w6 w7:=(Keeps.refl _ w6).grown hg (fun k hk _=>by injection hk with hk;exact hk.symm);have hk8:Keeps (fun q=>q=t) w7 w8:=by rw[hE];exact (Keeps.refl (fun q=>q=t) w7).setCell (fun _=>rfl) _
 have hb8:=hb7.set 1 (Z ((n:Int)+1));rw[<-hE] at hb8
 refine⟨rfl,A6,c6,⟨hb8,⟨aV s aY (.slice A6 (n+1) c6),N+1,_,?_,J,hF.put aY _,fun x hx=>?_,?_,fun _=>iB _ _ _⟩,?_,?_⟩,?_⟩
 ·have hlt:=World.ownsMap.lt hown
  obtain⟨es,clock,e1,e2⟩:=hown;exact⟨es,clock,by rw[hk8.block Mt hlt (fun e=>htM e.symm)];exact e1,e2⟩
 ·rw[kN _ _ hx]
  exact hso x hx
 ·rw[iB];rfl
 ·refine bB.keeps (w:=w7) (aN hrow7 (Nat.zero_le _)) hk8 (fun g hg' e=>?_)
  exact own_ne hrow7 hb7 (by decide) (by rw[hg',e])
 ·rw[List.length_append,h6.len];rfl
 ·refine ⟨((Keeps.of_below (S:=dX t Mt A) hb).trans' (hk7.mono (fun q _ e=>.inr (.inl e)))).trans' (hk8.mono (fun q _ e=>.inl e)),?_⟩
  rintro q hq (rfl | rfl | hq')
  ·exact .inl rfl
  ·exact .inr (.inl rfl)
  ·have:=(hrow.fB q (by rw[jo];exact hq')).1
   omega
theorem L6(w:World)(t Mt:Nat)(A:Option Addr)(cp:Nat)(L:List Pt)(n most U:Nat)(p:Pt)(h:fE w t Mt A cp L n most U)(hlt:∀ j,j < n->(L.getD j ⟨0,0,0⟩).t < p.t)(hrise:IQ L)(hnm:n < most)(hm:most<=1000)(hU:U < 1000000):
  Calls Tryz.prog 76 #[.pointer (some ⟨t,0,none⟩),.string aY,.agg #[Z p.t,Z p.v,Z p.s]] w (Dl w t Mt A L n most U p):=by
 have nt:=Kj;have nf:=rV;obtain⟨x,hx⟩:∃ x,x=w.heap.size:=⟨_,rfl⟩
 have o0:=Own.bn w hx 149 #[Z p.t,Z p.v,Z p.s]
 have HD:=zh (zN h (zN hlt (zN hrise (zN hx o0))));clear h hlt hrise o0
 go_enter Tryz.func76,Tryz.ntmps76
 go_wp2_with fail;rw[<-hx];clear hx;refine bQ (Own w [(x,149,#[Z p.t,Z p.v,Z p.s])]) HD.out.2.2.2.2 ?_;intro w1 h1;have H1:=zh h1;clear h1;refine(pE w1 t Mt ((HD.out.1.call H1.out.av).blk.cell 0)).mono ?_;rintro e w2 ⟨rfl,hb2⟩;have H2:=zh (H1.out.call hb2);clear hb2;go_wp2_with fail;refine(mZ aY (by decide) w2).mono ?_;rw[sK];rintro e w3 ⟨rfl,hb3⟩;have H3:=zh (H2.out.call hb3);clear hb3;have v0:=H3.out.c 0 0;go_wp2_with fail;refine(En w3 t Mt A cp L n most U p.t (HD.out.1.call H3.out.av) J HD.out.2.1).mono ?_;rintro e w4 ⟨rfl,hb4⟩;have H4:=zh (H3.out.call hb4);clear hb4 v0;go_wp2_with fail;have d1:decide ((most:Int)<=(n:Int))=false:=by simp;omega
 have d2:decide (most<=n)=false:=by simp;omega
 have hS:=(HD.out.1.call H4.out.av).blk.drew;have hS:(fun wx=>ay wx t 117 #[.map (some Mt),Z (n:Nat),Z (most:Nat)]) (w4.drew):=hS;refine aA (fun wx=>ay wx t 117 #[.map (some Mt),Z (n:Nat),Z (most:Nat)]) (by kernel_rfl) hS ?_;refine zB [0,1,2,3,4,5,6,7,8,9,10,11] ?_;iterate 12 (refine zV ?_ ?_ hS ?_;rotate_left;(intro w' hSw;have u1:=hSw.cell 1;have u2:=hSw.cell 2;go_simp<;>with_reducible rfl);try simp only[zP])
 refine zE ?_;refine zD ?_;try simp only[zP]
 clear hS d1 d2;go_wp2_with fail;refine aC (Own w [(x,149,#[Z p.t,Z p.v,Z p.s])]) H4.out.drew ?_;intro w5 h5;have ht5:=HD.out.1.call h5.av;have hS:=zN (h5.get 0 rfl).drew ht5.blk.drew;have H5:=zh (zN h5 ht5);clear h5 ht5;have hS:(fun wx=>ay wx x 149 #[Z p.t,Z p.v,Z p.s]/\ay wx t 117 #[.map (some Mt),Z (n:Nat),Z (most:Nat)]) (w5.drew):=hS;refine aA (fun wx=>ay wx x 149 #[Z p.t,Z p.v,Z p.s]/\ay wx t 117 #[.map (some Mt),Z (n:Nat),Z (most:Nat)]) (by kernel_rfl) hS ?_;refine zB [0,1,2,3,4,5,6,7,8,9,11] ?_;iterate 11 (refine zV ?_ ?_ hS ?_;rotate_left;(intro w' hSw;have u0:=hSw.1.cell 0;have u1:=hSw.1.cell 1;have u2:=hSw.1.cell 2;have u3:=hSw.2.cell 0;go_simp<;>with_reducible rfl);try simp only[zP])
 refine zE ?_;have u5:=(H5.out.2.call (Below.refl _ _).drew).look;refine zC 10 fun K HK=>?_
 go_simp;go_wp2_with fail;refine HK.out.zt (fun wx=>ay wx x 149 #[Z p.t,Z p.v,Z p.s]/\ay wx t 117 #[.map (some Mt),Z (n:Nat),Z (most:Nat)]) (fun _ h=>h) (hS) ?_;clear HK hS;intro hS;try simp only[zP]
 clear u5;have t5d:=H5.out.2.call (Below.refl _ _).drew;refine zC 12 fun K HK=>?_
 go_simp;refine(Gc w5.drew A n cp L p HD.out.1.len (t5d.sl.mono (fun q hq=>hq.1)) J t5d.cap.1 t5d.cap.2 (fun j hj=>HD.out.2.2.1 j (by rw[HD.out.1.len];exact hj)) HD.out.2.1).mono ?_;rintro e w6 ⟨A6,c6,rfl,hr6,hb6⟩;have e6:(L ++ [p]).length=n+1:=by rw[List.length_append,HD.out.1.len];rfl
 rw[e6] at hr6 ⊢
 have t6:=t5d.call hb6;have hbw:Below w.heap.size w w6:=V.aB H5.out.1.av (V.aB (Below.refl _ _).drew hb6);have hrw:bB w6 w.heap.size (.slice A6 (n+1) c6) (L ++ [p]):=aN hr6 H5.out.1.av.size;have hs6:=zN ((H5.out.1.get 0 rfl).drew.below hb6 (H5.out.1.get 0 rfl).lt) t6.blk;have H6:=zh (zN t6 (zN hbw (zN hrw hs6)));clear e6 hr6 t6 hbw hrw hs6 hb6 t5d;go_wp2_with fail;refine HK.out.zt (fun wx=>ay wx x 149 #[Z p.t,Z p.v,Z p.s]/\ay wx t 117 #[.map (some Mt),Z (n:Nat),Z (most:Nat)]) (fun _ h=>h) (H6.out.2.2.2) ?_;clear HK hS;intro hS;try simp only[zP]
 refine zB [13,14,15] ?_;iterate 3 (refine zv hS ?_;try simp only[zP])
 refine zE ?_;obtain⟨s,N,D,hown,hN,hF,hso,hsa,-⟩:=H6.out.1.map;obtain⟨w7,hrun7,hown7,hm7⟩:=hown.store law Tryz.underlying115 (by unfold maxLen;omega) (mO (s:=aY) (by decide)) (val:=.slice A6 (n+1) c6) (d:=.held (.slice A6 (n+1) c6)) (ps:=[]) rfl;have hg7:=hm7.grown;have hb7:ay w7 x 149 #[Z p.t,Z p.v,Z p.s]/\ay w7 t 117 #[.map (some Mt),Z (n:Nat),Z (most:Nat)]:=
  ⟨cZ hg7 H6.out.2.2.2.1 (fun e=>H6.out.1.jR _ _ _ H6.out.2.2.2.1 (by injection e)),cZ hg7 H6.out.2.2.2.2 (fun e=>H6.out.1.jR _ _ _ H6.out.2.2.2.2 (by injection e))⟩
 have H7:=zh (zN hb7 (zN hown7 (zN hm7 (zN hown (zN hN (zN hF hso))))));clear hb7 hown7 hm7 hg7 hown hN hF hso hsa;refine zC 16 fun K HK=>?_
 go_simp;go_wp2_with fail;refine HK.out.zt (fun wx=>ay wx x 149 #[Z p.t,Z p.v,Z p.s]/\ay wx t 117 #[.map (some Mt),Z (n:Nat),Z (most:Nat)]) (fun _ h=>h) (H7.out.1) ?_;clear HK hS;intro hS;try simp only[zP]
 refine zD ?_;try simp only[zP]
 clear hrun7 hS;have v1:=H7.out.1.2.cell 1;have vf:=H7.out.1.2.frozen;go_wp2_with fail;go_ret;exact Rh H6.out.1 H6.out.2.1 H6.out.2.2.1 H7.out.2.2.2.2.1 H7.out.2.2.2.2.2.1 H7.out.2.2.2.2.2.2 H7.out.2.1 H7.out.2.2.1 H7.out.2.2.2.1 rfl
end
section
open Go.RowKit
theorem Iq(f:Nat->Pt)(a b:Int): ∀ n,(∀ j,j < n->jZ a b (f j)=true)->fK f a b n=(List.range n).map f
 | 0,_=>rfl
 | n+1,h=>by
  show (if jZ a b (f n)=true then fK f a b n ++ [f n] else _)=_
  rw[if_pos (h n J),Iq f a b n (fun j hj=>h j J),List.range_succ,List.map_append];rfl
theorem Kt(L:List Pt): (List.range L.length).map (fun j=>L.getD j ⟨0,0,0⟩)=L:=by
 apply List.ext_getElem?;intro j;rw[List.getElem?_map];rcases Nat.lt_or_ge j L.length with h | h
 ·rw[List.getElem?_range h,List.getElem?_eq_getElem h]
  simp[List.getD_eq_getElem?_getD,h]
 ·rw[List.getElem?_eq_none (by simpa using h),List.getElem?_eq_none h]
  rfl
theorem Oq(w:World)(A:Option Addr)(n c:Nat)(f:Nat->Pt)(a b:Int)(hsl:dN w (fun q=>q < w.heap.size) A n f)(hn:n<=1048576):
  Calls Tryz.prog 257 #[.slice A n c,.int .i64 a,.int .i64 b] w fun e w'=>∃ v,e=.returned v/\bB w' w.heap.size v (fK f a b n)/\Below w.heap.size w w':=by
 have HS:=zh hsl;clear hsl
 go_enter Tryz.func257,Tryz.ntmps257
 go_wp2_with fail
 go_loopw [7,12] (fun out jj wq=>∃ j,j<=n/\jj=.int .i64 (j:Nat)/\bB wq w.heap.size out (fK f a b j)/\Below w.heap.size w wq) (fun _ jj _=>n-(intOf jj).toNat)
 case atStart=>exact ⟨0,J,rfl,bB.nil _ _,Below.refl _ _⟩
 case round=>
  obtain⟨j,hj,rfl,hrow,hbel⟩:=hrel;obtain⟨Aq,cq,hvq,hcq⟩:=hrow.form;subst hvq;obtain⟨lj,hlj⟩:∃ lj,lj=fK f a b j:=⟨_,rfl⟩
  rw[<-hlj] at hrow hcq ⊢
  by_cases hjx:j < n
  ·have hjk:(j:Int) < (n:Int):=J
   obtain⟨bb,off,rfl,-,-⟩:=id HS.out J;obtain⟨P0,hP0⟩:∃ P0,P0=f j:=⟨_,rfl⟩
   obtain⟨tt,vv,ss⟩:=P0;have hcj:=kZ (HS.out.below hbel) hjx;rw[<-hP0] at hcj
   have c0:=hcj.1;have c1:=hcj.2.1;have c2:=hcj.2.2;have hs1:jZ a b ⟨tt,vv,ss⟩=true->fK f a b (j+1)=lj ++ [⟨tt,vv,ss⟩]:=fun h=>by
    show (if jZ a b (f j)=true then fK f a b j ++ [f j] else _)=_
    rw[<-hP0,if_pos h,hlj]
   have hs2:jZ a b ⟨tt,vv,ss⟩=false->fK f a b (j+1)=lj:=fun h=>by
    show (if jZ a b (f j)=true then _ else fK f a b j)=_
    rw[<-hP0,if_neg (by rw[h];simp),hlj]
   have hll:lj.length<=j:=by rw[hlj];exact Fw _ _ _ _
   have HQ:=zh (zN hrow (zN hbel (zN hs1 hs2)));clear hrow hbel hs1 hs2 hcj hP0 hlj;go_upto_region 5 with (fail)
   obtain⟨gp,hgp⟩:∃ gp,gp=wr.heap.size:=⟨_,rfl⟩
   rw[<-hgp];have hal:Below wr.heap.size wr (wr.alloc (.cells #[.int .i64 tt,.int .i64 vv,.int .i64 ss] 149)):=(Below.refl _ _).alloc (Nat.le_refl _) _;refine aC (fun wx=>bB wx w.heap.size (.slice Aq lj.length cq) lj/\Below w.heap.size w wx/\ay wx gp 149 #[.int .i64 tt,.int .i64 vv,.int .i64 ss]) ⟨HQ.out.1.below hal,HQ.out.2.1.trans (hal.mono HQ.out.2.1.size),by rw[hgp];exact ay.fresh _ _ _⟩ ?_;rintro w9 ⟨h9,b9,g9⟩;have v0:=g9.cell 0;have v1:=g9.cell 1;have v2:=g9.cell 2;have H9:=zh (zN h9 b9);clear h9 b9 g9 hal hgp c0 c1 c2
   by_cases k1:a<=tt
   ·have d4:decide (a<=tt)=true:=by simp;omega
    by_cases k2:tt < b
    ·have d5:decide (tt < b)=true:=by simp;omega
     have HI:=zh (show jZ a b ⟨tt,vv,ss⟩=true by unfold jZ;rw[d4,d5];rfl);clear k1 k2;go_wp2_with (at_builtin;refine lU (base:=w.heap.size) (p:=⟨tt,vv,ss⟩) (l:=lj) rfl (.tmp 26) (.tmp 28) rfl rfl rfl ?hown ?hg ?h63 ?hbase ?_)
     case hown=>exact H9.out.1.below ((Below.refl _ _).alloc (Nat.le_refl _) _)
     case hg=>exact ay.fresh _ _ _
     case h63=>omega
     case hbase=>have:=H9.out.2.size;simp;omega
     intro v10 w10 hr10 hg10 hx10;have a9:=(Below.refl w9.heap.size w9).alloc (Nat.le_refl _) (.cells #[.int .i64 tt,.int .i64 vv,.int .i64 ss] 149);have b10:Below w.heap.size w w10:=BJ (H9.out.2.trans (a9.mono H9.out.2.size)) (H9.out.1.below a9) hg10;have H10:=zh (zN hr10 b10);clear hr10 hg10 hx10 v0 v1 v2 a9 b10;go_wp2_with fail
     go_roundw
     case rel=>exact ⟨j+1,J,by go_num,by rw[HQ.out.2.2.1 HI.out];exact H10.out.1,H10.out.2⟩
     case measure=>simp[intOf]<;>omega
    ·have d5:decide (tt < b)=false:=by simp;omega
     have HI:=zh (show jZ a b ⟨tt,vv,ss⟩=false by unfold jZ;rw[d4,d5];rfl);clear k1 k2;go_wp2_with fail
     go_roundw
     case rel=>exact ⟨j+1,J,by go_num,by rw[HQ.out.2.2.2 HI.out];exact H9.out.1,H9.out.2⟩
     case measure=>simp[intOf]<;>omega
   ·have d4:decide (a<=tt)=false:=by simp;omega
    have HI:=zh (show jZ a b ⟨tt,vv,ss⟩=false by unfold jZ;rw[d4];rfl);clear k1;go_wp2_with fail
    go_roundw
    case rel=>exact ⟨j+1,J,by go_num,by rw[HQ.out.2.2.2 HI.out];exact H9.out.1,H9.out.2⟩
    case measure=>simp[intOf]<;>omega
  ·obtain rfl:j=n:=J
   have HQ:=zh (zN hrow (zN hbel hlj));clear hrow hbel hlj;go_wp2_with fail;go_ret;exact⟨_,rfl,by rw[<-HQ.out.2.2];exact HQ.out.1,HQ.out.2.1⟩
end
section
open Go.RowKit Go.Maps
theorem Kq(f:Nat->Pt)(n j:Nat): (mX f n j).length<=9+10*n:=by
 match j with
 | 0=>show (pack _).length<=_;rw[iA];have:=D.rA (Tc f n) n;omega
 | 1=>show (pack _).length<=_;rw[iA];have:=X.zR (Td f n) n;omega
 | j+2=>show (pack _).length<=_;rw[iA];have:=D.rA (SV f n) n;omega
theorem yO(f:Nat->Pt)(n:Nat)(hn:n<=4096): ∀ j,(tL f n j).length<=10+j*(19+10*n)
 | 0=>by have:=V.aK (u:=n) J;show (V.aF n).length<=_;omega
 | j+1=>by
  have h1:=yO f n hn j;have h2:=Kq f n j;have h4:=Cn f n j hn;have h3:=V.aK (u:=(mX f n j).length) J;show (tL f n j ++ V.aF (mX f n j).length ++ mX f n j).length<=_
  rw[List.length_append,List.length_append];have:(j+1)*(19+10*n)=j*(19+10*n)+(19+10*n):=by rw[Nat.succ_mul]
  omega
theorem Ld(f:Nat->Pt)(n:Nat)(hn:n<=4096): (qy f n).1.length<=80+30*n:=by
 unfold qy;have:=yO f n hn 3
 split
 ·show (F.aZ 3 _).length<=_
  rw[F.bT];omega
 ·show ([]:List Nat).length<=_;simp
theorem G6(f:Nat->Pt)(n:Nat)(hn:n<=4096): ∀ m,(bO f n m).length<=80*m+30*min (1024*m) n
 | 0=>by simp[bO]
 | m+1=>by
  have ih:=G6 f n hn m;have h:=Ld (kH f (1024*m)) (jy n (1024*m)) (by unfold jy;omega);have e:min (1024*m) n+jy n (1024*m)=min (1024*(m+1)) n\/jy n (1024*m)=0:=by unfold jy;omega
  have e2:min (1024*m) n<=min (1024*(m+1)) n:=J;rw[QD,List.length_append];omega
theorem Bb(nm:Nat->ByteArray)(pf:Nat->Nat->Pt)(pn:Nat->Nat)(k:Nat)(hp:∀ j,j < k->pn j<=4096): ∀ i,i<=k->(sO pf pn i).length<=320*i+30*jJ nm pn k i
 | 0,_=>by simp[sO]
 | i+1,hi=>by
  have ih:=Bb nm pf pn k hp i J;have h1:=hp i J;have h2:=G6 (pf i) (pn i) h1 (fq (pn i));have h3:fq (pn i)<=4:=by unfold fq;omega
  have h4:=Q7 (pn i);have h5:jJ nm pn k (i+1)=jJ nm pn k i+pn i+(nm i).size:=rfl;rw[Rm,List.length_append,h5];rw[h4] at h2
  omega
theorem Ba(nm:Nat->ByteArray)(pf:Nat->Nat->Pt)(pn:Nat->Nat)(k:Nat)(hk:k<=250)(hok:∀ j i,eU (pf j i))(hp:∀ j,j < k->pn j<=4096)(hn:∀ j,j < k->(nm j).size<=2500): ∀ i,i<=k->(sF nm pf pn k i).length<=10+k*2510+i*170
 | 0,_=>by
  have:=qH nm k J k hn;show (qG nm k k).length<=_
  omega
 | i+1,hi=>by
  have ih:=Ba nm pf pn k hk hok hp hn i J;have h1:=hp i J;have h2:=DI (pf i) (hok i) (pn i) h1 (fq (pn i));have h3:fq (pn i)<=4:=by unfold fq;omega
  have h5:=V.aK (u:=fq (pn i)) J;rw[Rl,List.length_append,List.length_append];omega
theorem N7{nm:Nat->ByteArray}{pn:Nat->Nat}{pf:Nat->Nat->Pt}{k:Nat}(hok:∀ j i,eU (pf j i))(h:jJ nm pn k k < 2500): (F.aZ 5 (sF nm pf pn k k)).length+(sO pf pn k).length<=1048563:=by
 have hk:k < 250:=by
  have:=wh nm pn k 0 k J;have h3:jJ nm pn k 0=10*k:=rfl;omega
 have hp:∀ j,j < k->pn j<=4096:=fun j hj=>by have:=rC nm pn k j hj;omega
 have hn:∀ j,j < k->(nm j).size<=2500:=fun j hj=>by have:=rC nm pn k j hj;omega
 have h1:=Bb nm pf pn k hp k (Nat.le_refl _);have h2:=Ba nm pf pn k J hok hp hn k (Nat.le_refl _);rw[F.bT];omega
theorem Lc(f:Nat->Pt)(n:Nat): ∀ x ∈ (qy f n).1,x < 256:=by
 unfold qy
 split
 ·exact F.pK J (yN f n 3)
 ·intro x hx;exact absurd hx List.not_mem_nil
theorem G5(f:Nat->Pt)(n:Nat): ∀ m,∀ x ∈ bO f n m,x < 256
 | 0=>fun x hx=>by simp[bO] at hx
 | m+1=>iP (G5 f n m) (Lc _ _)
theorem Io(pf:Nat->Nat->Pt)(pn:Nat->Nat): ∀ i,∀ x ∈ sO pf pn i,x < 256
 | 0=>fun x hx=>by simp[sO] at hx
 | i+1=>iP (Io pf pn i) (G5 _ _ _)
theorem Po{nm:Nat->ByteArray}{pf:Nat->Nat->Pt}{pn:Nat->Nat}{k:Nat}(hs:Small nm pf pn k)(hf:(F.aZ 5 (sF nm pf pn k k)).length+(sO pf pn k).length<=1048563):
  (sB nm pf pn k=([],2))\/((sB nm pf pn k).2=0/\Built nm pf pn k/\mo (sB nm pf pn k).1 (sO pf pn k) nm pf pn k):=by
 unfold sB
 by_cases h:(nH nm k && (decide (0 < k) && sV pf pn k))=true
 ·rw[if_pos h,if_neg J]
  simp only[Bool.and_eq_true,decide_eq_true_eq] at h
  refine .inr ⟨rfl,⟨h.2.1,hs.kb,h.1,h.2.2,hs.pb⟩,⟨rfl,rfl,Io pf pn k,?_⟩⟩;show (sO pf pn k ++ F.aZ 5 (sF nm pf pn k k) ++ F.aZ 6 (four (F.aZ 5 (sF nm pf pn k k)).length)).length<=_
  rw[List.length_append,List.length_append,F.bT 6];show _+(4+9)<=_
  omega
 ·rw[if_neg h]
  exact .inl rfl
theorem Rk{nm:Nat->ByteArray}{pf:Nat->Nat->Pt}{pn:Nat->Nat}{k:Nat}(hs:Small nm pf pn k)(hf:(F.aZ 5 (sF nm pf pn k k)).length+(sO pf pn k).length<=1048563)(hV:(nH nm k && (decide (0 < k) && sV pf pn k))=true):
  (sB nm pf pn k).2=0/\Built nm pf pn k/\mo (sB nm pf pn k).1 (sO pf pn k) nm pf pn k:=by
 rcases Po hs hf with h | h
 ·unfold sB at h
  rw[if_pos hV,if_neg J] at h
  simp at h
 ·exact h
theorem Bf: iK Tryz.prog 110 9 (.string ByteArray.empty) 16:=iK.mk' Tryz.underlying110 rfl Bg
theorem Er(w:World)(t Mt:Nat)(A:Option Addr)(cp:Nat)(L:List Pt)(n most U:Nat)(a b:Int)(h:fE w t Mt A cp L n most U)(hn:n<=1000):
  Calls Tryz.prog 175 #[.pointer (some ⟨t,0,none⟩),.string aY,Z a,Z b] w fun e w'=>∃ v,e=.returned v/\bB w' w.heap.size v (fK (fun j=>L.getD j ⟨0,0,0⟩) a b n)/\Below w.heap.size w w':=by
 have HD:=zh h;clear h
 go_enter Tryz.func175,Tryz.ntmps175
 go_wp2_with fail;refine(pE w t Mt (HD.out.blk.cell 0)).mono ?_;rintro e w1 ⟨rfl,hb1⟩;have h1:=HD.out.call hb1;have u0:=h1.blk.cell 0;have u1:=h1.look;have H1:=zh (zN hb1 h1);clear hb1 h1;go_wp2_with fail;refine(Oq w1 A n cp _ a b (H1.out.2.sl.mono (fun q hq=>hq.1)) J).mono ?_;rintro e w2 ⟨v,rfl,hr,hb2⟩;have H2:=zh (zN hr hb2);clear hr hb2;go_wp2_with fail;go_ret;exact⟨v,rfl,aN H2.out.1 H1.out.1.size,V.aB H1.out.1 H2.out.2⟩
def Sk: Value->Nat
 | .slice _ n _=>n
 | _=>0
theorem sameKey_self(s:ByteArray): (fV s).sameKey (fV s)=true:=WideAt.sameKey_self (sI s)
theorem Gd(w:World)(t Mt:Nat)(A:Option Addr)(cp:Nat)(L:List Pt)(n most U:Nat)(h:fE w t Mt A cp L n most U)(hn:0 < n):
  Calls Tryz.prog 148 #[.pointer (some ⟨t,0,none⟩)] w fun e w'=>∃ A1 c1,e=.returned (.slice A1 1 c1)/\w'.ownsRow w.heap.size 9 1 (.slice A1 1 c1) 1 [.string aY]/\Below w.heap.size w w':=by
 have nf:=rV;have HD:=zh h;clear h
 go_enter Tryz.func148,Tryz.ntmps148
 go_wp2_with fail;refine(pE w t Mt (HD.out.blk.cell 0)).mono ?_;rintro e w1 ⟨rfl,hb1⟩;have h1:=HD.out.call hb1;have u0:=h1.blk.cell 0;obtain⟨s,N,D,hown,hN,hF,hso,-,hsa⟩:=h1.map;have H1:=zh (zN hb1 (zN hF (zN hso (hsa hn))));clear hb1 h1 hF hso hsa;go_wp2_with (at_range;refine wpList_range_own _ rfl _ 115 rfl 9 186 law Tryz.underlying115 _ Mt N _ rfl hown ?_;intro w3 hrg0 hg0 hs0)
 try go_frame
 obtain⟨r,hr⟩:∃ r,r=w1.heap.size:=⟨_,rfl⟩
 rw[<-hr] at hrg0 ⊢
 have hl3:Below w.heap.size w w3:=H1.out.1.grown hg0 H1.out.1.size (fun k hk=>by cases hk);have hMt:Mt < w1.heap.size:=World.ownsMap.lt hown;have hrw:w.heap.size<=r:=by rw[hr];exact H1.out.1.size
 have HR:=zh (zN hrg0 (zN hl3 (zN hrw (show Mt≠r from by omega))));clear hrg0 hl3 hr hg0 hs0 hown u0 nf hMt hrw;have hkey:∀ (x:ByteArray) (z:DataW Value),(∀ zd,D.atKey (fV x) zd=z)->x=aY:=fun x z hat=>by
  have h1:=has_true_of_atKey hat;rw[H1.out.2.1.has] at h1
  rcases Classical.em (x=aY) with h | h
  ·exact h
  ·rw[H1.out.2.2.1 x h] at h1
   cases h1
 have HK:=zh hkey;clear hkey
 go_loopw [3] (fun out wr=>(out=.slice none 0 0/\∃ cnt,wr.ranges Tryz.prog 9 eO Mt r N D (Maps.has D) cnt/\Below w.heap.size w wr)\/(∃ A1 c1 cnt,out=.slice A1 1 c1/\wr.ownsRow w.heap.size 9 1 (.slice A1 1 c1) 1 [.string aY]/\wr.ranges Tryz.prog 9 eO Mt r N D (fun z=>Maps.has D z && !z.sameKey (fV aY)) cnt/\Below w.heap.size w wr))
  (fun out _=>1-Sk out)
 case atStart=>exact .inl ⟨rfl,_,HR.out.1,HR.out.2.1⟩
 case round=>
  rcases hrel with ⟨rfl,cnt,hrg,hbel⟩ | ⟨A1,c1,cnt,rfl,hrow,hrg,hbel⟩
  ·go_wp2_with (at_next;refine wpList_next_ranges _ rfl _ rfl 9 law eO Value.string (fun v=>v) (fun key kl h=>(lX h).imp fun _ h=>h.1) (fun v y h=>⟨v,rfl⟩) Mt r N _ _ _ rfl hrg ?_ ?_)
   ·intro hc0 hl0
    exfalso
    have h1:=hl0 (fV aY);rw[H1.out.2.1.has,H1.out.2.2.2] at h1
    cases h1
   ·intro x v kl y1 y2 w4 cnt1 hkx hlx hvy hat hrg1 hlt hg1 hs1 hen
    obtain⟨s',e1,rfl⟩:=lX hkx;injection e1 with e1
    subst e1;obtain rfl:=HK.out x _ hat;have hl4:Below w.heap.size w w4:=hbel.grown hg1 hbel.size (fun k hk=>by injection hk with hk;rw[<-hk];exact HR.out.2.2.1);have H4:=zh (zN hrg1 hl4);clear hrg1 hl4 hrg hbel hkx hlx hvy hat hlt hg1 hs1;go_wp2_with (at_builtin;refine bW (f:=fun _=>.string aY) (D:=fun q=>q=w4.heap.size) (base:=w.heap.size) (n:=0) (xs:=[]) Bf rfl (.tmp 17) (.tmp 19) rfl rfl rfl ?hown ?hsl ?h1 ?h63 ?hby ?hbase ?_)
    case hown=>exact World.ownsRow_nil _ _ _ _
    case hsl=>exact oF w4 _ _
    case h1=>intro j _;rfl
    case h63=>unfold maxLen;omega
    case hby=>omega
    case hbase=>have:=H4.out.2.size;simp;omega
    intro v5 w5 ho5 hg5 hx5;obtain⟨A5,c5,hv5,hc5,-⟩:=aH ho5;subst hv5;have hb5:Below w.heap.size w w5:=(H4.out.2.alloc H4.out.2.size _).grown hg5 (Nat.le_trans H4.out.2.size (by simp)) (fun k hk=>by simp[Value.ownBlock] at hk);have hr5:w5.ranges Tryz.prog 9 eO Mt r N D (fun z=>Maps.has D z && !z.sameKey (fV aY)) cnt1:=(H4.out.1.alloc _).kept hg5 (by simp[Value.ownBlock]) (by simp[Value.ownBlock]);have H5:=zh (zN ho5 (zN hr5 hb5));clear ho5 hg5 hx5 hb5 hr5 hen;go_wp2_with fail
    go_roundw
    case rel=>exact .inr ⟨A5,c5,cnt1,rfl,H5.out.1,H5.out.2.1,H5.out.2.2⟩
    case measure=>simp[Sk]
  ·go_wp2_with (at_next;refine wpList_next_ranges _ rfl _ rfl 9 law eO Value.string (fun v=>v) (fun key kl h=>(lX h).imp fun _ h=>h.1) (fun v y h=>⟨v,rfl⟩) Mt r N _ _ _ rfl hrg ?_ ?_)
   ·intro hc0 hl0
    have H4:=zh (zN hrow hbel);clear hrow hbel hrg hl0 hc0;go_wp2_with fail;refine(pW wr 1 c1 A1 J).mono ?_;rintro e w5 ⟨rfl,hb5⟩;have H5:=zh (zN (V.cO H4.out.1 hb5) (V.aB H4.out.2 hb5));clear hb5;go_wp2_with fail;go_ret;exact⟨A1,c1,rfl,H5.out.1,H5.out.2⟩
   ·intro x v kl y1 y2 w4 cnt1 hkx hlx hlx2 hvy hat hrg1 hlt hg1 hs1 hen
    exfalso
    obtain⟨s',e1,rfl⟩:=lX hkx;injection e1 with e1
    subst e1;obtain rfl:=HK.out x _ hat;rw[sameKey_self] at hlx2
    simp at hlx2
def TF(pl:Nat->List Pt): Nat->List Value
 | 0=>[]
 | k+1=>TF pl k ++ [.string (aW 115 k),Z (R5 (pl k)),Z (Sq (pl k)),Z ((pl k).length:Nat)]
theorem iE(g j:Nat): (⟨g,0,none⟩:Addr).add j=⟨g,j,none⟩:=by unfold Addr.add;split<;>simp_all
theorem wpList_append_run{P:Program}{t:TypeId}{w w':World}{v u v':Value}{ops:Array Oper}{rest:List Oper}{o:Oper}{a:Act}{Q:Exit->Act->World->Prop}(hg:o.guard=none)(s x:Operand)(ho:o.op=.call { callee:=.builtin .append,args:=#[s,x],argTypes:=#[t,t] })(hs:a.eval s=v)(hx:a.eval x=u)(hrun:(Builtin.append_ #[t,t] o.type #[v,u]).run P w=.ok v' w')(h:wpList P ops Q rest (a.put o.dst v') w'): wpList P ops Q (o :: rest) a w:=by
 refine wpList_plain hg fun K hK=>?_
 unfold Oper.wp execOp;simp only[ho,resolve,invoke,builtin,Sem.run_bind,Sem.run_pure,Result.andThen_ok,List.map_toArray,List.map_cons,List.map_nil,hs,hx,hrun];exact hK _ _ h
theorem Ou(w:World): (binOp .eql 89 (.slice none 0 0) (.slice none 0 0)).run Tryz.prog w=.ok (.bool true) w:=by kernel_rfl
theorem OD(w:World): (binOp .eql 90 (.slice none 0 0) (.slice none 0 0)).run Tryz.prog w=.ok (.bool true) w:=by kernel_rfl
theorem Gs(a:Addr)(w:World): (binOp .eql 75 (.pointer (some a)) (.pointer none)).run Tryz.prog w=.ok (.bool false) w:=by kernel_rfl
theorem jU(w:World)(s d:Nat)(hc:w.cell? ⟨s,0,none⟩=some (.pointer (some ⟨d,0,none⟩))): Calls Tryz.prog 63 #[.pointer (some ⟨s,0,none⟩)] w fun e w'=>e=.returned (.bool false)/\Below w.heap.size w w':=by
 have q2:=fun y=>Gs ⟨y,0,none⟩
 have q3:=fun y=>BS ⟨y,0,none⟩
 go_enter Tryz.func63,Tryz.ntmps63
 go_wp2_with fail;go_ret;exact⟨rfl,Below.refl _ _⟩
def TQ(d N R q:Nat)(s:Bool)(la lg:Int)(A:Option Addr)(K cp:Nat): Array Value:=#[.pointer (some ⟨d,0,none⟩),Z (N:Nat),Z (R:Nat),Z (q:Nat),.bool s,Z la,Z lg,.slice A K cp,.slice none 0 0]
structure uQ(w:World)(st d N R q:Nat)(s:Bool)(la lg:Int)(A:Option Addr)(K cp:Nat)(pl:Nat->List Pt): Prop where
 blk:ay w st 128 (TQ d N R q s la lg A K cp)
 row:w.ownsRow 0 164 4 (.slice A K cp) K (TF pl K)
 nil:K=0->A=none/\cp=0
def jq(st:Nat)(A:Option Addr)(q:Nat): Prop:=q=st\/A.map (·.block)=some q
theorem uQ.keep{S:Nat->Prop}{w w':World}{st d N R q:Nat}{s:Bool}{la lg:Int}{A:Option Addr}{K cp:Nat}{pl:Nat->List Pt}(h:uQ w st d N R q s la lg A K cp pl)(hk:Keeps S w w')(hS:∀ q,jq st A q->¬ S q): uQ w' st d N R q s la lg A K cp pl:=
 ⟨h.blk.keeps hk (hS _ (.inl rfl)),aG h.row hk (fun g hg=>hS g (.inr (by rw[<-jo A K cp];exact hg))),h.nil⟩
theorem uQ.call{w w':World}{st d N R q:Nat}{s:Bool}{la lg:Int}{A:Option Addr}{K cp:Nat}{pl:Nat->List Pt}(h:uQ w st d N R q s la lg A K cp pl)(hb:Below w.heap.size w w'): uQ w' st d N R q s la lg A K cp pl:=
 h.keep (S:=fun _=>False) (Keeps.of_below hb) (fun _ _ h=>h)
theorem jc{g:Nat}{t:TypeId}: ∀ (vs:List Value) (k:Nat) (w:World) (cs:Array Value),ay w g t cs->ay (setFrom w g k vs) g t (fI cs k vs)
 | [],_,_,_,h=>h
 | v :: vs,k,_,_,h=>jc vs (k+1) _ _ (h.set k v)
theorem fO{g:Nat}: ∀ (vs:List Value) (k:Nat) (w:World),Keeps (fun q=>q=g) w (setFrom w g k vs)
 | [],_,w=>Keeps.refl _ w
 | v :: vs,k,w=>((Keeps.refl (fun q=>q=g) w).setCell (p:=⟨g,k,none⟩) (fun _=>rfl) v).trans' (fO vs (k+1) _)
def KW(w:World)(d M:Nat)(p:ByteArray->Option FS)(room T G:Nat)(name:ByteArray)(bs:List Nat)(e:Ending)(w':World): Prop:=
 e=.returned (Z 0)/\∃ p',bD w' d M p' room (T+bs.length) (G+2)/\DStep w w' d M p p'/\fb p'=aV (fb p) name bs
theorem pq{S:Nat->Prop}{w w':World}{b o:Nat}{v:Value}(h:w.cell? ⟨b,o,none⟩=some v)(hk:Keeps S w w')(hS:¬ S b): w'.cell? ⟨b,o,none⟩=some v:=
 (World.cell?_of_block (w:=w) (a:=⟨b,o,none⟩) (hk.block b (World.block_lt_of_cell? w _ h) hS)).trans h
theorem Gt(w:World)(st d M:Nat)(p:ByteArray->Option FS)(room T G:Nat)(name:ByteArray)(A:Option Addr)(n c:Nat)(bs:List Nat)(hst:w.cell? ⟨st,0,none⟩=some (.pointer (some ⟨d,0,none⟩)))(hsf:¬ aM d M p st)(h:bD w d M p room T G)(hf:fb p name=none)(hlen:bs.length=n)(hsl:Sl w (fun q=>q < w.heap.size/\¬ aM d M p q) A n (aI bs))(hT:T+n<=1048576)(hr1:1048576<=room)(hr:room<=1073741824)(hG:G+1 < 512)(hs1:1<=name.size)(hs:name.size<=64):
  Calls Tryz.prog 156 #[.pointer (some ⟨st,0,none⟩),.string name,.slice A n c] w (KW w d M p room T G name bs):=by
 have HD:=zh (zN hst (zN hsf (zN h (zN hf (zN hlen hsl)))));clear hsf h hf hlen hsl
 go_enter Tryz.func156,Tryz.ntmps156
 go_wp2_with fail;clear hst;refine(jA w d M name p room T G HD.out.2.2.1 HD.out.2.2.2.1 hs).mono ?_;rintro e w1 ⟨rfl,hb1⟩;have hst:w1.cell? ⟨st,0,none⟩=some (.pointer (some ⟨d,0,none⟩)):=fH hb1 HD.out.1;have H1:=zh hb1;clear hb1;go_wp2_with fail;clear hst;refine(oh w1 d M n c A name bs p room T G (HD.out.2.2.1.call H1.out) HD.out.2.2.2.2.1 (fun hn=>by
  obtain⟨b,off,hA,hd,hc⟩:=(HD.out.2.2.2.2.2.below H1.out (fun k hk _=>hk.1)) hn;exact⟨b,off,hA,⟨Nat.lt_of_lt_of_le hd.1 H1.out.size,hd.2⟩,hc⟩) hT hr1 hr J hs1 hs).mono ?_
 rintro e w2 ⟨rfl,p2,hd2,hs2,hf2⟩;have hst:w2.cell? ⟨st,0,none⟩=some (.pointer (some ⟨d,0,none⟩)):=pq (fH H1.out HD.out.1) hs2.keep HD.out.2.1;rw[HD.out.2.2.2.1] at hf2
 have H2:=zh (zN hd2 (zN ((DStep.of_below H1.out).trans hs2) hf2));clear hd2 hs2 hf2;go_wp2_with fail;clear hst;have hfn:fb p2 name=some bs:=by rw[H2.out.2.2];exact iB _ _ _
 refine(Au w2 d M name bs p2 room (T+n) (G+1) H2.out.1 hfn J J hs1 hs).mono ?_;clear hfn;rintro e w3 ⟨rfl,p3,hd3,hs3,hf3⟩;have H3:=zh (zN hd3 (zN (H2.out.2.1.trans hs3) (hf3.trans H2.out.2.2)));clear hd3 hs3 hf3;go_wp2_with fail;go_ret;exact⟨rfl,p3,by rw[HD.out.2.2.2.2.1];exact H3.out.1,H3.out.2.1,H3.out.2.2⟩
def IJ(st x d:Nat)(cs:Array Value)(wx:World): Prop:=wx.cell? ⟨st,0,none⟩=some (.pointer (some ⟨d,0,none⟩))/\ay wx x 92 cs
end
section
open Go.RowKit Go.Maps Go.MapKept Go.ChangeMaps
end
section
open Go.RowKit
theorem Kv(hs:∀ w:World,(sizeOf 149).run Tryz.prog w=.ok 3 w)(A:Option Addr)(n c:Nat)(hlc:n+1<=c):
  ∃ A',(∀ w:World,(Instr.slice 186 (.slice A (n+1) c) (some (Z 1)) none none).run Tryz.prog w=.ok (.slice A' n (c-1)) w)/\
   (∀ (w:World) (D:Nat->Prop) (f:Nat->Pt),dN w D A (n+1) f->dN w D A' n (fun j=>f (j+1))):=by
 have ht:Tryz.prog.underlying 186=some (.slice 149):=Tryz.underlying186;have he:Tryz.prog.elem 186=149:=by simp[Program.elem,ht]
 have ht':Tryz.prog.underlying 186=some (.slice (Tryz.prog.elem 186)):=by rw[he];exact ht
 refine⟨if c=1 then A else A.map (·.add (1*3)),fun w=>?_,fun w D f h=>?_⟩
 ·have e:=run_slice_l w _ A (n+1) c ht' .i64 ((1:Nat):Int) J J
  rw[he,hs] at e
  refine(show (Instr.slice 186 (.slice A (n+1) c) (some (Z 1)) none none).run Tryz.prog w=_ from e).trans ?_;simp[Result.andThen,sliced]
 ·intro hlt
  rw[if_neg J];obtain⟨b,off,rfl,-,-⟩:=h J;have:=Py h hlt;rw[show (some (⟨b,off,none⟩:Addr)).map (·.add (1*3))=some ⟨b,off+3,none⟩ by simp[Addr.add]];exact this
theorem S9(w:World): (sizeOf 149).run Tryz.prog w=.ok 3 w:=by kernel_rfl
def EL: Value->Nat
 | .slice _ n _=>n
 | _=>0
theorem aL.congr{w:World}{B h:Nat}{A:Option Addr}{cp:Nat}{it it':Nat->Value}{f:Nat->Nat}{n:Nat}(hh:aL w B h A cp it f n)(he:∀ j,j < n->it (f j)=it' (f j)): aL w B h A cp it' f n:=
 ⟨hh.blk,by rw[<-uw (it:=it) (it':=it') (f:=f) n (fun j hj=>⟨rfl,he j hj⟩)];exact hh.row,hh.hB⟩
def iw(w:World)(l:List Pt)(e:Ending)(w':World): Prop:=∃ A c,e=.returned (.tuple #[.slice A l.length c,Z 0])/\bB w' w.heap.size (.slice A l.length c) l/\Below w.heap.size w w'
structure sw(w:World)(At:Nat->Option Addr)(ct:Nat->Nat)(r:Nat->List Pt)(K:Nat): Prop where
 sl:∀ x,x < K->dN w (fun q=>q < w.heap.size) (At x) (r x).length (qB r x)
 cap:∀ x,x < K->(r x).length<=ct x/\ct x<=9223372036854775807
theorem HB.Og{B:Nat}{w w1 w2:World}{row:Option Nat}(h:HB B w w1)(hg:w1.grownBy w2 row)(hr:∀ q,row=some q->w.heap.size<=q): HB B w w2:=
 ⟨h.av.grown hg (Nat.le_trans h.hB h.size) (fun q e=>Nat.le_trans h.hB (hr q e)),h.hk.grown hg (fun k e hk=>absurd (hr k e) J),h.hB⟩
structure nu(B h:Nat)(A:Option Addr)(cp:Nat)(it:Nat->Value)(f:Nat->Nat)(n gc:Nat)(v:Value)(x:Nat)(out:Value)(lo:List Pt)(w wx:World): Prop where
 hp:aL wx B h A cp it f n
 bc:ay wx gc 387 #[v,Z (x:Nat)]
 ro:bB wx B out lo
 hb:HB B w wx
theorem nu.call{B h:Nat}{A:Option Addr}{cp:Nat}{it:Nat->Value}{f:Nat->Nat}{n gc:Nat}{v:Value}{x:Nat}{out:Value}{lo:List Pt}{w wx wy:World}(m:nu B h A cp it f n gc v x out lo w wx)(hb:Below wx.heap.size wx wy): nu B h A cp it f n gc v x out lo w wy:=
 ⟨m.hp.call hb,m.bc.below hb m.bc.lt,m.ro.below hb,m.hb.call hb⟩
theorem nu.drew{B h:Nat}{A:Option Addr}{cp:Nat}{it:Nat->Value}{f:Nat->Nat}{n gc:Nat}{v:Value}{x:Nat}{out:Value}{lo:List Pt}{w wx:World}(m:nu B h A cp it f n gc v x out lo w wx): nu B h A cp it f n gc v x out lo w wx.drew:=m.call (Below.refl _ _).drew
theorem nu.grown{B h:Nat}{A:Option Addr}{cp:Nat}{it:Nat->Value}{f:Nat->Nat}{n gc:Nat}{v:Value}{x:Nat}{out out':Value}{lo lo':List Pt}{w wx wy:World}(m:nu B h A cp it f n gc v x out lo w wx)(hB:B=w.heap.size)(hr:bB wy B out' lo')(hg:wx.grownBy wy out.ownBlock): nu B h A cp it f n gc v x out' lo' w wy:=by
 have hk:Keeps (fun q=>out.ownBlock=some q) wx wy:=(Keeps.refl _ _).grown hg (fun k e _=>e);have hty:∀ q,out.ownBlock=some q->jD wx q=some 149:=fun q hq=>fG m.ro hq
 refine⟨⟨m.hp.blk.keeps hk (fun e=>?_),aG m.hp.row hk (fun g hg' e=>?_),m.hp.hB⟩,m.bc.keeps hk (fun e=>?_),hr,m.hb.Og hg (fun q hq=>by rw[<-hB];exact (m.ro.fB q hq).1)⟩
 ·have:=hty _ e;rw[bZ m.hp.blk] at this;exact absurd this (by decide)
 ·have:=hty _ e;rw[fG m.hp.row hg'] at this;exact absurd this (by decide)
 ·have:=hty _ e;rw[bZ m.bc] at this;exact absurd this (by decide)
theorem nu.set{B h:Nat}{A:Option Addr}{cp:Nat}{it:Nat->Value}{f:Nat->Nat}{n gc:Nat}{v:Value}{x:Nat}{out:Value}{lo:List Pt}{w wx wy:World}(m:nu B h A cp it f n gc v x out lo w wx)(v':Value)(hw:wy=wx.setCell ⟨gc,0,none⟩ v')(hne:∀ g,(Value.slice A n cp).ownBlock=some g->g≠gc)(hgB:B<=gc): nu B h A cp it f n gc v' x out lo w wy:=by
 have hk:Keeps (fun q=>q=gc) wx wy:=by rw[hw];exact (Keeps.refl (fun q=>q=gc) wx).setCell (fun _=>rfl) _
 refine⟨⟨m.hp.blk.keeps hk (fun e=>?_),aG m.hp.row hk (fun g hg' e=>hne g hg' e),m.hp.hB⟩,?_,m.ro.keeps hk (fun g hg e=>?_),m.hb.keeps hk (.inl (bZ m.bc)) hgB⟩
 ·have h1:=bZ m.hp.blk
  rw[e,bZ m.bc] at h1
  exact absurd h1 (by decide)
 ·have:=m.bc.set 0 v'
  rw[<-hw] at this
  exact this
 ·have h1:=fG m.ro hg
  rw[e,bZ m.bc] at h1
  exact absurd h1 (by decide)
theorem sw.upd{w:World}{At:Nat->Option Addr}{ct:Nat->Nat}{r:Nat->List Pt}{K x c1:Nat}{p:Pt}{t:List Pt}{A1:Option Addr}(h:sw w At ct r K)(hrx:r x=p :: t)(hsl:dN w (fun q=>q < w.heap.size) A1 t.length (fun j=>qB r x (j+1)))(hc:t.length<=c1/\c1<=9223372036854775807):
  sw w (fun y=>if y=x then A1 else At y) (fun y=>if y=x then c1 else ct y) (gP r x t) K:=by
 refine⟨fun y hy=>?_,fun y hy=>?_⟩
 ·by_cases e:y=x
  ·subst e
   have e1:gP r y t y=t:=by unfold gP;rw[if_pos rfl]
   rw[if_pos rfl,e1];exact hsl.congr (fun j hj=>by unfold qB;rw[e1,hrx];rfl)
  ·have e1:gP r x t y=r y:=by unfold gP;rw[if_neg e]
   rw[if_neg e,e1];exact(h.sl y hy).congr (fun j hj=>by unfold qB;rw[e1])
 ·by_cases e:y=x
  ·subst e
   have e1:gP r y t y=t:=by unfold gP;rw[if_pos rfl]
   rw[if_pos rfl,e1];exact hc
  ·have e1:gP r x t y=r y:=by unfold gP;rw[if_neg e]
   rw[if_neg e,e1];exact h.cap y hy
theorem yZ(w:World)(A:Option Addr)(K c:Nat)(At:Nat->Option Addr)(ct:Nat->Nat)(pl:Nat->List Pt)(hsl:Sl w (fun q=>q < w.heap.size) A K (fM At ct pl))(hok:sw w At ct pl K)(hinc:Inc (cK pl K))(hK:K < 1000)(hlen:(cK pl K).length<=100000):
  Calls Tryz.prog 174 #[.slice A K c] w (iw w (cK pl K)):=by
 obtain⟨h,hh⟩:∃ h,h=w.heap.size:=⟨_,rfl⟩
 have nt:=bJ;have a1:Below w.heap.size w (w.alloc (.cells #[.slice none 0 0,.func (.func 254) #[] #[]] 384)):=(Below.refl _ _).alloc (Nat.le_refl _) _;have h1:aL (w.alloc (.cells #[.slice none 0 0,.func (.func 254) #[] #[]] 384)) w.heap.size h none 0 (fM At ct pl) (fun _=>0) 0:=⟨by rw[hh];exact ay.fresh _ _ _,⟨rfl,.inl ⟨rfl,rfl⟩⟩,J⟩
 have hB1:HB w.heap.size w (w.alloc (.cells #[.slice none 0 0,.func (.func 254) #[] #[]] 384)):=HB.zy a1 (Nat.le_refl _);have HD:=zh (zN hsl (zN hok (zN hinc (zN h1 (zN hB1 hh)))));clear hsl hok hinc h1 a1 hB1
 go_enter Tryz.func174,Tryz.ntmps174
 go_wp2_with fail;rw[<-hh];clear hh;refine aC (fun wx=>aL wx w.heap.size h none 0 (fM At ct pl) (fun _=>0) 0/\HB w.heap.size w wx) ⟨HD.out.2.2.2.1,HD.out.2.2.2.2.1⟩ ?_;rintro w1 ⟨g1,b1⟩
 go_loopw [14] (fun i wr=>∃ (k n:Nat) (f:Nat->Nat) (A':Option Addr) (cp:Nat),(k<=K/\n<=k)/\i=.int .i64 (k:Nat)/\aL wr w.heap.size h A' cp (fM At ct pl) f n/\jl f n/\Holds f n (eX pl k)/\HB w.heap.size w wr) (fun i _=>K-(intOf i).toNat)
 case atStart=>exact ⟨0,0,_,none,0,⟨Nat.zero_le _,Nat.le_refl _⟩,rfl,g1,fun j h0 hj=>J,⟨fun i j hi=>J,fun j hj=>J,fun x hx=>absurd hx.1 J⟩,b1⟩
 case round=>
  obtain⟨k,n,f,A',cp,⟨hk,hnk⟩,rfl,hh,hp,hs,hb⟩:=hrel;clear g1 b1
  by_cases hlt:k < K
  ·have hki:(k:Int) < (K:Int):=J
   obtain⟨bb,off,rfl,-,hc⟩:=(V.eY HD.out.1 hb.av) J;have c0:wr.cell? ⟨bb,off+k,none⟩=some (.slice (At k) (pl k).length (ct k)):=hc k hlt;have hsk:=(HD.out.2.1.sl k hlt)
   obtain⟨ak,hak⟩:∃ a,a=At k:=⟨_,rfl⟩
   obtain⟨nk,hnk2⟩:∃ a,a=(pl k).length:=⟨_,rfl⟩
   obtain⟨ck,hck⟩:∃ a,a=ct k:=⟨_,rfl⟩
   rw[<-hak,<-hnk2,<-hck] at c0
   rw[<-hak,<-hnk2] at hsk
   have hnkb:nk<=100000:=by have:=xX (r:=pl) K k hlt;omega
   have hrise:∀ j,j+1 < nk->(qB pl k j).t < (qB pl k (j+1)).t:=fun j hj=>(DT K HD.out.2.2.1 k hlt).rises j J
   have HL:=zh (zN hh (zN hp (zN hs (zN hb (zN hsk (zN hrise (zN hak (zN hnk2 hck))))))));clear hh hp hs hb hc hsk hrise hak hnk2 hck;go_wp2_with fail;clear c0;refine(wX wr ak nk ck (qB pl k) ((HL.out.2.2.2.2.1.below HL.out.2.2.2.1.av).mono (fun q hq=>Nat.lt_of_lt_of_le hq HL.out.2.2.2.1.size)) J HL.out.2.2.2.2.2.1).mono ?_;rintro e w2 ⟨rfl,hb2⟩;have H2:=zh (zN (HL.out.1.call hb2) (HL.out.2.2.2.1.call hb2));clear hb2
   by_cases h0:0 < nk
   ·have d1:decide ((0:Int) < (nk:Int))=true:=by simp;omega
    have d2:decide (0 < nk)=true:=by simp;omega
    have hcall:=uY w w2 w.heap.size h A' cp (fM At ct pl) (qB pl) f n (eX pl k) k H2.out.2.av (Nat.le_refl _) H2.out.1 HL.out.2.1 HL.out.2.2.1 (fun hx=>by have:=hx.1;omega)
     ((Je HD.out.2.1.sl HD.out.2.2.1).mono (fun y hy=>by
      rcases hy with hy | rfl
      ·exact ⟨by have:=hy.1;omega,hy.2⟩
      ·exact ⟨hlt,by have:=HL.out.2.2.2.2.2.2.2.1;omega⟩)) J
    rw[show fM At ct pl k=.slice ak nk ck by unfold fM;rw[HL.out.2.2.2.2.2.2.1,HL.out.2.2.2.2.2.2.2.1,HL.out.2.2.2.2.2.2.2.2]] at hcall
    have HC:=zh hcall;clear hcall;go_wp2_with fail;refine HC.out.mono ?_;rintro e w3 ⟨rfl,A3,cp3,f3,h3,p3,s3,b3⟩;have H3:=zh (zN h3 (zN p3 (zN s3 (H2.out.2.trans b3))));clear h3 p3 s3 b3 d1 d2;go_wp2_with fail
    go_roundw
    case rel=>exact ⟨k+1,n+1,f3,A3,cp3,⟨J,J⟩,by go_num,H3.out.1,H3.out.2.1,by rw[<-J8 (by have:=HL.out.2.2.2.2.2.2.2.1;omega)];exact H3.out.2.2.1,H3.out.2.2.2⟩
    case measure=>simp[intOf]<;>omega
   ·have d1:decide ((0:Int) < (nk:Int))=false:=by simp;omega
    have d2:decide (0 < nk)=false:=by simp;omega
    have hsk:=J9 (r:=pl) (i:=k) (by have:=HL.out.2.2.2.2.2.2.2.1;omega);have HSk:=zh hsk;clear hsk;go_wp2_with fail
    go_roundw
    case rel=>exact ⟨k+1,n,f,A',cp,⟨J,J⟩,by go_num,H2.out.1,HL.out.2.1,by rw[<-HSk.out];exact HL.out.2.2.1,H2.out.2⟩
    case measure=>simp[intOf]<;>omega
  ·obtain rfl:k=K:=J
   have HL:=zh (zN hh (zN hp (zN hs hb)));clear hh hp hs hb;go_wp2_with fail;refine aC (fun wx=>aL wx w.heap.size h A' cp (fM At ct pl) f n/\HB w.heap.size w wx) ⟨HL.out.1,HL.out.2.2.2⟩ ?_;rintro w1 ⟨g1,b1⟩
   go_loopw [7] (fun out wr=>∃ (n:Nat) (f:Nat->Nat) (A':Option Addr) (cp:Nat) (At:Nat->Option Addr) (ct:Nat->Nat) (r:Nat->List Pt) (Ao:Option Addr) (co:Nat) (lo:List Pt),n<=k/\out=.slice Ao lo.length co/\bB wr w.heap.size out lo/\lo ++ cK r k=cK pl k/\sw w At ct r k/\aL wr w.heap.size h A' cp (fM At ct r) f n/\jl f n/\Holds f n (eX r k)/\HB w.heap.size w wr) (fun out _=>(cK pl k).length-EL out)
   case atStart=>exact ⟨n,f,A',cp,At,ct,pl,none,0,[],hnk,rfl,bB.nil _ _,rfl,HD.out.2.1,g1,HL.out.2.1,HL.out.2.2.1,b1⟩
   case round=>
    clear g1 b1 HL;clear hnk A' cp f n;obtain⟨n,f,A',cp,At',ct',r,Ao,co,lo,hnk,rfl,hro,hcat,hok,hh,hp,hs,hb⟩:=hrel;have hll:lo.length+(cK r k).length=(cK pl k).length:=by rw[<-hcat,List.length_append]
    have hinc:Inc (lo ++ cK r k):=by rw[hcat];exact HD.out.2.2.1
    cases n with
    | zero=>
     have hnil:cK r k=[]:=tK k (fun y hy=>by
      cases hr:r y with
      | nil=>rfl
      | cons p t=>
       obtain⟨j,hj,-⟩:=hs.all y ⟨hy,by rw[hr];simp⟩;omega)
     have hlo:lo=cK pl k:=by rw[<-hcat,hnil,List.append_nil]
     have u0:=hh.blk.cell 0;have HE:=zh (zN hro (zN hb hlo));clear hro hcat hok hh hp hs hb hinc hnil hlo;go_wp2_with fail;go_ret2;refine⟨Ao,co,?_,?_,HE.out.2.1.av⟩
     ·rw[HE.out.2.2];rfl
     ·rw[<-HE.out.2.2];exact HE.out.1
    | succ n=>
     obtain⟨x,hx⟩:∃ x,x=f 0:=⟨_,rfl⟩
     have hxS:=hs.mem 0 J;rw[<-hx] at hxS
     obtain⟨p,t,hrx⟩:∃ p t,r x=p :: t:=by
      cases hr:r x with
      | nil=>have:=hxS.2;rw[hr] at this;simp at this
      | cons p t=>exact ⟨p,t,rfl⟩
     have h0:∀ y,y < x->r y=[]:=fun y hy=>by
      cases hr:r y with
      | nil=>rfl
      | cons p t=>
       obtain⟨j,hj,hjy⟩:=hs.all y ⟨by have:=hxS.1;omega,by rw[hr];simp⟩;have:=hp.root j hj;omega
     have hcx:=BA hrx h0 k hxS.1;have hsx:=hok.sl x hxS.1;have hcx2:=hok.cap x hxS.1;have hcall:=OC w wr w.heap.size h A' cp (fM At' ct' r) (qB r) f n (eX r k) hb.av (Nat.le_refl _) hh hp hs (Je hok.sl hinc.parts.2.1) J;rw[<-hx] at hcall
     obtain⟨ax,hax⟩:∃ a,a=At' x:=⟨_,rfl⟩
     obtain⟨cx,hcx3⟩:∃ a,a=ct' x:=⟨_,rfl⟩
     have hix:fM At' ct' r x=.slice ax (t.length+1) cx:=by unfold fM;rw[hrx,<-hax,<-hcx3];rfl
     have hpp:qB r x 0=p:=by unfold qB;rw[hrx];rfl
     rw[<-hax,hrx] at hsx
     rw[hrx,<-hcx3] at hcx2
     obtain⟨bx,ox,rfl,hbx,hcc⟩:=id hsx (by simp);obtain⟨A1,hA1,hA2⟩:=Kv S9 (some ⟨bx,ox,none⟩) t.length cx hcx2.1;have hu0:=hh.blk.cell 0;obtain⟨tn,htn⟩:∃ a,a=t.length:=⟨_,rfl⟩
     rw[<-htn] at hix hA1 hA2
     have htb:tn+1<=100000:=by
      have:=xX (r:=r) k x hxS.1;rw[hrx] at this
      simp at this
      omega
     have HQ:=zh (zN hro (zN hcat (zN hok (zN hinc (zN hx (zN hxS (zN hrx (zN h0 (zN hcx (zN hsx (zN hcx2 (zN hcall (zN hax (zN hcx3 (zN hix (zN hpp (zN hbx (zN hA2 (zN htn hb)))))))))))))))))));clear hro hcat hok hinc hx hxS hrx h0 hcx hsx hcx2 hcall hax hcx3 hix hpp hbx hcc hA2 htn hb hh hp hs;go_wp2_with fail;clear hu0;refine HQ.out.2.2.2.2.2.2.2.2.2.2.2.1.mono ?_;rintro e w2 ⟨rfl,A2,f2,h2,p2,s2,b2⟩;rw[HQ.out.2.2.2.2.2.2.2.2.2.2.2.2.2.2.1];have HS2:=zh (zN h2 (zN p2 (zN s2 b2)));clear h2 p2 s2 b2;go_wp2_with fail;obtain⟨gc,hgc⟩:∃ gc,gc=w2.heap.size:=⟨_,rfl⟩
     rw[<-hgc];have al:Below w2.heap.size w2 (w2.alloc (.cells #[.slice (some ⟨bx,ox,none⟩) (tn+1) cx,.int .i64 (x:Nat)] 387)):=(Below.refl _ _).alloc (Nat.le_refl _) _;have hro2:bB w2 w.heap.size (.slice Ao lo.length co) lo:=(HQ.out.1).keeps HS2.out.2.2.2.hk (fun g hg ht=>by
      have:=fG HQ.out.1 hg;rcases ht with ht | ht<;>rw[this] at ht<;>exact absurd ht (by decide))
     refine aC (fun wx=>nu w.heap.size h A2 cp (fM At' ct' r) f2 n gc (.slice (some ⟨bx,ox,none⟩) (tn+1) cx) x (.slice Ao lo.length co) lo w wx) ⟨HS2.out.1.call al,by rw[hgc];exact ay.fresh _ _ _,hro2.below al,(HQ.out.2.2.2.2.2.2.2.2.2.2.2.2.2.2.2.2.2.2.2.trans HS2.out.2.2.2).call al⟩ ?_;intro w3 h3;have H3:=zh h3;have hS:=h3.drew;have HGC:=zh hgc;clear h3 al hro2 hgc;have d0:decide (p.t < 0)=decide (p.t < 0):=rfl;clear d0;rcases List.eq_nil_or_concat lo with e0 | ⟨lo',q,e0⟩
     ·have d1:((lo.length:Int) == 0)=true:=by rw[e0];rfl
      have hS:(nu w.heap.size h A2 cp (fM At' ct' r) f2 n gc (.slice (some ⟨bx,ox,none⟩) (tn+1) cx) x (.slice Ao lo.length co) lo w) (w3.drew):=hS;refine aA (nu w.heap.size h A2 cp (fM At' ct' r) f2 n gc (.slice (some ⟨bx,ox,none⟩) (tn+1) cx) x (.slice Ao lo.length co) lo w) (by kernel_rfl) hS ?_;refine zB [0,1,2] ?_;iterate 3 (refine zv hS ?_;try simp only[zP])
      refine zE ?_;refine zB [3,4,5,6,7,8,9,10,11,12,13,14] ?_;iterate 12 (refine zW hS ?_;try simp only[zP])
      refine zE ?_;refine zt 15 hS ?_;try simp only[zP]
      refine zD ?_;try simp only[zP]
      clear hS d1;have hlt:∀ q ∈ lo,q.t < p.t:=fun q hq=>by rw[e0] at hq;cases hq
      clear e0;have v0:w3.drew.cell? ⟨gc,0,none⟩=some (.slice (some ⟨bx,ox,none⟩) (tn+1) cx):=H3.out.drew.bc.cell 0;have hsx3:=kZ (HQ.out.2.2.2.2.2.2.2.2.2.1.below H3.out.drew.hb.av) (j:=0) (by simp);rw[HQ.out.2.2.2.2.2.2.2.2.2.2.2.2.2.2.2.1] at hsx3
      have c0:w3.drew.cell? ⟨bx,ox,none⟩=some (.int .i64 p.t):=by simpa using hsx3.1
      have c1:w3.drew.cell? ⟨bx,ox+1,none⟩=some (.int .i64 p.v):=by simpa using hsx3.2.1
      have c2:w3.drew.cell? ⟨bx,ox+2,none⟩=some (.int .i64 p.s):=by simpa using hsx3.2.2
      clear hsx3;have HLT:=zh hlt;clear hlt;have e1:(0:Int) < (tn:Int)+1:=J;go_wp2_with (at_builtin;refine lU (base:=w.heap.size) (p:=p) (l:=lo) rfl (.tmp 57) (.tmp 62) rfl rfl rfl ?hown ?hg ?h63 ?hbase ?_)
      case hown=>exact H3.out.drew.ro.below ((Below.refl _ _).alloc (Nat.le_refl _) _)
      case hg=>exact ay.fresh _ _ _
      case h63=>omega
      case hbase=>have:=H3.out.hb.size;simp;omega
      intro v10 w10 hr10 hg10 hx10;have m10:=(H3.out.drew.call ((Below.refl _ _).alloc (Nat.le_refl _) (.cells #[.int .i64 p.t,.int .i64 p.v,.int .i64 p.s] 149))).grown rfl hr10 hg10;obtain⟨A10,c10,hv10,hc10⟩:=hr10.form;subst hv10;clear hr10 hg10 hx10 v0 c0 c1 c2;obtain⟨nl,hnl⟩:∃ nl,nl=(lo ++ [p]).length:=⟨_,rfl⟩
      have hnl2:nl=lo.length+1:=by rw[hnl];simp
      rw[<-hnl] at m10 ⊢
      have hne10:∀ g,(Value.slice A2 n cp).ownBlock=some g->g≠gc:=fun g hg e=>by
       have h1:=(HS2.out.1.row.lt g hg).2;have h2:=HGC.out;omega
      have hgB:w.heap.size<=gc:=by rw[HGC.out];exact Nat.le_trans HQ.out.2.2.2.2.2.2.2.2.2.2.2.2.2.2.2.2.2.2.2.size HS2.out.2.2.2.size
      obtain⟨w11,hw11⟩:∃ w11,w11=w10.setCell ⟨gc,0,none⟩ (.slice A1 tn (cx-1)):=⟨_,rfl⟩
      have m11:=m10.set (.slice A1 tn (cx-1)) hw11 hne10 hgB;have v0:w10.cell? ⟨gc,0,none⟩=some (.slice (some ⟨bx,ox,none⟩) (tn+1) cx):=m10.bc.cell 0;have vf:=m10.bc.frozen;have v1:w11.cell? ⟨gc,0,none⟩=some (.slice A1 tn (cx-1)):=m11.bc.cell 0;have v2:w11.cell? ⟨gc,1,none⟩=some (.int .i64 (x:Nat)):=m11.bc.cell 1;have hup:=(HQ.out.2.2.1).upd (x:=x) (A1:=A1) (c1:=cx-1) HQ.out.2.2.2.2.2.2.1 (by
       have:=HQ.out.2.2.2.2.2.2.2.2.2.2.2.2.2.2.2.2.2.1 w _ _ (by rw[HQ.out.2.2.2.2.2.2.2.2.2.2.2.2.2.2.2.2.2.2.1];exact HQ.out.2.2.2.2.2.2.2.2.2.1);rw[HQ.out.2.2.2.2.2.2.2.2.2.2.2.2.2.2.2.2.2.2.1] at this
       exact this) (by have:=HQ.out.2.2.2.2.2.2.2.2.2.2.1;simp at this;omega)
      obtain⟨At2,hAt2⟩:∃ a,a=fun y=>if y=x then A1 else At' y:=⟨_,rfl⟩
      obtain⟨ct2,hct2⟩:∃ a,a=fun y=>if y=x then cx-1 else ct' y:=⟨_,rfl⟩
      obtain⟨r2,hr2⟩:∃ a,a=gP r x t:=⟨_,rfl⟩
      rw[<-hAt2,<-hct2,<-hr2] at hup
      have hcat2:(lo ++ [p]) ++ cK r2 k=cK pl k:=by rw[<-HQ.out.2.1,HQ.out.2.2.2.2.2.2.2.2.1,hr2];simp
      have hinc2:Inc (cK r2 k):=by
       have:Inc ((lo ++ [p]) ++ cK r2 k):=by rw[hcat2];exact HD.out.2.2.1
       exact this.parts.2.1
      have hits:∀ y,y≠x->fM At' ct' r y=fM At2 ct2 r2 y:=fun y hy=>by
       rw[hAt2,hct2,hr2];unfold fM gP;simp[hy]
      have hitx:fM At2 ct2 r2 x=.slice A1 tn (cx-1):=by
       rw[hAt2,hct2,hr2,HQ.out.2.2.2.2.2.2.2.2.2.2.2.2.2.2.2.2.2.2.1];unfold fM gP;simp
      have hh11:aL w11 w.heap.size h A2 cp (fM At2 ct2 r2) f2 n:=m11.hp.congr (fun j hj=>hits _ (HS2.out.2.2.1.mem j hj).2);have hfull:lo.length+1<=(cK pl k).length:=by rw[<-hcat2];simp
      have HE:=zh (zN m11 (zN hh11 (zN hup (zN hcat2 (zN hinc2 (zN hitx (zN hr2 (zN hnl hnl2))))))));have HW11:=zh hw11;clear m10 m11 hh11 hup hcat2 hinc2 hits hitx hr2 hnl hnl2 hAt2 hct2 hw11 hne10 hgB
      by_cases ht0:0 < tn
      ·have d8:decide ((0:Int) < (tn:Int))=true:=by simp;omega
       have d9:decide (0 < tn)=true:=by simp;omega
       have hS2:(fun y=>(eX r k y/\y≠x)\/y=x)=eX r2 k:=by
        rw[HE.out.2.2.2.2.2.2.1];exact Cg HQ.out.2.2.2.2.2.1.1 (by have:=HQ.out.2.2.2.2.2.2.2.2.2.2.2.2.2.2.2.2.2.2.1;omega) HQ.out.2.2.2.2.2.1.2
       have hcall:=uY w w11 w.heap.size h A2 cp (fM At2 ct2 r2) (qB r2) f2 n (fun y=>eX r k y/\y≠x) x HE.out.1.hb.av (Nat.le_refl _) HE.out.2.1 HS2.out.2.1 HS2.out.2.2.1 (fun h=>h.2 rfl) (by rw[hS2];exact Je HE.out.2.2.1.sl HE.out.2.2.2.2.1) J;rw[HE.out.2.2.2.2.2.1] at hcall
       have HC:=zh (zN hcall hS2);clear hcall hS2;go_wp2_with (rw[<-HW11.out]);refine HC.out.1.mono ?_;rintro e w12 ⟨rfl,A3,cp3,f3,h3,p3,s3,b3⟩;have hro3:bB w12 w.heap.size (.slice A10 nl c10) (lo ++ [p]):=(HE.out.1.ro).keeps b3.hk (fun g hg ht=>by
        have:=fG HE.out.1.ro hg;rcases ht with ht | ht<;>rw[this] at ht<;>exact absurd ht (by decide))
       rw[HC.out.2] at s3
       have HZ:=zh (zN h3 (zN p3 (zN s3 (zN (HE.out.1.hb.trans b3) hro3))));clear h3 p3 s3 b3 hro3 d8 d9 v0 vf v1 v2;go_wp2_with fail
       go_roundw
       case rel=>exact ⟨n+1,f3,A3,cp3,At2,ct2,r2,A10,c10,lo ++ [p],hnk,by rw[HE.out.2.2.2.2.2.2.2.1],HZ.out.2.2.2.2,HE.out.2.2.2.1,HE.out.2.2.1,HZ.out.1,HZ.out.2.1,HZ.out.2.2.1,HZ.out.2.2.2.1⟩
       case measure=>
        have:=HE.out.2.2.2.2.2.2.2.2;simp[EL];omega
      ·have d8:decide ((0:Int) < (tn:Int))=false:=by simp;omega
       have d9:decide (0 < tn)=false:=by simp;omega
       have hS2:(fun y=>eX r k y/\y≠x)=eX r2 k:=by
        rw[HE.out.2.2.2.2.2.2.1,show t=[] from List.eq_nil_of_length_eq_zero (by have:=HQ.out.2.2.2.2.2.2.2.2.2.2.2.2.2.2.2.2.2.2.1;omega)];exact zn
       have HC:=zh hS2;clear hS2;go_wp2_with (rw[<-HW11.out])
       go_roundw
       case rel=>exact ⟨n,f2,A2,cp,At2,ct2,r2,A10,c10,lo ++ [p],J,by rw[HE.out.2.2.2.2.2.2.2.1],HE.out.1.ro,HE.out.2.2.2.1,HE.out.2.2.1,HE.out.2.1,HS2.out.2.1,by rw[<-HC.out];exact HS2.out.2.2.1,HE.out.1.hb⟩
       case measure=>
        have:=HE.out.2.2.2.2.2.2.2.2;simp[EL];omega
     ·have hl1:lo.length=lo'.length+1:=by rw[e0];simp
      have hl3:lo.getD lo'.length ⟨0,0,0⟩=q:=by rw[e0];simp[List.getD_eq_getElem?_getD]
      have hlt:∀ q ∈ lo,q.t < p.t:=fun y hy=>HQ.out.2.2.2.1.parts.2.2 y hy p (by rw[HQ.out.2.2.2.2.2.2.2.2.1];exact List.mem_cons_self)
      have hq:decide (q.t < p.t)=true:=by
       have:=hlt q (by rw[e0];simp);simp;exact this
      have d1:((lo.length:Int) == 0)=false:=by rw[hl1];simp;omega
      have e2:IntKind.i64.wrap ((lo.length:Int)-1)=((lo'.length:Nat):Int):=by simp only[IntKind.wrap_i64];omega
      have e3:((lo'.length:Nat):Int) < (lo.length:Int):=J;have e1:(0:Int) < (tn:Int)+1:=J;obtain⟨go,rfl⟩:∃ go,Ao=some ⟨go,0,none⟩:=by
       obtain⟨A9,c9,e9,-,hg9⟩:=aH HQ.out.1;obtain⟨g,hA,-⟩:=hg9 J;injection e9 with e9
       exact⟨g,by rw[e9,hA]⟩
      have hclo:∀ wx,nu w.heap.size h A2 cp (fM At' ct' r) f2 n gc (.slice (some ⟨bx,ox,none⟩) (tn+1) cx) x (.slice (some ⟨go,0,none⟩) lo.length co) lo w wx->wx.cell? ⟨go,lo'.length*3,none⟩=some (.int .i64 q.t)/\wx.cell? ⟨bx,ox,none⟩=some (.int .i64 p.t):=fun wx m=>by
       have h1:=(kZ m.ro.sl (j:=lo'.length) J).1;have h2:=(kZ (HQ.out.2.2.2.2.2.2.2.2.2.1.below m.hb.av) (j:=0) (by simp)).1;rw[HQ.out.2.2.2.2.2.2.2.2.2.2.2.2.2.2.2.1] at h2
       simp only[hl3,Nat.zero_add] at h1
       exact⟨h1,by simpa using h2⟩
      have HCL:=zh hclo;clear hclo e0 hl1 hl3;have hS:(nu w.heap.size h A2 cp (fM At' ct' r) f2 n gc (.slice (some ⟨bx,ox,none⟩) (tn+1) cx) x (.slice (some ⟨go,0,none⟩) lo.length co) lo w) (w3.drew):=hS;refine aA (nu w.heap.size h A2 cp (fM At' ct' r) f2 n gc (.slice (some ⟨bx,ox,none⟩) (tn+1) cx) x (.slice (some ⟨go,0,none⟩) lo.length co) lo w) (by kernel_rfl) hS ?_;refine zB [0,1,2,3,4,5,6,7,8,9,10,11,12,13,14,15] ?_;iterate 16 (refine zV ?_ ?_ hS ?_;rotate_left;(intro w' hSw;have u0:w'.cell? ⟨gc,0,none⟩=some (.slice (some ⟨bx,ox,none⟩) (tn+1) cx):=hSw.bc.cell 0;have u1:=(HCL.out _ hSw).1;have u2:=(HCL.out _ hSw).2;go_simp<;>with_reducible rfl);try simp only[zP])
      refine zE ?_;refine zD ?_;try simp only[zP]
      clear hS d1 e1 e2 e3 hq;have v0:w3.drew.cell? ⟨gc,0,none⟩=some (.slice (some ⟨bx,ox,none⟩) (tn+1) cx):=H3.out.drew.bc.cell 0;have hsx3:=kZ (HQ.out.2.2.2.2.2.2.2.2.2.1.below H3.out.drew.hb.av) (j:=0) (by simp);rw[HQ.out.2.2.2.2.2.2.2.2.2.2.2.2.2.2.2.1] at hsx3
      have c0:w3.drew.cell? ⟨bx,ox,none⟩=some (.int .i64 p.t):=by simpa using hsx3.1
      have c1:w3.drew.cell? ⟨bx,ox+1,none⟩=some (.int .i64 p.v):=by simpa using hsx3.2.1
      have c2:w3.drew.cell? ⟨bx,ox+2,none⟩=some (.int .i64 p.s):=by simpa using hsx3.2.2
      clear hsx3;have HLT:=zh hlt;clear hlt;have e1:(0:Int) < (tn:Int)+1:=J;go_wp2_with (at_builtin;refine lU (base:=w.heap.size) (p:=p) (l:=lo) rfl (.tmp 57) (.tmp 62) rfl rfl rfl ?hown ?hg ?h63 ?hbase ?_)
      case hown=>exact H3.out.drew.ro.below ((Below.refl _ _).alloc (Nat.le_refl _) _)
      case hg=>exact ay.fresh _ _ _
      case h63=>omega
      case hbase=>have:=H3.out.hb.size;simp;omega
      intro v10 w10 hr10 hg10 hx10;have m10:=(H3.out.drew.call ((Below.refl _ _).alloc (Nat.le_refl _) (.cells #[.int .i64 p.t,.int .i64 p.v,.int .i64 p.s] 149))).grown rfl hr10 hg10;obtain⟨A10,c10,hv10,hc10⟩:=hr10.form;subst hv10;clear hr10 hg10 hx10 v0 c0 c1 c2;obtain⟨nl,hnl⟩:∃ nl,nl=(lo ++ [p]).length:=⟨_,rfl⟩
      have hnl2:nl=lo.length+1:=by rw[hnl];simp
      rw[<-hnl] at m10 ⊢
      have hne10:∀ g,(Value.slice A2 n cp).ownBlock=some g->g≠gc:=fun g hg e=>by
       have h1:=(HS2.out.1.row.lt g hg).2;have h2:=HGC.out;omega
      have hgB:w.heap.size<=gc:=by rw[HGC.out];exact Nat.le_trans HQ.out.2.2.2.2.2.2.2.2.2.2.2.2.2.2.2.2.2.2.2.size HS2.out.2.2.2.size
      obtain⟨w11,hw11⟩:∃ w11,w11=w10.setCell ⟨gc,0,none⟩ (.slice A1 tn (cx-1)):=⟨_,rfl⟩
      have m11:=m10.set (.slice A1 tn (cx-1)) hw11 hne10 hgB;have v0:w10.cell? ⟨gc,0,none⟩=some (.slice (some ⟨bx,ox,none⟩) (tn+1) cx):=m10.bc.cell 0;have vf:=m10.bc.frozen;have v1:w11.cell? ⟨gc,0,none⟩=some (.slice A1 tn (cx-1)):=m11.bc.cell 0;have v2:w11.cell? ⟨gc,1,none⟩=some (.int .i64 (x:Nat)):=m11.bc.cell 1;have hup:=(HQ.out.2.2.1).upd (x:=x) (A1:=A1) (c1:=cx-1) HQ.out.2.2.2.2.2.2.1 (by
       have:=HQ.out.2.2.2.2.2.2.2.2.2.2.2.2.2.2.2.2.2.1 w _ _ (by rw[HQ.out.2.2.2.2.2.2.2.2.2.2.2.2.2.2.2.2.2.2.1];exact HQ.out.2.2.2.2.2.2.2.2.2.1);rw[HQ.out.2.2.2.2.2.2.2.2.2.2.2.2.2.2.2.2.2.2.1] at this
       exact this) (by have:=HQ.out.2.2.2.2.2.2.2.2.2.2.1;simp at this;omega)
      obtain⟨At2,hAt2⟩:∃ a,a=fun y=>if y=x then A1 else At' y:=⟨_,rfl⟩
      obtain⟨ct2,hct2⟩:∃ a,a=fun y=>if y=x then cx-1 else ct' y:=⟨_,rfl⟩
      obtain⟨r2,hr2⟩:∃ a,a=gP r x t:=⟨_,rfl⟩
      rw[<-hAt2,<-hct2,<-hr2] at hup
      have hcat2:(lo ++ [p]) ++ cK r2 k=cK pl k:=by rw[<-HQ.out.2.1,HQ.out.2.2.2.2.2.2.2.2.1,hr2];simp
      have hinc2:Inc (cK r2 k):=by
       have:Inc ((lo ++ [p]) ++ cK r2 k):=by rw[hcat2];exact HD.out.2.2.1
       exact this.parts.2.1
      have hits:∀ y,y≠x->fM At' ct' r y=fM At2 ct2 r2 y:=fun y hy=>by
       rw[hAt2,hct2,hr2];unfold fM gP;simp[hy]
      have hitx:fM At2 ct2 r2 x=.slice A1 tn (cx-1):=by
       rw[hAt2,hct2,hr2,HQ.out.2.2.2.2.2.2.2.2.2.2.2.2.2.2.2.2.2.2.1];unfold fM gP;simp
      have hh11:aL w11 w.heap.size h A2 cp (fM At2 ct2 r2) f2 n:=m11.hp.congr (fun j hj=>hits _ (HS2.out.2.2.1.mem j hj).2);have hfull:lo.length+1<=(cK pl k).length:=by rw[<-hcat2];simp
      have HE:=zh (zN m11 (zN hh11 (zN hup (zN hcat2 (zN hinc2 (zN hitx (zN hr2 (zN hnl hnl2))))))));have HW11:=zh hw11;clear m10 m11 hh11 hup hcat2 hinc2 hits hitx hr2 hnl hnl2 hAt2 hct2 hw11 hne10 hgB
      by_cases ht0:0 < tn
      ·have d8:decide ((0:Int) < (tn:Int))=true:=by simp;omega
       have d9:decide (0 < tn)=true:=by simp;omega
       have hS2:(fun y=>(eX r k y/\y≠x)\/y=x)=eX r2 k:=by
        rw[HE.out.2.2.2.2.2.2.1];exact Cg HQ.out.2.2.2.2.2.1.1 (by have:=HQ.out.2.2.2.2.2.2.2.2.2.2.2.2.2.2.2.2.2.2.1;omega) HQ.out.2.2.2.2.2.1.2
       have hcall:=uY w w11 w.heap.size h A2 cp (fM At2 ct2 r2) (qB r2) f2 n (fun y=>eX r k y/\y≠x) x HE.out.1.hb.av (Nat.le_refl _) HE.out.2.1 HS2.out.2.1 HS2.out.2.2.1 (fun h=>h.2 rfl) (by rw[hS2];exact Je HE.out.2.2.1.sl HE.out.2.2.2.2.1) J;rw[HE.out.2.2.2.2.2.1] at hcall
       have HC:=zh (zN hcall hS2);clear hcall hS2;go_wp2_with (rw[<-HW11.out]);refine HC.out.1.mono ?_;rintro e w12 ⟨rfl,A3,cp3,f3,h3,p3,s3,b3⟩;have hro3:bB w12 w.heap.size (.slice A10 nl c10) (lo ++ [p]):=(HE.out.1.ro).keeps b3.hk (fun g hg ht=>by
        have:=fG HE.out.1.ro hg;rcases ht with ht | ht<;>rw[this] at ht<;>exact absurd ht (by decide))
       rw[HC.out.2] at s3
       have HZ:=zh (zN h3 (zN p3 (zN s3 (zN (HE.out.1.hb.trans b3) hro3))));clear h3 p3 s3 b3 hro3 d8 d9 v0 vf v1 v2;go_wp2_with fail
       go_roundw
       case rel=>exact ⟨n+1,f3,A3,cp3,At2,ct2,r2,A10,c10,lo ++ [p],hnk,by rw[HE.out.2.2.2.2.2.2.2.1],HZ.out.2.2.2.2,HE.out.2.2.2.1,HE.out.2.2.1,HZ.out.1,HZ.out.2.1,HZ.out.2.2.1,HZ.out.2.2.2.1⟩
       case measure=>
        have:=HE.out.2.2.2.2.2.2.2.2;simp[EL];omega
      ·have d8:decide ((0:Int) < (tn:Int))=false:=by simp;omega
       have d9:decide (0 < tn)=false:=by simp;omega
       have hS2:(fun y=>eX r k y/\y≠x)=eX r2 k:=by
        rw[HE.out.2.2.2.2.2.2.1,show t=[] from List.eq_nil_of_length_eq_zero (by have:=HQ.out.2.2.2.2.2.2.2.2.2.2.2.2.2.2.2.2.2.2.1;omega)];exact zn
       have HC:=zh hS2;clear hS2;go_wp2_with (rw[<-HW11.out])
       go_roundw
       case rel=>exact ⟨n,f2,A2,cp,At2,ct2,r2,A10,c10,lo ++ [p],J,by rw[HE.out.2.2.2.2.2.2.2.1],HE.out.1.ro,HE.out.2.2.2.1,HE.out.2.2.1,HE.out.2.1,HS2.out.2.1,by rw[<-HC.out];exact HS2.out.2.2.1,HE.out.1.hb⟩
       case measure=>
        have:=HE.out.2.2.2.2.2.2.2.2;simp[EL];omega
theorem CX{a b:Int}(ha:a < 0)(hb:1<=b): ∃ q,a.tdiv b=q/\((q*b=a/\a / b=q)\/(q*b≠a/\a / b=q-1))/\a<=q*b/\q*b<=0/\a<=q/\q<=0:=by
 refine⟨_,rfl,?_⟩;have h:=Int.tdiv_eq_ediv (a:=a) (b:=b);have hs:Int.sign b=1:=Int.sign_eq_one_of_pos J;have he:=Int.mul_ediv_add_emod a b;have hr:=Int.emod_nonneg a (show b≠0 by omega);have hr2:=Int.emod_lt_of_pos a (show 0 < b by omega);have hq:a / b<=0:=by
  rcases Int.lt_or_le 0 (a / b) with h1 | h1
  ·have:=Int.mul_le_mul_of_nonneg_left (show 1<=a / b by omega) (show 0<=b by omega)
   omega
  ·exact h1
 by_cases hd:b ∣ a
 ·rw[if_pos (.inr hd)] at h
  have hz:=Int.emod_eq_zero_of_dvd hd;have e:a.tdiv b*b=b*(a / b):=by rw[h,Int.add_zero,Int.mul_comm]
  have h5:b*(a / b)<=1*(a / b):=Int.mul_le_mul_of_nonpos_right hb hq;rw[e,h];refine⟨.inl ⟨J,J⟩,J,J,J,J⟩
 ·rw[if_neg J,hs] at h
  have hz:a%b≠0:=fun e=>hd (Int.dvd_of_emod_eq_zero e)
  have e:a.tdiv b*b=b*(a / b)+b:=by rw[h,Int.mul_comm,Int.mul_add,Int.mul_one]
  have hq1:a / b<=-1:=by
   rcases Int.lt_or_le (-1) (a / b) with h1 | h1
   ·have:a / b=0:=J
    rw[this,Int.mul_zero] at he
    omega
   ·exact h1
  have h5:b*(a / b+1)<=1*(a / b+1):=Int.mul_le_mul_of_nonpos_right hb J;rw[Int.mul_add,Int.mul_one] at h5
  rw[e,h];refine⟨.inr ⟨J,J⟩,J,?_,J,J⟩;have:=Int.mul_le_mul_of_nonneg_left hq1 (show 0<=b by omega);omega
theorem Ot(w:World)(a b:Int)(hb:1<=b)(hb2:b<=1099511627776)(ha : -4611686018427387904<=a)(ha2:a<=4611686018427387904):
  Calls Tryz.prog 271 #[Z a,Z b] w fun e w'=>e=.returned (.tuple #[Z (a / b),.bool true])/\Below w.heap.size w w':=by
 have d0:decide (b<=0)=false:=by simp;omega
 by_cases h:a < 0
 ·obtain ⟨q,hq,hc,h1,h2,h3,h4⟩:=CX h hb
  have d1:decide (a < 0)=true:=by simp[h]
  rcases hc with ⟨e,e2⟩ | ⟨e,e2⟩
  ·rw[e2]
   have d2:(q*b != a)=false:=by simp[e]
   clear e2
   go_enter Tryz.func271,Tryz.ntmps271
   go_wp2_with fail;go_ret2;exact⟨rfl,Below.refl _ _⟩
  ·rw[e2]
   have d2:(q*b != a)=true:=by simp[e]
   clear e2
   go_enter Tryz.func271,Tryz.ntmps271
   go_wp2_with fail;go_ret2;exact⟨rfl,Below.refl _ _⟩
 ·have d1:decide (a < 0)=false:=by simp[h]
  have d3:0<=a:=J;have d4:a / b<=a:=Int.ediv_le_self _ d3;have d5:0<=a / b:=Int.ediv_nonneg d3 J
  go_enter Tryz.func271,Tryz.ntmps271
  go_wp2_with fail;go_ret2;exact⟨rfl,Below.refl _ _⟩
theorem uh(w:World)(a b:Int)(hb:1<=b)(hb2:b<=1099511627776)(ha : -4611686018427387904<=a)(ha2:a<=4611686018427387904):
  Calls Tryz.prog 188 #[Z a,Z b] w fun e w'=>e=.returned (.tuple #[Z (a%b),.bool true])/\Below w.heap.size w w':=by
 obtain⟨q,hq⟩:∃ q,q=a / b:=⟨_,rfl⟩
 obtain⟨m,hm⟩:∃ m,m=a%b:=⟨_,rfl⟩
 have he:=Int.mul_ediv_add_emod a b;have hr:=Int.emod_nonneg a (show b≠0 by omega);have hr2:=Int.emod_lt_of_pos a (show 0 < b by omega);rw[<-hq,<-hm,Int.mul_comm] at he
 rw[<-hm] at hr hr2 ⊢
 have hc:=fun wx=>Ot wx a b hb hb2 ha ha2
 rw[<-hq] at hc
 have h1:q*b<=a:=J;have h2:a-1099511627776<=q*b:=J;have h3:a-q*b=m:=J;have HC:=zh hc;clear hq hm he hc
 go_enter Tryz.func188,Tryz.ntmps188
 go_wp2_with fail;refine(HC.out _).mono ?_;rintro e w1 ⟨rfl,hb1⟩;have HB:=zh hb1;clear hb1;go_wp2_with fail;go_ret2;exact⟨rfl,HB.out⟩
structure bP(W O:Int): Prop where
 w1:1<=W
 w2:W<=1099511627776
 o1:0<=O
 o2:O < W
def aD(W O t:Int): Int:=t-(t-O)%W
theorem dD{W O t:Int}(h:bP W O): aD W O t<=t/\t < aD W O t+W:=by
 have h1:=h.w1;have hr:=Int.emod_nonneg (t-O) (show W≠0 by omega);have hr2:=Int.emod_lt_of_pos (t-O) (show 0 < W by omega);unfold aD;omega
theorem J5{W O t:Int}(h:bP W O): aD W O (t-W)+W=aD W O t:=by
 unfold aD;have:t-W-O=t-O-W:=J;rw[this,Int.sub_emod_right];omega
def bX(W O:Int): Array Value:=#[Z W,Z W,Z O]
theorem gH(w:World)(W O:Int)(h:bP W O): Calls Tryz.prog 168 #[.agg (bX W O)] w fun e w'=>e=.returned (.bool true)/\Below w.heap.size w w':=by
 obtain⟨h1,h2,h3,h4⟩:=h;obtain⟨x,hx⟩:∃ x,x=w.heap.size:=⟨_,rfl⟩
 have o0:=Own.bn w hx 211 (bX W O);have d1:decide (1<=W)=true:=by simp;omega
 have d2:decide (W<=1099511627776)=true:=by simp;omega
 have d3:decide (W<=W)=true:=by simp
 have d4:decide (W<=64*W)=true:=by simp;omega
 have d5:decide (0<=O)=true:=by simp;omega
 have d6:decide (O < W)=true:=by simp;omega
 have HD:=zh o0;clear o0;unfold bX
 go_enter Tryz.func168,Tryz.ntmps168
 go_upto_region 1 with (fail)
 rw[<-hx];clear hx;refine aC (Own w [(x,211,bX W O)]) HD.out ?_;intro w1 h1;have H1:=zh h1;have z0_0:=h1.c3 0;clear h1;go_wp2_with fail;go_ret;exact⟨rfl,H1.out.av⟩
theorem xk(w:World)(A:Option Addr)(n c:Nat)(f:Nat->Int)(hsl:Sl w (fun q=>q < w.heap.size) A n (fun j=>Z (f j)))(hn:n<=1000)(hf:∀ j,j < n->aP (f j)): Calls Tryz.prog 247 #[.slice A n c] w fun e w'=>e=.returned (.bool true)/\Below w.heap.size w w':=by
 have HS:=zh (zN hsl hf);clear hsl hf
 go_enter Tryz.func247,Tryz.ntmps247
 go_wp2_with fail
 go_loopw [7] (fun i wr=>∃ k:Nat,k<=n/\i=Z (k:Nat)/\Below w.heap.size w wr) (fun i _=>n-(intOf i).toNat)
 case atStart=>exact ⟨0,J,rfl,Below.refl _ _⟩
 case round=>
  obtain⟨k,hk,rfl,hb⟩:=hrel
  by_cases hlt:k < n
  ·have hki:(k:Int) < (n:Int):=J
   obtain⟨bb,off,rfl,-,hc⟩:=(V.eY HS.out.1 hb) J;have c0:wr.cell? ⟨bb,off+k,none⟩=some (Z (f k)):=hc k hlt;have hr:=HS.out.2 k hlt;obtain⟨z,hz⟩:∃ z,z=f k:=⟨_,rfl⟩
   rw[<-hz] at c0 hr
   have d1:decide (z < -1152921504606846976)=false:=by have:=hr.1;simp;omega
   have d2:decide (1152921504606846976 < z)=false:=by have:=hr.2;simp;omega
   have HB:=zh hb;clear hb hc hz hr;go_wp2_with fail
   go_roundw
   case rel=>exact ⟨k+1,J,by go_num,HB.out⟩
   case measure=>simp[intOf]<;>omega
  ·obtain rfl:k=n:=J
   have HB:=zh hb;clear hb;go_wp2_with fail;go_ret;exact⟨rfl,HB.out⟩
theorem QV(w:World)(t:Int)(ht:aP t): Calls Tryz.prog 247 #[.slice (some ⟨w.heap.size,0,none⟩) 1 1] (w.alloc (.cells #[Z t] 3)) fun e w'=>e=.returned (.bool true)/\Below w.heap.size w w':=by
 have a5:Below w.heap.size w (w.alloc (.cells #[Z t] 3)):=(Below.refl _ _).alloc (Nat.le_refl _) _;refine(xk _ (some ⟨w.heap.size,0,none⟩) 1 1 (fun _=>t) ((oF w 3 (Z t)).mono (fun q e=>by rw[e];simp)) J (fun j _=>ht)).mono ?_;rintro e w5 ⟨rfl,hb5⟩;exact⟨rfl,a5.trans (hb5.mono a5.size)⟩
theorem um(w:World)(W O t:Int)(h:bP W O)(ht1 : -2305843009213693952<=t)(ht2:t<=2305843009213693952): Calls Tryz.prog 331 #[.agg (bX W O),Z t] w fun e w'=>e=.returned (Z (aD W O t))/\Below w.heap.size w w':=by
 obtain⟨x,hx⟩:∃ x,x=w.heap.size:=⟨_,rfl⟩
 have o0:=Own.bn w hx 211 (bX W O);obtain⟨h1,h2,h3,h4⟩:=h;obtain⟨m,hm⟩:∃ m,m=(t-O)%W:=⟨_,rfl⟩
 have hr:=Int.emod_nonneg (t-O) (show W≠0 by omega);have hr2:=Int.emod_lt_of_pos (t-O) (show 0 < W by omega);rw[<-hm] at hr hr2
 have hl:aD W O t=t-m:=by rw[hm];rfl
 rw[hl];have HD:=zh (zN o0 hm);clear o0 hl hm;unfold bX
 go_enter Tryz.func331,Tryz.ntmps331
 go_upto_region 1 with (fail)
 rw[<-hx];clear hx;refine aC (Own w [(x,211,bX W O)]) HD.out.1 ?_;intro w1 h1;have H1:=zh h1;have z0_0:=h1.c3 0;clear h1;go_wp2_with fail;refine(uh w1 (t-O) W J J J J).mono ?_;rintro e w2 ⟨rfl,hb⟩;rw[<-HD.out.2];have HB:=zh (H1.out.call hb).av;clear hb;go_wp2_with fail;go_ret;exact⟨rfl,HB.out⟩
theorem xg(w:World)(W O t:Int)(h:bP W O)(ht1 : -1152921504606846976<=t)(ht2:t<=1152921504606846976): Calls Tryz.prog 330 #[.agg (bX W O),Z t] w fun e w'=>e=.returned (Z (aD W O t))/\Below w.heap.size w w':=by
 obtain⟨x,hx⟩:∃ x,x=w.heap.size:=⟨_,rfl⟩
 have o0:=Own.bn w hx 211 (bX W O);have hl:=J5 h (t:=t);have hs:=dD h (t:=t);have hk:=h;obtain⟨h1,h2,h3,h4⟩:=h;obtain⟨z,hz⟩:∃ z,z=aD W O (t-W):=⟨_,rfl⟩
 obtain⟨y,hy⟩:∃ y,y=aD W O t:=⟨_,rfl⟩
 rw[<-hz,<-hy] at hl
 rw[<-hy] at hs ⊢
 have HD:=zh (zN o0 (zN hz hk));have dw:IntKind.i64.wrap (t-W)=t-W:=by simp only[IntKind.wrap_i64];omega
 have dz:IntKind.i64.wrap y=y:=by simp only[IntKind.wrap_i64];omega
 clear o0 hz hy hk;unfold bX
 go_enter Tryz.func330,Tryz.ntmps330
 go_upto_region 1 with (fail)
 rw[<-hx];clear hx;refine aC (Own w [(x,211,bX W O)]) HD.out.1 ?_;intro w1 h1;have hS:=h1.drew;have H1:=zh h1;clear h1;have hS:(Own w [(x,211,bX W O)]) (w1.drew):=hS;refine aA (Own w [(x,211,bX W O)]) (by kernel_rfl) hS ?_;refine zB [0,1,2,3,4,6,7] ?_;iterate 7 (refine zV ?_ ?_ hS ?_;rotate_left;(intro w' hSw;have u0:=hSw.c3 0;go_simp<;>with_reducible rfl);try simp only[zP])
 refine zE ?_;refine zC 5 fun K HK=>?_
 go_simp;refine(um w1.drew W O (t-W) HD.out.2.2 J J).mono ?_;rintro e w2 ⟨rfl,hb⟩;rw[<-HD.out.2.1];have h2:=H1.out.drew.call hb;have H2:=zh h2;clear hb h2;go_wp2_with fail;refine HK.out.zt (Own w [(x,211,bX W O)]) (fun _ h=>h) (H2.out) ?_;clear HK hS;intro hS;try simp only[zP]
 refine zB [8,9] ?_;iterate 2 (refine zv hS ?_;try simp only[zP])
 refine zE ?_;refine zD ?_;try simp only[zP]
 clear hS;go_wp2_with fail;go_ret;exact⟨rfl,H2.out.av⟩
def qP(W at0:Int): Nat->List Value
 | 0=>[]
 | k+1=>qP W at0 k ++ [Z (at0+(k:Nat)*W),Z (at0+(k:Nat)*W+W)]
theorem Rp: (Tryz.prog.info? 277).map (fun i=>(i.zero,i.size,i.bytes))=some (some (.agg #[Z 0,Z 0]),2,16):=by kernel_rfl
theorem IC(W a:Int): ∀ k,(qP W a k).length=k*2
 | 0=>rfl
 | k+1=>by
  show (qP W a k ++ _).length=_
  rw[List.length_append,IC W a k];simp;omega
theorem FQ(W a:Int)(j:Nat): ∀ k,j < k->(qP W a k)[j*2]? = some (Z (a+(j:Nat)*W))/\(qP W a k)[j*2+1]? = some (Z (a+(j:Nat)*W+W))
 | 0,h=>absurd h (Nat.not_lt_zero _)
 | k+1,h=>by
  have hl:=IC W a k
  by_cases e:j < k
  ·have ih:=FQ W a j k e
   show (qP W a k ++ _)[_]? = _/\(qP W a k ++ _)[_]? = _
   rw[List.getElem?_append_left J,List.getElem?_append_left J];exact ih
  ·obtain rfl:j=k:=J
   show (qP W a j ++ _)[_]? = _/\(qP W a j ++ _)[_]? = _
   rw[List.getElem?_append_right J,List.getElem?_append_right J,hl,Nat.sub_self,show j*2+1-j*2=1 by omega];exact⟨rfl,rfl⟩
theorem Jp(w:World)(y x:Nat)(W O a:Int)(i:Nat)(hy:w.cell? ⟨y,0,none⟩=some (Z a))(hx0:w.cell? ⟨x,0,none⟩=some (Z W))(hx1:w.cell? ⟨x,1,none⟩=some (Z W))(h0:0<=(i:Int)*W)(h1:(i:Int)*W<=2305843009213693952)(h2:1<=W)(h3:W<=1099511627776)(h4 : -2305843009213693952<=a)(h5:a<=2305843009213693952):
  Calls Tryz.prog 364 #[Z (i:Nat),.pointer (some ⟨y,0,none⟩),.pointer (some ⟨x,0,none⟩)] w fun e w'=>e=.returned (.agg #[Z (a+(i:Nat)*W),Z (a+(i:Nat)*W+W)])/\Below w.heap.size w w':=by
 have hyl:=World.block_lt_of_cell? w _ hy;have hxl:=World.block_lt_of_cell? w _ hx0;obtain⟨z,hz⟩:∃ z,z=w.heap.size:=⟨_,rfl⟩
 have o0:=Own.bn w hz 277 #[Z 0,Z 0]
 have c0:=(o0.av.cell (p:=⟨y,0,none⟩) hyl).trans hy;have c1:=(o0.av.cell (p:=⟨x,0,none⟩) hxl).trans hx0;have c2:=(o0.av.cell (p:=⟨x,1,none⟩) hxl).trans hx1;have hny:y≠z:=by rw[hz];exact Nat.ne_of_lt hyl
 have hnx:x≠z:=by rw[hz];exact Nat.ne_of_lt hxl
 have z0:=o0.c2 0;have zf:=o0.free 0 rfl;have HD:=zh o0;clear hy hx0 hx1 o0 hyl hxl
 go_enter Tryz.func364,Tryz.ntmps364
 go_upto_region 1 with (fail)
 rw[<-hz];clear hz;refine aC (fun wx=>Own w [(z,277,#[Z 0,Z 0])] wx/\(wx.cell? ⟨y,0,none⟩=some (Z a)/\wx.cell? ⟨x,0,none⟩=some (Z W)/\wx.cell? ⟨x,1,none⟩=some (Z W))) ⟨HD.out,c0,c1,c2⟩ ?_;clear c0 c1 c2 z0 zf;intro w1 ⟨h1',c0,c1,c2⟩;have H1:=zh h1';have z0:=h1'.c2 0;have zf:=h1'.free 0 rfl;clear h1';go_wp2_with fail;have h2':=(H1.out.set 0 0 rfl (Z (a+(i:Int)*W))).set 0 1 rfl (Z (a+(i:Int)*W+W));have y0:=h2'.c2 0;refine bodyPost_ret (v:=.agg #[Z (a+(i:Nat)*W),Z (a+(i:Nat)*W+W)]) (by simp[results,Tryz.results364,go_sem,y0]) rfl ?_;exact⟨rfl,h2'.av⟩
theorem JU(w:World)(y x:Nat)(W O a:Int)(n:Nat)(hy:w.cell? ⟨y,0,none⟩=some (Z a))(hx0:w.cell? ⟨x,0,none⟩=some (Z W))(hx1:w.cell? ⟨x,1,none⟩=some (Z W))(h1:(n:Int)*W<=2305843009213693952)(h2:1<=W)(h3:W<=1099511627776)(h4 : -2305843009213693952<=a)(h5:a<=2305843009213693952)(hn:n<=65537):
  Calls Tryz.prog 363 #[Z (n:Nat),.func (.func 364) #[] #[.pointer (some ⟨y,0,none⟩),.pointer (some ⟨x,0,none⟩)]] w fun e w'=>(∃ (A:Option Addr) (c:Nat),e=.returned (.slice A n c)/\w'.ownsRow w.heap.size 277 2 (.slice A n c) n (qP W a n))/\Below w.heap.size w w':=by
 have hyl:=World.block_lt_of_cell? w _ hy;have hxl:=World.block_lt_of_cell? w _ hx0;have HD:=zh (zN hy (zN hx0 (zN hx1 (zN hyl hxl))));clear hy hx0 hx1 hyl hxl
 go_enter Tryz.func363,Tryz.ntmps363
 go_wp2_with fail
 go_loopw [5,8] (fun s i wr=>∃ (k:Nat) (A:Option Addr) (c:Nat),k<=n/\i=Z (k:Nat)/\s=.slice A k c/\wr.ownsRow w.heap.size 277 2 (.slice A k c) k (qP W a k)/\Below w.heap.size w wr) (fun _ i _=>n-(intOf i).toNat)
 case atStart=>exact ⟨0,none,0,J,rfl,rfl,⟨rfl,.inl ⟨rfl,rfl⟩⟩,Below.refl _ _⟩
 case round=>
  obtain⟨k,A,c,hk,rfl,rfl,hrow,hb⟩:=hrel
  by_cases hlt:k < n
  ·have hki:(k:Int) < (n:Int):=J
   have hm0:0<=(k:Int)*W:=Int.mul_nonneg J J;have hm1:(k:Int)*W<=(n:Int)*W:=Int.mul_le_mul_of_nonneg_right J J;have hc0:=hb.cell HD.out.2.2.2.1 |>.trans HD.out.1
   have hc1:=hb.cell HD.out.2.2.2.2 |>.trans HD.out.2.1
   have hc2:=hb.cell (p:=⟨x,1,none⟩) HD.out.2.2.2.2 |>.trans HD.out.2.2.1
   have HW:=zh (zN hrow hb);clear hrow hb;go_wp2_with fail;refine(Jp wr y x W O a k hc0 hc1 hc2 hm0 J h2 h3 h4 h5).mono ?_;rintro e w1 ⟨rfl,hb1⟩;have hr1:=aG HW.out.1 (S:=fun _=>False) (Keeps.of_below hb1) (fun _ _ h=>h);have hsz:=Nat.le_trans HW.out.2.size hb1.size;obtain⟨A2,c2,w2,hrun,hap⟩:=iO (P:=Tryz.prog) (w:=w1) (t:=274) (ty:=274) (cs:=#[Z (a+(k:Nat)*W),Z (a+(k:Nat)*W+W)]) Tryz.underlying274 Rp rfl J hr1 rfl (fun u hu=>by simp at hu;rcases hu with rfl | rfl<;>rfl) J J hsz;have hbb:=hap.av hr1 (HW.out.2.trans (hb1.mono HW.out.2.size)) hsz;have HA:=zh (zN hap.row hbb);clear hr1 hap hbb hb1 hc0 hc1 hc2;go_wp2_with (at_builtin;refine wpList_append_run rfl (.tmp 11) (.tmp 15) rfl rfl rfl hrun ?_);clear hrun
   go_roundw
   case rel=>exact ⟨k+1,A2,c2,J,by go_num,rfl,HA.out⟩
   case measure=>simp[intOf]<;>omega
  ·obtain rfl:k=n:=J
   have HW:=zh (zN hrow hb);clear hrow hb;go_wp2_with fail;go_ret;exact⟨⟨A,c,rfl,HW.out.1⟩,HW.out.2⟩
def KV(w:World)(W a:Int)(n:Nat)(e:Ending)(w':World): Prop:=(∃ (A:Option Addr) (c:Nat),e=.returned (.slice A n c)/\w'.ownsRow w.heap.size 277 2 (.slice A n c) n (qP W a n))/\Below w.heap.size w w'
theorem zi(w:World)(W O a:Int)(n:Nat)(h1:(n:Int)*W<=2305843009213693952)(h2:1<=W)(h3:W<=1099511627776)(h4 : -2305843009213693952<=a)(h5:a<=2305843009213693952)(hn:n<=65537):
  Calls Tryz.prog 332 #[.agg (bX W O),Z a,Z (n:Nat)] w (KV w W a n):=by
 obtain⟨x,hx⟩:∃ x,x=w.heap.size:=⟨_,rfl⟩
 have o0:=Own.eD w hx 211 (bX W O) 3 #[Z a]
 have HD:=zh o0;clear o0;unfold bX
 go_enter Tryz.func332,Tryz.ntmps332
 go_wp2_with fail;rw[<-hx];refine bQ (Own w [(x,211,bX W O),(x+1,3,#[Z a])]) HD.out ?_;intro w1 o1;obtain⟨c0,c1⟩:=o1.c2 0;have c2:=o1.c 1 0;have H1:=zh o1;clear o1;refine(JU w1 (x+1) x W O a n c2 c0 c1 h1 h2 h3 h4 h5 hn).mono ?_;rintro e w2 ⟨⟨A,c,rfl,hr⟩,hb⟩;have H2:=zh (zN hr hb);clear hr hb c0 c1 c2 hx;go_wp2_with fail;go_ret;exact⟨⟨A,c,rfl,aN H2.out.1 H1.out.av.size⟩,H1.out.av.trans (H2.out.2.mono H1.out.av.size)⟩
theorem Gv(w:World)(W O a:Int)(h2:1<=W)(h3:W<=1099511627776)(h4 : -2305843009213693952<=a)(h5:a<=2305843009213693952):
  Calls Tryz.prog 332 #[.agg (bX W O),Z a,Z 1] w (KV w W a 1):=zi w W O a 1 J h2 h3 h4 h5 J
def qh(w:World)(W O t:Int)(e:Ending)(w':World): Prop:=(∃ (A:Option Addr) (c:Nat),e=.returned (.tuple #[.slice A 1 c,Z 0])/\w'.ownsRow w.heap.size 277 2 (.slice A 1 c) 1 [Z (aD W O t),Z (aD W O t+W)])/\Below w.heap.size w w'
theorem yc(w:World)(W O t:Int)(h:bP W O)(ht:aP t): Calls Tryz.prog 326 #[.agg (bX W O),Z t] w (qh w W O t):=by
 obtain⟨x,hx⟩:∃ x,x=w.heap.size:=⟨_,rfl⟩
 have o0:=Own.bn w hx 211 (bX W O);have hs:=dD h (t:=t);obtain⟨y,hy⟩:∃ y,y=aD W O t:=⟨_,rfl⟩
 have hc1:=fun wx=>xg wx W O t h ht.1 ht.2
 have hc2:=fun wx=>um wx W O t h (by have:=ht.1;omega) (by have:=ht.2;omega)
 rw[<-hy] at hs hc1 hc2
 have hw1:=h.w1;have hw2:=h.w2;obtain⟨ht1,ht2⟩:=ht;have hW0:W≠0:=J;have dq:IntKind.i64.wrap ((IntKind.i64.wrap 0).tdiv W)=0:=by simp[IntKind.wrap_i64]
 have HD:=zh (zN o0 (zN h (zN (show aP t from ⟨ht1,ht2⟩) (zN hc1 (zN hc2 hy)))));clear o0 h hc1 hc2;unfold qh;rw[<-hy];clear hy;unfold bX
 go_enter Tryz.func326,Tryz.ntmps326
 go_upto_region 1 with (fail)
 rw[<-hx];clear hx;refine aC (Own w [(x,211,bX W O)]) HD.out.1 ?_;intro w1 h1;have H1:=zh h1;have z0_0:=h1.c3 0;clear h1;go_wp2_with fail;refine(gH w1 W O HD.out.2.1).mono ?_;rintro e w2 ⟨rfl,hb2⟩;have H2:=zh (H1.out.call hb2);clear hb2 z0_0;go_wp2_with fail;refine(QV w2 t HD.out.2.2.1).mono ?_;rintro e w3 ⟨rfl,hb3⟩;have h3:=H2.out.call hb3;have H3:=zh h3;clear hb3;go_upto_region 3 with (fail)
 have hS:=h3.drew;clear h3;have hS:(Own w [(x,211,bX W O)]) (w3.drew):=hS;refine aA (Own w [(x,211,bX W O)]) (by kernel_rfl) hS ?_;refine zB [0,1,3,4] ?_;iterate 4 (refine zV ?_ ?_ hS ?_;rotate_left;(intro w' hSw;have u0:=hSw.c3 0;go_simp<;>with_reducible rfl);try simp only[zP])
 refine zE ?_;refine zC 2 fun K HK=>?_
 go_simp;refine(HD.out.2.2.2.1 w3.drew).mono ?_;rintro e w4 ⟨rfl,hb⟩;have h4:=H3.out.drew.call hb;have H4:=zh h4;clear hb h4;go_wp2_with fail;refine HK.out.zt (Own w [(x,211,bX W O)]) (fun _ h=>h) (H4.out) ?_;clear HK hS;intro hS;try simp only[zP]
 refine zC 5 fun K HK=>?_
 go_simp;refine(HD.out.2.2.2.2.1 w4).mono ?_;rintro e w5 ⟨rfl,hb⟩;have h5:=H4.out.call hb;have H5:=zh h5;clear hb h5;go_wp2_with fail;refine HK.out.zt (Own w [(x,211,bX W O)]) (fun _ h=>h) (H5.out) ?_;clear HK hS;intro hS;try simp only[zP]
 refine zB [6,7] ?_;iterate 2 (refine zv hS ?_;try simp only[zP])
 refine zE ?_;refine zD ?_;try simp only[zP]
 clear hS;go_upto_region 4 with (fail)
 have hS:=H5.out.drew;have hS:(Own w [(x,211,bX W O)]) (w5.drew):=hS;refine aA (Own w [(x,211,bX W O)]) (by kernel_rfl) hS ?_;refine zB [0,1,2,3,4,5,6,7,8] ?_;iterate 9 (refine zV ?_ ?_ hS ?_;rotate_left;(intro w' hSw;have u0:=hSw.c3 0;go_simp<;>with_reducible rfl);try simp only[zP])
 refine zE ?_;refine zC 9 fun K HK=>?_
 go_simp;refine(Gv w5.drew W O y hw1 hw2 J J).mono ?_;rintro e w6 ⟨⟨A,c,rfl,hr⟩,hb⟩;have h6:=H5.out.drew.call hb;have H6:=zh (zN h6 (zN hr hb));clear hb h6 hr;go_wp2_with fail;refine HK.out.zt (Own w [(x,211,bX W O)]) (fun _ h=>h) (H6.out.1) ?_;clear HK hS;intro hS;try simp only[zP]
 refine zB [10,11] ?_;iterate 2 (refine zv hS ?_;try simp only[zP])
 refine zE ?_;refine zD ?_;try simp only[zP]
 clear hS;go_wp2_with fail;go_ret2;refine⟨⟨A,c,rfl,?_⟩,H6.out.1.av⟩;have:=aN H6.out.2.1 H5.out.drew.av.size
 simpa [qP] using this
def zX(w:World)(W a:Int)(n:Nat)(e:Ending)(w':World): Prop:=(∃ (A:Option Addr) (c:Nat),e=.returned (.tuple #[.slice A n c,Z 0])/\w'.ownsRow w.heap.size 277 2 (.slice A n c) n (qP W a n))/\Below w.heap.size w w'
theorem QW(w:World)(a b:Int)(ha:aP a)(hb:aP b): Calls Tryz.prog 247 #[.slice (some ⟨w.heap.size,0,none⟩) 2 2] (w.alloc (.cells #[Z a,Z b] 3)) fun e w'=>e=.returned (.bool true)/\Below w.heap.size w w':=by
 have a5:Below w.heap.size w (w.alloc (.cells #[Z a,Z b] 3)):=(Below.refl _ _).alloc (Nat.le_refl _) _;refine(xk _ (some ⟨w.heap.size,0,none⟩) 2 2 (fun j=>if j=0 then a else b) (fun _=>⟨w.heap.size,0,rfl,by simp,fun j hj=>by
   have hb:=ay.fresh w 3 #[Z a,Z b]
   rw[Nat.zero_add,hb.cell j];rcases(show j=0\/j=1 by omega) with rfl | rfl<;>rfl⟩) J (fun j hj=>by
   rcases(show j=0\/j=1 by omega) with rfl | rfl
   ·exact ha
   ·exact hb)).mono ?_
 rintro e w5 ⟨rfl,hb5⟩;exact⟨rfl,a5.trans (hb5.mono a5.size)⟩
theorem Mg(w:World)(W O a b:Int)(m:Nat)(h:bP W O)(ha:aP a)(hb:aP b)(hab:a < b)(hm:(aD W O (b-1)-aD W O a) / W+1=(m:Nat))(hm2:m<=65536)(hm3:(m:Int)*W<=2305843009213693952):
  Calls Tryz.prog 265 #[.agg (bX W O),.agg #[Z a,Z b]] w (zX w W (aD W O a) m):=by
 obtain⟨x,hx⟩:∃ x,x=w.heap.size:=⟨_,rfl⟩
 have o0:=Own.eD w hx 211 (bX W O) 277 #[Z a,Z b]
 have hs:=dD h (t:=a);have hs2:=dD h (t:=b-1);have hmono:aD W O a<=aD W O (b-1):=by
  have h1:=h.w1;unfold aD;have e1:=Int.mul_ediv_add_emod (a-O) W;have e2:=Int.mul_ediv_add_emod (b-1-O) W;have:(a-O) / W<=(b-1-O) / W:=Int.ediv_le_ediv J J;have:=Int.mul_le_mul_of_nonneg_left this (show 0<=W by omega);omega
 obtain⟨y,hy⟩:∃ y,y=aD W O a:=⟨_,rfl⟩
 obtain⟨z,hz⟩:∃ y,y=aD W O (b-1):=⟨_,rfl⟩
 have hc1:=fun wx=>xg wx W O a h ha.1 ha.2
 have hc2:=fun wx=>um wx W O (b-1) h (by have:=hb.1;omega) (by have:=hb.2;omega)
 rw[<-hy] at hs hc1 hm hmono
 rw[<-hz] at hs2 hc2 hm hmono
 have hw1:=h.w1;have hw2:=h.w2;have hta:=ha;have htb:=hb;obtain⟨ha1,ha2⟩:=ha;obtain⟨hb1,hb2⟩:=hb;obtain⟨q,hq⟩:∃ q,q=(z-y) / W:=⟨_,rfl⟩
 rw[<-hq] at hm
 have hW0:W≠0:=J;have hzy:0<=z-y:=J;have dzy:IntKind.i64.wrap (z-y)=z-y:=by simp only[IntKind.wrap_i64];omega
 have dq:IntKind.i64.wrap ((z-y).tdiv W)=q:=by rw[Int.tdiv_eq_ediv_of_nonneg hzy,<-hq,IntKind.wrap_i64];omega
 have db:IntKind.i64.wrap (b-1)=b-1:=by simp only[IntKind.wrap_i64];omega
 have hcf:=fun wx=>zi wx W O y m hm3 hw1 hw2 J J J
 have HD:=zh (zN o0 (zN h (zN hta (zN htb (zN hc1 (zN hc2 (zN hy hcf)))))));have HQ:=zh hq;have d1:decide (b < a)=false:=by simp;omega
 have d2:¬ a=b:=J;have d3:decide ((65536:Int) < (m:Int))=false:=by simp;omega
 have d4:decide (65536 < m)=false:=by simp;omega
 clear o0 h hc1 hc2 hta htb hcf hq;unfold zX;rw[<-hy];clear hy hz;unfold bX
 go_enter Tryz.func265,Tryz.ntmps265
 go_upto_region 1 with (fail)
 rw[<-hx];clear hx;refine aC (Own w [(x,211,bX W O),(x+1,277,#[Z a,Z b])]) HD.out.1 ?_;intro w1 h1;have H1:=zh h1;have z0_0:=h1.c3 0;have z1_0:=h1.c2 1;clear h1;go_wp2_with fail;refine(gH w1 W O HD.out.2.1).mono ?_;rintro e w2 ⟨rfl,hb2⟩;have h2:=H1.out.call hb2;have H2:=zh h2;clear hb2 z0_0 z1_0;have z0_0:=h2.c3 0;have z1_0:=h2.c2 1;clear h2;go_wp2_with fail;clear z0_0 z1_0;refine(QW w2 a b HD.out.2.2.1 HD.out.2.2.2.1).mono ?_;rintro e w3 ⟨rfl,hb3⟩;have h3:=H2.out.call hb3;have H3:=zh h3;have z0_0:=h3.c3 0;have z1_0:=h3.c2 1;clear hb3;go_upto_region 5 with (fail)
 clear z0_0 z1_0;have hS:=h3.drew;clear h3;have hS:(Own w [(x,211,bX W O),(x+1,277,#[Z a,Z b])]) (w3.drew):=hS;refine aA (Own w [(x,211,bX W O),(x+1,277,#[Z a,Z b])]) (by kernel_rfl) hS ?_;refine zB [0,1,2,4,5,6,7] ?_;iterate 7 (refine zV ?_ ?_ hS ?_;rotate_left;(intro w' hSw;have u0:=hSw.c3 0;have u3:=hSw.c2 1;go_simp<;>with_reducible rfl);try simp only[zP])
 refine zE ?_;refine zC 3 fun K HK=>?_
 go_simp;refine(HD.out.2.2.2.2.1 w3.drew).mono ?_;rintro e w4 ⟨rfl,hb⟩;have h4:=H3.out.drew.call hb;have H4:=zh h4;clear hb h4;go_wp2_with fail;refine HK.out.zt (Own w [(x,211,bX W O),(x+1,277,#[Z a,Z b])]) (fun _ h=>h) (H4.out) ?_;clear HK hS;intro hS;try simp only[zP]
 refine zC 8 fun K HK=>?_
 go_simp;refine(HD.out.2.2.2.2.2.1 w4).mono ?_;rintro e w5 ⟨rfl,hb⟩;have h5:=H4.out.call hb;have H5:=zh h5;clear hb;go_wp2_with fail;refine HK.out.zt (Own w [(x,211,bX W O),(x+1,277,#[Z a,Z b])]) (fun _ h=>h) (H5.out) ?_;clear HK hS;intro hS;try simp only[zP]
 refine zB [9,10] ?_;iterate 2 (refine zv hS ?_;try simp only[zP])
 refine zE ?_;refine zD ?_;try simp only[zP]
 clear hS;have z0_0:=h5.c3 0;have z1_0:=h5.c2 1;clear h5;go_wp2_with fail;clear z0_0 z1_0;refine(HD.out.2.2.2.2.2.2.2 w5).mono ?_;rintro e w6 ⟨⟨A,c,rfl,hr⟩,hb⟩;have H6:=zh (zN (H5.out.call hb) hr);clear hb hr;go_wp2_with fail;go_ret2;exact⟨⟨A,c,rfl,aN H6.out.2 H5.out.av.size⟩,H6.out.1.av⟩
theorem JQ(w:World)(W O v p:Int)(h:bP W O)(hk:bP v p)(f1:W.tmod v=0)(f2:(O-p).tmod v=0):
  Calls Tryz.prog 116 #[.agg (bX W O),Z v,Z p] w fun e w'=>e=.returned (.bool true)/\Below w.heap.size w w':=by
 obtain⟨x,hx⟩:∃ x,x=w.heap.size:=⟨_,rfl⟩
 have o0:=Own.bn w hx 211 (bX W O);have hh:=h;obtain⟨h1,h2,h3,h4⟩:=h;obtain⟨k1,k2,k3,k4⟩:=hk;have hv0:v≠0:=J;have hW0:0<=W:=J;have d0:IntKind.i64.wrap (O-p)=O-p:=by simp only[IntKind.wrap_i64];omega
 have d1:decide (v < 1)=false:=by simp;omega
 have d2:decide (1099511627776 < v)=false:=by simp;omega
 have d3:decide (p < 0)=false:=by simp;omega
 have d4:decide (v<=p)=false:=by simp;omega
 have f1':W%v=0:=by rw[<-Int.tmod_eq_emod_of_nonneg hW0];exact f1
 have HD:=zh (zN o0 hh);clear o0 hh;unfold bX
 go_enter Tryz.func116,Tryz.ntmps116
 go_upto_region 1 with (fail)
 rw[<-hx];clear hx;refine aC (Own w [(x,211,bX W O)]) HD.out.1 ?_;intro w1 h1;have H1:=zh h1;have z0_0:=h1.c3 0;clear h1;go_wp2_with fail;refine(gH w1 W O HD.out.2).mono ?_;rintro e w2 ⟨rfl,hb2⟩;have h2:=H1.out.call hb2;have H2:=zh h2;clear hb2 z0_0;have z0_0:=h2.c3 0;clear h2;go_wp2_with fail;go_ret;exact⟨rfl,H2.out.av⟩
end
section
open Go.RowKit Go.Maps A
theorem J6: Keyed Tryz.prog 3:=int_keyed Tryz.underlying3
theorem LV{x:Int}(h:aP x\/bI x): keyOf Tryz.prog 3 (Z x)=some (uX x):=keyOf_int_mk Tryz.underlying3 (WalkArith.wf_i64 (by
 rcases h with h | h
 ·have:=h.1;have:=h.2;omega
 ·have:=h.1;have:=h.2;omega))
def ql(a:Ag): Value:=.agg #[Z a.n,Z (aj a.s),.int .u64 (au a.s),Z a.lo,Z a.hi,Z a.f.t,Z a.f.v,Z a.f.s,Z a.l.t,Z a.l.v,Z a.l.s]
theorem Rs(w:World): (zeroValue 195).run Tryz.prog w=.ok (ql aQ) w:=by kernel_rfl
structure eT(B:Nat)(w0:World)(g M:Nat)(W O:Int)(s:Int->Option Ag)(U:Nat)(w:World): Prop where
 blk:ay w g 394 #[Z W,Z W,Z O,.map (some M)]
 map:∃ n D,w.ownsMap Tryz.prog 3 eO M n D/\n<=U/\mE uX D (fun x=>(s x).map ql) U
 av:Below B w0 w
 gB:B<=g
 mB:B<=M
 hB:B<=w0.heap.size
theorem M7{w:World}{M n:Nat}{D:DataW Value}{kt:TypeId}(h:w.ownsMap Tryz.prog kt eO M n D){t:TypeId}{cs:Array Value}: ¬ ay w M t cs:=fun hb=>by
 obtain⟨es,clock,e1,-⟩:=h;unfold ay at hb
 rw[e1] at hb
 injection hb with hb
 cases hb
theorem eT.ne{B:Nat}{w0 w:World}{g M:Nat}{W O:Int}{s:Int->Option Ag}{U:Nat}(h:eT B w0 g M W O s U w): g≠M:=fun e=>by
 obtain⟨n,D,h1,-⟩:=h.map;exact M7 h1 (e ▸ h.blk)
theorem eT.lt{B:Nat}{w0 w:World}{g M:Nat}{W O:Int}{s:Int->Option Ag}{U:Nat}(h:eT B w0 g M W O s U w): g < w.heap.size/\M < w.heap.size:=by
 obtain⟨n,D,h1,-⟩:=h.map;exact⟨h.blk.lt,World.ownsMap.lt h1⟩
theorem eT.keep{S:Nat->Prop}{B:Nat}{w0 w w':World}{g M:Nat}{W O:Int}{s:Int->Option Ag}{U:Nat}(h:eT B w0 g M W O s U w)(hk:Keeps S w w')(hg:¬ S g)(hM:¬ S M)(hS:∀ q,S q->B<=q): eT B w0 g M W O s U w':=by
 refine⟨h.blk.keeps hk hg,?_,?_,h.gB,h.mB,h.hB⟩
 ·obtain ⟨n,D,h1,h2⟩:=h.map
  obtain⟨es,clock,e1,e2⟩:=h1;exact⟨n,D,⟨es,clock,by rw[hk.block M (h.lt).2 hM];exact e1,e2⟩,h2⟩
 ·exact h.av.trans (hk.below (Nat.le_trans h.hB h.av.size) fun k hk' hs=>by have:=hS k hs;omega)
theorem eT.call{B:Nat}{w0 w w':World}{g M:Nat}{W O:Int}{s:Int->Option Ag}{U:Nat}(h:eT B w0 g M W O s U w)(hb:Below w.heap.size w w'): eT B w0 g M W O s U w':=
 h.keep (S:=fun _=>False) (Keeps.of_below hb) (fun h=>h) (fun h=>h) (fun _ h=>h.elim)
theorem eT.look{B:Nat}{w0 w:World}{g M:Nat}{W O:Int}{s:Int->Option Ag}{U:Nat}(h:eT B w0 g M W O s U w)(x:Int)(hx:bI x):
  (Instr.lookup 392 (.map (some M)) (Z x) false).run Tryz.prog w=.ok (ql ((s x).getD aQ)) w:=by
 obtain⟨n,D,h1,-,h2⟩:=h.map;have:=Sn J6 Tryz.underlying392 (Rs w) h1 h2 (LV (.inr hx));rw[this]
 cases s x<;>rfl
theorem eT.upd{B:Nat}{w0 w:World}{g M:Nat}{W O:Int}{s:Int->Option Ag}{U:Nat}(h:eT B w0 g M W O s U w)(x:Int)(hx:bI x)(hU:U < 100000)(a:Ag):
  ∃ w',(Instr.mapUpdate 392 (.map (some M)) (Z x) (ql a)).run Tryz.prog w=.ok () w'/\eT B w0 g M W O (dR s x a) (U+1) w'/\w.grownBy w' (some M):=by
 obtain⟨n,D,h1,hn,h2⟩:=h.map;obtain⟨w',hr,hown,hg⟩:=Df J6 Tryz.underlying392 (by unfold maxLen;omega) h1 (LV (.inr hx)) (ql a);have hk:Keeps (fun q=>q=M) w w':=(Keeps.refl _ w).grown hg (fun k e _=>by injection e with e;exact e.symm);refine⟨w',hr,⟨h.blk.keeps hk h.ne,⟨n+1,_,hown,J,?_⟩,?_,h.gB,h.mB,h.hB⟩,hg⟩
 ·have:=h2.put QS QT x (ql a)
  refine { this with has:=fun y=>?_,val:=fun y v hv z=>?_ }
  ·rw[this.has]
   unfold dR
   split<;>rfl
  ·refine this.val y v ?_ z
   unfold dR at hv ⊢
   split
   ·rename_i e
    rw[if_pos e] at hv
    exact hv
   ·rename_i e
    rw[if_neg e] at hv
    exact hv
 ·exact h.av.trans (hk.below (Nat.le_trans h.hB h.av.size) fun k hk' hs=>by have:=h.mB;omega)
def Nn(w:World)(B:Nat)(w0:World)(g M:Nat)(W O:Int)(s:Int->Option Ag)(U:Nat)(e:Ending)(w':World): Prop:=e=.returned (Z 0)/\eT B w0 g M W O s (U+1) w'/\Keeps (fun q=>q=M) w w'
theorem BO(w:World)(B:Nat)(w0:World)(g M:Nat)(W O:Int)(s:Int->Option Ag)(U:Nat)(t:Int)(a old m:Ag)(hG:eT B w0 g M W O s U w)(hk:bP W O)(ht:aP t)(hok:kU a)(hold:old=(s (aD W O t)).getD aQ)(hok2:kU old)(hm:bE old a=(m,0))(hU:U<=1000):
  Calls Tryz.prog 263 #[.pointer (some ⟨g,0,none⟩),Z t,.agg #[Z a.n,Z (aj a.s),.int .u64 (au a.s),Z a.lo,Z a.hi,Z a.f.t,Z a.f.v,Z a.f.s,Z a.l.t,Z a.l.v,Z a.l.s]] w (Nn w B w0 g M W O (dR s (aD W O t) m) U):=by
 obtain⟨x,hx⟩:∃ x,x=w.heap.size:=⟨_,rfl⟩
 have o0:=Own.bn w hx 195 #[Z a.n,Z (aj a.s),.int .u64 (au a.s),Z a.lo,Z a.hi,Z a.f.t,Z a.f.v,Z a.f.s,Z a.l.t,Z a.l.v,Z a.l.s]
 have hs:=dD hk (t:=t);obtain⟨L,hL⟩:∃ y,y=aD W O t:=⟨_,rfl⟩
 have hof:=fun wx=>yc wx W O t hk ht
 unfold qh at hof
 rw[<-hL] at hs hof hold ⊢
 have hw1:=hk.w1;have hw2:=hk.w2;have hLI:bI L:=⟨by have:=ht.1;omega,by have:=ht.2;omega⟩
 have hmg:∀ wx,Calls Tryz.prog 315 #[ql old,.agg #[Z a.n,Z (aj a.s),.int .u64 (au a.s),Z a.lo,Z a.hi,Z a.f.t,Z a.f.v,Z a.f.s,Z a.l.t,Z a.l.v,Z a.l.s]] wx fun e w'=>e=.returned (.tuple #[.agg #[Z m.n,Z (aj m.s),.int .u64 (au m.s),Z m.lo,Z m.hi,Z m.f.t,Z m.f.v,Z m.f.s,Z m.l.t,Z m.l.v,Z m.l.s],Z 0])/\Below wx.heap.size wx w':=fun wx=>(Ms old a hok2 hok wx).mono fun e w' ⟨r,er,h1,h2,h3⟩=>by
  rw[hm] at h1
  injection h1 with h1 h4
  subst h1;subst h4;exact⟨h2,h3⟩
 have hgx:g≠x/\M≠x:=by have:=hG.lt;omega
 have HD:=zh (zN o0 (zN hof (zN hmg (zN hold (zN hLI hG)))));clear o0 hof hmg hold hLI hok hok2 hm hL hk ht
 go_enter Tryz.func263,Tryz.ntmps263
 go_upto_region 1 with (fail)
 rw[<-hx];refine aC (Own w [(x,195,#[Z a.n,Z (aj a.s),.int .u64 (au a.s),Z a.lo,Z a.hi,Z a.f.t,Z a.f.v,Z a.f.s,Z a.l.t,Z a.l.v,Z a.l.s])]) HD.out.1 ?_;intro w1 h1;have hG1:=HD.out.2.2.2.2.2.call h1.av;have c0:=hG1.blk.cell 0;have c1:=hG1.blk.cell 1;have c2:=hG1.blk.cell 2;have H1:=zh (zN h1 hG1);clear h1 hG1 hx;go_wp2_with fail;refine(HD.out.2.1 w1).mono ?_;rintro e w2 ⟨⟨A,c,rfl,hr⟩,hb⟩;have h2:=H1.out.1.call hb;have H2:=zh (zN h2 (zN (H1.out.2.call hb) (aN hr H1.out.1.av.size)));clear h2 hr hb c0 c1 c2;go_wp2_with fail
 go_loopw [27] (fun i wr=>∃ k:Nat,k<=1/\i=Z (k:Nat)/\eT B w0 g M W O (if k=0 then s else dR s L m) (U+k) wr/\Keeps (fun q=>q=M) w wr/\ay wr x 195 #[Z a.n,Z (aj a.s),.int .u64 (au a.s),Z a.lo,Z a.hi,Z a.f.t,Z a.f.v,Z a.f.s,Z a.l.t,Z a.l.v,Z a.l.s]/\wr.ownsRow w.heap.size 277 2 (.slice A 1 c) 1 [Z L,Z (L+W)]) (fun i _=>1-(intOf i).toNat)
 case atStart=>exact ⟨0,J,rfl,H2.out.2.1,(Keeps.refl _ w).trans (Keeps.of_below (S:=fun q=>q=M) H2.out.1.av) (fun _ _ h=>h),H2.out.1.get 0 rfl,H2.out.2.2⟩
 case round=>
  obtain⟨k,hk1,rfl,hG,hkp,hbx,hr⟩:=hrel;rcases(show k=0\/k=1 by omega) with rfl | rfl
  ·obtain ⟨A',c',e1,-,hg⟩:=aH hr
   injection e1 with e1 _ e2
   subst e1;subst e2;obtain⟨ga,hga,hga1,hga2⟩:=hg J;subst hga;have r0:=hr.cells (g:=ga) rfl 0 _ rfl;have r1:=hr.cells (g:=ga) rfl 1 _ rfl;rw[iE] at r0 r1
   have HR:=zh (zN hG (zN hkp (zN hbx hr)));clear hG hkp hbx hr hg;go_upto_region 7 with (fail)
   obtain⟨y,hy⟩:∃ y,y=wr.heap.size:=⟨_,rfl⟩
   have oy:=Own.bn wr hy 277 #[Z L,Z (L+W)]
   rw[<-hy];have hG0:eT B w0 g M W O s U wr:=HR.out.1;have hold:=HD.out.2.2.2.1;have hlk:∀ wx,Below wr.heap.size wr wx->(Instr.lookup 392 (.map (some M)) (Z L) false).run Tryz.prog wx=.ok (.agg #[Z old.n,Z (aj old.s),.int .u64 (au old.s),Z old.lo,Z old.hi,Z old.f.t,Z old.f.v,Z old.f.s,Z old.l.t,Z old.l.v,Z old.l.s]) wx:=fun wx hb=>by
    have:=(hG0.call hb).look L HD.out.2.2.2.2.1;rw[<-hold] at this
    exact this
   have hne:y≠M:=by
    have:=hG0.lt.2;omega
   have HL:=zh (zN hlk (zN hG0 (zN hne hy)));clear hlk hG0 hold hne hy;refine aC (Own wr [(y,277,#[Z L,Z (L+W)])]) oy ?_;clear oy;intro w3 h3;have hS:=h3.drew;have H3:=zh h3;clear h3;have hS:(Own wr [(y,277,#[Z L,Z (L+W)])]) (w3.drew):=hS;refine aA (Own wr [(y,277,#[Z L,Z (L+W)])]) (by kernel_rfl) hS ?_;refine zB [0,1,2,3,4,5] ?_;iterate 6 (refine zV ?_ ?_ hS ?_;rotate_left;(intro w' hSw;have u0:=(HL.out.2.1.call hSw.av).blk.cell 3;have u1:=hSw.c 0 0;go_simp<;>with_reducible rfl);try simp only[zP])
   refine zE ?_;refine zT 6 ?_ ?_ hS ?_;rotate_left
   ·(intro w' hSw;have u2:=HL.out.1 w' hSw.av;go_simp<;>with_reducible rfl)
   try simp only[zP]
   refine zT 7 ?_ ?_ hS ?_;rotate_left
   ·(intro w' hSw;have hx':=HR.out.2.2.1.below hSw.av HR.out.2.2.1.lt;have v0:=hx'.cell 0;have v1:=hx'.cell 1;have v2:=hx'.cell 2;have v3:=hx'.cell 3;have v4:=hx'.cell 4;have v5:=hx'.cell 5;have v6:=hx'.cell 6;have v7:=hx'.cell 7;have v8:=hx'.cell 8;have v9:=hx'.cell 9;have v10:=hx'.cell 10;go_simp<;>with_reducible rfl)
   try simp only[zP]
   refine fA (i:=8) (j:=12) rfl rfl (by kernel_rfl) (fun K hK=>?_) (fun K hK=>?_)
   ·skip
    have HK:=zh hK;clear hK;go_simp;refine(HD.out.2.2.1 w3.drew).mono ?_;rintro e w4 ⟨rfl,hb⟩;have h4:=H3.out.drew.call hb;have H4:=zh h4;clear hb h4;go_wp2_with fail;refine HK.out.zt (Own wr [(y,277,#[Z L,Z (L+W)])]) (fun _ h=>h) (H4.out) ?_;clear HK hS;intro hS;try simp only[zP]
    refine zB [9,10,11] ?_;iterate 3 (refine zv hS ?_;try simp only[zP])
    refine zE ?_;refine zC 12 fun K HK=>?_
    go_simp;obtain⟨z,hz⟩:∃ z,z=w4.heap.size:=⟨_,rfl⟩
    have h5:=H4.out.alloc hz 195 #[Z 0,Z 0,.int .u64 0,Z 0,Z 0,Z 0,Z 0,Z 0,Z 0,Z 0,Z 0]
    rw[<-hz];obtain⟨w6,hw6⟩:∃ w6,w6=w4.alloc (.cells #[Z 0,Z 0,.int .u64 0,Z 0,Z 0,Z 0,Z 0,Z 0,Z 0,Z 0,Z 0] 195):=⟨_,rfl⟩
    rw[<-hw6] at h5 ⊢
    have H6:=zh h5;clear h5 hz hw6;go_wp2_with fail;refine HK.out.zt (Own wr [(y,277,#[Z L,Z (L+W)])]) (fun _ h=>h) (H6.out.take 1) ?_;clear HK hS;intro hS;try simp only[zP]
    refine zC 13 fun K HK=>?_
    refine kP (H6.out.get 1 rfl) 195 0 11 [Z m.n,Z (aj m.s),.int .u64 (au m.s),Z m.lo,Z m.hi,Z m.f.t,Z m.f.v,Z m.f.s,Z m.l.t,Z m.l.v,Z m.l.s] rfl (Nat.le_of_ble_eq_true rfl) (by kernel_rfl) (List.all_eq_true.1 rfl) rfl _ _ rfl rfl rfl ?_;refine HK.out.go (Own wr [(z,195,#[Z m.n,Z (aj m.s),.int .u64 (au m.s),Z m.lo,Z m.hi,Z m.f.t,Z m.f.v,Z m.f.s,Z m.l.t,Z m.l.v,Z m.l.s]),(y,277,#[Z L,Z (L+W)])]) (fun _ h=>h.sub (List.sublist_cons_self _ _)) ((aU.of (H6.out.front 1 rfl) rfl).put [Z m.n,Z (aj m.s),.int .u64 (au m.s),Z m.lo,Z m.hi,Z m.f.t,Z m.f.v,Z m.f.s,Z m.l.t,Z m.l.v,Z m.l.s] rfl) ?_;clear HK hS;intro w7 hS;have H7:=zh hS;try simp only[zP]
    refine zt 14 hS ?_;try simp only[zP]
    refine zD ?_;try simp only[zP]
    clear hS;go_upto_region 10 with (fail)
    have hGg:=HL.out.2.1.call H7.out.drew.av;have hzM:z≠M:=by
     have h1:=H7.out.geq 0 rfl;have h2:=HL.out.2.1.lt.2;omega
    have hS:ay w7.drew g 394 #[Z W,Z W,Z O,.map (some M)]/\ay w7.drew y 277 #[Z L,Z (L+W)]/\ay w7.drew z 195 #[Z m.n,Z (aj m.s),.int .u64 (au m.s),Z m.lo,Z m.hi,Z m.f.t,Z m.f.v,Z m.f.s,Z m.l.t,Z m.l.v,Z m.l.s]:=⟨hGg.blk,(H7.out.get 1 rfl).drew,(H7.out.get 0 rfl).drew⟩
    obtain⟨w8,hr8,hG8,hg8⟩:=hGg.upd L HD.out.2.2.2.2.1 J m;have k8:Keeps (fun q=>q=M) w7.drew w8:=(Keeps.refl _ _).grown hg8 (fun k e _=>by injection e with e;exact e.symm);unfold ql at hr8
    have H8:=zh (zN hG8 (zN k8 hzM));clear hGg hG8 hg8 k8 hzM;have hS:(fun wx=>ay wx g 394 #[Z W,Z W,Z O,.map (some M)]/\ay wx y 277 #[Z L,Z (L+W)]/\ay wx z 195 #[Z m.n,Z (aj m.s),.int .u64 (au m.s),Z m.lo,Z m.hi,Z m.f.t,Z m.f.v,Z m.f.s,Z m.l.t,Z m.l.v,Z m.l.s]) (w7.drew):=hS;refine aA (fun wx=>ay wx g 394 #[Z W,Z W,Z O,.map (some M)]/\ay wx y 277 #[Z L,Z (L+W)]/\ay wx z 195 #[Z m.n,Z (aj m.s),.int .u64 (au m.s),Z m.lo,Z m.hi,Z m.f.t,Z m.f.v,Z m.f.s,Z m.l.t,Z m.l.v,Z m.l.s]) (by kernel_rfl) hS ?_;refine zB [0,1,2,3,4,5] ?_;iterate 6 (refine zV ?_ ?_ hS ?_;rotate_left;(intro w' hSw;have u0:=hSw.1.cell 3;have u1:=hSw.2.1.cell 0;go_simp<;>with_reducible rfl);try simp only[zP])
    refine zE ?_;refine zT 6 ?_ ?_ hS ?_;rotate_left
    ·(intro w' hSw;have hx':=hSw.2.2;have v0:=hx'.cell 0;have v1:=hx'.cell 1;have v2:=hx'.cell 2;have v3:=hx'.cell 3;have v4:=hx'.cell 4;have v5:=hx'.cell 5;have v6:=hx'.cell 6;have v7:=hx'.cell 7;have v8:=hx'.cell 8;have v9:=hx'.cell 9;have v10:=hx'.cell 10;go_simp<;>with_reducible rfl)
    try simp only[zP]
    refine zC 7 fun K HK=>?_
    go_simp;go_wp2_with fail;refine HK.out.zt (fun wx=>ay wx g 394 #[Z W,Z W,Z O,.map (some M)]/\ay wx y 277 #[Z L,Z (L+W)]/\ay wx z 195 #[Z m.n,Z (aj m.s),.int .u64 (au m.s),Z m.lo,Z m.hi,Z m.f.t,Z m.f.v,Z m.f.s,Z m.l.t,Z m.l.v,Z m.l.s]) (fun _ h=>h) (⟨H8.out.1.blk,hS.2.1.keeps H8.out.2.1 HL.out.2.2.1,hS.2.2.keeps H8.out.2.1 H8.out.2.2⟩) ?_;clear HK hS;intro hS;try simp only[zP]
    refine zD ?_;try simp only[zP]
    clear hS hr8;go_wp2_with fail
    go_roundw
    case rel=>
     have kk:Keeps (fun q=>q=M) wr w8:=(Keeps.of_below (S:=fun q=>q=M) H7.out.drew.av).trans' H8.out.2.1;refine⟨1,J,by first | rfl | go_num,H8.out.1,HR.out.2.1.trans' kk,HR.out.2.2.1.keeps kk (fun e=>hgx.2 e.symm),aG HR.out.2.2.2 kk (fun q hq e=>?_)⟩;have h1:ga=q:=by simpa [Value.ownBlock] using hq
     have h2:=HD.out.2.2.2.2.2.lt.2;omega
    case measure=>simp[intOf]<;>omega
   ·skip
    have HK:=zh hK;clear hK;go_simp;obtain⟨z,hz⟩:∃ z,z=w3.heap.size:=⟨_,rfl⟩
    have h5:=(H3.out.alloc hz 195 #[Z 0,Z 0,.int .u64 0,Z 0,Z 0,Z 0,Z 0,Z 0,Z 0,Z 0,Z 0]).drew;rw[<-hz];obtain⟨w5,hw5⟩:∃ w6,w6=(w3.alloc (.cells #[Z 0,Z 0,.int .u64 0,Z 0,Z 0,Z 0,Z 0,Z 0,Z 0,Z 0,Z 0] 195)).drew:=⟨_,rfl⟩
    rw[<-hw5] at h5 ⊢
    have H5:=zh h5;clear h5 hz hw5;go_wp2_with fail;refine HK.out.zt (Own wr [(y,277,#[Z L,Z (L+W)])]) (fun _ h=>h) (H5.out.take 1) ?_;clear HK hS;intro hS;try simp only[zP]
    refine zC 8 fun K HK=>?_
    go_simp;refine(HD.out.2.2.1 w5).mono ?_;rintro e w6 ⟨rfl,hb⟩;have H6:=zh (H5.out.call hb);clear hb;go_wp2_with fail;refine HK.out.zt (Own wr [(y,277,#[Z L,Z (L+W)])]) (fun _ h=>h) (H6.out.take 1) ?_;clear HK hS;intro hS;try simp only[zP]
    refine zB [9,10,11] ?_;iterate 3 (refine zv hS ?_;try simp only[zP])
    refine zE ?_;refine zC 13 fun K HK=>?_
    refine kP (H6.out.get 1 rfl) 195 0 11 [Z m.n,Z (aj m.s),.int .u64 (au m.s),Z m.lo,Z m.hi,Z m.f.t,Z m.f.v,Z m.f.s,Z m.l.t,Z m.l.v,Z m.l.s] rfl (Nat.le_of_ble_eq_true rfl) (by kernel_rfl) (List.all_eq_true.1 rfl) rfl _ _ rfl rfl rfl ?_;refine HK.out.go (Own wr [(z,195,#[Z m.n,Z (aj m.s),.int .u64 (au m.s),Z m.lo,Z m.hi,Z m.f.t,Z m.f.v,Z m.f.s,Z m.l.t,Z m.l.v,Z m.l.s]),(y,277,#[Z L,Z (L+W)])]) (fun _ h=>h.sub (List.sublist_cons_self _ _)) ((aU.of (H6.out.front 1 rfl) rfl).put [Z m.n,Z (aj m.s),.int .u64 (au m.s),Z m.lo,Z m.hi,Z m.f.t,Z m.f.v,Z m.f.s,Z m.l.t,Z m.l.v,Z m.l.s] rfl) ?_;clear HK hS;intro w7 hS;have H7:=zh hS;try simp only[zP]
    refine zt 14 hS ?_;try simp only[zP]
    refine zD ?_;try simp only[zP]
    clear hS;go_upto_region 10 with (fail)
    have hGg:=HL.out.2.1.call H7.out.drew.av;have hzM:z≠M:=by
     have h1:=H7.out.geq 0 rfl;have h2:=HL.out.2.1.lt.2;omega
    have hS:ay w7.drew g 394 #[Z W,Z W,Z O,.map (some M)]/\ay w7.drew y 277 #[Z L,Z (L+W)]/\ay w7.drew z 195 #[Z m.n,Z (aj m.s),.int .u64 (au m.s),Z m.lo,Z m.hi,Z m.f.t,Z m.f.v,Z m.f.s,Z m.l.t,Z m.l.v,Z m.l.s]:=⟨hGg.blk,(H7.out.get 1 rfl).drew,(H7.out.get 0 rfl).drew⟩
    obtain⟨w8,hr8,hG8,hg8⟩:=hGg.upd L HD.out.2.2.2.2.1 J m;have k8:Keeps (fun q=>q=M) w7.drew w8:=(Keeps.refl _ _).grown hg8 (fun k e _=>by injection e with e;exact e.symm);unfold ql at hr8
    have H8:=zh (zN hG8 (zN k8 hzM));clear hGg hG8 hg8 k8 hzM;have hS:(fun wx=>ay wx g 394 #[Z W,Z W,Z O,.map (some M)]/\ay wx y 277 #[Z L,Z (L+W)]/\ay wx z 195 #[Z m.n,Z (aj m.s),.int .u64 (au m.s),Z m.lo,Z m.hi,Z m.f.t,Z m.f.v,Z m.f.s,Z m.l.t,Z m.l.v,Z m.l.s]) (w7.drew):=hS;refine aA (fun wx=>ay wx g 394 #[Z W,Z W,Z O,.map (some M)]/\ay wx y 277 #[Z L,Z (L+W)]/\ay wx z 195 #[Z m.n,Z (aj m.s),.int .u64 (au m.s),Z m.lo,Z m.hi,Z m.f.t,Z m.f.v,Z m.f.s,Z m.l.t,Z m.l.v,Z m.l.s]) (by kernel_rfl) hS ?_;refine zB [0,1,2,3,4,5] ?_;iterate 6 (refine zV ?_ ?_ hS ?_;rotate_left;(intro w' hSw;have u0:=hSw.1.cell 3;have u1:=hSw.2.1.cell 0;go_simp<;>with_reducible rfl);try simp only[zP])
    refine zE ?_;refine zT 6 ?_ ?_ hS ?_;rotate_left
    ·(intro w' hSw;have hx':=hSw.2.2;have v0:=hx'.cell 0;have v1:=hx'.cell 1;have v2:=hx'.cell 2;have v3:=hx'.cell 3;have v4:=hx'.cell 4;have v5:=hx'.cell 5;have v6:=hx'.cell 6;have v7:=hx'.cell 7;have v8:=hx'.cell 8;have v9:=hx'.cell 9;have v10:=hx'.cell 10;go_simp<;>with_reducible rfl)
    try simp only[zP]
    refine zC 7 fun K HK=>?_
    go_simp;go_wp2_with fail;refine HK.out.zt (fun wx=>ay wx g 394 #[Z W,Z W,Z O,.map (some M)]/\ay wx y 277 #[Z L,Z (L+W)]/\ay wx z 195 #[Z m.n,Z (aj m.s),.int .u64 (au m.s),Z m.lo,Z m.hi,Z m.f.t,Z m.f.v,Z m.f.s,Z m.l.t,Z m.l.v,Z m.l.s]) (fun _ h=>h) (⟨H8.out.1.blk,hS.2.1.keeps H8.out.2.1 HL.out.2.2.1,hS.2.2.keeps H8.out.2.1 H8.out.2.2⟩) ?_;clear HK hS;intro hS;try simp only[zP]
    refine zD ?_;try simp only[zP]
    clear hS hr8;go_wp2_with fail
    go_roundw
    case rel=>
     have kk:Keeps (fun q=>q=M) wr w8:=(Keeps.of_below (S:=fun q=>q=M) H7.out.drew.av).trans' H8.out.2.1;refine⟨1,J,by first | rfl | go_num,H8.out.1,HR.out.2.1.trans' kk,HR.out.2.2.1.keeps kk (fun e=>hgx.2 e.symm),aG HR.out.2.2.2 kk (fun q hq e=>?_)⟩;have h1:ga=q:=by simpa [Value.ownBlock] using hq
     have h2:=HD.out.2.2.2.2.2.lt.2;omega
    case measure=>simp[intOf]<;>omega
  ·obtain ⟨nM,D,hown,hn,hF⟩:=hG.map
   have hl:=World.ownsMap.len hown Tryz.underlying392 3;have c3:=hG.blk.cell 3;have hsz:=hF.sz;obtain⟨z,hz⟩:∃ z,z=Maps.size D:=⟨_,rfl⟩
   rw[<-hz] at hl hsz
   have d1:decide ((65536:Int) < (z:Int))=false:=by simp;omega
   have d2:decide (65536 < z)=false:=by simp;omega
   have HR:=zh (zN hG hkp);clear hG hkp hown hF hbx hr hz hsz hn;go_wp2_with fail;go_ret;exact⟨rfl,HR.out.1,HR.out.2⟩
end
end Go.Proofs.YtmffkpkgbdcnjaaGreatDoor
