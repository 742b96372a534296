/-
  Texts of this proof, joined.
-/
import Derived.Test.YtmffkpkgbdcnjaaGreatDoorTopExact08
import Derived.Test.YtmffkpkgbdcnjaaGreatDoorTopExact09
set_option linter.unusedVariables false
set_option linter.unusedSimpArgs false
set_option maxRecDepth 100000
set_option maxHeartbeats 20000000
namespace Go.Proofs.YtmffkpkgbdcnjaaGreatDoor
section
open Go.RowKit Go.Maps
def kT(n:Nat)(W:Int): List Value:=if n=0 then [] else [Z W,Z 0,Z 0,.bool false,.string ByteArray.empty]
structure Bn(w:World)(A:Option Addr)(n c:Nat)(W:Int): Prop where
 le:n<=1
 nil:n=0->A=none/\c=0
 one:0 < n->∃ g,A=some ⟨g,0,none⟩/\g < w.heap.size/\w.cell? ⟨g,0,none⟩=some (Z W)/\w.cell? ⟨g,1,none⟩=some (Z 0)
 w1:1<=W
 w2:W<=1099511627776
theorem Bn.call{w w':World}{A:Option Addr}{n c:Nat}{W:Int}(h:Bn w A n c W)(hb:Below w.heap.size w w'): Bn w' A n c W:=⟨h.le,h.nil,fun e=>by
 obtain⟨g,h1,h2,h3,h4⟩:=h.one e;exact⟨g,h1,Nat.lt_of_lt_of_le h2 hb.size,(hb.cell (p:=⟨g,0,none⟩) h2).trans h3,(hb.cell (p:=⟨g,1,none⟩) h2).trans h4⟩,h.w1,h.w2⟩
def KH(w:World)(lg:Int)(n:Nat)(W:Int)(e:Ending)(w':World): Prop:=
 ∃ (A':Option Addr) (c':Nat),e=.returned (.tuple #[.agg (aX 0 0 0 false 0 lg A' n c'),.bool true])/\bN w' w.heap.size A' n c' (kT n W)/\Below w.heap.size w w'
theorem Gb(w:World)(lg:Int)(A0:Option Addr)(n c0:Nat)(W:Int)(hc:Bn w A0 n c0 W):
  Calls Tryz.prog 56 #[.agg #[.bool false,.int .i64 0,.int .i64 lg],.slice A0 n c0] w (KH w lg n W):=by
 obtain⟨x,hx⟩:∃ x,x=w.heap.size:=⟨_,rfl⟩
 have o0:=Own.eD w hx 79 #[.bool false,.int .i64 0,.int .i64 lg] 92 (iV 0 0 0 false 0 0 none 0 0)
 obtain⟨q0,q1,q2⟩:=o0.c3 0;have HO:=zh (zN o0 hc);clear o0 hc;unfold iV at q0 q1 q2
 go_enter Tryz.func56,Tryz.ntmps56
 go_upto_region 2 with (fail)
 have o3:=HO.out.1.alloc (g:=x+1+1) (by rw[hx];simp) 92 (iV 0 0 0 false 0 lg none 0 0);rw[<-hx];clear hx q0 q1 q2;refine aC (Own w [(x,79,#[.bool false,.int .i64 0,.int .i64 lg]),(x+1,92,iV 0 0 0 false 0 0 none 0 0),(x+1+1,92,iV 0 0 0 false 0 lg none 0 0)]) o3 ?_;intro w1 h1;clear o3;have H1:=zh h1;clear h1;go_wp2_with fail
 go_loopw [13] (fun i wr=>∃ (k:Nat) (A':Option Addr) (c':Nat),k<=n/\i=.int .i64 (k:Nat)/\Own w [(x,79,#[.bool false,.int .i64 0,.int .i64 lg]),(x+1,92,iV 0 0 0 false 0 0 none 0 0),(x+1+1,92,aX 0 0 0 false 0 lg A' k c')] wr/\bN wr w.heap.size A' k c' (kT k W)) (fun i _=>n-(intOf i).toNat)
 case atStart=>exact ⟨0,none,0,Nat.zero_le _,rfl,H1.out,bN.zero _ _⟩
 case round=>
  obtain⟨k,A',c',hk,rfl,hO,hT⟩:=hrel;have hc:=HO.out.2.call hO.av;have hn1:=hc.le
  by_cases hlt:k < n
  ·obtain ⟨g,rfl,hgl,u0,u1⟩:=hc.one J
   obtain rfl:k=0:=J;obtain⟨rfl,rfl⟩:=hT.nil rfl;have d0:decide ((0:Int) < (n:Int))=true:=decide_eq_true J;have d5:(0:Int) < (n:Int):=J;have d1:decide (W < 1)=false:=decide_eq_false (by have:=hc.w1;omega);have d2:decide (1099511627776 < W)=false:=decide_eq_false (by have:=hc.w2;omega);have d3:decide (W<=0)=false:=decide_eq_false (by have:=hc.w1;omega);have HB:=zh (zN hO hc);clear hO hT hc hgl;go_upto_region 5 with (fail)
   obtain⟨y,hy⟩:∃ y,y=wr.heap.size:=⟨_,rfl⟩
   have oy:=HB.out.1.alloc hy 46 #[.int .i64 W,.int .i64 0]
   rw[<-hy];refine aC (Own w [(x,79,#[.bool false,.int .i64 0,.int .i64 lg]),(x+1,92,iV 0 0 0 false 0 0 none 0 0),(x+1+1,92,aX 0 0 0 false 0 lg none 0 0),(y,46,#[.int .i64 W,.int .i64 0])]) oy ?_;clear oy u0 u1 hy;intro w5 h5;have hz5:w5.ownsRow w.heap.size 169 5 (.slice none 0 0) 0 []:=⟨rfl,.inl ⟨rfl,rfl⟩⟩
   obtain⟨A7,c7,w7,hrun,hap⟩:=iO (P:=Tryz.prog) (w:=w5) (t:=90) (ty:=90) (cs:=#[.int .i64 W,.int .i64 0,.int .i64 0,.bool false,.string ByteArray.empty]) Tryz.underlying90 Iy rfl J hz5 rfl (List.all_eq_true.1 rfl) J J h5.size;have hr7:=hap.row;rw[List.nil_append] at hr7
   have hb7:Below w5.heap.size w5 w7:=(hap.keeps.mono (fun q _ h=>(nomatch h:False))).fF;have o7:=(h5.take 3).call hb7;have hx7:∀ q,A7.map (·.block)=some q->q≠x+1+1:=fun q hq e=>by
    rcases hap.own q (by rw[jo];exact hq) with h | h
    ·cases h
    ·have:=h5.lt (x+1+1,92,aX 0 0 0 false 0 lg none 0 0) (List.mem_cons_of_mem _ (List.mem_cons_of_mem _ List.mem_cons_self))
     simp only at this
     omega
   obtain⟨w8,hw8⟩:∃ w8,w8=w7.setCell ⟨x+1+1,7,none⟩ (.slice A7 1 c7):=⟨_,rfl⟩
   have o8:Own w [(x,79,#[.bool false,.int .i64 0,.int .i64 lg]),(x+1,92,iV 0 0 0 false 0 0 none 0 0),(x+1+1,92,aX 0 0 0 false 0 lg A7 1 c7)] w8:=by rw[hw8];exact o7.set 2 7 rfl _
   have k8:Keeps (fun q=>q=x+1+1) w7 w8:=by rw[hw8];exact (Keeps.refl (fun q=>q=x+1+1) w7).setCell (fun _=>rfl) _
   have t8:bN w8 w.heap.size A7 1 c7 (kT 1 W):=⟨aG hr7 k8 (fun q hq=>hx7 q (by rw[<-jo A7 1 c7];exact hq)),rfl,List.all_eq_true.1 rfl,Nat.le_refl _,fun h=>absurd h J⟩
   have H8:=zh (zN o8 t8);have HW8:=zh hw8;have s7:=o7.c 2 7;have f7:=o7.free 2 rfl;obtain⟨z0_0,z0_1,z0_2⟩:=h5.c3 0;obtain⟨z1_0,z1_1,z1_2,z1_3,z1_4,z1_5,z1_6,z1_7⟩:=h5.c8 1;obtain⟨z2_0,z2_1,z2_2,z2_3,z2_4,z2_5,z2_6,z2_7⟩:=h5.c8 2;have z3_0:=h5.c2 3;clear h5 hz5 hap hr7 hb7 o7 hx7 o8 k8 t8 hw8;simp only[Int.ofNat_eq_natCast,Int.natCast_zero] at z1_0 z1_1 z1_2 z1_3 z1_4 z1_5 z1_6 z1_7 z2_0 z2_1 z2_2 z2_3 z2_4 z2_5 z2_6 z2_7
   go_wp2_with (at_builtin;refine wpList_append_run rfl (.tmp 39) (.tmp 45) rfl rfl rfl hrun ?_)
   go_roundw
   case rel=>
    obtain rfl:n=1:=J;refine⟨1,A7,c7,Nat.le_refl _,by first | rfl | go_num,?_,?_⟩
    ·rw[<-HW8.out];exact H8.out.1
    ·rw[<-HW8.out];exact H8.out.2
   case measure=>simp[intOf]<;>omega
  ·obtain rfl:k=n:=J
   have d4:decide ((k:Int)<=4)=true:=decide_eq_true J;obtain⟨w3,hw3⟩:∃ wz,wz=((((((((wr.setCell ⟨x+1,0,none⟩ (.int .i64 0)).setCell ⟨x+1,1,none⟩ (.int .i64 0)).setCell ⟨x+1,2,none⟩ (.int .i64 0)).setCell ⟨x+1,3,none⟩ (.bool false)).setCell ⟨x+1,4,none⟩ (.int .i64 0)).setCell ⟨x+1,5,none⟩ (.int .i64 lg)).setCell ⟨x+1,6,none⟩ (.slice none 0 0)).setCell ⟨x+1,7,none⟩ (.slice A' k c')):=⟨_,rfl⟩
   have o3:Own w [(x+1,92,aX 0 0 0 false 0 lg A' k c')] w3:=by rw[hw3];exact (aU.of (hO.sub (List.Sublist.cons _ (List.Sublist.cons_cons _ (List.nil_sublist _)))) rfl).put [.int .i64 0,.int .i64 0,.int .i64 0,.bool false,.int .i64 0,.int .i64 lg,.slice none 0 0,.slice A' k c'] rfl
   have k3:Keeps (fun q=>q=x+1) wr w3:=by rw[hw3];exact ((((((((Keeps.refl (fun q=>q=x+1) wr).setCell (fun _=>rfl) _).setCell (fun _=>rfl) _).setCell (fun _=>rfl) _).setCell (fun _=>rfl) _).setCell (fun _=>rfl) _).setCell (fun _=>rfl) _).setCell (fun _=>rfl) _).setCell (fun _=>rfl) _
   have hT3:bN w3 w.heap.size A' k c' (kT k W):=hT.keep k3 (fun q hq e=>own_ne hT.row (hO.get 1 rfl) (show 169≠92 by decide) (by rw[jo];exact e ▸ hq));have H2:=zh (zN hO (zN o3 hT3));have HW3:=zh hw3;obtain⟨z0_0,z0_1,z0_2⟩:=hO.c3 0;obtain⟨z1_0,z1_1,z1_2,z1_3,z1_4,z1_5,z1_6,z1_7⟩:=hO.c8 1;obtain⟨z2_0,z2_1,z2_2,z2_3,z2_4,z2_5,z2_6,z2_7⟩:=hO.c8 2;have zf1:=hO.free 1 rfl;clear hO o3 hw3 hT hc hT3 k3;simp only[Int.ofNat_eq_natCast,Int.natCast_zero] at z1_0 z1_1 z1_2 z1_3 z1_4 z1_5 z1_6 z1_7 z2_0 z2_1 z2_2 z2_3 z2_4 z2_5 z2_6 z2_7
   go_wp2_with (rw[<-HW3.out]);clear z0_0 z0_1 z0_2 z1_0 z1_1 z1_2 z1_3 z1_4 z1_5 z1_6 z1_7 z2_0 z2_1 z2_2 z2_3 z2_4 z2_5 z2_6 z2_7 zf1;have h3:=H2.out.2.1;obtain⟨z0_0,z0_1,z0_2,z0_3,z0_4,z0_5,z0_6,z0_7⟩:=h3.c8 0;simp only[Int.ofNat_eq_natCast,Int.natCast_zero] at z0_0 z0_1 z0_2 z0_3 z0_4 z0_5 z0_6 z0_7
   refine bodyPost_ret (v:=.tuple #[.agg (aX 0 0 0 false 0 lg A' k c'),.bool true]) (by unfold aX;simp[results,Tryz.results56,go_sem,z0_0,z0_1,z0_2,z0_3,z0_4,z0_5,z0_6,z0_7]) rfl ?_;exact⟨A',c',rfl,H2.out.2.2,h3.av⟩
def TH(n:Nat)(b:Bool)(v p u:Int)(fl:ByteArray): List Value:=if n=0 then [] else [Z v,Z p,Z u,.bool b,.string fl]
theorem Nk(w:World): (zeroValue 4).run Tryz.prog w=.ok (.bool false) w:=by kernel_rfl
def lI(w:World)(M:Nat)(b:Bool)(nm:ByteArray): Prop:=∃ N D,w.ownsMap Tryz.prog 9 eO M N D/\N<=b.toNat/\gT D (lQ b nm (.bool true)) b.toNat
theorem lI.call{w w':World}{M:Nat}{b:Bool}{nm:ByteArray}(h:lI w M b nm)(hb:Below w.heap.size w w'): lI w' M b nm:=by
 obtain⟨N,D,h1,h2⟩:=h;have hM:w'.heap[M]? = w.heap[M]?:=hb.block M (World.ownsMap.lt h1);obtain⟨es,clock,e1,e2⟩:=h1;exact⟨N,D,⟨es,clock,by rw[hM];exact e1,e2⟩,h2⟩
theorem lI.made(w:World)(nm:ByteArray): lI (w.alloc (.map #[] 0)) w.heap.size false nm:=
 ⟨0,.map [],World.ownsMap_made _ _ _ _,Nat.le_refl _,by rw[mW];exact gT.nil⟩
theorem lI.look{w:World}{M:Nat}{b:Bool}{nm:ByteArray}(h:lI w M b nm)(hs:nm.size<=64):
  (Instr.lookup 125 (.map (some M)) (.string nm) false).run Tryz.prog w=.ok (.bool b) w:=by
 obtain⟨N,D,h1,h2,h3⟩:=h;have:=vD 125 4 Tryz.underlying125 (.bool false) Nk h1 h3 nm (by unfold maxLen;omega);rw[this];unfold lQ
 cases b<;>simp
theorem lI.upd{w:World}{M:Nat}{nm:ByteArray}(h:lI w M false nm)(hs:nm.size<=64):
  ∃ w',(Instr.mapUpdate 125 (.map (some M)) (.string nm) (.bool true)).run Tryz.prog w=.ok () w'/\lI w' M true nm/\w.grownBy w' (some M)/\M < w.heap.size:=by
 obtain⟨N,D,h1,h2,h3⟩:=h;rw[mW] at h3
 have h20:N=0:=Nat.le_zero.1 h2;have hs2:nm.size<=maxLen:=by unfold maxLen;omega
 obtain⟨w',hr,hown,hg⟩:=Df (kl:=fV) law Tryz.underlying125 (show N < maxLen by unfold maxLen;omega) h1 (mO hs2) (.bool true);refine⟨w',hr,⟨N+1,_,hown,by show N+1<=1;omega,?_⟩,hg,World.ownsMap.lt h1⟩;have:=h3.put nm (.bool true);rw[Fj] at this
 exact this
theorem MG{w0 w w':World}{L:List (Nat × TypeId × Array Value)}{M:Nat}(h:Own w0 L w)(hg:w.grownBy w' (some M))(hM:w0.heap.size<=M)(hne:∀ bq ∈ L,bq.1≠M): Own w0 L w':=by
 have k7:Keeps (fun q=>q=M) w w':=(Keeps.refl (fun q=>q=M) w).grown hg (fun k e _=>by injection e with e;exact e.symm);exact⟨h.av.trans (k7.below h.size (fun k hk e=>J)),fun bq hbq=>⟨(h.blk bq hbq).1,(h.blk bq hbq).2.keeps k7 (fun e=>hne bq hbq e)⟩,h.nd⟩
def KL(w:World)(b:Bool)(nm:ByteArray)(e:Ending)(w':World): Prop:=∃ Mn,e=.returned (.map (some Mn))/\lI w' Mn b nm/\Below w.heap.size w w'
theorem wV(w:World)(B N R q:Nat)(s:Bool)(la lg:Int)(A:Option Addr)(n c:Nat)(b:Bool)(v p u:Int)(fl:ByteArray)(hT:bN w B A n c (TH n b v p u fl))(hs:fl.size<=64):
  Calls Tryz.prog 59 #[.agg (aX N R q s la lg A n c)] w (KL w (b && decide (0 < n)) fl):=by
 obtain⟨x,hx⟩:∃ x,x=w.heap.size:=⟨_,rfl⟩
 have o0:=Own.bn w hx 92 (aX N R q s la lg A n c);have hmm:=@run_makeMap Tryz.prog;have hn1:=hT.le;have HO:=zh (zN o0 hT);clear o0 hT;unfold aX
 go_enter Tryz.func59,Tryz.ntmps59
 go_upto_region 2 with (fail)
 have hxx:x+1=(w.alloc (.cells (aX N R q s la lg A n c) 92)).heap.size:=by rw[hx];simp
 rw[<-hx];clear hx;refine aC (fun wx=>Own w [(x,92,aX N R q s la lg A n c)] wx/\lI wx (x+1) false fl) ⟨HO.out.1.call ((Below.refl _ _).alloc (Nat.le_refl _) _),by rw[hxx];exact lI.made _ _⟩ ?_;rintro w1 ⟨h1,m1⟩;clear hxx hmm;have HM:=zh m1;have z0_0:=h1.c8 0;have H1:=zh h1;clear h1 m1;go_wp2_with fail;clear z0_0
 go_loopw [12] (fun i wr=>i=.int .i64 0/\wr=w1) (fun _ _=>0)
 case atStart=>exact ⟨rfl,rfl⟩
 case round=>
  obtain⟨rfl,rfl⟩:=hrel;have h1:=H1.out;have z0_0:=h1.c8 0;clear h1;go_wp2_with fail;clear z0_0
  go_loopw [23] (fun i wy=>∃ k:Nat,k<=n/\i=.int .i64 (k:Nat)/\lI wy (x+1) (b && decide (0 < k)) fl/\Own w [(x,92,aX N R q s la lg A n c)] wy) (fun i _=>n-(intOf i).toNat)
  case atStart=>exact ⟨0,Nat.zero_le _,rfl,by simpa using HM.out,H1.out⟩
  case round=>
   obtain⟨k,hk,rfl,m2,h2⟩:=hrel
   by_cases hlt:k < n
   ·obtain rfl:k=0:=J
    obtain rfl:n=1:=J;obtain⟨g,rfl,-,hgl,hc⟩:=(HO.out.2.call h2.av).GY;have v0:=hc 0 _ rfl;have v1:=hc 1 _ rfl;have v2:=hc 2 _ rfl;have v3:=hc 3 _ rfl;have v4:=hc 4 _ rfl;have m3:lI wr (x+1) false fl:=by simpa using m2
    have H2:=zh (zN m3 h2);clear m2 m3 h2 hc hgl;obtain⟨wo,rfl⟩:∃ wo,wo=wr:=⟨wr,rfl⟩
    cases b with
    | false=>
     go_upto_region 10 with (fail)
     obtain⟨y,hy⟩:∃ y,y=wo.heap.size:=⟨_,rfl⟩
     have oy:=Own.bn wo hy 169 #[.int .i64 v,.int .i64 p,.int .i64 u,.bool false,.string fl]
     rw[<-hy];refine aC (Own wo [(y,169,#[.int .i64 v,.int .i64 p,.int .i64 u,.bool false,.string fl])]) oy ?_;clear oy hy v0 v1 v2 v3 v4;intro w5 h5;have z0_0:=h5.c5 0;have H5:=zh (zN (H2.out.1.call h5.av) (H2.out.2.call h5.av));clear h5;go_wp2_with fail
     go_roundw
     case rel=>exact ⟨1,J,by first | rfl | go_num,H5.out⟩
     case measure=>simp[intOf]<;>omega
    | true=>
     go_upto_region 10 with (fail)
     obtain⟨y,hy⟩:∃ y,y=wo.heap.size:=⟨_,rfl⟩
     have oy:=Own.bn wo hy 169 #[.int .i64 v,.int .i64 p,.int .i64 u,.bool true,.string fl]
     rw[<-hy];refine aC (Own wo [(y,169,#[.int .i64 v,.int .i64 p,.int .i64 u,.bool true,.string fl])]) oy ?_;clear oy hy v0 v1 v2 v3 v4;intro w5 h5;have z0_0:=h5.c5 0;obtain⟨w7,hupd,hm7,hg7,hlt7⟩:=(H2.out.1.call h5.av).upd hs;have ho7:Own w [(x,92,aX N R q s la lg (some ⟨g,0,none⟩) 1 c)] w7:=by
      have ho5:=H2.out.2.call h5.av;exact MG ho5 hg7 (by have:=ho5.geq 0 rfl;omega) (fun bq hbq=>by
       simp only[List.mem_singleton] at hbq
       subst hbq;show x≠x+1
       omega)
     have H5:=zh (zN hm7 ho7);clear h5 hm7 hg7 ho7 hlt7;go_wp2_with fail
     go_roundw
     case rel=>exact ⟨1,J,by first | rfl | go_num,H5.out⟩
     case measure=>simp[intOf]<;>omega
   ·obtain rfl:k=n:=J
    have HB:=zh (zN m2 h2);clear m2 h2;go_wp2_with fail;go_ret;exact⟨_,rfl,HB.out.1,HB.out.2.av⟩
theorem ou(a j:Nat)(c:UInt8): Lib.hasPrefix (aW a j).data.toList [c]=(c == UInt8.ofNat a):=by
 unfold aW ji Lib.hasPrefix;simp[List.isPrefixOf]
theorem qF{a b i j:Nat}(h:(UInt8.ofNat a == UInt8.ofNat b)=false): aW a i≠aW b j:=fun e=>by
 have h1:=congrArg (fun z:ByteArray=>Lib.hasPrefix z.data.toList [UInt8.ofNat a]) e;simp only[ou] at h1
 rw[h] at h1
 simp at h1
theorem vG(a j:Nat): oQ≠aW a j:=fun e=>by
 have h:=congrArg ByteArray.size e;rw[cu] at h
 exact absurd h (by decide)
theorem Sy{p:ByteArray->Option FS}{rb:Option (List Nat)}(h:lJ (fb p) rb): ∀ t,(p t).isSome=true->(Lib.hasPrefix t.data.toList (⟨#[114]⟩:ByteArray).data.toList=decide (t=aW 114 0)):=fun t ht=>by
 have hne:fb p t≠none:=by
  unfold fb
  cases hp:p t with
  | none=>rw[hp] at ht;cases ht
  | some a=>simp
 rcases h.nam t hne with ⟨j,rfl⟩ | rfl | ⟨rfl,-⟩
 ·rw[decide_eq_false (qF (by decide))]
  exact ou 119 j 114
 ·rw[decide_eq_false (vG 114 0)]
  rfl
 ·rw[decide_eq_true rfl]
  exact ou 114 0 114
theorem Mx{p:ByteArray->Option FS}{rb:Option (List Nat)}(h:lJ (fb p) rb): p (aW 115 0)=none/\∀ t,(p t).isSome=true->(Lib.hasPrefix t.data.toList (⟨#[115]⟩:ByteArray).data.toList=decide (t=aW 115 0)):=by
 have key:∀ t,(p t).isSome=true->t≠aW 115 0/\Lib.hasPrefix t.data.toList (⟨#[115]⟩:ByteArray).data.toList=false:=fun t ht=>by
  have hne:fb p t≠none:=by
   unfold fb
   cases hp:p t with
   | none=>rw[hp] at ht;cases ht
   | some a=>simp
  rcases h.nam t hne with ⟨j,rfl⟩ | rfl | ⟨rfl,-⟩
  ·exact ⟨qF (by decide),ou 119 j 115⟩
  ·exact ⟨vG 115 0,rfl⟩
  ·exact ⟨qF (by decide),ou 114 0 115⟩
 refine⟨?_,fun t ht=>?_⟩
 ·cases hp:p (aW 115 0) with
  | none=>rfl
  | some a=>exact absurd rfl (key _ (by rw[hp];rfl)).1
 ·rw[(key t ht).2,decide_eq_false (key t ht).1]
theorem GJ(w:World)(A:Option Addr)(n c:Nat)(h:n<=c)(ty:TypeId): (Builtin.append_ #[110,110] ty #[.slice A n c,.slice none 0 0]).run Tryz.prog w=.ok (.slice A n c) w:=by
 obtain⟨i,hi,hz,hs,hb⟩:=info_parts Bg;simp[Builtin.append_,run_underlying Tryz.underlying110,sizeOf,typeInfo,hi,Builtin.lenOf,Builtin.firstCells,storeCells,h]
 cases A<;>rfl
theorem ze(w:World)(st d M:Nat)(f:ByteArray->Option FS)(room T G N R q:Nat)(s:Bool)(la lg:Int)(A:Option Addr)(n c:Nat)(b:Bool)(v p u:Int)(fl:ByteArray)(rb:Option (List Nat))(hst:iN w st d N R q s la lg A n c (TH n b v p u fl))(hD:bD w d M f room T G)(hnam:lJ (fb f) rb)(hb:rb≠none->b=true/\0 < n/\fl=aW 114 0)(hs:fl.size<=64):
  Calls Tryz.prog 60 #[.pointer (some ⟨st,0,none⟩)] w fun e w'=>e=.returned (.int .i64 0)/\Below w.heap.size w w':=by
 have z0_0:w.cell? ⟨st,1,none⟩=some (.int .i64 (N:Nat)):=hst.blk.cell 1;have z0_1:w.cell? ⟨st,2,none⟩=some (.int .i64 (R:Nat)):=hst.blk.cell 2;have z0_2:w.cell? ⟨st,3,none⟩=some (.int .i64 (q:Nat)):=hst.blk.cell 3;have z0_3:w.cell? ⟨st,4,none⟩=some (.bool s):=hst.blk.cell 4;have z0_4:w.cell? ⟨st,5,none⟩=some (.int .i64 la):=hst.blk.cell 5;have z0_5:w.cell? ⟨st,6,none⟩=some (.int .i64 lg):=hst.blk.cell 6;have z0_6:w.cell? ⟨st,7,none⟩=some (.slice none 0 0):=hst.blk.cell 7;have z0_7:w.cell? ⟨st,8,none⟩=some (.slice A n c):=hst.blk.cell 8;have hp:(f (aW 114 0)).isSome=true->b=true/\0 < n/\fl=aW 114 0:=fun h=>by
  have hne:fb f (aW 114 0)≠none:=by
   unfold fb
   cases hp:f (aW 114 0) with
   | none=>rw[hp] at h;cases h
   | some a=>simp
  rcases hnam.nam _ hne with ⟨j,e⟩ | e | ⟨-,h2⟩
  ·exact absurd e (qF (by decide))
  ·exact absurd e.symm (vG 114 0)
  ·exact hb h2
 have hc:=wV w 0 N R q s la lg A n c b v p u fl hst.row hs;have kr:=fun wx (hDx:bD wx d M f room T G)=>hDx.ex.elim fun us h=>h.elim fun op h=>h.elim fun cc h=>BQ wx d M ⟨#[114]⟩ (aW 114 0) f room us op cc h.1 (Sy hnam)
 have ks:=fun wx (hDx:bD wx d M f room T G)=>hDx.ex.elim fun us h=>h.elim fun op h=>h.elim fun cc h=>BQ wx d M ⟨#[115]⟩ (aW 115 0) f room us op cc h.1 (Mx hnam).2
 rw[(Mx hnam).1] at ks
 obtain⟨nm,hnm⟩:∃ z,z=aW 114 0:=⟨_,rfl⟩
 rw[<-hnm] at hp kr
 obtain⟨bb,hbb⟩:∃ z,z=(f nm).isSome:=⟨_,rfl⟩
 rw[<-hbb] at hp kr
 have HD:=zh (zN hst (zN hD hp));clear hst hD hp hnam hb hnm hbb
 go_enter Tryz.func60,Tryz.ntmps60
 go_wp2_with fail;clear z0_0 z0_1 z0_2 z0_3 z0_4 z0_5 z0_6 z0_7;unfold aX at hc
 refine hc.mono ?_;clear hc;rintro e w1 ⟨Mn,rfl,hm1,hb1⟩;have HM:=zh (zN hm1 hb1);have hst1:=HD.out.1.call hb1;have hD1:=HD.out.2.1.call hb1;have H1:=zh (zN hst1 hD1);have hS:=(Below.refl w1.heap.size w1).drew;clear hb1 hm1 hst1 hD1;go_wp2_with fail;have hS:(Below w1.heap.size w1) (w1.drew):=hS;refine aA (Below w1.heap.size w1) (by kernel_rfl) hS ?_;refine zB [0,1,2,3,5,6,7,8,12] ?_;iterate 9 (refine zV ?_ ?_ hS ?_;rotate_left;(intro w' hSw;have u0:=fH hSw (H1.out.1.blk.cell 0);go_simp<;>with_reducible rfl);try simp only[zP])
 refine zE ?_;refine zC 4 fun K HK=>?_
 go_simp;refine(kr w1.drew (H1.out.2.call hS)).mono ?_;rintro e w2 ⟨A1,c1,rfl,hr2,hb2,hz2⟩;have h2:=V.aB hS hb2;have HR:=zh (zN hr2 hz2);clear hb2 hr2 hz2;go_wp2_with fail;refine HK.out.zt (Below w1.heap.size w1) (fun _ h=>h) (h2) ?_;clear HK hS;intro hS;try simp only[zP]
 refine zC 9 fun K HK=>?_
 go_simp;refine(ks w2 (H1.out.2.call h2)).mono ?_;rintro e w3 ⟨A2,c2,rfl,hr3,hb3,hz3⟩;obtain⟨rfl,rfl⟩:=hz3 rfl;have h3:=V.aB h2 hb3;have hr3':=V.cO HR.out.1 hb3;obtain⟨A',c',e1,hcc,hg⟩:=aH hr3';injection e1 with ea eb ec
 subst ea;subst ec;have HR3:=zh (zN hr3' (zN h3 hg));have hrun:=GJ w3 A1 bb.toNat c1 hcc;clear hb3 hr3 hz3 hr3' hcc hg;go_wp2_with fail;refine HK.out.zt (Below w1.heap.size w1) (fun _ h=>h) (h3) ?_;clear HK hS;intro hS;try simp only[zP]
 refine zC 10 fun K HK=>?_
 refine dA rfl (.tmp 16) (.tmp 21) rfl rfl rfl (hrun _) ?_;refine HK.out.zt (Below w1.heap.size w1) (fun _ h=>h) (h3) ?_;clear HK hS;intro hS;try simp only[zP]
 refine zt 11 hS ?_;try simp only[zP]
 refine zD ?_;try simp only[zP]
 clear hS h2 h3 hrun
 cases bb with
 | false=>
  go_wp2_with fail
  go_loopw [24] (fun i wy=>i=.int .i64 0/\wy=w3) (fun _ _=>0)
  case atStart=>exact ⟨rfl,rfl⟩
  case round=>
   obtain⟨rfl,rfl⟩:=hrel;go_wp2_with fail;go_ret;exact⟨rfl,V.aB HM.out.2 HR3.out.2.1⟩
 | true=>
  obtain⟨hb1,hn,hfl⟩:=HD.out.2.2 rfl;obtain⟨g,rfl,-,hgl⟩:=HR3.out.2.2 (show 0 < 1 by omega);have hl:=(HM.out.1.call HR3.out.2.1).look hs;have u1:=World.ownsRow.cells HR3.out.1 (g:=g) rfl 0 (.string nm) rfl;rw[hb1,decide_eq_true hn,hfl] at hl
  rw[iE] at u1
  have HL:=zh (zN hl u1);clear hl u1 hb1 hn hfl hgl;go_wp2_with fail
  go_loopw [24] (fun i wy=>(i=.int .i64 0\/i=.int .i64 1)/\wy=w3) (fun i _=>1-(intOf i).toNat)
  case atStart=>exact ⟨.inl rfl,rfl⟩
  case round=>
   obtain⟨rfl | rfl,rfl⟩:=hrel
   ·have hl:=HL.out.1
    have u1:=HL.out.2;go_wp2_with fail
    go_roundw
    case rel=>first | exact ⟨.inr (by first | rfl | go_num),rfl⟩ | simp
    case measure=>simp[intOf]<;>omega
   ·go_wp2_with fail
    go_ret;exact⟨rfl,V.aB HM.out.2 HR3.out.2.1⟩
theorem ET: lJ (fb fun _=>none) none:=⟨fun t h=>absurd rfl h,fun bs h=>nomatch h⟩
def RH(w:World)(d:Nat)(lg:Int)(n:Nat)(W:Int)(e:Ending)(w':World): Prop:=
 ∃ st A c,e=.returned (.tuple #[.pointer (some ⟨st,0,none⟩),Z 0])/\w.heap.size<=st/\ay w' st 128 (qM d 0 0 0 false 0 lg A n c)/\bN w' w.heap.size A n c (kT n W)/\Below w.heap.size w w'
theorem Gp(w:World)(d M:Nat)(room T:Nat)(lg:Int)(A0:Option Addr)(n c0:Nat)(W:Int)(hD:bD w d M (fun _=>none) room T 0)(hlg:V.dx false 0 lg=true)(hcf:Bn w A0 n c0 W):
  Calls Tryz.prog 23 #[.pointer (some ⟨d,0,none⟩),.int .i64 lg,.slice A0 n c0] w (RH w d lg n W):=by
 have HD:=zh (zN hD (zN hlg hcf));have nf:∀ w:World,(Op.unary .not (.bool false)).run Tryz.prog w=.ok (.bool true) w:=eP
 have nt:∀ w:World,(Op.unary .not (.bool true)).run Tryz.prog w=.ok (.bool false) w:=bJ
 clear hD hlg hcf
 go_enter Tryz.func23,Tryz.ntmps23
 go_wp2_with fail;refine(jA w d M _ _ room T 0 HD.out.1 rfl (by decide)).mono ?_;rintro e w1 ⟨rfl,hb1⟩;have H1:=zh hb1;clear hb1;go_wp2_with fail;refine(V.Sz lg w1 HD.out.2.1).mono ?_;rintro e w2 ⟨rfl,hb2⟩;have H2:=zh (V.aB H1.out hb2);clear hb2;go_upto_region 5 with (fail)
 obtain⟨x,hx⟩:∃ x,x=w2.heap.size:=⟨_,rfl⟩
 rw[<-hx];refine aC (Own w [(x,79,#[.bool false,.int .i64 0,.int .i64 lg])]) (((Own.start w).call H2.out).alloc hx _ _) ?_;intro w3 h3;have H3:=zh h3;have z0_0:=h3.c3 0;clear h3 hx;go_wp2_with fail;clear z0_0;refine(Gb w3 lg A0 n c0 W (HD.out.2.2.call H3.out.av)).mono ?_;rintro e w4 ⟨A,c,rfl,hT4,hb4⟩;unfold aX;have H4:=zh (H3.out.call hb4);have HT4:=zh (hT4.base H3.out.size);clear hb4 hT4;go_upto_region 6 with (fail)
 obtain⟨y,hy⟩:∃ y,y=w4.heap.size:=⟨_,rfl⟩
 rw[<-hy];have al5:Below w4.heap.size w4 (w4.alloc (.cells (aX 0 0 0 false 0 lg A n c) 92)):=(Below.refl _ _).alloc (Nat.le_refl _) _;refine aC (fun wx=>Own w [(x,79,#[.bool false,.int .i64 0,.int .i64 lg]),(y,92,aX 0 0 0 false 0 lg A n c)] wx/\bN wx w.heap.size A n c (kT n W)) ⟨H4.out.alloc hy _ _,HT4.out.call al5⟩ ?_;clear al5;rintro w5 ⟨h5,hT5⟩;have H5:=zh h5;have HT5:=zh hT5;clear h5 hy hT5;go_wp2_with fail;refine(LW w5 d M _ room T 0 (HD.out.1.call H5.out.av) rfl).mono ?_;rintro e w6 ⟨rfl,hb6⟩;unfold iV;have H6:=zh (H5.out.call hb6);have HT6:=zh (HT5.out.call hb6);clear hb6;go_upto_region 9 with (fail)
 obtain⟨z,hz⟩:∃ z,z=w6.heap.size:=⟨_,rfl⟩
 rw[<-hz];have al7:Below w6.heap.size w6 (w6.alloc (.cells (iV 0 0 0 false 0 0 none 0 0) 92)):=(Below.refl _ _).alloc (Nat.le_refl _) _;refine aC (fun wx=>Own w [(x,79,#[.bool false,.int .i64 0,.int .i64 lg]),(y,92,aX 0 0 0 false 0 lg A n c),(z,92,iV 0 0 0 false 0 0 none 0 0)] wx/\bN wx w.heap.size A n c (kT n W)) ⟨H6.out.alloc hz _ _,HT6.out.call al7⟩ ?_;clear al7;rintro w7 ⟨h7,hT7⟩;obtain⟨w8,hw8⟩:∃ wz,wz=((((((((w7.setCell ⟨z,0,none⟩ (.int .i64 0)).setCell ⟨z,1,none⟩ (.int .i64 0)).setCell ⟨z,2,none⟩ (.int .i64 0)).setCell ⟨z,3,none⟩ (.bool false)).setCell ⟨z,4,none⟩ (.int .i64 0)).setCell ⟨z,5,none⟩ (.int .i64 lg)).setCell ⟨z,6,none⟩ (.slice none 0 0)).setCell ⟨z,7,none⟩ (.slice A n c)):=⟨_,rfl⟩
 have o8:Own w [(z,92,aX 0 0 0 false 0 lg A n c)] w8:=by rw[hw8];exact (aU.of (h7.sub (List.Sublist.cons _ (List.Sublist.cons _ (List.Sublist.cons_cons _ (List.nil_sublist _))))) rfl).put [.int .i64 0,.int .i64 0,.int .i64 0,.bool false,.int .i64 0,.int .i64 lg,.slice none 0 0,.slice A n c] rfl
 have k8:Keeps (fun q=>q=z) w7 w8:=by rw[hw8];exact ((((((((Keeps.refl (fun q=>q=z) w7).setCell (fun _=>rfl) _).setCell (fun _=>rfl) _).setCell (fun _=>rfl) _).setCell (fun _=>rfl) _).setCell (fun _=>rfl) _).setCell (fun _=>rfl) _).setCell (fun _=>rfl) _).setCell (fun _=>rfl) _
 have hT8:bN w8 w.heap.size A n c (kT n W):=hT7.keep k8 (fun q hq e=>own_ne hT7.row (h7.get 2 rfl) (show 169≠92 by decide) (by rw[jo];exact e ▸ hq));have H8:=zh o8;have HT8:=zh hT8;have HW8:=zh hw8;have z0_0:=h7.c3 0;obtain⟨z1_0,z1_1,z1_2,z1_3,z1_4,z1_5,z1_6,z1_7⟩:=h7.c8 1;obtain⟨z2_0,z2_1,z2_2,z2_3,z2_4,z2_5,z2_6,z2_7⟩:=h7.c8 2;have zf2:=h7.free 2 rfl;obtain⟨y0_0,y0_1,y0_2,y0_3,y0_4,y0_5,y0_6,y0_7⟩:=o8.c8 0;simp only[Int.ofNat_eq_natCast,Int.natCast_zero] at z1_0 z1_1 z1_2 z1_3 z1_4 z1_5 z1_6 z1_7 z2_0 z2_1 z2_2 z2_3 z2_4 z2_5 z2_6 z2_7 y0_0 y0_1 y0_2
 clear h7 hz hw8 o8 hT7 k8 hT8;go_wp2_with (rw[<-HW8.out]);clear z0_0 z1_0 z1_1 z1_2 z1_3 z1_4 z1_5 z1_6 z1_7 z2_0 z2_1 z2_2 z2_3 z2_4 z2_5 z2_6 z2_7 zf2;have hc:=wV w8 w.heap.size 0 0 0 false 0 lg A n c false W 0 0 ByteArray.empty HT8.out (by decide);unfold aX at hc
 simp only[Int.ofNat_eq_natCast,Int.natCast_zero] at hc
 refine hc.mono ?_;clear hc y0_0 y0_1 y0_2 y0_3 y0_4 y0_5 y0_6 y0_7;rintro e w9 ⟨Mn,rfl,hm9,hb9⟩;have H9:=zh (H8.out.call hb9);have HT9:=zh (HT8.out.call hb9);obtain⟨N9,D9,ho9,hN9,hF9⟩:=hm9;obtain rfl:N9=0:=Nat.le_zero.1 hN9;obtain⟨w10,hr10,hrg10,hg10,hs10⟩:=ho9.range law Tryz.underlying125;have hb10:Below w9.heap.size w9 w10:=(Below.refl _ _).grown hg10 (Nat.le_refl _) (fun k hk=>by cases hk);have hnx:(Instr.next (.pointer (some ⟨w9.heap.size,0,none⟩)) false 0).run Tryz.prog w10=.ok (.tuple #[.bool false]) w10:=by
  rcases hrg10.next law 0 with ⟨-,-,hnx⟩ | ⟨key,v,kl,y,w3,cnt',-,-,-,-,-,-,hlt,-⟩
  ·exact hnx
  ·have h0:Maps.size D9<=0:=hF9.sz
   exact absurd hlt J
 have H10:=zh (H9.out.call hb10);have HT10:=zh (HT9.out.call hb10);clear hb9 hrg10 hg10 hs10 ho9 hN9 hb10 hF9;go_wp2_with fail
 go_loopw [16] (fun o wr=>wr=w10) (fun _ _=>0)
 case atStart=>rfl
 case round=>
  obtain rfl:=hrel;have h10:=H10.out;obtain⟨y0_0,y0_1,y0_2,y0_3,y0_4,y0_5,y0_6,y0_7⟩:=h10.c8 0;simp only[Int.ofNat_eq_natCast,Int.natCast_zero] at y0_0 y0_1 y0_2
  clear h10;go_upto_region 22 with (fail)
  obtain⟨st,hst⟩:∃ x,x=wr.heap.size:=⟨_,rfl⟩
  rw[<-hst];have al11:Below wr.heap.size wr (wr.alloc (.cells (qM d 0 0 0 false 0 lg A n c) 128)):=(Below.refl _ _).alloc (Nat.le_refl _) _;refine aC (fun wx=>Own w [(z,92,aX 0 0 0 false 0 lg A n c),(st,128,qM d 0 0 0 false 0 lg A n c)] wx/\bN wx w.heap.size A n c (kT n W)) ⟨H10.out.alloc hst _ _,HT10.out.call al11⟩ ?_;clear al11;rintro w11 ⟨h11,hT11⟩;have H11:=zh h11;have HT11:=zh hT11;clear h11 hst hT11 y0_0 y0_1 y0_2 y0_3 y0_4 y0_5 y0_6 y0_7;go_wp2_with fail;refine(ze w11 st d M _ room T 0 0 0 0 false 0 lg A n c false W 0 0 ByteArray.empty none ⟨H11.out.get 1 rfl,HT11.out.base (Nat.zero_le _)⟩ (HD.out.1.call H11.out.av) ET (fun h=>absurd rfl h) (by decide)).mono ?_;rintro e w12 ⟨rfl,hb12⟩;have H12:=zh (H11.out.call hb12);have HT12:=zh (HT11.out.call hb12);clear hb12;go_wp2_with fail;go_ret2;exact⟨st,A,c,rfl,H12.out.geq 1 rfl,H12.out.get 1 rfl,HT12.out,H12.out.av⟩
def SE: ByteArray->Option FS:=fun _=>none
def newX(st d M l t Mt T:Nat)(An:Option Addr)(nt cn:Nat)(W:Int): bM:=⟨st,d,M,l,t,Mt,SE,T,0,0,An,nt,cn,kT nt W,none,none,0,fun _=>0,0,0,0,none,0,[],0,0,false,0,0⟩
def gU(lg:Int)(most limit:Nat)(A0:Option Addr)(n c0:Nat): Array Value:=#[Z lg,Z (-1),Z (most:Nat),Z (limit:Nat),.slice A0 n c0]
def KM(B:Nat)(w0 w:World)(d M T:Nat)(lg:Int)(room limit most n:Nat)(W:Int)(u:Ending)(w':World): Prop:=
 ∃ e st l t Mt An cn,u=.returned (.tuple #[.pointer (some ⟨e,0,none⟩),Z 0])/\bG B w0 w' e lg room limit most (newX st d M l t Mt T An n cn W)/\Below w.heap.size w w'
theorem zk(B:Nat)(w0 w:World)(d M room T:Nat)(lg:Int)(most limit:Nat)(A0:Option Addr)(n c0:Nat)(W:Int)(hcf:Bn w A0 n c0 W)(hB:B<=w0.heap.size)(hbel:Below B w0 w)(hD:bD w d M SE room T 0)(hlo:∀ r,aM d M SE r->B<=r)(he:V.dh w0/\0 < B)(hlg:V.dx false 0 lg=true)(hm1:1<=most)(hm2:most<=65536)(hl1:1<=limit)(hl2:limit<=1048576):
  Calls Tryz.prog 8 #[.pointer (some ⟨d,0,none⟩),.agg (gU lg most limit A0 n c0)] w (KM B w0 w d M T lg room limit most n W):=by
 obtain⟨y,hy⟩:∃ y,y=w.heap.size:=⟨_,rfl⟩
 have o0:=Own.bn w hy 32 (gU lg most limit A0 n c0);have HD:=zh (zN hbel (zN hD (zN hlo (zN he (zN hlg (zN o0 hcf))))));clear hbel hD hlo he hlg o0 hcf;unfold gU
 go_enter Tryz.func8,Tryz.ntmps8
 go_wp2_with fail;rw[<-hy];clear hy;refine bQ (Own w [(y,32,gU lg most limit A0 n c0)]) HD.out.2.2.2.2.2.1 ?_;intro w1 o1;refine(jA w1 d M _ _ room T 0 (HD.out.2.1.call o1.av) (by rfl) (by decide)).mono ?_;rintro u w2 ⟨rfl,hb2⟩;have h2:=o1.call hb2;obtain⟨z0_0,z0_1,z0_2,z0_3,z0_4⟩:=h2.c5 0;obtain⟨z,hz⟩:∃ z,z=w2.heap.size:=⟨_,rfl⟩
 have o3:=h2.alloc hz 81 #[.int .i64 (-1),.pointer none,.pointer none,.pointer none,.bool false,.int .i64 0,.int .i64 0,.int .i64 0,.bool false]
 have H2:=zh o3;clear o1 hb2 h2 o3;go_upto_region 8 with (fail)
 rw[<-hz];clear hz z0_0 z0_1 z0_2 z0_3 z0_4;refine aC (Own w [(y,32,gU lg most limit A0 n c0),(z,81,#[.int .i64 (-1),.pointer none,.pointer none,.pointer none,.bool false,.int .i64 0,.int .i64 0,.int .i64 0,.bool false])]) H2.out ?_;intro w3 o3;have z2:=o3.c 0 2;have H3:=zh o3;clear o3;go_wp2_with fail;refine(LZ w3 most hm1 hm2).mono ?_;rintro u w4 ⟨t,Mt,rfl,hMt,ht,hT4,hb4⟩;have h4:=H3.out.call hb4;obtain⟨z0_0,z0_1,z0_2,z0_3,z0_4⟩:=h4.c5 0;obtain⟨z1_0,z1_1,z1_2,z1_3,z1_4,z1_5,z1_6,z1_7,z1_8⟩:=h4.c9 1;have zf1:=h4.free 1 rfl;have hzt:z < w3.heap.size:=H3.out.lt _ (List.mem_cons_of_mem _ (List.mem_singleton.2 rfl));have H4:=zh (zN h4 (zN hT4 (zN hMt ht)));clear z2 h4 hb4 hT4 hMt ht;go_upto_region 11 with (fail)
 refine aC (fun wx=>Own w [(y,32,gU lg most limit A0 n c0),(z,81,#[.int .i64 (-1),.pointer none,.pointer none,.pointer (some ⟨t,0,none⟩),.bool false,.int .i64 0,.int .i64 0,.int .i64 0,.bool false])] wx/\Keeps (fun q=>q=z) w4 wx) ⟨H4.out.1.set 1 3 rfl _,(Keeps.refl (fun q=>q=z) w4).setCell (fun _=>rfl) _⟩ ?_;rintro w5 ⟨h5,k5⟩;clear z0_0 z0_1 z0_2 z0_3 z0_4 z1_0 z1_1 z1_2 z1_3 z1_4 z1_5 z1_6 z1_7 z1_8 zf1;obtain⟨z0_0,z0_1,z0_2,z0_3,z0_4⟩:=h5.c5 0;have H5:=zh (zN h5 k5);have hD5:=HD.out.2.1.call h5.av;clear h5 k5;go_wp2_with fail;refine(Gp w5 d M room T lg A0 n c0 W hD5 HD.out.2.2.2.2.1 (HD.out.2.2.2.2.2.2.call H5.out.1.av)).mono ?_;rintro u w6 ⟨st,An,cn,rfl,hst,hBk6,hTi6,hb6⟩;have hTi6':=hTi6.base H5.out.1.size;have hS6:iN w6 st d 0 0 0 false 0 lg An n cn (kT n W):=⟨hBk6,hTi6.base (Nat.zero_le _)⟩
 have hlo6:∀ r,jq st An r->w5.heap.size<=r:=fun r hr=>by
  rcases hr with rfl | hr
  ·exact hst
  ·exact (hTi6.lt hr).1
 have HL6:=zh hlo6;clear hBk6 hTi6 hTi6' hlo6;have h6:=H5.out.1.call hb6;clear z0_0 z0_1 z0_2 z0_3 z0_4 hD5;obtain⟨z0_0,z0_1,z0_2,z0_3,z0_4⟩:=h6.c5 0;obtain⟨z1_0,z1_1,z1_2,z1_3,z1_4,z1_5,z1_6,z1_7,z1_8⟩:=h6.c9 1;have zf1:=h6.free 1 rfl;have H6:=zh (zN h6 (zN hS6 (zN hst (H5.out.2.trans' (Keeps.of_below hb6)))));clear h6 hS6 hst hb6;go_upto_region 15 with (fail)
 refine aC (fun wx=>Own w [(y,32,gU lg most limit A0 n c0),(z,81,#[.int .i64 (-1),.pointer (some ⟨st,0,none⟩),.pointer none,.pointer (some ⟨t,0,none⟩),.bool false,.int .i64 0,.int .i64 0,.int .i64 0,.bool false])] wx/\Keeps (fun q=>q=z) w6 wx) ⟨H6.out.1.set 1 1 rfl _,(Keeps.refl (fun q=>q=z) w6).setCell (fun _=>rfl) _⟩ ?_;rintro w7 ⟨h7,k7⟩;clear z0_0 z0_1 z0_2 z0_3 z0_4 z1_0 z1_1 z1_2 z1_3 z1_4 z1_5 z1_6 z1_7 z1_8 zf1;obtain⟨z0_0,z0_1,z0_2,z0_3,z0_4⟩:=h7.c5 0;have H7:=zh (zN h7 k7);have hD7:=HD.out.2.1.call h7.av;clear h7 k7;go_wp2_with fail;refine(JW w7 d M room T limit hD7 hl1 hl2).mono ?_;rintro u w8 ⟨l,rfl,hl,hL8,hb8⟩;have h8:=H7.out.1.call hb8;clear z0_0 z0_1 z0_2 z0_3 z0_4 hD7;obtain⟨z0_0,z0_1,z0_2,z0_3,z0_4⟩:=h8.c5 0;obtain⟨z1_0,z1_1,z1_2,z1_3,z1_4,z1_5,z1_6,z1_7,z1_8⟩:=h8.c9 1;have zf1:=h8.free 1 rfl;have H8:=zh (zN h8 (zN hL8 (zN hl (H7.out.2.trans' (Keeps.of_below hb8)))));clear h8 hL8 hl hb8;go_upto_region 18 with (fail)
 refine aC (fun wx=>Own w [(y,32,gU lg most limit A0 n c0),(z,81,#[.int .i64 (-1),.pointer (some ⟨st,0,none⟩),.pointer (some ⟨l,0,none⟩),.pointer (some ⟨t,0,none⟩),.bool false,.int .i64 0,.int .i64 0,.int .i64 0,.bool false])] wx/\Keeps (fun q=>q=z) w8 wx) ⟨H8.out.1.set 1 2 rfl _,(Keeps.refl (fun q=>q=z) w8).setCell (fun _=>rfl) _⟩ ?_;rintro w9 ⟨h9,k9⟩;clear z0_0 z0_1 z0_2 z0_3 z0_4 z1_0 z1_1 z1_2 z1_3 z1_4 z1_5 z1_6 z1_7 z1_8 zf1;obtain⟨z0_0,z0_1,z0_2,z0_3,z0_4⟩:=h9.c5 0;obtain⟨z1_0,z1_1,z1_2,z1_3,z1_4,z1_5,z1_6,z1_7,z1_8⟩:=h9.c9 1;have H9:=zh (zN h9 k9);have hzne:∀ r,jq st An r->r≠z:=fun r hr e=>by have:=HL6.out r hr;have:=H5.out.1.lt _ (List.mem_cons_of_mem _ (List.mem_singleton.2 rfl));omega
 have hS9:=H6.out.2.1.keep (H8.out.2.2.2.trans' k9) (fun q hq hz=>hzne q hq hz);clear h9 k9 hzne;go_wp2_with fail;refine(rU w9 st d 0 0 0 false 0 lg An n cn (kT n W) hS9).mono ?_;rintro u w10 ⟨A8,c8,rfl,-,hb10⟩;unfold aX;have h10:=H9.out.1.call hb10;have HS:=zh (zN hS9 hb10);clear z0_0 z0_1 z0_2 z0_3 z0_4 z1_0 z1_1 z1_2 z1_3 z1_4 z1_5 z1_6 z1_7 z1_8 hb10 hS9;obtain⟨v,hv⟩:∃ v,v=w10.heap.size:=⟨_,rfl⟩
 have o11:=h10.alloc hv 92 (aX 0 0 0 false 0 lg A8 n c8);have H10:=zh (zN o11 (Keeps.of_below (S:=fun q=>q=z) ((Below.refl w10.heap.size w10).alloc (Nat.le_refl _) (.cells (aX 0 0 0 false 0 lg A8 n c8) 92))));clear o11 h10;go_upto_region 19 with (fail)
 rw[<-hv];clear hv;refine aC (fun wx=>Own w [(y,32,gU lg most limit A0 n c0),(z,81,#[.int .i64 (-1),.pointer (some ⟨st,0,none⟩),.pointer (some ⟨l,0,none⟩),.pointer (some ⟨t,0,none⟩),.bool false,.int .i64 0,.int .i64 0,.int .i64 0,.bool false]),(v,92,aX 0 0 0 false 0 lg A8 n c8)] wx/\Keeps (fun q=>q=z) w10 wx) H10.out ?_;rintro w11 ⟨o11,k11⟩;have hS:Own w [(y,32,gU lg most limit A0 n c0),(v,92,aX 0 0 0 false 0 lg A8 n c8)] w11.drew:=o11.drew.sub (by simp);have o12:=o11.drew;have z1_4:=o11.c 1 4;have z1_5:=o11.c 1 5;have z1_6:=o11.c 1 6;have z1_7:=o11.c 1 7;have zf1:=o11.free 1 rfl;have H12:=zh (zN o11 k11);clear o11 o12 k11;have hS:(Own w [(y,32,gU lg most limit A0 n c0),(v,92,aX 0 0 0 false 0 lg A8 n c8)]) (w11.drew):=hS;refine aA (Own w [(y,32,gU lg most limit A0 n c0),(v,92,aX 0 0 0 false 0 lg A8 n c8)]) (by kernel_rfl) hS ?_;refine zB [0,1,2,3,4,5,6,7] ?_;iterate 8 (refine zV ?_ ?_ hS ?_;rotate_left;(intro w' hSw;have y2:=hSw.c 1 2;have y3:=hSw.c 1 3;have y4:=hSw.c 1 4;have y5:=hSw.c 1 5;go_simp<;>with_reducible rfl);try simp only[zP])
 refine zE ?_;refine zC 8 fun K HK=>?_
 go_simp;obtain⟨w13,hw13⟩:∃ wz,wz=((((w11.setCell ⟨z,4,none⟩ (.bool false)).setCell ⟨z,5,none⟩ (.int .i64 0)).setCell ⟨z,6,none⟩ (.int .i64 lg))).drew:=⟨_,rfl⟩
 rw[<-hw13];have o13:Own w [(y,32,gU lg most limit A0 n c0),(z,81,#[.int .i64 (-1),.pointer (some ⟨st,0,none⟩),.pointer (some ⟨l,0,none⟩),.pointer (some ⟨t,0,none⟩),.bool false,.int .i64 0,.int .i64 lg,.int .i64 0,.bool false]),(v,92,aX 0 0 0 false 0 lg A8 n c8)] w13:=by rw[hw13];exact (((H12.out.1.set 1 4 rfl _).set 1 5 rfl _).set 1 6 rfl _).drew
 have k13:Keeps (fun q=>q=z) w10 w13:=H12.out.2.trans' (by rw[hw13];exact (fO [.bool false,.int .i64 0,.int .i64 lg] 4 w11).drew);have hS13:Own w [(y,32,gU lg most limit A0 n c0),(v,92,aX 0 0 0 false 0 lg A8 n c8)] w13:=o13.sub (by simp);clear z1_4 z1_5 z1_6 z1_7 zf1 hw13;have z1_7:=o13.c 1 7;have zf1:=o13.free 1 rfl;have H13:=zh (zN o13 k13);clear o13 k13;go_wp2_with fail;refine HK.out.zt (Own w [(y,32,gU lg most limit A0 n c0),(v,92,aX 0 0 0 false 0 lg A8 n c8)]) (fun _ h=>h) (hS13) ?_;clear HK hS;intro hS;try simp only[zP]
 refine zB [9,10] ?_;iterate 2 (refine zv hS ?_;try simp only[zP])
 refine zE ?_;refine zC 11 fun K HK=>?_
 go_simp;obtain⟨w14,hw14⟩:∃ wz,wz=w13.setCell ⟨z,7,none⟩ (.int .i64 0):=⟨_,rfl⟩
 rw[<-hw14];have o14:Own w [(y,32,gU lg most limit A0 n c0),(z,81,#[.int .i64 (-1),.pointer (some ⟨st,0,none⟩),.pointer (some ⟨l,0,none⟩),.pointer (some ⟨t,0,none⟩),.bool false,.int .i64 0,.int .i64 lg,.int .i64 0,.bool false]),(v,92,aX 0 0 0 false 0 lg A8 n c8)] w14:=by rw[hw14];exact H13.out.1.set 1 7 rfl _
 have k14:Keeps (fun q=>q=z) w10 w14:=H13.out.2.trans' (by rw[hw14];exact (Keeps.refl (fun q=>q=z) w13).setCell (fun _=>rfl) _);have hS14:Own w [(y,32,gU lg most limit A0 n c0),(v,92,aX 0 0 0 false 0 lg A8 n c8)] w14:=o14.sub (by simp);have H14:=zh (zN o14 k14);clear z1_7 zf1 hw14 o14 k14;go_wp2_with fail;refine HK.out.zt (Own w [(y,32,gU lg most limit A0 n c0),(v,92,aX 0 0 0 false 0 lg A8 n c8)]) (fun _ h=>h) (hS14) ?_;clear HK hS;intro hS;try simp only[zP]
 refine zD ?_;try simp only[zP]
 clear hS hS13 hS14;have hE:bG B w0 w14 z lg room limit most (newX st d M l t Mt T An n cn W):=by
  have k8:Keeps (fun q=>q=z) w8 w14:=(H9.out.2.trans' (Keeps.of_below HS.out.2)).trans' H14.out.2;have k6:Keeps (fun q=>q=z) w6 w14:=H8.out.2.2.2.trans' k8;have k4:Keeps (fun q=>q=z) w4 w14:=H6.out.2.2.2.trans' k6;have hz3:z < w3.heap.size:=H3.out.lt _ (List.mem_cons_of_mem _ (List.mem_singleton.2 rfl));have hz5:z < w5.heap.size:=H5.out.1.lt _ (List.mem_cons_of_mem _ (List.mem_singleton.2 rfl));have hz7:z < w7.heap.size:=H7.out.1.lt _ (List.mem_cons_of_mem _ (List.mem_singleton.2 rfl));have hs3:=H3.out.av.size;have hs5:=H5.out.1.av.size;have hs7:=H7.out.1.av.size;have hMt:=H4.out.2.2.1;have htt:=H4.out.2.2.2;have hst:=H6.out.2.2.1;have hll:=H8.out.2.2.1;have hBw:B<=w.heap.size:=Nat.le_trans hB HD.out.1.size;have hzg:w.heap.size<=z:=H14.out.1.geq 1 rfl;exact {
   blk:=H14.out.1.get 1 rfl
   dt:=HD.out.2.1.call H14.out.1.av
   sto:=H6.out.2.1.keep k6 (fun q hq e=>by have:=HL6.out q hq;omega)
   log:=H8.out.2.1.keep k8 (fun q hq e=>by
    rcases hq with rfl | hq
    ·omega
    ·cases hq)
   tab:=H4.out.2.1.keep k4 (fun q hq e=>by
    rcases hq with rfl | rfl | hq
    ·omega
    ·omega
    ·cases hq)
   mne:=by
    have h1:M < w.heap.size:=HD.out.2.1.dY (.inr (.inl rfl));show M≠Mt
    omega
   lo:=by
    intro r hr;rcases hr with hr | hr | (hr | hr) | (hr | hr | hr) | hr
    ·exact HD.out.2.2.1 r hr
    ·have:=HL6.out r hr
     omega
    ·have:r=l:=hr
     omega
    ·cases hr
    ·have:r=t:=hr
     omega
    ·have:r=Mt:=hr
     omega
    ·cases hr
    ·omega
   av:=HD.out.1.trans (H14.out.1.av.mono hBw)
   hB:=hB
   nam:=ET
   inc:=List.Pairwise.nil
   mark:=HD.out.2.2.2.2.1
   fsl:=fun j hj=>absurd hj (Nat.not_lt_zero _)
   nm:=Nat.zero_le _
   he:=HD.out.2.2.2.1 }
 have HE:=zh hE;clear hE hzt;go_upto_region 20 with (fail)
 have hS:=H14.out.1.drew;have hE14:=HE.out.call (Below.refl w14.heap.size w14).drew;have HE2:=zh hE14;clear hE14;have hS:(Own w [(y,32,gU lg most limit A0 n c0),(z,81,#[.int .i64 (-1),.pointer (some ⟨st,0,none⟩),.pointer (some ⟨l,0,none⟩),.pointer (some ⟨t,0,none⟩),.bool false,.int .i64 0,.int .i64 lg,.int .i64 0,.bool false]),(v,92,aX 0 0 0 false 0 lg A8 n c8)]) (w14.drew):=hS;refine aA (Own w [(y,32,gU lg most limit A0 n c0),(z,81,#[.int .i64 (-1),.pointer (some ⟨st,0,none⟩),.pointer (some ⟨l,0,none⟩),.pointer (some ⟨t,0,none⟩),.bool false,.int .i64 0,.int .i64 lg,.int .i64 0,.bool false]),(v,92,aX 0 0 0 false 0 lg A8 n c8)]) (by kernel_rfl) hS ?_;refine zB [0,1,2,3,5,6] ?_;iterate 6 (refine zV ?_ ?_ hS ?_;rotate_left;(intro w' hSw;have y1:=hSw.c 2 1;have y2:=hSw.c 1 2;go_simp<;>with_reducible rfl);try simp only[zP])
 refine zE ?_;refine zC 4 fun K HK=>?_
 go_simp;refine(vw w14.drew l d limit 0 0 0 none (fun _=>0) false HE2.out.log).mono ?_;rintro u w15 ⟨rfl,hb15⟩;have h15:=hS.call hb15;have H15:=zh (HE2.out.call hb15);clear hb15;go_wp2_with fail;refine HK.out.zt (Own w [(y,32,gU lg most limit A0 n c0),(z,81,#[.int .i64 (-1),.pointer (some ⟨st,0,none⟩),.pointer (some ⟨l,0,none⟩),.pointer (some ⟨t,0,none⟩),.bool false,.int .i64 0,.int .i64 lg,.int .i64 0,.bool false]),(v,92,aX 0 0 0 false 0 lg A8 n c8)]) (fun _ h=>h) (h15) ?_;clear HK hS;intro hS;try simp only[zP]
 refine zB [7,8,9,10,11,12,14,15] ?_;iterate 8 (refine zV ?_ ?_ hS ?_;rotate_left;(intro w' hSw;have y1:=hSw.c 2 1;have y2:=hSw.c 1 2;go_simp<;>with_reducible rfl);try simp only[zP])
 refine zE ?_;refine zC 13 fun K HK=>?_
 go_simp;refine(JV w15 l d limit none 0 (fun _=>0) 0 0 0 false H15.out.log).mono ?_;rintro u w16 ⟨rfl,hb16⟩;have h16:=h15.call hb16;have H16:=zh (H15.out.call hb16);clear hb16 h15;go_wp2_with fail;refine HK.out.zt (Own w [(y,32,gU lg most limit A0 n c0),(z,81,#[.int .i64 (-1),.pointer (some ⟨st,0,none⟩),.pointer (some ⟨l,0,none⟩),.pointer (some ⟨t,0,none⟩),.bool false,.int .i64 0,.int .i64 lg,.int .i64 0,.bool false]),(v,92,aX 0 0 0 false 0 lg A8 n c8)]) (fun _ h=>h) (h16) ?_;clear HK hS;intro hS;try simp only[zP]
 refine zB [16,17] ?_;iterate 2 (refine zv hS ?_;try simp only[zP])
 refine zE ?_;refine zD ?_;try simp only[zP]
 clear h16;have H17:=zh hS;clear hS;go_upto_region 22 with (fail)
 have hS:=H17.out.drew;have hE17:=H16.out.call (Below.refl w16.heap.size w16).drew;have HE3:=zh hE17;clear hE17;have hS:(Own w [(y,32,gU lg most limit A0 n c0),(z,81,#[.int .i64 (-1),.pointer (some ⟨st,0,none⟩),.pointer (some ⟨l,0,none⟩),.pointer (some ⟨t,0,none⟩),.bool false,.int .i64 0,.int .i64 lg,.int .i64 0,.bool false]),(v,92,aX 0 0 0 false 0 lg A8 n c8)]) (w16.drew):=hS;refine aA (Own w [(y,32,gU lg most limit A0 n c0),(z,81,#[.int .i64 (-1),.pointer (some ⟨st,0,none⟩),.pointer (some ⟨l,0,none⟩),.pointer (some ⟨t,0,none⟩),.bool false,.int .i64 0,.int .i64 lg,.int .i64 0,.bool false]),(v,92,aX 0 0 0 false 0 lg A8 n c8)]) (by kernel_rfl) hS ?_;refine zB [0,1,2,3,4,5,6,11] ?_;iterate 8 (refine zV ?_ ?_ hS ?_;rotate_left;(intro w' hSw;have y1:=hSw.c 2 1;have y2:=hSw.c 1 2;go_simp<;>with_reducible rfl);try simp only[zP])
 refine zE ?_;refine zC 7 fun K HK=>?_
 go_simp;refine(vw w16.drew l d limit 0 0 0 none (fun _=>0) false HE3.out.log).mono ?_;rintro u w18 ⟨rfl,hb18⟩;have h18:=hS.call hb18;have H18:=zh (zN (HE3.out.call hb18) h18.av);clear hb18;go_wp2_with fail;refine HK.out.zt (Own w [(y,32,gU lg most limit A0 n c0),(z,81,#[.int .i64 (-1),.pointer (some ⟨st,0,none⟩),.pointer (some ⟨l,0,none⟩),.pointer (some ⟨t,0,none⟩),.bool false,.int .i64 0,.int .i64 lg,.int .i64 0,.bool false]),(v,92,aX 0 0 0 false 0 lg A8 n c8)]) (fun _ h=>h) (h18) ?_;clear HK hS;intro hS;try simp only[zP]
 have hw0:IntKind.i64.wrap 0=0:=by decide
 refine zB [8,9,10] ?_;iterate 3 (refine zv hS ?_;try simp only[zP])
 refine zE ?_;refine zD ?_;try simp only[zP]
 clear h18 hS;go_wp2_with fail
 go_loopw [121] (fun i wr=>i=.int .i64 0/\wr=w18) (fun i _=>0)
 case atStart=>exact ⟨rfl,rfl⟩
 case round=>
  obtain⟨rfl,rfl⟩:=hrel;go_wp2_with fail;go_ret2;exact⟨z,st,l,t,Mt,An,cn,rfl,H18.out.1,H18.out.2⟩
theorem bG.dY{B:Nat}{w0 w:World}{e:Nat}{lg:Int}{room limit most:Nat}{x:bM}(h:bG B w0 w e lg room limit most x){r:Nat}(hr:KE x e r): r < w.heap.size:=by
 rcases hr with hr | hr | hr | hr | hr
 ·exact h.dt.dY hr
 ·rcases hr with rfl | hr
  ·exact h.sto.blk.lt
  ·exact (h.sto.row.lt hr).2
 ·exact h.log.dY hr
 ·exact h.tab.dY hr
 ·rw[hr];exact h.blk.lt
theorem QF(w:World): Bn w none 0 0 1:=⟨J,fun _=>⟨rfl,rfl⟩,fun h=>absurd h J,J,J⟩
theorem Fb{w:World}{y:Nat}{tm v:Int}{w':World}(hy:y=w.heap.size)(h:Own w [(y,35,#[.string aY,Z tm,Z v])] w'): jW w' (fun q=>q=y) (some ⟨y,0,none⟩) tm v:=
 ⟨y,0,rfl,rfl,h.cell 0 0 rfl rfl,h.cell 0 1 rfl rfl,h.cell 0 2 rfl rfl⟩
theorem Ee{w:World}(h:V.dh w): 0 < w.heap.size:=by
 rcases Nat.lt_or_ge 0 w.heap.size with h1 | h1
 ·exact h1
 ·unfold V.dh World.cell? at h
  simp only[Array.getElem?_eq_none h1] at h
  cases h
theorem J3(w:World)(hv:V.dh w): Calls Tryz.prog 6 #[] w fun u w'=>u=.returned (.bool true)/\Below w.heap.size w w':=by
 have HV:=zh hv
 clear hv
 go_enter Tryz.func6,Tryz.ntmps6
 go_wp2_with fail
 refine(Lh w 1048576 (by decide)).mono ?_
 rintro u w1 ⟨d,M,rfl,hM,hd,hD,hb1⟩
 have H1:=zh (zN hM (zN hd (zN hD hb1)))
 clear hM hd hD hb1
 go_wp2_with fail
 refine(zk w.heap.size w w1 d M 1048576 0 5 10 100 none 0 0 1 (QF w1) (Nat.le_refl _) H1.out.2.2.2 H1.out.2.2.1 (fun r hr=>by
  rcases hr with rfl | rfl | ⟨s,a,ha,-⟩
  ·exact H1.out.2.1
  ·exact H1.out.1
  ·cases ha) ⟨HV.out,Ee HV.out⟩ (by decide) (by decide) (by decide) (by decide) (by decide)).mono ?_
 rintro u w2 ⟨e,st,l,t,Mt,An,cn,rfl,hE,hb2⟩
 have H2:=zh hE
 clear hE hb2
 go_wp2_with fail
 obtain⟨y,hy⟩:∃ y,y=w2.heap.size:=⟨_,rfl⟩
 have hY:=zh hy
 rw[<-hy]
 clear hy
 refine bQ (Own w2 [(y,35,#[.string aY,Z 7,Z 9])]) (Own.bn w2 hY.out _ _) ?_
 intro w3 o3
 refine(xu (H2.out.call o3.av) (fun q=>q=y) (some ⟨y,0,none⟩) 1 7 9 (Fb hY.out o3) (fun r hr hf=>by
  have h1:=H2.out.dY hf
  have h2:=hY.out
  have h3:r=y:=hr
  omega) (by decide) (by unfold bI;decide) (fun p hp=>by cases hp) (fun h=>by cases h) (fun h=>by cases h) (by simp[newX]) (by decide) (by simp[newX]) (by simp[newX]) (by simp[newX]) (by simp[newX]) (by decide) (by decide) (by simp[newX]) (by simp[newX]) (by simp[newX]) (by decide)).mono ?_
 clear o3
 rintro u w4 ⟨rfl,p',Al,cl,fs,kl,sz,At,ct,-,-,hE4⟩
 have H4:=zh hE4
 clear hE4
 go_wp2_with fail
 have cc:Calls Tryz.prog 12 #[.pointer (some ⟨e,0,none⟩),.agg (qV 10)] w4 (Ae w4 [⟨7,9,0⟩]):=Gz H4.out 10 (by decide) (by decide) (by
  intro p hp
  have hp:p ∈ [(⟨7,9,0⟩:Pt)]:=hp
  rw[List.mem_singleton] at hp
  rw[hp]
  decide) (by
  intro p hp
  have hp:p ∈ [(⟨7,9,0⟩:Pt)]:=hp
  rw[List.mem_singleton] at hp
  rw[hp]
  decide) (by simp[newX]) (by simp[newX])
 refine cc.mono ?_
 clear cc
 rintro u w5 ⟨A5,c5,rfl,hr5,hb5⟩
 have hb05:=V.aB H4.out.av hb5
 obtain⟨A',c',e1,-,hg⟩:=aH hr5
 injection e1 with ea eb ec
 obtain⟨g,hA',-,hlt⟩:=hg (by decide)
 have hA5:A5=some ⟨g,0,none⟩:=ea.trans hA'
 subst hA5
 have z4:w5.cell? ⟨g,4,none⟩=some (.int .u64 9):=by
  have:=World.ownsRow.cells hr5 (g:=g) rfl 4 (.int .u64 9) rfl
  rwa [iE] at this
 have H5:=zh hb05
 have hl1:([(⟨7,9,0⟩:Pt)]:List Pt).length=1:=rfl
 rw[hl1]
 clear hr5 hb5 hb05 hg ea eb ec hA' hlt hl1
 go_wp2_with fail
 go_ret
 exact⟨rfl,H5.out⟩
theorem Gn(w:World)(n:Nat)(hn:n < 1000000): Calls Tryz.prog 153 #[.string ⟨#[114]⟩,.int .i64 (n:Nat)] w fun e w'=>e=.returned (.string (aW 114 n))/\Below w.heap.size w w':=by
 obtain⟨x,hx⟩:∃ x,x=w.heap.size:=⟨_,rfl⟩
 have o0:=Own.bn w hx 5 ((jX n 12).map V.aR).toArray;rw[qY] at o0
 have HO:=zh (zN hx o0);clear o0;have hmk:(Instr.makeSlice 72 (.int .i64 12) (.int .i64 12)).run Tryz.prog w=.ok (.slice (some ⟨w.heap.size,0,none⟩) 12 12) (w.alloc (.cells #[.int .u8 0,.int .u8 0,.int .u8 0,.int .u8 0,.int .u8 0,.int .u8 0,.int .u8 0,.int .u8 0,.int .u8 0,.int .u8 0,.int .u8 0,.int .u8 0] 5)):=by
  obtain⟨ht,-,i,hi,hz,hs1,hby⟩:=V.byteElem;have h:=run_makeSlice (P:=Tryz.prog) w 72 5 i (.int .u8 0) ht hi hz .i64 .i64 12 12 J J (by rw[hs1];decide) (by rw[hby];decide) J;rw[hs1] at h
  have e:madeCells (Value.int .u8 0).cells (Int.toNat 12*1)=#[.int .u8 0,.int .u8 0,.int .u8 0,.int .u8 0,.int .u8 0,.int .u8 0,.int .u8 0,.int .u8 0,.int .u8 0,.int .u8 0,.int .u8 0,.int .u8 0]:=by kernel_rfl
  rw[e] at h
  exact h
 go_enter Tryz.func153,Tryz.ntmps153
 go_wp2_with fail;rw[<-hx];clear hx
 go_loopw [1,6] (fun s0 i wr=>∃ m cur:Nat,m<=12/\i=.int .i64 ((m:Int)-1)/\s0=.int .i64 (cur:Nat)/\cur < 1000000/\cur=n / 10 ^ (12-m)/\Own w [(x,5,((jX n m).map V.aR).toArray)] wr) (fun _ i _=>(intOf i+1).toNat)
 case atStart=>exact ⟨12,n,J,rfl,rfl,hn,by simp,by rw[qY];exact HO.out.2⟩
 case round=>
  obtain⟨m,cur,hm,rfl,rfl,hcl,hcur,hbel⟩:=hrel;have HC:=zh hcur;clear hcur;rcases Nat.eq_zero_or_pos m with hm0 | hm0
  ·subst hm0
   have hsl:=V.DN (hbel.get 0 rfl);rw[qp] at hsl
   have hcv:=vY (P:=Tryz.prog) (c:=12) 72 5 9 Tryz.underlying72 Tryz.underlying5 Tryz.underlying9 (bs:=jX n 0) (qp n 0) hsl;have HB:=zh hbel;clear hbel hsl;go_wp2_with fail;go_ret;exact⟨congrArg (fun b=>Ending.returned (.string b)) (FE 114 (jX n 0) J),HB.out.av⟩
  ·obtain ⟨m,rfl⟩:∃ m',m=m'+1:=⟨m-1,J⟩
   have e0:(((m+1:Nat):Int)-1)=(m:Int):=J;have hlt:m < 12:=J;rw[e0];obtain⟨b0,hb0⟩:=Dz n (m+1) m hlt;have z0:wr.cell? ⟨x,m,none⟩=some (.int .u8 (b0:Nat)):=((hbel.get 0 rfl).cell m).trans hb0;clear hb0;have zf:=hbel.free 0 rfl;have HB:=zh hbel;clear hbel e0;go_wp2_with fail
   go_roundw
   case rel=>
    refine⟨m,cur / 10,J,rfl,by go_num,J,?_,?_⟩
    ·rw[HC.out];exact DY n m hlt
    ·have h1:=HB.out.set 0 m rfl (.int .u8 (48+(cur:Int)%10))
     have h2:(48+(cur:Int)%10)=((DX n m:Nat):Int):=by
      unfold DX;rw[show 11-m=12-(m+1) by omega,<-HC.out];omega
     rw[GX n m hlt _ (by rw[h2])] at h1
     exact h1
   case measure=>simp[intOf]
theorem PD(d N0 R0 q0:Nat)(s0:Bool)(la0 lg0:Int)(A0:Option Addr)(K0 cp0:Nat)(N R q:Nat)(s:Bool)(la lg:Int)(A:Option Addr)(K cp:Nat): fI (qM d N0 R0 q0 s0 la0 lg0 A0 K0 cp0) 1 [Z (N:Nat),Z (R:Nat),Z (q:Nat),.bool s,Z la,Z lg,.slice none 0 0,.slice A K cp]=qM d N R q s la lg A K cp:=by
 simp[fI,qM]
def KI(w:World)(st d M:Nat)(p:ByteArray->Option FS)(room T G N R q:Nat)(s:Bool)(la lg:Int)(B g cp:Nat)(v p0 u:Int)(fl:ByteArray)(e:Ending)(w':World): Prop:=
 e=.returned (Z 0)/\∃ (p':ByteArray->Option FS) (bs:List Nat),bD w' d M p' room (T+(100+53*2)) (G+3)/\fb p'=aV (fb p) oQ bs/\ay w' st 128 (qM d N R q s la lg (some ⟨g,0,none⟩) 1 cp)/\bN w' B (some ⟨g,0,none⟩) 1 cp (lq v p0 u fl)/\Keeps (fun q=>aM d M p q\/q=st) w w'/\∀ q,q < w.heap.size->aM d M p' q->aM d M p q
theorem CO(w:World)(st d M:Nat)(p:ByteArray->Option FS)(room T G:Nat)(N0 R0 q0:Nat)(s0:Bool)(la0 lg0:Int)(A0:Option Addr)(K0 cp0:Nat)(N R q:Nat)(s:Bool)(la lg:Int)(B g cp:Nat)(v p0 u:Int)(fl:ByteArray)(hst:ay w st 128 (qM d N0 R0 q0 s0 la0 lg0 A0 K0 cp0))(hsf:¬ aM d M p st)(hD:bD w d M p room T G)(hN:fb p iI=none)(hn:uP N R q s la lg)(hrow:bN w B (some ⟨g,0,none⟩) 1 cp (lq v p0 u fl))(hrf:∀ z,(some (⟨g,0,none⟩:Addr)).map (·.block)=some z->¬ aM d M p z)(hpl:nZ v p0 u fl)(hv:V.dh w)(hT:T+(100+53*2)<=1048576)(hr1:1048576<=room)(hr:room<=1073741824)(hG:G+2 < 512):
  Calls Tryz.prog 91 #[.pointer (some ⟨st,0,none⟩),.agg (aX N R q s la lg (some ⟨g,0,none⟩) 1 cp)] w (KI w st d M p room T G N R q s la lg B g cp v p0 u fl):=by
 obtain⟨x,hx⟩:∃ x,x=w.heap.size:=⟨_,rfl⟩
 have o0:=Own.bn w hx 92 (aX N R q s la lg (some ⟨g,0,none⟩) 1 cp);have HD:=zh (zN hst (zN hsf (zN hD (zN hN (zN hn (zN hrow (zN hrf (zN hpl (zN hv (zN o0 hx))))))))));clear hst hsf hD hN hn hrow hrf hpl hv o0;unfold aX
 go_enter Tryz.func91,Tryz.ntmps91
 go_wp2_with fail;rw[<-hx];clear hx;refine aC (Own w [(x,92,aX N R q s la lg (some ⟨g,0,none⟩) 1 cp)]) HD.out.2.2.2.2.2.2.2.2.2.1 ?_;intro w1 h1;have H1:=zh h1.drew;have hS:IJ st x d (aX N R q s la lg (some ⟨g,0,none⟩) 1 cp) w1.drew:=⟨fH h1.drew.av (HD.out.1.cell 0),h1.drew.get 0 rfl⟩
 clear h1;have hS:(IJ st x d (aX N R q s la lg (some ⟨g,0,none⟩) 1 cp)) (w1.drew):=hS;refine aA (IJ st x d (aX N R q s la lg (some ⟨g,0,none⟩) 1 cp)) (by kernel_rfl) hS ?_;refine zB [0,1,2,3] ?_;iterate 4 (refine zV ?_ ?_ hS ?_;rotate_left;(intro w' hSw;have u0:=hSw.1;go_simp<;>with_reducible rfl);try simp only[zP])
 refine zE ?_;refine zT 4 ?_ ?_ hS ?_;rotate_left
 ·(intro w' hSw;have z0:w'.cell? ⟨x,0,none⟩=some (Z (N:Nat)):=hSw.2.cell 0;have z1:w'.cell? ⟨x,1,none⟩=some (Z (R:Nat)):=hSw.2.cell 1;have z2:w'.cell? ⟨x,2,none⟩=some (Z (q:Nat)):=hSw.2.cell 2;have z3:w'.cell? ⟨x,3,none⟩=some (.bool s):=hSw.2.cell 3;have z4:w'.cell? ⟨x,4,none⟩=some (Z la):=hSw.2.cell 4;have z5:w'.cell? ⟨x,5,none⟩=some (Z lg):=hSw.2.cell 5;have z6:w'.cell? ⟨x,6,none⟩=some (.slice none 0 0):=hSw.2.cell 6;have z7:w'.cell? ⟨x,7,none⟩=some (.slice (some ⟨g,0,none⟩) 1 cp):=hSw.2.cell 7;go_simp<;>with_reducible rfl)
 try simp only[zP]
 refine zC 5 fun K HK=>?_
 go_simp;have hc:=JK w1.drew d M p room T G N R q s la lg B g cp v p0 u fl (HD.out.2.2.1.call H1.out.av) HD.out.2.2.2.1 HD.out.2.2.2.2.1 (HD.out.2.2.2.2.2.1.call H1.out.av) HD.out.2.2.2.2.2.2.2.1 (HD.out.2.2.2.2.2.2.2.2.1.below H1.out.av) hT hr1 hr hG;unfold aX at hc
 refine hc.mono ?_;clear hc;rintro e w2 ⟨rfl,p2,bs2,hd2,hs2,hf2⟩;have hxf:¬ aM d M p x:=HD.out.2.2.1.fresh (H1.out.geq 0 rfl);have hk2:Keeps (aM d M p) w w2:=(Keeps.of_below (S:=aM d M p) H1.out.av).trans' hs2.keep;have hb2:ay w2 st 128 (qM d N0 R0 q0 s0 la0 lg0 A0 K0 cp0):=HD.out.1.keeps hk2 HD.out.2.1;have hx2:ay w2 x 92 (aX N R q s la lg (some ⟨g,0,none⟩) 1 cp):=(H1.out.get 0 rfl).keeps hs2.keep hxf;have hr2:bN w2 B (some ⟨g,0,none⟩) 1 cp (lq v p0 u fl):=HD.out.2.2.2.2.2.1.keep hk2 (fun z hz=>HD.out.2.2.2.2.2.2.1 z hz);have H2:=zh (zN hd2 (zN hs2 (zN hf2 (zN hk2 (zN hb2 (zN hx2 hr2))))));clear hd2 hs2 hf2 hk2 hb2 hx2 hr2 hxf;go_wp2_with fail;refine HK.out.zt (IJ st x d (aX N R q s la lg (some ⟨g,0,none⟩) 1 cp)) (fun _ h=>h) (⟨H2.out.2.2.2.2.1.cell 0,H2.out.2.2.2.2.2.1⟩) ?_;clear HK hS;intro hS;try simp only[zP]
 refine zt 6 hS ?_;try simp only[zP]
 refine zD ?_;try simp only[zP]
 clear hS;obtain⟨w3,hw3⟩:∃ w3,w3=((((((((w2.setCell ⟨st,1,none⟩ (Z (N:Nat))).setCell ⟨st,2,none⟩ (Z (R:Nat))).setCell ⟨st,3,none⟩ (Z (q:Nat))).setCell ⟨st,4,none⟩ (.bool s)).setCell ⟨st,5,none⟩ (Z la)).setCell ⟨st,6,none⟩ (Z lg)).setCell ⟨st,7,none⟩ (.slice none 0 0)).setCell ⟨st,8,none⟩ (.slice (some ⟨g,0,none⟩) 1 cp)):=⟨_,rfl⟩
 have hw3b:w3=setFrom w2 st 1 [Z (N:Nat),Z (R:Nat),Z (q:Nat),.bool s,Z la,Z lg,.slice none 0 0,.slice (some ⟨g,0,none⟩) 1 cp]:=hw3;have b3:ay w3 st 128 (qM d N R q s la lg (some ⟨g,0,none⟩) 1 cp):=by rw[hw3b,<-PD d N0 R0 q0 s0 la0 lg0 A0 K0 cp0];exact jc _ _ _ _ H2.out.2.2.2.2.1
 have k3:Keeps (fun q=>q=st) w2 w3:=by rw[hw3b];exact fO _ _ _
 clear hw3b;have hsf2:¬ aM d M p2 st:=by
  have:=H2.out.2.1.EY (q:=st) (Nat.lt_of_lt_of_le HD.out.1.lt H1.out.size) HD.out.2.1;exact this
 have d3:=H2.out.1.keep k3 (fun q hq e=>hsf2 (by rw[<-e];exact hq));have r3:bN w3 B (some ⟨g,0,none⟩) 1 cp (lq v p0 u fl):=H2.out.2.2.2.2.2.2.keep k3 (fun z hz e=>own_ne H2.out.2.2.2.2.2.2.row H2.out.2.2.2.2.1 (show 169≠128 by decide) (by rw[jo];exact e ▸ hz));have H3:=zh (zN b3 (zN k3 (zN d3 r3)));have HW3:=zh hw3;have z0:w2.cell? ⟨x,0,none⟩=some (Z (N:Nat)):=H2.out.2.2.2.2.2.1.cell 0;have z1:w2.cell? ⟨x,1,none⟩=some (Z (R:Nat)):=H2.out.2.2.2.2.2.1.cell 1;have z2:w2.cell? ⟨x,2,none⟩=some (Z (q:Nat)):=H2.out.2.2.2.2.2.1.cell 2;have z3:w2.cell? ⟨x,3,none⟩=some (.bool s):=H2.out.2.2.2.2.2.1.cell 3;have z4:w2.cell? ⟨x,4,none⟩=some (Z la):=H2.out.2.2.2.2.2.1.cell 4;have z5:w2.cell? ⟨x,5,none⟩=some (Z lg):=H2.out.2.2.2.2.2.1.cell 5;have z6:w2.cell? ⟨x,6,none⟩=some (.slice none 0 0):=H2.out.2.2.2.2.2.1.cell 6;have z7:w2.cell? ⟨x,7,none⟩=some (.slice (some ⟨g,0,none⟩) 1 cp):=H2.out.2.2.2.2.2.1.cell 7;have y1:w2.cell? ⟨st,1,none⟩=some (Z (N0:Nat)):=H2.out.2.2.2.2.1.cell 1;have y2:w2.cell? ⟨st,2,none⟩=some (Z (R0:Nat)):=H2.out.2.2.2.2.1.cell 2;have y3:w2.cell? ⟨st,3,none⟩=some (Z (q0:Nat)):=H2.out.2.2.2.2.1.cell 3;have y4:w2.cell? ⟨st,4,none⟩=some (.bool s0):=H2.out.2.2.2.2.1.cell 4;have y5:w2.cell? ⟨st,5,none⟩=some (Z la0):=H2.out.2.2.2.2.1.cell 5;have y6:w2.cell? ⟨st,6,none⟩=some (Z lg0):=H2.out.2.2.2.2.1.cell 6;have y7:w2.cell? ⟨st,7,none⟩=some (.slice none 0 0):=H2.out.2.2.2.2.1.cell 7;have y8:w2.cell? ⟨st,8,none⟩=some (.slice A0 K0 cp0):=H2.out.2.2.2.2.1.cell 8;have yf:=H2.out.2.2.2.2.1.frozen;clear b3 k3 d3 r3 hsf2 hw3;go_wp2_with (rw[<-HW3.out]);go_ret;refine⟨rfl,p2,bs2,H3.out.2.2.1,H2.out.2.2.1,H3.out.1,H3.out.2.2.2,(H2.out.2.2.2.1.mono (fun q _ h=>.inl h)).trans H3.out.2.1 (fun q _ e=>.inr e),fun q hq hf=>H2.out.2.1.far q (Nat.lt_of_lt_of_le hq H1.out.size) hf⟩
end
section
open Go.RowKit Go.Maps A
theorem M0(x0 x1 x2 x3 x4 v0 v1 v2 v3 v4:Value)(r:List Value): (fI (⟨x0 :: x1 :: x2 :: x3 :: x4 :: r⟩:Array Value) 0 [v0,v1,v2,v3,v4]).toList=v0 :: v1 :: v2 :: v3 :: v4 :: r:=by simp[fI]
theorem Tn{α:Type}(l:List α)(h:5<=l.length): ∃ x0 x1 x2 x3 x4 r,l=x0 :: x1 :: x2 :: x3 :: x4 :: r:=by
 rcases l with _ | ⟨x0,_ | ⟨x1,_ | ⟨x2,_ | ⟨x3,_ | ⟨x4,r⟩⟩⟩⟩⟩
 ·exact absurd h (by simp)
 ·exact absurd h (by simp)
 ·exact absurd h (by simp)
 ·exact absurd h (by simp)
 ·exact absurd h (by simp)
 ·exact ⟨x0,x1,x2,x3,x4,r,rfl⟩
theorem M4{w:World}{B g c:Nat}{ti:List Value}(h:bN w B (some ⟨g,0,none⟩) 1 c ti)(v0 v1 v2 v3 v4:Value)(h1:∀ u ∈ [v0,v1,v2,v3,v4],u.oneCell'=true): bN (setFrom w g 0 [v0,v1,v2,v3,v4]) B (some ⟨g,0,none⟩) 1 c [v0,v1,v2,v3,v4]:=by
 refine⟨⟨rfl,.inr ?_⟩,rfl,h1,Nat.le_refl _,fun h=>absurd h J⟩;rcases h.row.2 with ⟨hv,-⟩ | ⟨g',cap,cur,hv,hB,hh,hc,hm,hs,ht⟩
 ·cases hv
 ·injection hv with e1 e2 e3
  injection e1 with e1
  injection e1 with e1
  subst e1;subst e3;have hb:=jc [v0,v1,v2,v3,v4] 0 w cur hh;refine⟨g,c,_,rfl,hB,hb,hc,hm,?_,?_⟩
  ·rw[<-hs];simp[fI]
  ·obtain ⟨l⟩:=cur
   obtain⟨x0,x1,x2,x3,x4,r,rfl⟩:=Tn l (by have:l.length=c*5:=hs;omega);rw[M0];rfl
theorem bN.frozen{w:World}{B g c:Nat}{ti:List Value}(h:bN w B (some ⟨g,0,none⟩) 1 c ti): ∀ i,w.frozen? ⟨g,i,none⟩=false:=by
 rcases h.row.2 with ⟨hv,-⟩ | ⟨g',cap,cur,hv,hB,hh,-⟩
 ·cases hv
 ·injection hv with e1 e2 e3
  injection e1 with e1
  injection e1 with e1
  subst e1;exact ay.frozen hh
structure IW(w w':World)(st d M:Nat)(p p':ByteArray->Option FS)(g:Nat): Prop where
 keep:Keeps (fun q=>aM d M p q\/q=st) w w'
 dfar:∀ q,q < w.heap.size->aM d M p' q->aM d M p q
 new:w.heap.size<=g
def Dv(w:World)(st d M:Nat)(p:ByteArray->Option FS)(room T G N R q:Nat)(s:Bool)(la lg:Int)(W tq:Int)(bs:List Nat)(e:Ending)(w':World): Prop:=
 e=.returned (Z 0)/\∃ (p':ByteArray->Option FS) (g c:Nat),bD w' d M p' room (T+bs.length+(100+53*2)) (G+5)/\lJ (fb p') (some bs)/\iN w' st d (N+1) R q s la lg (some ⟨g,0,none⟩) 1 c (lq W 0 tq (aW 114 N))/\IW w w' st d M p p' g
structure KO(w:World)(st d M:Nat)(p:ByteArray->Option FS)(room T G N R q:Nat)(s:Bool)(la lg:Int)(ga cn:Nat)(W tq:Int)(Ap:Option Addr)(n1:Nat)(nm:ByteArray)(At:Option Addr)(ct nn:Nat)(qq:Nat->bC)(bs:List Nat): Prop where
 sto:iN w st d N R q s la lg (some ⟨ga,0,none⟩) 1 cn (kT 1 W)
 nfs:¬ aM d M p st
 nfa:¬ aM d M p ga
 dt:bD w d M p room T G
 nam:lJ (fb p) none
 n0:N=0
 num:uP (N+1) R q s la lg
 tier:nZ W 0 tq (aW 114 N)
 parts:P1 w Ap n1 nm At ct nn qq
 pok:sD W 0 n1 (fun _=>nm) (fun _=>nn) (fun _=>qq)
 full:∀ i,i < nn->jr (qq i).x
 n1le:n1<=1
 nnle:nn<=900
 hbs:bs=F.aZ 8 (MR n1 (fun _=>nm) (fun _=>nn) (fun _=>qq))
 er:V.dh w
 ef:¬ aM d M p 0
 hT:T+bs.length+(100+53*2)<=1048576
 r1:1048576<=room
 r2:room<=1073741824
 hG:G+5 < 512
theorem O4{f f':ByteArray->Option (List Nat)}{bs bs2:List Nat}(h:lJ f none)(hf:f'=aV (aV f (aW 114 0) bs) oQ bs2): lJ f' (some bs):=by
 subst hf;refine⟨fun t ht=>?_,fun b hb=>?_⟩
 ·unfold aV at ht
  by_cases e1:t=oQ
  ·exact .inr (.inl e1)
  ·rw[if_neg e1] at ht
   by_cases e2:t=aW 114 0
   ·exact .inr (.inr ⟨e2,by simp⟩)
   ·rw[if_neg e2] at ht
    rcases h.nam t ht with h1 | h1 | ⟨h1,h2⟩
    ·exact .inl h1
    ·exact .inr (.inl h1)
    ·exact absurd rfl h2
 ·injection hb with hb
  subst hb;unfold aV;rw[if_neg (fun e=>vG 114 0 e.symm),if_pos rfl]
theorem Sw{f:ByteArray->Option (List Nat)}{rb:Option (List Nat)}(h:lJ f rb): f iI=none:=by
 cases hf:f iI with
 | none=>rfl
 | some a=>
  rcases h.nam iI (by rw[hf];simp) with ⟨j,e⟩ | e | ⟨e,-⟩
  ·have:=congrArg ByteArray.size e;rw[cu] at this;exact absurd this (by decide)
  ·exact absurd e (by decide)
  ·have:=congrArg ByteArray.size e;rw[cu] at this;exact absurd this (by decide)
theorem Q6{f:ByteArray->Option (List Nat)}(h:lJ f none): f (aW 114 0)=none:=by
 cases hf:f (aW 114 0) with
 | none=>rfl
 | some a=>
  rcases h.nam _ (by rw[hf];simp) with ⟨j,e⟩ | e | ⟨-,e⟩
  ·exact absurd e (qF (by decide))
  ·exact absurd e.symm (vG 114 0)
  ·exact absurd rfl e
theorem Ey(w:World)(st d M:Nat)(p:ByteArray->Option FS)(room T G N R q:Nat)(s:Bool)(la lg:Int)(ga cn:Nat)(W tq:Int)(Ap:Option Addr)(cp n1:Nat)(nm:ByteArray)(At:Option Addr)(ct nn:Nat)(qq:Nat->bC)(bs:List Nat)(h:KO w st d M p room T G N R q s la lg ga cn W tq Ap n1 nm At ct nn qq bs):
  Calls Tryz.prog 97 #[.pointer (some ⟨st,0,none⟩),Z 0,Z tq,.slice Ap n1 cp] w (Dv w st d M p room T G N R q s la lg W tq bs):=by
 have hN1:(N:Int)<=1000000:=by have:=h.num.n;omega
 have d1:decide (tq < -1152921504606846976)=false:=decide_eq_false (by have:=h.tier.u.1;omega);have d2:decide ((1152921504606846976:Int) < tq)=false:=decide_eq_false (by have:=h.tier.u.2;omega);have ek:IntKind.i64.wrap ((N:Int)+1)=(N:Int)+1:=by simp only[IntKind.wrap_i64];omega
 have HD:=zh h;clear h
 go_enter Tryz.func97,Tryz.ntmps97
 go_wp2_with fail;refine(jU w st d (HD.out.sto.blk.cell 0)).mono ?_;rintro e w1 ⟨rfl,hb1⟩;have s1:=HD.out.sto.call hb1;have u8:w1.cell? ⟨st,8,none⟩=some (.slice (some ⟨ga,0,none⟩) 1 cn):=s1.blk.cell 8;have a0:w1.cell? ⟨ga,0,none⟩=some (Z W):=s1.row.cell rfl rfl;have a1:w1.cell? ⟨ga,1,none⟩=some (Z 0):=s1.row.cell rfl rfl;have a2:w1.cell? ⟨ga,2,none⟩=some (Z 0):=s1.row.cell rfl rfl;have a3:w1.cell? ⟨ga,3,none⟩=some (.bool false):=s1.row.cell rfl rfl;have a4:w1.cell? ⟨ga,4,none⟩=some (.string ByteArray.empty):=s1.row.cell rfl rfl;have H1:=zh hb1;clear hb1 s1;go_upto_region 6 with (fail)
 obtain⟨y,hy⟩:∃ y,y=w1.heap.size:=⟨_,rfl⟩
 rw[<-hy];refine aC (Own w [(y,169,#[Z W,Z 0,Z 0,.bool false,.string ByteArray.empty])]) (((Own.start w).call H1.out).alloc hy _ _) ?_;clear hy u8 a0 a1 a2 a3 a4 d1 d2;intro w2 h2;obtain⟨z0_0,z0_1,z0_2,z0_3,z0_4⟩:=h2.c5 0;have H2:=zh h2;clear h2;go_wp2_with fail;clear z0_0 z0_1 z0_2 z0_3 z0_4;have hwk:bP W 0:=⟨HD.out.tier.v1,by have:=HD.out.tier.v2;omega,J,by have:=HD.out.tier.v1;omega⟩
 refine(Gj w2 Ap n1 cp (fun _=>nm) (fun _=>At) (fun _=>ct) (fun _=>nn) (fun _=>qq) W 0 (HD.out.parts.below H2.out.av) HD.out.pok hwk (fun j hj i hi=>HD.out.full i hi) (by have:=HD.out.n1le;omega) (fun j hj=>HD.out.nnle)).mono ?_;clear hwk;rw[<-HD.out.hbs];rintro e w3 ⟨A3,c3,rfl,hr3,hb3⟩;have h3:=H2.out.call hb3;have v1:w3.cell? ⟨st,1,none⟩=some (Z (N:Nat)):=(HD.out.sto.call h3.av).blk.cell 1;have H3:=zh (zN h3 (aN hr3 H2.out.size));clear h3 hr3 hb3;go_wp2_with fail;clear v1;refine(Gn w3 N (by have:=HD.out.n0;omega)).mono ?_;rintro e w4 ⟨rfl,hb4⟩;obtain⟨nb,hnb⟩:∃ z,z=aW 114 N:=⟨_,rfl⟩
 rw[<-hnb];have HNB:=zh hnb;have h4:=H3.out.1.call hb4;have hr4:=V.cO H3.out.2 hb4;obtain⟨w5,hw5⟩:∃ z,z=w4.setCell ⟨y,3,none⟩ (.bool true):=⟨_,rfl⟩
 have h5:Own w [(y,169,#[Z W,Z 0,Z 0,.bool true,.string ByteArray.empty])] w5:=by rw[hw5];exact h4.set 0 3 rfl _
 obtain⟨w6,hw6⟩:∃ z,z=w5.setCell ⟨y,2,none⟩ (Z tq):=⟨_,rfl⟩
 have h6:Own w [(y,169,#[Z W,Z 0,Z tq,.bool true,.string ByteArray.empty])] w6:=by rw[hw6];exact h5.set 0 2 rfl _
 obtain⟨w7,hw7⟩:∃ z,z=w6.setCell ⟨y,4,none⟩ (.string nb):=⟨_,rfl⟩
 have h7:Own w [(y,169,#[Z W,Z 0,Z tq,.bool true,.string nb])] w7:=by rw[hw7];exact h6.set 0 4 rfl _
 have k7:Keeps (fun z=>z=y) w4 w7:=by rw[hw7,hw6,hw5];exact (((Keeps.refl (fun z=>z=y) w4).setCell (fun _=>rfl) _).setCell (fun _=>rfl) _).setCell (fun _=>rfl) _
 have hr7:=aG hr4 k7 (fun z hz e=>own_ne hr4 (h4.get 0 rfl) (show 5≠169 by decide) (by rw[hz,e]));have y3:=h4.c 0 3;have f4:=h4.free 0 rfl;have y2:=h5.c 0 2;have f5:=h5.free 0 rfl;have y4:=h6.c 0 4;have f6:=h6.free 0 rfl;have z4:=h7.c 0 4;have H7:=zh (zN h7 hr7);have HW5:=zh hw5;have HW6:=zh hw6;have HW7:=zh hw7;clear hnb h4 hr4 hb4 hw5 h5 hw6 h6 hw7 h7 k7 hr7;go_wp2_with (first | rw[<-HW5.out] | rw[<-HW6.out] | rw[<-HW7.out]);clear y3 f4 y2 f5 y4 f6 z4;have hn0:=HD.out.n0;have hfb:fb p nb=none:=by rw[HNB.out,hn0];exact Q6 HD.out.nam
 have hTb:=HD.out.hT;have hGb:=HD.out.hG;refine(Gt w7 st d M p room T G nb A3 bs.length c3 bs (fH H7.out.1.av (HD.out.sto.blk.cell 0)) HD.out.nfs (HD.out.dt.call H7.out.1.av) hfb rfl (fun hn=>by
  have h:=F.sM rfl H7.out.2;obtain⟨b,off,hA,hd,hc⟩:=h hn;exact⟨b,off,hA,⟨World.block_lt_of_cell? _ _ (hc 0 hn),HD.out.dt.fresh (H7.out.2.lt b hd).1⟩,hc⟩) J HD.out.r1 HD.out.r2 J (by rw[HNB.out,cu];omega) (by rw[HNB.out,cu];omega)).mono ?_
 clear hfb hn0;rintro e w9 ⟨rfl,p9,hd9,hs9,hf9⟩;have s7:=HD.out.sto.call H7.out.1.av;have hy9:¬ aM d M p y:=HD.out.dt.fresh (H7.out.1.geq 0 rfl);have s9:iN w9 st d N R q s la lg (some ⟨ga,0,none⟩) 1 cn (kT 1 W):=s7.keep hs9.keep (fun z hz=>by
  rcases hz with rfl | hz
  ·exact HD.out.nfs
  ·injection hz with hz
   rw[<-hz];exact HD.out.nfa)
 have b9:ay w9 y 169 #[Z W,Z 0,Z tq,.bool true,.string nb]:=(H7.out.1.get 0 rfl).keeps hs9.keep hy9
 have st9:DStep w w9 d M p p9:=(DStep.of_below H7.out.1.av).trans hs9;have ns9:¬ aM d M p9 st:=hs9.EY s7.blk.lt HD.out.nfs;have er9:V.dh w9:=HD.out.er.keeps st9.keep HD.out.ef;have H9:=zh (zN hd9 (zN st9 (zN hf9 (zN s9 (zN b9 (zN ns9 er9))))));clear hd9 hs9 hf9 s7 hy9 s9 b9 st9 ns9 er9;have b9:=H9.out.2.2.2.1.blk;have z0_0:w9.cell? ⟨st,1,none⟩=some (Z (N:Nat)):=b9.cell 1;have z0_1:w9.cell? ⟨st,2,none⟩=some (Z (R:Nat)):=b9.cell 2;have z0_2:w9.cell? ⟨st,3,none⟩=some (Z (q:Nat)):=b9.cell 3;have z0_3:w9.cell? ⟨st,4,none⟩=some (.bool s):=b9.cell 4;have z0_4:w9.cell? ⟨st,5,none⟩=some (Z la):=b9.cell 5;have z0_5:w9.cell? ⟨st,6,none⟩=some (Z lg):=b9.cell 6;have z0_6:w9.cell? ⟨st,7,none⟩=some (.slice none 0 0):=b9.cell 7;have z0_7:w9.cell? ⟨st,8,none⟩=some (.slice (some ⟨ga,0,none⟩) 1 cn):=b9.cell 8;clear b9;have hc:=uW w9 0 N R q s la lg (some ⟨ga,0,none⟩) 1 cn (kT 1 W) H9.out.2.2.2.1.row;unfold aX at hc
 have HC:=zh hc;clear hc;go_wp2_with fail;clear z0_0 z0_1 z0_2 z0_3 z0_4 z0_5 z0_6 z0_7;refine HC.out.mono ?_;clear HC;rintro e w10 ⟨A4,c4,rfl,hr10,hb10⟩;unfold aX;go_upto_region 16 with (fail)
 obtain⟨z,hz⟩:∃ z,z=w10.heap.size:=⟨_,rfl⟩
 rw[<-hz];have al:Below w10.heap.size w10 (w10.alloc (.cells (aX N R q s la lg A4 1 c4) 92)):=(Below.refl _ _).alloc (Nat.le_refl _) _;refine aC (fun wx=>Own w9 [(z,92,aX N R q s la lg A4 1 c4)] wx/\bN wx w9.heap.size A4 1 c4 (kT 1 W)) ⟨((Own.start w9).call hb10).alloc hz _ _,hr10.call al⟩ ?_;clear al hz hr10 hb10;rintro w11 ⟨h11,r11⟩;obtain⟨g,rfl,hgB,hgl,hgc⟩:=r11.GY;clear hgc hgl;have hgz:g≠z:=fun e=>own_ne r11.row (h11.get 0 rfl) (show 169≠92 by decide) (by rw[e];rfl)
 obtain⟨w12,hw12⟩:∃ v,v=w11.setCell ⟨z,0,none⟩ (Z ((N:Int)+1)):=⟨_,rfl⟩
 have h12:Own w9 [(z,92,#[Z ((N:Int)+1),Z (R:Nat),Z (q:Nat),.bool s,Z la,Z lg,.slice none 0 0,.slice (some ⟨g,0,none⟩) 1 c4])] w12:=by rw[hw12];exact h11.set 0 0 rfl _
 have k12:Keeps (fun v=>v=z) w11 w12:=by rw[hw12];exact (Keeps.refl (fun v=>v=z) w11).setCell (fun _=>rfl) _
 have r12:=r11.keep k12 (fun v hv e=>by injection hv with hv;exact hgz (hv.trans e));obtain⟨w13,hw13⟩:∃ v,v=(((((w12.setCell ⟨g,0,none⟩ (Z W)).setCell ⟨g,1,none⟩ (Z 0)).setCell ⟨g,2,none⟩ (Z tq)).setCell ⟨g,3,none⟩ (.bool true)).setCell ⟨g,4,none⟩ (.string nb)):=⟨_,rfl⟩
 have r13:bN w13 w9.heap.size (some ⟨g,0,none⟩) 1 c4 (lq W 0 tq nb):=by rw[hw13];exact M4 r12 (Z W) (Z 0) (Z tq) (.bool true) (.string nb) (List.all_eq_true.1 rfl)
 have k13:Keeps (fun v=>v=g) w12 w13:=by rw[hw13];exact fO [Z W,Z 0,Z tq,.bool true,.string nb] 0 w12
 have h13:Own w9 [(z,92,#[Z ((N:Int)+1),Z (R:Nat),Z (q:Nat),.bool s,Z la,Z lg,.slice none 0 0,.slice (some ⟨g,0,none⟩) 1 c4])] w13:=
  ⟨h12.av.trans (k13.below h12.size (fun k hk e=>J)),fun bq hbq=>⟨(h12.blk bq hbq).1,(h12.blk bq hbq).2.keeps k13 (fun e=>by
   simp only[List.mem_singleton] at hbq
   subst hbq;exact hgz e.symm)⟩,h12.nd⟩
 have x0:=h11.c 0 0;have xf:=h11.free 0 rfl;have x7:=h12.c 0 7;have yb:=H9.out.2.2.2.2.1.below h12.av H9.out.2.2.2.2.1.lt;have y0:w12.cell? ⟨y,0,none⟩=some (Z W):=yb.cell 0;have y1:w12.cell? ⟨y,1,none⟩=some (Z 0):=yb.cell 1;have y2:w12.cell? ⟨y,2,none⟩=some (Z tq):=yb.cell 2;have y3:w12.cell? ⟨y,3,none⟩=some (.bool true):=yb.cell 3;have y4:w12.cell? ⟨y,4,none⟩=some (.string nb):=yb.cell 4;have a0:w12.cell? ⟨g,0,none⟩=some (Z W):=r12.cell rfl rfl;have a1:w12.cell? ⟨g,1,none⟩=some (Z 0):=r12.cell rfl rfl;have a2:w12.cell? ⟨g,2,none⟩=some (Z 0):=r12.cell rfl rfl;have a3:w12.cell? ⟨g,3,none⟩=some (.bool false):=r12.cell rfl rfl;have a4:w12.cell? ⟨g,4,none⟩=some (.string ByteArray.empty):=r12.cell rfl rfl;have af:=r12.frozen;have x13:=h13.get 0 rfl;have z0_0:w13.cell? ⟨z,0,none⟩=some (Z ((N:Int)+1)):=x13.cell 0;have z0_1:w13.cell? ⟨z,1,none⟩=some (Z (R:Nat)):=x13.cell 1;have z0_2:w13.cell? ⟨z,2,none⟩=some (Z (q:Nat)):=x13.cell 2;have z0_3:w13.cell? ⟨z,3,none⟩=some (.bool s):=x13.cell 3;have z0_4:w13.cell? ⟨z,4,none⟩=some (Z la):=x13.cell 4;have z0_5:w13.cell? ⟨z,5,none⟩=some (Z lg):=x13.cell 5;have z0_6:w13.cell? ⟨z,6,none⟩=some (.slice none 0 0):=x13.cell 6;have z0_7:w13.cell? ⟨z,7,none⟩=some (.slice (some ⟨g,0,none⟩) 1 c4):=x13.cell 7;have H13:=zh (zN h13 (zN r13 hgB));have HW12:=zh hw12;have HW13:=zh hw13;clear h11 r11 hgB hgz hw12 h12 k12 r12 hw13 r13 k13 h13 yb x13;go_wp2_with (first | rw[<-HW12.out] | rw[<-HW13.out]);clear x0 xf x7 y0 y1 y2 y3 y4 a0 a1 a2 a3 a4 af z0_0 z0_1 z0_2 z0_3 z0_4 z0_5 z0_6 z0_7;have hNN:fb p9 iI=none:=by
  rw[H9.out.2.2.1,kN _ _ (fun e=>by have:=congrArg ByteArray.size e;rw[HNB.out,cu] at this;exact absurd this (by decide))];exact Sw HD.out.nam
 have hgf:∀ v,(some (⟨g,0,none⟩:Addr)).map (·.block)=some v->¬ aM d M p9 v:=fun v hv=>by
  injection hv with hv
  rw[<-hv];exact H9.out.1.fresh H13.out.2.2
 have hc:=CO w13 st d M p9 room (T+bs.length) (G+2) N R q s la lg (some ⟨ga,0,none⟩) 1 cn (N+1) R q s la lg w9.heap.size g c4 W 0 tq nb (H9.out.2.2.2.1.blk.below H13.out.1.av H9.out.2.2.2.1.blk.lt) H9.out.2.2.2.2.2.1 (H9.out.1.call H13.out.1.av) hNN HD.out.num H13.out.2.1 hgf (by rw[HNB.out];exact HD.out.tier) (V.dh.below H9.out.2.2.2.2.2.2 H13.out.1.av) J HD.out.r1 HD.out.r2 J;unfold aX at hc
 rw[show (((N+1:Nat)):Int)=(N:Int)+1 by omega] at hc
 refine hc.mono ?_;clear hc hNN;rintro e w14 ⟨rfl,p14,bs2,hd14,hf14,hb14,hr14,hk14,hfar14⟩;have hf2:fb p14=aV (aV (fb p) (aW 114 0) bs) oQ bs2:=by rw[hf14,H9.out.2.2.1,HNB.out,HD.out.n0]
 have hnam:=O4 HD.out.nam hf2;have s14:iN w14 st d (N+1) R q s la lg (some ⟨g,0,none⟩) 1 c4 (lq W 0 tq nb):=⟨hb14,hr14.base (Nat.zero_le _)⟩
 have hgw:w.heap.size<=g:=Nat.le_trans H9.out.2.1.size H13.out.2.2;have ts:IW w w14 st d M p p14 g:=⟨((H9.out.2.1.below H13.out.1.av).keep.mono (fun q _ h=>Or.inl h)).trans hk14 (fun q hq h=>by
    rcases h with h | h
    ·exact .inl (H9.out.2.1.far q hq h)
    ·exact .inr h),
   fun q hq hf=>H9.out.2.1.far q hq (hfar14 q (Nat.lt_of_lt_of_le hq (H9.out.2.1.below H13.out.1.av).keep.size) hf),hgw⟩
 have H14:=zh (zN hd14 (zN hnam (zN s14 ts)));clear hd14 hf14 hb14 hr14 hk14 hfar14 hf2 hnam s14 hgw ts hgf;go_wp2_with fail;refine(ze w14 st d M p14 room (T+bs.length+(100+53*2)) (G+2+3) (N+1) R q s la lg (some ⟨g,0,none⟩) 1 c4 true W 0 tq nb (some bs) H14.out.2.2.1 H14.out.1 H14.out.2.1 (fun _=>⟨rfl,J,by rw[HNB.out,HD.out.n0]⟩) (by rw[HNB.out,cu];omega)).mono ?_;rintro e w15 ⟨rfl,hb15⟩;have s15:iN w15 st d (N+1) R q s la lg (some ⟨g,0,none⟩) 1 c4 (lq W 0 tq (aW 114 N)):=by
  have:=H14.out.2.2.1.call hb15
  rwa [HNB.out] at this
 have HF:=zh (show Dv w st d M p room T G N R q s la lg W tq bs (.returned (Z 0)) w15 from ⟨rfl,p14,g,c4,H14.out.1.call hb15,H14.out.2.1,s15,H14.out.2.2.2.keep.trans' (Keeps.of_below hb15),H14.out.2.2.2.dfar,H14.out.2.2.2.new⟩);clear hb15 s15;go_wp2_with fail;go_ret;exact HF.out
theorem uH(w:World)(A:Option Addr)(n c:Nat)(hn:n<=1): Calls Tryz.prog 220 #[.slice A n c] w fun e w'=>e=.returned (.slice A n c)/\Below w.heap.size w w':=by
 have d1:decide ((n:Int) < 2)=true:=decide_eq_true J
 go_enter Tryz.func220,Tryz.ntmps220
 go_wp2_with fail;go_ret;exact⟨rfl,Below.refl _ _⟩
theorem CS(w:World)(st d N R q:Nat)(s:Bool)(la lg:Int)(A:Option Addr)(n c:Nat)(ti:List Value)(h:iN w st d N R q s la lg A n c ti):
  Calls Tryz.prog 149 #[.pointer (some ⟨st,0,none⟩)] w fun e w'=>e=.returned (.tuple #[.slice none 0 0,.int .i64 0])/\Below w.heap.size w w':=by
 have HD:=zh h;clear h
 go_enter Tryz.func149,Tryz.ntmps149
 go_wp2_with fail;refine(jU w st d (HD.out.blk.cell 0)).mono ?_;rintro e w1 ⟨rfl,hb1⟩;have u7:w1.cell? ⟨st,7,none⟩=some (.slice none 0 0):=(HD.out.call hb1).blk.cell 7;have H1:=zh hb1;clear hb1;go_wp2_with fail;clear u7
 go_loopw [4,17] (fun o i wr=>o=.slice none 0 0/\i=.int .i64 0/\wr=w1) (fun _ _ _=>0)
 case atStart=>exact ⟨rfl,rfl,rfl⟩
 case round=>
  obtain⟨rfl,rfl,rfl⟩:=hrel;go_wp2_with fail;refine(pW wr 0 0 none J).mono ?_;rintro e w2 ⟨rfl,hb2⟩;have H2:=zh (V.aB H1.out hb2);clear hb2;go_wp2_with fail;refine(uH w2 none 0 0 J).mono ?_;rintro e w3 ⟨rfl,hb3⟩;have H3:=zh (V.aB H2.out hb3);clear hb3;go_wp2_with fail;go_ret2;exact⟨rfl,H3.out⟩
theorem JM(w:World)(st d N R q:Nat)(s:Bool)(la lg:Int)(ga c:Nat)(W:Int)(h:iN w st d N R q s la lg (some ⟨ga,0,none⟩) 1 c (kT 1 W)):
  Calls Tryz.prog 94 #[.pointer (some ⟨st,0,none⟩),Z 0] w fun e w'=>e=.returned (.tuple #[.slice none 0 0,Z 0])/\Below w.heap.size w w':=by
 have HD:=zh h;clear h;have nf:∀ w:World,(Op.unary .not (.bool false)).run Tryz.prog w=.ok (.bool true) w:=eP
 go_enter Tryz.func94,Tryz.ntmps94
 go_wp2_with fail;refine(jU w st d (HD.out.blk.cell 0)).mono ?_;rintro e w1 ⟨rfl,hb1⟩;have s1:=HD.out.call hb1;have u8:w1.cell? ⟨st,8,none⟩=some (.slice (some ⟨ga,0,none⟩) 1 c):=s1.blk.cell 8;have a0:w1.cell? ⟨ga,0,none⟩=some (Z W):=s1.row.cell rfl rfl;have a1:w1.cell? ⟨ga,1,none⟩=some (Z 0):=s1.row.cell rfl rfl;have a2:w1.cell? ⟨ga,2,none⟩=some (Z 0):=s1.row.cell rfl rfl;have a3:w1.cell? ⟨ga,3,none⟩=some (.bool false):=s1.row.cell rfl rfl;have a4:w1.cell? ⟨ga,4,none⟩=some (.string ByteArray.empty):=s1.row.cell rfl rfl;have H1:=zh hb1;clear hb1 s1;go_upto_region 6 with (fail)
 obtain⟨y,hy⟩:∃ y,y=w1.heap.size:=⟨_,rfl⟩
 rw[<-hy];refine aC (Own w [(y,169,#[Z W,Z 0,Z 0,.bool false,.string ByteArray.empty])]) (((Own.start w).call H1.out).alloc hy _ _) ?_;clear hy u8 a0 a1 a2 a3 a4;intro w2 h2;have z0_0:=h2.c5 0;have H2:=zh h2;clear h2;go_wp2_with fail;go_ret2;exact⟨rfl,H2.out.av⟩
theorem JN(w:World)(st d M:Nat)(p:ByteArray->Option FS)(room T G N R q:Nat)(s:Bool)(la lg:Int)(ga c:Nat)(W tq:Int)(fl:ByteArray)(b:Bool)(nm:ByteArray)(nn:Nat)(qq:Nat->bC)(bs:List Nat)(h:iN w st d N R q s la lg (some ⟨ga,0,none⟩) 1 c (lq W 0 tq fl))(hD:bD w d M p room T G)(hf:fb p fl=some bs)(hbs:bs=F.aZ 8 (rH b nm nn qq))(hok:nZ W 0 tq fl)(hp:b=true->pV W 0 nm nn qq)(hT:T<=1048576)(hl:bs.length<=T)(hv:V.dh w):
  Calls Tryz.prog 94 #[.pointer (some ⟨st,0,none⟩),Z 0] w (sS w b.toNat nm nn qq):=by
 have hk:bP W 0:=⟨hok.v1,by have:=hok.v2;omega,J,by have:=hok.v1;omega⟩
 have hbb:∀ j,bs.getD j 0 < 256:=by rw[hbs];exact V.gG (F.pK J (V.gG (Fv b nm nn qq)))
 have HD:=zh (zN h (zN hD (zN hf (zN hok (zN hp (zN hv (zN hk (zN hbs hbb))))))));clear h hD hf hok hp hv hk hbs hbb;have nt:∀ w:World,(Op.unary .not (.bool true)).run Tryz.prog w=.ok (.bool false) w:=bJ
 go_enter Tryz.func94,Tryz.ntmps94
 go_wp2_with fail;refine(jU w st d (HD.out.1.blk.cell 0)).mono ?_;rintro e w1 ⟨rfl,hb1⟩;have s1:=HD.out.1.call hb1;have u8:w1.cell? ⟨st,8,none⟩=some (.slice (some ⟨ga,0,none⟩) 1 c):=s1.blk.cell 8;have a0:w1.cell? ⟨ga,0,none⟩=some (Z W):=s1.row.cell rfl rfl;have a1:w1.cell? ⟨ga,1,none⟩=some (Z 0):=s1.row.cell rfl rfl;have a2:w1.cell? ⟨ga,2,none⟩=some (Z tq):=s1.row.cell rfl rfl;have a3:w1.cell? ⟨ga,3,none⟩=some (.bool true):=s1.row.cell rfl rfl;have a4:w1.cell? ⟨ga,4,none⟩=some (.string fl):=s1.row.cell rfl rfl;have H1:=zh hb1;clear hb1 s1;go_upto_region 6 with (fail)
 obtain⟨y,hy⟩:∃ y,y=w1.heap.size:=⟨_,rfl⟩
 rw[<-hy];refine aC (Own w [(y,169,#[Z W,Z 0,Z tq,.bool true,.string fl])]) (((Own.start w).call H1.out).alloc hy _ _) ?_;clear hy u8 a0 a1 a2 a3 a4;intro w2 h2;have z0_0:=h2.c5 0;have H2:=zh h2.drew;have hS:=h2.drew;clear h2;go_upto_region 8 with (fail)
 clear z0_0;have hS:(Own w [(y,169,#[Z W,Z 0,Z tq,.bool true,.string fl])]) (w2.drew):=hS;refine aA (Own w [(y,169,#[Z W,Z 0,Z tq,.bool true,.string fl])]) (by kernel_rfl) hS ?_;refine zB [0,1,2,3,4,5] ?_;iterate 6 (refine zV ?_ ?_ hS ?_;rotate_left;(intro w' hSw;have u0:=fH hSw.av (HD.out.1.blk.cell 0);have v4:=hSw.c 0 4;go_simp<;>with_reducible rfl);try simp only[zP])
 refine zE ?_;refine zC 6 fun K HK=>?_
 go_simp;refine(D5 w2.drew d M fl bs p room T G (HD.out.2.1.call H2.out.av) HD.out.2.2.1 hT HD.out.2.2.2.1.f2).mono ?_;rintro e w3 ⟨A3,c3,rfl,hr3,hb3⟩;have h3:=H2.out.call hb3;have H3:=zh (zN h3 hr3);clear hb3 hr3 h3;go_wp2_with fail;refine HK.out.zt (Own w [(y,169,#[Z W,Z 0,Z tq,.bool true,.string fl])]) (fun _ h=>h) (H3.out.1) ?_;clear HK hS;intro hS;try simp only[zP]
 refine zB [7,8,9,10,11] ?_;iterate 5 (refine zv hS ?_;try simp only[zP])
 refine zE ?_;refine zD ?_;try simp only[zP]
 clear hS;have h3:=H3.out.1;have z0_0:=h3.c5 0;clear h3;go_wp2_with fail;clear z0_0;refine(JF w3 A3 bs.length c3 _ b nm nn qq W 0 bs HD.out.2.2.2.2.2.2.2.1 rfl (F.sM rfl H3.out.2) HD.out.2.2.2.2.2.2.2.2 J (V.lY H3.out.2).1 HD.out.2.2.2.2.2.2.1 HD.out.2.2.2.2.1 (V.dh.below HD.out.2.2.2.2.2.1 H3.out.1.av)).mono ?_;rintro e w4 ⟨A4,c4,At,ct,rfl,hp4,hb4⟩;have H4:=zh (zN hp4 (V.aB H3.out.1.av hb4));clear hp4 hb4;go_wp2_with fail;go_ret2;exact⟨A4,c4,At,ct,rfl,H4.out⟩
end
section
open Go.RowKit Go.Maps
def Qq(w:World)(e:Ending)(w':World): Prop:=∃ A c,e=.returned (.tuple #[.slice A 1 c,Z 0])/\w'.ownsRow w.heap.size 9 1 (.slice A 1 c) 1 [.string aY]/\Below w.heap.size w w'
theorem Gy{B:Nat}{w0 w:World}{e:Nat}{lg:Int}{room limit most:Nat}{x:bM}(h:bG B w0 w e lg room limit most x)(hn:0 < x.n):
  Calls Tryz.prog 159 #[.pointer (some ⟨e,0,none⟩)] w (Qq w):=by
 have z1:=tO h.blk;have HD:=zh h;clear h
 go_enter Tryz.func159,Tryz.ntmps159
 go_wp2_with fail;refine(CS w x.st x.d x.N 0 0 false 0 lg x.An x.nt x.cn x.ti HD.out.sto).mono ?_;rintro u w1 ⟨rfl,hb1⟩;have h1:=HD.out.call hb1;clear z1;have z3:=Da h1.blk;have H1:=zh (zN h1 hb1);clear h1 hb1;go_wp2_with fail;clear z3;refine(Gd w1 x.t x.Mt x.At x.ct x.L x.n most x.U H1.out.1.tab hn).mono ?_;rintro u w2 ⟨A2,c2,rfl,hr2,hb2⟩;obtain⟨A',c',e1,hcc,hg⟩:=aH hr2;injection e1 with ea eb ec
 obtain⟨g,hA',hgb,hgl⟩:=hg J;obtain rfl:A2=some ⟨g,0,none⟩:=ea.trans hA';have hz:w2.ownsRow w.heap.size 9 1 (.slice none 0 0) 0 []:=⟨rfl,.inl ⟨rfl,rfl⟩⟩
 obtain⟨A6,c6,w6,hrun,hap⟩:=qo (P:=Tryz.prog) (w:=w2) (base:=w.heap.size) (t:=110) (ty:=110) (v:=.slice none 0 0) (n:=0) (m:=1) (xs:=[]) (news:=[.string aY]) (a:=⟨g,0,none⟩) (c:=c2) Tryz.underlying110 Bg rfl J hz rfl (fun j u hu=>World.ownsRow.cells hr2 (g:=g) rfl j u hu) (List.all_eq_true.1 rfl) J J (Nat.le_trans H1.out.2.size hb2.size);have hr6:=hap.row;rw[List.nil_append] at hr6
 rw[Nat.zero_add] at hr6 hrun
 have hb6:Below w2.heap.size w2 w6:=(hap.keeps.mono (fun q _ h=>(nomatch h:False))).fF;have H6:=zh (zN hr6 (V.aB (V.aB H1.out.2 hb2) hb6));clear hr2 hb2 hcc hg hA' hgb hgl hz hap hr6 hb6 ea;go_wp2_with (at_builtin;refine wpList_append_run rfl (.tmp 17) (.tmp 22) rfl rfl rfl hrun ?_);refine(pW w6 1 c6 A6 J).mono ?_;rintro u w7 ⟨rfl,hb7⟩;have H7:=zh (zN (V.cO H6.out.1 hb7) (V.aB H6.out.2 hb7));clear hb7;go_wp2_with fail;refine(uH w7 A6 1 c6 J).mono ?_;rintro u w8 ⟨rfl,hb8⟩;have H8:=zh (zN (V.cO H7.out.1 hb8) (V.aB H7.out.2 hb8));clear hb8;go_wp2_with fail;go_ret2;exact⟨A6,c6,rfl,H8.out⟩
def jN(W:Int): Int:=if aD W 0 (-1152921504606846976) < -1152921504606846976 then aD W 0 (-1152921504606846976)+W else aD W 0 (-1152921504606846976)
theorem J2{B:Nat}{w0 w:World}{e:Nat}{lg:Int}{room limit most:Nat}{x:bM}(h:bG B w0 w e lg room limit most x)(W wt:Int)(hW:1<=W)(hW2:W<=1000000)(ha:V.kX x.s x.la lg=wt)(hb:V.oO x.s x.la lg=true)(ht:2000000<=wt+2000000/\wt<=1000000):
  Calls Tryz.prog 92 #[.pointer (some ⟨e,0,none⟩),.agg (dP W 0 0 false ByteArray.empty)] w fun u w'=>u=.returned (.tuple #[.agg #[Z (jN W),Z (aD W 0 wt)],.bool true])/\Below w.heap.size w w':=by
 obtain⟨x0,hx⟩:∃ x,x=w.heap.size:=⟨_,rfl⟩
 have o0:=Own.eD w hx 169 (dP W 0 0 false ByteArray.empty) 171 #[Z 0,Z 0]
 have nf:∀ w:World,(Op.unary .not (.bool false)).run Tryz.prog w=.ok (.bool true) w:=eP
 have k0:∀ wx,Below w.heap.size w wx->Calls Tryz.prog 19 #[.pointer (some ⟨e,0,none⟩)] wx fun u w'=>u=.returned (.tuple #[Z wt,.bool true])/\Below wx.heap.size wx w':=fun wx hbx=>by
  have:=xq (h.call hbx);rw[ha,hb] at this
  exact this
 have k1:=fun wx=>wU wx W 0 0 wt false ByteArray.empty hW J J J J J
 have k2:=fun wx=>wU wx W 0 0 (-1152921504606846976) false ByteArray.empty hW J J J J J
 have sp1:=dD (W:=W) (O:=0) ⟨hW,J,J,J⟩ (t:=wt);have sp2:=dD (W:=W) (O:=0) ⟨hW,J,J,J⟩ (t:=-1152921504606846976);obtain⟨T,hT⟩:∃ z,z=aD W 0 wt:=⟨_,rfl⟩
 obtain⟨L,hL⟩:∃ z,z=aD W 0 (-1152921504606846976):=⟨_,rfl⟩
 have hF:jN W=if L < -1152921504606846976 then L+W else L:=by unfold jN;rw[hL]
 rw[<-hT] at k1 sp1 ⊢
 rw[<-hL] at k2 sp2
 rw[hF];obtain⟨F,hF0⟩:∃ z,z=(if L < -1152921504606846976 then L+W else L):=⟨_,rfl⟩
 rw[<-hF0];have HF0:=zh hF0;clear hF0;have HD:=zh (zN h o0);have eW:IntKind.i64.wrap (L+W)=L+W:=by simp only[IntKind.wrap_i64];omega
 have dT:decide ((-1152921504606846976:Int)<=T)=true:=decide_eq_true J;have HS:=zh (zN sp1 (zN sp2 (zN hW (zN hW2 ht))));clear h o0 ha hb hT hL hF sp1 sp2 hW hW2 ht;unfold dP at k1 k2 ⊢
 go_enter Tryz.func92,Tryz.ntmps92
 go_upto_region 1 with (fail)
 rw[<-hx];clear hx;refine aC (Own w [(x0,169,dP W 0 0 false ByteArray.empty),(x0+1,171,#[Z 0,Z 0])]) HD.out.2 ?_;intro w1 h1;have H1:=zh h1;clear h1;go_wp2_with fail;refine(k0 w1 H1.out.av).mono ?_;rintro u w2 ⟨rfl,hb2⟩;have H2:=zh (H1.out.call hb2);clear hb2;go_upto_region 2 with (fail)
 have hS:=H2.out.drew;have hS:(Own w [(x0,169,dP W 0 0 false ByteArray.empty),(x0+1,171,#[Z 0,Z 0])]) (w2.drew):=hS;refine aA (Own w [(x0,169,dP W 0 0 false ByteArray.empty),(x0+1,171,#[Z 0,Z 0])]) (by kernel_rfl) hS ?_;refine zB [0,1,2,3] ?_;iterate 4 (refine zV ?_ ?_ hS ?_;rotate_left;(intro w' hSw;obtain⟨v0,v1,v2,v3,v4⟩:=hSw.c5 0;go_simp<;>with_reducible rfl);try simp only[zP])
 refine zE ?_;refine fA (i:=4) (j:=6) rfl rfl (by kernel_rfl) (fun K hK=>?_) (fun K hK=>?_)
 ·skip
  have HK:=zh hK;clear hK;go_simp;refine(k1 w2.drew).mono ?_;rintro u w4 ⟨rfl,hb4⟩;have H4:=zh (H2.out.drew.call hb4);clear hb4;go_wp2_with fail;refine HK.out.zt (Own w [(x0,169,dP W 0 0 false ByteArray.empty),(x0+1,171,#[Z 0,Z 0])]) (fun _ h=>h) (H4.out) ?_;clear HK hS;intro hS;try simp only[zP]
  refine zt 5 hS ?_;try simp only[zP]
  refine zC 6 fun K HK=>?_
  go_simp;obtain⟨y,hy⟩:∃ z,z=w4.heap.size:=⟨_,rfl⟩
  obtain⟨w5,hw5⟩:∃ z,z=w4.alloc (.cells #[Z 0,Z 0] 171):=⟨_,rfl⟩
  rw[<-hy,<-hw5];have o5:Own w [(x0,169,dP W 0 0 false ByteArray.empty),(x0+1,171,#[Z 0,Z 0]),(y,171,#[Z 0,Z 0])] w5:=by rw[hw5];exact H4.out.alloc hy _ _
  clear hy hw5;obtain⟨y0,y1⟩:=o5.c2 2;have yf:=o5.free 2 rfl;have H5:=zh o5;go_wp2_with fail;refine HK.out.zt (Own w [(x0,169,dP W 0 0 false ByteArray.empty),(x0+1,171,#[Z 0,Z 0])]) (fun _ h=>h) (o5.take 2) ?_;clear HK hS;intro hS;try simp only[zP]
  clear o5;refine zC 7 fun K HK=>?_
  go_simp;obtain⟨w6,hw6⟩:∃ z,z=((w5.setCell ⟨y,0,none⟩ (Z 0)).setCell ⟨y,1,none⟩ (Z T)):=⟨_,rfl⟩
  rw[<-hw6];have o6:Own w [(x0,169,dP W 0 0 false ByteArray.empty),(x0+1,171,#[Z 0,Z 0]),(y,171,#[Z 0,Z T])] w6:=by rw[hw6];exact (H5.out.set 2 0 rfl _).set 2 1 rfl _
  clear hw6 y0 y1 yf;have H6:=zh o6;go_wp2_with fail;refine HK.out.zt (Own w [(x0,169,dP W 0 0 false ByteArray.empty),(x0+1,171,#[Z 0,Z 0])]) (fun _ h=>h) (o6.take 2) ?_;clear HK hS;intro hS;try simp only[zP]
  refine zD ?_;try simp only[zP]
  clear hS o6;have h6:=H6.out;obtain⟨z0_0,z0_1,z0_2,z0_3,z0_4⟩:=h6.c5 0;clear h6;go_upto_region 4 with (fail)
  clear z0_0 z0_1 z0_2 z0_3 z0_4;have hS:=(H6.out.take 2).drew;have hS:(Own w [(x0,169,dP W 0 0 false ByteArray.empty),(x0+1,171,#[Z 0,Z 0])]) (w6.drew):=hS;refine aA (Own w [(x0,169,dP W 0 0 false ByteArray.empty),(x0+1,171,#[Z 0,Z 0])]) (by kernel_rfl) hS ?_;refine zB [0,1] ?_;iterate 2 (refine zV ?_ ?_ hS ?_;rotate_left;(intro w' hSw;obtain⟨v0,v1,v2,v3,v4⟩:=hSw.c5 0;go_simp<;>with_reducible rfl);try simp only[zP])
  refine zE ?_;refine zC 2 fun K HK=>?_
  go_simp;refine(kC (HD.out.1.call H6.out.drew.av)).mono ?_;rintro u w7 ⟨rfl,hb7⟩;have H7:=zh (H6.out.drew.call hb7);clear hb7;go_wp2_with fail;refine HK.out.zt (Own w [(x0,169,dP W 0 0 false ByteArray.empty),(x0+1,171,#[Z 0,Z 0])]) (fun _ h=>h) (H7.out.take 2) ?_;clear HK hS;intro hS;try simp only[zP]
  refine zC 3 fun K HK=>?_
  go_simp;refine(k2 w7).mono ?_;rintro u w8 ⟨rfl,hb8⟩;have h8:=H7.out.call hb8;have y0:=h8.c 2 0;have yf:=h8.free 2 rfl;have H8:=zh h8;clear hb8 h8;go_wp2_with fail;refine HK.out.zt (Own w [(x0,169,dP W 0 0 false ByteArray.empty),(x0+1,171,#[Z 0,Z 0])]) (fun _ h=>h) (H8.out.take 2) ?_;clear HK hS;intro hS;try simp only[zP]
  refine zt 4 hS ?_;try simp only[zP]
  refine zC 5 fun K HK=>?_
  go_simp;obtain⟨w9,hw9⟩:∃ z,z=w8.setCell ⟨y,0,none⟩ (Z L):=⟨_,rfl⟩
  rw[<-hw9];have o9:Own w [(x0,169,dP W 0 0 false ByteArray.empty),(x0+1,171,#[Z 0,Z 0]),(y,171,#[Z L,Z T])] w9:=by rw[hw9];exact H8.out.set 2 0 rfl _
  clear hw9 y0 yf;have H9:=zh o9;go_wp2_with fail;refine HK.out.zt (Own w [(x0,169,dP W 0 0 false ByteArray.empty),(x0+1,171,#[Z 0,Z 0])]) (fun _ h=>h) (o9.take 2) ?_;clear HK hS;intro hS;try simp only[zP]
  refine zD ?_;try simp only[zP]
  clear hS o9;have hx1:x0+1≠y:=H9.out.ne (i:=1) (j:=2) rfl rfl J
  by_cases hlt:L < -1152921504606846976
  ·have dl:decide (L < -1152921504606846976)=true:=decide_eq_true hlt
   have dF:decide (L+W < T)=true:=decide_eq_true (by have:=HS.out;omega);have hF:F=L+W:=by rw[HF0.out,if_pos hlt]
   obtain⟨w10,hw10⟩:∃ z,z=w9.setCell ⟨y,0,none⟩ (Z (L+W)):=⟨_,rfl⟩
   have o10:Own w [(x0,169,dP W 0 0 false ByteArray.empty),(x0+1,171,#[Z 0,Z 0]),(y,171,#[Z (L+W),Z T])] w10:=by rw[hw10];exact H9.out.set 2 0 rfl _
   have h9:=H9.out;have y0:=h9.c 2 0;have yf:=h9.free 2 rfl;have t0:=h9.c 0 0;have HW10:=zh hw10;have H10:=zh o10;clear h9 hw10 o10 hlt;go_upto_region 7 with (rw[<-HW10.out])
   clear y0 yf t0;rw[<-hF] at dF
   have h0:=H10.out;rw[<-hF] at h0
   have HW0:=zh h0;have hS:=h0.drew;clear h0;clear hF;have HF10:=zh hS;clear hS;have hS:ay w10.drew y 171 #[Z F,Z T]:=HF10.out.get 2 rfl
   have hS:(fun wx=>ay wx y 171 #[Z F,Z T]) (w10.drew):=hS;refine aA (fun wx=>ay wx y 171 #[Z F,Z T]) (by kernel_rfl) hS ?_;refine zB [0,1,2,3,4,5,6,7,8,9,10,11,12,13] ?_;iterate 14 (refine zV ?_ ?_ hS ?_;rotate_left;(intro w' hSw;have v0:=hSw.cell 0;have v1:=hSw.cell 1;go_simp<;>with_reducible rfl);try simp only[zP])
   refine zE ?_;obtain⟨y0,y1⟩:=HW0.out.c2 1;have yf:=HW0.out.free 1 rfl;refine zC 14 fun K HK=>?_
   go_simp;obtain⟨w11,hw11⟩:∃ z,z=(((w10.setCell ⟨x0+1,0,none⟩ (Z F)).setCell ⟨x0+1,1,none⟩ (Z T))).drew:=⟨_,rfl⟩
   rw[<-hw11];have o11:Own w [(x0,169,dP W 0 0 false ByteArray.empty),(x0+1,171,#[Z F,Z T]),(y,171,#[Z F,Z T])] w11:=by rw[hw11];exact ((HW0.out.set 1 0 rfl _).set 1 1 rfl _).drew
   clear hw11 y0 y1 yf;go_wp2_with fail;refine HK.out.zt (fun wx=>ay wx y 171 #[Z F,Z T]) (fun _ h=>h) (o11.get 2 rfl) ?_;clear HK hS;intro hS;try simp only[zP]
   refine zt 15 hS ?_;try simp only[zP]
   refine zD ?_;try simp only[zP]
   clear hS;obtain⟨y0,y1⟩:=o11.c2 1;go_wp2_with fail;refine bodyPost_ret (v:=.tuple #[.agg #[Z F,Z T],.bool true]) (by simp[results,Tryz.results92,go_sem,y0,y1]) rfl ?_;exact⟨rfl,o11.av⟩
  ·have dl:decide (L < -1152921504606846976)=false:=decide_eq_false hlt
   have dF:decide (L < T)=true:=decide_eq_true (by have:=HS.out;omega);have hF:F=L:=by rw[HF0.out,if_neg hlt]
   have h9:=H9.out;have y0:=h9.c 2 0;clear h9 hlt;go_upto_region 7 with (fail)
   clear y0;rw[<-hF] at dF
   have h0:=H9.out;rw[<-hF] at h0
   have HW0:=zh h0;have hS:=h0.drew;clear h0;clear hF;have HF10:=zh hS;clear hS;have hS:ay w9.drew y 171 #[Z F,Z T]:=HF10.out.get 2 rfl
   have hS:(fun wx=>ay wx y 171 #[Z F,Z T]) (w9.drew):=hS;refine aA (fun wx=>ay wx y 171 #[Z F,Z T]) (by kernel_rfl) hS ?_;refine zB [0,1,2,3,4,5,6,7,8,9,10,11,12,13] ?_;iterate 14 (refine zV ?_ ?_ hS ?_;rotate_left;(intro w' hSw;have v0:=hSw.cell 0;have v1:=hSw.cell 1;go_simp<;>with_reducible rfl);try simp only[zP])
   refine zE ?_;obtain⟨y0,y1⟩:=HW0.out.c2 1;have yf:=HW0.out.free 1 rfl;refine zC 14 fun K HK=>?_
   go_simp;obtain⟨w11,hw11⟩:∃ z,z=(((w9.setCell ⟨x0+1,0,none⟩ (Z F)).setCell ⟨x0+1,1,none⟩ (Z T))).drew:=⟨_,rfl⟩
   rw[<-hw11];have o11:Own w [(x0,169,dP W 0 0 false ByteArray.empty),(x0+1,171,#[Z F,Z T]),(y,171,#[Z F,Z T])] w11:=by rw[hw11];exact ((HW0.out.set 1 0 rfl _).set 1 1 rfl _).drew
   clear hw11 y0 y1 yf;go_wp2_with fail;refine HK.out.zt (fun wx=>ay wx y 171 #[Z F,Z T]) (fun _ h=>h) (o11.get 2 rfl) ?_;clear HK hS;intro hS;try simp only[zP]
   refine zt 15 hS ?_;try simp only[zP]
   refine zD ?_;try simp only[zP]
   clear hS;obtain⟨y0,y1⟩:=o11.c2 1;go_wp2_with fail;refine bodyPost_ret (v:=.tuple #[.agg #[Z F,Z T],.bool true]) (by simp[results,Tryz.results92,go_sem,y0,y1]) rfl ?_;exact⟨rfl,o11.av⟩
 ·skip
  have HK:=zh hK;clear hK;go_simp;obtain⟨y,hy⟩:∃ z,z=w2.heap.size:=⟨_,rfl⟩
  obtain⟨w4,hw4⟩:∃ z,z=(w2.alloc (.cells #[Z 0,Z 0] 171)).drew:=⟨_,rfl⟩
  rw[<-hy,<-hw4];have o4:Own w [(x0,169,dP W 0 0 false ByteArray.empty),(x0+1,171,#[Z 0,Z 0]),(y,171,#[Z 0,Z 0])] w4:=by rw[hw4];exact (H2.out.alloc hy _ _).drew
  clear hy hw4;have H4:=zh o4;go_wp2_with fail;refine HK.out.zt (Own w [(x0,169,dP W 0 0 false ByteArray.empty),(x0+1,171,#[Z 0,Z 0])]) (fun _ h=>h) (o4.take 2) ?_;clear HK hS;intro hS;try simp only[zP]
  clear o4;refine zC 4 fun K HK=>?_
  go_simp;refine(k1 w4).mono ?_;rintro u w5 ⟨rfl,hb5⟩;have o5:=H4.out.call hb5;clear hb5;obtain⟨y0,y1⟩:=o5.c2 2;have yf:=o5.free 2 rfl;have H5:=zh o5;go_wp2_with fail;refine HK.out.zt (Own w [(x0,169,dP W 0 0 false ByteArray.empty),(x0+1,171,#[Z 0,Z 0])]) (fun _ h=>h) (o5.take 2) ?_;clear HK hS;intro hS;try simp only[zP]
  clear o5;refine zt 5 hS ?_;try simp only[zP]
  refine zC 7 fun K HK=>?_
  go_simp;obtain⟨w6,hw6⟩:∃ z,z=((w5.setCell ⟨y,0,none⟩ (Z 0)).setCell ⟨y,1,none⟩ (Z T)):=⟨_,rfl⟩
  rw[<-hw6];have o6:Own w [(x0,169,dP W 0 0 false ByteArray.empty),(x0+1,171,#[Z 0,Z 0]),(y,171,#[Z 0,Z T])] w6:=by rw[hw6];exact (H5.out.set 2 0 rfl _).set 2 1 rfl _
  clear hw6 y0 y1 yf;have H6:=zh o6;go_wp2_with fail;refine HK.out.zt (Own w [(x0,169,dP W 0 0 false ByteArray.empty),(x0+1,171,#[Z 0,Z 0])]) (fun _ h=>h) (o6.take 2) ?_;clear HK hS;intro hS;try simp only[zP]
  refine zD ?_;try simp only[zP]
  clear hS o6;have h6:=H6.out;obtain⟨z0_0,z0_1,z0_2,z0_3,z0_4⟩:=h6.c5 0;clear h6;go_upto_region 4 with (fail)
  clear z0_0 z0_1 z0_2 z0_3 z0_4;have hS:=(H6.out.take 2).drew;have hS:(Own w [(x0,169,dP W 0 0 false ByteArray.empty),(x0+1,171,#[Z 0,Z 0])]) (w6.drew):=hS;refine aA (Own w [(x0,169,dP W 0 0 false ByteArray.empty),(x0+1,171,#[Z 0,Z 0])]) (by kernel_rfl) hS ?_;refine zB [0,1] ?_;iterate 2 (refine zV ?_ ?_ hS ?_;rotate_left;(intro w' hSw;obtain⟨v0,v1,v2,v3,v4⟩:=hSw.c5 0;go_simp<;>with_reducible rfl);try simp only[zP])
  refine zE ?_;refine zC 2 fun K HK=>?_
  go_simp;refine(kC (HD.out.1.call H6.out.drew.av)).mono ?_;rintro u w7 ⟨rfl,hb7⟩;have H7:=zh (H6.out.drew.call hb7);clear hb7;go_wp2_with fail;refine HK.out.zt (Own w [(x0,169,dP W 0 0 false ByteArray.empty),(x0+1,171,#[Z 0,Z 0])]) (fun _ h=>h) (H7.out.take 2) ?_;clear HK hS;intro hS;try simp only[zP]
  refine zC 3 fun K HK=>?_
  go_simp;refine(k2 w7).mono ?_;rintro u w8 ⟨rfl,hb8⟩;have h8:=H7.out.call hb8;have y0:=h8.c 2 0;have yf:=h8.free 2 rfl;have H8:=zh h8;clear hb8 h8;go_wp2_with fail;refine HK.out.zt (Own w [(x0,169,dP W 0 0 false ByteArray.empty),(x0+1,171,#[Z 0,Z 0])]) (fun _ h=>h) (H8.out.take 2) ?_;clear HK hS;intro hS;try simp only[zP]
  refine zt 4 hS ?_;try simp only[zP]
  refine zC 5 fun K HK=>?_
  go_simp;obtain⟨w9,hw9⟩:∃ z,z=w8.setCell ⟨y,0,none⟩ (Z L):=⟨_,rfl⟩
  rw[<-hw9];have o9:Own w [(x0,169,dP W 0 0 false ByteArray.empty),(x0+1,171,#[Z 0,Z 0]),(y,171,#[Z L,Z T])] w9:=by rw[hw9];exact H8.out.set 2 0 rfl _
  clear hw9 y0 yf;have H9:=zh o9;go_wp2_with fail;refine HK.out.zt (Own w [(x0,169,dP W 0 0 false ByteArray.empty),(x0+1,171,#[Z 0,Z 0])]) (fun _ h=>h) (o9.take 2) ?_;clear HK hS;intro hS;try simp only[zP]
  refine zD ?_;try simp only[zP]
  clear hS o9;have hx1:x0+1≠y:=H9.out.ne (i:=1) (j:=2) rfl rfl J
  by_cases hlt:L < -1152921504606846976
  ·have dl:decide (L < -1152921504606846976)=true:=decide_eq_true hlt
   have dF:decide (L+W < T)=true:=decide_eq_true (by have:=HS.out;omega);have hF:F=L+W:=by rw[HF0.out,if_pos hlt]
   obtain⟨w10,hw10⟩:∃ z,z=w9.setCell ⟨y,0,none⟩ (Z (L+W)):=⟨_,rfl⟩
   have o10:Own w [(x0,169,dP W 0 0 false ByteArray.empty),(x0+1,171,#[Z 0,Z 0]),(y,171,#[Z (L+W),Z T])] w10:=by rw[hw10];exact H9.out.set 2 0 rfl _
   have h9:=H9.out;have y0:=h9.c 2 0;have yf:=h9.free 2 rfl;have t0:=h9.c 0 0;have HW10:=zh hw10;have H10:=zh o10;clear h9 hw10 o10 hlt;go_upto_region 7 with (rw[<-HW10.out])
   clear y0 yf t0;rw[<-hF] at dF
   have h0:=H10.out;rw[<-hF] at h0
   have HW0:=zh h0;have hS:=h0.drew;clear h0;clear hF;have HF10:=zh hS;clear hS;have hS:ay w10.drew y 171 #[Z F,Z T]:=HF10.out.get 2 rfl
   have hS:(fun wx=>ay wx y 171 #[Z F,Z T]) (w10.drew):=hS;refine aA (fun wx=>ay wx y 171 #[Z F,Z T]) (by kernel_rfl) hS ?_;refine zB [0,1,2,3,4,5,6,7,8,9,10,11,12,13] ?_;iterate 14 (refine zV ?_ ?_ hS ?_;rotate_left;(intro w' hSw;have v0:=hSw.cell 0;have v1:=hSw.cell 1;go_simp<;>with_reducible rfl);try simp only[zP])
   refine zE ?_;obtain⟨y0,y1⟩:=HW0.out.c2 1;have yf:=HW0.out.free 1 rfl;refine zC 14 fun K HK=>?_
   go_simp;obtain⟨w11,hw11⟩:∃ z,z=(((w10.setCell ⟨x0+1,0,none⟩ (Z F)).setCell ⟨x0+1,1,none⟩ (Z T))).drew:=⟨_,rfl⟩
   rw[<-hw11];have o11:Own w [(x0,169,dP W 0 0 false ByteArray.empty),(x0+1,171,#[Z F,Z T]),(y,171,#[Z F,Z T])] w11:=by rw[hw11];exact ((HW0.out.set 1 0 rfl _).set 1 1 rfl _).drew
   clear hw11 y0 y1 yf;go_wp2_with fail;refine HK.out.zt (fun wx=>ay wx y 171 #[Z F,Z T]) (fun _ h=>h) (o11.get 2 rfl) ?_;clear HK hS;intro hS;try simp only[zP]
   refine zt 15 hS ?_;try simp only[zP]
   refine zD ?_;try simp only[zP]
   clear hS;obtain⟨y0,y1⟩:=o11.c2 1;go_wp2_with fail;refine bodyPost_ret (v:=.tuple #[.agg #[Z F,Z T],.bool true]) (by simp[results,Tryz.results92,go_sem,y0,y1]) rfl ?_;exact⟨rfl,o11.av⟩
  ·have dl:decide (L < -1152921504606846976)=false:=decide_eq_false hlt
   have dF:decide (L < T)=true:=decide_eq_true (by have:=HS.out;omega);have hF:F=L:=by rw[HF0.out,if_neg hlt]
   have h9:=H9.out;have y0:=h9.c 2 0;clear h9 hlt;go_upto_region 7 with (fail)
   clear y0;rw[<-hF] at dF
   have h0:=H9.out;rw[<-hF] at h0
   have HW0:=zh h0;have hS:=h0.drew;clear h0;clear hF;have HF10:=zh hS;clear hS;have hS:ay w9.drew y 171 #[Z F,Z T]:=HF10.out.get 2 rfl
   have hS:(fun wx=>ay wx y 171 #[Z F,Z T]) (w9.drew):=hS;refine aA (fun wx=>ay wx y 171 #[Z F,Z T]) (by kernel_rfl) hS ?_;refine zB [0,1,2,3,4,5,6,7,8,9,10,11,12,13] ?_;iterate 14 (refine zV ?_ ?_ hS ?_;rotate_left;(intro w' hSw;have v0:=hSw.cell 0;have v1:=hSw.cell 1;go_simp<;>with_reducible rfl);try simp only[zP])
   refine zE ?_;obtain⟨y0,y1⟩:=HW0.out.c2 1;have yf:=HW0.out.free 1 rfl;refine zC 14 fun K HK=>?_
   go_simp;obtain⟨w11,hw11⟩:∃ z,z=(((w9.setCell ⟨x0+1,0,none⟩ (Z F)).setCell ⟨x0+1,1,none⟩ (Z T))).drew:=⟨_,rfl⟩
   rw[<-hw11];have o11:Own w [(x0,169,dP W 0 0 false ByteArray.empty),(x0+1,171,#[Z F,Z T]),(y,171,#[Z F,Z T])] w11:=by rw[hw11];exact ((HW0.out.set 1 0 rfl _).set 1 1 rfl _).drew
   clear hw11 y0 y1 yf;go_wp2_with fail;refine HK.out.zt (fun wx=>ay wx y 171 #[Z F,Z T]) (fun _ h=>h) (o11.get 2 rfl) ?_;clear HK hS;intro hS;try simp only[zP]
   refine zt 15 hS ?_;try simp only[zP]
   refine zD ?_;try simp only[zP]
   clear hS;obtain⟨y0,y1⟩:=o11.c2 1;go_wp2_with fail;refine bodyPost_ret (v:=.tuple #[.agg #[Z F,Z T],.bool true]) (by simp[results,Tryz.results92,go_sem,y0,y1]) rfl ?_;exact⟨rfl,o11.av⟩
end
end Go.Proofs.YtmffkpkgbdcnjaaGreatDoor
