/-
  Texts of this proof, joined.
-/
import Derived.Test.YtmffkpkgbdcnjaaGreatDoorTopLimits06
import Derived.Test.YtmffkpkgbdcnjaaGreatDoorTopLimits02
import Derived.Test.YtmffkpkgbdcnjaaGreatDoorTopLimits04
import Derived.Test.YtmffkpkgbdcnjaaGreatDoorTopLimits01
import Derived.Test.YtmffkpkgbdcnjaaGreatDoorTopLimits05
import Derived.DeepKeys3
set_option linter.unusedVariables false
set_option linter.unusedSimpArgs false
set_option maxRecDepth 100000
set_option maxHeartbeats 20000000
namespace Go.Proofs.YtmffkpkgbdcnjaaGreatDoor
section
open Go.RowKit Go.Maps
def fV(pl:Nat→List Pt): Nat→List Value
 | 0=>[]
 | k+1=>fV pl k ++ [.string (bU 115 k),.int .i64 (j4 (pl k)),.int .i64 (j6 (pl k)),.int .i64 ((pl k).length:Nat)]
theorem Bl(pl:Nat→List Pt): ∀ k,(fV pl k).length=k*4
 | 0=>rfl
 | k+1=>by
  show (fV pl k ++ _).length=_
  rw[List.length_append,Bl pl k]
  simp
  omega
theorem NG(pl:Nat→List Pt)(j:Nat): ∀ k,j < k→((fV pl k)[j*4]? = some (.string (bU 115 j))∧(fV pl k)[j*4+1]? = some (.int .i64 (j4 (pl j))))∧(fV pl k)[j*4+2]? = some (.int .i64 (j6 (pl j)))∧(fV pl k)[j*4+3]? = some (.int .i64 ((pl j).length:Nat))
 | 0,h=>absurd h (Nat.not_lt_zero _)
 | k+1,h=>by
  have hl:=Bl pl k
  by_cases e:j < k
  ·have ih:=NG pl j k e
   show ((fV pl k ++ _)[_]? = _∧(fV pl k ++ _)[_]? = _)∧(fV pl k ++ _)[_]? = _∧(fV pl k ++ _)[_]? = _
   rw[List.getElem?_append_left (by omega),List.getElem?_append_left (by omega),List.getElem?_append_left (by omega),List.getElem?_append_left (by omega)]
   exact ih
  ·obtain rfl:j=k:=by omega
   show ((fV pl j ++ _)[_]? = _∧(fV pl j ++ _)[_]? = _)∧(fV pl j ++ _)[_]? = _∧(fV pl j ++ _)[_]? = _
   rw[List.getElem?_append_right (by omega),List.getElem?_append_right (by omega),List.getElem?_append_right (by omega),List.getElem?_append_right (by omega),hl,Nat.sub_self,show j*4+1-j*4=1 by omega,show j*4+2-j*4=2 by omega,show j*4+3-j*4=3 by omega]
   exact⟨⟨rfl,rfl⟩,rfl,rfl⟩
theorem G6(pl:Nat→List Pt): ∀ k,∀ u ∈ fV pl k,u.oneCell'=true
 | 0,u,h=>by cases h
 | k+1,u,h=>by
  rcases List.mem_append.1 h with h | h
  ·exact G6 pl k u h
  ·simp at h
   rcases h with rfl | rfl | rfl | rfl<;>rfl
theorem CY{pl pl':Nat→List Pt}: ∀ k,(∀ j,j < k→pl j=pl' j)→fV pl k=fV pl' k
 | 0,_=>rfl
 | k+1,h=>by
  show fV pl k ++ _=fV pl' k ++ _
  rw[CY k (fun j hj=>h j (by omega)),h k (by omega)]
theorem Rh: (Tryz.prog.info? 164).map (fun i=>(i.zero,i.size,i.bytes))=some (some (.agg #[.string ByteArray.empty,.int .i64 0,.int .i64 0,.int .i64 0]),4,40):=by kernel_rfl
theorem vL(g j:Nat): (⟨g,0,none⟩:Addr).add j=⟨g,j,none⟩:=by unfold Addr.add;split<;>simp_all
theorem QG{w:World}{B K cp:Nat}{A:Option Addr}{pl:Nat→List Pt}(h:w.ownsRow B 164 4 (.slice A K cp) K (fV pl K)): nK w (fun q=>q < w.heap.size∧A.map (·.block)=some q) A K pl:=fun hK=>by
 obtain⟨A',c',e,-,hg⟩:=aA h
 injection e with e
 subst e
 obtain⟨g,rfl,-,hlt⟩:=hg hK
 refine⟨g,rfl,⟨hlt,rfl⟩,fun j hj=>?_⟩
 obtain⟨⟨h0,h1⟩,h2,h3⟩:=NG pl j K hj
 have c0:=h.cells (g:=g) rfl _ _ h0
 have c1:=h.cells (g:=g) rfl _ _ h1
 have c2:=h.cells (g:=g) rfl _ _ h2
 have c3:=h.cells (g:=g) rfl _ _ h3
 rw[vL] at c0 c1 c2 c3
 exact⟨⟨c0,c1⟩,c2,c3⟩
theorem uo{w:World}{base K g c2:Nat}{v:Value}{n:Nat}{xs news:List Value}{m:Nat}{ty:TypeId}(hown:w.ownsRow base 164 4 v n xs)(hl:news.length=m*4)(hc:∀ j u,news[j]? = some u→w.cell? ⟨g,j,none⟩=some u)(h1:∀ u ∈ news,u.oneCell'=true)(hn:n+m < 100000)(hbase:base≤w.heap.size):
  ∃ v' w',(Builtin.append_ #[89,89] ty #[v,.slice (some ⟨g,0,none⟩) m c2]).run Tryz.prog w=.ok v' w'∧w'.ownsRow base 164 4 v' (n+m) (xs ++ news)∧w.grownBy w' v.ownBlock∧(v'.ownBlock=v.ownBlock∨v'.ownBlock=some w.heap.size):=by
 obtain⟨i,hi,hz,hs,hb⟩:=info_parts Rh
 obtain⟨v',w',h1,h2,h3,_,h4⟩:=run_append_own_at (P:=Tryz.prog) w base 89 ty 164 i _ 4 40 Tryz.underlying89 hi hz hs hb rfl (by decide) v n xs hown ⟨g,0,none⟩ m c2 news hl
  (fun j u' hu'=>by rw[vL];exact hc j u' hu') h1 (by unfold maxLen;omega) (by omega) hbase
 exact⟨v',w',h1,h2,h3,h4⟩
theorem wpList_append_run{P:Program}{t:TypeId}{w w':World}{v u v':Value}{ops:Array Oper}{rest:List Oper}{o:Oper}{a:Act}{Q:Exit→Act→World→Prop}(hg:o.guard=none)(s x:Operand)(ho:o.op=.call { callee:=.builtin .append,args:=#[s,x],argTypes:=#[t,t] })(hs:a.eval s=v)(hx:a.eval x=u)(hrun:(Builtin.append_ #[t,t] o.type #[v,u]).run P w=.ok v' w')(h:wpList P ops Q rest (a.put o.dst v') w'): wpList P ops Q (o :: rest) a w:=by
 refine wpList_plain hg fun K hK=>?_
 unfold Oper.wp execOp
 simp only[ho,resolve,invoke,builtin,Sem.run_bind,Sem.run_pure,Result.andThen_ok,List.map_toArray,List.map_cons,List.map_nil,hs,hx,hrun]
 exact hK _ _ h
theorem N9(w:World): (binOp .eql 89 (.slice none 0 0) (.slice none 0 0)).run Tryz.prog w=.ok (.bool true) w:=by kernel_rfl
theorem Lj(a:Addr)(n c:Nat)(w:World): (binOp .eql 89 (.slice (some a) n c) (.slice none 0 0)).run Tryz.prog w=.ok (.bool false) w:=by kernel_rfl
theorem Pp(w:World): (binOp .eql 90 (.slice none 0 0) (.slice none 0 0)).run Tryz.prog w=.ok (.bool true) w:=by kernel_rfl
def Md(w:World)(K:Nat)(pl:Nat→List Pt)(e:Ending)(w':World): Prop:=
 ∃ (A':Option Addr) (c':Nat),e=.returned (.slice A' K c')∧w'.ownsRow w.heap.size 164 4 (.slice A' K c') K (fV pl K)∧(K=0→A'=none∧c'=0)∧Below w.heap.size w w'
theorem Jo(w:World)(B:Nat)(A:Option Addr)(Kf cp:Nat)(pl:Nat→List Pt)(hrow:w.ownsRow B 164 4 (.slice A Kf cp) Kf (fV pl Kf))(h0:Kf=0→A=none∧cp=0)(hK:Kf≤500):
  Calls Tryz.prog 130 #[.slice A Kf cp] w (Md w Kf pl):=by
 have e1:=N9
 have e2:=Lj
 cases Kf with
 | zero=>
  obtain⟨rfl,rfl⟩:=h0 rfl
  clear hrow h0
  go_enter Tryz.func130,Tryz.ntmps130
  go_wp2_with fail
  go_ret
  exact⟨none,0,rfl,⟨rfl,.inl ⟨rfl,rfl⟩⟩,fun _=>⟨rfl,rfl⟩,Below.refl _ _⟩
 | succ Kf=>
  obtain⟨A',c',e,hcc,hg⟩:=aA hrow
  injection e with ea eb ec
  obtain⟨g,hA',-,hlt⟩:=hg (by omega)
  obtain rfl:A=some ⟨g,0,none⟩:=ea.trans hA'
  clear ea eb ec hg hA'
  obtain⟨v3,w3,hrun3,r3,g3,x3⟩:=uo (w:=w.alloc (.cells #[] 164)) (base:=w.heap.size) (K:=0) (g:=g) (c2:=cp) (v:=.slice (some ⟨w.heap.size,0,none⟩) 0 0) (n:=0) (xs:=[]) (news:=fV pl (Kf+1)) (m:=Kf+1) (ty:=89) (World.ownsRow_made w #[] 0 (Nat.le_refl _) (by unfold maxLen;omega) rfl) (Bl _ _)
   (fun j u hu=>by
    have:=hrow.cells (g:=g) rfl _ _ hu
    rw[vL] at this
    exact(((Below.refl w.heap.size w).alloc (Nat.le_refl _) (.cells #[] 164)).cell (p:=⟨g,j,none⟩) hlt).trans this) (G6 _ _) (by omega) (by simp)
  have b3:Below w.heap.size w w3:=((Below.refl w.heap.size w).alloc (Nat.le_refl _) (.cells #[] 164)).grown g3 (by simp) (fun k hk=>by simp[Value.ownBlock] at hk;omega)
  obtain⟨A3,c3,hv3,hc3,-⟩:=aA r3
  rw[List.nil_append] at r3
  rw[Nat.zero_add] at r3 hv3 hc3
  subst hv3
  have HE:=zh (zN r3 b3)
  clear hrow h0 r3 b3 g3 x3
  go_enter Tryz.func130,Tryz.ntmps130
  go_wp2_with (at_builtin;refine wpList_append_run rfl (.tmp 5) (.tmp 6) rfl rfl rfl hrun3 ?_)
  go_ret
  exact⟨A3,c3,rfl,HE.out.1,fun h=>absurd h (by omega),HE.out.2⟩
theorem Gw(w:World): Calls Tryz.prog 131 #[.slice none 0 0] w fun e w'=>e=.returned (.slice none 0 0)∧Below w.heap.size w w':=by
 have e1:=Pp
 go_enter Tryz.func131,Tryz.ntmps131
 go_wp2_with fail
 go_ret
 exact⟨rfl,Below.refl _ _⟩
theorem Gc(a:Addr)(w:World): (binOp .eql 75 (.pointer (some a)) (.pointer none)).run Tryz.prog w=.ok (.bool false) w:=by kernel_rfl
theorem rz(w:World)(s d:Nat)(hc:w.cell? ⟨s,0,none⟩=some (.pointer (some ⟨d,0,none⟩))): Calls Tryz.prog 63 #[.pointer (some ⟨s,0,none⟩)] w fun e w'=>e=.returned (.bool false)∧Below w.heap.size w w':=by
 have q2:=fun y=>Gc ⟨y,0,none⟩
 have q3:=fun y=>Da ⟨y,0,none⟩
 go_enter Tryz.func63,Tryz.ntmps63
 go_wp2_with fail
 go_ret
 exact⟨rfl,Below.refl _ _⟩
def Ct(w:World)(x:Nat)(wx:World): Prop:=Own w [(x+1,92,aP 0 0 0 false 0 0 none 0 0)] wx∧wx.cell? ⟨x,7,none⟩=some (.slice none 0 0)
def ED(w:World)(N R q:Nat)(s:Bool)(la lg:Int)(K:Nat)(pl:Nat→List Pt)(e:Ending)(w':World): Prop:=
 ∃ (A':Option Addr) (c':Nat),e=.returned (.agg (aP N R q s la lg A' K c'))∧w'.ownsRow w.heap.size 164 4 (.slice A' K c') K (fV pl K)∧(K=0→A'=none∧c'=0)∧Below w.heap.size w w'
theorem xI(w:World)(B:Nat)(N R q:Nat)(s:Bool)(la lg:Int)(A:Option Addr)(Kf cp:Nat)(pl:Nat→List Pt)(hrow:w.ownsRow B 164 4 (.slice A Kf cp) Kf (fV pl Kf))(h0:Kf=0→A=none∧cp=0)(hK5:Kf≤500):
  Calls Tryz.prog 64 #[.agg (aP N R q s la lg A Kf cp)] w (ED w N R q s la lg Kf pl):=by
 obtain⟨x,hx⟩:∃ x,x=w.heap.size:=⟨_,rfl⟩
 have o0:=Own.oJ w hx 92 (aP N R q s la lg A Kf cp) 92 (aP 0 0 0 false 0 0 none 0 0)
 have HD:=zh (zN hrow (zN h0 o0))
 clear hrow h0 o0
 unfold aP
 go_enter Tryz.func64,Tryz.ntmps64
 go_wp2_with fail
 rw[←hx]
 clear hx
 refine aH (Own w [(x,92,aP N R q s la lg A Kf cp),(x+1,92,aP 0 0 0 false 0 0 none 0 0)]) HD.out.2.2 ?_
 intro w1 h1
 have H1:=zh h1
 have u0:=h1.drew.cell 0 6 rfl rfl
 have hsx:∀ (A2:Option Addr) (c2:Nat) wx,Own w [(x,92,aP N R q s la lg A2 Kf c2),(x+1,92,aP 0 0 0 false 0 0 none 0 0)] wx→Ct w x wx:=fun A2 c2 wx h=>⟨h.sub (List.sublist_cons_self _ _),h.cell 0 7 rfl rfl⟩
 have hS:=hsx _ _ _ h1.drew
 have HX:=zh hsx
 clear h1 hsx
 have hS:(Ct w x) (w1.drew):=hS
 refine av (Ct w x) (by kernel_rfl) hS ?_
 refine zB [0,3] ?_
 iterate 2 (refine zV ?_ ?_ hS ?_;rotate_left;(intro w' hSw;go_simp<;>with_reducible rfl);try simp only[zP])
 refine zE ?_
 refine zT 4 ?_ ?_ hS ?_
 rotate_left
 ·(intro w' hSw;have u7:=hSw.2;go_simp<;>with_reducible rfl)
 try simp only[zP]
 refine zC 1 fun K HK=>?_
 go_simp
 go_wp2_with fail
 refine HK.out.zt (Ct w x) (fun _ h=>h) (hS) ?_
 clear HK hS
 intro hS
 try simp only[zP]
 clear u0
 refine zC 2 fun K HK=>?_
 go_simp
 refine(Jo w1.drew B A Kf cp pl (aF HD.out.1 (Keeps.of_below (S:=fun _=>False) H1.out.drew.bel) (fun _ _ h=>h)) HD.out.2.1 hK5).mono ?_
 rintro e w2 ⟨A2,c2,rfl,hr2,hz2,hb2⟩
 have o2:=H1.out.drew.call hb2
 have H2:=zh (zN o2 (zN hr2 hz2))
 clear hb2 hr2 hz2
 go_wp2_with fail
 refine HK.out.zt (Ct w x) (fun _ h=>h) (HX.out _ _ _ o2) ?_
 clear HK hS
 intro hS
 try simp only[zP]
 clear o2
 refine zT 6 ?_ ?_ hS ?_
 rotate_left
 ·(intro w' hSw;go_simp<;>with_reducible rfl)
 try simp only[zP]
 refine zC 5 fun K HK=>?_
 go_simp
 refine(Gw w2).mono ?_
 rintro e w3 ⟨rfl,hb3⟩
 have o3:=H2.out.1.call hb3
 have r3:=aF H2.out.2.1 (Keeps.of_below (S:=fun _=>False) hb3) (fun _ _ h=>h)
 have H3:=zh (zN o3 r3)
 clear hb3 r3
 go_wp2_with fail
 refine HK.out.zt (Ct w x) (fun _ h=>h) (HX.out _ _ _ o3) ?_
 clear HK hS
 intro hS
 try simp only[zP]
 have u6:=o3.cell 0 6 rfl rfl
 have uf:=o3.free 0 rfl
 clear o3
 obtain⟨w4,hw4⟩:∃ w4,w4=w3.setCell ⟨x,6,none⟩ (.slice A2 Kf c2):=⟨_,rfl⟩
 have o4:Own w [(x,92,aP N R q s la lg A2 Kf c2),(x+1,92,aP 0 0 0 false 0 0 none 0 0)] w4:=by rw[hw4];exact H3.out.1.set 0 6 rfl _
 have k4:Keeps (fun q=>q=x) w3 w4:=by rw[hw4];exact (Keeps.refl (fun q=>q=x) w3).setCell (fun _=>rfl) _
 have H4:=zh (zN o4 k4)
 have HW4:=zh hw4
 clear hw4 k4
 refine zC 7 fun K HK=>?_
 go_simp
 rw[←HW4.out]
 go_wp2_with fail
 refine HK.out.zt (Ct w x) (fun _ h=>h) (HX.out _ _ _ o4) ?_
 clear HK hS
 intro hS
 try simp only[zP]
 clear u6 uf
 refine zT 8 ?_ ?_ hS ?_
 rotate_left
 ·(intro w' hSw;go_simp<;>with_reducible rfl)
 try simp only[zP]
 have u6:=o4.cell 0 7 rfl rfl
 have uf:=o4.free 0 rfl
 clear o4
 obtain⟨w5,hw5⟩:∃ w5,w5=w4.setCell ⟨x,7,none⟩ (.slice none 0 0):=⟨_,rfl⟩
 have o5:Own w [(x,92,aP N R q s la lg A2 Kf c2),(x+1,92,aP 0 0 0 false 0 0 none 0 0)] w5:=by rw[hw5];exact H4.out.1.set 0 7 rfl _
 have k5:Keeps (fun q=>q=x) w3 w5:=by rw[hw5];exact H4.out.2.setCell (fun _=>rfl) _
 have HW5:=zh hw5
 clear hw5
 refine zC 9 fun K HK=>?_
 go_simp
 rw[←HW5.out]
 go_wp2_with fail
 refine HK.out.zt (Ct w x) (fun _ h=>h) (HX.out _ _ _ o5) ?_
 clear HK hS
 intro hS
 try simp only[zP]
 refine zD ?_
 try simp only[zP]
 clear u6 uf hS
 have hgx:∀ g,(Value.slice A2 Kf c2).ownBlock=some g→g≠x∧g≠x+1:=fun g hg=>by
  have h1:=(H2.out.2.1.lt g hg).1
  have h2:=H1.out.drew.lt _ (List.mem_cons_self)
  have h3:=H1.out.drew.lt _ (List.mem_cons_of_mem _ List.mem_cons_self)
  simp only at h2 h3
  exact⟨by omega,by omega⟩
 have r5:=aF H3.out.2 k5 (fun g hg e=>(hgx g hg).1 e)
 obtain⟨w6,hw6⟩:∃ w6,w6=((((((((w5.setCell ⟨x+1,0,none⟩ (.int .i64 (N:Nat))).setCell ⟨x+1,1,none⟩ (.int .i64 (R:Nat))).setCell ⟨x+1,2,none⟩ (.int .i64 (q:Nat))).setCell ⟨x+1,3,none⟩ (.bool s)).setCell ⟨x+1,4,none⟩ (.int .i64 la)).setCell ⟨x+1,5,none⟩ (.int .i64 lg)).setCell ⟨x+1,6,none⟩ (.slice A2 Kf c2)).setCell ⟨x+1,7,none⟩ (.slice none 0 0)):=⟨_,rfl⟩
 have o6:Own w [(x+1,92,aP N R q s la lg A2 Kf c2)] w6:=by rw[hw6];exact (fu.of (o5.sub (List.sublist_cons_self _ _)) rfl).put [.int .i64 (N:Nat),.int .i64 (R:Nat),.int .i64 (q:Nat),.bool s,.int .i64 la,.int .i64 lg,.slice A2 Kf c2,.slice none 0 0] rfl
 have k6:Keeps (fun q=>q=x+1) w5 w6:=by rw[hw6];exact ((((((((Keeps.refl (fun q=>q=x+1) w5).setCell (fun _=>rfl) _).setCell (fun _=>rfl) _).setCell (fun _=>rfl) _).setCell (fun _=>rfl) _).setCell (fun _=>rfl) _).setCell (fun _=>rfl) _).setCell (fun _=>rfl) _).setCell (fun _=>rfl) _
 have r6:=aF r5 k6 (fun g hg e=>(hgx g hg).2 e)
 have H6:=zh (zN o6 (zN r6 H2.out.2.2))
 have HW6:=zh hw6
 have z0_0:=o5.cell 0 0 rfl rfl;have z0_1:=o5.cell 0 1 rfl rfl;have z0_2:=o5.cell 0 2 rfl rfl;have z0_3:=o5.cell 0 3 rfl rfl;have z0_4:=o5.cell 0 4 rfl rfl;have z0_5:=o5.cell 0 5 rfl rfl;have z0_6:=o5.cell 0 6 rfl rfl;have z0_7:=o5.cell 0 7 rfl rfl
 have z1_0:=o5.cell 1 0 rfl rfl;have z1_1:=o5.cell 1 1 rfl rfl;have z1_2:=o5.cell 1 2 rfl rfl;have z1_3:=o5.cell 1 3 rfl rfl;have z1_4:=o5.cell 1 4 rfl rfl;have z1_5:=o5.cell 1 5 rfl rfl;have z1_6:=o5.cell 1 6 rfl rfl;have z1_7:=o5.cell 1 7 rfl rfl
 have zf:=o5.free 1 rfl
 clear hgx r5 hw6 o5 o6 k5 k6 r6
 go_wp2_with (rw[←HW6.out])
 clear z0_0 z0_1 z0_2 z0_3 z0_4 z0_5 z0_6 z0_7 z1_0 z1_1 z1_2 z1_3 z1_4 z1_5 z1_6 z1_7 zf
 have h6:=H6.out.1
 have z0_0:=h6.cell 0 0 rfl rfl;have z0_1:=h6.cell 0 1 rfl rfl;have z0_2:=h6.cell 0 2 rfl rfl;have z0_3:=h6.cell 0 3 rfl rfl;have z0_4:=h6.cell 0 4 rfl rfl;have z0_5:=h6.cell 0 5 rfl rfl;have z0_6:=h6.cell 0 6 rfl rfl;have z0_7:=h6.cell 0 7 rfl rfl
 refine bodyPost_ret (v:=.agg (aP N R q s la lg A2 Kf c2)) (by unfold aP;simp[results,Tryz.results64,go_sem,z0_0,z0_1,z0_2,z0_3,z0_4,z0_5,z0_6,z0_7]) rfl ?_
 exact⟨A2,c2,rfl,aU H6.out.2.1 H1.out.drew.size,H6.out.2.2,H6.out.1.bel⟩
theorem nK.KQ{w w':World}{D:Nat→Prop}{A:Option Addr}{K:Nat}{pl:Nat→List Pt}(h:nK w (fun q=>q < w.heap.size∧D q) A K pl)(hb:Below w.heap.size w w'): nK w' (fun q=>q < w'.heap.size) A K pl:=fun hK=>by
 obtain⟨g,hA,hD,hc⟩:=(h.keep (S:=fun _=>False) (Keeps.of_below hb) (fun _ _ h=>h)) hK
 exact⟨g,hA,Nat.lt_of_lt_of_le hD.1 hb.size,hc⟩
def nG(d N R q:Nat)(s:Bool)(la lg:Int)(A:Option Addr)(K cp:Nat): Array Value:=#[.pointer (some ⟨d,0,none⟩),.int .i64 (N:Nat),.int .i64 (R:Nat),.int .i64 (q:Nat),.bool s,.int .i64 la,.int .i64 lg,.slice A K cp,.slice none 0 0]
structure mX(w:World)(st d N R q:Nat)(s:Bool)(la lg:Int)(A:Option Addr)(K cp:Nat)(pl:Nat→List Pt): Prop where
 blk:au w st 128 (nG d N R q s la lg A K cp)
 row:w.ownsRow 0 164 4 (.slice A K cp) K (fV pl K)
 nil:K=0→A=none∧cp=0
def mP(st:Nat)(A:Option Addr)(q:Nat): Prop:=q=st∨A.map (·.block)=some q
theorem mX.keep{S:Nat→Prop}{w w':World}{st d N R q:Nat}{s:Bool}{la lg:Int}{A:Option Addr}{K cp:Nat}{pl:Nat→List Pt}(h:mX w st d N R q s la lg A K cp pl)(hk:Keeps S w w')(hS:∀ q,mP st A q→¬ S q): mX w' st d N R q s la lg A K cp pl:=
 ⟨h.blk.keeps hk (hS _ (.inl rfl)),aF h.row hk (fun g hg=>hS g (.inr (by rw[←lZ A K cp];exact hg))),h.nil⟩
theorem mX.call{w w':World}{st d N R q:Nat}{s:Bool}{la lg:Int}{A:Option Addr}{K cp:Nat}{pl:Nat→List Pt}(h:mX w st d N R q s la lg A K cp pl)(hb:Below w.heap.size w w'): mX w' st d N R q s la lg A K cp pl:=
 h.keep (S:=fun _=>False) (Keeps.of_below hb) (fun _ _ h=>h)
theorem zn(w:World)(st d N R q:Nat)(s:Bool)(la lg:Int)(A:Option Addr)(Kf cp:Nat)(pl:Nat→List Pt)(h:mX w st d N R q s la lg A Kf cp pl)(hK5:Kf≤500):
  Calls Tryz.prog 25 #[.pointer (some ⟨st,0,none⟩)] w (ED w N R q s la lg Kf pl):=by
 obtain⟨x,hx⟩:∃ x,x=w.heap.size:=⟨_,rfl⟩
 have o0:=Own.eX w hx 92 (aP 0 0 0 false 0 0 none 0 0)
 have HD:=zh (zN h o0)
 clear h o0
 go_enter Tryz.func25,Tryz.ntmps25
 go_wp2_with fail
 rw[←hx]
 clear hx
 refine bC (Own w [(x,92,aP 0 0 0 false 0 0 none 0 0)]) HD.out.2 ?_
 intro w1 h1
 refine(rz w1 st d ((HD.out.1.call h1.bel).blk.cell 0)).mono ?_
 rintro e w2 ⟨rfl,hb2⟩
 have h2:=h1.call hb2
 have s2:=HD.out.1.call h2.bel
 have H2:=zh (zN h2 s2)
 have z0_0:w2.cell? ⟨st,1,none⟩=some (.int .i64 (N:Nat)):=s2.blk.cell 1
 have z0_1:w2.cell? ⟨st,2,none⟩=some (.int .i64 (R:Nat)):=s2.blk.cell 2
 have z0_2:w2.cell? ⟨st,3,none⟩=some (.int .i64 (q:Nat)):=s2.blk.cell 3
 have z0_3:w2.cell? ⟨st,4,none⟩=some (.bool s):=s2.blk.cell 4
 have z0_4:w2.cell? ⟨st,5,none⟩=some (.int .i64 la):=s2.blk.cell 5
 have z0_5:w2.cell? ⟨st,6,none⟩=some (.int .i64 lg):=s2.blk.cell 6
 have z0_6:w2.cell? ⟨st,7,none⟩=some (.slice A Kf cp):=s2.blk.cell 7
 have z0_7:w2.cell? ⟨st,8,none⟩=some (.slice none 0 0):=s2.blk.cell 8
 clear h1 h2 s2 hb2
 go_wp2_with fail
 clear z0_0 z0_1 z0_2 z0_3 z0_4 z0_5 z0_6 z0_7
 have hc:=xI w2 0 N R q s la lg A Kf cp pl H2.out.2.row H2.out.2.nil hK5
 unfold aP at hc
 refine hc.mono ?_
 clear hc
 rintro e w3 ⟨A3,c3,rfl,hr3,hz3,hb3⟩
 unfold aP
 have h3:=H2.out.1.call hb3
 obtain⟨w4,hw4⟩:∃ w4,w4=((((((((w3.setCell ⟨x,0,none⟩ (.int .i64 (N:Nat))).setCell ⟨x,1,none⟩ (.int .i64 (R:Nat))).setCell ⟨x,2,none⟩ (.int .i64 (q:Nat))).setCell ⟨x,3,none⟩ (.bool s)).setCell ⟨x,4,none⟩ (.int .i64 la)).setCell ⟨x,5,none⟩ (.int .i64 lg)).setCell ⟨x,6,none⟩ (.slice A3 Kf c3)).setCell ⟨x,7,none⟩ (.slice none 0 0)):=⟨_,rfl⟩
 have o4:Own w [(x,92,aP N R q s la lg A3 Kf c3)] w4:=by rw[hw4];exact (fu.of h3 rfl).put [.int .i64 (N:Nat),.int .i64 (R:Nat),.int .i64 (q:Nat),.bool s,.int .i64 la,.int .i64 lg,.slice A3 Kf c3,.slice none 0 0] rfl
 have k4:Keeps (fun q=>q=x) w3 w4:=by rw[hw4];exact ((((((((Keeps.refl (fun q=>q=x) w3).setCell (fun _=>rfl) _).setCell (fun _=>rfl) _).setCell (fun _=>rfl) _).setCell (fun _=>rfl) _).setCell (fun _=>rfl) _).setCell (fun _=>rfl) _).setCell (fun _=>rfl) _).setCell (fun _=>rfl) _
 have r4:=aF hr3 k4 (fun g hg e=>by
  have h1:=(hr3.lt g hg).1
  have h2:=H2.out.1.lt _ (List.mem_cons_self)
  simp only at h2
  omega)
 have H4:=zh (zN o4 (zN (aU r4 H2.out.1.size) hz3))
 have HW4:=zh hw4
 have z0_0:=h3.cell 0 0 rfl rfl;have z0_1:=h3.cell 0 1 rfl rfl;have z0_2:=h3.cell 0 2 rfl rfl;have z0_3:=h3.cell 0 3 rfl rfl;have z0_4:=h3.cell 0 4 rfl rfl;have z0_5:=h3.cell 0 5 rfl rfl;have z0_6:=h3.cell 0 6 rfl rfl;have z0_7:=h3.cell 0 7 rfl rfl
 have zf0:=h3.free 0 rfl
 clear hr3 hz3 hb3 h3 hw4 o4 k4 r4
 go_wp2_with (rw[←HW4.out])
 clear z0_0 z0_1 z0_2 z0_3 z0_4 z0_5 z0_6 z0_7 zf0
 have h6:=H4.out.1
 have z0_0:=h6.cell 0 0 rfl rfl;have z0_1:=h6.cell 0 1 rfl rfl;have z0_2:=h6.cell 0 2 rfl rfl;have z0_3:=h6.cell 0 3 rfl rfl;have z0_4:=h6.cell 0 4 rfl rfl;have z0_5:=h6.cell 0 5 rfl rfl;have z0_6:=h6.cell 0 6 rfl rfl;have z0_7:=h6.cell 0 7 rfl rfl
 refine bodyPost_ret (v:=.agg (aP N R q s la lg A3 Kf c3)) (by unfold aP;simp[results,Tryz.results25,go_sem,z0_0,z0_1,z0_2,z0_3,z0_4,z0_5,z0_6,z0_7]) rfl ?_
 exact⟨A3,c3,rfl,H4.out.2.1,H4.out.2.2,H4.out.1.bel⟩
end
section
open Go.RowKit Go.Maps
theorem nZ{g:Nat}{t:TypeId}: ∀ (vs:List Value) (k:Nat) (w:World) (cs:Array Value),au w g t cs→au (setFrom w g k vs) g t (iY cs k vs)
 | [],_,_,_,h=>h
 | v :: vs,k,_,_,h=>nZ vs (k+1) _ _ (h.set k v)
theorem jT{g:Nat}: ∀ (vs:List Value) (k:Nat) (w:World),Keeps (fun q=>q=g) w (setFrom w g k vs)
 | [],_,w=>Keeps.refl _ w
 | v :: vs,k,w=>((Keeps.refl (fun q=>q=g) w).setCell (p:=⟨g,k,none⟩) (fun _=>rfl) v).trans' (jT vs (k+1) _)
theorem Om(d N0 R0 q0:Nat)(s0:Bool)(la0 lg0:Int)(A0:Option Addr)(K0 cp0:Nat)(N R q:Nat)(s:Bool)(la lg:Int)(A:Option Addr)(K cp:Nat): iY (nG d N0 R0 q0 s0 la0 lg0 A0 K0 cp0) 1 [.int .i64 (N:Nat),.int .i64 (R:Nat),.int .i64 (q:Nat),.bool s,.int .i64 la,.int .i64 lg,.slice A K cp,.slice none 0 0]=nG d N R q s la lg A K cp:=by
 simp[iY,nG]
def MQ(w:World)(d M:Nat)(p:ByteArray→Option FS)(room T G:Nat)(name:ByteArray)(bs:List Nat)(e:Ending)(w':World): Prop:=
 e=.returned (.int .i64 0)∧∃ p',bq w' d M p' room (T+bs.length) (G+2)∧DStep w w' d M p p'∧fb p'=aS (fb p) name bs
theorem pG{S:Nat→Prop}{w w':World}{b o:Nat}{v:Value}(h:w.cell? ⟨b,o,none⟩=some v)(hk:Keeps S w w')(hS:¬ S b): w'.cell? ⟨b,o,none⟩=some v:=
 (World.cell?_of_block (w:=w) (a:=⟨b,o,none⟩) (hk.block b (World.block_lt_of_cell? w _ h) hS)).trans h
theorem FM(w:World)(st d M:Nat)(p:ByteArray→Option FS)(room T G:Nat)(name:ByteArray)(A:Option Addr)(n c:Nat)(bs:List Nat)(hst:w.cell? ⟨st,0,none⟩=some (.pointer (some ⟨d,0,none⟩)))(hsf:¬ aL d M p st)(h:bq w d M p room T G)(hf:fb p name=none)(hlen:bs.length=n)(hsl:Sl w (fun q=>q < w.heap.size∧¬ aL d M p q) A n (aD bs))(hT:T+n≤1048576)(hr1:1048576≤room)(hr:room≤1073741824)(hG:G+1 < 512)(hs1:1≤name.size)(hs:name.size≤64):
  Calls Tryz.prog 156 #[.pointer (some ⟨st,0,none⟩),.string name,.slice A n c] w (MQ w d M p room T G name bs):=by
 have HD:=zh (zN hst (zN hsf (zN h (zN hf (zN hlen hsl)))))
 clear hsf h hf hlen hsl
 go_enter Tryz.func156,Tryz.ntmps156
 go_wp2_with fail
 clear hst
 refine(jv w d M name p room T G HD.out.2.2.1 HD.out.2.2.2.1 hs).mono ?_
 rintro e w1 ⟨rfl,hb1⟩
 have hst:w1.cell? ⟨st,0,none⟩=some (.pointer (some ⟨d,0,none⟩)):=dw hb1 HD.out.1
 have H1:=zh hb1
 clear hb1
 go_wp2_with fail
 clear hst
 refine(oq w1 d M n c A name bs p room T G (HD.out.2.2.1.call H1.out) HD.out.2.2.2.2.1 (fun hn=>by
  obtain⟨b,off,hA,hd,hc⟩:=(HD.out.2.2.2.2.2.below H1.out (fun k hk _=>hk.1)) hn
  exact⟨b,off,hA,⟨Nat.lt_of_lt_of_le hd.1 H1.out.size,hd.2⟩,hc⟩) hT hr1 hr (by omega) hs1 hs).mono ?_
 rintro e w2 ⟨rfl,p2,hd2,hs2,hf2⟩
 have hst:w2.cell? ⟨st,0,none⟩=some (.pointer (some ⟨d,0,none⟩)):=pG (dw H1.out HD.out.1) hs2.keep HD.out.2.1
 rw[HD.out.2.2.2.1] at hf2
 have H2:=zh (zN hd2 (zN ((DStep.of_below H1.out).trans hs2) hf2))
 clear hd2 hs2 hf2
 go_wp2_with fail
 clear hst
 have hfn:fb p2 name=some bs:=by rw[H2.out.2.2];exact gQ _ _ _
 refine(Ba w2 d M name bs p2 room (T+n) (G+1) H2.out.1 hfn (by omega) (by omega) hs1 hs).mono ?_
 clear hfn
 rintro e w3 ⟨rfl,p3,hd3,hs3,hf3⟩
 have H3:=zh (zN hd3 (zN (H2.out.2.1.trans hs3) (hf3.trans H2.out.2.2)))
 clear hd3 hs3 hf3
 go_wp2_with fail
 go_ret
 exact⟨rfl,p3,by rw[HD.out.2.2.2.2.1];exact H3.out.1,H3.out.2.1,H3.out.2.2⟩
theorem FE(w:World)(s0:Bool)(la0 lg:Int)(s:Bool)(la:Int)(hm:V.dh s la lg=true)(hs:s0=false∨(s=true∧la0≤la))(hv:V.cu w):
  Calls Tryz.prog 146 #[.agg #[.bool s0,.int .i64 la0,.int .i64 lg],.agg #[.bool s,.int .i64 la,.int .i64 lg]] w fun e w'=>e=.returned (.bool true)∧Below w.heap.size w w':=by
 obtain⟨x,hx⟩:∃ x,x=w.heap.size:=⟨_,rfl⟩
 have o0:=Own.oJ w hx 79 #[.bool s0,.int .i64 la0,.int .i64 lg] 79 #[.bool s,.int .i64 la,.int .i64 lg]
 have HD:=zh (zN hm (zN hv o0))
 have z0_0:=o0.cell 1 0 rfl rfl;have z0_1:=o0.cell 1 1 rfl rfl;have z0_2:=o0.cell 1 2 rfl rfl
 clear hm hv o0
 go_enter Tryz.func146,Tryz.ntmps146
 go_wp2_with fail
 rw[←hx]
 clear hx z0_0 z0_1 z0_2
 refine bC (Own w [(x,79,#[.bool s0,.int .i64 la0,.int .i64 lg]),(x+1,79,#[.bool s,.int .i64 la,.int .i64 lg])]) HD.out.2.2 ?_
 intro w1 h1
 have hc:=xL w1 0 0 0 s la lg none 0 0 (fun _=>[]) ⟨by omega,by omega,by omega,HD.out.1,by omega,by omega,by omega⟩ (fun h=>absurd h (by omega)) ⟨fun j hj=>by omega,List.Pairwise.nil,fun j hj=>by omega⟩ (HD.out.2.1.below h1.bel)
 refine hc.mono ?_
 clear hc
 rintro e w2 ⟨A2,c2,bs,rfl,-,-,hb2⟩
 have h2:=h1.call hb2
 have H2:=zh h2
 have z0_0:=h2.cell 0 0 rfl rfl;have z0_1:=h2.cell 0 1 rfl rfl;have z0_2:=h2.cell 0 2 rfl rfl;have z1_0:=h2.cell 1 0 rfl rfl;have z1_1:=h2.cell 1 1 rfl rfl;have z1_2:=h2.cell 1 2 rfl rfl
 clear h1 h2 hb2
 rcases hs with rfl | ⟨rfl,hle⟩
 ·go_wp2_with fail
  go_ret
  exact⟨rfl,H2.out.bel⟩
 ·have d1:decide (la0≤la)=true:=by simp;exact hle
  cases s0 with
  | false=>
   go_wp2_with fail
   go_ret
   exact⟨rfl,H2.out.bel⟩
  | true=>
   go_wp2_with fail
   go_ret
   exact⟨rfl,H2.out.bel⟩
def Ji(st x d:Nat)(cs:Array Value)(wx:World): Prop:=wx.cell? ⟨st,0,none⟩=some (.pointer (some ⟨d,0,none⟩))∧au wx x 92 cs
def Ob(w:World)(st d M:Nat)(p:ByteArray→Option FS)(room T G N R q:Nat)(s:Bool)(la lg:Int)(A:Option Addr)(K cp:Nat)(pl:Nat→List Pt)(e:Ending)(w':World): Prop:=
 e=.returned (.int .i64 0)∧∃ (p':ByteArray→Option FS) (bs:List Nat),bq w' d M p' room (T+(100+53*K)) (G+3)∧fb p'=aS (fb p) rQ bs∧au w' st 128 (nG d N R q s la lg A K cp)∧w'.ownsRow 0 164 4 (.slice A K cp) K (fV pl K)∧Keeps (fun q=>aL d M p q∨q=st) w w'∧∀ q,q < w.heap.size→aL d M p' q→aL d M p q
theorem Fz(w:World)(st d M:Nat)(p:ByteArray→Option FS)(room T G:Nat)(N0 R0 q0:Nat)(s0:Bool)(la0 lg0:Int)(A0:Option Addr)(K0 cp0:Nat)(N R q:Nat)(s:Bool)(la lg:Int)(A:Option Addr)(Kf cp:Nat)(pl:Nat→List Pt)(hst:au w st 128 (nG d N0 R0 q0 s0 la0 lg0 A0 K0 cp0))(hsf:¬ aL d M p st)(hD:bq w d M p room T G)(hN:fb p iP=none)(hn:Dt N R q s la lg Kf cp)(hrow:w.ownsRow 0 164 4 (.slice A Kf cp) Kf (fV pl Kf))(hrf:∀ g,A.map (·.block)=some g→¬ aL d M p g)(hpl:nu pl Kf)(hv:V.cu w)(hT:T+(100+53*Kf)≤1048576)(hr1:1048576≤room)(hr:room≤1073741824)(hG:G+2 < 512):
  Calls Tryz.prog 91 #[.pointer (some ⟨st,0,none⟩),.agg (aP N R q s la lg A Kf cp)] w (Ob w st d M p room T G N R q s la lg A Kf cp pl):=by
 obtain⟨x,hx⟩:∃ x,x=w.heap.size:=⟨_,rfl⟩
 have o0:=Own.eX w hx 92 (aP N R q s la lg A Kf cp)
 have HD:=zh (zN hst (zN hsf (zN hD (zN hN (zN hn (zN hrow (zN hrf (zN hpl (zN hv (zN o0 hx))))))))))
 clear hst hsf hD hN hn hrow hrf hpl hv o0
 unfold aP
 go_enter Tryz.func91,Tryz.ntmps91
 go_wp2_with fail
 rw[←hx]
 clear hx
 refine aH (Own w [(x,92,aP N R q s la lg A Kf cp)]) HD.out.2.2.2.2.2.2.2.2.2.1 ?_
 intro w1 h1
 have H1:=zh h1.drew
 have hS:Ji st x d (aP N R q s la lg A Kf cp) w1.drew:=⟨dw h1.drew.bel (HD.out.1.cell 0),h1.drew.get 0 rfl⟩
 clear h1
 have hS:(Ji st x d (aP N R q s la lg A Kf cp)) (w1.drew):=hS
 refine av (Ji st x d (aP N R q s la lg A Kf cp)) (by kernel_rfl) hS ?_
 refine zB [0,1,2,3] ?_
 iterate 4 (refine zV ?_ ?_ hS ?_;rotate_left;(intro w' hSw;have u0:=hSw.1;go_simp<;>with_reducible rfl);try simp only[zP])
 refine zE ?_
 refine zT 4 ?_ ?_ hS ?_
 rotate_left
 ·(intro w' hSw;have z0:w'.cell? ⟨x,0,none⟩=some (.int .i64 (N:Nat)):=hSw.2.cell 0;have z1:w'.cell? ⟨x,1,none⟩=some (.int .i64 (R:Nat)):=hSw.2.cell 1;have z2:w'.cell? ⟨x,2,none⟩=some (.int .i64 (q:Nat)):=hSw.2.cell 2;have z3:w'.cell? ⟨x,3,none⟩=some (.bool s):=hSw.2.cell 3;have z4:w'.cell? ⟨x,4,none⟩=some (.int .i64 la):=hSw.2.cell 4;have z5:w'.cell? ⟨x,5,none⟩=some (.int .i64 lg):=hSw.2.cell 5;have z6:w'.cell? ⟨x,6,none⟩=some (.slice A Kf cp):=hSw.2.cell 6;have z7:w'.cell? ⟨x,7,none⟩=some (.slice none 0 0):=hSw.2.cell 7;go_simp<;>with_reducible rfl)
 try simp only[zP]
 refine zC 5 fun K HK=>?_
 go_simp
 have hc:=MO w1.drew d M p room T G N R q s la lg A Kf cp pl (HD.out.2.2.1.call H1.out.bel) HD.out.2.2.2.1 HD.out.2.2.2.2.1 (((QG HD.out.2.2.2.2.2.1).KQ H1.out.bel)) HD.out.2.2.2.2.2.2.2.1 (HD.out.2.2.2.2.2.2.2.2.1.below H1.out.bel) hT hr1 hr hG
 unfold aP at hc
 refine hc.mono ?_
 clear hc
 rintro e w2 ⟨rfl,p2,bs2,hd2,hs2,hf2⟩
 have hxf:¬ aL d M p x:=HD.out.2.2.1.fresh (H1.out.geq 0 rfl)
 have hk2:Keeps (aL d M p) w w2:=(Keeps.of_below (S:=aL d M p) H1.out.bel).trans' hs2.keep
 have hb2:au w2 st 128 (nG d N0 R0 q0 s0 la0 lg0 A0 K0 cp0):=HD.out.1.keeps hk2 HD.out.2.1
 have hx2:au w2 x 92 (aP N R q s la lg A Kf cp):=(H1.out.get 0 rfl).keeps hs2.keep hxf
 have hr2:w2.ownsRow 0 164 4 (.slice A Kf cp) Kf (fV pl Kf):=aF HD.out.2.2.2.2.2.1 hk2 (fun g hg=>HD.out.2.2.2.2.2.2.1 g (by rw[←lZ A Kf cp];exact hg))
 have H2:=zh (zN hd2 (zN hs2 (zN hf2 (zN hk2 (zN hb2 (zN hx2 hr2))))))
 clear hd2 hs2 hf2 hk2 hb2 hx2 hr2 hxf
 go_wp2_with fail
 refine HK.out.zt (Ji st x d (aP N R q s la lg A Kf cp)) (fun _ h=>h) (⟨H2.out.2.2.2.2.1.cell 0,H2.out.2.2.2.2.2.1⟩) ?_
 clear HK hS
 intro hS
 try simp only[zP]
 refine zT 6 ?_ ?_ hS ?_
 rotate_left
 ·(intro w' hSw;go_simp<;>with_reducible rfl)
 try simp only[zP]
 refine zD ?_
 try simp only[zP]
 clear hS
 obtain⟨w3,hw3⟩:∃ w3,w3=((((((((w2.setCell ⟨st,1,none⟩ (.int .i64 (N:Nat))).setCell ⟨st,2,none⟩ (.int .i64 (R:Nat))).setCell ⟨st,3,none⟩ (.int .i64 (q:Nat))).setCell ⟨st,4,none⟩ (.bool s)).setCell ⟨st,5,none⟩ (.int .i64 la)).setCell ⟨st,6,none⟩ (.int .i64 lg)).setCell ⟨st,7,none⟩ (.slice A Kf cp)).setCell ⟨st,8,none⟩ (.slice none 0 0)):=⟨_,rfl⟩
 have hw3b:w3=setFrom w2 st 1 [.int .i64 (N:Nat),.int .i64 (R:Nat),.int .i64 (q:Nat),.bool s,.int .i64 la,.int .i64 lg,.slice A Kf cp,.slice none 0 0]:=hw3
 have b3:au w3 st 128 (nG d N R q s la lg A Kf cp):=by rw[hw3b,←Om d N0 R0 q0 s0 la0 lg0 A0 K0 cp0];exact nZ _ _ _ _ H2.out.2.2.2.2.1
 have k3:Keeps (fun q=>q=st) w2 w3:=by rw[hw3b];exact jT _ _ _
 clear hw3b
 have hsf2:¬ aL d M p2 st:=by
  have:=H2.out.2.1.rO (q:=st) (Nat.lt_of_lt_of_le HD.out.1.lt H1.out.size) HD.out.2.1
  exact this
 have d3:=H2.out.1.keep k3 (fun q hq e=>hsf2 (by rw[←e];exact hq))
 have r3:=aF H2.out.2.2.2.2.2.2 k3 (fun g hg e=>own_ne H2.out.2.2.2.2.2.2 H2.out.2.2.2.2.1 (by decide) (by rw[hg,e]))
 have H3:=zh (zN b3 (zN k3 (zN d3 r3)))
 have HW3:=zh hw3
 have z0:w2.cell? ⟨x,0,none⟩=some (.int .i64 (N:Nat)):=H2.out.2.2.2.2.2.1.cell 0
 have z1:w2.cell? ⟨x,1,none⟩=some (.int .i64 (R:Nat)):=H2.out.2.2.2.2.2.1.cell 1
 have z2:w2.cell? ⟨x,2,none⟩=some (.int .i64 (q:Nat)):=H2.out.2.2.2.2.2.1.cell 2
 have z3:w2.cell? ⟨x,3,none⟩=some (.bool s):=H2.out.2.2.2.2.2.1.cell 3
 have z4:w2.cell? ⟨x,4,none⟩=some (.int .i64 la):=H2.out.2.2.2.2.2.1.cell 4
 have z5:w2.cell? ⟨x,5,none⟩=some (.int .i64 lg):=H2.out.2.2.2.2.2.1.cell 5
 have z6:w2.cell? ⟨x,6,none⟩=some (.slice A Kf cp):=H2.out.2.2.2.2.2.1.cell 6
 have z7:w2.cell? ⟨x,7,none⟩=some (.slice none 0 0):=H2.out.2.2.2.2.2.1.cell 7
 have y1:w2.cell? ⟨st,1,none⟩=some (.int .i64 (N0:Nat)):=H2.out.2.2.2.2.1.cell 1
 have y2:w2.cell? ⟨st,2,none⟩=some (.int .i64 (R0:Nat)):=H2.out.2.2.2.2.1.cell 2
 have y3:w2.cell? ⟨st,3,none⟩=some (.int .i64 (q0:Nat)):=H2.out.2.2.2.2.1.cell 3
 have y4:w2.cell? ⟨st,4,none⟩=some (.bool s0):=H2.out.2.2.2.2.1.cell 4
 have y5:w2.cell? ⟨st,5,none⟩=some (.int .i64 la0):=H2.out.2.2.2.2.1.cell 5
 have y6:w2.cell? ⟨st,6,none⟩=some (.int .i64 lg0):=H2.out.2.2.2.2.1.cell 6
 have y7:w2.cell? ⟨st,7,none⟩=some (.slice A0 K0 cp0):=H2.out.2.2.2.2.1.cell 7
 have y8:w2.cell? ⟨st,8,none⟩=some (.slice none 0 0):=H2.out.2.2.2.2.1.cell 8
 have yf:=H2.out.2.2.2.2.1.frozen
 clear b3 k3 d3 r3 hsf2 hw3
 go_wp2_with (rw[←HW3.out])
 go_ret
 refine⟨rfl,p2,bs2,H3.out.2.2.1,H2.out.2.2.1,H3.out.1,H3.out.2.2.2,(H2.out.2.2.2.1.mono (fun q _ h=>.inl h)).trans H3.out.2.1 (fun q _ e=>.inr e),fun q hq hf=>H2.out.2.1.far q (Nat.lt_of_lt_of_le hq H1.out.size) hf⟩
end
section
open Go.RowKit Go.Maps
theorem J7: (Tryz.prog.info? 250).map (fun i=>(i.zero,i.size,i.bytes))=some (some (.agg #[.string ByteArray.empty,.slice none 0 0]),2,40):=by kernel_rfl
theorem yX{w:World}{base g c:Nat}{nm:ByteArray}{u:Value}{ty:TypeId}(hu:u.oneCell'=true)(hg:au w g 250 #[.string nm,u])(hbase:base≤w.heap.size):
  ∃ v' w',(Builtin.append_ #[159,159] ty #[.slice none 0 0,.slice (some ⟨g,0,none⟩) 1 c]).run Tryz.prog w=.ok v' w'∧w'.ownsRow base 250 2 v' 1 [.string nm,u]∧w.grownBy w' none∧(v'.ownBlock=none∨v'.ownBlock=some w.heap.size):=by
 obtain⟨i,hi,hz,hs,hb⟩:=info_parts J7
 have hadd:∀ i,(⟨g,0,none⟩:Addr).add i=⟨g,0+i,none⟩:=fun i=>by unfold Addr.add;split<;>simp_all
 obtain⟨v',w',h1,h2,h3,_,h4⟩:=run_append_own_at (P:=Tryz.prog) w base 159 ty 250 i _ 2 40 Tryz.underlying159 hi hz hs hb rfl (by decide) (.slice none 0 0) 0 [] (World.ownsRow_nil _ _ _ _) ⟨g,0,none⟩ 1 c [.string nm,u] rfl
  (fun j u' hu'=>by
   rw[hadd,Nat.zero_add,hg.cell j]
   simpa using hu')
  (by intro u' hu';simp at hu';rcases hu' with rfl | rfl;rfl;exact hu) (by unfold maxLen;omega) (by omega) hbase
 exact⟨v',w',h1,by simpa using h2,h3,h4⟩
def BU(w:World)(xo:Nat)(L:List Pt)(n:Nat)(e:Ending)(w':World): Prop:=
 e=.returned (.tuple #[])∧∃ A2 c2 A3 c3,au w' xo 159 #[.slice A2 1 c2]∧w'.ownsRow w.heap.size 250 2 (.slice A2 1 c2) 1 [.string bD,.slice A3 n c3]∧aX w' w.heap.size (.slice A3 n c3) L∧Keeps (fun q=>q=xo) w w'
theorem Gg(w:World)(t Mt:Nat)(A:Option Addr)(cp:Nat)(L:List Pt)(n most U xo xt:Nat)(h:eB w t Mt A cp L n most U)(hn:n≤1000)(bo:au w xo 159 #[.slice none 0 0])(bt:w.cell? ⟨xt,0,none⟩=some (.pointer (some ⟨t,0,none⟩)))(hne:xt≠xo)(hxo:¬ dM t Mt A xo):
  Calls Tryz.prog 147 #[.string bD,.pointer (some ⟨xo,0,none⟩),.pointer (some ⟨xt,0,none⟩)] w (BU w xo L n):=by
 have hlen:=h.len
 have hlt:=bo.lt
 have hkeep:∀ wx,Keeps (fun q=>q=xo) w wx→eB wx t Mt A cp L n most U∧wx.cell? ⟨xt,0,none⟩=some (.pointer (some ⟨t,0,none⟩)):=fun wx hk=>
  ⟨h.keep hk (fun q hq e=>hxo (by rw[←e];exact hq)),(World.cell?_of_block (w:=w) (a:=⟨xt,0,none⟩) (hk.block xt (World.block_lt_of_cell? w _ bt) hne)).trans bt⟩
 have HD:=zh (zN h (zN bo (zN hkeep hlen)))
 clear h bo bt hkeep hlen
 have a2:Below w.heap.size w (w.alloc (.cells #[] 149)).drew:=((Below.refl _ _).alloc (Nat.le_refl _) _).drew
 have t2:=HD.out.1.call a2
 obtain⟨v3,w3,hrun3,r3,g3,x3⟩:=nR (w:=(w.alloc (.cells #[] 149)).drew) (base:=w.heap.size) (n:=n) (A:=A) (c:=cp) (v:=.slice (some ⟨w.heap.size,0,none⟩) 0 0) (l:=[]) (l2:=L) (ty:=186) (World.ownsRow_made w #[] 0 (Nat.le_refl _) (by unfold maxLen;omega) rfl) HD.out.2.2.2 t2.sl (by simp;omega) a2.size
 have b3:Below w.heap.size w w3:=a2.grown g3 a2.size (fun k hk=>by simp[Value.ownBlock] at hk;omega)
 obtain⟨A3,c3,hv3,hc3⟩:=r3.form
 rw[List.nil_append] at r3 hv3 hc3
 rw[HD.out.2.2.2] at hv3 hc3
 subst hv3
 have a4:Below w3.heap.size w3 (w3.alloc (.cells #[.string bD,.slice A3 n c3] 250)):=(Below.refl _ _).alloc (Nat.le_refl _) _
 obtain⟨v5,w5,hrun5,r5,g5,x5⟩:=yX (w:=w3.alloc (.cells #[.string bD,.slice A3 n c3] 250)) (base:=w.heap.size) (g:=w3.heap.size) (c:=1) (nm:=bD) (u:=.slice A3 n c3) (ty:=159) rfl (au.fresh _ _ _) (Nat.le_trans b3.size a4.size)
 obtain⟨A2,c2,hv5,hc5,-⟩:=aA r5
 subst hv5
 have b4:Below w.heap.size w (w3.alloc (.cells #[.string bD,.slice A3 n c3] 250)):=V.ay b3 a4
 have b5:Below w.heap.size w w5:=b4.grown g5 b4.size (fun k hk=>by cases hk)
 have r35:aX w5 w.heap.size (.slice A3 n c3) L:=(r3.below a4).kept g5 (by cases (Value.slice A3 n c3).ownBlock<;>simp)
 have u6:w5.cell? ⟨xo,0,none⟩=some (.slice none 0 0):=dw b5 (HD.out.2.1.cell 0)
 have bo5:au w5 xo 159 #[.slice none 0 0]:=HD.out.2.1.below b5 hlt
 have uf:=bo5.frozen
 have k6:Keeps (fun q=>q=xo) w (w5.setCell ⟨xo,0,none⟩ (.slice A2 1 c2)):=(Keeps.of_below (S:=fun q=>q=xo) b5).setCell (p:=⟨xo,0,none⟩) (fun _=>rfl) _
 have k56:Keeps (fun q=>q=xo) w5 (w5.setCell ⟨xo,0,none⟩ (.slice A2 1 c2)):=(Keeps.refl (fun q=>q=xo) w5).setCell (p:=⟨xo,0,none⟩) (fun _=>rfl) _
 have HP:BU w xo L n (.returned (.tuple #[])) (w5.setCell ⟨xo,0,none⟩ (.slice A2 1 c2)):=
  ⟨rfl,A2,c2,A3,c3,bo5.set 0 _,aF r5 k56 (fun g hg e=>by have:=(r5.lt g hg).1;omega),r35.keeps k56 (fun g hg e=>by have:=(r35.fC g hg).1;omega),k6⟩
 have HE:=zh (zN a2 (zN b3 (zN b4 (zN b5 (zN k6 HP)))))
 clear a2 t2 r3 g3 x3 b3 a4 r5 g5 x5 b4 b5 r35 bo5 k6 k56 HP hc3 hc5
 go_enter Tryz.func147,Tryz.ntmps147
 go_wp2_with fail
 have hS:Keeps (fun q=>q=xo) w w.drew:=(Keeps.refl _ _).drew
 have hS:(Keeps (fun q=>q=xo) w) (w.drew):=hS
 refine av (Keeps (fun q=>q=xo) w) (by kernel_rfl) hS ?_
 refine zB [1,3,4,5,6,7,8] ?_
 iterate 7 (refine zV ?_ ?_ hS ?_;rotate_left;(intro w' hSw;have u1:=(HD.out.2.2.1 _ hSw).2;have u2:=(HD.out.2.2.1 _ hSw).1.blk.cell 0;have u3:=(HD.out.2.2.1 _ hSw).1.look;go_simp<;>with_reducible rfl);try simp only[zP])
 refine zE ?_
 refine jk (i:=0) (j:=2) rfl rfl (by kernel_rfl) (fun K hK=>?_) (fun K hK=>?_)
 ·skip
  have HK:=zh hK
  clear hK
  have hbd:Below w.heap.size w w.drew:=(Below.refl _ _).drew
  have u5:(w.drew).cell? ⟨xo,0,none⟩=some (.slice none 0 0):=dw hbd (HD.out.2.1.cell 0)
  go_simp
  go_wp2_with fail
  refine HK.out.zt (Keeps (fun q=>q=xo) w) (fun _ h=>h) (Keeps.of_below hbd) ?_
  clear HK hS
  intro hS
  try simp only[zP]
  clear u5
  refine zC 2 fun K HK=>?_
  go_simp
  go_wp2_with fail
  refine HK.out.zt (Keeps (fun q=>q=xo) w) (fun _ h=>h) (Keeps.of_below HE.out.1) ?_
  clear HK hS
  intro hS
  try simp only[zP]
  refine zC 9 fun K HK=>?_
  refine dB rfl (.tmp 6) (.tmp 12) rfl rfl rfl hrun3 ?_
  refine HK.out.zt (Keeps (fun q=>q=xo) w) (fun _ h=>h) (Keeps.of_below HE.out.2.1) ?_
  clear HK hS
  intro hS
  try simp only[zP]
  refine zT 10 ?_ ?_ hS ?_
  rotate_left
  ·(intro w' hSw;go_simp<;>with_reducible rfl)
  try simp only[zP]
  refine zC 11 fun K HK=>?_
  go_simp
  go_wp2_with fail
  refine HK.out.zt (Keeps (fun q=>q=xo) w) (fun _ h=>h) (Keeps.of_below HE.out.2.2.1) ?_
  clear HK hS
  intro hS
  try simp only[zP]
  refine zC 12 fun K HK=>?_
  refine dB rfl (.tmp 4) (.tmp 15) rfl rfl rfl hrun5 ?_
  refine HK.out.zt (Keeps (fun q=>q=xo) w) (fun _ h=>h) (Keeps.of_below HE.out.2.2.2.1) ?_
  clear HK hS
  intro hS
  try simp only[zP]
  refine zC 13 fun K HK=>?_
  go_simp
  go_wp2_with fail
  refine HK.out.zt (Keeps (fun q=>q=xo) w) (fun _ h=>h) (HE.out.2.2.2.2.1) ?_
  clear HK hS
  intro hS
  try simp only[zP]
  refine zD ?_
  try simp only[zP]
  clear hrun3 hrun5 u6 uf hS
  go_wp2_with fail
  refine bodyPost_end (v:=.tuple #[]) (by simp[results,Tryz.results147,go_sem]) rfl ?_
  exact HE.out.2.2.2.2.2
 ·skip
  have HK:=zh hK
  clear hK
  go_simp
  go_wp2_with fail
  refine HK.out.zt (Keeps (fun q=>q=xo) w) (fun _ h=>h) (Keeps.of_below HE.out.1) ?_
  clear HK hS
  intro hS
  try simp only[zP]
  refine jk (i:=0) (j:=9) rfl rfl (by kernel_rfl) (fun K hK=>?_) (fun K hK=>?_)
  ·skip
   have HK:=zh hK
   clear hK
   have u5:((w.alloc (.cells #[] 149)).drew).cell? ⟨xo,0,none⟩=some (.slice none 0 0):=dw HE.out.1 (HD.out.2.1.cell 0)
   go_simp
   go_wp2_with fail
   refine HK.out.zt (Keeps (fun q=>q=xo) w) (fun _ h=>h) (Keeps.of_below HE.out.1) ?_
   clear HK hS
   intro hS
   try simp only[zP]
   clear u5
   refine zC 9 fun K HK=>?_
   refine dB rfl (.tmp 6) (.tmp 12) rfl rfl rfl hrun3 ?_
   refine HK.out.zt (Keeps (fun q=>q=xo) w) (fun _ h=>h) (Keeps.of_below HE.out.2.1) ?_
   clear HK hS
   intro hS
   try simp only[zP]
   refine zT 10 ?_ ?_ hS ?_
   rotate_left
   ·(intro w' hSw;go_simp<;>with_reducible rfl)
   try simp only[zP]
   refine zC 11 fun K HK=>?_
   go_simp
   go_wp2_with fail
   refine HK.out.zt (Keeps (fun q=>q=xo) w) (fun _ h=>h) (Keeps.of_below HE.out.2.2.1) ?_
   clear HK hS
   intro hS
   try simp only[zP]
   refine zC 12 fun K HK=>?_
   refine dB rfl (.tmp 4) (.tmp 15) rfl rfl rfl hrun5 ?_
   refine HK.out.zt (Keeps (fun q=>q=xo) w) (fun _ h=>h) (Keeps.of_below HE.out.2.2.2.1) ?_
   clear HK hS
   intro hS
   try simp only[zP]
   refine zC 13 fun K HK=>?_
   go_simp
   go_wp2_with fail
   refine HK.out.zt (Keeps (fun q=>q=xo) w) (fun _ h=>h) (HE.out.2.2.2.2.1) ?_
   clear HK hS
   intro hS
   try simp only[zP]
   refine zD ?_
   try simp only[zP]
   clear hrun3 hrun5 u6 uf hS
   go_wp2_with fail
   refine bodyPost_end (v:=.tuple #[]) (by simp[results,Tryz.results147,go_sem]) rfl ?_
   exact HE.out.2.2.2.2.2
  ·skip
   have HK:=zh hK
   clear hK
   refine dB rfl (.tmp 6) (.tmp 12) rfl rfl rfl hrun3 ?_
   refine HK.out.zt (Keeps (fun q=>q=xo) w) (fun _ h=>h) (Keeps.of_below HE.out.2.1) ?_
   clear HK hS
   intro hS
   try simp only[zP]
   refine zT 10 ?_ ?_ hS ?_
   rotate_left
   ·(intro w' hSw;go_simp<;>with_reducible rfl)
   try simp only[zP]
   refine jk (i:=0) (j:=11) rfl rfl (by kernel_rfl) (fun K hK=>?_) (fun K hK=>?_)
   ·skip
    have HK:=zh hK
    clear hK
    have u5:(w3).cell? ⟨xo,0,none⟩=some (.slice none 0 0):=dw HE.out.2.1 (HD.out.2.1.cell 0)
    go_simp
    go_wp2_with fail
    refine HK.out.zt (Keeps (fun q=>q=xo) w) (fun _ h=>h) (Keeps.of_below HE.out.2.1) ?_
    clear HK hS
    intro hS
    try simp only[zP]
    clear u5
    refine zC 11 fun K HK=>?_
    go_simp
    go_wp2_with fail
    refine HK.out.zt (Keeps (fun q=>q=xo) w) (fun _ h=>h) (Keeps.of_below HE.out.2.2.1) ?_
    clear HK hS
    intro hS
    try simp only[zP]
    refine zC 12 fun K HK=>?_
    refine dB rfl (.tmp 4) (.tmp 15) rfl rfl rfl hrun5 ?_
    refine HK.out.zt (Keeps (fun q=>q=xo) w) (fun _ h=>h) (Keeps.of_below HE.out.2.2.2.1) ?_
    clear HK hS
    intro hS
    try simp only[zP]
    refine zC 13 fun K HK=>?_
    go_simp
    go_wp2_with fail
    refine HK.out.zt (Keeps (fun q=>q=xo) w) (fun _ h=>h) (HE.out.2.2.2.2.1) ?_
    clear HK hS
    intro hS
    try simp only[zP]
    refine zD ?_
    try simp only[zP]
    clear hrun3 hrun5 u6 uf hS
    go_wp2_with fail
    refine bodyPost_end (v:=.tuple #[]) (by simp[results,Tryz.results147,go_sem]) rfl ?_
    exact HE.out.2.2.2.2.2
   ·skip
    have HK:=zh hK
    clear hK
    go_simp
    go_wp2_with fail
    refine HK.out.zt (Keeps (fun q=>q=xo) w) (fun _ h=>h) (Keeps.of_below HE.out.2.2.1) ?_
    clear HK hS
    intro hS
    try simp only[zP]
    have u5:(w3.alloc (.cells #[.string bD,.slice A3 n c3] 250)).cell? ⟨xo,0,none⟩=some (.slice none 0 0):=dw HE.out.2.2.1 (HD.out.2.1.cell 0)
    refine zC 0 fun K HK=>?_
    go_simp
    go_wp2_with fail
    refine HK.out.zt (Keeps (fun q=>q=xo) w) (fun _ h=>h) (Keeps.of_below HE.out.2.2.1) ?_
    clear HK hS
    intro hS
    try simp only[zP]
    clear u5
    refine zC 12 fun K HK=>?_
    refine dB rfl (.tmp 4) (.tmp 15) rfl rfl rfl hrun5 ?_
    refine HK.out.zt (Keeps (fun q=>q=xo) w) (fun _ h=>h) (Keeps.of_below HE.out.2.2.2.1) ?_
    clear HK hS
    intro hS
    try simp only[zP]
    refine zC 13 fun K HK=>?_
    go_simp
    go_wp2_with fail
    refine HK.out.zt (Keeps (fun q=>q=xo) w) (fun _ h=>h) (HE.out.2.2.2.2.1) ?_
    clear HK hS
    intro hS
    try simp only[zP]
    refine zD ?_
    try simp only[zP]
    clear hrun3 hrun5 u6 uf hS
    go_wp2_with fail
    refine bodyPost_end (v:=.tuple #[]) (by simp[results,Tryz.results147,go_sem]) rfl ?_
    exact HE.out.2.2.2.2.2
end
section
open Go.RowKit Go.Maps Go.MapKept Go.ChangeMaps
def Ky(w:World)(L:List Pt)(n:Nat)(e:Ending)(w':World): Prop:=
 ∃ A2 c2 A3 c3,e=.returned (.slice A2 1 c2)∧w'.ownsRow w.heap.size 250 2 (.slice A2 1 c2) 1 [.string bD,.slice A3 n c3]∧aX w' w.heap.size (.slice A3 n c3) L∧Below w.heap.size w w'
theorem xk(w:World)(t Mt:Nat)(A:Option Addr)(cp:Nat)(L:List Pt)(n most U:Nat)(h:eB w t Mt A cp L n most U)(hn0:0 < n)(hn:n≤1000):
  Calls Tryz.prog 87 #[.pointer (some ⟨t,0,none⟩)] w (Ky w L n):=by
 obtain⟨x,hx⟩:∃ x,x=w.heap.size:=⟨_,rfl⟩
 have o0:=Own.oJ w hx 77 #[.pointer (some ⟨t,0,none⟩)] 159 #[.slice none 0 0]
 have HD:=zh (zN h (zN hx o0))
 clear h o0
 go_enter Tryz.func87,Tryz.ntmps87
 go_wp2_with fail
 rw[←hx]
 clear hx
 refine bC (Own w [(x,77,#[.pointer (some ⟨t,0,none⟩)]),(x+1,159,#[.slice none 0 0])]) HD.out.2.2 ?_
 intro w1 h1
 have H1:=zh h1
 clear h1
 refine(FQ w1 t Mt A cp L n most U (HD.out.1.call H1.out.bel) hn0).mono ?_
 rintro e w2 ⟨A1,c1,rfl,hr2,hb2⟩
 have o2:=H1.out.call hb2
 obtain⟨g,hA1,-⟩:∃ g,A1=some ⟨g,0,none⟩∧True:=by
  obtain⟨A',c',hv,-,hg⟩:=aA hr2
  injection hv with h1 h2 h3
  obtain⟨g,hA,-⟩:=hg (by omega)
  exact⟨g,by rw[h1];exact hA,trivial⟩
 subst hA1
 have hcell:w2.cell? ⟨g,0,none⟩=some (.string bD):=by
  have:=hr2.cells (g:=g) rfl 0 _ rfl
  rwa [show (⟨g,0,none⟩:Addr).add 0=⟨g,0,none⟩ by unfold Addr.add;rfl] at this
 have H2:=zh (zN o2 hcell)
 clear hr2 hb2 o2 hcell
 go_wp2_with fail
 go_loopw [11] (fun i wr=>(i=.int .i64 0∧wr=w2)∨(i=.int .i64 1∧∃ A2 c2 A3 c3,au wr (x+1) 159 #[.slice A2 1 c2]∧wr.ownsRow w.heap.size 250 2 (.slice A2 1 c2) 1 [.string bD,.slice A3 n c3]∧aX wr w.heap.size (.slice A3 n c3) L∧Below w.heap.size w wr)) (fun i _=>1-(intOf i).toNat)
 case atStart=>exact .inl ⟨rfl,rfl⟩
 case round=>
  rcases hrel with ⟨rfl,rfl⟩ | ⟨rfl,A2,c2,A3,c3,hb,hr,hp,hbel⟩
  ·have z0:=H2.out.2
   go_wp2_with fail
   have o2:=H2.out.1
   have hxw:x=w.heap.size:=HD.out.2.1
   refine(Gg wr t Mt A cp L n most U (x+1) x (HD.out.1.call o2.bel) hn (o2.get 1 rfl) (o2.cell 0 0 rfl rfl) (by omega) (fun hq=>by have:=HD.out.1.dH hq;omega)).mono ?_
   rintro e w5 ⟨rfl,A2,c2,A3,c3,hb5,hr5,hp5,hk5⟩
   have hb:Below w.heap.size w w5:=o2.bel.trans (hk5.below o2.bel.size (fun q hq e=>by omega))
   have H5:=zh (zN hb5 (zN (aU hr5 o2.bel.size) (zN (show aX w5 w.heap.size (.slice A3 n c3) L from aU hp5 o2.bel.size) hb)))
   clear hb5 hr5 hp5 hk5 hb z0 o2 hxw
   go_wp2_with fail
   go_roundw
   case rel=>exact .inr ⟨rfl,A2,c2,A3,c3,H5.out.1,H5.out.2.1,H5.out.2.2.1,H5.out.2.2.2⟩
   case measure=>simp[intOf]
  ·have u0:=hb.cell 0
   have H5:=zh (zN hr (zN hp hbel))
   clear hb hr hp hbel
   go_wp2_with fail
   go_ret
   exact⟨A2,c2,A3,c3,rfl,H5.out.1,H5.out.2.1,H5.out.2.2⟩
theorem LM{w:World}{M N:Nat}{D:DataW Value}(t e:TypeId)(ht:Tryz.prog.underlying t=some (.map 9 e))(h:w.ownsMap Tryz.prog 9 eP M N D)(ty:TypeId): ∃ w',(Builtin.clear_ #[t] ty #[.map (some M)]).run Tryz.prog w=.ok (.tuple #[]) w'∧w'.ownsMap Tryz.prog 9 eP M 0 (.map [])∧w.mapTurned w' M:=by
 obtain⟨es,clock,hb,F,hs,rfl⟩:=h
 refine⟨ChangeMaps.setBlock w M (.map #[] clock),?_,⟨#[],clock,heap_setBlock_same hb _,⟨by simp,stamped_empty clock,by simp⟩,Nat.le_refl _,rfl⟩,⟨es,clock,#[],clock,hb,rfl⟩⟩
 simp[Builtin.clear_,run_underlying ht,MapKept.run_getObj_map hb,run_setObj_map _ hb,Result.andThen,ChangeMaps.setBlock]
def Lh(w:World)(t Mt:Nat)(A:Option Addr)(most U:Nat)(e:Ending)(w':World): Prop:=
 (∃ u,e=.returned u)∧eB w' t Mt none 0 [] 0 most U∧Stp w w' (dM t Mt A) (dM t Mt none)
theorem IJ(w:World)(t Mt:Nat)(A:Option Addr)(cp:Nat)(L:List Pt)(n most U:Nat)(h:eB w t Mt A cp L n most U)(hn0:0 < n)(hn:n≤1000):
  Calls Tryz.prog 88 #[.pointer (some ⟨t,0,none⟩)] w (Lh w t Mt A most U):=by
 have nf:=nY
 have HD:=zh h
 clear h
 go_enter Tryz.func88,Tryz.ntmps88
 go_wp2_with fail
 refine(xk w t Mt A cp L n most U HD.out hn0 hn).mono ?_
 rintro e w1 ⟨A2,c2,A3,c3,rfl,-,-,hb1⟩
 have H1:=zh hb1
 clear hb1
 go_wp2_with fail
 refine(kZ w1 t Mt ((HD.out.call H1.out).blk.cell 0)).mono ?_
 rintro e w2 ⟨rfl,hb2⟩
 have hb:=V.ay H1.out hb2
 have h2:=HD.out.call hb
 have u0:=h2.blk.cell 0
 obtain⟨s,N,D,hown,-⟩:=h2.map
 obtain⟨w3,hrun3,hown3,hm3⟩:=LM 115 186 Tryz.underlying115 hown 0
 have htM:=h2.jB _ _ _ h2.blk
 have hb3:=dK hm3.grown h2.blk (fun e=>htM (by injection e))
 have v1:=hb3.cell 1
 have vf:=hb3.frozen
 have hk3:Keeps (fun q=>q=Mt) w2 w3:=(Keeps.refl _ w2).grown hm3.grown (fun k hk _=>by injection hk with hk;exact hk.symm)
 have HE:=zh (zN hb (zN h2 (zN hb3 (zN hown3 (zN hk3 htM)))))
 clear hb h2 hb3 hown3 hk3 htM hm3 hown hb2
 go_wp2_with fail
 go_ret
 obtain⟨w4,hw4⟩:∃ w4,w4=w3.setCell ⟨t,1,none⟩ (.int .i64 0):=⟨_,rfl⟩
 have hk4:Keeps (fun q=>q=t) w3 w4:=by rw[hw4];exact (Keeps.refl (fun q=>q=t) w3).setCell (fun _=>rfl) _
 have hb4:=HE.out.2.2.1.set 1 (.int .i64 0)
 rw[←hw4] at hb4 ⊢
 refine⟨⟨_,rfl⟩,⟨hb4,⟨fun _=>none,0,.map [],?_,Nat.zero_le _,⟨iE.nil.im,iE.nil.ti,iE.nil.has,iE.nil.val,Nat.zero_le _⟩,fun _ _=>rfl,rfl,fun h=>absurd h (Nat.lt_irrefl _)⟩,aX.nil _ _,rfl⟩,?_,?_⟩
 ·have hlt:=World.ownsMap.lt HE.out.2.2.2.1
  obtain⟨es,clock,e1,e2⟩:=HE.out.2.2.2.1
  exact⟨es,clock,by rw[hk4.block Mt hlt (fun e=>HE.out.2.2.2.2.2 e.symm)];exact e1,e2⟩
 ·exact ((Keeps.of_below (S:=dM t Mt A) HE.out.1).trans' (HE.out.2.2.2.2.1.mono (fun q _ e=>.inr (.inl e)))).trans' (hk4.mono (fun q _ e=>.inl e))
 ·rintro q hq (rfl | rfl | hq')
  ·exact .inl rfl
  ·exact .inr (.inl rfl)
  ·cases hq'
end
section
open Go.RowKit Go.Maps
theorem Cb{f:Nat→Pt}{a n:Nat}(h1:∀ j,j < n→-1152921504606846976≤(f j).t∧(f j).t≤1152921504606846976∧0≤(f j).s∧(f j).s≤1152921504606846976)(h2:∀ j,j+1 < n→(f j).t < (f (j+1)).t): ∀ k,a+k≤n→gM (aZ f a) k=true
 | 0,_=>rfl
 | k+1,hk=>by
  show (gM (aZ f a) k && iy (aZ f a) k)=true
  rw[Cb h1 h2 k (by omega),Bool.true_and]
  refine(kH _ _).2 ⟨?_,(h1 (a+k) (by omega)).2⟩
  match k with
  | 0=>have:=(h1 (a+0) (by omega)).1;show -1152921504606846977 < (f (a+0)).t;omega
  | k+1=>exact h2 (a+k) (by omega)
theorem QC{f:Nat→Pt}{n:Nat}(h1:∀ j,j < n→-1152921504606846976≤(f j).t∧(f j).t≤1152921504606846976∧0≤(f j).s∧(f j).s≤1152921504606846976)(h2:∀ j,j+1 < n→(f j).t < (f (j+1)).t): ∀ m,m≤aT n→bV f n m=true
 | 0,_=>rfl
 | m+1,hm=>by
  show (bV f n m && jP f n m)=true
  have hmn:1024*m < n:=by unfold aT at hm;omega
  have hb:1024*m+bn n (1024*m)≤n:=by unfold bn;omega
  rw[QC h1 h2 m (by omega),Bool.true_and]
  unfold jP dX
  rw[Cb h1 h2 _ hb,Bool.true_and]
  simp only[Bool.and_eq_true,decide_eq_true_eq,Bool.or_eq_true,beq_iff_eq]
  refine⟨⟨by unfold bn;omega,by unfold bn;omega⟩,?_⟩
  rcases Nat.eq_zero_or_pos m with h0 | h0
  ·exact .inl h0
  ·right
   have:=h2 (1024*m-1) (by omega)
   rw[show 1024*m-1+1=1024*m by omega] at this
   exact this
def fJ(L:List Pt): Nat→Pt:=fun j=>L.getD j ⟨0,0,0⟩
def lG: Nat→ByteArray:=fun _=>bD
theorem SC: dP lG 1=true:=by kernel_rfl
structure qw(L:List Pt): Prop where
 pos:0 < L.length
 le:L.length≤40
 inc:Inc L
 sm:∀ p ∈ L,vG p
theorem nu.Uu{pl:Nat→List Pt}{K j:Nat}(h:nu pl K)(hj:j < K): qw (pl j):=⟨(h.len j hj).1,(h.len j hj).2,tX K h.inc j hj,h.sm j hj⟩
theorem Ah{L:List Pt}(h:∀ p ∈ L,vG p)(j:Nat): vG (fJ L j):=by
 unfold fJ
 rcases Nat.lt_or_ge j L.length with hj | hj
 ·exact h _ (jQ hj)
 ·rw[List.getD_eq_getElem?_getD,List.getElem?_eq_none hj]
  exact⟨⟨by simp,by simp⟩,⟨by simp,by simp⟩,by simp,by simp⟩
theorem uM{L:List Pt}(h:∀ p ∈ L,vG p)(j:Nat): oM (fJ L j):=by
 obtain⟨⟨a,b⟩,⟨c,d⟩,e,f⟩:=Ah h j
 exact⟨⟨by omega,by omega⟩,⟨by omega,by omega⟩,⟨by omega,by omega⟩⟩
theorem qw.Ur{L:List Pt}(h:qw L): bV (fJ L) L.length (aT L.length)=true:=
 QC (fun j hj=>(by obtain ⟨⟨a,b⟩,⟨c,d⟩,e,f⟩:=Ah h.sm j;exact ⟨by omega,by omega,e,by omega⟩ : -1152921504606846976≤(fJ L j).t∧(fJ L j).t≤1152921504606846976∧0≤(fJ L j).s∧(fJ L j).s≤1152921504606846976)) (fun j hj=>h.inc.rises j hj) _ (Nat.le_refl _)
theorem qw.few{L:List Pt}(h:qw L): jL lG (fun _=>L.length) 1 1 < 2500:=by
 have:=h.le
 show 10*1+L.length+1 < 2500
 omega
theorem qw.small{L:List Pt}(h:qw L): Small lG (fun _=>fJ L) (fun _=>L.length) 1:=NH (fun _=>uM h.sm) h.few
def pW(L:List Pt): List Nat:=(sB lG (fun _=>fJ L) (fun _=>L.length) 1).1
theorem qw.file{L:List Pt}(h:qw L): (sB lG (fun _=>fJ L) (fun _=>L.length) 1).2=0∧Built lG (fun _=>fJ L) (fun _=>L.length) 1∧ig (pW L) (sO (fun _=>fJ L) (fun _=>L.length) 1) lG (fun _=>fJ L) (fun _=>L.length) 1:=
 Ru h.small (Pg (fun _=>uM h.sm) h.few) (by
  rw[SC]
  show (true && (true && (true && (bV (fJ L) L.length (aT L.length) && decide (0 < L.length)))))=true
  rw[h.Ur]
  have:=h.pos
  simp
  omega)
theorem qw.len{L:List Pt}(h:qw L): (pW L).length≤5000:=by
 have h1:=h.file.2.2.fl
 rw[F.bB] at h1
 have h2:=Bj lG (fun _=>fJ L) (fun _=>L.length) 1 (fun _ _=>by have:=h.le;omega) 1 (Nat.le_refl _)
 have h3:=Bb lG (fun _=>fJ L) (fun _=>L.length) 1 (by omega) (fun _=>uM h.sm) (fun _ _=>by have:=h.le;omega) (fun _ _=>by show 1≤_;omega) 1 (Nat.le_refl _)
 have h4:jL lG (fun _=>L.length) 1 1=10*1+L.length+1:=rfl
 have:=h.le
 omega
theorem Nt{w:World}{B:Nat}{A2:Option Addr}{c2:Nat}{A3:Option Addr}{n c3:Nat}{L:List Pt}(h2:w.ownsRow B 250 2 (.slice A2 1 c2) 1 [.string bD,.slice A3 n c3])(h3:aX w B (.slice A3 n c3) L)(hl:L.length=n)(hs:∀ p ∈ L,vG p): PartsAt w A2 1 lG (fun _=>A3) (fun _=>L.length) (fun _=>c3) (fun _=>fJ L):=by
 subst hl
 refine⟨fun _=>?_,fun j hj=>(h3.sl.mono (fun q hq=>(h3.fC q hq.2).2)),fun j hj=>V.iC h3,fun _=>uM hs,fun j hj=>by show 1≤_;omega⟩
 obtain⟨A',c',e,-,hg⟩:=aA h2
 injection e with ea eb ec
 obtain⟨g,hA',-,hlt⟩:=hg (by omega)
 obtain rfl:A2=some ⟨g,0,none⟩:=ea.trans hA'
 refine⟨g,0,rfl,hlt,fun j hj=>?_⟩
 obtain rfl:j=0:=by omega
 have c0:=h2.cells (g:=g) rfl 0 _ rfl
 have c1:=h2.cells (g:=g) rfl 1 _ rfl
 rw[vL] at c0 c1
 exact⟨c0,c1⟩
def SV(f:ByteArray→Option (List Nat))(pl:Nat→List Pt)(K:Nat): Prop:=∀ j,j < K→f (bU 115 j)=some (pW (pl j))
theorem rR{j:Nat}{s:ByteArray}(hs:s.size=1)(p:Nat): bU p j≠s:=fun e=>by
 have:=dZ p j
 rw[e] at this
 omega
end
section
open Go.RowKit Go.Maps
theorem MN(w:World): (sizeOf 5).run Tryz.prog w=.ok 1 w:=by kernel_rfl
theorem IV(w:World): (Op.unary .not (.bool true)).run Tryz.prog w=.ok (.bool false) w:=by kernel_rfl
theorem Ow{P:Program}(t e:TypeId)(ht:P.underlying t=some (.slice e))(hs:∀ w:World,(sizeOf e).run P w=.ok 1 w)(A:Option Addr)(len c n:Nat)(hn:n≤len)(hlc:len≤c):
  ∃ A',(∀ w:World,(Instr.slice t (.slice A len c) none (some (.int .i64 (n:Nat))) none).run P w=.ok (.slice A' n c) w)∧
   (∀ (w:World) (D:Nat→Prop) (l:List Nat),Sl w D A len (aD l)→Sl w D A' n (aD (l.take n))):=by
 have he:P.elem t=e:=by simp[Program.elem,ht]
 have ht':P.underlying t=some (.slice (P.elem t)):=by rw[he];exact ht
 refine⟨if c=0 then A else A.map (·.add (0*1)),fun w=>?_,fun w D l h=>?_⟩
 ·rw[run_slice_h w t A len c ht' .i64 (n:Nat) (by omega) (by omega),he,hs]
  simp[Result.andThen,sliced]
 ·intro hlt
  rw[if_neg (by omega)]
  obtain⟨b,off,rfl,-,-⟩:=h (by omega)
  have:=V.pY h hn hlt
  rw[show (some (⟨b,off,none⟩:Addr)).map (·.add (0*1))=some ⟨b,off,none⟩ by simp[Addr.add]]
  exact this
def oK: Value→Nat
 | .slice _ n _=>n
 | _=>0
theorem M0(w:World)(B:Nat): w.ownsRow B 360 5 (.slice none 0 0) 0 []:=⟨rfl,.inl ⟨rfl,rfl⟩⟩
structure uO(w0:World)(nm:Nat→ByteArray)(pf:Nat→Nat→Pt)(pn:Nat→Nat)(k p o M y:Nat)(Ab:Option Addr)(cb:Nat)(cs:Array Value)(O:List Nat)(j:Nat)(VS:Nat→Value)(w:World): Prop where
 seg:yQ w0.heap.size w p o M y Ab cb cs O k
 map:mH w M j j nm VS
 row:rZ w y VS pf pn j
 bel:Below w0.heap.size w0 w
 y0:w0.heap.size≤y
 my:M < y
 m0:w0.heap.size≤M
theorem uO.call{w0 w w':World}{nm:Nat→ByteArray}{pf:Nat→Nat→Pt}{pn:Nat→Nat}{k p o M y:Nat}{Ab:Option Addr}{cb:Nat}{cs:Array Value}{O:List Nat}{j:Nat}{VS:Nat→Value}(h:uO w0 nm pf pn k p o M y Ab cb cs O j VS w)(hg:w.grownBy w' (some y)): uO w0 nm pf pn k p o M y Ab cb cs O j VS w':=
 ⟨h.seg.gb hg,h.map.gb hg (fun e=>by injection e with e;have:=h.my;omega),h.row.gb hg,jD h.bel hg h.y0,h.y0,h.my,h.m0⟩
structure kR(w1:World)(y:Nat)(T:List Nat)(l:Value)(m:Nat)(B:Nat→Bk)(g:Nat)(cs:Array Value)(w:World): Prop where
 gb:w1.grownBy w (some y)
 rd:eH w y T
 row:w.ownsRow w1.heap.size 360 5 l m (nD B m)
 bx:au w g 360 cs
theorem kR.call{w1 w w':World}{y m g:Nat}{T:List Nat}{l:Value}{B:Nat→Bk}{cs:Array Value}(h:kR w1 y T l m B g cs w)(hb:Below w.heap.size w w'): kR w1 y T l m B g cs w':=by
 refine⟨fA h.gb (dn hb _),h.rd.call hb,h.row.kept (dn hb none) ?_,h.bx.below hb h.bx.lt⟩
 cases l.ownBlock with
 | none=>exact .inl rfl
 | some g=>exact .inr (by simp)
theorem kR.Qy{w1 w:World}{y m1 g al cl:Nat}{T:List Nat}{B:Nat→Bk}{cs:Array Value}(h:kR w1 y T (.slice (some ⟨al,0,none⟩) (m1+1) cl) (m1+1) B g cs w): w.cell? ⟨al,m1*5+3,none⟩=some (.int .i64 (B m1).t):=by
 have h1:=EP B m1 3 (by omega) (m1+1) (by omega)
 have c1:=World.ownsRow.cells h.row (g:=al) rfl (m1*5+3) (.int .i64 (B m1).t) (by rw[h1];rfl)
 have hadd:∀ i,(⟨al,0,none⟩:Addr).add i=⟨al,0+i,none⟩:=fun i=>by unfold Addr.add;split<;>simp_all
 rw[hadd,Nat.zero_add] at c1
 exact c1
theorem uO.put{w0 w w':World}{nm:Nat→ByteArray}{pf:Nat→Nat→Pt}{pn:Nat→Nat}{k p o M y:Nat}{Ab:Option Addr}{cb:Nat}{cs:Array Value}{O:List Nat}{j base:Nat}{VS:Nat→Value}{v:Value}(h:uO w0 nm pf pn k p o M y Ab cb cs O j VS w)(hv:w.ownsRow base 360 5 v (aT (pn j)) (nD (bG pf pn j) (aT (pn j))))(hy:y < base)(hm:w'.ownsMap Tryz.prog 9 eP M (j+1) ((DB nm VS j).put (bP (nm j)) (.held v)))(hg:w.grownBy w' (some M)):
  uO w0 nm pf pn k p o M y Ab cb cs O (j+1) (fun i=>if i=j then v else VS i) w':=by
 refine⟨h.seg.Ir h.map hg,?_,fun i hi=>?_,jD h.bel hg h.m0,h.y0,h.my,h.m0⟩
 ·show w'.ownsMap Tryz.prog 9 eP M (j+1) (DB nm _ (j+1))
  have e:DB nm (fun i=>if i=j then v else VS i) (j+1)=(DB nm VS j).put (bP (nm j)) (.held v):=by
   show (DB nm (fun i=>if i=j then v else VS i) j).put (bP (nm j)) (.held (if j=j then v else VS j))=_
   rw[EG nm j (WS:=VS) (fun i hi=>if_neg (by omega)),if_pos rfl]
  rw[e]
  exact hm
 ·show w'.ownsRow (y+1) 360 5 (if i=j then v else VS i) (aT (pn i)) (nD (bG pf pn i) (aT (pn i)))
  by_cases e:i=j
  ·subst e
   rw[if_pos rfl]
   exact aU (hv.kept hg ((AZ h.map hv).imp id fun e e'=>e (by rw[←e']))) hy
  ·rw[if_neg e]
   exact h.row.Ir h.map hg i (by omega)
theorem uO.done{w0 w:World}{nm:Nat→ByteArray}{pf:Nat→Nat→Pt}{pn:Nat→Nat}{k p o M y:Nat}{Ab:Option Addr}{cb:Nat}{cs:Array Value}{O:List Nat}{VS:Nat→Value}(h:uO w0 nm pf pn k p o M y Ab cb cs O k VS w)(hB:Built nm pf pn k)(hsz:cs.size=k)(hcs:∀ j,j < k→cs[j]? = some (.string (nm j))):
  mZ w p O nm pf pn k M o Ab cb k VS:=
 ⟨h.seg.seg,V.dN h.seg.row,V.iC h.seg.row,⟨cs,h.seg.nms,hsz,hcs⟩,⟨Nat.le_refl _,by have:=hB.k1;omega⟩,h.map,fun j hj=>yO.of (h.row j hj) (hB.nb hj).1⟩
def PI(w:World)(O:List Nat)(nm:Nat→ByteArray)(pf:Nat→Nat→Pt)(pn:Nat→Nat)(k:Nat)(e:Ending)(w':World): Prop:=
 ∃ p M o Ab cb cn VS,e=.returned (.tuple #[.pointer (some ⟨p,0,none⟩),.int .i64 0])∧mZ w' p O nm pf pn k M o Ab cb cn VS∧Below w.heap.size w w'
theorem wI(w:World)(A:Option Addr)(len c:Nat)(L O:List Nat)(nm:Nat→ByteArray)(pf:Nat→Nat→Pt)(pn:Nat→Nat)(k:Nat)(hF:ig L O nm pf pn k)(hB:Built nm pf pn k)(hl:L.length=len)(hsl:Sl w (fun q=>q < w.heap.size) A len (aD L))(hlc:len≤c)(hcm:c≤9223372036854775807)(hv:V.cu w):
  Calls Tryz.prog 152 #[.slice A len c] w (PI w O nm pf pn k):=by
 have hk0:=hB.k0
 have hk1:=hB.k1
 obtain⟨q,hq⟩:∃ q,q=(F.aN 5 (sF nm pf pn k k)).length:=⟨_,rfl⟩
 obtain⟨en,hen⟩:∃ en,en=O.length:=⟨_,rfl⟩
 have hfl:=hF.fl
 have hlen:=hF.len
 rw[hl,←hq,←hen] at hfl
 have hfoot:=OJ w A len c (en+q) q _ L (by rw[hq,hen];exact hF.last) hl hsl (V.bW hF.byte) (by omega) hlc hcm
 have hmid:((L.drop (en+q-q)).take q)=F.aN 5 (sF nm pf pn k k):=by rw[hq,hen];exact hF.mid
 have hft:=hF.foot
 have hfoot':Calls Tryz.prog 227 #[.slice A len c] w fun e w'=>∃ A c,e=.returned (.tuple #[.slice A (sF nm pf pn k k).length c,.int .i64 (en:Nat),.bool true])∧w'.ownsRow w.heap.size 5 1 (.slice A (sF nm pf pn k k).length c) (sF nm pf pn k k).length ((sF nm pf pn k k).map V.aI)∧Below w.heap.size w w':=by
  refine hfoot.mono fun e w' h=>?_
  rw[hmid] at h
  have h2:=h.1 hft.1 hft.2.1
  unfold AV at h2
  rw[hmid,hft.2.2,Nat.add_sub_cancel] at h2
  exact h2
 have hfn:(sF nm pf pn k k).length+9=q:=by rw[hq,F.bB]
 obtain⟨fl,hfle⟩:∃ fl,fl=(sF nm pf pn k k).length:=⟨_,rfl⟩
 rw[←hfle] at hfoot' hfn
 have HF:=zh (zN hfoot' (zN hF (zN hB (zN hl (zN hsl (zN hv (zN hfle hen)))))))
 have HQ:=zh (zN hfn hfl)
 have hen20:en≤1048576:=by omega
 have hfl20:fl≤1048576:=by omega
 have henl:en≤len:=by omega
 clear hfoot hfoot' hF hB hl hsl hv hmid hft hfn hfl hfle hen hq hlen
 go_enter Tryz.func152,Tryz.ntmps152
 go_wp2_with fail
 refine HF.out.1.mono ?_
 rintro e w1 ⟨A1,c1,rfl,ho1,hb1⟩
 have hcap1:=V.iC ho1
 have hs1:=V.dN ho1
 have H1:=zh (zN hs1 hb1)
 clear ho1 hb1 hs1
 have hsn:=O6 nm pf pn k
 obtain⟨u,hu⟩:∃ u,u=(dx nm k k).length:=⟨_,rfl⟩
 have hufl:u≤fl:=by rw[hu,HF.out.2.2.2.2.2.2.1,hsn,List.length_append];omega
 have hread:Calls Tryz.prog 228 #[.slice A1 fl c1] w1 fun e w'=>∃ d m,e=.returned (.tuple #[.pointer (some ⟨d,0,none⟩),.int .i64 (u:Nat),.int .i64 0])∧dA w1 [] d m k nm w':=by
  have:=Oo w1 A1 fl c1 k nm (sT nm pf pn k 0) (by rw[←hsn,HF.out.2.2.2.2.2.2.1]) (by rw[←hsn];exact H1.out.1) (by rw[←hsn];exact V.bW (pK nm pf pn k k)) hcap1.1 hcap1.2 hfl20 hk1 HF.out.2.2.1.apart (fun j hj=>HF.out.2.2.1.name hj) (HF.out.2.2.2.2.2.1.below H1.out.2)
  unfold Cc at this
  rw[←hu] at this
  exact this
 have HU:=zh (zN hu (zN hsn hread))
 clear hu hsn hread
 go_wp2_with fail
 refine HU.out.2.2.mono ?_
 rintro e w2 ⟨d,m,rfl,hd2⟩
 have H2:=zh hd2
 clear hd2
 have nn:=IV
 go_wp2_with fail
 refine(PS w1 w2 [] d m k nm H2.out HF.out.2.2.1.apart).mono ?_
 rintro e w3 ⟨rfl,hb3⟩
 have H3:=zh (H2.out.call hb3)
 clear hb3
 have dk:((k:Int) == 0)=false:=by simp;omega
 obtain⟨A4,hA4,hA4'⟩:=Ow (P:=Tryz.prog) 72 5 Tryz.underlying72 MN A len c en henl hlc
 have hb13:=H1.out.2.trans (H3.out.own.bel.mono H1.out.2.size)
 have hs4:Sl w3 (fun q=>q < w.heap.size) A4 en (aD O):=by
  have h1:=hA4' w3 _ L (HF.out.2.2.2.2.1.below hb13 (fun _ hq _=>hq))
  rw[HF.out.2.2.2.2.2.2.2,HF.out.2.1.take] at h1
  rw[HF.out.2.2.2.2.2.2.2]
  exact h1
 have HB3:=zh (zN hb13 hs4)
 clear hb13 hs4 hA4'
 go_wp2_with (at_builtin;refine aW (f:=aD O) (D:=fun q=>q < w.heap.size) (base:=w.heap.size) (n:=0) (xs:=[]) V.byteElem rfl (.tmp 41) (.tmp 44) rfl rfl rfl ?hown ?hsl ?h1 ?h63 ?hby ?hbase ?_)
 case hown=>exact V.DU w3 _ _ HB3.out.1.size
 case hsl=>exact HB3.out.2.below ((Below.refl w3.heap.size w3).alloc (Nat.le_refl _) _) (fun q _ h=>h)
 case h1=>intro j _;rfl
 case h63=>unfold maxLen;omega
 case hby=>omega
 case hbase=>have:=HB3.out.1.size;simp;omega
 intro v5 w5 ho5 hg5 hx5
 have hb35:Below w3.heap.size w3 w5:=jD ((Below.refl _ _).alloc (Nat.le_refl _) _) hg5 (Nat.le_refl _)
 rw[HF.out.2.2.2.2.2.2.2,←V.fE rfl] at ho5
 obtain⟨A5,c5,hv5,-,-⟩:=aA ho5
 subst hv5
 rw[←HF.out.2.2.2.2.2.2.2] at ho5
 rw[←HF.out.2.2.2.2.2.2.2]
 have H5:=zh (zN ho5 (zN (HB3.out.1.trans (hb35.mono HB3.out.1.size)) (zN (H3.out.call hb35) hb35)))
 clear ho5 hg5 hx5 hb35 hA4
 go_wp2_with fail
 refine(Ae w1 w5 [] d m k nm H5.out.2.2.1 hk1 HF.out.2.2.1.apart).mono ?_
 rintro e w6 ⟨o,cs,rfl,hwo,hblk,hsz,hcs,hb6⟩
 have H6:=zh (zN hblk (zN hsz (zN hcs (zN hb6 hwo))))
 clear hblk hsz hcs hb6 hwo
 have hmm:=@run_makeMap Tryz.prog
 obtain⟨A7,hA7,hA7'⟩:=V.gI (P:=Tryz.prog) 72 5 Tryz.underlying72 MN A1 fl c1 u hufl hcap1.1
 go_upto_region 6 with (fail)
 go_upto_region 7 with (fail)
 obtain⟨M,hM⟩:∃ M,M=w6.heap.size:=⟨_,rfl⟩
 obtain⟨p,hp⟩:∃ p,p=w6.heap.size+1:=⟨_,rfl⟩
 obtain⟨y,hy⟩:∃ y,y=p+1:=⟨_,rfl⟩
 rw[←hp,←hy,←hM]
 have hst0:sT nm pf pn k 0=(sF nm pf pn k k).drop u:=by rw[HU.out.1];rfl
 have hstl:(sT nm pf pn k 0).length=fl-u:=by rw[hst0,List.length_drop,←HF.out.2.2.2.2.2.2.1]
 have hR8:uO w nm pf pn k p o M y A5 c5 cs O 0 (fun _=>.nilIface) (((w6.alloc (.map #[] 0)).alloc (.cells #[.slice A5 en c5,.slice (some ⟨o,0,none⟩) k k,.map (some M)] 353)).alloc (.cells #[.slice A7 (fl-u) (c1-u),.nilIface] 356))∧
   eH (((w6.alloc (.map #[] 0)).alloc (.cells #[.slice A5 en c5,.slice (some ⟨o,0,none⟩) k k,.map (some M)] 353)).alloc (.cells #[.slice A7 (fl-u) (c1-u),.nilIface] 356)) y (sT nm pf pn k 0):=by
  have s1:(w6.alloc (.map #[] 0)).heap.size=p:=by rw[hp];simp
  have s2:((w6.alloc (.map #[] 0)).alloc (.cells #[.slice A5 en c5,.slice (some ⟨o,0,none⟩) k k,.map (some M)] 353)).heap.size=y:=by rw[hy,hp];simp
  have hal:Below w6.heap.size w6 (((w6.alloc (.map #[] 0)).alloc (.cells #[.slice A5 en c5,.slice (some ⟨o,0,none⟩) k k,.map (some M)] 353)).alloc (.cells #[.slice A7 (fl-u) (c1-u),.nilIface] 356)):=
   (((Below.refl _ _).alloc (Nat.le_refl _) _).alloc (by simp) _).alloc (by simp;omega) _
  have hw16:Below w1.heap.size w1 w6:=(H5.out.2.2.1.own.bel).trans (H6.out.2.2.2.1.mono H5.out.2.2.1.own.bel.size)
  have hw06:Below w.heap.size w w6:=H1.out.2.trans (hw16.mono H1.out.2.size)
  have hsg:=(au.fresh (w6.alloc (.map #[] 0)) 353 #[.slice A5 en c5,.slice (some ⟨o,0,none⟩) k k,.map (some M)]).alloc (.cells #[.slice A7 (fl-u) (c1-u),.nilIface] 356)
  have hrd:=au.fresh ((w6.alloc (.map #[] 0)).alloc (.cells #[.slice A5 en c5,.slice (some ⟨o,0,none⟩) k k,.map (some M)] 353)) 356 #[.slice A7 (fl-u) (c1-u),.nilIface]
  rw[s1] at hsg
  rw[s2] at hrd
  have hrow:=V.bH (V.bH H5.out.1 H6.out.2.2.2.1) hal
  have hol:=H6.out.1.lt
  have hsz0:=hw06.size
  refine⟨⟨⟨by rw[←HF.out.2.2.2.2.2.2.2];exact hsg,by rw[←HF.out.2.2.2.2.2.2.2];exact hrow,H6.out.1.below hal hol,by omega,by omega,by omega,fun g hg=>?_⟩,?_,fun j hj=>absurd hj (by omega),hw06.trans (hal.mono hw06.size),by omega,by omega,by omega⟩,A7,c1-u,by rw[hstl];exact hrd,?_,by rw[hstl];omega,by omega,by rw[hst0];exact V.bN (V.bW (pK nm pf pn k k)) u⟩
  ·rw[←HF.out.2.2.2.2.2.2.2] at hg
   have h1:=(H5.out.1.lt g hg).2
   have h2:=H6.out.2.2.2.1.size
   omega
  ·rw[hM]
   exact((World.ownsMap_made w6 Tryz.prog 9 eP).alloc _).alloc _
  ·rw[hstl,hst0]
   refine(hA7' _ (fun q=>q < w1.heap.size) (sF nm pf pn k k) (H1.out.1.below (hw16.trans (hal.mono hw16.size)) (fun _ hq _=>hq))).mono (fun q hq=>?_)
   have:=hw16.size
   omega
 have hMy:M < y:=by omega
 refine aH (fun wx=>uO w nm pf pn k p o M y A5 c5 cs O 0 (fun _=>.nilIface) wx∧eH wx y (sT nm pf pn k 0)) hR8 ?_
 rintro w8 ⟨h8,r8⟩
 have zp1:=h8.seg.seg.cell 1
 have H8:=zh (zN h8 r8)
 have HC:=zh (zN H6.out.2.1 H6.out.2.2.1)
 clear h8 r8 hR8 hst0 hstl hM hp hy hMy hA7 hA7' hmm nn dk
 go_wp2_with fail
 clear zp1
 go_loopw [12,61] (fun a i wr=>∃ (j:Nat) (VS:Nat→Value),j≤k∧i=.int .i64 (j:Nat)∧a=.int .i64 ((sO pf pn j).length:Nat)∧uO w nm pf pn k p o M y A5 c5 cs O j VS wr∧eH wr y (sT nm pf pn k j)) (fun _ i _=>k-(intOf i).toNat)
 case atStart=>exact ⟨0,_,by omega,rfl,rfl,H8.out⟩
 case round=>
  obtain⟨j,VS,hj,rfl,rfl,hR,hr⟩:=hrel
  by_cases hlt:j < k
  ·have hjk:(j:Int) < (k:Int):=by omega
   obtain⟨s,hs⟩:∃ s,s=nm j:=⟨_,rfl⟩
   have zo:wr.cell? ⟨o,j,none⟩=some (.string s):=by rw[hs];exact (hR.seg.nms.cell j).trans (HC.out.2 j hlt)
   have zp1:=hR.seg.seg.cell 1
   obtain⟨aj,haj⟩:∃ aj,aj=(sO pf pn j).length:=⟨_,rfl⟩
   rw[←haj]
   have HR:=zh (zN hR (zN hr (zN hs haj)))
   clear hR hr hs haj
   go_upto_region 11 with (fail)
   clear zo
   by_cases hj0:j=0
   ·have d0:decide (0 < j)=false:=by simp;omega
    have HJ:=zh hj0
    clear hj0 zp1
    go_wp2_with fail
    refine(je wr y).mono ?_
    rintro e w11 ⟨rfl,hb11⟩
    have hst:=Il nm pf pn (k:=k) hlt
    have hnb':=HF.out.2.2.1.nb hlt
    obtain⟨nb,hnb⟩:∃ nb,nb=aT (pn j):=⟨_,rfl⟩
    have r11:=HR.out.2.1.call hb11
    have h11:=HR.out.1.call (dn hb11 (some y))
    have hnum:Calls Tryz.prog 232 #[.pointer (some ⟨y,0,none⟩),.int .u64 (1048576:Nat)] w11 (ow w11 y (.int .i64 (nb:Nat)) (bT (pf j) (pn j) 0 ++ sT nm pf pn k (j+1))):=
     zm w11 y nb 1048576 _ (by rw[hnb,GR,←hst];exact r11) (by omega) (by omega) (by omega) (HF.out.2.2.2.2.2.1.below h11.bel)
    have H11:=zh (zN h11 (zN hnum hnb))
    have hnb4:nb≤4:=by omega
    clear hb11 r11 h11 hst hnum hnb' hnb
    go_wp2_with fail
    refine H11.out.2.1.mono ?_
    rintro e w13 ⟨rfl,hg13,r13⟩
    have H13:=zh (zN (H11.out.1.call hg13) r13)
    clear hg13 r13
    have q1:=zX
    go_wp2_with fail
    go_loopw [12,15] (fun a l wq=>∃ m,m≤nb∧a=.int .i64 ((bG pf pn j m).a:Nat)∧w13.grownBy wq (some y)∧eH wq y (bT (pf j) (pn j) m ++ sT nm pf pn k (j+1))∧wq.ownsRow w13.heap.size 360 5 l m (nD (bG pf pn j) m)) (fun _ l _=>nb-oK l)
    case atStart=>exact ⟨0,by omega,by rw[Fw,←HR.out.2.2.2],World.grownBy.refl _ _,H13.out.2,M0 _ _⟩
    case round=>
     obtain⟨m,hm,rfl,hgq,hrq,hol⟩:=hrel
     obtain⟨Al,cl,hvl,hcl,-⟩:=aA hol
     subst hvl
     obtain⟨x,hx⟩:∃ x,x=bG pf pn j m:=⟨_,rfl⟩
     rw[←hx]
     obtain⟨xa,xb,xf,xt,xn⟩:=x
     have zy1:wr.cell? ⟨y,1,none⟩=some Value.nilIface:=by obtain ⟨_,_,h1,-⟩:=hrq;exact h1.cell 1
     have hbelq:=jD H13.out.1.bel hgq H13.out.1.y0
     by_cases hmn:m < nb
     ·have hmn':(m:Int) < (nb:Int):=by omega
      have hB:=ny (HF.out.2.2.1.bv hlt) (by rw[←H11.out.2.2];exact hmn)
      have hrng:∀ i,i < pn j→-1152921504606846976≤(pf j i).t∧(pf j i).t≤1152921504606846976:=fun i hi=>Ak (HF.out.2.2.1.bv hlt) hi
      have hle:=Ja pf pn (k:=k) hlt (m:=m) (by rw[←H11.out.2.2];exact hmn)
      rw[←hx] at hle
      have xe:xa+xb≤en:=by rw[HF.out.2.2.2.2.2.2.2,HF.out.2.1.ol];exact hle
      have e1:xb=(dU (aZ (pf j) (1024*m)) (bn (pn j) (1024*m))).1.length:=congrArg Bk.b hx
      have e2:xf=(pf j (1024*m)).t:=congrArg Bk.f hx
      have e3:xt=(pf j (1024*m+(bn (pn j) (1024*m)-1))).t:=congrArg Bk.t hx
      have e4:xn=bn (pn j) (1024*m):=congrArg Bk.n hx
      have b1:9≤xb:=by rw[e1];exact hB.b0
      have b2:xb≤120060:=by rw[e1];exact hB.b1
      have n1:1≤xn:=by rw[e4];exact hB.n0
      have n2:xn≤1024:=by rw[e4];exact hB.n1
      have t1 : -1152921504606846976≤xf:=by rw[e2];exact (hrng _ (by have:=hB.le;have:=hB.n0;omega)).1
      have t2:xt≤1152921504606846976:=by rw[e3];exact (hrng _ (by have:=hB.le;have:=hB.n0;omega)).2
      have t3:xf≤xt:=by
       rw[e2,e3]
       rcases Nat.eq_zero_or_pos (bn (pn j) (1024*m)-1) with h0 | h0
       ·rw[h0];exact Int.le_refl _
       ·exact Int.le_of_lt (rJ (HF.out.2.2.1.bv hlt) (by omega) (by have:=hB.le;have:=hB.n0;omega))
      have hfk:lC (aZ (pf j) (1024*m)) (bn (pn j) (1024*m))=Ai ⟨xa,xb,xf,xt,xn⟩:=by rw[hx];rfl
      have hblk:Calls Tryz.prog 233 #[.pointer (some ⟨y,0,none⟩),.int .i64 (xa:Nat)] wr (ow wr y (.agg #[.int .i64 (xa:Nat),.int .i64 (xb:Nat),.int .i64 xf,.int .i64 xt,.int .i64 (xn:Nat)]) (bT (pf j) (pn j) (m+1) ++ sT nm pf pn k (j+1))):=
       En wr y ⟨xa,xb,xf,xt,xn⟩ _ (by rw[←hfk,←List.append_assoc,←GQ _ _ (by rw[←H11.out.2.2];exact hmn)];exact hrq) (by show 1≤xb;omega) (by show xb≤_;omega) t1 t3 t2 n1 (by show xn≤_;omega) (HF.out.2.2.2.2.2.1.below hbelq)
      have hup:m≠0→decide (xf≤(bG pf pn j (m-1)).t)=false:=fun h0=>by
       have h1:=hB.up h0
       have h2:=ny (HF.out.2.2.1.bv hlt) (m:=m-1) (by rw[←H11.out.2.2];omega)
       have h3:=QA (f:=pf j) (n:=pn j) (m:=m-1) (by rw[←H11.out.2.2];omega) h2
       rw[show m-1+1=m by omega] at h3
       have h4:(bG pf pn j (m-1)).t=(pf j (1024*m-1)).t:=h3
       rw[h4,e2]
       simp;omega
      have HX:=zh (zN hx (zN hblk hup))
      have HI:=zh (zN hgq (zN hrq (zN hol hbelq)))
      clear hx hblk hup hgq hrq hol hbelq hfk e1 e2 e3 e4 hB hrng hle
      go_upto_region 15 with (fail)
      go_wp2_with fail
      refine HX.out.2.1.mono ?_
      rintro e w15 ⟨rfl,hg15,r15⟩
      go_upto_region 16 with (fail)
      obtain⟨g,hg⟩:∃ g,g=w15.heap.size:=⟨_,rfl⟩
      rw[←hg]
      have hy13:y < w13.heap.size:=by obtain ⟨_,_,h1,-⟩:=H13.out.2;exact h1.lt
      have hrow15:w15.ownsRow w13.heap.size 360 5 (.slice Al m cl) m (nD (bG pf pn j) m):=by
       refine HI.out.2.2.1.kept hg15 ?_
       cases e:(Value.slice Al m cl).ownBlock with
       | none=>exact .inl rfl
       | some g=>exact .inr fun e'=>by have:=(HI.out.2.2.1.lt g e).1;injection e' with e';omega
      have hal15:Below w15.heap.size w15 (w15.alloc (.cells #[.int .i64 (xa:Nat),.int .i64 (xb:Nat),.int .i64 xf,.int .i64 xt,.int .i64 (xn:Nat)] 360)):=(Below.refl _ _).alloc (Nat.le_refl _) _
      have h16:kR w13 y (bT (pf j) (pn j) (m+1) ++ sT nm pf pn k (j+1)) (.slice Al m cl) m (bG pf pn j) g #[.int .i64 (xa:Nat),.int .i64 (xb:Nat),.int .i64 xf,.int .i64 xt,.int .i64 (xn:Nat)] (w15.alloc (.cells #[.int .i64 (xa:Nat),.int .i64 (xb:Nat),.int .i64 xf,.int .i64 xt,.int .i64 (xn:Nat)] 360)):=
       ⟨fA (fA HI.out.1 hg15) (dn hal15 _),r15.call hal15,hrow15.alloc _,by rw[hg];exact au.fresh _ _ _⟩
      obtain⟨T,hT⟩:∃ T,T=bT (pf j) (pn j) (m+1) ++ sT nm pf pn k (j+1):=⟨_,rfl⟩
      rw[←hT] at h16
      refine aH (kR w13 y T (.slice Al m cl) m (bG pf pn j) g #[.int .i64 (xa:Nat),.int .i64 (xb:Nat),.int .i64 xf,.int .i64 xt,.int .i64 (xn:Nat)]) h16 ?_
      intro w16 h16
      have H16:=zh h16
      have HT:=zh (zN hT hy13)
      clear h16 hrow15 hal15 hg15 r15 hT hg hy13
      have ke:IntKind.i64.wrap ((en:Int)-(xa:Int))=((en-xa:Nat):Int):=by rw[IntWalk.i64_in _ (by omega)];omega
      have d2:decide (en-xa < xb)=false:=by simp;omega
      have hS:=H16.out.call (Below.refl _ _).drew
      by_cases hm0:m=0
      ·have d0:decide (0 < m)=false:=by simp;omega
       have HM:=zh hm0
       clear hm0
       have hS:(kR w13 y T (.slice Al m cl) m (bG pf pn j) g #[.int .i64 (xa:Nat),.int .i64 (xb:Nat),.int .i64 xf,.int .i64 xt,.int .i64 (xn:Nat)]) (w16.drew):=hS
       refine av (kR w13 y T (.slice Al m cl) m (bG pf pn j) g #[.int .i64 (xa:Nat),.int .i64 (xb:Nat),.int .i64 xf,.int .i64 xt,.int .i64 (xn:Nat)]) (by kernel_rfl) hS ?_
       generalize w16.drew=wd at hS ⊢
       have HD:=zh hS
       refine zB [0,1,2,3,4] ?_
       iterate 5 (refine zV ?_ ?_ hS ?_;rotate_left;(intro w' hSw;go_simp<;>with_reducible rfl);try simp only[zP])
       refine zE ?_
       refine zB [5,6,7,8,9,10,11,12,13,14] ?_
       iterate 10 (refine zW hS ?_;try simp only[zP])
       refine zE ?_
       refine zB [15,16,17,18,19,20,21,22,23] ?_
       iterate 9 (refine zV ?_ ?_ hS ?_;rotate_left;(intro w' hSw;have u1:=hSw.bx.cell 1;go_simp<;>with_reducible rfl);try simp only[zP])
       refine zE ?_
       refine zC 24 fun K HK=>?_
       go_simp
       refine(je _ y).mono ?_
       rintro e w17 ⟨rfl,hb17⟩
       have HE:=zh (HD.out.call hb17)
       clear hb17
       go_wp2_with fail
       refine HK.out.zt (kR w13 y T (.slice Al m cl) m (bG pf pn j) g #[.int .i64 (xa:Nat),.int .i64 (xb:Nat),.int .i64 xf,.int .i64 xt,.int .i64 (xn:Nat)]) (fun _ h=>h) (HE.out) ?_
       clear HK hS
       intro hS
       try simp only[zP]
       refine zD ?_
       try simp only[zP]
       clear hS
       have z0:=HE.out.bx.cell 0
       have z1:=HE.out.bx.cell 1
       have z2:=HE.out.bx.cell 2
       have z3:=HE.out.bx.cell 3
       have z4:=HE.out.bx.cell 4
       have ka:IntKind.i64.wrap ((xa:Int)+(xb:Int))=((xa+xb:Nat):Int):=by rw[IntWalk.i64_in _ (by omega)];omega
       go_wp2_with (at_builtin;refine jK (base:=w13.heap.size) (j:=m) (B:=bG pf pn j) rfl (.tmp 127) (.tmp 129) rfl rfl rfl ?hown ?hg ?h63 ?hbase ?_)
       case hown=>exact HE.out.row.alloc _
       case hg=>rw[←HX.out.1];exact au.fresh _ _ _
       case h63=>omega
       case hbase=>have:=HE.out.gb.size;simp;omega
       intro v18 w18 ho18 hg18 hx18
       clear hx18
       have hal18:∀ cs,Below w17.heap.size w17 (w17.alloc (.cells cs 360)):=fun cs=>(Below.refl _ _).alloc (Nat.le_refl _) _
       have gb18:=zO (fA HE.out.gb (dn (hal18 _) _)) (HE.out.row.alloc _) hg18
       have rd18:=(HE.out.rd.call (hal18 _)).row (HE.out.row.alloc _) HT.out.2 hg18
       obtain⟨A18,c18,hv18,-,-⟩:=aA ho18
       subst hv18
       have H18:=zh (zN gb18 (zN rd18 ho18))
       clear gb18 rd18 ho18 hg18 z0 z1 z2 z3 z4 hal18
       go_wp2_with fail
       go_roundw
       case rel=>exact ⟨m+1,by omega,by rw[vX,←HX.out.1,Int.natCast_add],H18.out.1,by rw[←HT.out.1];exact H18.out.2.1,H18.out.2.2⟩
       case measure=>show nb-(m+1) < nb-m;omega
      ·obtain ⟨m1,hm1⟩:∃ m1,m=m1+1:=⟨m-1,by omega⟩
       have d0:decide (0 < m)=true:=by simp;omega
       have kw:IntKind.i64.wrap ((m:Int)-1)=(m1:Int):=by rw[IntWalk.i64_in _ (by omega)];omega
       have hm1m:(m1:Int) < (m:Int):=by omega
       obtain⟨t0,ht0⟩:∃ t0,t0=(bG pf pn j m1).t:=⟨_,rfl⟩
       have d5:decide (xf≤t0)=false:=by
        have:=HX.out.2.2 hm0
        rw[show m-1=m1 by omega,←ht0] at this
        exact this
       obtain⟨al,hal⟩:∃ al,Al=some ⟨al,0,none⟩:=by
        obtain⟨A',c',e',-,hp'⟩:=aA H16.out.row
        obtain⟨g',e2,-⟩:=hp' (by omega)
        injection e' with e3
        exact⟨g',e3.trans e2⟩
       subst hal
       have hcT:∀ w',kR w13 y T (.slice (some ⟨al,0,none⟩) m cl) m (bG pf pn j) g #[.int .i64 (xa:Nat),.int .i64 (xb:Nat),.int .i64 xf,.int .i64 xt,.int .i64 (xn:Nat)] w'→w'.cell? ⟨al,m1*5+3,none⟩=some (.int .i64 t0):=fun w' h=>by
        rw[hm1] at h
        rw[ht0]
        exact h.Qy
       have HM:=zh (zN hm1 (zN ht0 hcT))
       clear hm1 ht0 hm0 hcT
       have hS:(kR w13 y T (.slice (some ⟨al,0,none⟩) m cl) m (bG pf pn j) g #[.int .i64 (xa:Nat),.int .i64 (xb:Nat),.int .i64 xf,.int .i64 xt,.int .i64 (xn:Nat)]) (w16.drew):=hS
       refine av (kR w13 y T (.slice (some ⟨al,0,none⟩) m cl) m (bG pf pn j) g #[.int .i64 (xa:Nat),.int .i64 (xb:Nat),.int .i64 xf,.int .i64 xt,.int .i64 (xn:Nat)]) (by kernel_rfl) hS ?_
       generalize w16.drew=wd at hS ⊢
       have HD:=zh hS
       refine zB [0,1,2,3,4,5,6,7,8,9,10,11,12,13,14,15,16,17,18,19,20,21,22,23] ?_
       iterate 24 (refine zV ?_ ?_ hS ?_;rotate_left;(intro w' hSw;have u1:=hSw.bx.cell 1;have u2:=hSw.bx.cell 2;have u3:=HM.out.2.2 w' hSw;go_simp<;>with_reducible rfl);try simp only[zP])
       refine zE ?_
       refine zC 24 fun K HK=>?_
       go_simp
       refine(je _ y).mono ?_
       rintro e w17 ⟨rfl,hb17⟩
       have HE:=zh (HD.out.call hb17)
       clear hb17
       go_wp2_with fail
       refine HK.out.zt (kR w13 y T (.slice (some ⟨al,0,none⟩) m cl) m (bG pf pn j) g #[.int .i64 (xa:Nat),.int .i64 (xb:Nat),.int .i64 xf,.int .i64 xt,.int .i64 (xn:Nat)]) (fun _ h=>h) (HE.out) ?_
       clear HK hS
       intro hS
       try simp only[zP]
       refine zD ?_
       try simp only[zP]
       clear hS
       have z0:=HE.out.bx.cell 0
       have z1:=HE.out.bx.cell 1
       have z2:=HE.out.bx.cell 2
       have z3:=HE.out.bx.cell 3
       have z4:=HE.out.bx.cell 4
       have ka:IntKind.i64.wrap ((xa:Int)+(xb:Int))=((xa+xb:Nat):Int):=by rw[IntWalk.i64_in _ (by omega)];omega
       go_wp2_with (at_builtin;refine jK (base:=w13.heap.size) (j:=m) (B:=bG pf pn j) rfl (.tmp 127) (.tmp 129) rfl rfl rfl ?hown ?hg ?h63 ?hbase ?_)
       case hown=>exact HE.out.row.alloc _
       case hg=>rw[←HX.out.1];exact au.fresh _ _ _
       case h63=>omega
       case hbase=>have:=HE.out.gb.size;simp;omega
       intro v18 w18 ho18 hg18 hx18
       clear hx18
       have hal18:∀ cs,Below w17.heap.size w17 (w17.alloc (.cells cs 360)):=fun cs=>(Below.refl _ _).alloc (Nat.le_refl _) _
       have gb18:=zO (fA HE.out.gb (dn (hal18 _) _)) (HE.out.row.alloc _) hg18
       have rd18:=(HE.out.rd.call (hal18 _)).row (HE.out.row.alloc _) HT.out.2 hg18
       obtain⟨A18,c18,hv18,-,-⟩:=aA ho18
       subst hv18
       have H18:=zh (zN gb18 (zN rd18 ho18))
       clear gb18 rd18 ho18 hg18 z0 z1 z2 z3 z4 hal18
       go_wp2_with fail
       go_roundw
       case rel=>exact ⟨m+1,by omega,by rw[vX,←HX.out.1,Int.natCast_add],H18.out.1,by rw[←HT.out.1];exact H18.out.2.1,H18.out.2.2⟩
       case measure=>show nb-(m+1) < nb-m;omega
     ·obtain rfl:m=nb:=by omega
      have hR:=H13.out.1.call hgq
      have hr:eH wr y (sT nm pf pn k (j+1)):=by
       have h1:=hrq
       rw[H11.out.2.2,LZ,List.nil_append] at h1
       exact h1
      have hy13:y < w13.heap.size:=by obtain ⟨_,_,h1,-⟩:=H13.out.2;exact h1.lt
      have zp2:=hR.seg.seg.cell 2
      have hown:World.ownsMap wr Tryz.prog 9 eP M j (DB nm VS j):=hR.map
      have hkey:keyOf Tryz.prog 9 (.string s)=some (bP (nm j)):=by
       rw[HR.out.2.2.1]
       have:=(nV (HF.out.2.2.1.name hlt)).2
       exact kD (by unfold maxLen;omega)
      have hea:xa=(sO pf pn (j+1)).length:=by
       have h1:=Hz pf pn j
       rw[←H11.out.2.2,←hx] at h1
       exact h1
      have HI:=zh (zN hR (zN hr (zN hol (zN hy13 hea))))
      clear hR hr hol hy13 hea hgq hrq hbelq hx
      have hjm:j < maxLen:=by unfold maxLen;omega
      go_wp2_with (at_mapUpdate;refine wpList_mapUpdate_own _ rfl _ _ _ 351 rfl 9 358 law Tryz.underlying351 eP M j _ rfl hown hjm _ _ _ rfl rfl hkey (.held (.slice Al m cl)) [] rfl ?_;intro w19 hown19 hg19)
      have hR19:=HI.out.1.put (base:=w13.heap.size) (v:=.slice Al m cl) (by rw[←H11.out.2.2];exact HI.out.2.2.1) HI.out.2.2.2.1 hown19 hg19
      have hr19:=HI.out.2.1.Ir HI.out.1.map hg19
      have H19:=zh (zN hR19 hr19)
      clear hown hown19 hg19 hR19 hr19 zp2 hkey
      go_wp2_with fail
      go_roundw
      case rel=>exact ⟨j+1,_,by omega,by go_num,by rw[HI.out.2.2.2.2],H19.out⟩
      case measure=>simp[intOf]<;>omega
   ·obtain ⟨j1,hj1⟩:∃ j1,j=j1+1:=⟨j-1,by omega⟩
    have d0:decide (0 < j)=true:=by simp;omega
    have kw:IntKind.i64.wrap ((j:Int)-1)=(j1:Int):=by rw[IntWalk.i64_in _ (by omega)];omega
    have hj1k:(j1:Int) < (k:Int):=by omega
    obtain⟨t,ht⟩:∃ t,t=nm j1:=⟨_,rfl⟩
    have zo1:wr.cell? ⟨o,j1,none⟩=some (.string t):=by rw[ht];exact (HR.out.1.seg.nms.cell j1).trans (HC.out.2 j1 (by omega))
    have hle:(Op.bytesLess s.toList t.toList || s.toList == t.toList)=false:=by
     have:=HF.out.2.2.1.rise j (by omega) hlt
     rw[hj1,Nat.add_sub_cancel] at this
     rw[HR.out.2.2.1,ht,hj1]
     exact this
    have HJ:=zh (zN hj1 ht)
    clear hj1 ht hj0
    go_wp2_with fail
    refine(je wr y).mono ?_
    rintro e w11 ⟨rfl,hb11⟩
    have hst:=Il nm pf pn (k:=k) hlt
    have hnb':=HF.out.2.2.1.nb hlt
    obtain⟨nb,hnb⟩:∃ nb,nb=aT (pn j):=⟨_,rfl⟩
    have r11:=HR.out.2.1.call hb11
    have h11:=HR.out.1.call (dn hb11 (some y))
    have hnum:Calls Tryz.prog 232 #[.pointer (some ⟨y,0,none⟩),.int .u64 (1048576:Nat)] w11 (ow w11 y (.int .i64 (nb:Nat)) (bT (pf j) (pn j) 0 ++ sT nm pf pn k (j+1))):=
     zm w11 y nb 1048576 _ (by rw[hnb,GR,←hst];exact r11) (by omega) (by omega) (by omega) (HF.out.2.2.2.2.2.1.below h11.bel)
    have H11:=zh (zN h11 (zN hnum hnb))
    have hnb4:nb≤4:=by omega
    clear hb11 r11 h11 hst hnum hnb' hnb
    go_wp2_with fail
    refine H11.out.2.1.mono ?_
    rintro e w13 ⟨rfl,hg13,r13⟩
    have H13:=zh (zN (H11.out.1.call hg13) r13)
    clear hg13 r13
    have q1:=zX
    go_wp2_with fail
    go_loopw [12,15] (fun a l wq=>∃ m,m≤nb∧a=.int .i64 ((bG pf pn j m).a:Nat)∧w13.grownBy wq (some y)∧eH wq y (bT (pf j) (pn j) m ++ sT nm pf pn k (j+1))∧wq.ownsRow w13.heap.size 360 5 l m (nD (bG pf pn j) m)) (fun _ l _=>nb-oK l)
    case atStart=>exact ⟨0,by omega,by rw[Fw,←HR.out.2.2.2],World.grownBy.refl _ _,H13.out.2,M0 _ _⟩
    case round=>
     obtain⟨m,hm,rfl,hgq,hrq,hol⟩:=hrel
     obtain⟨Al,cl,hvl,hcl,-⟩:=aA hol
     subst hvl
     obtain⟨x,hx⟩:∃ x,x=bG pf pn j m:=⟨_,rfl⟩
     rw[←hx]
     obtain⟨xa,xb,xf,xt,xn⟩:=x
     have zy1:wr.cell? ⟨y,1,none⟩=some Value.nilIface:=by obtain ⟨_,_,h1,-⟩:=hrq;exact h1.cell 1
     have hbelq:=jD H13.out.1.bel hgq H13.out.1.y0
     by_cases hmn:m < nb
     ·have hmn':(m:Int) < (nb:Int):=by omega
      have hB:=ny (HF.out.2.2.1.bv hlt) (by rw[←H11.out.2.2];exact hmn)
      have hrng:∀ i,i < pn j→-1152921504606846976≤(pf j i).t∧(pf j i).t≤1152921504606846976:=fun i hi=>Ak (HF.out.2.2.1.bv hlt) hi
      have hle:=Ja pf pn (k:=k) hlt (m:=m) (by rw[←H11.out.2.2];exact hmn)
      rw[←hx] at hle
      have xe:xa+xb≤en:=by rw[HF.out.2.2.2.2.2.2.2,HF.out.2.1.ol];exact hle
      have e1:xb=(dU (aZ (pf j) (1024*m)) (bn (pn j) (1024*m))).1.length:=congrArg Bk.b hx
      have e2:xf=(pf j (1024*m)).t:=congrArg Bk.f hx
      have e3:xt=(pf j (1024*m+(bn (pn j) (1024*m)-1))).t:=congrArg Bk.t hx
      have e4:xn=bn (pn j) (1024*m):=congrArg Bk.n hx
      have b1:9≤xb:=by rw[e1];exact hB.b0
      have b2:xb≤120060:=by rw[e1];exact hB.b1
      have n1:1≤xn:=by rw[e4];exact hB.n0
      have n2:xn≤1024:=by rw[e4];exact hB.n1
      have t1 : -1152921504606846976≤xf:=by rw[e2];exact (hrng _ (by have:=hB.le;have:=hB.n0;omega)).1
      have t2:xt≤1152921504606846976:=by rw[e3];exact (hrng _ (by have:=hB.le;have:=hB.n0;omega)).2
      have t3:xf≤xt:=by
       rw[e2,e3]
       rcases Nat.eq_zero_or_pos (bn (pn j) (1024*m)-1) with h0 | h0
       ·rw[h0];exact Int.le_refl _
       ·exact Int.le_of_lt (rJ (HF.out.2.2.1.bv hlt) (by omega) (by have:=hB.le;have:=hB.n0;omega))
      have hfk:lC (aZ (pf j) (1024*m)) (bn (pn j) (1024*m))=Ai ⟨xa,xb,xf,xt,xn⟩:=by rw[hx];rfl
      have hblk:Calls Tryz.prog 233 #[.pointer (some ⟨y,0,none⟩),.int .i64 (xa:Nat)] wr (ow wr y (.agg #[.int .i64 (xa:Nat),.int .i64 (xb:Nat),.int .i64 xf,.int .i64 xt,.int .i64 (xn:Nat)]) (bT (pf j) (pn j) (m+1) ++ sT nm pf pn k (j+1))):=
       En wr y ⟨xa,xb,xf,xt,xn⟩ _ (by rw[←hfk,←List.append_assoc,←GQ _ _ (by rw[←H11.out.2.2];exact hmn)];exact hrq) (by show 1≤xb;omega) (by show xb≤_;omega) t1 t3 t2 n1 (by show xn≤_;omega) (HF.out.2.2.2.2.2.1.below hbelq)
      have hup:m≠0→decide (xf≤(bG pf pn j (m-1)).t)=false:=fun h0=>by
       have h1:=hB.up h0
       have h2:=ny (HF.out.2.2.1.bv hlt) (m:=m-1) (by rw[←H11.out.2.2];omega)
       have h3:=QA (f:=pf j) (n:=pn j) (m:=m-1) (by rw[←H11.out.2.2];omega) h2
       rw[show m-1+1=m by omega] at h3
       have h4:(bG pf pn j (m-1)).t=(pf j (1024*m-1)).t:=h3
       rw[h4,e2]
       simp;omega
      have HX:=zh (zN hx (zN hblk hup))
      have HI:=zh (zN hgq (zN hrq (zN hol hbelq)))
      clear hx hblk hup hgq hrq hol hbelq hfk e1 e2 e3 e4 hB hrng hle
      go_upto_region 15 with (fail)
      go_wp2_with fail
      refine HX.out.2.1.mono ?_
      rintro e w15 ⟨rfl,hg15,r15⟩
      go_upto_region 16 with (fail)
      obtain⟨g,hg⟩:∃ g,g=w15.heap.size:=⟨_,rfl⟩
      rw[←hg]
      have hy13:y < w13.heap.size:=by obtain ⟨_,_,h1,-⟩:=H13.out.2;exact h1.lt
      have hrow15:w15.ownsRow w13.heap.size 360 5 (.slice Al m cl) m (nD (bG pf pn j) m):=by
       refine HI.out.2.2.1.kept hg15 ?_
       cases e:(Value.slice Al m cl).ownBlock with
       | none=>exact .inl rfl
       | some g=>exact .inr fun e'=>by have:=(HI.out.2.2.1.lt g e).1;injection e' with e';omega
      have hal15:Below w15.heap.size w15 (w15.alloc (.cells #[.int .i64 (xa:Nat),.int .i64 (xb:Nat),.int .i64 xf,.int .i64 xt,.int .i64 (xn:Nat)] 360)):=(Below.refl _ _).alloc (Nat.le_refl _) _
      have h16:kR w13 y (bT (pf j) (pn j) (m+1) ++ sT nm pf pn k (j+1)) (.slice Al m cl) m (bG pf pn j) g #[.int .i64 (xa:Nat),.int .i64 (xb:Nat),.int .i64 xf,.int .i64 xt,.int .i64 (xn:Nat)] (w15.alloc (.cells #[.int .i64 (xa:Nat),.int .i64 (xb:Nat),.int .i64 xf,.int .i64 xt,.int .i64 (xn:Nat)] 360)):=
       ⟨fA (fA HI.out.1 hg15) (dn hal15 _),r15.call hal15,hrow15.alloc _,by rw[hg];exact au.fresh _ _ _⟩
      obtain⟨T,hT⟩:∃ T,T=bT (pf j) (pn j) (m+1) ++ sT nm pf pn k (j+1):=⟨_,rfl⟩
      rw[←hT] at h16
      refine aH (kR w13 y T (.slice Al m cl) m (bG pf pn j) g #[.int .i64 (xa:Nat),.int .i64 (xb:Nat),.int .i64 xf,.int .i64 xt,.int .i64 (xn:Nat)]) h16 ?_
      intro w16 h16
      have H16:=zh h16
      have HT:=zh (zN hT hy13)
      clear h16 hrow15 hal15 hg15 r15 hT hg hy13
      have ke:IntKind.i64.wrap ((en:Int)-(xa:Int))=((en-xa:Nat):Int):=by rw[IntWalk.i64_in _ (by omega)];omega
      have d2:decide (en-xa < xb)=false:=by simp;omega
      have hS:=H16.out.call (Below.refl _ _).drew
      by_cases hm0:m=0
      ·have d0:decide (0 < m)=false:=by simp;omega
       have HM:=zh hm0
       clear hm0
       have hS:(kR w13 y T (.slice Al m cl) m (bG pf pn j) g #[.int .i64 (xa:Nat),.int .i64 (xb:Nat),.int .i64 xf,.int .i64 xt,.int .i64 (xn:Nat)]) (w16.drew):=hS
       refine av (kR w13 y T (.slice Al m cl) m (bG pf pn j) g #[.int .i64 (xa:Nat),.int .i64 (xb:Nat),.int .i64 xf,.int .i64 xt,.int .i64 (xn:Nat)]) (by kernel_rfl) hS ?_
       generalize w16.drew=wd at hS ⊢
       have HD:=zh hS
       refine zB [0,1,2,3,4] ?_
       iterate 5 (refine zV ?_ ?_ hS ?_;rotate_left;(intro w' hSw;go_simp<;>with_reducible rfl);try simp only[zP])
       refine zE ?_
       refine zB [5,6,7,8,9,10,11,12,13,14] ?_
       iterate 10 (refine zW hS ?_;try simp only[zP])
       refine zE ?_
       refine zB [15,16,17,18,19,20,21,22,23] ?_
       iterate 9 (refine zV ?_ ?_ hS ?_;rotate_left;(intro w' hSw;have u1:=hSw.bx.cell 1;go_simp<;>with_reducible rfl);try simp only[zP])
       refine zE ?_
       refine zC 24 fun K HK=>?_
       go_simp
       refine(je _ y).mono ?_
       rintro e w17 ⟨rfl,hb17⟩
       have HE:=zh (HD.out.call hb17)
       clear hb17
       go_wp2_with fail
       refine HK.out.zt (kR w13 y T (.slice Al m cl) m (bG pf pn j) g #[.int .i64 (xa:Nat),.int .i64 (xb:Nat),.int .i64 xf,.int .i64 xt,.int .i64 (xn:Nat)]) (fun _ h=>h) (HE.out) ?_
       clear HK hS
       intro hS
       try simp only[zP]
       refine zD ?_
       try simp only[zP]
       clear hS
       have z0:=HE.out.bx.cell 0
       have z1:=HE.out.bx.cell 1
       have z2:=HE.out.bx.cell 2
       have z3:=HE.out.bx.cell 3
       have z4:=HE.out.bx.cell 4
       have ka:IntKind.i64.wrap ((xa:Int)+(xb:Int))=((xa+xb:Nat):Int):=by rw[IntWalk.i64_in _ (by omega)];omega
       go_wp2_with (at_builtin;refine jK (base:=w13.heap.size) (j:=m) (B:=bG pf pn j) rfl (.tmp 127) (.tmp 129) rfl rfl rfl ?hown ?hg ?h63 ?hbase ?_)
       case hown=>exact HE.out.row.alloc _
       case hg=>rw[←HX.out.1];exact au.fresh _ _ _
       case h63=>omega
       case hbase=>have:=HE.out.gb.size;simp;omega
       intro v18 w18 ho18 hg18 hx18
       clear hx18
       have hal18:∀ cs,Below w17.heap.size w17 (w17.alloc (.cells cs 360)):=fun cs=>(Below.refl _ _).alloc (Nat.le_refl _) _
       have gb18:=zO (fA HE.out.gb (dn (hal18 _) _)) (HE.out.row.alloc _) hg18
       have rd18:=(HE.out.rd.call (hal18 _)).row (HE.out.row.alloc _) HT.out.2 hg18
       obtain⟨A18,c18,hv18,-,-⟩:=aA ho18
       subst hv18
       have H18:=zh (zN gb18 (zN rd18 ho18))
       clear gb18 rd18 ho18 hg18 z0 z1 z2 z3 z4 hal18
       go_wp2_with fail
       go_roundw
       case rel=>exact ⟨m+1,by omega,by rw[vX,←HX.out.1,Int.natCast_add],H18.out.1,by rw[←HT.out.1];exact H18.out.2.1,H18.out.2.2⟩
       case measure=>show nb-(m+1) < nb-m;omega
      ·obtain ⟨m1,hm1⟩:∃ m1,m=m1+1:=⟨m-1,by omega⟩
       have d0:decide (0 < m)=true:=by simp;omega
       have kw:IntKind.i64.wrap ((m:Int)-1)=(m1:Int):=by rw[IntWalk.i64_in _ (by omega)];omega
       have hm1m:(m1:Int) < (m:Int):=by omega
       obtain⟨t0,ht0⟩:∃ t0,t0=(bG pf pn j m1).t:=⟨_,rfl⟩
       have d5:decide (xf≤t0)=false:=by
        have:=HX.out.2.2 hm0
        rw[show m-1=m1 by omega,←ht0] at this
        exact this
       obtain⟨al,hal⟩:∃ al,Al=some ⟨al,0,none⟩:=by
        obtain⟨A',c',e',-,hp'⟩:=aA H16.out.row
        obtain⟨g',e2,-⟩:=hp' (by omega)
        injection e' with e3
        exact⟨g',e3.trans e2⟩
       subst hal
       have hcT:∀ w',kR w13 y T (.slice (some ⟨al,0,none⟩) m cl) m (bG pf pn j) g #[.int .i64 (xa:Nat),.int .i64 (xb:Nat),.int .i64 xf,.int .i64 xt,.int .i64 (xn:Nat)] w'→w'.cell? ⟨al,m1*5+3,none⟩=some (.int .i64 t0):=fun w' h=>by
        rw[hm1] at h
        rw[ht0]
        exact h.Qy
       have HM:=zh (zN hm1 (zN ht0 hcT))
       clear hm1 ht0 hm0 hcT
       have hS:(kR w13 y T (.slice (some ⟨al,0,none⟩) m cl) m (bG pf pn j) g #[.int .i64 (xa:Nat),.int .i64 (xb:Nat),.int .i64 xf,.int .i64 xt,.int .i64 (xn:Nat)]) (w16.drew):=hS
       refine av (kR w13 y T (.slice (some ⟨al,0,none⟩) m cl) m (bG pf pn j) g #[.int .i64 (xa:Nat),.int .i64 (xb:Nat),.int .i64 xf,.int .i64 xt,.int .i64 (xn:Nat)]) (by kernel_rfl) hS ?_
       generalize w16.drew=wd at hS ⊢
       have HD:=zh hS
       refine zB [0,1,2,3,4,5,6,7,8,9,10,11,12,13,14,15,16,17,18,19,20,21,22,23] ?_
       iterate 24 (refine zV ?_ ?_ hS ?_;rotate_left;(intro w' hSw;have u1:=hSw.bx.cell 1;have u2:=hSw.bx.cell 2;have u3:=HM.out.2.2 w' hSw;go_simp<;>with_reducible rfl);try simp only[zP])
       refine zE ?_
       refine zC 24 fun K HK=>?_
       go_simp
       refine(je _ y).mono ?_
       rintro e w17 ⟨rfl,hb17⟩
       have HE:=zh (HD.out.call hb17)
       clear hb17
       go_wp2_with fail
       refine HK.out.zt (kR w13 y T (.slice (some ⟨al,0,none⟩) m cl) m (bG pf pn j) g #[.int .i64 (xa:Nat),.int .i64 (xb:Nat),.int .i64 xf,.int .i64 xt,.int .i64 (xn:Nat)]) (fun _ h=>h) (HE.out) ?_
       clear HK hS
       intro hS
       try simp only[zP]
       refine zD ?_
       try simp only[zP]
       clear hS
       have z0:=HE.out.bx.cell 0
       have z1:=HE.out.bx.cell 1
       have z2:=HE.out.bx.cell 2
       have z3:=HE.out.bx.cell 3
       have z4:=HE.out.bx.cell 4
       have ka:IntKind.i64.wrap ((xa:Int)+(xb:Int))=((xa+xb:Nat):Int):=by rw[IntWalk.i64_in _ (by omega)];omega
       go_wp2_with (at_builtin;refine jK (base:=w13.heap.size) (j:=m) (B:=bG pf pn j) rfl (.tmp 127) (.tmp 129) rfl rfl rfl ?hown ?hg ?h63 ?hbase ?_)
       case hown=>exact HE.out.row.alloc _
       case hg=>rw[←HX.out.1];exact au.fresh _ _ _
       case h63=>omega
       case hbase=>have:=HE.out.gb.size;simp;omega
       intro v18 w18 ho18 hg18 hx18
       clear hx18
       have hal18:∀ cs,Below w17.heap.size w17 (w17.alloc (.cells cs 360)):=fun cs=>(Below.refl _ _).alloc (Nat.le_refl _) _
       have gb18:=zO (fA HE.out.gb (dn (hal18 _) _)) (HE.out.row.alloc _) hg18
       have rd18:=(HE.out.rd.call (hal18 _)).row (HE.out.row.alloc _) HT.out.2 hg18
       obtain⟨A18,c18,hv18,-,-⟩:=aA ho18
       subst hv18
       have H18:=zh (zN gb18 (zN rd18 ho18))
       clear gb18 rd18 ho18 hg18 z0 z1 z2 z3 z4 hal18
       go_wp2_with fail
       go_roundw
       case rel=>exact ⟨m+1,by omega,by rw[vX,←HX.out.1,Int.natCast_add],H18.out.1,by rw[←HT.out.1];exact H18.out.2.1,H18.out.2.2⟩
       case measure=>show nb-(m+1) < nb-m;omega
     ·obtain rfl:m=nb:=by omega
      have hR:=H13.out.1.call hgq
      have hr:eH wr y (sT nm pf pn k (j+1)):=by
       have h1:=hrq
       rw[H11.out.2.2,LZ,List.nil_append] at h1
       exact h1
      have hy13:y < w13.heap.size:=by obtain ⟨_,_,h1,-⟩:=H13.out.2;exact h1.lt
      have zp2:=hR.seg.seg.cell 2
      have hown:World.ownsMap wr Tryz.prog 9 eP M j (DB nm VS j):=hR.map
      have hkey:keyOf Tryz.prog 9 (.string s)=some (bP (nm j)):=by
       rw[HR.out.2.2.1]
       have:=(nV (HF.out.2.2.1.name hlt)).2
       exact kD (by unfold maxLen;omega)
      have hea:xa=(sO pf pn (j+1)).length:=by
       have h1:=Hz pf pn j
       rw[←H11.out.2.2,←hx] at h1
       exact h1
      have HI:=zh (zN hR (zN hr (zN hol (zN hy13 hea))))
      clear hR hr hol hy13 hea hgq hrq hbelq hx
      have hjm:j < maxLen:=by unfold maxLen;omega
      go_wp2_with (at_mapUpdate;refine wpList_mapUpdate_own _ rfl _ _ _ 351 rfl 9 358 law Tryz.underlying351 eP M j _ rfl hown hjm _ _ _ rfl rfl hkey (.held (.slice Al m cl)) [] rfl ?_;intro w19 hown19 hg19)
      have hR19:=HI.out.1.put (base:=w13.heap.size) (v:=.slice Al m cl) (by rw[←H11.out.2.2];exact HI.out.2.2.1) HI.out.2.2.2.1 hown19 hg19
      have hr19:=HI.out.2.1.Ir HI.out.1.map hg19
      have H19:=zh (zN hR19 hr19)
      clear hown hown19 hg19 hR19 hr19 zp2 hkey
      go_wp2_with fail
      go_roundw
      case rel=>exact ⟨j+1,_,by omega,by go_num,by rw[HI.out.2.2.2.2],H19.out⟩
      case measure=>simp[intOf]<;>omega
  ·obtain rfl:j=k:=by omega
   have hr':eH wr y []:=by
    have h1:=hr
    rw[Sd] at h1
    exact h1
   have hea:=HF.out.2.1.ol
   rw[←HF.out.2.2.2.2.2.2.2] at hea
   rw[←hea]
   obtain⟨A0,c0,hb0,-⟩:=id hr'
   have zy0:wr.cell? ⟨y,0,none⟩=some (.slice A0 0 c0):=hb0.cell 0
   have HR:=zh (zN hR hr')
   clear hR hr hr' hea hb0
   go_wp2_with fail
   refine(je wr y).mono ?_
   rintro e w22 ⟨rfl,hb22⟩
   have hr22:=HR.out.2.call hb22
   obtain⟨A2,c2,hb2,-⟩:=id hr22
   have zy1:w22.cell? ⟨y,1,none⟩=some Value.nilIface:=hb2.cell 1
   have hs22:=(HR.out.1.done HF.out.2.2.1 HC.out.1 HC.out.2).below hb22
   have H22:=zh (zN hs22 (HR.out.1.bel.trans (hb22.mono HR.out.1.bel.size)))
   clear zy0 hr22 hb2 hs22 hb22
   go_wp2_with fail
   refine(V.M8 _ w22).mono ?_
   rintro e w23 ⟨rfl,rfl⟩
   go_wp2_with fail
   go_ret2
   exact⟨p,M,o,A5,c5,_,_,rfl,H22.out.1,H22.out.2⟩
end
section
open Go.RowKit Go.Maps
def P9(w:World)(d M:Nat)(p:ByteArray→Option FS)(room T G N:Nat)(L:List Pt)(e:Ending)(w':World): Prop:=
 e=.returned (.tuple #[.agg #[.string (bU 115 N),.int .i64 (j4 L),.int .i64 (j6 L),.int .i64 (L.length:Nat)],.int .i64 0])∧∃ p',bq w' d M p' room (T+5000) (G+2)∧DStep w w' d M p p'∧fb p'=aS (fb p) (bU 115 N) (pW L)
def zA(x:Nat)(cs:Array Value)(wx:World): Prop:=au wx x 164 cs
theorem Nz(w:World)(st d M:Nat)(p:ByteArray→Option FS)(room T G N R q:Nat)(s:Bool)(la lg:Int)(A0:Option Addr)(K0 cp0:Nat)(A:Option Addr)(c:Nat)(pa:Nat→Option Addr)(pc:Nat→Nat)(L:List Pt)(hst:au w st 128 (nG d N R q s la lg A0 K0 cp0))(hsf:¬ aL d M p st)(hD:bq w d M p room T G)(hf:fb p (bU 115 N)=none)(hP:PartsAt w A 1 lG pa (fun _=>L.length) pc (fun _=>fJ L))(hL:qw L)(hv:V.cu w)(hN:N < 1000000)(hT:T+5000≤1048576)(hr1:1048576≤room)(hr:room≤1073741824)(hG:G+1 < 512):
  Calls Tryz.prog 90 #[.pointer (some ⟨st,0,none⟩),.slice A 1 c] w (P9 w d M p room T G N L):=by
 obtain⟨x,hx⟩:∃ x,x=w.heap.size:=⟨_,rfl⟩
 have o0:=Own.eX w hx 164 #[.string ByteArray.empty,.int .i64 0,.int .i64 0,.int .i64 0]
 have hlb:=hL.len
 have hll:=hL.le
 have hl0:=hL.pos
 have HD:=zh (zN hst (zN hsf (zN hD (zN hf (zN hP (zN hL (zN hv o0)))))))
 clear hst hsf hD hf hP hL hv o0
 go_enter Tryz.func90,Tryz.ntmps90
 go_wp2_with fail
 rw[←hx]
 clear hx
 refine bC (Own w [(x,164,#[.string ByteArray.empty,.int .i64 0,.int .i64 0,.int .i64 0])]) HD.out.2.2.2.2.2.2.2 ?_
 intro w1 h1
 have hb:=KO w1 A 1 c lG pa (fun _=>L.length) pc (fun _=>fJ L) (HD.out.2.2.2.2.1.below h1.bel) HD.out.2.2.2.2.2.1.small
 refine hb.mono ?_
 clear hb
 rintro e w2 ⟨v2,rfl,ho2,hb2⟩
 have hfile:=HD.out.2.2.2.2.2.1.file
 rw[hfile.1]
 obtain⟨bs,hbs⟩:∃ bs,bs=pW L:=⟨_,rfl⟩
 have ho2':w2.ownsRow w1.heap.size 5 1 v2 bs.length (bs.map V.aI):=by rw[hbs];exact ho2
 obtain⟨n2,hn2⟩:∃ n,n=bs.length:=⟨_,rfl⟩
 rw[←hn2] at ho2'
 rw[←hbs,←hn2] at hlb
 obtain⟨A2,c2,hv2,hc2,-⟩:=aA ho2'
 subst hv2
 have h2:=h1.call hb2
 have H2:=zh (zN h2 (zN ho2' (zN hn2 (zN hbs (aU ho2' h1.bel.size)))))
 clear ho2 ho2' hb2 h1 h2 hn2 hbs
 go_wp2_with fail
 refine(wI w2 A2 n2 c2 bs _ lG (fun _=>fJ L) (fun _=>L.length) 1 (by rw[H2.out.2.2.2.1];exact hfile.2.2) hfile.2.1 H2.out.2.2.1.symm (V.dN (by have:=H2.out.2.1;rw[H2.out.2.2.1] at this ⊢;exact this)) hc2 (V.iC H2.out.2.1).2 (HD.out.2.2.2.2.2.2.1.below H2.out.1.bel)).mono ?_
 rintro e w3 ⟨p3,M3,o3,Ab3,cb3,cn3,VS3,rfl,hseg3,hb3⟩
 have h3:=H2.out.1.call hb3
 have z1:w3.cell? ⟨st,1,none⟩=some (.int .i64 (N:Nat)):=dw h3.bel (HD.out.1.cell 1)
 have H3:=zh (zN h3 (zN hseg3 (zN hfile (V.bH H2.out.2.2.2.2 hb3))))
 clear h3 hseg3 hb3 hfile
 go_wp2_with fail
 clear z1
 refine(Kn w3 N hN).mono ?_
 rintro e w4 ⟨rfl,hb4⟩
 have H4:=zh (zN (H3.out.1.call hb4) (zN (H3.out.2.1.below hb4) (V.bH H3.out.2.2.2 hb4)))
 clear hb4
 go_wp2_with fail
 refine(zQ w4 p3 _ lG (fun _=>fJ L) (fun _=>L.length) 1 M3 o3 Ab3 cb3 cn3 VS3 H4.out.2.1 H3.out.2.2.1.2.1).mono ?_
 rintro e w5 ⟨rfl,hb5⟩
 rw[show oQ (fun _=>L.length) 1=L.length by show 0+L.length=_;omega]
 obtain⟨nb,hnb⟩:∃ a,a=bU 115 N:=⟨_,rfl⟩
 obtain⟨ln,hln⟩:∃ a,a=L.length:=⟨_,rfl⟩
 rw[←hnb,←hln]
 have H5:=zh (zN (H4.out.1.call hb5) (zN (H4.out.2.1.below hb5) (zN (V.bH H4.out.2.2 hb5) (zN hnb hln))))
 clear hb5 hnb hln
 go_upto_region 6 with (fail)
 obtain⟨y,hy⟩:∃ y,y=w5.heap.size:=⟨_,rfl⟩
 rw[←hy]
 have al:Below w5.heap.size w5 (w5.alloc (.cells #[.string nb,.int .i64 0,.int .i64 0,.int .i64 (ln:Nat)] 164)):=(Below.refl _ _).alloc (Nat.le_refl _) _
 refine aH (fun wx=>Own w [(x,164,#[.string ByteArray.empty,.int .i64 0,.int .i64 0,.int .i64 0]),(y,164,#[.string nb,.int .i64 0,.int .i64 0,.int .i64 (ln:Nat)])] wx∧Below w5.heap.size w5 wx) ⟨H5.out.1.alloc hy _ _,al⟩ ?_
 rintro w6 ⟨h6,b6⟩
 have H6:=zh (zN h6 (zN (H5.out.2.1.below b6) (V.bH H5.out.2.2.1 b6)))
 clear h6 b6 al hy
 go_wp2_with fail
 have hF:=Ah HD.out.2.2.2.2.2.1.sm
 refine(CB w6 p3 _ lG (fun _=>fJ L) (fun _=>L.length) M3 o3 Ab3 cb3 cn3 VS3 H6.out.2.1 H3.out.2.2.1.2.1 (by show 0 < L.length;omega) (by show L.length≤1000;omega) (j4 L) (j6 L) rfl rfl ⟨by have:=(hF 0).1;show _≤(fJ L 0).t;omega,by have:=(hF 0).1;show (fJ L 0).t≤_;omega⟩ ⟨by have:=(hF (L.length-1)).1;show _≤(fJ L (L.length-1)).t;omega,by have:=(hF (L.length-1)).1;show (fJ L (L.length-1)).t≤_;omega⟩).mono ?_
 clear hF
 rintro e w7 ⟨rfl,hb7⟩
 obtain⟨ft,hft⟩:∃ a,a=j4 L:=⟨_,rfl⟩
 obtain⟨lt,hlt⟩:∃ a,a=j6 L:=⟨_,rfl⟩
 rw[←hft,←hlt]
 have h7:=H6.out.1.call hb7
 have H7:=zh (zN h7 (zN (V.bH H6.out.2.2 hb7) (zN hft hlt)))
 have z1:=h7.cell 1 1 rfl rfl
 have z2:=h7.cell 1 2 rfl rfl
 have zf:=h7.free 1 rfl
 clear h7 hb7 hft hlt
 obtain⟨w8,hw8⟩:∃ w8,w8=((w7.setCell ⟨y,1,none⟩ (.int .i64 ft)).setCell ⟨y,2,none⟩ (.int .i64 lt)):=⟨_,rfl⟩
 have o8:Own w [(x,164,#[.string ByteArray.empty,.int .i64 0,.int .i64 0,.int .i64 0]),(y,164,#[.string nb,.int .i64 ft,.int .i64 lt,.int .i64 (ln:Nat)])] w8:=by rw[hw8];exact (H7.out.1.set 1 1 rfl _).set 1 2 rfl _
 have hrf:∀ g,(Value.slice A2 n2 c2).ownBlock=some g→w.heap.size≤g∧g≠x∧g≠y∧¬ aL d M p g:=fun g hg=>by
  have h1:=own_ne H7.out.2.1 (H7.out.1.get 0 rfl) (by decide)
  have h2:=own_ne H7.out.2.1 (H7.out.1.get 1 rfl) (by decide)
  have h3:=(H7.out.2.1.lt g hg).1
  exact⟨h3,fun e=>h1 (by rw[hg,e]),fun e=>h2 (by rw[hg,e]),HD.out.2.2.1.fresh h3⟩
 have r8:w8.ownsRow w.heap.size 5 1 (.slice A2 n2 c2) n2 (bs.map V.aI):=aF (S:=fun q=>q=y) H7.out.2.1 (by rw[hw8];exact ((Keeps.refl (fun q=>q=y) w7).setCell (fun _=>rfl) _).setCell (fun _=>rfl) _) (fun g hg e=>(hrf g hg).2.2.1 e)
 have H8:=zh (zN o8 (zN hrf r8))
 have HW8:=zh hw8
 clear hrf r8 hw8
 go_upto_region 7 with (rw[←HW8.out])
 clear z1 z2 zf
 have hS:zA y #[.string nb,.int .i64 ft,.int .i64 lt,.int .i64 (ln:Nat)] w8.drew:=o8.drew.get 1 rfl
 clear o8
 have hS:(zA y #[.string nb,.int .i64 ft,.int .i64 lt,.int .i64 (ln:Nat)]) (w8.drew):=hS
 refine av (zA y #[.string nb,.int .i64 ft,.int .i64 lt,.int .i64 (ln:Nat)]) (by kernel_rfl) hS ?_
 refine zB [0,1,2,3,4] ?_
 iterate 5 (refine zV ?_ ?_ hS ?_;rotate_left;(intro w' hSw;have q0:w'.cell? ⟨y,0,none⟩=some (.string nb):=hSw.cell 0;have q1:w'.cell? ⟨y,1,none⟩=some (.int .i64 ft):=hSw.cell 1;have q2:w'.cell? ⟨y,2,none⟩=some (.int .i64 lt):=hSw.cell 2;have q3:w'.cell? ⟨y,3,none⟩=some (.int .i64 (ln:Nat)):=hSw.cell 3;go_simp<;>with_reducible rfl);try simp only[zP])
 refine zE ?_
 refine zC 5 fun K HK=>?_
 go_simp
 have hnb:=H5.out.2.2.2.1
 refine(FM w8.drew st d M p room T G nb A2 n2 c2 bs (dw H8.out.1.drew.bel (HD.out.1.cell 0)) HD.out.2.1 (HD.out.2.2.1.call H8.out.1.drew.bel) (by rw[hnb];exact HD.out.2.2.2.1) H2.out.2.2.1.symm (fun hn=>by
  have h:=F.rD H2.out.2.2.1.symm (V.bH H8.out.2.2 (Below.refl _ _).drew)
  obtain⟨b,off,hA,hd,hc⟩:=h hn
  exact⟨b,off,hA,⟨World.block_lt_of_cell? _ _ (hc 0 hn),(H8.out.2.1 b hd).2.2.2⟩,hc⟩) (by omega) hr1 hr hG (by rw[hnb,dZ];omega) (by rw[hnb,dZ];omega)).mono ?_
 rintro e w9 ⟨rfl,p9,hd9,hs9,hf9⟩
 clear hnb
 have hx9:au w9 x 164 #[.string ByteArray.empty,.int .i64 0,.int .i64 0,.int .i64 0]:=(H8.out.1.drew.get 0 rfl).keeps hs9.keep (HD.out.2.2.1.fresh (H8.out.1.geq 0 rfl))
 have hy9:au w9 y 164 #[.string nb,.int .i64 ft,.int .i64 lt,.int .i64 (ln:Nat)]:=(H8.out.1.drew.get 1 rfl).keeps hs9.keep (HD.out.2.2.1.fresh (H8.out.1.geq 1 rfl))
 have hxf9:¬ aL d M p9 x:=hs9.rO (H8.out.1.drew.get 0 rfl).lt (HD.out.2.2.1.fresh (H8.out.1.geq 0 rfl))
 have hxy:y≠x:=H8.out.1.ne (i:=1) (j:=0) rfl rfl (by omega)
 have H9:=zh (zN hd9 (zN hs9 (zN hf9 (zN hx9 (zN hy9 (zN hxf9 hxy))))))
 clear hd9 hs9 hf9 hxf9
 go_wp2_with fail
 refine HK.out.zt (zA y #[.string nb,.int .i64 ft,.int .i64 lt,.int .i64 (ln:Nat)]) (fun _ h=>h) (hy9) ?_
 clear HK hS
 intro hS
 try simp only[zP]
 have y0:w9.cell? ⟨x,0,none⟩=some (.string ByteArray.empty):=hx9.cell 0
 have y1:w9.cell? ⟨x,1,none⟩=some (.int .i64 0):=hx9.cell 1
 have y2:w9.cell? ⟨x,2,none⟩=some (.int .i64 0):=hx9.cell 2
 have y3:w9.cell? ⟨x,3,none⟩=some (.int .i64 0):=hx9.cell 3
 have yf:=hx9.frozen
 obtain⟨w10,hw10⟩:∃ w8,w8=((((w9.setCell ⟨x,0,none⟩ (.string nb)).setCell ⟨x,1,none⟩ (.int .i64 ft)).setCell ⟨x,2,none⟩ (.int .i64 lt)).setCell ⟨x,3,none⟩ (.int .i64 (ln:Nat))):=⟨_,rfl⟩
 have hx10:au w10 x 164 #[.string nb,.int .i64 ft,.int .i64 lt,.int .i64 (ln:Nat)]:=by rw[hw10];exact (((hx9.set 0 _).set 1 _).set 2 _).set 3 _
 have k10:Keeps (fun q=>q=x) w9 w10:=by rw[hw10];exact (((((Keeps.refl (fun q=>q=x) w9).setCell (fun _=>rfl) _).setCell (fun _=>rfl) _).setCell (fun _=>rfl) _).setCell (fun _=>rfl) _)
 have H10:=zh (zN hx10 (zN k10 (H9.out.2.2.2.2.1.keeps k10 H9.out.2.2.2.2.2.2)))
 have HW10:=zh hw10
 clear hx9 hy9 hxy hx10 k10 hw10
 refine zC 6 fun K HK=>?_
 go_simp
 rw[←HW10.out]
 go_wp2_with fail
 refine HK.out.zt (zA y #[.string nb,.int .i64 ft,.int .i64 lt,.int .i64 (ln:Nat)]) (fun _ h=>h) (H10.out.2.2) ?_
 clear HK hS
 intro hS
 try simp only[zP]
 refine zT 7 ?_ ?_ hS ?_
 rotate_left
 ·(intro w' hSw;go_simp<;>with_reducible rfl)
 try simp only[zP]
 refine zD ?_
 try simp only[zP]
 clear y0 y1 y2 y3 yf hS
 have z0_0:w10.cell? ⟨x,0,none⟩=some (.string nb):=H10.out.1.cell 0
 have z0_1:w10.cell? ⟨x,1,none⟩=some (.int .i64 ft):=H10.out.1.cell 1
 have z0_2:w10.cell? ⟨x,2,none⟩=some (.int .i64 lt):=H10.out.1.cell 2
 have z0_3:w10.cell? ⟨x,3,none⟩=some (.int .i64 (ln:Nat)):=H10.out.1.cell 3
 go_wp2_with fail
 refine bodyPost_ret (v:=.tuple #[.agg #[.string nb,.int .i64 ft,.int .i64 lt,.int .i64 (ln:Nat)],.int .i64 0]) (by simp[results,Tryz.results90,go_sem,z0_0,z0_1,z0_2,z0_3]) rfl ?_
 refine⟨by rw[H5.out.2.2.2.1,H7.out.2.2.1,H7.out.2.2.2,H5.out.2.2.2.2],p9,(H9.out.1.keep H10.out.2.1 (fun q hq e=>H9.out.2.2.2.2.2.1 (by rw[←e];exact hq))).more (by have:=H2.out.2.2.1;omega) (Nat.le_refl _),((DStep.of_below H8.out.1.drew.bel).trans H9.out.2.1).locals H10.out.2.1 (H8.out.1.geq 0 rfl),by rw[H9.out.2.2.1,H5.out.2.2.2.1,H2.out.2.2.2.1]⟩
end
section
open Go.RowKit Go.Maps
theorem DStep.Hr{S:Nat→Prop}{w w1 w2:World}{d M:Nat}{p p1:ByteArray→Option FS}(h:DStep w w1 d M p p1)(hk:Keeps S w1 w2)(hx:∀ q,S q→w.heap.size≤q): DStep w w2 d M p p1:=
 ⟨h.keep.trans hk (fun q hq e=>by have:=hx q e;omega),h.far⟩
structure xQ(w wx:World)(st d M:Nat)(p p':ByteArray→Option FS)(room T G:Nat)(so:Array Value)(y:Nat)(cs:Array Value)(A1:Option Addr)(K c1:Nat)(xs:List Value): Prop where
 dt:bq wx d M p' room T G
 stp:DStep w wx d M p p'
 bs:au wx st 128 so
 by_:au wx y 92 cs
 row:wx.ownsRow w.heap.size 164 4 (.slice A1 K c1) K xs
 nfy:¬ aL d M p' y
 nfs:¬ aL d M p' st
 nfr:∀ g,(Value.slice A1 K c1).ownBlock=some g→¬ aL d M p' g
 yw:w.heap.size≤y
namespace xQ
variable {w wx wy:World} {st d M:Nat} {p p':ByteArray→Option FS} {room T G:Nat} {so:Array Value} {y:Nat} {cs:Array Value} {A1:Option Addr} {K c1:Nat} {xs:List Value}
theorem call(h:xQ w wx st d M p p' room T G so y cs A1 K c1 xs)(hb:Below wx.heap.size wx wy): xQ w wy st d M p p' room T G so y cs A1 K c1 xs:=
 ⟨h.dt.call hb,h.stp.below hb,h.bs.below hb h.bs.lt,h.by_.below hb h.by_.lt,aF h.row (Keeps.of_below (S:=fun _=>False) hb) (fun _ _ h=>h),h.nfy,h.nfs,h.nfr,h.yw⟩
theorem TB(h:xQ w wx st d M p p' room T G so y cs A1 K c1 xs)(i:Nat)(v:Value)(hw:wy=wx.setCell ⟨y,i,none⟩ v): xQ w wy st d M p p' room T G so y (cs.setIfInBounds i v) A1 K c1 xs:=by
 have hk:Keeps (fun q=>q=y) wx wy:=by rw[hw];exact (Keeps.refl (fun q=>q=y) wx).setCell (fun _=>rfl) _
 refine⟨h.dt.keep hk (fun q hq e=>h.nfy (by rw[←e];exact hq)),h.stp.Hr hk (fun q e=>by rw[e];exact h.yw),h.bs.keeps hk (h.bs.ne h.by_ (by decide)),by rw[hw];exact h.by_.set i v,aF h.row hk (fun g hg e=>own_ne h.row h.by_ (by decide) (by rw[hg,e])),h.nfy,h.nfs,h.nfr,h.yw⟩
theorem app{A2:Option Addr}{c2 m:Nat}{ys:List Value}(h:xQ w wx st d M p p' room T G so y cs A1 K c1 xs)(hr:wy.ownsRow w.heap.size 164 4 (.slice A2 m c2) m ys)(hg:wx.grownBy wy (Value.slice A1 K c1).ownBlock)(hx:(Value.slice A2 m c2).ownBlock=(Value.slice A1 K c1).ownBlock∨(Value.slice A2 m c2).ownBlock=some wx.heap.size): xQ w wy st d M p p' room T G so y cs A2 m c2 ys:=by
 have hk:Keeps (fun q=>(Value.slice A1 K c1).ownBlock=some q) wx wy:=(Keeps.refl _ _).grown hg (fun k e _=>e)
 refine⟨h.dt.keep hk (fun q hq e=>h.nfr q e hq),h.stp.Hr hk (fun q e=>(h.row.lt q e).1),h.bs.keeps hk (fun e=>own_ne h.row h.bs (by decide) e),h.by_.keeps hk (fun e=>own_ne h.row h.by_ (by decide) e),hr,h.nfy,h.nfs,fun g hg2=>?_,h.yw⟩
 rcases hx with hx | hx
 ·exact h.nfr g (by rw[←hx];exact hg2)
 ·rw[hx] at hg2
  injection hg2 with hg2
  exact h.dt.fresh (by omega)
end xQ
def fZ(pl:Nat→List Pt)(K:Nat)(L:List Pt): Nat→List Pt:=fun j=>if j=K then L else pl j
theorem Q6(pl:Nat→List Pt)(K:Nat)(L:List Pt): fV (fZ pl K L) (K+1)=fV pl K ++ [.string (bU 115 K),.int .i64 (j4 L),.int .i64 (j6 L),.int .i64 (L.length:Nat)]:=by
 show fV (fZ pl K L) K ++ [.string (bU 115 K),.int .i64 (j4 (fZ pl K L K)),.int .i64 (j6 (fZ pl K L K)),.int .i64 ((fZ pl K L K).length:Nat)]=_
 rw[CY K (pl:=fZ pl K L) (pl':=pl) (fun j hj=>by unfold fZ;rw[if_neg (by omega)])]
 rw[show fZ pl K L K=L by unfold fZ;rw[if_pos rfl]]
structure Iz(w w':World)(st d M:Nat)(p p':ByteArray→Option FS)(A A':Option Addr): Prop where
 keep:Keeps (fun q=>aL d M p q∨q=st) w w'
 dfar:∀ q,q < w.heap.size→aL d M p' q→aL d M p q
 sfar:∀ q,q < w.heap.size→mP st A' q→q=st
 dis:∀ q,mP st A' q→¬ aL d M p' q
def Cu(w:World)(st d M:Nat)(p:ByteArray→Option FS)(room T G R q:Nat)(s:Bool)(la lg:Int)(A:Option Addr)(K:Nat)(pl:Nat→List Pt)(L:List Pt)(e:Ending)(w':World): Prop:=
 e=.returned (.int .i64 0)∧∃ (p':ByteArray→Option FS) (bs:List Nat) (A':Option Addr) (cp':Nat),bq w' d M p' room (T+5000+(100+53*(K+1))) (G+5)∧fb p'=aS (aS (fb p) (bU 115 K) (pW L)) rQ bs∧mX w' st d (K+1) R q s la lg A' (K+1) cp' (fZ pl K L)∧Iz w w' st d M p p' A A'
theorem I5(w:World)(st d M:Nat)(p:ByteArray→Option FS)(room T G R q:Nat)(s:Bool)(la lg:Int)(A:Option Addr)(Kf cp:Nat)(pl:Nat→List Pt)(Ap:Option Addr)(c:Nat)(pa:Nat→Option Addr)(pc:Nat→Nat)(L:List Pt)(R2 q2:Nat)(s2:Bool)(la2:Int)(h:mX w st d Kf R q s la lg A Kf cp pl)(hdis:∀ g,mP st A g→¬ aL d M p g)(hD:bq w d M p room T G)(hN:fb p iP=none)(hf:fb p (bU 115 Kf)=none)(hP:PartsAt w Ap 1 lG pa (fun _=>L.length) pc (fun _=>fJ L))(hL:qw L)(hpl:nu (fZ pl Kf L) (Kf+1))(hv:V.cu w)(hgl:¬ aL d M p 0)(hm:V.dh s2 la2 lg=true)(hs:s=false∨(s2=true∧la≤la2))(hR:R≤R2)(hR2:R2≤1000000)(hq:q≤q2)(hq2:q2≤1000000)(hK:Kf < 400)(hT:T+5000+(100+53*(Kf+1))≤1048576)(hr1:1048576≤room)(hr:room≤1073741824)(hG:G+4 < 512):
  Calls Tryz.prog 86 #[.pointer (some ⟨st,0,none⟩),.slice Ap 1 c,.int .i64 (R2:Nat),.int .i64 (q2:Nat),.agg #[.bool s2,.int .i64 la2,.int .i64 lg]] w (Cu w st d M p room T G R2 q2 s2 la2 lg A Kf pl L):=by
 obtain⟨x,hx⟩:∃ x,x=w.heap.size:=⟨_,rfl⟩
 have o0:=Own.eX w hx 79 #[.bool s2,.int .i64 la2,.int .i64 lg]
 have nt:∀ w:World,(Op.unary .not (.bool true)).run Tryz.prog w=.ok (.bool false) w:=fF
 have HD:=zh (zN h (zN hdis (zN hD (zN hN (zN hf (zN hP (zN hL (zN hpl (zN hv (zN hm (zN hs o0)))))))))))
 clear h hdis hD hN hf hP hL hpl hv hm hs o0
 go_enter Tryz.func86,Tryz.ntmps86
 go_wp2_with fail
 rw[←hx]
 clear hx
 refine bC (Own w [(x,79,#[.bool s2,.int .i64 la2,.int .i64 lg])]) HD.out.2.2.2.2.2.2.2.2.2.2.2 ?_
 intro w1 h1
 refine(rz w1 st d ((HD.out.1.call h1.bel).blk.cell 0)).mono ?_
 rintro e w2 ⟨rfl,hb2⟩
 have h2:=h1.call hb2
 have H2:=zh h2
 have hS:=h2.drew
 clear h1 h2 hb2
 go_wp2_with fail
 have d1:decide ((R2:Int) < (R:Int))=false:=by simp;omega
 have d1':decide (R2 < R)=false:=by simp;omega
 have d2:decide ((1152921504606846976:Int) < (R2:Int))=false:=by simp;omega
 have d2':decide (1152921504606846976 < R2)=false:=by simp;omega
 have d3:decide ((q2:Int) < (q:Int))=false:=by simp;omega
 have d3':decide (q2 < q)=false:=by simp;omega
 have d4:decide ((1152921504606846976:Int) < (q2:Int))=false:=by simp;omega
 have d4':decide (1152921504606846976 < q2)=false:=by simp;omega
 have hS:(Own w [(x,79,#[.bool s2,.int .i64 la2,.int .i64 lg])]) (w2.drew):=hS
 refine av (Own w [(x,79,#[.bool s2,.int .i64 la2,.int .i64 lg])]) (by kernel_rfl) hS ?_
 refine zB [0,1,2,3,4,5,6,7,8,9,10,11,12,13,14,15,16,17,18,19,20,21,22,23,24] ?_
 iterate 25 (refine zV ?_ ?_ hS ?_;rotate_left;(intro w' hSw;have u2:w'.cell? ⟨st,2,none⟩=some (.int .i64 (R:Nat)):=(HD.out.1.call hSw.bel).blk.cell 2;have u3:w'.cell? ⟨st,3,none⟩=some (.int .i64 (q:Nat)):=(HD.out.1.call hSw.bel).blk.cell 3;go_simp<;>with_reducible rfl);try simp only[zP])
 refine zE ?_
 refine zB [25,26,27,28,29,30] ?_
 iterate 6 (refine zV ?_ ?_ hS ?_;rotate_left;(intro w' hSw;have u4:w'.cell? ⟨st,4,none⟩=some (.bool s):=(HD.out.1.call hSw.bel).blk.cell 4;have u5:w'.cell? ⟨st,5,none⟩=some (.int .i64 la):=(HD.out.1.call hSw.bel).blk.cell 5;have u6:w'.cell? ⟨st,6,none⟩=some (.int .i64 lg):=(HD.out.1.call hSw.bel).blk.cell 6;have x0:=hSw.cell 0 0 rfl rfl;have x1:=hSw.cell 0 1 rfl rfl;have x2:=hSw.cell 0 2 rfl rfl;go_simp<;>with_reducible rfl);try simp only[zP])
 refine zE ?_
 refine zC 31 fun K HK=>?_
 go_simp
 refine(FE w2.drew s la lg s2 la2 HD.out.2.2.2.2.2.2.2.2.2.1 HD.out.2.2.2.2.2.2.2.2.2.2.1 (HD.out.2.2.2.2.2.2.2.2.1.below hS.bel)).mono ?_
 rintro e w3 ⟨rfl,hb3⟩
 have h3:=hS.call hb3
 have H3:=zh h3
 clear hb3
 go_wp2_with fail
 refine HK.out.zt (Own w [(x,79,#[.bool s2,.int .i64 la2,.int .i64 lg])]) (fun _ h=>h) (h3) ?_
 clear HK hS
 intro hS
 try simp only[zP]
 refine zB [32,33,34] ?_
 iterate 3 (refine zV ?_ ?_ hS ?_;rotate_left;(intro w' hSw;go_simp<;>with_reducible rfl);try simp only[zP])
 refine zE ?_
 refine zD ?_
 try simp only[zP]
 clear d1 d1' d2 d2' d3 d3' d4 d4' hS h3
 have s3:=HD.out.1.call H3.out.bel
 have z0_0:w3.cell? ⟨st,1,none⟩=some (.int .i64 (Kf:Nat)):=s3.blk.cell 1
 have z0_1:w3.cell? ⟨st,2,none⟩=some (.int .i64 (R:Nat)):=s3.blk.cell 2
 have z0_2:w3.cell? ⟨st,3,none⟩=some (.int .i64 (q:Nat)):=s3.blk.cell 3
 have z0_3:w3.cell? ⟨st,4,none⟩=some (.bool s):=s3.blk.cell 4
 have z0_4:w3.cell? ⟨st,5,none⟩=some (.int .i64 la):=s3.blk.cell 5
 have z0_5:w3.cell? ⟨st,6,none⟩=some (.int .i64 lg):=s3.blk.cell 6
 have z0_6:w3.cell? ⟨st,7,none⟩=some (.slice A Kf cp):=s3.blk.cell 7
 have z0_7:w3.cell? ⟨st,8,none⟩=some (.slice none 0 0):=s3.blk.cell 8
 have hc:=xI w3 0 Kf R q s la lg A Kf cp pl s3.row s3.nil (by omega)
 unfold aP at hc
 have HC:=zh hc
 clear s3 hc
 go_wp2_with fail
 clear z0_0 z0_1 z0_2 z0_3 z0_4 z0_5 z0_6 z0_7
 refine HC.out.mono ?_
 clear HC
 rintro e w4 ⟨A4,c4,rfl,hr4,-,hb4⟩
 have H4:=zh (zN (H3.out.call hb4) (aU hr4 H3.out.size))
 clear hr4 hb4
 unfold aP
 go_upto_region 6 with (fail)
 obtain⟨y,hy⟩:∃ y,y=w4.heap.size:=⟨_,rfl⟩
 rw[←hy]
 have al:Below w4.heap.size w4 (w4.alloc (.cells (aP Kf R q s la lg A4 Kf c4) 92)):=(Below.refl _ _).alloc (Nat.le_refl _) _
 refine aH (fun wx=>Own w [(x,79,#[.bool s2,.int .i64 la2,.int .i64 lg]),(y,92,aP Kf R q s la lg A4 Kf c4)] wx∧wx.ownsRow w.heap.size 164 4 (.slice A4 Kf c4) Kf (fV pl Kf)) ⟨H4.out.1.alloc hy _ _,aF H4.out.2 (Keeps.of_below (S:=fun _=>False) al) (fun _ _ h=>h)⟩ ?_
 rintro w5 ⟨o5,r5⟩
 have H5:=zh (zN o5 r5)
 have hS:=o5.drew.sub (List.Sublist.cons_cons _ (List.nil_sublist _))
 clear al hy o5 r5
 have y1:=H5.out.1.drew.cell 1 1 rfl rfl
 have yf:=H5.out.1.drew.free 1 rfl
 obtain⟨w6,hw6⟩:∃ w6,w6=(w5.setCell ⟨y,1,none⟩ (.int .i64 (R2:Nat))).drew:=⟨_,rfl⟩
 have o6:Own w [(x,79,#[.bool s2,.int .i64 la2,.int .i64 lg]),(y,92,aP Kf R2 q s la lg A4 Kf c4)] w6:=by rw[hw6];exact (H5.out.1.set 1 1 rfl _).drew
 obtain⟨w7,hw7⟩:∃ wz,wz=w6.setCell ⟨y,2,none⟩ (.int .i64 (q2:Nat)):=⟨_,rfl⟩
 have o7:Own w [(x,79,#[.bool s2,.int .i64 la2,.int .i64 lg]),(y,92,aP Kf R2 q2 s la lg A4 Kf c4)] w7:=by rw[hw7];exact o6.set 1 2 rfl _
 obtain⟨w8,hw8⟩:∃ wz,wz=(((w7.setCell ⟨y,3,none⟩ (.bool s2)).setCell ⟨y,4,none⟩ (.int .i64 la2)).setCell ⟨y,5,none⟩ (.int .i64 lg)):=⟨_,rfl⟩
 have o8:Own w [(x,79,#[.bool s2,.int .i64 la2,.int .i64 lg]),(y,92,aP Kf R2 q2 s2 la2 lg A4 Kf c4)] w8:=by rw[hw8];exact ((o7.set 1 3 rfl _).set 1 4 rfl _).set 1 5 rfl _
 have k8:Keeps (fun q=>q=y) w5 w8:=by rw[hw8,hw7,hw6];exact (((((((Keeps.refl (fun q=>q=y) w5).setCell (fun _=>rfl) _).drew).setCell (fun _=>rfl) _).setCell (fun _=>rfl) _).setCell (fun _=>rfl) _).setCell (fun _=>rfl) _)
 have r8:=aF H5.out.2 k8 (fun g hg e=>own_ne H5.out.2 (H5.out.1.get 1 rfl) (by decide) (by rw[hg,e]))
 have H8:=zh (zN o6 (zN o7 (zN o8 r8)))
 have HW6:=zh hw6
 have HW7:=zh hw7
 have HW8:=zh hw8
 clear o6 o7 o8 k8 r8 hw6 hw7 hw8
 have hS:(Own w [(x,79,#[.bool s2,.int .i64 la2,.int .i64 lg])]) (w5.drew):=hS
 refine av (Own w [(x,79,#[.bool s2,.int .i64 la2,.int .i64 lg])]) (by kernel_rfl) hS ?_
 refine zB [0,1,2,3] ?_
 iterate 4 (refine zV ?_ ?_ hS ?_;rotate_left;(intro w' hSw;have x0:=hSw.cell 0 0 rfl rfl;have x1:=hSw.cell 0 1 rfl rfl;have x2:=hSw.cell 0 2 rfl rfl;go_simp<;>with_reducible rfl);try simp only[zP])
 refine zE ?_
 refine zC 4 fun K HK=>?_
 go_simp
 rw[←HW6.out]
 go_wp2_with fail
 refine HK.out.zt (Own w [(x,79,#[.bool s2,.int .i64 la2,.int .i64 lg])]) (fun _ h=>h) (H8.out.1.sub (List.Sublist.cons_cons _ (List.nil_sublist _))) ?_
 clear HK hS
 intro hS
 try simp only[zP]
 clear y1 yf
 refine zT 5 ?_ ?_ hS ?_
 rotate_left
 ·(intro w' hSw;go_simp<;>with_reducible rfl)
 try simp only[zP]
 have y1:=H8.out.1.cell 1 2 rfl rfl
 have yf:=H8.out.1.free 1 rfl
 refine zC 6 fun K HK=>?_
 go_simp
 rw[←HW7.out]
 go_wp2_with fail
 refine HK.out.zt (Own w [(x,79,#[.bool s2,.int .i64 la2,.int .i64 lg])]) (fun _ h=>h) (H8.out.2.1.sub (List.Sublist.cons_cons _ (List.nil_sublist _))) ?_
 clear HK hS
 intro hS
 try simp only[zP]
 clear y1 yf
 refine zT 7 ?_ ?_ hS ?_
 rotate_left
 ·(intro w' hSw;go_simp<;>with_reducible rfl)
 try simp only[zP]
 have y1:=H8.out.2.1.cell 1 3 rfl rfl
 have y2:=H8.out.2.1.cell 1 4 rfl rfl
 have y3:=H8.out.2.1.cell 1 5 rfl rfl
 have yf:=H8.out.2.1.free 1 rfl
 refine zC 8 fun K HK=>?_
 go_simp
 rw[←HW8.out]
 go_wp2_with fail
 refine HK.out.zt (Own w [(x,79,#[.bool s2,.int .i64 la2,.int .i64 lg])]) (fun _ h=>h) (H8.out.2.2.1.sub (List.Sublist.cons_cons _ (List.nil_sublist _))) ?_
 clear HK hS
 intro hS
 try simp only[zP]
 refine zD ?_
 try simp only[zP]
 clear y1 y2 y3 yf hS
 go_wp2_with fail
 have s8:=HD.out.1.call H8.out.2.2.1.bel
 have hsf:=HD.out.2.1 st (.inl rfl)
 refine(Nz w8 st d M p room T G Kf R q s la lg A Kf cp Ap c pa pc L s8.blk hsf (HD.out.2.2.1.call H8.out.2.2.1.bel) HD.out.2.2.2.2.1 (HD.out.2.2.2.2.2.1.below H8.out.2.2.1.bel) HD.out.2.2.2.2.2.2.1 (HD.out.2.2.2.2.2.2.2.2.1.below H8.out.2.2.1.bel) (by omega) (by omega) hr1 hr (by omega)).mono ?_
 rintro e w9 ⟨rfl,p9,hd9,hs9,hf9⟩
 have hy9:¬ aL d M p y:=HD.out.2.2.1.fresh (H8.out.2.2.1.geq 1 rfl)
 have g9:xQ w w9 st d M p p9 room (T+5000) (G+2) (nG d Kf R q s la lg A Kf cp) y (aP Kf R2 q2 s2 la2 lg A4 Kf c4) A4 Kf c4 (fV pl Kf):=
  ⟨hd9,(DStep.of_below H8.out.2.2.1.bel).trans hs9,s8.blk.keeps hs9.keep hsf,(H8.out.2.2.1.get 1 rfl).keeps hs9.keep hy9,aF H8.out.2.2.2 hs9.keep (fun g hg=>HD.out.2.2.1.fresh (H8.out.2.2.2.lt g hg).1),hs9.rO (H8.out.2.2.1.get 1 rfl).lt hy9,hs9.rO s8.blk.lt hsf,fun g hg=>hs9.rO (H8.out.2.2.2.lt g hg).2 (HD.out.2.2.1.fresh (H8.out.2.2.2.lt g hg).1),H8.out.2.2.1.geq 1 rfl⟩
 have H9:=zh (zN g9 hf9)
 clear s8 hd9 hs9 hf9 hy9 hsf g9
 go_upto_region 11 with (fail)
 obtain⟨z,hz⟩:∃ z,z=w9.heap.size:=⟨_,rfl⟩
 obtain⟨nb,hnb⟩:∃ a,a=bU 115 Kf:=⟨_,rfl⟩
 obtain⟨ft,hft⟩:∃ a,a=j4 L:=⟨_,rfl⟩
 obtain⟨lt,hlt⟩:∃ a,a=j6 L:=⟨_,rfl⟩
 obtain⟨ln,hln⟩:∃ a,a=L.length:=⟨_,rfl⟩
 rw[←hz,←hnb,←hft,←hlt,←hln]
 have al:Below w9.heap.size w9 (w9.alloc (.cells #[.string nb,.int .i64 ft,.int .i64 lt,.int .i64 (ln:Nat)] 164)):=(Below.refl _ _).alloc (Nat.le_refl _) _
 refine aH (fun wx=>xQ w wx st d M p p9 room (T+5000) (G+2) (nG d Kf R q s la lg A Kf cp) y (aP Kf R2 q2 s2 la2 lg A4 Kf c4) A4 Kf c4 (fV pl Kf)∧au wx z 164 #[.string nb,.int .i64 ft,.int .i64 lt,.int .i64 (ln:Nat)]) ⟨H9.out.1.call al,by rw[hz];exact au.fresh _ _ _⟩ ?_
 rintro w10 ⟨g10,b10⟩
 have hzy:z≠y:=b10.ne g10.by_ (by decide)
 have HN:=zh (zN hnb (zN hft (zN hlt (zN hln hzy))))
 clear al hz hnb hft hlt hln hzy
 have ek:IntKind.i64.wrap ((Kf:Int)+1)=(Kf:Int)+1:=by simp only[IntKind.wrap_i64];omega
 obtain⟨w11,hw11⟩:∃ wz,wz=w10.setCell ⟨y,0,none⟩ (.int .i64 ((Kf:Int)+1)):=⟨_,rfl⟩
 have g11:=g10.TB 0 (.int .i64 ((Kf:Int)+1)) hw11
 have k11:Keeps (fun q=>q=y) w10 w11:=by rw[hw11];exact (Keeps.refl (fun q=>q=y) w10).setCell (fun _=>rfl) _
 have b11:=b10.keeps k11 HN.out.2.2.2.2
 have a12:Below w11.heap.size w11 (w11.alloc (.cells #[.string nb,.int .i64 ft,.int .i64 lt,.int .i64 (ln:Nat)] 164)):=(Below.refl _ _).alloc (Nat.le_refl _) _
 have g12:=g11.call a12
 obtain⟨v13,w13,hrun,r13,gb13,x13⟩:=uo (K:=0) (g:=w11.heap.size) (c2:=1) (n:=Kf) (m:=1) (ty:=89) (news:=[.string nb,.int .i64 ft,.int .i64 lt,.int .i64 (ln:Nat)]) g12.row rfl (fun j u hu=>by
   have hb:=au.fresh w11 164 #[.string nb,.int .i64 ft,.int .i64 lt,.int .i64 (ln:Nat)]
   rw[hb.cell j]
   simpa using hu) (fun u hu=>by simp at hu;rcases hu with rfl | rfl | rfl | rfl<;>rfl) (by omega) (Nat.le_trans g11.stp.keep.size a12.size)
 obtain⟨A13,c13,hv13,hc13,hA13⟩:=aA r13
 subst hv13
 rw[show fV pl Kf ++ [.string nb,.int .i64 ft,.int .i64 lt,.int .i64 (ln:Nat)]=fV (fZ pl Kf L) (Kf+1) by rw[Q6,HN.out.1,HN.out.2.1,HN.out.2.2.1,HN.out.2.2.2.1]] at r13
 have g13:=g12.app r13 gb13 x13
 obtain⟨w14,hw14⟩:∃ wz,wz=w13.setCell ⟨y,6,none⟩ (.slice A13 (Kf+1) c13):=⟨_,rfl⟩
 have g14:=g13.TB 6 (.slice A13 (Kf+1) c13) hw14
 rw[show ((aP Kf R2 q2 s2 la2 lg A4 Kf c4).setIfInBounds 0 (.int .i64 ((Kf:Int)+1))).setIfInBounds 6 (.slice A13 (Kf+1) c13)=aP (Kf+1) R2 q2 s2 la2 lg A13 (Kf+1) c13 by simp[aP]] at g14
 have v0:w10.cell? ⟨y,0,none⟩=some (.int .i64 (Kf:Nat)):=g10.by_.cell 0
 have vf:=g10.by_.frozen
 have v6:w11.cell? ⟨y,6,none⟩=some (.slice A4 Kf c4):=g11.by_.cell 6
 have q0:w11.cell? ⟨z,0,none⟩=some (.string nb):=b11.cell 0
 have q1:w11.cell? ⟨z,1,none⟩=some (.int .i64 ft):=b11.cell 1
 have q2':w11.cell? ⟨z,2,none⟩=some (.int .i64 lt):=b11.cell 2
 have q3:w11.cell? ⟨z,3,none⟩=some (.int .i64 (ln:Nat)):=b11.cell 3
 have t6:w13.cell? ⟨y,6,none⟩=some (.slice A4 Kf c4):=g13.by_.cell 6
 have tf:=g13.by_.frozen
 have z0_0:w14.cell? ⟨y,0,none⟩=some (.int .i64 ((Kf:Int)+1)):=g14.by_.cell 0
 have z0_1:w14.cell? ⟨y,1,none⟩=some (.int .i64 (R2:Nat)):=g14.by_.cell 1
 have z0_2:w14.cell? ⟨y,2,none⟩=some (.int .i64 (q2:Nat)):=g14.by_.cell 2
 have z0_3:w14.cell? ⟨y,3,none⟩=some (.bool s2):=g14.by_.cell 3
 have z0_4:w14.cell? ⟨y,4,none⟩=some (.int .i64 la2):=g14.by_.cell 4
 have z0_5:w14.cell? ⟨y,5,none⟩=some (.int .i64 lg):=g14.by_.cell 5
 have z0_6:w14.cell? ⟨y,6,none⟩=some (.slice A13 (Kf+1) c13):=g14.by_.cell 6
 have z0_7:w14.cell? ⟨y,7,none⟩=some (.slice none 0 0):=g14.by_.cell 7
 have H14:=zh (zN g14 hc13)
 have HW11:=zh hw11
 have HW14:=zh hw14
 clear g10 b10 g11 k11 b11 a12 g12 r13 gb13 x13 g13 g14 hw11 hw14 hA13
 go_wp2_with (first | rw[←HW11.out] | rw[←HW14.out] | (at_builtin;refine wpList_append_run rfl (.tmp 80) (.tmp 82) rfl rfl rfl hrun ?_))
 have hNN:fb p9 iP=none:=by
  rw[H9.out.2,fP _ _ (fun e=>rR (by decide) 115 e.symm)]
  exact HD.out.2.2.2.1
 have hc:=Fz w14 st d M p9 room (T+5000) (G+2) Kf R q s la lg A Kf cp (Kf+1) R2 q2 s2 la2 lg A13 (Kf+1) c13 (fZ pl Kf L) H14.out.1.bs H14.out.1.nfs H14.out.1.dt hNN ⟨by omega,hR2,hq2,HD.out.2.2.2.2.2.2.2.2.2.1,by omega,H14.out.2,(V.iC H14.out.1.row).2⟩ (aU H14.out.1.row (Nat.zero_le _))
  (fun g hg=>H14.out.1.nfr g (by rw[lZ];exact hg)) HD.out.2.2.2.2.2.2.2.1 (HD.out.2.2.2.2.2.2.2.2.1.keeps H14.out.1.stp.keep hgl) (by omega) hr1 hr (by omega)
 unfold aP at hc
 rw[show (((Kf+1:Nat)):Int)=(Kf:Int)+1 by omega] at hc
 refine hc.mono ?_
 clear hc
 rintro e w15 ⟨rfl,p15,bs,hd15,hf15,hb15,hr15,hk15,hfar15⟩
 have hfr:∀ g,A13.map (·.block)=some g→(Value.slice A13 (Kf+1) c13).ownBlock=some g:=fun g hg=>by rw[lZ];exact hg
 have HF:=zh (show Cu w st d M p room T G R2 q2 s2 la2 lg A Kf pl L (.returned (.int .i64 0)) w15 from
  ⟨rfl,p15,bs,A13,c13,hd15,by rw[hf15,H9.out.2],⟨hb15,hr15,fun h=>absurd h (by omega)⟩,
   (H14.out.1.stp.keep.mono (fun q _ h=>Or.inl h)).trans hk15 (fun q hq h=>by
    rcases h with h | h
    ·exact .inl (H14.out.1.stp.far q hq h)
    ·exact .inr h),
   fun q hq hf=>H14.out.1.stp.far q hq (hfar15 q (Nat.lt_of_lt_of_le hq H14.out.1.stp.keep.size) hf),
   fun q hq hs=>by
    rcases hs with hs | hs
    ·exact hs
    ·have:=(H14.out.1.row.lt q (hfr q hs)).1;omega,
   fun q hs hf=>by
    rcases hs with rfl | hs
    ·exact H14.out.1.nfs (hfar15 _ H14.out.1.bs.lt hf)
    ·exact H14.out.1.nfr q (hfr q hs) (hfar15 q (H14.out.1.row.lt q (hfr q hs)).2 hf)⟩)
 clear hd15 hf15 hb15 hr15 hk15 hfar15 hfr hNN
 clear z0_0 z0_1 z0_2 z0_3 z0_4 z0_5 z0_6 z0_7 v0 vf v6 q0 q1 q2' q3 t6 tf ek hrun
 go_wp2_with fail
 go_ret
 exact HF.out
end
section
open Go.RowKit
theorem Jb(hs:∀ w:World,(sizeOf 149).run Tryz.prog w=.ok 3 w)(A:Option Addr)(n c:Nat)(hlc:n+1≤c):
  ∃ A',(∀ w:World,(Instr.slice 186 (.slice A (n+1) c) (some (.int .i64 1)) none none).run Tryz.prog w=.ok (.slice A' n (c-1)) w)∧
   (∀ (w:World) (D:Nat→Prop) (f:Nat→Pt),dO w D A (n+1) f→dO w D A' n (fun j=>f (j+1))):=by
 have ht:Tryz.prog.underlying 186=some (.slice 149):=Tryz.underlying186
 have he:Tryz.prog.elem 186=149:=by simp[Program.elem,ht]
 have ht':Tryz.prog.underlying 186=some (.slice (Tryz.prog.elem 186)):=by rw[he];exact ht
 refine⟨if c=1 then A else A.map (·.add (1*3)),fun w=>?_,fun w D f h=>?_⟩
 ·have e:=run_slice_l w _ A (n+1) c ht' .i64 ((1:Nat):Int) (by omega) (by omega)
  rw[he,hs] at e
  refine(show (Instr.slice 186 (.slice A (n+1) c) (some (.int .i64 1)) none none).run Tryz.prog w=_ from e).trans ?_
  simp[Result.andThen,sliced]
 ·intro hlt
  rw[if_neg (by omega)]
  obtain⟨b,off,rfl,-,-⟩:=h (by omega)
  have:=O7 h hlt
  rw[show (some (⟨b,off,none⟩:Addr)).map (·.add (1*3))=some ⟨b,off+3,none⟩ by simp[Addr.add]]
  exact this
theorem Tp(w:World): (sizeOf 149).run Tryz.prog w=.ok 3 w:=by kernel_rfl
def FD: Value→Nat
 | .slice _ n _=>n
 | _=>0
theorem aJ.congr{w:World}{B h:Nat}{A:Option Addr}{cp:Nat}{it it':Nat→Value}{f:Nat→Nat}{n:Nat}(hh:aJ w B h A cp it f n)(he:∀ j,j < n→it (f j)=it' (f j)): aJ w B h A cp it' f n:=
 ⟨hh.blk,by rw[←sZ (it:=it) (it':=it') (f:=f) n (fun j hj=>⟨rfl,he j hj⟩)];exact hh.row,hh.hB⟩
def uD(w:World)(l:List Pt)(e:Ending)(w':World): Prop:=∃ A c,e=.returned (.tuple #[.slice A l.length c,.int .i64 0])∧aX w' w.heap.size (.slice A l.length c) l∧Below w.heap.size w w'
structure qC(w:World)(At:Nat→Option Addr)(ct:Nat→Nat)(r:Nat→List Pt)(K:Nat): Prop where
 sl:∀ x,x < K→dO w (fun q=>q < w.heap.size) (At x) (r x).length (qb r x)
 cap:∀ x,x < K→(r x).length≤ct x∧ct x≤9223372036854775807
theorem HB.PZ{B:Nat}{w w1 w2:World}{row:Option Nat}(h:HB B w w1)(hg:w1.grownBy w2 row)(hr:∀ q,row=some q→w.heap.size≤q): HB B w w2:=
 ⟨h.bel.grown hg (Nat.le_trans h.hB h.size) (fun q e=>Nat.le_trans h.hB (hr q e)),h.hk.grown hg (fun k e hk=>absurd (hr k e) (by omega)),h.hB⟩
structure nA(B h:Nat)(A:Option Addr)(cp:Nat)(it:Nat→Value)(f:Nat→Nat)(n gc:Nat)(v:Value)(x:Nat)(out:Value)(lo:List Pt)(w wx:World): Prop where
 hp:aJ wx B h A cp it f n
 bc:au wx gc 387 #[v,.int .i64 (x:Nat)]
 ro:aX wx B out lo
 hb:HB B w wx
theorem nA.call{B h:Nat}{A:Option Addr}{cp:Nat}{it:Nat→Value}{f:Nat→Nat}{n gc:Nat}{v:Value}{x:Nat}{out:Value}{lo:List Pt}{w wx wy:World}(m:nA B h A cp it f n gc v x out lo w wx)(hb:Below wx.heap.size wx wy): nA B h A cp it f n gc v x out lo w wy:=
 ⟨m.hp.call hb,m.bc.below hb m.bc.lt,m.ro.below hb,m.hb.call hb⟩
theorem nA.drew{B h:Nat}{A:Option Addr}{cp:Nat}{it:Nat→Value}{f:Nat→Nat}{n gc:Nat}{v:Value}{x:Nat}{out:Value}{lo:List Pt}{w wx:World}(m:nA B h A cp it f n gc v x out lo w wx): nA B h A cp it f n gc v x out lo w wx.drew:=m.call (Below.refl _ _).drew
theorem nA.grown{B h:Nat}{A:Option Addr}{cp:Nat}{it:Nat→Value}{f:Nat→Nat}{n gc:Nat}{v:Value}{x:Nat}{out out':Value}{lo lo':List Pt}{w wx wy:World}(m:nA B h A cp it f n gc v x out lo w wx)(hB:B=w.heap.size)(hr:aX wy B out' lo')(hg:wx.grownBy wy out.ownBlock): nA B h A cp it f n gc v x out' lo' w wy:=by
 have hk:Keeps (fun q=>out.ownBlock=some q) wx wy:=(Keeps.refl _ _).grown hg (fun k e _=>e)
 have hty:∀ q,out.ownBlock=some q→j3 wx q=some 149:=fun q hq=>fQ m.ro hq
 refine⟨⟨m.hp.blk.keeps hk (fun e=>?_),aF m.hp.row hk (fun g hg' e=>?_),m.hp.hB⟩,m.bc.keeps hk (fun e=>?_),hr,m.hb.PZ hg (fun q hq=>by rw[←hB];exact (m.ro.fC q hq).1)⟩
 ·have:=hty _ e;rw[bZ m.hp.blk] at this;exact absurd this (by decide)
 ·have:=hty _ e;rw[fQ m.hp.row hg'] at this;exact absurd this (by decide)
 ·have:=hty _ e;rw[bZ m.bc] at this;exact absurd this (by decide)
theorem nA.set{B h:Nat}{A:Option Addr}{cp:Nat}{it:Nat→Value}{f:Nat→Nat}{n gc:Nat}{v:Value}{x:Nat}{out:Value}{lo:List Pt}{w wx wy:World}(m:nA B h A cp it f n gc v x out lo w wx)(v':Value)(hw:wy=wx.setCell ⟨gc,0,none⟩ v')(hne:∀ g,(Value.slice A n cp).ownBlock=some g→g≠gc)(hgB:B≤gc): nA B h A cp it f n gc v' x out lo w wy:=by
 have hk:Keeps (fun q=>q=gc) wx wy:=by rw[hw];exact (Keeps.refl (fun q=>q=gc) wx).setCell (fun _=>rfl) _
 refine⟨⟨m.hp.blk.keeps hk (fun e=>?_),aF m.hp.row hk (fun g hg' e=>hne g hg' e),m.hp.hB⟩,?_,m.ro.keeps hk (fun g hg e=>?_),m.hb.keeps hk (.inl (bZ m.bc)) hgB⟩
 ·have h1:=bZ m.hp.blk
  rw[e,bZ m.bc] at h1
  exact absurd h1 (by decide)
 ·have:=m.bc.set 0 v'
  rw[←hw] at this
  exact this
 ·have h1:=fQ m.ro hg
  rw[e,bZ m.bc] at h1
  exact absurd h1 (by decide)
theorem qC.upd{w:World}{At:Nat→Option Addr}{ct:Nat→Nat}{r:Nat→List Pt}{K x c1:Nat}{p:Pt}{t:List Pt}{A1:Option Addr}(h:qC w At ct r K)(hrx:r x=p :: t)(hsl:dO w (fun q=>q < w.heap.size) A1 t.length (fun j=>qb r x (j+1)))(hc:t.length≤c1∧c1≤9223372036854775807):
  qC w (fun y=>if y=x then A1 else At y) (fun y=>if y=x then c1 else ct y) (gL r x t) K:=by
 refine⟨fun y hy=>?_,fun y hy=>?_⟩
 ·by_cases e:y=x
  ·subst e
   have e1:gL r y t y=t:=by unfold gL;rw[if_pos rfl]
   rw[if_pos rfl,e1]
   exact hsl.congr (fun j hj=>by unfold qb;rw[e1,hrx];rfl)
  ·have e1:gL r x t y=r y:=by unfold gL;rw[if_neg e]
   rw[if_neg e,e1]
   exact(h.sl y hy).congr (fun j hj=>by unfold qb;rw[e1])
 ·by_cases e:y=x
  ·subst e
   have e1:gL r y t y=t:=by unfold gL;rw[if_pos rfl]
   rw[if_pos rfl,e1]
   exact hc
  ·have e1:gL r x t y=r y:=by unfold gL;rw[if_neg e]
   rw[if_neg e,e1]
   exact h.cap y hy
theorem AA(w:World)(A:Option Addr)(K c:Nat)(At:Nat→Option Addr)(ct:Nat→Nat)(pl:Nat→List Pt)(hsl:Sl w (fun q=>q < w.heap.size) A K (fT At ct pl))(hok:qC w At ct pl K)(hinc:Inc (aQ pl K))(hK:K < 1000)(hlen:(aQ pl K).length≤100000):
  Calls Tryz.prog 174 #[.slice A K c] w (uD w (aQ pl K)):=by
 obtain⟨h,hh⟩:∃ h,h=w.heap.size:=⟨_,rfl⟩
 have nt:=fF
 have a1:Below w.heap.size w (w.alloc (.cells #[.slice none 0 0,.func (.func 254) #[] #[]] 384)):=(Below.refl _ _).alloc (Nat.le_refl _) _
 have h1:aJ (w.alloc (.cells #[.slice none 0 0,.func (.func 254) #[] #[]] 384)) w.heap.size h none 0 (fT At ct pl) (fun _=>0) 0:=⟨by rw[hh];exact au.fresh _ _ _,⟨rfl,.inl ⟨rfl,rfl⟩⟩,by omega⟩
 have hB1:HB w.heap.size w (w.alloc (.cells #[.slice none 0 0,.func (.func 254) #[] #[]] 384)):=HB.zR a1 (Nat.le_refl _)
 have HD:=zh (zN hsl (zN hok (zN hinc (zN h1 (zN hB1 hh)))))
 clear hsl hok hinc h1 a1 hB1
 go_enter Tryz.func174,Tryz.ntmps174
 go_wp2_with fail
 rw[←hh]
 clear hh
 refine aH (fun wx=>aJ wx w.heap.size h none 0 (fT At ct pl) (fun _=>0) 0∧HB w.heap.size w wx) ⟨HD.out.2.2.2.1,HD.out.2.2.2.2.1⟩ ?_
 rintro w1 ⟨g1,b1⟩
 go_loopw [14] (fun i wr=>∃ (k n:Nat) (f:Nat→Nat) (A':Option Addr) (cp:Nat),(k≤K∧n≤k)∧i=.int .i64 (k:Nat)∧aJ wr w.heap.size h A' cp (fT At ct pl) f n∧jh f n∧Holds f n (eZ pl k)∧HB w.heap.size w wr) (fun i _=>K-(intOf i).toNat)
 case atStart=>exact ⟨0,0,_,none,0,⟨Nat.zero_le _,Nat.le_refl _⟩,rfl,g1,fun j h0 hj=>by omega,⟨fun i j hi=>by omega,fun j hj=>by omega,fun x hx=>absurd hx.1 (by omega)⟩,b1⟩
 case round=>
  obtain⟨k,n,f,A',cp,⟨hk,hnk⟩,rfl,hh,hp,hs,hb⟩:=hrel
  clear g1 b1
  by_cases hlt:k < K
  ·have hki:(k:Int) < (K:Int):=by omega
   obtain⟨bb,off,rfl,-,hc⟩:=(V.iF HD.out.1 hb.bel) (by omega)
   have c0:wr.cell? ⟨bb,off+k,none⟩=some (.slice (At k) (pl k).length (ct k)):=hc k hlt
   have hsk:=(HD.out.2.1.sl k hlt)
   obtain⟨ak,hak⟩:∃ a,a=At k:=⟨_,rfl⟩
   obtain⟨nk,hnk2⟩:∃ a,a=(pl k).length:=⟨_,rfl⟩
   obtain⟨ck,hck⟩:∃ a,a=ct k:=⟨_,rfl⟩
   rw[←hak,←hnk2,←hck] at c0
   rw[←hak,←hnk2] at hsk
   have hnkb:nk≤100000:=by have:=yh (r:=pl) K k hlt;omega
   have hrise:∀ j,j+1 < nk→(qb pl k j).t < (qb pl k (j+1)).t:=fun j hj=>(tX K HD.out.2.2.1 k hlt).rises j (by omega)
   have HL:=zh (zN hh (zN hp (zN hs (zN hb (zN hsk (zN hrise (zN hak (zN hnk2 hck))))))))
   clear hh hp hs hb hc hsk hrise hak hnk2 hck
   go_wp2_with fail
   clear c0
   refine(wX wr ak nk ck (qb pl k) ((HL.out.2.2.2.2.1.below HL.out.2.2.2.1.bel).mono (fun q hq=>Nat.lt_of_lt_of_le hq HL.out.2.2.2.1.size)) (by omega) HL.out.2.2.2.2.2.1).mono ?_
   rintro e w2 ⟨rfl,hb2⟩
   have H2:=zh (zN (HL.out.1.call hb2) (HL.out.2.2.2.1.call hb2))
   clear hb2
   by_cases h0:0 < nk
   ·have d1:decide ((0:Int) < (nk:Int))=true:=by simp;omega
    have d2:decide (0 < nk)=true:=by simp;omega
    have hcall:=uP w w2 w.heap.size h A' cp (fT At ct pl) (qb pl) f n (eZ pl k) k H2.out.2.bel (Nat.le_refl _) H2.out.1 HL.out.2.1 HL.out.2.2.1 (fun hx=>by have:=hx.1;omega)
     ((Jm HD.out.2.1.sl HD.out.2.2.1).mono (fun y hy=>by
      rcases hy with hy | rfl
      ·exact ⟨by have:=hy.1;omega,hy.2⟩
      ·exact ⟨hlt,by have:=HL.out.2.2.2.2.2.2.2.1;omega⟩)) (by omega)
    rw[show fT At ct pl k=.slice ak nk ck by unfold fT;rw[HL.out.2.2.2.2.2.2.1,HL.out.2.2.2.2.2.2.2.1,HL.out.2.2.2.2.2.2.2.2]] at hcall
    have HC:=zh hcall
    clear hcall
    go_wp2_with fail
    refine HC.out.mono ?_
    rintro e w3 ⟨rfl,A3,cp3,f3,h3,p3,s3,b3⟩
    have H3:=zh (zN h3 (zN p3 (zN s3 (H2.out.2.trans b3))))
    clear h3 p3 s3 b3 d1 d2
    go_wp2_with fail
    go_roundw
    case rel=>exact ⟨k+1,n+1,f3,A3,cp3,⟨by omega,by omega⟩,by go_num,H3.out.1,H3.out.2.1,by rw[←Kk (by have:=HL.out.2.2.2.2.2.2.2.1;omega)];exact H3.out.2.2.1,H3.out.2.2.2⟩
    case measure=>simp[intOf]<;>omega
   ·have d1:decide ((0:Int) < (nk:Int))=false:=by simp;omega
    have d2:decide (0 < nk)=false:=by simp;omega
    have hsk:=JV (r:=pl) (i:=k) (by have:=HL.out.2.2.2.2.2.2.2.1;omega)
    have HSk:=zh hsk
    clear hsk
    go_wp2_with fail
    go_roundw
    case rel=>exact ⟨k+1,n,f,A',cp,⟨by omega,by omega⟩,by go_num,H2.out.1,HL.out.2.1,by rw[←HSk.out];exact HL.out.2.2.1,H2.out.2⟩
    case measure=>simp[intOf]<;>omega
  ·obtain rfl:k=K:=by omega
   have HL:=zh (zN hh (zN hp (zN hs hb)))
   clear hh hp hs hb
   go_wp2_with fail
   refine aH (fun wx=>aJ wx w.heap.size h A' cp (fT At ct pl) f n∧HB w.heap.size w wx) ⟨HL.out.1,HL.out.2.2.2⟩ ?_
   rintro w1 ⟨g1,b1⟩
   go_loopw [7] (fun out wr=>∃ (n:Nat) (f:Nat→Nat) (A':Option Addr) (cp:Nat) (At:Nat→Option Addr) (ct:Nat→Nat) (r:Nat→List Pt) (Ao:Option Addr) (co:Nat) (lo:List Pt),n≤k∧out=.slice Ao lo.length co∧aX wr w.heap.size out lo∧lo ++ aQ r k=aQ pl k∧qC w At ct r k∧aJ wr w.heap.size h A' cp (fT At ct r) f n∧jh f n∧Holds f n (eZ r k)∧HB w.heap.size w wr) (fun out _=>(aQ pl k).length-FD out)
   case atStart=>exact ⟨n,f,A',cp,At,ct,pl,none,0,[],hnk,rfl,aX.nil _ _,rfl,HD.out.2.1,g1,HL.out.2.1,HL.out.2.2.1,b1⟩
   case round=>
    clear g1 b1 HL
    clear hnk A' cp f n
    obtain⟨n,f,A',cp,At',ct',r,Ao,co,lo,hnk,rfl,hro,hcat,hok,hh,hp,hs,hb⟩:=hrel
    have hll:lo.length+(aQ r k).length=(aQ pl k).length:=by rw[←hcat,List.length_append]
    have hinc:Inc (lo ++ aQ r k):=by rw[hcat];exact HD.out.2.2.1
    cases n with
    | zero=>
     have hnil:aQ r k=[]:=tJ k (fun y hy=>by
      cases hr:r y with
      | nil=>rfl
      | cons p t=>
       obtain⟨j,hj,-⟩:=hs.all y ⟨hy,by rw[hr];simp⟩
       omega)
     have hlo:lo=aQ pl k:=by rw[←hcat,hnil,List.append_nil]
     have u0:=hh.blk.cell 0
     have HE:=zh (zN hro (zN hb hlo))
     clear hro hcat hok hh hp hs hb hinc hnil hlo
     go_wp2_with fail
     go_ret2
     refine⟨Ao,co,?_,?_,HE.out.2.1.bel⟩
     ·rw[HE.out.2.2];rfl
     ·rw[←HE.out.2.2];exact HE.out.1
    | succ n=>
     obtain⟨x,hx⟩:∃ x,x=f 0:=⟨_,rfl⟩
     have hxS:=hs.mem 0 (by omega)
     rw[←hx] at hxS
     obtain⟨p,t,hrx⟩:∃ p t,r x=p :: t:=by
      cases hr:r x with
      | nil=>have:=hxS.2;rw[hr] at this;simp at this
      | cons p t=>exact ⟨p,t,rfl⟩
     have h0:∀ y,y < x→r y=[]:=fun y hy=>by
      cases hr:r y with
      | nil=>rfl
      | cons p t=>
       obtain⟨j,hj,hjy⟩:=hs.all y ⟨by have:=hxS.1;omega,by rw[hr];simp⟩
       have:=hp.root j hj
       omega
     have hcx:=CP hrx h0 k hxS.1
     have hsx:=hok.sl x hxS.1
     have hcx2:=hok.cap x hxS.1
     have hcall:=Ph w wr w.heap.size h A' cp (fT At' ct' r) (qb r) f n (eZ r k) hb.bel (Nat.le_refl _) hh hp hs (Jm hok.sl hinc.parts.2.1) (by omega)
     rw[←hx] at hcall
     obtain⟨ax,hax⟩:∃ a,a=At' x:=⟨_,rfl⟩
     obtain⟨cx,hcx3⟩:∃ a,a=ct' x:=⟨_,rfl⟩
     have hix:fT At' ct' r x=.slice ax (t.length+1) cx:=by unfold fT;rw[hrx,←hax,←hcx3];rfl
     have hpp:qb r x 0=p:=by unfold qb;rw[hrx];rfl
     rw[←hax,hrx] at hsx
     rw[hrx,←hcx3] at hcx2
     obtain⟨bx,ox,rfl,hbx,hcc⟩:=id hsx (by simp)
     obtain⟨A1,hA1,hA2⟩:=Jb Tp (some ⟨bx,ox,none⟩) t.length cx hcx2.1
     have hu0:=hh.blk.cell 0
     obtain⟨tn,htn⟩:∃ a,a=t.length:=⟨_,rfl⟩
     rw[←htn] at hix hA1 hA2
     have htb:tn+1≤100000:=by
      have:=yh (r:=r) k x hxS.1
      rw[hrx] at this
      simp at this
      omega
     have HQ:=zh (zN hro (zN hcat (zN hok (zN hinc (zN hx (zN hxS (zN hrx (zN h0 (zN hcx (zN hsx (zN hcx2 (zN hcall (zN hax (zN hcx3 (zN hix (zN hpp (zN hbx (zN hA2 (zN htn hb)))))))))))))))))))
     clear hro hcat hok hinc hx hxS hrx h0 hcx hsx hcx2 hcall hax hcx3 hix hpp hbx hcc hA2 htn hb hh hp hs
     go_wp2_with fail
     clear hu0
     refine HQ.out.2.2.2.2.2.2.2.2.2.2.2.1.mono ?_
     rintro e w2 ⟨rfl,A2,f2,h2,p2,s2,b2⟩
     rw[HQ.out.2.2.2.2.2.2.2.2.2.2.2.2.2.2.1]
     have HS2:=zh (zN h2 (zN p2 (zN s2 b2)))
     clear h2 p2 s2 b2
     go_wp2_with fail
     obtain⟨gc,hgc⟩:∃ gc,gc=w2.heap.size:=⟨_,rfl⟩
     rw[←hgc]
     have al:Below w2.heap.size w2 (w2.alloc (.cells #[.slice (some ⟨bx,ox,none⟩) (tn+1) cx,.int .i64 (x:Nat)] 387)):=(Below.refl _ _).alloc (Nat.le_refl _) _
     have hro2:aX w2 w.heap.size (.slice Ao lo.length co) lo:=(HQ.out.1).keeps HS2.out.2.2.2.hk (fun g hg ht=>by
      have:=fQ HQ.out.1 hg
      rcases ht with ht | ht<;>rw[this] at ht<;>exact absurd ht (by decide))
     refine aH (fun wx=>nA w.heap.size h A2 cp (fT At' ct' r) f2 n gc (.slice (some ⟨bx,ox,none⟩) (tn+1) cx) x (.slice Ao lo.length co) lo w wx) ⟨HS2.out.1.call al,by rw[hgc];exact au.fresh _ _ _,hro2.below al,(HQ.out.2.2.2.2.2.2.2.2.2.2.2.2.2.2.2.2.2.2.2.trans HS2.out.2.2.2).call al⟩ ?_
     intro w3 h3
     have H3:=zh h3
     have hS:=h3.drew
     have HGC:=zh hgc
     clear h3 al hro2 hgc
     have d0:decide (p.t < 0)=decide (p.t < 0):=rfl
     clear d0
     rcases List.eq_nil_or_concat lo with e0 | ⟨lo',q,e0⟩
     ·have d1:((lo.length:Int) == 0)=true:=by rw[e0];rfl
      have hS:(nA w.heap.size h A2 cp (fT At' ct' r) f2 n gc (.slice (some ⟨bx,ox,none⟩) (tn+1) cx) x (.slice Ao lo.length co) lo w) (w3.drew):=hS
      refine av (nA w.heap.size h A2 cp (fT At' ct' r) f2 n gc (.slice (some ⟨bx,ox,none⟩) (tn+1) cx) x (.slice Ao lo.length co) lo w) (by kernel_rfl) hS ?_
      refine zB [0,1,2] ?_
      iterate 3 (refine zV ?_ ?_ hS ?_;rotate_left;(intro w' hSw;go_simp<;>with_reducible rfl);try simp only[zP])
      refine zE ?_
      refine zB [3,4,5,6,7,8,9,10,11,12,13,14] ?_
      iterate 12 (refine zW hS ?_;try simp only[zP])
      refine zE ?_
      refine zT 15 ?_ ?_ hS ?_
      rotate_left
      ·(intro w' hSw;go_simp<;>with_reducible rfl)
      try simp only[zP]
      refine zD ?_
      try simp only[zP]
      clear hS d1
      have hlt:∀ q ∈ lo,q.t < p.t:=fun q hq=>by rw[e0] at hq;cases hq
      clear e0
      have v0:w3.drew.cell? ⟨gc,0,none⟩=some (.slice (some ⟨bx,ox,none⟩) (tn+1) cx):=H3.out.drew.bc.cell 0
      have hsx3:=lN (HQ.out.2.2.2.2.2.2.2.2.2.1.below H3.out.drew.hb.bel) (j:=0) (by simp)
      rw[HQ.out.2.2.2.2.2.2.2.2.2.2.2.2.2.2.2.1] at hsx3
      have c0:w3.drew.cell? ⟨bx,ox,none⟩=some (.int .i64 p.t):=by simpa using hsx3.1
      have c1:w3.drew.cell? ⟨bx,ox+1,none⟩=some (.int .i64 p.v):=by simpa using hsx3.2.1
      have c2:w3.drew.cell? ⟨bx,ox+2,none⟩=some (.int .i64 p.s):=by simpa using hsx3.2.2
      clear hsx3
      have HLT:=zh hlt
      clear hlt
      have e1:(0:Int) < (tn:Int)+1:=by omega
      go_wp2_with (at_builtin;refine jM (base:=w.heap.size) (p:=p) (l:=lo) rfl (.tmp 57) (.tmp 62) rfl rfl rfl ?hown ?hg ?h63 ?hbase ?_)
      case hown=>exact H3.out.drew.ro.below ((Below.refl _ _).alloc (Nat.le_refl _) _)
      case hg=>exact au.fresh _ _ _
      case h63=>omega
      case hbase=>have:=H3.out.hb.size;simp;omega
      intro v10 w10 hr10 hg10 hx10
      have m10:=(H3.out.drew.call ((Below.refl _ _).alloc (Nat.le_refl _) (.cells #[.int .i64 p.t,.int .i64 p.v,.int .i64 p.s] 149))).grown rfl hr10 hg10
      obtain⟨A10,c10,hv10,hc10⟩:=hr10.form
      subst hv10
      clear hr10 hg10 hx10 v0 c0 c1 c2
      obtain⟨nl,hnl⟩:∃ nl,nl=(lo ++ [p]).length:=⟨_,rfl⟩
      have hnl2:nl=lo.length+1:=by rw[hnl];simp
      rw[←hnl] at m10 ⊢
      have hne10:∀ g,(Value.slice A2 n cp).ownBlock=some g→g≠gc:=fun g hg e=>by
       have h1:=(HS2.out.1.row.lt g hg).2
       have h2:=HGC.out
       omega
      have hgB:w.heap.size≤gc:=by rw[HGC.out];exact Nat.le_trans HQ.out.2.2.2.2.2.2.2.2.2.2.2.2.2.2.2.2.2.2.2.size HS2.out.2.2.2.size
      obtain⟨w11,hw11⟩:∃ w11,w11=w10.setCell ⟨gc,0,none⟩ (.slice A1 tn (cx-1)):=⟨_,rfl⟩
      have m11:=m10.set (.slice A1 tn (cx-1)) hw11 hne10 hgB
      have v0:w10.cell? ⟨gc,0,none⟩=some (.slice (some ⟨bx,ox,none⟩) (tn+1) cx):=m10.bc.cell 0
      have vf:=m10.bc.frozen
      have v1:w11.cell? ⟨gc,0,none⟩=some (.slice A1 tn (cx-1)):=m11.bc.cell 0
      have v2:w11.cell? ⟨gc,1,none⟩=some (.int .i64 (x:Nat)):=m11.bc.cell 1
      have hup:=(HQ.out.2.2.1).upd (x:=x) (A1:=A1) (c1:=cx-1) HQ.out.2.2.2.2.2.2.1 (by
       have:=HQ.out.2.2.2.2.2.2.2.2.2.2.2.2.2.2.2.2.2.1 w _ _ (by rw[HQ.out.2.2.2.2.2.2.2.2.2.2.2.2.2.2.2.2.2.2.1];exact HQ.out.2.2.2.2.2.2.2.2.2.1)
       rw[HQ.out.2.2.2.2.2.2.2.2.2.2.2.2.2.2.2.2.2.2.1] at this
       exact this) (by have:=HQ.out.2.2.2.2.2.2.2.2.2.2.1;simp at this;omega)
      obtain⟨At2,hAt2⟩:∃ a,a=fun y=>if y=x then A1 else At' y:=⟨_,rfl⟩
      obtain⟨ct2,hct2⟩:∃ a,a=fun y=>if y=x then cx-1 else ct' y:=⟨_,rfl⟩
      obtain⟨r2,hr2⟩:∃ a,a=gL r x t:=⟨_,rfl⟩
      rw[←hAt2,←hct2,←hr2] at hup
      have hcat2:(lo ++ [p]) ++ aQ r2 k=aQ pl k:=by rw[←HQ.out.2.1,HQ.out.2.2.2.2.2.2.2.2.1,hr2];simp
      have hinc2:Inc (aQ r2 k):=by
       have:Inc ((lo ++ [p]) ++ aQ r2 k):=by rw[hcat2];exact HD.out.2.2.1
       exact this.parts.2.1
      have hits:∀ y,y≠x→fT At' ct' r y=fT At2 ct2 r2 y:=fun y hy=>by
       rw[hAt2,hct2,hr2];unfold fT gL;simp[hy]
      have hitx:fT At2 ct2 r2 x=.slice A1 tn (cx-1):=by
       rw[hAt2,hct2,hr2,HQ.out.2.2.2.2.2.2.2.2.2.2.2.2.2.2.2.2.2.2.1];unfold fT gL;simp
      have hh11:aJ w11 w.heap.size h A2 cp (fT At2 ct2 r2) f2 n:=m11.hp.congr (fun j hj=>hits _ (HS2.out.2.2.1.mem j hj).2)
      have hfull:lo.length+1≤(aQ pl k).length:=by rw[←hcat2];simp
      have HE:=zh (zN m11 (zN hh11 (zN hup (zN hcat2 (zN hinc2 (zN hitx (zN hr2 (zN hnl hnl2))))))))
      have HW11:=zh hw11
      clear m10 m11 hh11 hup hcat2 hinc2 hits hitx hr2 hnl hnl2 hAt2 hct2 hw11 hne10 hgB
      by_cases ht0:0 < tn
      ·have d8:decide ((0:Int) < (tn:Int))=true:=by simp;omega
       have d9:decide (0 < tn)=true:=by simp;omega
       have hS2:(fun y=>(eZ r k y∧y≠x)∨y=x)=eZ r2 k:=by
        rw[HE.out.2.2.2.2.2.2.1]
        exact Ci HQ.out.2.2.2.2.2.1.1 (by have:=HQ.out.2.2.2.2.2.2.2.2.2.2.2.2.2.2.2.2.2.2.1;omega) HQ.out.2.2.2.2.2.1.2
       have hcall:=uP w w11 w.heap.size h A2 cp (fT At2 ct2 r2) (qb r2) f2 n (fun y=>eZ r k y∧y≠x) x HE.out.1.hb.bel (Nat.le_refl _) HE.out.2.1 HS2.out.2.1 HS2.out.2.2.1 (fun h=>h.2 rfl) (by rw[hS2];exact Jm HE.out.2.2.1.sl HE.out.2.2.2.2.1) (by omega)
       rw[HE.out.2.2.2.2.2.1] at hcall
       have HC:=zh (zN hcall hS2)
       clear hcall hS2
       go_wp2_with (rw[←HW11.out])
       refine HC.out.1.mono ?_
       rintro e w12 ⟨rfl,A3,cp3,f3,h3,p3,s3,b3⟩
       have hro3:aX w12 w.heap.size (.slice A10 nl c10) (lo ++ [p]):=(HE.out.1.ro).keeps b3.hk (fun g hg ht=>by
        have:=fQ HE.out.1.ro hg
        rcases ht with ht | ht<;>rw[this] at ht<;>exact absurd ht (by decide))
       rw[HC.out.2] at s3
       have HZ:=zh (zN h3 (zN p3 (zN s3 (zN (HE.out.1.hb.trans b3) hro3))))
       clear h3 p3 s3 b3 hro3 d8 d9 v0 vf v1 v2
       go_wp2_with fail
       go_roundw
       case rel=>exact ⟨n+1,f3,A3,cp3,At2,ct2,r2,A10,c10,lo ++ [p],hnk,by rw[HE.out.2.2.2.2.2.2.2.1],HZ.out.2.2.2.2,HE.out.2.2.2.1,HE.out.2.2.1,HZ.out.1,HZ.out.2.1,HZ.out.2.2.1,HZ.out.2.2.2.1⟩
       case measure=>
        have:=HE.out.2.2.2.2.2.2.2.2
        simp[FD]
        omega
      ·have d8:decide ((0:Int) < (tn:Int))=false:=by simp;omega
       have d9:decide (0 < tn)=false:=by simp;omega
       have hS2:(fun y=>eZ r k y∧y≠x)=eZ r2 k:=by
        rw[HE.out.2.2.2.2.2.2.1,show t=[] from List.eq_nil_of_length_eq_zero (by have:=HQ.out.2.2.2.2.2.2.2.2.2.2.2.2.2.2.2.2.2.2.1;omega)]
        exact Ad
       have HC:=zh hS2
       clear hS2
       go_wp2_with (rw[←HW11.out])
       go_roundw
       case rel=>exact ⟨n,f2,A2,cp,At2,ct2,r2,A10,c10,lo ++ [p],by omega,by rw[HE.out.2.2.2.2.2.2.2.1],HE.out.1.ro,HE.out.2.2.2.1,HE.out.2.2.1,HE.out.2.1,HS2.out.2.1,by rw[←HC.out];exact HS2.out.2.2.1,HE.out.1.hb⟩
       case measure=>
        have:=HE.out.2.2.2.2.2.2.2.2
        simp[FD]
        omega
     ·have hl1:lo.length=lo'.length+1:=by rw[e0];simp
      have hl3:lo.getD lo'.length ⟨0,0,0⟩=q:=by rw[e0];simp[List.getD_eq_getElem?_getD]
      have hlt:∀ q ∈ lo,q.t < p.t:=fun y hy=>HQ.out.2.2.2.1.parts.2.2 y hy p (by rw[HQ.out.2.2.2.2.2.2.2.2.1];exact List.mem_cons_self)
      have hq:decide (q.t < p.t)=true:=by
       have:=hlt q (by rw[e0];simp)
       simp;exact this
      have d1:((lo.length:Int) == 0)=false:=by rw[hl1];simp;omega
      have e2:IntKind.i64.wrap ((lo.length:Int)-1)=((lo'.length:Nat):Int):=by simp only[IntKind.wrap_i64];omega
      have e3:((lo'.length:Nat):Int) < (lo.length:Int):=by omega
      have e1:(0:Int) < (tn:Int)+1:=by omega
      obtain⟨go,rfl⟩:∃ go,Ao=some ⟨go,0,none⟩:=by
       obtain⟨A9,c9,e9,-,hg9⟩:=aA HQ.out.1
       obtain⟨g,hA,-⟩:=hg9 (by omega)
       injection e9 with e9
       exact⟨g,by rw[e9,hA]⟩
      have hclo:∀ wx,nA w.heap.size h A2 cp (fT At' ct' r) f2 n gc (.slice (some ⟨bx,ox,none⟩) (tn+1) cx) x (.slice (some ⟨go,0,none⟩) lo.length co) lo w wx→wx.cell? ⟨go,lo'.length*3,none⟩=some (.int .i64 q.t)∧wx.cell? ⟨bx,ox,none⟩=some (.int .i64 p.t):=fun wx m=>by
       have h1:=(lN m.ro.sl (j:=lo'.length) (by omega)).1
       have h2:=(lN (HQ.out.2.2.2.2.2.2.2.2.2.1.below m.hb.bel) (j:=0) (by simp)).1
       rw[HQ.out.2.2.2.2.2.2.2.2.2.2.2.2.2.2.2.1] at h2
       simp only[hl3,Nat.zero_add] at h1
       exact⟨h1,by simpa using h2⟩
      have HCL:=zh hclo
      clear hclo e0 hl1 hl3
      have hS:(nA w.heap.size h A2 cp (fT At' ct' r) f2 n gc (.slice (some ⟨bx,ox,none⟩) (tn+1) cx) x (.slice (some ⟨go,0,none⟩) lo.length co) lo w) (w3.drew):=hS
      refine av (nA w.heap.size h A2 cp (fT At' ct' r) f2 n gc (.slice (some ⟨bx,ox,none⟩) (tn+1) cx) x (.slice (some ⟨go,0,none⟩) lo.length co) lo w) (by kernel_rfl) hS ?_
      refine zB [0,1,2,3,4,5,6,7,8,9,10,11,12,13,14,15] ?_
      iterate 16 (refine zV ?_ ?_ hS ?_;rotate_left;(intro w' hSw;have u0:w'.cell? ⟨gc,0,none⟩=some (.slice (some ⟨bx,ox,none⟩) (tn+1) cx):=hSw.bc.cell 0;have u1:=(HCL.out _ hSw).1;have u2:=(HCL.out _ hSw).2;go_simp<;>with_reducible rfl);try simp only[zP])
      refine zE ?_
      refine zD ?_
      try simp only[zP]
      clear hS d1 e1 e2 e3 hq
      have v0:w3.drew.cell? ⟨gc,0,none⟩=some (.slice (some ⟨bx,ox,none⟩) (tn+1) cx):=H3.out.drew.bc.cell 0
      have hsx3:=lN (HQ.out.2.2.2.2.2.2.2.2.2.1.below H3.out.drew.hb.bel) (j:=0) (by simp)
      rw[HQ.out.2.2.2.2.2.2.2.2.2.2.2.2.2.2.2.1] at hsx3
      have c0:w3.drew.cell? ⟨bx,ox,none⟩=some (.int .i64 p.t):=by simpa using hsx3.1
      have c1:w3.drew.cell? ⟨bx,ox+1,none⟩=some (.int .i64 p.v):=by simpa using hsx3.2.1
      have c2:w3.drew.cell? ⟨bx,ox+2,none⟩=some (.int .i64 p.s):=by simpa using hsx3.2.2
      clear hsx3
      have HLT:=zh hlt
      clear hlt
      have e1:(0:Int) < (tn:Int)+1:=by omega
      go_wp2_with (at_builtin;refine jM (base:=w.heap.size) (p:=p) (l:=lo) rfl (.tmp 57) (.tmp 62) rfl rfl rfl ?hown ?hg ?h63 ?hbase ?_)
      case hown=>exact H3.out.drew.ro.below ((Below.refl _ _).alloc (Nat.le_refl _) _)
      case hg=>exact au.fresh _ _ _
      case h63=>omega
      case hbase=>have:=H3.out.hb.size;simp;omega
      intro v10 w10 hr10 hg10 hx10
      have m10:=(H3.out.drew.call ((Below.refl _ _).alloc (Nat.le_refl _) (.cells #[.int .i64 p.t,.int .i64 p.v,.int .i64 p.s] 149))).grown rfl hr10 hg10
      obtain⟨A10,c10,hv10,hc10⟩:=hr10.form
      subst hv10
      clear hr10 hg10 hx10 v0 c0 c1 c2
      obtain⟨nl,hnl⟩:∃ nl,nl=(lo ++ [p]).length:=⟨_,rfl⟩
      have hnl2:nl=lo.length+1:=by rw[hnl];simp
      rw[←hnl] at m10 ⊢
      have hne10:∀ g,(Value.slice A2 n cp).ownBlock=some g→g≠gc:=fun g hg e=>by
       have h1:=(HS2.out.1.row.lt g hg).2
       have h2:=HGC.out
       omega
      have hgB:w.heap.size≤gc:=by rw[HGC.out];exact Nat.le_trans HQ.out.2.2.2.2.2.2.2.2.2.2.2.2.2.2.2.2.2.2.2.size HS2.out.2.2.2.size
      obtain⟨w11,hw11⟩:∃ w11,w11=w10.setCell ⟨gc,0,none⟩ (.slice A1 tn (cx-1)):=⟨_,rfl⟩
      have m11:=m10.set (.slice A1 tn (cx-1)) hw11 hne10 hgB
      have v0:w10.cell? ⟨gc,0,none⟩=some (.slice (some ⟨bx,ox,none⟩) (tn+1) cx):=m10.bc.cell 0
      have vf:=m10.bc.frozen
      have v1:w11.cell? ⟨gc,0,none⟩=some (.slice A1 tn (cx-1)):=m11.bc.cell 0
      have v2:w11.cell? ⟨gc,1,none⟩=some (.int .i64 (x:Nat)):=m11.bc.cell 1
      have hup:=(HQ.out.2.2.1).upd (x:=x) (A1:=A1) (c1:=cx-1) HQ.out.2.2.2.2.2.2.1 (by
       have:=HQ.out.2.2.2.2.2.2.2.2.2.2.2.2.2.2.2.2.2.1 w _ _ (by rw[HQ.out.2.2.2.2.2.2.2.2.2.2.2.2.2.2.2.2.2.2.1];exact HQ.out.2.2.2.2.2.2.2.2.2.1)
       rw[HQ.out.2.2.2.2.2.2.2.2.2.2.2.2.2.2.2.2.2.2.1] at this
       exact this) (by have:=HQ.out.2.2.2.2.2.2.2.2.2.2.1;simp at this;omega)
      obtain⟨At2,hAt2⟩:∃ a,a=fun y=>if y=x then A1 else At' y:=⟨_,rfl⟩
      obtain⟨ct2,hct2⟩:∃ a,a=fun y=>if y=x then cx-1 else ct' y:=⟨_,rfl⟩
      obtain⟨r2,hr2⟩:∃ a,a=gL r x t:=⟨_,rfl⟩
      rw[←hAt2,←hct2,←hr2] at hup
      have hcat2:(lo ++ [p]) ++ aQ r2 k=aQ pl k:=by rw[←HQ.out.2.1,HQ.out.2.2.2.2.2.2.2.2.1,hr2];simp
      have hinc2:Inc (aQ r2 k):=by
       have:Inc ((lo ++ [p]) ++ aQ r2 k):=by rw[hcat2];exact HD.out.2.2.1
       exact this.parts.2.1
      have hits:∀ y,y≠x→fT At' ct' r y=fT At2 ct2 r2 y:=fun y hy=>by
       rw[hAt2,hct2,hr2];unfold fT gL;simp[hy]
      have hitx:fT At2 ct2 r2 x=.slice A1 tn (cx-1):=by
       rw[hAt2,hct2,hr2,HQ.out.2.2.2.2.2.2.2.2.2.2.2.2.2.2.2.2.2.2.1];unfold fT gL;simp
      have hh11:aJ w11 w.heap.size h A2 cp (fT At2 ct2 r2) f2 n:=m11.hp.congr (fun j hj=>hits _ (HS2.out.2.2.1.mem j hj).2)
      have hfull:lo.length+1≤(aQ pl k).length:=by rw[←hcat2];simp
      have HE:=zh (zN m11 (zN hh11 (zN hup (zN hcat2 (zN hinc2 (zN hitx (zN hr2 (zN hnl hnl2))))))))
      have HW11:=zh hw11
      clear m10 m11 hh11 hup hcat2 hinc2 hits hitx hr2 hnl hnl2 hAt2 hct2 hw11 hne10 hgB
      by_cases ht0:0 < tn
      ·have d8:decide ((0:Int) < (tn:Int))=true:=by simp;omega
       have d9:decide (0 < tn)=true:=by simp;omega
       have hS2:(fun y=>(eZ r k y∧y≠x)∨y=x)=eZ r2 k:=by
        rw[HE.out.2.2.2.2.2.2.1]
        exact Ci HQ.out.2.2.2.2.2.1.1 (by have:=HQ.out.2.2.2.2.2.2.2.2.2.2.2.2.2.2.2.2.2.2.1;omega) HQ.out.2.2.2.2.2.1.2
       have hcall:=uP w w11 w.heap.size h A2 cp (fT At2 ct2 r2) (qb r2) f2 n (fun y=>eZ r k y∧y≠x) x HE.out.1.hb.bel (Nat.le_refl _) HE.out.2.1 HS2.out.2.1 HS2.out.2.2.1 (fun h=>h.2 rfl) (by rw[hS2];exact Jm HE.out.2.2.1.sl HE.out.2.2.2.2.1) (by omega)
       rw[HE.out.2.2.2.2.2.1] at hcall
       have HC:=zh (zN hcall hS2)
       clear hcall hS2
       go_wp2_with (rw[←HW11.out])
       refine HC.out.1.mono ?_
       rintro e w12 ⟨rfl,A3,cp3,f3,h3,p3,s3,b3⟩
       have hro3:aX w12 w.heap.size (.slice A10 nl c10) (lo ++ [p]):=(HE.out.1.ro).keeps b3.hk (fun g hg ht=>by
        have:=fQ HE.out.1.ro hg
        rcases ht with ht | ht<;>rw[this] at ht<;>exact absurd ht (by decide))
       rw[HC.out.2] at s3
       have HZ:=zh (zN h3 (zN p3 (zN s3 (zN (HE.out.1.hb.trans b3) hro3))))
       clear h3 p3 s3 b3 hro3 d8 d9 v0 vf v1 v2
       go_wp2_with fail
       go_roundw
       case rel=>exact ⟨n+1,f3,A3,cp3,At2,ct2,r2,A10,c10,lo ++ [p],hnk,by rw[HE.out.2.2.2.2.2.2.2.1],HZ.out.2.2.2.2,HE.out.2.2.2.1,HE.out.2.2.1,HZ.out.1,HZ.out.2.1,HZ.out.2.2.1,HZ.out.2.2.2.1⟩
       case measure=>
        have:=HE.out.2.2.2.2.2.2.2.2
        simp[FD]
        omega
      ·have d8:decide ((0:Int) < (tn:Int))=false:=by simp;omega
       have d9:decide (0 < tn)=false:=by simp;omega
       have hS2:(fun y=>eZ r k y∧y≠x)=eZ r2 k:=by
        rw[HE.out.2.2.2.2.2.2.1,show t=[] from List.eq_nil_of_length_eq_zero (by have:=HQ.out.2.2.2.2.2.2.2.2.2.2.2.2.2.2.2.2.2.2.1;omega)]
        exact Ad
       have HC:=zh hS2
       clear hS2
       go_wp2_with (rw[←HW11.out])
       go_roundw
       case rel=>exact ⟨n,f2,A2,cp,At2,ct2,r2,A10,c10,lo ++ [p],by omega,by rw[HE.out.2.2.2.2.2.2.2.1],HE.out.1.ro,HE.out.2.2.2.1,HE.out.2.2.1,HE.out.2.1,HS2.out.2.1,by rw[←HC.out];exact HS2.out.2.2.1,HE.out.1.hb⟩
       case measure=>
        have:=HE.out.2.2.2.2.2.2.2.2
        simp[FD]
        omega
end
section
open Go.RowKit Go.Maps
def Lf(w:World)(L:List Pt)(e:Ending)(w':World): Prop:=
 ∃ (ps M o:Nat) (Ab:Option Addr) (cb cn:Nat) (VS:Nat→Value),e=.returned (.tuple #[.pointer (some ⟨ps,0,none⟩),.int .i64 0])∧mZ w' ps (sO (fun _=>fJ L) (fun _=>L.length) 1) lG (fun _=>fJ L) (fun _=>L.length) 1 M o Ab cb cn VS∧Below w.heap.size w w'
theorem JM(w:World)(st d M:Nat)(p:ByteArray→Option FS)(room T G:Nat)(nb:ByteArray)(L:List Pt)(hst:w.cell? ⟨st,0,none⟩=some (.pointer (some ⟨d,0,none⟩)))(hD:bq w d M p room T G)(hf:fb p nb=some (pW L))(hL:qw L)(hv:V.cu w)(hT:T≤1048576)(hs:nb.size≤64)(ft lt:Int)(ln:Nat)(hft:ft=j4 L)(hlt:lt=j6 L)(hln:ln=L.length):
  Calls Tryz.prog 218 #[.pointer (some ⟨st,0,none⟩),.agg #[.string nb,.int .i64 ft,.int .i64 lt,.int .i64 (ln:Nat)]] w (Lf w L):=by
 obtain⟨x,hx⟩:∃ x,x=w.heap.size:=⟨_,rfl⟩
 have o0:=Own.eX w hx 164 #[.string nb,.int .i64 ft,.int .i64 lt,.int .i64 (ln:Nat)]
 have HD:=zh (zN hst (zN hD (zN hf (zN hL (zN hv (zN o0 (zN hft (zN hlt hln))))))))
 clear hst hD hf hL hv o0 hft hlt hln
 go_enter Tryz.func218,Tryz.ntmps218
 go_wp2_with fail
 rw[←hx]
 clear hx
 refine aH (Own w [(x,164,#[.string nb,.int .i64 ft,.int .i64 lt,.int .i64 (ln:Nat)])]) HD.out.2.2.2.2.2.1 ?_
 intro w1 h1
 have hS:=h1.drew
 clear h1
 have hS:(Own w [(x,164,#[.string nb,.int .i64 ft,.int .i64 lt,.int .i64 (ln:Nat)])]) (w1.drew):=hS
 refine av (Own w [(x,164,#[.string nb,.int .i64 ft,.int .i64 lt,.int .i64 (ln:Nat)])]) (by kernel_rfl) hS ?_
 refine zB [0,1,2,3,4,5] ?_
 iterate 6 (refine zV ?_ ?_ hS ?_;rotate_left;(intro w' hSw;have u0:=dw hSw.bel HD.out.1;have u1:=hSw.cell 0 0 rfl rfl;go_simp<;>with_reducible rfl);try simp only[zP])
 refine zE ?_
 refine zC 6 fun K HK=>?_
 go_simp
 refine(Fv w1.drew d M nb (pW L) p room T G (HD.out.2.1.call hS.bel) HD.out.2.2.1 hT hs).mono ?_
 rintro e w2 ⟨A2,c2,rfl,hr2,hb2⟩
 obtain⟨bs,hbs⟩:∃ bs,bs=pW L:=⟨_,rfl⟩
 rw[←hbs] at hr2 ⊢
 obtain⟨n2,hn2⟩:∃ n,n=bs.length:=⟨_,rfl⟩
 rw[←hn2] at hr2 ⊢
 have h2:=hS.call hb2
 have H2:=zh (zN h2 (zN hr2 (zN hbs hn2)))
 clear hr2 hb2 hbs hn2
 go_wp2_with fail
 refine HK.out.zt (Own w [(x,164,#[.string nb,.int .i64 ft,.int .i64 lt,.int .i64 (ln:Nat)])]) (fun _ h=>h) (h2) ?_
 clear HK hS
 intro hS
 try simp only[zP]
 refine zB [7,8,9,10,11] ?_
 iterate 5 (refine zV ?_ ?_ hS ?_;rotate_left;(intro w' hSw;go_simp<;>with_reducible rfl);try simp only[zP])
 refine zE ?_
 refine zD ?_
 try simp only[zP]
 clear hS h2
 go_wp2_with fail
 have hfile:=HD.out.2.2.2.1.file
 have hr2:=H2.out.2.1
 refine(wI w2 A2 n2 c2 bs _ lG (fun _=>fJ L) (fun _=>L.length) 1 (by rw[H2.out.2.2.1];exact hfile.2.2) hfile.2.1 H2.out.2.2.2.symm (V.dN (by have:=H2.out.2.1;rw[H2.out.2.2.2] at this ⊢;exact this)) (V.iC hr2).1 (V.iC hr2).2 (HD.out.2.2.2.2.1.below H2.out.1.bel)).mono ?_
 rintro e w3 ⟨p3,M3,o3,Ab3,cb3,cn3,VS3,rfl,hseg3,hb3⟩
 have H3:=zh (zN (H2.out.1.call hb3) (zN hseg3 hfile))
 clear hseg3 hb3 hfile hr2
 go_wp2_with fail
 have hF:=Ah HD.out.2.2.2.1.sm
 have hll:=HD.out.2.2.2.1.le
 have hl0:=HD.out.2.2.2.1.pos
 refine(CB w3 p3 _ lG (fun _=>fJ L) (fun _=>L.length) M3 o3 Ab3 cb3 cn3 VS3 H3.out.2.1 H3.out.2.2.2.1 (by show 0 < L.length;omega) (by show L.length≤1000;omega) (j4 L) (j6 L) rfl rfl ⟨by have:=(hF 0).1;show _≤(fJ L 0).t;omega,by have:=(hF 0).1;show (fJ L 0).t≤_;omega⟩ ⟨by have:=(hF (L.length-1)).1;show _≤(fJ L (L.length-1)).t;omega,by have:=(hF (L.length-1)).1;show (fJ L (L.length-1)).t≤_;omega⟩).mono ?_
 clear hF hll hl0
 rintro e w4 ⟨rfl,hb4⟩
 rw[←HD.out.2.2.2.2.2.2.1,←HD.out.2.2.2.2.2.2.2.1]
 have h4:=H3.out.1.call hb4
 have hS:=h4.drew
 have H4:=zh (zN h4 (H3.out.2.1.below hb4))
 clear h4 hb4
 go_wp2_with fail
 have d1:(ft != ft)=false:=by simp
 have d2:(lt != lt)=false:=by simp
 have hS:(Own w [(x,164,#[.string nb,.int .i64 ft,.int .i64 lt,.int .i64 (ln:Nat)])]) (w4.drew):=hS
 refine av (Own w [(x,164,#[.string nb,.int .i64 ft,.int .i64 lt,.int .i64 (ln:Nat)])]) (by kernel_rfl) hS ?_
 refine zB [0,1,2,3,4,5,6,7,8,9,10] ?_
 iterate 11 (refine zV ?_ ?_ hS ?_;rotate_left;(intro w' hSw;have u1:=hSw.cell 0 1 rfl rfl;have u2:=hSw.cell 0 2 rfl rfl;go_simp<;>with_reducible rfl);try simp only[zP])
 refine zE ?_
 refine zB [11,13,14] ?_
 iterate 3 (refine zV ?_ ?_ hS ?_;rotate_left;(intro w' hSw;have u3:=hSw.cell 0 3 rfl rfl;go_simp<;>with_reducible rfl);try simp only[zP])
 refine zE ?_
 refine zC 12 fun K HK=>?_
 go_simp
 refine(zQ w4.drew p3 _ lG (fun _=>fJ L) (fun _=>L.length) 1 M3 o3 Ab3 cb3 cn3 VS3 (H4.out.2.below (Below.refl _ _).drew) H3.out.2.2.2.1).mono ?_
 rintro e w5 ⟨rfl,hb5⟩
 rw[show oQ (fun _=>L.length) 1=ln by rw[HD.out.2.2.2.2.2.2.2.2];show 0+L.length=_;omega]
 have h5:=hS.call hb5
 have H5:=zh (zN h5 ((H4.out.2.below (Below.refl _ _).drew).below hb5))
 clear hb5
 go_wp2_with fail
 refine HK.out.zt (Own w [(x,164,#[.string nb,.int .i64 ft,.int .i64 lt,.int .i64 (ln:Nat)])]) (fun _ h=>h) (h5) ?_
 clear HK hS
 intro hS
 try simp only[zP]
 refine zB [15,16] ?_
 iterate 2 (refine zV ?_ ?_ hS ?_;rotate_left;(intro w' hSw;go_simp<;>with_reducible rfl);try simp only[zP])
 refine zE ?_
 refine zD ?_
 try simp only[zP]
 clear hS h5 d1 d2
 go_wp2_with fail
 go_ret2
 exact⟨p3,M3,o3,Ab3,cb3,cn3,VS3,rfl,H5.out.2,H5.out.1.bel⟩
end
section
open Go.RowKit Go.Maps
theorem Ra: dL Tryz.prog 285 186 (.slice none 0 0) 24:=dL.mk' Tryz.underlying285 rfl (by kernel_rfl)
def EL(At:Nat→Option Addr)(ct:Nat→Nat)(pl:Nat→List Pt)(k:Nat): List Value:=(List.range k).map (fT At ct pl)
theorem RS(At:Nat→Option Addr)(ct:Nat→Nat)(pl:Nat→List Pt)(k:Nat)(A:Option Addr)(c:Nat): EL (fun y=>if y=k then A else At y) (fun y=>if y=k then c else ct y) pl (k+1)=EL At ct pl k ++ (List.range 1).map (fun _=>Value.slice A (pl k).length c):=by
 unfold EL
 rw[List.range_succ,List.map_append]
 congr 1
 ·apply List.map_congr_left
  intro y hy
  have:=List.mem_range.1 hy
  unfold fT
  simp[show ¬ y=k by omega]
 ·show [fT _ _ _ k]=[_]
  unfold fT
  simp
theorem Hl{r:Nat→List Pt}{m K:Nat}(h:∀ j,j < K→(r j).length≤m): ∀ k,k≤K→(aQ r k).length≤m*k
 | 0,_=>Nat.zero_le _
 | k+1,hk=>by
  rw[MR]
  have h1:=Hl h k (by omega)
  have h2:=h k (by omega)
  rw[Nat.mul_succ]
  omega
def Tz(w:World)(l:List Pt)(e:Ending)(w':World): Prop:=∃ A c,e=.returned (.tuple #[.slice A l.length c,.int .i64 0])∧aX w' w.heap.size (.slice A l.length c) l∧Below w.heap.size w w'
theorem He{L:List Pt}{a b:Int}(h:∀ p ∈ L,a≤p.t∧p.t < b): eD (fJ L) a b L.length=L:=by
 rw[IB (fJ L) a b L.length (fun j hj=>by
  have:=h _ (jQ (l:=L) hj)
  unfold jf fJ
  rw[decide_eq_true this.1,decide_eq_true this.2]
  rfl)]
 exact JG L
structure uW(w wx:World)(At:Nat→Option Addr)(ct:Nat→Nat)(pl:Nat→List Pt)(k:Nat)(v:Value): Prop where
 row:wx.ownsRow w.heap.size 186 1 v k (EL At ct pl k)
 pts:∀ j,j < k→aX wx w.heap.size (.slice (At j) (pl j).length (ct j)) (pl j)
 bel:Below w.heap.size w wx
theorem uW.call{w wx wy:World}{At:Nat→Option Addr}{ct:Nat→Nat}{pl:Nat→List Pt}{k:Nat}{v:Value}(h:uW w wx At ct pl k v)(hb:Below wx.heap.size wx wy): uW w wy At ct pl k v:=
 ⟨V.bH h.row hb,fun j hj=>(h.pts j hj).below hb,h.bel.trans (hb.mono h.bel.size)⟩
theorem uW.app{w wx wy:World}{At:Nat→Option Addr}{ct:Nat→Nat}{pl:Nat→List Pt}{k c:Nat}{v v':Value}{A:Option Addr}(h:uW w wx At ct pl k v)(hp:aX wx w.heap.size (.slice A (pl k).length c) (pl k))(hr:wy.ownsRow w.heap.size 186 1 v' (k+1) (EL At ct pl k ++ (List.range 1).map (fun _=>Value.slice A (pl k).length c)))(hg:wx.grownBy wy v.ownBlock): uW w wy (fun y=>if y=k then A else At y) (fun y=>if y=k then c else ct y) pl (k+1) v':=by
 have hk:Keeps (fun q=>v.ownBlock=some q) wx wy:=(Keeps.refl _ _).grown hg (fun q e _=>e)
 have hkp:∀ (A9:Option Addr) (c9:Nat) (l:List Pt),aX wx w.heap.size (.slice A9 l.length c9) l→aX wy w.heap.size (.slice A9 l.length c9) l:=fun A9 c9 l h9=>h9.keeps hk (fun g hg9 e=>by
  have h1:=fQ h.row e
  have h2:=fQ h9 hg9
  rw[h1] at h2
  exact absurd h2 (by decide))
 refine⟨by rw[RS];exact hr,fun j hj=>?_,h.bel.grown hg h.bel.size (fun q hq=>(h.row.lt q hq).1)⟩
 by_cases e:j=k
 ·subst e
  simp only[if_pos]
  exact hkp _ _ _ hp
 ·simp only[if_neg e]
  exact hkp _ _ _ (h.pts j (by omega))
theorem D6(w:World)(st d M:Nat)(p:ByteArray→Option FS)(room T G N R q:Nat)(s:Bool)(la lg:Int)(A:Option Addr)(Kf cp:Nat)(pl:Nat→List Pt)(a b:Int)(h:mX w st d N R q s la lg A Kf cp pl)(hD:bq w d M p room T G)(hfs:SV (fb p) pl Kf)(hpl:nu pl Kf)(hv:V.cu w)(hT:T≤1048576)(hK:Kf≤400)(hab:∀ j,j < Kf→∀ x ∈ pl j,a≤x.t∧x.t < b):
  Calls Tryz.prog 150 #[.pointer (some ⟨st,0,none⟩),.string bD,.int .i64 a,.int .i64 b] w (Tz w (aQ pl Kf)):=by
 have HD:=zh (zN h (zN hD (zN hfs (zN hpl (zN hv hab)))))
 clear h hD hfs hpl hv hab
 go_enter Tryz.func150,Tryz.ntmps150
 go_wp2_with fail
 refine(rz w st d (HD.out.1.blk.cell 0)).mono ?_
 rintro e w1 ⟨rfl,hb1⟩
 have u7:w1.cell? ⟨st,7,none⟩=some (.slice A Kf cp):=(HD.out.1.call hb1).blk.cell 7
 have H1:=zh hb1
 clear hb1
 go_wp2_with fail
 clear u7
 go_loopw [10,24] (fun v i wr=>∃ (k:Nat) (At:Nat→Option Addr) (ct:Nat→Nat),k≤Kf∧i=.int .i64 (k:Nat)∧uW w wr At ct pl k v) (fun _ i _=>Kf-(intOf i).toNat)
 case atStart=>exact ⟨0,fun _=>none,fun _=>0,Nat.zero_le _,rfl,⟨⟨rfl,.inl ⟨rfl,rfl⟩⟩,fun j hj=>absurd hj (by omega),H1.out⟩⟩
 case round=>
  obtain⟨k,At,ct,hk,rfl,hg⟩:=hrel
  obtain⟨Av,cv,hvv,hcv,-⟩:=aA hg.row
  subst hvv
  by_cases hlt:k < Kf
  ·have d1:decide ((k:Int) < (Kf:Int))=true:=by simp;omega
   have hki:(k:Int) < (Kf:Int):=by omega
   obtain⟨g,hA,-,hc⟩:=((QG HD.out.1.row).KQ hg.bel) (by omega)
   subst hA
   obtain⟨⟨f0,f1⟩,f2,f3⟩:=hc k hlt
   obtain⟨nb,hnb⟩:∃ a,a=bU 115 k:=⟨_,rfl⟩
   obtain⟨ft,hft⟩:∃ a,a=j4 (pl k):=⟨_,rfl⟩
   obtain⟨lt,hltt⟩:∃ a,a=j6 (pl k):=⟨_,rfl⟩
   obtain⟨ln,hln⟩:∃ a,a=(pl k).length:=⟨_,rfl⟩
   rw[←hnb] at f0
   rw[←hft] at f1
   rw[←hltt] at f2
   rw[←hln] at f3
   have hlok:=HD.out.2.2.2.1.Uu hlt
   have hin:=HD.out.2.2.2.2.2 k hlt
   have i1:=(hin _ (jQ (j:=(pl k).length-1) (by have:=hlok.pos;omega))).1
   have i2:=(hin _ (jQ (j:=0) hlok.pos)).2
   have d2:decide (lt < a)=false:=by rw[hltt];simp;exact i1
   have d3:decide (b≤ft)=false:=by rw[hft];simp;exact i2
   have HW:=zh (zN hg (zN hnb (zN hft (zN hltt (zN hln (zN hlok hin))))))
   clear hg hc hnb hft hltt hln hlok hin i1 i2
   go_upto_region 7 with (fail)
   obtain⟨x,hx⟩:∃ x,x=wr.heap.size:=⟨_,rfl⟩
   rw[←hx]
   have al:Below wr.heap.size wr (wr.alloc (.cells #[.string nb,.int .i64 ft,.int .i64 lt,.int .i64 (ln:Nat)] 164)):=(Below.refl _ _).alloc (Nat.le_refl _) _
   refine aH (fun wx=>uW w wx At ct pl k (.slice Av k cv)∧au wx x 164 #[.string nb,.int .i64 ft,.int .i64 lt,.int .i64 (ln:Nat)]) ⟨HW.out.1.call al,by rw[hx];exact au.fresh _ _ _⟩ ?_
   rintro w2 ⟨g2,b2⟩
   have q0:w2.cell? ⟨x,0,none⟩=some (.string nb):=b2.cell 0
   have q1:w2.cell? ⟨x,1,none⟩=some (.int .i64 ft):=b2.cell 1
   have q2:w2.cell? ⟨x,2,none⟩=some (.int .i64 lt):=b2.cell 2
   have q3:w2.cell? ⟨x,3,none⟩=some (.int .i64 (ln:Nat)):=b2.cell 3
   have H2:=zh g2
   clear g2 b2 al hx f0 f1 f2 f3
   go_wp2_with fail
   clear q0 q1 q2 q3 d1 d2 d3
   refine(JM w2 st d M p room T G nb (pl k) (dw H2.out.bel (HD.out.1.blk.cell 0)) (HD.out.2.1.call H2.out.bel) (by rw[HW.out.2.1];exact HD.out.2.2.1 k hlt) HW.out.2.2.2.2.2.1 (HD.out.2.2.2.2.1.below H2.out.bel) hT (by rw[HW.out.2.1,dZ];omega) ft lt ln HW.out.2.2.1 HW.out.2.2.2.1 HW.out.2.2.2.2.1).mono ?_
   rintro e w3 ⟨ps,M3,o3,Ab3,cb3,cn3,VS3,rfl,hseg3,hb3⟩
   have H3:=zh (zN (H2.out.call hb3) hseg3)
   clear hseg3 hb3
   go_wp2_with fail
   have hfile:=HW.out.2.2.2.2.2.1.file
   refine(Gl w3 ps lG (fun _=>fJ (pl k)) (fun _=>(pl k).length) 1 M3 o3 Ab3 cb3 cn3 VS3 H3.out.2 hfile.2.1 (by
    have h1:=hfile.2.2.fl
    have h2:=HW.out.2.2.2.2.2.1.len
    have h3:=hfile.2.2.len
    omega) (fun _=>uM HW.out.2.2.2.2.2.1.sm) 0 (by omega) a b (HD.out.2.2.2.2.1.below H3.out.1.bel)).mono ?_
   clear hfile
   rintro e w4 ⟨hb4,v4,rfl,hr4⟩
   rw[He HW.out.2.2.2.2.2.2] at hr4
   obtain⟨A4,c4,hv4,hc4⟩:=hr4.form
   subst hv4
   have H4:=zh (zN (H3.out.1.call hb4) (aU hr4 H3.out.1.bel.size))
   clear hr4 hb4
   go_wp2_with (at_builtin;refine aW Ra (base:=w.heap.size) (n:=k) (m:=1) (xs:=EL At ct pl k) (D:=fun q=>q=w4.heap.size) (f:=fun _=>Value.slice A4 (pl k).length c4) rfl (.tmp 58) (.tmp 60) rfl rfl rfl ?hown ?hsl ?h1 ?h63 ?hbytes ?hbase ?_)
   case hown=>exact V.bH H4.out.1.row ((Below.refl _ _).alloc (Nat.le_refl _) _)
   case hsl=>exact kS _ _ _
   case h1=>exact fun _ _=>rfl
   case h63=>unfold maxLen;omega
   case hbytes=>omega
   case hbase=>have:=H4.out.1.bel.size;simp;omega
   intro v6 w6 hr6 hg6 hx6
   have al:Below w4.heap.size w4 (w4.alloc (.cells #[.slice A4 (pl k).length c4] 186)):=(Below.refl _ _).alloc (Nat.le_refl _) _
   have g6:=(H4.out.1.call al).app (aX.below H4.out.2 al) hr6 hg6
   have H6:=zh g6
   clear hr6 hg6 hx6 al g6
   go_wp2_with fail
   go_roundw
   case rel=>exact ⟨k+1,_,_,by omega,by go_num,H6.out⟩
   case measure=>simp[intOf]<;>omega
  ·obtain rfl:k=Kf:=by omega
   have HG:=zh hg
   clear hg
   have hsl:Sl wr (fun q=>q < wr.heap.size) Av k (fT At ct pl):=(Sl.lQ HG.out.row (fun j u hu=>by
    unfold EL at hu
    rw[List.getElem?_map] at hu
    rcases Nat.lt_or_ge j k with hj | hj
    ·rw[List.getElem?_range hj] at hu
     simpa using hu.symm
    ·rw[List.getElem?_eq_none (by simpa using hj)] at hu
     cases hu)).mono (fun q hq=>(HG.out.row.lt q hq).2)
   have hlok:qC wr At ct pl k:=⟨fun j hj=>(HG.out.pts j hj).sl.mono (fun q hq=>((HG.out.pts j hj).fC q hq.2).2),fun j hj=>V.iC (HG.out.pts j hj)⟩
   have hlen:(aQ pl k).length≤40*k:=Hl (fun j hj=>(HD.out.2.2.2.1.len j hj).2) k (Nat.le_refl _)
   have hc:=AA wr Av k cv At ct pl hsl hlok HD.out.2.2.2.1.inc (by omega) (by omega)
   have HC:=zh hc
   clear hsl hlok hc
   go_wp2_with fail
   refine HC.out.mono ?_
   rintro e w3 ⟨A3,c3,rfl,hr3,hb3⟩
   have H3:=zh (zN (aU hr3 HG.out.bel.size) (HG.out.bel.trans (hb3.mono HG.out.bel.size)))
   clear hr3 hb3
   obtain⟨l3,hl3⟩:∃ l,l=(aQ pl k).length:=⟨_,rfl⟩
   rw[←hl3]
   have HL:=zh hl3
   clear hl3
   go_wp2_with fail
   go_ret2
   exact⟨A3,c3,by rw[HL.out];rfl,H3.out.1,H3.out.2⟩
end
section
open Go.RowKit Go.Maps
theorem KH(w:World)(lg:Int): Calls Tryz.prog 56 #[.agg #[.bool false,.int .i64 0,.int .i64 lg],.slice none 0 0] w fun e w'=>e=.returned (.tuple #[.agg (aP 0 0 0 false 0 lg none 0 0),.bool true])∧Below w.heap.size w w':=by
 obtain⟨x,hx⟩:∃ x,x=w.heap.size:=⟨_,rfl⟩
 have o0:=Own.oJ w hx 79 #[.bool false,.int .i64 0,.int .i64 lg] 92 (aP 0 0 0 false 0 0 none 0 0)
 have q0:=o0.cell 0 0 rfl rfl
 have q1:=o0.cell 0 1 rfl rfl
 have q2:=o0.cell 0 2 rfl rfl
 have HO:=zh o0
 clear o0
 unfold aP at q0 q1 q2
 go_enter Tryz.func56,Tryz.ntmps56
 go_upto_region 2 with (fail)
 have o3:=HO.out.alloc (g:=x+1+1) (by rw[hx];simp) 92 (aP 0 0 0 false 0 lg none 0 0)
 rw[←hx]
 clear hx q0 q1 q2
 refine aH (Own w [(x,79,#[.bool false,.int .i64 0,.int .i64 lg]),(x+1,92,aP 0 0 0 false 0 0 none 0 0),(x+1+1,92,aP 0 0 0 false 0 lg none 0 0)]) o3 ?_
 intro w1 h1
 clear o3
 go_wp2_with fail
 go_loopw [13] (fun i wr=>i=.int .i64 0∧Own w [(x,79,#[.bool false,.int .i64 0,.int .i64 lg]),(x+1,92,aP 0 0 0 false 0 0 none 0 0),(x+1+1,92,aP 0 0 0 false 0 lg none 0 0)] wr) (fun _ _=>0)
 case atStart=>exact ⟨rfl,h1⟩
 case round=>
  clear h1
  obtain⟨rfl,h2⟩:=hrel
  obtain⟨w3,hw3⟩:∃ wz,wz=((((((((wr.setCell ⟨x+1,0,none⟩ (.int .i64 0)).setCell ⟨x+1,1,none⟩ (.int .i64 0)).setCell ⟨x+1,2,none⟩ (.int .i64 0)).setCell ⟨x+1,3,none⟩ (.bool false)).setCell ⟨x+1,4,none⟩ (.int .i64 0)).setCell ⟨x+1,5,none⟩ (.int .i64 lg)).setCell ⟨x+1,6,none⟩ (.slice none 0 0)).setCell ⟨x+1,7,none⟩ (.slice none 0 0)):=⟨_,rfl⟩
  have o3:Own w [(x+1,92,aP 0 0 0 false 0 lg none 0 0)] w3:=by rw[hw3];exact (fu.of (h2.sub (List.Sublist.cons _ (List.Sublist.cons_cons _ (List.nil_sublist _)))) rfl).put [.int .i64 0,.int .i64 0,.int .i64 0,.bool false,.int .i64 0,.int .i64 lg,.slice none 0 0,.slice none 0 0] rfl
  have H2:=zh (zN h2 o3)
  have HW3:=zh hw3
  have z0_0:=h2.cell 0 0 rfl rfl;have z0_1:=h2.cell 0 1 rfl rfl;have z0_2:=h2.cell 0 2 rfl rfl;have z1_0:=h2.cell 1 0 rfl rfl;have z1_1:=h2.cell 1 1 rfl rfl;have z1_2:=h2.cell 1 2 rfl rfl;have z1_3:=h2.cell 1 3 rfl rfl;have z1_4:=h2.cell 1 4 rfl rfl;have z1_5:=h2.cell 1 5 rfl rfl;have z1_6:=h2.cell 1 6 rfl rfl;have z1_7:=h2.cell 1 7 rfl rfl;have z2_0:=h2.cell 2 0 rfl rfl;have z2_1:=h2.cell 2 1 rfl rfl;have z2_2:=h2.cell 2 2 rfl rfl;have z2_3:=h2.cell 2 3 rfl rfl;have z2_4:=h2.cell 2 4 rfl rfl;have z2_5:=h2.cell 2 5 rfl rfl;have z2_6:=h2.cell 2 6 rfl rfl;have z2_7:=h2.cell 2 7 rfl rfl
  have zf1:=h2.free 1 rfl
  clear h2 o3 hw3
  simp only[Int.ofNat_eq_natCast,Int.natCast_zero] at z1_0 z1_1 z1_2 z1_3 z1_4 z1_5 z1_6 z1_7 z2_0 z2_1 z2_2 z2_3 z2_4 z2_5 z2_6 z2_7
  go_wp2_with (rw[←HW3.out])
  clear z0_0 z0_1 z0_2 z1_0 z1_1 z1_2 z1_3 z1_4 z1_5 z1_6 z1_7 z2_0 z2_1 z2_2 z2_3 z2_4 z2_5 z2_6 z2_7 zf1
  have h3:=H2.out.2
  have z0_0:=h3.cell 0 0 rfl rfl;have z0_1:=h3.cell 0 1 rfl rfl;have z0_2:=h3.cell 0 2 rfl rfl;have z0_3:=h3.cell 0 3 rfl rfl;have z0_4:=h3.cell 0 4 rfl rfl;have z0_5:=h3.cell 0 5 rfl rfl;have z0_6:=h3.cell 0 6 rfl rfl;have z0_7:=h3.cell 0 7 rfl rfl
  simp only[Int.ofNat_eq_natCast,Int.natCast_zero] at z0_0 z0_1 z0_2 z0_3 z0_4 z0_5 z0_6 z0_7
  refine bodyPost_ret (v:=.tuple #[.agg (aP 0 0 0 false 0 lg none 0 0),.bool true]) (by unfold aP;simp[results,Tryz.results56,go_sem,z0_0,z0_1,z0_2,z0_3,z0_4,z0_5,z0_6,z0_7]) rfl ?_
  exact⟨rfl,H2.out.2.bel⟩
theorem zl(w:World)(N R q:Nat)(s:Bool)(la lg:Int): Calls Tryz.prog 59 #[.agg (aP N R q s la lg none 0 0)] w fun e w'=>∃ Mn,e=.returned (.map (some Mn))∧w'.ownsMap Tryz.prog 9 eP Mn 0 (.map [])∧Below w.heap.size w w':=by
 obtain⟨x,hx⟩:∃ x,x=w.heap.size:=⟨_,rfl⟩
 have o0:=Own.eX w hx 92 (aP N R q s la lg none 0 0)
 have hmm:=@run_makeMap Tryz.prog
 have HO:=zh o0
 clear o0
 unfold aP
 go_enter Tryz.func59,Tryz.ntmps59
 go_upto_region 2 with (fail)
 have hxx:x+1=(w.alloc (.cells (aP N R q s la lg none 0 0) 92)).heap.size:=by rw[hx];simp
 rw[←hx]
 clear hx
 refine aH (fun wx=>Own w [(x,92,aP N R q s la lg none 0 0)] wx∧wx.ownsMap Tryz.prog 9 eP (x+1) 0 (.map [])) ⟨HO.out.call ((Below.refl _ _).alloc (Nat.le_refl _) _),by rw[hxx];exact World.ownsMap_made _ _ _ _⟩ ?_
 rintro w1 ⟨h1,m1⟩
 clear hxx hmm
 have HM:=zh m1
 have z0_0:=h1.cell 0 0 rfl rfl;have z0_1:=h1.cell 0 1 rfl rfl;have z0_2:=h1.cell 0 2 rfl rfl;have z0_3:=h1.cell 0 3 rfl rfl;have z0_4:=h1.cell 0 4 rfl rfl;have z0_5:=h1.cell 0 5 rfl rfl;have z0_6:=h1.cell 0 6 rfl rfl;have z0_7:=h1.cell 0 7 rfl rfl
 have H1:=zh h1
 clear h1 m1
 go_wp2_with fail
 clear z0_0 z0_1 z0_2 z0_3 z0_4 z0_5 z0_6 z0_7
 go_loopw [12] (fun i wr=>i=.int .i64 0∧wr=w1) (fun _ _=>0)
 case atStart=>exact ⟨rfl,rfl⟩
 case round=>
  obtain⟨rfl,rfl⟩:=hrel
  have h1:=H1.out
  have z0_0:=h1.cell 0 0 rfl rfl;have z0_1:=h1.cell 0 1 rfl rfl;have z0_2:=h1.cell 0 2 rfl rfl;have z0_3:=h1.cell 0 3 rfl rfl;have z0_4:=h1.cell 0 4 rfl rfl;have z0_5:=h1.cell 0 5 rfl rfl;have z0_6:=h1.cell 0 6 rfl rfl;have z0_7:=h1.cell 0 7 rfl rfl
  clear h1
  go_wp2_with fail
  clear z0_0 z0_1 z0_2 z0_3 z0_4 z0_5 z0_6 z0_7
  go_loopw [23] (fun i wy=>i=.int .i64 0∧wy=wr) (fun _ _=>0)
  case atStart=>exact ⟨rfl,rfl⟩
  case round=>
   obtain⟨rfl,rfl⟩:=hrel
   go_wp2_with fail
   go_ret
   exact⟨_,rfl,HM.out,H1.out.bel⟩
theorem Nr(w:World)(st d M:Nat)(p:ByteArray→Option FS)(room T N R q:Nat)(s:Bool)(la lg:Int)(hst:au w st 128 (nG d N R q s la lg none 0 0))(hD:bq w d M p room T 0):
  Calls Tryz.prog 60 #[.pointer (some ⟨st,0,none⟩)] w fun e w'=>e=.returned (.int .i64 0)∧Below w.heap.size w w':=by
 have HD:=zh (zN hst hD)
 have z0_0:w.cell? ⟨st,1,none⟩=some (.int .i64 (N:Nat)):=hst.cell 1
 have z0_1:w.cell? ⟨st,2,none⟩=some (.int .i64 (R:Nat)):=hst.cell 2
 have z0_2:w.cell? ⟨st,3,none⟩=some (.int .i64 (q:Nat)):=hst.cell 3
 have z0_3:w.cell? ⟨st,4,none⟩=some (.bool s):=hst.cell 4
 have z0_4:w.cell? ⟨st,5,none⟩=some (.int .i64 la):=hst.cell 5
 have z0_5:w.cell? ⟨st,6,none⟩=some (.int .i64 lg):=hst.cell 6
 have z0_6:w.cell? ⟨st,7,none⟩=some (.slice none 0 0):=hst.cell 7
 have z0_7:w.cell? ⟨st,8,none⟩=some (.slice none 0 0):=hst.cell 8
 clear hst hD
 go_enter Tryz.func60,Tryz.ntmps60
 go_wp2_with fail
 clear z0_0 z0_1 z0_2 z0_3 z0_4 z0_5 z0_6 z0_7
 have hc:=zl w N R q s la lg
 unfold aP at hc
 refine hc.mono ?_
 clear hc
 rintro e w1 ⟨Mn,rfl,-,hb1⟩
 have H1:=zh hb1
 have hS:=hb1.drew
 clear hb1
 go_wp2_with fail
 have hS:(Below w.heap.size w) (w1.drew):=hS
 refine av (Below w.heap.size w) (by kernel_rfl) hS ?_
 refine zB [0,1,2,3,5,6,7,8,12] ?_
 iterate 9 (refine zV ?_ ?_ hS ?_;rotate_left;(intro w' hSw;have u0:=dw hSw (HD.out.1.cell 0);go_simp<;>with_reducible rfl);try simp only[zP])
 refine zE ?_
 refine zC 4 fun K HK=>?_
 go_simp
 refine(qh w1.drew d M _ p room T (HD.out.2.call hS)).mono ?_
 rintro e w2 ⟨rfl,hb2⟩
 have h2:=V.ay hS hb2
 clear hb2
 go_wp2_with fail
 refine HK.out.zt (Below w.heap.size w) (fun _ h=>h) (h2) ?_
 clear HK hS
 intro hS
 try simp only[zP]
 refine zC 9 fun K HK=>?_
 go_simp
 refine(qh w2 d M _ p room T (HD.out.2.call h2)).mono ?_
 rintro e w3 ⟨rfl,hb3⟩
 have h3:=V.ay h2 hb3
 clear hb3
 go_wp2_with fail
 refine HK.out.zt (Below w.heap.size w) (fun _ h=>h) (h3) ?_
 clear HK hS
 intro hS
 try simp only[zP]
 refine zC 10 fun K HK=>?_
 go_simp
 go_wp2_with fail
 refine HK.out.zt (Below w.heap.size w) (fun _ h=>h) (h3) ?_
 clear HK hS
 intro hS
 try simp only[zP]
 refine zT 11 ?_ ?_ hS ?_
 rotate_left
 ·(intro w' hSw;go_simp<;>with_reducible rfl)
 try simp only[zP]
 refine zD ?_
 try simp only[zP]
 clear hS h2
 go_wp2_with fail
 go_loopw [24] (fun i wy=>i=.int .i64 0∧wy=w3) (fun _ _=>0)
 case atStart=>exact ⟨rfl,rfl⟩
 case round=>
  obtain⟨rfl,rfl⟩:=hrel
  go_wp2_with fail
  go_ret
  exact⟨rfl,h3⟩
end
section
open Go.RowKit Go.Maps
def Nq(w:World)(d:Nat)(lg:Int)(pl:Nat→List Pt)(e:Ending)(w':World): Prop:=
 ∃ st,e=.returned (.tuple #[.pointer (some ⟨st,0,none⟩),.int .i64 0])∧w.heap.size≤st∧mX w' st d 0 0 0 false 0 lg none 0 0 pl∧Below w.heap.size w w'
theorem Jh(w:World)(d M:Nat)(room T:Nat)(lg:Int)(pl:Nat→List Pt)(hD:bq w d M (fun _=>none) room T 0)(hlg:V.dh false 0 lg=true):
  Calls Tryz.prog 23 #[.pointer (some ⟨d,0,none⟩),.int .i64 lg,.slice none 0 0] w (Nq w d lg pl):=by
 have HD:=zh (zN hD hlg)
 have nf:∀ w:World,(Op.unary .not (.bool false)).run Tryz.prog w=.ok (.bool true) w:=jV
 have nt:∀ w:World,(Op.unary .not (.bool true)).run Tryz.prog w=.ok (.bool false) w:=fF
 clear hD hlg
 go_enter Tryz.func23,Tryz.ntmps23
 go_wp2_with fail
 refine(jv w d M _ _ room T 0 HD.out.1 rfl (by decide)).mono ?_
 rintro e w1 ⟨rfl,hb1⟩
 have H1:=zh hb1
 clear hb1
 go_wp2_with fail
 refine(V.SI lg w1 HD.out.2).mono ?_
 rintro e w2 ⟨rfl,hb2⟩
 have H2:=zh (V.ay H1.out hb2)
 clear hb2
 go_upto_region 5 with (fail)
 obtain⟨x,hx⟩:∃ x,x=w2.heap.size:=⟨_,rfl⟩
 rw[←hx]
 refine aH (Own w [(x,79,#[.bool false,.int .i64 0,.int .i64 lg])]) (((Own.start w).call H2.out).alloc hx _ _) ?_
 intro w3 h3
 have H3:=zh h3
 have z0_0:=h3.cell 0 0 rfl rfl;have z0_1:=h3.cell 0 1 rfl rfl;have z0_2:=h3.cell 0 2 rfl rfl
 clear h3 hx
 go_wp2_with fail
 clear z0_0 z0_1 z0_2
 refine(KH w3 lg).mono ?_
 rintro e w4 ⟨rfl,hb4⟩
 unfold aP
 have H4:=zh (H3.out.call hb4)
 clear hb4
 go_upto_region 6 with (fail)
 obtain⟨y,hy⟩:∃ y,y=w4.heap.size:=⟨_,rfl⟩
 rw[←hy]
 refine aH (Own w [(x,79,#[.bool false,.int .i64 0,.int .i64 lg]),(y,92,aP 0 0 0 false 0 lg none 0 0)]) (H4.out.alloc hy _ _) ?_
 intro w5 h5
 have H5:=zh h5
 clear h5 hy
 go_wp2_with fail
 refine(KV w5 d M _ room T 0 (HD.out.1.call H5.out.bel) rfl).mono ?_
 rintro e w6 ⟨rfl,hb6⟩
 unfold aP
 have H6:=zh (H5.out.call hb6)
 clear hb6
 go_upto_region 9 with (fail)
 obtain⟨z,hz⟩:∃ z,z=w6.heap.size:=⟨_,rfl⟩
 rw[←hz]
 refine aH (Own w [(x,79,#[.bool false,.int .i64 0,.int .i64 lg]),(y,92,aP 0 0 0 false 0 lg none 0 0),(z,92,aP 0 0 0 false 0 0 none 0 0)]) (H6.out.alloc hz _ _) ?_
 intro w7 h7
 obtain⟨w8,hw8⟩:∃ wz,wz=((((((((w7.setCell ⟨z,0,none⟩ (.int .i64 0)).setCell ⟨z,1,none⟩ (.int .i64 0)).setCell ⟨z,2,none⟩ (.int .i64 0)).setCell ⟨z,3,none⟩ (.bool false)).setCell ⟨z,4,none⟩ (.int .i64 0)).setCell ⟨z,5,none⟩ (.int .i64 lg)).setCell ⟨z,6,none⟩ (.slice none 0 0)).setCell ⟨z,7,none⟩ (.slice none 0 0)):=⟨_,rfl⟩
 have o8:Own w [(z,92,aP 0 0 0 false 0 lg none 0 0)] w8:=by rw[hw8];exact (fu.of (h7.sub (List.Sublist.cons _ (List.Sublist.cons _ (List.Sublist.cons_cons _ (List.nil_sublist _))))) rfl).put [.int .i64 0,.int .i64 0,.int .i64 0,.bool false,.int .i64 0,.int .i64 lg,.slice none 0 0,.slice none 0 0] rfl
 have H8:=zh o8
 have HW8:=zh hw8
 have z0_0:=h7.cell 0 0 rfl rfl;have z0_1:=h7.cell 0 1 rfl rfl;have z0_2:=h7.cell 0 2 rfl rfl;have z1_0:=h7.cell 1 0 rfl rfl;have z1_1:=h7.cell 1 1 rfl rfl;have z1_2:=h7.cell 1 2 rfl rfl;have z1_3:=h7.cell 1 3 rfl rfl;have z1_4:=h7.cell 1 4 rfl rfl;have z1_5:=h7.cell 1 5 rfl rfl;have z1_6:=h7.cell 1 6 rfl rfl;have z1_7:=h7.cell 1 7 rfl rfl;have z2_0:=h7.cell 2 0 rfl rfl;have z2_1:=h7.cell 2 1 rfl rfl;have z2_2:=h7.cell 2 2 rfl rfl;have z2_3:=h7.cell 2 3 rfl rfl;have z2_4:=h7.cell 2 4 rfl rfl;have z2_5:=h7.cell 2 5 rfl rfl;have z2_6:=h7.cell 2 6 rfl rfl;have z2_7:=h7.cell 2 7 rfl rfl
 have zf2:=h7.free 2 rfl
 have y0_0:=o8.cell 0 0 rfl rfl;have y0_1:=o8.cell 0 1 rfl rfl;have y0_2:=o8.cell 0 2 rfl rfl;have y0_3:=o8.cell 0 3 rfl rfl;have y0_4:=o8.cell 0 4 rfl rfl;have y0_5:=o8.cell 0 5 rfl rfl;have y0_6:=o8.cell 0 6 rfl rfl;have y0_7:=o8.cell 0 7 rfl rfl
 simp only[Int.ofNat_eq_natCast,Int.natCast_zero] at z1_0 z1_1 z1_2 z1_3 z1_4 z1_5 z1_6 z1_7 z2_0 z2_1 z2_2 z2_3 z2_4 z2_5 z2_6 z2_7 y0_0 y0_1 y0_2
 clear h7 hz hw8 o8
 go_wp2_with (rw[←HW8.out])
 clear z0_0 z0_1 z0_2 z1_0 z1_1 z1_2 z1_3 z1_4 z1_5 z1_6 z1_7 z2_0 z2_1 z2_2 z2_3 z2_4 z2_5 z2_6 z2_7 zf2
 have hc:=zl w8 0 0 0 false 0 lg
 unfold aP at hc
 simp only[Int.ofNat_eq_natCast,Int.natCast_zero] at hc
 refine hc.mono ?_
 clear hc y0_0 y0_1 y0_2 y0_3 y0_4 y0_5 y0_6 y0_7
 rintro e w9 ⟨Mn,rfl,hm9,hb9⟩
 have H9:=zh (H8.out.call hb9)
 obtain⟨w10,hr10,hrg10,hg10,hs10⟩:=hm9.range law Tryz.underlying125
 have hb10:Below w9.heap.size w9 w10:=(Below.refl _ _).grown hg10 (Nat.le_refl _) (fun k hk=>by cases hk)
 have hnx:(Instr.next (.pointer (some ⟨w9.heap.size,0,none⟩)) false 0).run Tryz.prog w10=.ok (.tuple #[.bool false]) w10:=by
  rcases hrg10.next law 0 with ⟨-,-,hnx⟩ | ⟨key,v,kl,y,w3,cnt',-,-,-,-,-,-,hlt,-⟩
  ·exact hnx
  ·exact absurd hlt (Nat.not_lt_zero _)
 have H10:=zh (H9.out.call hb10)
 clear hb9 hrg10 hg10 hs10 hm9 hb10
 go_wp2_with fail
 go_loopw [16] (fun o wr=>wr=w10) (fun _ _=>0)
 case atStart=>rfl
 case round=>
  obtain rfl:=hrel
  have h10:=H10.out
  have y0_0:=h10.cell 0 0 rfl rfl;have y0_1:=h10.cell 0 1 rfl rfl;have y0_2:=h10.cell 0 2 rfl rfl;have y0_3:=h10.cell 0 3 rfl rfl;have y0_4:=h10.cell 0 4 rfl rfl;have y0_5:=h10.cell 0 5 rfl rfl;have y0_6:=h10.cell 0 6 rfl rfl;have y0_7:=h10.cell 0 7 rfl rfl
  simp only[Int.ofNat_eq_natCast,Int.natCast_zero] at y0_0 y0_1 y0_2
  clear h10
  go_upto_region 22 with (fail)
  obtain⟨st,hst⟩:∃ x,x=wr.heap.size:=⟨_,rfl⟩
  rw[←hst]
  refine aH (Own w [(z,92,aP 0 0 0 false 0 lg none 0 0),(st,128,nG d 0 0 0 false 0 lg none 0 0)]) (H10.out.alloc hst _ _) ?_
  intro w11 h11
  have H11:=zh h11
  clear h11 hst y0_0 y0_1 y0_2 y0_3 y0_4 y0_5 y0_6 y0_7
  go_wp2_with fail
  refine(Nr w11 st d M _ room T 0 0 0 false 0 lg (H11.out.get 1 rfl) (HD.out.1.call H11.out.bel)).mono ?_
  rintro e w12 ⟨rfl,hb12⟩
  have H12:=zh (H11.out.call hb12)
  clear hb12
  go_wp2_with fail
  go_ret2
  exact⟨st,rfl,H12.out.geq 1 rfl,⟨H12.out.get 1 rfl,⟨rfl,.inl ⟨rfl,rfl⟩⟩,fun _=>⟨rfl,rfl⟩⟩,H12.out.bel⟩
end
section
open Go.RowKit Go.Maps
theorem L9: Keyed Tryz.prog 240:=Keyed.of_law (deep_law (m:=3) (by omega) (by kernel_rfl) (by kernel_rfl) (by kernel_rfl))
theorem M9(t:Int)(h:dS t): ∃ kl,keyOf Tryz.prog 240 (.agg #[.string bD,.int .i64 t])=some kl:=by
 have hu:=Tryz.underlying240
 have hs:=Tryz.underlying9
 have hi:=Tryz.underlying3
 have h1:Tryz.prog.keyType 240=true:=by kernel_rfl
 have h2:(Value.agg #[.string bD,.int .i64 t]).formed Tryz.prog 240=true:=by kernel_rfl
 obtain⟨m,h4⟩:∃ m,Tryz.prog.types.size=m+1:=⟨Tryz.prog.types.size-1,by kernel_rfl⟩
 have hw:(Lit.int .i64 t).wf=true:=by
  obtain⟨h1,h2⟩:=h
  exact WalkArith.wf_i64 (by omega)
 have c0:Tryz.prog.cellsOf 240=2:=by kernel_rfl
 have c9:Tryz.prog.cellsOf 9=1:=by kernel_rfl
 have c3:Tryz.prog.cellsOf 3=1:=by kernel_rfl
 have k9:Tryz.prog.keyLits (m+1) 9 [.string bD]=some [.string bD.data.toList]:=by
  unfold Program.keyLits
  rw[hs]
  simp only[]
  rw[if_pos (by decide)]
 have k3:Tryz.prog.keyLits (m+1) 3 [.int .i64 t]=some [.int .i64 t]:=by
  unfold Program.keyLits
  rw[hi]
  simp only[]
  rw[if_pos ⟨trivial,hw⟩]
 have h3:Tryz.prog.keyLits (m+1+1) 240 [.string bD,.int .i64 t]=some [.string bD.data.toList,.int .i64 t]:=by
  unfold Program.keyLits
  rw[hu]
  simp only[]
  rw[if_pos ⟨by rw[c0];rfl,by kernel_rfl⟩]
  simp[List.mapM_cons,c9,c3,k9,k3]
 refine⟨.string (keyBytes [.string bD.data.toList,.int .i64 t]),?_⟩
 unfold keyOf
 rw[hu]
 simp only[h1,h2,h4,Value.cells]
 rw[h3]
 rfl
def jN(w:World)(D:Nat→Prop)(A:Option Addr)(tm v:Int): Prop:=∃ b off,A=some ⟨b,off,none⟩∧D b∧w.cell? ⟨b,off,none⟩=some (.string bD)∧w.cell? ⟨b,off+1,none⟩=some (.int .i64 tm)∧w.cell? ⟨b,off+2,none⟩=some (.int .i64 v)
theorem jN.keep{w w':World}{S D:Nat→Prop}{A:Option Addr}{tm v:Int}(h:jN w D A tm v)(hk:Keeps S w w')(hS:∀ q,D q→¬ S q): jN w' D A tm v:=by
 obtain⟨b,off,rfl,hd,h1,h2,h3⟩:=h
 have hlt:=World.block_lt_of_cell? w ⟨b,off,none⟩ h1
 have hc:∀ o u,w.cell? ⟨b,o,none⟩=some u→w'.cell? ⟨b,o,none⟩=some u:=fun o u hu=>(World.cell?_of_block (w:=w) (a:=⟨b,o,none⟩) (hk.block b hlt (hS b hd))).trans hu
 exact⟨b,off,rfl,hd,hc _ _ h1,hc _ _ h2,hc _ _ h3⟩
theorem jN.call{w w':World}{D:Nat→Prop}{A:Option Addr}{tm v:Int}(h:jN w D A tm v)(hb:Below w.heap.size w w'): jN w' D A tm v:=h.keep (S:=fun _=>False) (Keeps.of_below hb) (fun _ _ h=>h)
theorem Jt(w:World)(t Mt:Nat)(A:Option Addr)(cp:Nat)(L:List Pt)(n most U:Nat)(Ab:Option Addr)(cb:Nat)(tm v:Int)(D:Nat→Prop)(h:eB w t Mt A cp L n most U)(hb:jN w D Ab tm v)(hn:n≤most)(hm:most≤1000)(htm:dS tm)(hlt:∀ j,j < n→(L.getD j ⟨0,0,0⟩).t < tm):
  Calls Tryz.prog 75 #[.pointer (some ⟨t,0,none⟩),.slice Ab 1 cb] w fun e w'=>e=.returned (.bool (decide (n < most)))∧Below w.heap.size w w':=by
 have hmm:=@run_makeMap Tryz.prog
 have nf:=nY
 obtain⟨b,off,rfl,-,-,-,-⟩:=id hb
 have HD:=zh (zN h (zN hb hlt))
 clear h hb hlt
 go_enter Tryz.func75,Tryz.ntmps75
 go_wp2_with fail
 refine(kZ w t Mt (HD.out.1.blk.cell 0)).mono ?_
 rintro e w1 ⟨rfl,hb1⟩
 have HB:=zh hb1
 clear hb1
 go_wp2_with fail
 obtain⟨Mp,hMp⟩:∃ Mp,Mp=w1.heap.size:=⟨_,rfl⟩
 rw[←hMp]
 obtain⟨w2,hw2⟩:∃ w2,w2=w1.alloc (.map #[] 0):=⟨_,rfl⟩
 rw[←hw2]
 have hb2:Below w.heap.size w w2:=by rw[hw2];exact HB.out.alloc HB.out.size _
 have hown2:w2.ownsMap Tryz.prog 240 eP Mp 0 (.map []):=by rw[hw2,hMp];exact World.ownsMap_made w1 _ _ _
 have hge:w.heap.size≤Mp:=by rw[hMp];exact HB.out.size
 have H2:=zh (zN hb2 (zN hown2 hge))
 clear hb2 hown2 hge hw2 hMp hmm
 go_loopw [13] (fun i wr=>(i=.int .i64 0∧wr=w2)∨(i=.int .i64 1∧∃ D',wr.ownsMap Tryz.prog 240 eP Mp 1 D'∧Maps.size D'=1∧Below w.heap.size w wr)) (fun i _=>1-(intOf i).toNat)
 case atStart=>exact .inl ⟨rfl,rfl⟩
 case round=>
  rcases hrel with ⟨rfl,rfl⟩ | ⟨rfl,D',hown,hsz,hbel⟩
  ·obtain ⟨b',o',e,-,c0,c1,c2⟩:=HD.out.2.1.call H2.out.1
   simp only[Option.some.injEq,Addr.mk.injEq] at e
   obtain⟨rfl,rfl,-⟩:=e
   go_upto_region 7 with (fail)
   obtain⟨gp,hgp⟩:∃ gp,gp=wr.heap.size:=⟨_,rfl⟩
   rw[←hgp]
   have hal:Below wr.heap.size wr (wr.alloc (.cells #[.string bD,.int .i64 tm,.int .i64 v] 35)):=(Below.refl _ _).alloc (Nat.le_refl _) _
   refine aH (fun wx=>wx.ownsMap Tryz.prog 240 eP Mp 0 (.map [])∧Below w.heap.size w wx∧au wx gp 35 #[.string bD,.int .i64 tm,.int .i64 v]) ⟨H2.out.2.1.alloc _,H2.out.1.trans (hal.mono H2.out.1.size),by rw[hgp];exact au.fresh _ _ _⟩ ?_
   rintro w9 ⟨h9,b9,g9⟩
   have v0:=g9.cell 0
   have v1:=g9.cell 1
   have H9:=zh (zN h9 (zN b9 g9))
   clear h9 b9 g9 hal hgp c0 c1 c2
   go_wp2_with fail
   refine(Fu w9 t Mt A cp L n most U tm (HD.out.1.call H9.out.2.1) (by omega) HD.out.2.2).mono ?_
   rintro e w10 ⟨rfl,hb10⟩
   have g10:=H9.out.2.2.below hb10 H9.out.2.2.lt
   have v2:=g10.cell 0
   have v3:=g10.cell 1
   have hown10:w10.ownsMap Tryz.prog 240 eP Mp 0 (.map []):=H9.out.1.kept (dn hb10 none) (by simp)
   obtain⟨kl,hkl⟩:=M9 tm htm
   obtain⟨w11,hrun11,hown11,hm11⟩:=hown10.store L9 Tryz.underlying237 (by unfold maxLen;omega) hkl (val:=.bool true) (d:=.held (.bool true)) (ps:=[]) rfl
   have hsz11:Maps.size ((DataW.map []:DataW Value).put kl (.held (.bool true)))=1:=by
    have:=size_put (D:=(DataW.map []:DataW Value)) (k:=kl) (d:=.held (.bool true)) tidy_empty
    rw[this]
    rfl
   have hb11:Below w.heap.size w w11:=((H9.out.2.1.trans (hb10.mono H9.out.2.1.size))).grown hm11.grown (Nat.le_trans H9.out.2.1.size hb10.size) (fun k hk=>by injection hk with hk;rw[←hk];exact H2.out.2.2)
   have H11:=zh (zN hown11 (zN hsz11 hb11))
   clear hown10 hown11 hm11 hsz11 hb11 hb10 hkl v0 v1 g10
   go_wp2_with fail
   go_roundw
   case rel=>exact .inr ⟨rfl,_,H11.out.1,H11.out.2.1,H11.out.2.2⟩
   case measure=>simp[intOf]
  ·have HX:=zh (zN hbel (zN hown hsz))
   clear hbel hown hsz
   go_wp2_with fail
   have hS:Below w.heap.size w wr.drew∧wr.drew.ownsMap Tryz.prog 240 eP Mp 1 D':=⟨V.ay HX.out.1 (Below.refl _ _).drew,HX.out.2.1⟩
   have e1:IntKind.i64.wrap ((most:Int)-(n:Int))=(most:Int)-(n:Int):=by simp only[IntKind.wrap_i64];omega
   have e2:decide ((1:Int)≤(most:Int)-(n:Int))=decide (n < most):=by
    by_cases h:n < most
    ·simp[h];omega
    ·simp[h];omega
   have hS:(fun wx=>Below w.heap.size w wx∧wx.ownsMap Tryz.prog 240 eP Mp 1 D') (wr.drew):=hS
   refine av (fun wx=>Below w.heap.size w wx∧wx.ownsMap Tryz.prog 240 eP Mp 1 D') (by kernel_rfl) hS ?_
   refine zB [0,1,2,3,4,5,6,7,8,9,10,11,12] ?_
   iterate 13 (refine zV ?_ ?_ hS ?_;rotate_left;(intro w' hSw;have hl:=World.ownsMap.len hSw.2 Tryz.underlying237 3;rw[HX.out.2.2] at hl;have u1:=(HD.out.1.call hSw.1).blk.cell 1;have u2:=(HD.out.1.call hSw.1).blk.cell 2;go_simp<;>with_reducible rfl);try simp only[zP])
   refine zE ?_
   refine zD ?_
   try simp only[zP]
   have HS:=zh hS.1
   clear hS
   go_wp2_with fail
   go_ret
   exact⟨by first | rfl | (simp[e2]),HS.out⟩
end
end Go.Proofs.YtmffkpkgbdcnjaaGreatDoor
