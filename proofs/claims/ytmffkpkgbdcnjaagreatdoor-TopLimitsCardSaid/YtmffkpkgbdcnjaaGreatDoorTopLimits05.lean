/-
  Texts of this proof, joined.
-/
import Derived.Test.YtmffkpkgbdcnjaaGreatDoorTopLimits04
import Derived.Test.YtmffkpkgbdcnjaaGreatDoorTopLimits01
import Derived.Laws.MakeOwn
set_option linter.unusedVariables false
set_option linter.unusedSimpArgs false
set_option maxRecDepth 100000
set_option maxHeartbeats 20000000
namespace Go.Proofs.YtmffkpkgbdcnjaaGreatDoor
section
open Go.RowKit Go.Maps
theorem Ey: dL Tryz.prog 72 5 (.int .u8 0) 1:=.mk' Tryz.underlying72 rfl (by kernel_rfl)
structure dD(d xb xd xn n cp:Nat)(A:Option Addr)(s:ByteArray)(w:World): Prop where
 b:w.cell? ⟨xb,0,none⟩=some (.slice A n cp)
 d:w.cell? ⟨xd,0,none⟩=some (.pointer (some ⟨d,0,none⟩))
 n:w.cell? ⟨xn,0,none⟩=some (.string s)
theorem dD.keeps{S:Nat→Prop}{d xb xd xn n cp:Nat}{A:Option Addr}{s:ByteArray}{w w':World}(h:dD d xb xd xn n cp A s w)(hk:Keeps S w w')(h1:¬ S xb)(h2:¬ S xd)(h3:¬ S xn): dD d xb xd xn n cp A s w':=by
 have hc:∀ q v,w.cell? ⟨q,0,none⟩=some v→¬ S q→w'.cell? ⟨q,0,none⟩=some v:=fun q v hq hn=>(World.cell?_of_block (w:=w) (a:=⟨q,0,none⟩) (hk.block q (World.block_lt_of_cell? w _ hq) hn)).trans hq
 exact⟨hc _ _ h.b h1,hc _ _ h.d h2,hc _ _ h.n h3⟩
theorem dD.drew{d xb xd xn n cp:Nat}{A:Option Addr}{s:ByteArray}{w:World}(h:dD d xb xd xn n cp A s w): dD d xb xd xn n cp A s w.drew:=⟨h.b,h.d,h.n⟩
theorem aO.drew{w:World}{d M:Nat}{p:ByteArray→Option FS}{room:Nat}{used:Int}{ops c:Nat}(h:aO w d M p room used ops c): aO w.drew d M p room used ops c:=h.call (Below.refl _ _).drew
def gT(p:ByteArray→Option FS)(s:ByteArray): List Nat:=((p s).map FS.bs).getD []
def GV(w:World)(d M:Nat)(p:ByteArray→Option FS)(room:Nat)(used:Int)(ops c:Nat)(s:ByteArray)(bs:List Nat)(w':World): Prop:=
 ∃ a,a.bs=gT p s ++ bs∧aO w' d M (aS p s a) room (used+(bs.length:Int)) ops (c+1)∧DStep w w' d M p (aS p s a)
theorem aO.more{w:World}{d M:Nat}{p:ByteArray→Option FS}{room:Nat}{used:Int}{ops c:Nat}(h:aO w d M p room used ops c): aO w d M p room used ops (c+1):=by
 obtain⟨n,D,h1,h2,h3⟩:=h.map
 exact⟨h.blk,⟨n,D,h1,by omega,⟨h3.im,h3.ti,h3.has,h3.val,by have:=h3.sz;omega⟩⟩,h.fil,h.dis⟩
theorem MZ(w:World)(d M xb xd xn n cp:Nat)(A:Option Addr)(s:ByteArray)(bs:List Nat)(p:ByteArray→Option FS)(room:Nat)(used:Int)(ops c:Nat)(hD:aO w d M p room used ops c)(hB:dD d xb xd xn n cp A s w)(hlen:bs.length=n)(hsl:Sl w (fun q=>q < w.heap.size∧¬ aL d M p q) A n (aD bs))(h1:¬ aL d M p xb)(h2:¬ aL d M p xd)(h3:¬ aL d M p xn)(hroom:used+(n:Int)≤(room:Int))(hlow : -1099511627776≤used)(hr:room≤1073741824)(hc:c < 512)(hbig:(gT p s).length+n≤1048576)(hs:s.size≤64):
  Calls Tryz.prog 142 #[.pointer (some ⟨xb,0,none⟩),.pointer (some ⟨xd,0,none⟩),.pointer (some ⟨xn,0,none⟩)] w fun e w'=>e=.returned (.int .i64 0)∧GV w d M p room used ops c s bs w':=by
 have k1:=BP
 have k2:=tq
 have hsm:s.size≤maxLen:=by unfold maxLen;omega
 have d1:decide ((room:Int)-used < (n:Int))=false:=by simp;omega
 have d2:∀ k:Nat,k≤c→decide ((512:Int)≤(k:Int))=false:=fun k hk=>by simp;omega
 have d3:decide ((1048576:Int) < (n:Int))=false:=by simp;omega
 have d4:decide (1048576 < n)=false:=by simp;omega
 have d5:∀ k:Nat,k≤c→decide (512≤k)=false:=fun k hk=>by simp;omega
 obtain⟨ol,hol⟩:∃ ol,ol=(gT p s).length:=⟨_,rfl⟩
 rw[←hol] at hbig
 have d0:IntKind.i64.wrap ((room:Int)-used)=(room:Int)-used:=by simp only[IntKind.wrap_i64];omega
 have d7:IntKind.i64.wrap ((1048576:Int)-(ol:Int))=(1048576:Int)-(ol:Int):=by simp only[IntKind.wrap_i64];omega
 have d6:decide ((1048576:Int)-(ol:Int) < (n:Int))=false:=by simp;omega
 have d8:IntKind.i64.wrap (used+(n:Int))=used+(n:Int):=by simp only[IntKind.wrap_i64];omega
 have HD:=zh (zN hD (zN hB (zN hlen (zN hsl (zN h1 (zN h2 (zN h3 hol)))))))
 clear hD hB hlen hsl h1 h2 h3 hol
 go_enter Tryz.func142,Tryz.ntmps142
 go_wp2_with fail
 have hS:=zN HD.out.2.1.drew HD.out.1.drew
 have hS:(fun wx=>dD d xb xd xn n cp A s wx∧aO wx d M p room used ops c) (w.drew):=hS
 refine av (fun wx=>dD d xb xd xn n cp A s wx∧aO wx d M p room used ops c) (by kernel_rfl) hS ?_
 refine zB [0,1,2,3,4,5,6,7,8,9,10,11] ?_
 iterate 12 (refine zV ?_ ?_ hS ?_;rotate_left;(intro w' hSw;have u0:=hSw.1.b;have u1:=hSw.1.d;have u2:=hSw.2.blk.cell 1;have u3:=hSw.2.blk.cell 2;go_simp<;>with_reducible rfl);try simp only[zP])
 refine zE ?_
 refine zD ?_
 try simp only[zP]
 go_wp2_with fail
 have hS:=zN hS.1.drew hS.2.drew
 have hS:(fun wx=>dD d xb xd xn n cp A s wx∧aO wx d M p room used ops c) (w.drew.drew):=hS
 refine av (fun wx=>dD d xb xd xn n cp A s wx∧aO wx d M p room used ops c) (by kernel_rfl) hS ?_
 refine zB [0,1,2,3,4,5,6] ?_
 iterate 7 (refine zV ?_ ?_ hS ?_;rotate_left;(intro w' hSw;have u1:=hSw.1.d;have u2:=hSw.1.n;have u3:=hSw.2.blk.cell 0;have u4:=hSw.2.look s hsm;go_simp<;>with_reducible rfl);try simp only[zP])
 refine zE ?_
 refine zD ?_
 try simp only[zP]
 have HS:=zh hS
 clear hS
 obtain⟨w1,hw1⟩:∃ x,x=w.drew.drew:=⟨_,rfl⟩
 rw[←hw1] at HS ⊢
 have hk1:Keeps (fun _=>False) w w1:=by rw[hw1];exact ((Keeps.refl _ w).drew).drew
 have HK1:=zh hk1
 clear hk1 hw1
 cases hps:p s with
 | none=>
  have hm:(dJ p s).getD (.pointer none)=.pointer none:=by unfold dJ;rw[hps];rfl
  have hol0:gT p s=[]:=by unfold gT;rw[hps];rfl
  rw[hm]
  have HOL0:=zh hol0
  clear hm hol0
  obtain⟨k,hkc,hk0⟩:=HS.out.2.Uk 3
  have d2k:=d2 k hkc
  have d5k:=d5 k hkc
  have z0:=HS.out.1.d
  have z1:=HS.out.2.blk.cell 0
  have z2:=HS.out.1.b
  simp at z1
  go_wp2_with fail
  clear z0 z1 z2 hk0 d2k d5k
  obtain⟨n0,D0,hown0,hn0,hF0⟩:=HS.out.2.map
  obtain⟨w2,hrun2,hown2,hg2⟩:=World.ownsMap.update (hown0.alloc (.cells #[.slice none 0 0,.int .i64 0,.bool false] 114)).drew law Tryz.underlying69 (by unfold maxLen;omega) (kD hsm) (val:=.pointer (some ⟨w1.heap.size,0,none⟩)) (d:=.held (.pointer (some ⟨w1.heap.size,0,none⟩))) (ps:=[]) rfl
  have hfr:=HS.out.2.fresh hps hn0 hF0 hown2 ⟨hg2.os,hg2.tape,hg2.output,hg2.size,hg2.block⟩
  have hxa:dD d xb xd xn n cp A s (w1.alloc (.cells #[.slice none 0 0,.int .i64 0,.bool false] 114)).drew:=(HS.out.1.keeps ((Keeps.refl (fun _=>False) w1).alloc (.cells #[.slice none 0 0,.int .i64 0,.bool false] 114)) (fun h=>h) (fun h=>h) (fun h=>h)).drew
  have hba:=(HS.out.2.blk.alloc (.cells #[.slice none 0 0,.int .i64 0,.bool false] 114)).drew
  have hS:=zN hxa hba
  have hx2:dD d xb xd xn n cp A s w2:=HS.out.1.keeps hfr.2.keep HD.out.2.2.2.2.1 HD.out.2.2.2.2.2.1 HD.out.2.2.2.2.2.2.1
  have H2:=zh (zN hfr hx2)
  clear hfr hx2 hown0 hown2 hF0 hg2 hxa hba
  have hb2:au w2 d 71 #[.map (some M),.int .i64 (room:Nat),.int .i64 used,.int .i64 (-1),.int .i64 (ops:Nat)]:=H2.out.1.1.blk
  have HB2:=zh hb2
  clear hb2
  have hS:(fun wx=>dD d xb xd xn n cp A s wx∧au wx d 71 #[.map (some M),.int .i64 (room:Nat),.int .i64 used,.int .i64 (-1),.int .i64 (ops:Nat)]) ((w1.alloc (.cells #[.slice none 0 0,.int .i64 0,.bool false] 114)).drew):=hS
  refine av (fun wx=>dD d xb xd xn n cp A s wx∧au wx d 71 #[.map (some M),.int .i64 (room:Nat),.int .i64 used,.int .i64 (-1),.int .i64 (ops:Nat)]) (by kernel_rfl) hS ?_
  refine zB [0,1,2,3,4,5] ?_
  iterate 6 (refine zV ?_ ?_ hS ?_;rotate_left;(intro w' hSw;have u1:=hSw.1.d;have u2:=hSw.1.n;have u3:=hSw.2.cell 0;go_simp<;>with_reducible rfl);try simp only[zP])
  refine zE ?_
  refine zC 6 fun K HK=>?_
  go_simp
  go_wp2_with fail
  refine HK.out.zt (fun wx=>dD d xb xd xn n cp A s wx∧au wx d 71 #[.map (some M),.int .i64 (room:Nat),.int .i64 used,.int .i64 (-1),.int .i64 (ops:Nat)]) (fun _ h=>h) (⟨H2.out.2,HB2.out⟩) ?_
  clear HK hS
  intro hS
  try simp only[zP]
  refine zD ?_
  try simp only[zP]
  clear hrun2 hS
  go_wp2_with fail
  obtain⟨a,ha⟩:∃ a:FS,a=⟨w1.heap.size,.slice none 0 0,[],0,false⟩:=⟨_,rfl⟩
  have hab:w1.heap.size=a.blk:=by rw[ha]
  have habs:a.bs=[]:=by rw[ha]
  have HX:=zh (show aO w2 d M (aS p s a) room used ops (c+1)∧aS p s a s=some a∧dD d xb xd xn n cp A s w2∧Sl w2 (fun q=>q < w.heap.size∧¬ aL d M p q) A n (aD bs)∧a.bs.length+n≤1048576∧¬ aL d M (aS p s a) xb∧¬ aL d M (aS p s a) xd∧¬ aL d M (aS p s a) xn from by
   have hl:=fun q (hq:¬ aL d M p q) (h:q < w.heap.size) (h2:aL d M (aS p s a) q)=>hq (H2.out.1.2.far q (Nat.lt_of_lt_of_le h HK1.out.size) (by rw[←ha];exact h2))
   refine⟨by rw[ha];exact H2.out.1.1,gQ _ _ _,H2.out.2,?_,by rw[habs];simp;omega,?_,?_,?_⟩
   ·exact (HD.out.2.2.2.1.keeps HK1.out (fun _ _ h=>h)).keeps H2.out.1.2.keep (fun _ hk=>hk.2)
   ·exact hl _ HD.out.2.2.2.2.1 (World.block_lt_of_cell? w ⟨xb,0,none⟩ HD.out.2.1.b)
   ·exact hl _ HD.out.2.2.2.2.2.1 (World.block_lt_of_cell? w ⟨xd,0,none⟩ HD.out.2.1.d)
   ·exact hl _ HD.out.2.2.2.2.2.2.1 (World.block_lt_of_cell? w ⟨xn,0,none⟩ HD.out.2.1.n))
  have HA:=zh (zN ha habs)
  rw[hab]
  have HAB:=zh hab
  clear ha hab habs
  have hfb:=(HX.out.1.fil s a HX.out.2.1).1
  have u0:=hfb.cell 0
  have hwd:=HX.out.1.blk.lt
  have HFB:=zh (zN hfb u0)
  clear hfb u0
  have hS:=HX.out.2.2.1.drew
  have hS:(dD d xb xd xn n cp A s) (w2.drew):=hS
  refine av (dD d xb xd xn n cp A s) (by kernel_rfl) hS ?_
  refine zB [0,1,2,3,5] ?_
  iterate 5 (refine zV ?_ ?_ hS ?_;rotate_left;(intro w' hSw;have u1:=hSw.b;go_simp<;>with_reducible rfl);try simp only[zP])
  refine zE ?_
  have u0:w2.drew.cell? ⟨a.blk,0,none⟩=some a.v:=HFB.out.2
  refine zC 4 fun K HK=>?_
  go_simp
  go_wp2_with fail
  refine HK.out.zt (dD d xb xd xn n cp A s) (fun _ h=>h) (hS) ?_
  clear HK hS
  intro hS
  try simp only[zP]
  clear u0
  refine zC 6 fun K HK=>?_
  refine lF (D:=fun q=>q < w.heap.size∧¬ aL d M p q) (f:=aD bs) (m:=n) Ey rfl _ _ rfl rfl rfl (HX.out.1.drew.fil s a HX.out.2.1).2 (HX.out.2.2.2.1.keeps ((Keeps.refl (fun _=>False) w2).drew) (fun _ _ h=>h)) (fun _ _=>rfl) (by have:=HX.out.2.2.2.2.1;unfold maxLen;omega) (by have:=HX.out.2.2.2.2.1;omega) (Nat.zero_le _) ?_
  intro v' w9 ho9 hg9 hv9
  obtain⟨A9,c9,hv9e,-⟩:=aA ho9
  subst hv9e
  have ho9':w9.ownsRow 0 5 1 (.slice A9 (a.bs.length+n) c9) (a.bs.length+bs.length) (a.bs.map V.aI ++ bs.map V.aI):=by
   rw[HD.out.2.2.1,V.fE HD.out.2.2.1]
   exact ho9
  have hk9:Keeps (aL d M (aS p s a)) w2 w9:=((Keeps.refl (aL d M (aS p s a)) w2).drew).grown hg9 (fun k hk hlt=>.inr (.inr ⟨s,a,HX.out.2.1,.inr hk⟩))
  have hx9:=HX.out.2.2.1.keeps hk9 HX.out.2.2.2.2.2.1 HX.out.2.2.2.2.2.2.1 HX.out.2.2.2.2.2.2.2
  have hfb9:au w9 a.blk 114 #[a.v,.int .i64 (a.lasts:Nat),.bool a.syn]:=dK (w:=w2.drew) hg9 HFB.out.1.drew (fun e=>own_ne (HX.out.1.fil s a HX.out.2.1).2 HFB.out.1 (by decide) e.symm)
  have hdb9:au w9 d 71 #[.map (some M),.int .i64 (room:Nat),.int .i64 used,.int .i64 (-1),.int .i64 (ops:Nat)]:=dK (w:=w2.drew) hg9 HX.out.1.blk.drew (fun e=>own_ne (HX.out.1.fil s a HX.out.2.1).2 HX.out.1.blk (by decide) e.symm)
  have had:a.blk≠d:=HFB.out.1.ne HX.out.1.blk (by decide)
  have hx10:dD d xb xd xn n cp A s (w9.setCell ⟨a.blk,0,none⟩ (.slice A9 (a.bs.length+n) c9)):=hx9.keeps (S:=aL d M (aS p s a)) ((Keeps.refl _ w9).setCell (fun _=>.inr (.inr ⟨s,a,HX.out.2.1,.inl rfl⟩)) (.slice A9 (a.bs.length+n) c9)) HX.out.2.2.2.2.2.1 HX.out.2.2.2.2.2.2.1 HX.out.2.2.2.2.2.2.2
  have H9:=zh (zN ho9' (zN hg9 (zN hv9 (zN hx9 (zN hfb9 (zN hdb9 (zN had hx10)))))))
  clear ho9 ho9' hg9 hv9 hk9 hx9 hfb9 hdb9 had hx10
  refine HK.out.zt (dD d xb xd xn n cp A s) (fun _ h=>h) (H9.out.2.2.2.1) ?_
  clear HK hS
  intro hS
  try simp only[zP]
  refine zB [7,8] ?_
  iterate 2 (refine zV ?_ ?_ hS ?_;rotate_left;(intro w' hSw;go_simp<;>with_reducible rfl);try simp only[zP])
  refine zE ?_
  have uf:=H9.out.2.2.2.2.1.frozen
  have uc:w9.cell? ⟨a.blk,0,none⟩=some a.v:=H9.out.2.2.2.2.1.cell 0
  refine zC 9 fun K HK=>?_
  go_simp
  go_wp2_with fail
  refine HK.out.zt (dD d xb xd xn n cp A s) (fun _ h=>h) (H9.out.2.2.2.2.2.2.2) ?_
  clear HK hS
  intro hS
  try simp only[zP]
  refine zD ?_
  try simp only[zP]
  clear uf uc hS
  have hdb10:=(H9.out.2.2.2.2.2.1).far (p:=⟨a.blk,0,none⟩) (fun e=>H9.out.2.2.2.2.2.2.1 e.symm) (.slice A9 (a.bs.length+n) c9)
  have hfb10:=(H9.out.2.2.2.2.1).set 0 (.slice A9 (a.bs.length+n) c9)
  have u2:(w9.setCell ⟨a.blk,0,none⟩ (.slice A9 (a.bs.length+n) c9)).drew.cell? ⟨d,2,none⟩=_:=hdb10.cell 2
  have H10:=zh (zN hdb10 hfb10)
  clear hdb10 hfb10
  obtain⟨w10,hw10⟩:∃ w10,w10=w9.setCell ⟨a.blk,0,none⟩ (.slice A9 (a.bs.length+n) c9):=⟨_,rfl⟩
  rw[←hw10] at u2 H10 ⊢
  have HW10:=zh hw10
  go_wp2_with fail
  have hS:dD d xb xd xn n cp A s w10.drew:=by rw[hw10];exact H9.out.2.2.2.2.2.2.2.drew
  clear hw10
  have hS:(dD d xb xd xn n cp A s) (w10.drew):=hS
  refine av (dD d xb xd xn n cp A s) (by kernel_rfl) hS ?_
  refine zB [0,1,2,4,5] ?_
  iterate 5 (refine zV ?_ ?_ hS ?_;rotate_left;(intro w' hSw;have u1:=hSw.b;have u3:=hSw.d;go_simp<;>with_reducible rfl);try simp only[zP])
  refine zE ?_
  refine zC 3 fun K HK=>?_
  go_simp
  go_wp2_with fail
  refine HK.out.zt (dD d xb xd xn n cp A s) (fun _ h=>h) (hS) ?_
  clear HK hS
  intro hS
  try simp only[zP]
  refine zB [6,7,8] ?_
  iterate 3 (refine zV ?_ ?_ hS ?_;rotate_left;(intro w' hSw;go_simp<;>with_reducible rfl);try simp only[zP])
  refine zE ?_
  have uf:∀ i,w10.drew.frozen? ⟨d,i,none⟩=false:=H10.out.1.frozen
  have hx11:dD d xb xd xn n cp A s (w10.drew.setCell ⟨d,2,none⟩ (.int .i64 (used+(n:Int)))):=hS.keeps (S:=aL d M (aS p s a)) ((Keeps.refl _ w10.drew).setCell (fun _=>.inl rfl) _) HX.out.2.2.2.2.2.1 HX.out.2.2.2.2.2.2.1 HX.out.2.2.2.2.2.2.2
  have HX11:=zh hx11
  clear hx11
  refine zC 9 fun K HK=>?_
  go_simp
  go_wp2_with fail
  refine HK.out.zt (dD d xb xd xn n cp A s) (fun _ h=>h) (HX11.out) ?_
  clear HK hS
  intro hS
  try simp only[zP]
  refine zD ?_
  try simp only[zP]
  clear uf hS u2
  go_wp2_with fail
  go_ret
  have k1:Keeps (fun q=>q=a.blk∨q=d) w9 (w10.drew.setCell ⟨d,2,none⟩ (.int .i64 (used+(n:Int)))):=by
   rw[HW10.out]
   exact(((Keeps.refl _ w9).setCell (fun _=>.inl rfl) (.slice A9 (a.bs.length+n) c9)).drew).setCell (fun _=>.inr rfl) _
  have hap:=HX.out.1.drew.append HX.out.2.1 (v':=(.slice A9 (a.bs.length+n) c9)) (bs:=bs) (w1:=w9) H9.out.1 H9.out.2.1 H9.out.2.2.1 (used+(n:Int)) k1 (H10.out.2.drew.far (p:=⟨d,2,none⟩) H9.out.2.2.2.2.2.2.1 _) (H10.out.1.drew.set 2 _)
  refine⟨rfl,⟨a.blk,(.slice A9 (a.bs.length+n) c9),a.bs ++ bs,a.lasts,a.syn⟩,by rw[HA.out.2,HOL0.out],?_,?_⟩
  ·have:=hap.1
   rw[CV] at this
   rw[HD.out.2.2.1]
   exact this
  ·have h1:DStep w w1 d M p p:=DStep.of_below HK1.out.bM
   have h2:=h1.trans H2.out.1.2
   rw[←HA.out.1] at h2
   have h3:=h2.trans (DStep.of_below (Below.refl _ w2).drew)
   have h4:=h3.trans hap.2
   rw[CV] at h4
   exact h4
 | some a=>
  have hm:(dJ p s).getD (.pointer none)=.pointer (some ⟨a.blk,0,none⟩):=by unfold dJ;rw[hps];rfl
  have hol1:gT p s=a.bs:=by unfold gT;rw[hps];rfl
  obtain⟨A0,c0,hav,-⟩:=aA (HS.out.2.fil s a hps).2
  have hola:a.bs.length=ol:=by rw[HD.out.2.2.2.2.2.2.2,hol1]
  rw[hola] at hav
  rw[hm]
  have HOL:=zh (zN hol1 (zN hav hola))
  clear hm hol1 hav hola
  go_wp2_with fail
  have hS:=zN HS.out.1.drew HS.out.2.drew
  have hS:(fun wx=>dD d xb xd xn n cp A s wx∧aO wx d M p room used ops c) (w1.drew):=hS
  refine av (fun wx=>dD d xb xd xn n cp A s wx∧aO wx d M p room used ops c) (by kernel_rfl) hS ?_
  refine zB [0,1,2,3,4,5,6,7,8,9] ?_
  iterate 10 (refine zV ?_ ?_ hS ?_;rotate_left;(intro w' hSw;have u0:=hSw.1.b;have u1:=(hSw.2.fil s a hps).1.cell 0;rw[HOL.out.2.1] at u1;go_simp<;>with_reducible rfl);try simp only[zP])
  refine zE ?_
  refine zD ?_
  try simp only[zP]
  go_wp2_with fail
  have HX:=zh (show aO w1.drew d M p room used ops c∧p s=some a∧dD d xb xd xn n cp A s w1.drew∧Sl w1.drew (fun q=>q < w.heap.size∧¬ aL d M p q) A n (aD bs)∧a.bs.length+n≤1048576∧¬ aL d M p xb∧¬ aL d M p xd∧¬ aL d M p xn from
   ⟨hS.2,hps,hS.1,HD.out.2.2.2.1.keeps HK1.out.drew (fun _ _ h=>h),by rw[HOL.out.2.2];exact hbig,HD.out.2.2.2.2.1,HD.out.2.2.2.2.2.1,HD.out.2.2.2.2.2.2.1⟩)
  have hp1:=HOL.out.1
  have HP1:=zh hp1
  clear hS hp1 hps
  have hfb:=(HX.out.1.fil s a HX.out.2.1).1
  have u0:=hfb.cell 0
  have hwd:=HX.out.1.blk.lt
  have HFB:=zh (zN hfb u0)
  clear hfb u0
  have hS:=HX.out.2.2.1.drew
  have hS:(dD d xb xd xn n cp A s) (w1.drew.drew):=hS
  refine av (dD d xb xd xn n cp A s) (by kernel_rfl) hS ?_
  refine zB [0,1,2,3,5] ?_
  iterate 5 (refine zV ?_ ?_ hS ?_;rotate_left;(intro w' hSw;have u1:=hSw.b;go_simp<;>with_reducible rfl);try simp only[zP])
  refine zE ?_
  have u0:w1.drew.drew.cell? ⟨a.blk,0,none⟩=some a.v:=HFB.out.2
  refine zC 4 fun K HK=>?_
  go_simp
  go_wp2_with fail
  refine HK.out.zt (dD d xb xd xn n cp A s) (fun _ h=>h) (hS) ?_
  clear HK hS
  intro hS
  try simp only[zP]
  clear u0
  refine zC 6 fun K HK=>?_
  refine lF (D:=fun q=>q < w.heap.size∧¬ aL d M p q) (f:=aD bs) (m:=n) Ey rfl _ _ rfl rfl rfl (HX.out.1.drew.fil s a HX.out.2.1).2 (HX.out.2.2.2.1.keeps ((Keeps.refl (fun _=>False) w1.drew).drew) (fun _ _ h=>h)) (fun _ _=>rfl) (by have:=HX.out.2.2.2.2.1;unfold maxLen;omega) (by have:=HX.out.2.2.2.2.1;omega) (Nat.zero_le _) ?_
  intro v' w9 ho9 hg9 hv9
  obtain⟨A9,c9,hv9e,-⟩:=aA ho9
  subst hv9e
  have ho9':w9.ownsRow 0 5 1 (.slice A9 (a.bs.length+n) c9) (a.bs.length+bs.length) (a.bs.map V.aI ++ bs.map V.aI):=by
   rw[HD.out.2.2.1,V.fE HD.out.2.2.1]
   exact ho9
  have hk9:Keeps (aL d M p) w1.drew w9:=((Keeps.refl (aL d M p) w1.drew).drew).grown hg9 (fun k hk hlt=>.inr (.inr ⟨s,a,HX.out.2.1,.inr hk⟩))
  have hx9:=HX.out.2.2.1.keeps hk9 HX.out.2.2.2.2.2.1 HX.out.2.2.2.2.2.2.1 HX.out.2.2.2.2.2.2.2
  have hfb9:au w9 a.blk 114 #[a.v,.int .i64 (a.lasts:Nat),.bool a.syn]:=dK (w:=w1.drew.drew) hg9 HFB.out.1.drew (fun e=>own_ne (HX.out.1.fil s a HX.out.2.1).2 HFB.out.1 (by decide) e.symm)
  have hdb9:au w9 d 71 #[.map (some M),.int .i64 (room:Nat),.int .i64 used,.int .i64 (-1),.int .i64 (ops:Nat)]:=dK (w:=w1.drew.drew) hg9 HX.out.1.blk.drew (fun e=>own_ne (HX.out.1.fil s a HX.out.2.1).2 HX.out.1.blk (by decide) e.symm)
  have had:a.blk≠d:=HFB.out.1.ne HX.out.1.blk (by decide)
  have hx10:dD d xb xd xn n cp A s (w9.setCell ⟨a.blk,0,none⟩ (.slice A9 (a.bs.length+n) c9)):=hx9.keeps (S:=aL d M p) ((Keeps.refl _ w9).setCell (fun _=>.inr (.inr ⟨s,a,HX.out.2.1,.inl rfl⟩)) (.slice A9 (a.bs.length+n) c9)) HX.out.2.2.2.2.2.1 HX.out.2.2.2.2.2.2.1 HX.out.2.2.2.2.2.2.2
  have H9:=zh (zN ho9' (zN hg9 (zN hv9 (zN hx9 (zN hfb9 (zN hdb9 (zN had hx10)))))))
  clear ho9 ho9' hg9 hv9 hk9 hx9 hfb9 hdb9 had hx10
  refine HK.out.zt (dD d xb xd xn n cp A s) (fun _ h=>h) (H9.out.2.2.2.1) ?_
  clear HK hS
  intro hS
  try simp only[zP]
  refine zB [7,8] ?_
  iterate 2 (refine zV ?_ ?_ hS ?_;rotate_left;(intro w' hSw;go_simp<;>with_reducible rfl);try simp only[zP])
  refine zE ?_
  have uf:=H9.out.2.2.2.2.1.frozen
  have uc:w9.cell? ⟨a.blk,0,none⟩=some a.v:=H9.out.2.2.2.2.1.cell 0
  refine zC 9 fun K HK=>?_
  go_simp
  go_wp2_with fail
  refine HK.out.zt (dD d xb xd xn n cp A s) (fun _ h=>h) (H9.out.2.2.2.2.2.2.2) ?_
  clear HK hS
  intro hS
  try simp only[zP]
  refine zD ?_
  try simp only[zP]
  clear uf uc hS
  have hdb10:=(H9.out.2.2.2.2.2.1).far (p:=⟨a.blk,0,none⟩) (fun e=>H9.out.2.2.2.2.2.2.1 e.symm) (.slice A9 (a.bs.length+n) c9)
  have hfb10:=(H9.out.2.2.2.2.1).set 0 (.slice A9 (a.bs.length+n) c9)
  have u2:(w9.setCell ⟨a.blk,0,none⟩ (.slice A9 (a.bs.length+n) c9)).drew.cell? ⟨d,2,none⟩=_:=hdb10.cell 2
  have H10:=zh (zN hdb10 hfb10)
  clear hdb10 hfb10
  obtain⟨w10,hw10⟩:∃ w10,w10=w9.setCell ⟨a.blk,0,none⟩ (.slice A9 (a.bs.length+n) c9):=⟨_,rfl⟩
  rw[←hw10] at u2 H10 ⊢
  have HW10:=zh hw10
  go_wp2_with fail
  have hS:dD d xb xd xn n cp A s w10.drew:=by rw[hw10];exact H9.out.2.2.2.2.2.2.2.drew
  clear hw10
  have hS:(dD d xb xd xn n cp A s) (w10.drew):=hS
  refine av (dD d xb xd xn n cp A s) (by kernel_rfl) hS ?_
  refine zB [0,1,2,4,5] ?_
  iterate 5 (refine zV ?_ ?_ hS ?_;rotate_left;(intro w' hSw;have u1:=hSw.b;have u3:=hSw.d;go_simp<;>with_reducible rfl);try simp only[zP])
  refine zE ?_
  refine zC 3 fun K HK=>?_
  go_simp
  go_wp2_with fail
  refine HK.out.zt (dD d xb xd xn n cp A s) (fun _ h=>h) (hS) ?_
  clear HK hS
  intro hS
  try simp only[zP]
  refine zB [6,7,8] ?_
  iterate 3 (refine zV ?_ ?_ hS ?_;rotate_left;(intro w' hSw;go_simp<;>with_reducible rfl);try simp only[zP])
  refine zE ?_
  have uf:∀ i,w10.drew.frozen? ⟨d,i,none⟩=false:=H10.out.1.frozen
  have hx11:dD d xb xd xn n cp A s (w10.drew.setCell ⟨d,2,none⟩ (.int .i64 (used+(n:Int)))):=hS.keeps (S:=aL d M p) ((Keeps.refl _ w10.drew).setCell (fun _=>.inl rfl) _) HX.out.2.2.2.2.2.1 HX.out.2.2.2.2.2.2.1 HX.out.2.2.2.2.2.2.2
  have HX11:=zh hx11
  clear hx11
  refine zC 9 fun K HK=>?_
  go_simp
  go_wp2_with fail
  refine HK.out.zt (dD d xb xd xn n cp A s) (fun _ h=>h) (HX11.out) ?_
  clear HK hS
  intro hS
  try simp only[zP]
  refine zD ?_
  try simp only[zP]
  clear uf hS u2
  go_wp2_with fail
  go_ret
  have k1:Keeps (fun q=>q=a.blk∨q=d) w9 (w10.drew.setCell ⟨d,2,none⟩ (.int .i64 (used+(n:Int)))):=by
   rw[HW10.out]
   exact(((Keeps.refl _ w9).setCell (fun _=>.inl rfl) (.slice A9 (a.bs.length+n) c9)).drew).setCell (fun _=>.inr rfl) _
  have hap:=HX.out.1.drew.append HX.out.2.1 (v':=(.slice A9 (a.bs.length+n) c9)) (bs:=bs) (w1:=w9) H9.out.1 H9.out.2.1 H9.out.2.2.1 (used+(n:Int)) k1 (H10.out.2.drew.far (p:=⟨d,2,none⟩) H9.out.2.2.2.2.2.2.1 _) (H10.out.1.drew.set 2 _)
  refine⟨rfl,⟨a.blk,(.slice A9 (a.bs.length+n) c9),a.bs ++ bs,a.lasts,a.syn⟩,by rw[HP1.out],?_,?_⟩
  ·rw[HD.out.2.2.1]
   exact hap.1.more
  ·have h1:DStep w w1 d M p p:=DStep.of_below HK1.out.bM
   exact(h1.trans (DStep.of_below (Below.refl _ w1).drew.drew)).trans hap.2
end
section
open Go.RowKit Go.Maps
theorem aO.jB{w:World}{d M:Nat}{p:ByteArray→Option FS}{room:Nat}{used:Int}{ops c:Nat}(h:aO w d M p room used ops c): ∀ q t cs,au w q t cs→q≠M:=by
 intro q t cs hq e
 obtain⟨n0,D0,hown0,hn0,hF0⟩:=h.map
 obtain⟨es,clock,e1,-⟩:=hown0
 unfold au at hq
 rw[e,e1] at hq
 cases hq
theorem aO.D9{w:World}{d M:Nat}{p:ByteArray→Option FS}{room:Nat}{used:Int}{ops c q:Nat}(h:aO w d M p room used ops c){v:Value}(hq:w.cell? ⟨q,0,none⟩=some v): q≠M:=by
 intro e
 obtain⟨n0,D0,hown0,hn0,hF0⟩:=h.map
 obtain⟨es,clock,e1,-⟩:=hown0
 subst e
 simp[World.cell?,e1] at hq
theorem aO.kd{w w':World}{d M:Nat}{p:ByteArray→Option FS}{room:Nat}{used:Int}{ops c:Nat}(h:aO w d M p room used ops c){used':Int}{ops':Nat}(hk:Keeps (fun q=>q=d) w w')(hb:au w' d 71 #[.map (some M),.int .i64 (room:Nat),.int .i64 used',.int .i64 (-1),.int .i64 (ops':Nat)]): aO w' d M p room used' ops' c∧DStep w w' d M p p:=by
 refine⟨⟨hb,?_,fun s a hs=>⟨(h.fil s a hs).1.keeps hk ((h.fil s a hs).1.ne h.blk (by decide)),aF (h.fil s a hs).2 hk ?_⟩,h.dis⟩,hk.mono (fun q _ hq=>.inl hq),fun q _ hq=>hq⟩
 ·obtain ⟨n,D,h1,h2,h3⟩:=h.map
  have hM:w'.heap[M]? = w.heap[M]?:=hk.block M (World.ownsMap.lt h1) (fun e=>h.jB _ _ _ h.blk e.symm)
  obtain⟨es,clock,e1,e2⟩:=h1
  exact⟨n,D,⟨es,clock,by rw[hM];exact e1,e2⟩,h2,h3⟩
 ·rintro g hg rfl
  exact own_ne (h.fil s a hs).2 h.blk (by decide) hg
theorem aO.Kl{w w':World}{d M:Nat}{p:ByteArray→Option FS}{room:Nat}{used:Int}{ops c:Nat}(h:aO w d M p room used ops c)(hb:Below w.heap.size (w.setCell ⟨d,4,none⟩ (.int .i64 ((ops+1:Nat)))) w'):
  aO w' d M p room used (ops+1) c∧DStep w w' d M p p:=by
 have h1:=h.kd (used':=used) (ops':=ops+1) (((Keeps.refl (fun q=>q=d) w)).setCell (p:=⟨d,4,none⟩) (fun _=>rfl) (.int .i64 ((ops+1:Nat)))) (h.blk.set 4 _)
 exact⟨h1.1.call (by simpa using hb),h1.2.below (by simpa using hb)⟩
theorem aO.kf{w w':World}{d M:Nat}{p:ByteArray→Option FS}{room:Nat}{used:Int}{ops c:Nat}{s:ByteArray}{a:FS}(h:aO w d M p room used ops c)(hs:p s=some a)(hk:Keeps (fun q=>q=a.blk) w w')(l:Nat)(b:Bool)(hb:au w' a.blk 114 #[a.v,.int .i64 (l:Nat),.bool b]): aO w' d M (aS p s { a with lasts:=l,syn:=b }) room used ops c∧DStep w w' d M p (aS p s { a with lasts:=l,syn:=b }):=by
 have hfa:=h.fil s a hs
 obtain⟨n,D,h1,h2,h3⟩:=h.map
 refine⟨⟨h.blk.keeps hk (fun e=>hfa.1.ne h.blk (by decide) e.symm),?_,?_,?_⟩,⟨hk.mono (fun q _ hq=>.inr (.inr ⟨s,a,hs,.inl hq⟩)),?_⟩⟩
 ·have hM:w'.heap[M]? = w.heap[M]?:=hk.block M (World.ownsMap.lt h1) (fun e=>h.jB _ _ _ hfa.1 e.symm)
  obtain⟨es,clock,e1,e2⟩:=h1
  refine⟨n,D,⟨es,clock,by rw[hM];exact e1,e2⟩,h2,?_⟩
  rw[pE]
  have e:aS (dJ p) s (Ay { a with lasts:=l,syn:=b })=dJ p:=by
   funext y
   unfold aS
   split
   ·rename_i e
    rw[e]
    unfold dJ
    rw[hs]
    rfl
   ·rfl
  rw[e]
  exact h3
 ·intro t x hx
  unfold aS at hx
  split at hx
  ·injection hx with hx
   subst hx
   exact⟨hb,aF hfa.2 hk (fun g hg e=>by subst e;exact own_ne hfa.2 hfa.1 (by decide) hg)⟩
  ·rename_i hts
   have hd:=h.dis t s x a hts hx hs
   exact⟨(h.fil t x hx).1.keeps hk hd.1,aF (h.fil t x hx).2 hk (fun g hg e=>by subst e;exact own_ne (h.fil t x hx).2 hfa.1 (by decide) hg)⟩
 ·intro t u x y htu hx hy
  unfold aS at hx hy
  split at hx<;>split at hy
  ·rename_i e1 e2
   exact absurd (e1.trans e2.symm) htu
  ·injection hx with hx
   subst hx
   rename_i e1 e2
   exact h.dis s u a y (fun e=>e2 e.symm) hs hy
  ·injection hy with hy
   subst hy
   rename_i e1 e2
   exact h.dis t s x a e1 hx hs
  ·exact h.dis t u x y htu hx hy
 ·rintro q hq (rfl | rfl | ⟨t,x,hx,hqx⟩)
  ·exact .inl rfl
  ·exact .inr (.inl rfl)
  ·unfold aS at hx
   split at hx
   ·injection hx with hx
    subst hx
    exact .inr (.inr ⟨s,a,hs,hqx⟩)
   ·exact .inr (.inr ⟨t,x,hx,hqx⟩)
theorem aO.Tx{w w':World}{d M:Nat}{p:ByteArray→Option FS}{room:Nat}{used:Int}{ops c n:Nat}{D:DataW Value}(h:aO w d M p room used ops c)(s:ByteArray)(hn:n≤c)(hF:iE D (dJ p) c)(hm:w'.ownsMap Tryz.prog 9 eP M n (D.del (bP s)))(hg:w.grownBy w' (some M)): aO w' d M (gq p s) room used ops c∧DStep w w' d M p (gq p s):=by
 have hsub:∀ t x,gq p s t=some x→p t=some x:=fun t x hx=>by
  unfold gq at hx
  split at hx
  ·cases hx
  ·exact hx
 refine⟨⟨dK hg h.blk (fun e=>h.jB _ _ _ h.blk (by injection e)),⟨n,_,hm,hn,?_⟩,?_,fun t u x y htu hx hy=>h.dis t u x y htu (hsub t x hx) (hsub u y hy)⟩,⟨(Keeps.refl _ w).grown hg (fun k hk hlt=>.inr (.inl (by injection hk with hk;exact hk.symm))),?_⟩⟩
 ·rw[JB]
  exact hF.del s
 ·intro t x hx
  have hf:=h.fil t x (hsub t x hx)
  refine⟨dK hg hf.1 (fun e=>h.jB _ _ _ hf.1 (by injection e)),hf.2.kept hg ?_⟩
  obtain⟨n1,D1,h1,-,-⟩:=h.map
  exact iU h1 hf.2
 ·rintro q hq (rfl | rfl | ⟨t,x,hx,hqx⟩)
  ·exact .inl rfl
  ·exact .inr (.inl rfl)
  ·exact .inr (.inr ⟨t,x,hsub t x hx,hqx⟩)
theorem aO.Ui{w w':World}{d M:Nat}{p:ByteArray→Option FS}{room:Nat}{used:Int}{ops c n:Nat}{D:DataW Value}(h:aO w d M p room used ops c)(s:ByteArray)(a:FS)(hfa:au w a.blk 114 #[a.v,.int .i64 (a.lasts:Nat),.bool a.syn]∧w.ownsRow 0 5 1 a.v a.bs.length (a.bs.map V.aI))(hdis:∀ t b,t≠s→p t=some b→a.blk≠b.blk∧∀ g,a.v.ownBlock=some g→b.v.ownBlock≠some g)(hn:n≤c)(hF:iE D (dJ p) c)(hm:w'.ownsMap Tryz.prog 9 eP M (n+1) (D.put (bP s) (.held (Ay a))))(hg:w.grownBy w' (some M)): aO w' d M (aS p s a) room used ops (c+1)∧Keeps (fun q=>q=M) w w':=by
 obtain⟨n1,D1,h1,-,-⟩:=h.map
 refine⟨⟨dK hg h.blk (fun e=>h.jB _ _ _ h.blk (by injection e)),⟨n+1,_,hm,by omega,?_⟩,?_,?_⟩,(Keeps.refl _ w).grown hg (fun k hk hlt=>by injection hk with hk;exact hk.symm)⟩
 ·rw[pE]
  exact hF.put s _
 ·intro t x hx
  unfold aS at hx
  split at hx
  ·injection hx with hx
   subst hx
   exact⟨dK hg hfa.1 (fun e=>h.jB _ _ _ hfa.1 (by injection e)),hfa.2.kept hg (iU h1 hfa.2)⟩
  ·have hf:=h.fil t x hx
   exact⟨dK hg hf.1 (fun e=>h.jB _ _ _ hf.1 (by injection e)),hf.2.kept hg (iU h1 hf.2)⟩
 ·intro t u x y htu hx hy
  unfold aS at hx hy
  split at hx<;>split at hy
  ·rename_i e1 e2
   exact absurd (e1.trans e2.symm) htu
  ·injection hx with hx
   subst hx
   rename_i e1 e2
   exact hdis u y e2 hy
  ·injection hy with hy
   subst hy
   rename_i e1 e2
   have:=hdis t x e1 hx
   exact⟨fun e=>this.1 e.symm,fun g hg e=>this.2 g e hg⟩
  ·exact h.dis t u x y htu hx hy
theorem DStep.refl(w:World)(d M:Nat)(p:ByteArray→Option FS): DStep w w d M p p:=⟨Keeps.refl _ _,fun _ _ h=>h⟩
end
section
open Go.RowKit Go.Maps
theorem kW{w:World}{d M:Nat}{p:ByteArray→Option FS}{room:Nat}{used:Int}{ops c q:Nat}(h:aO w d M p room used ops c)(hq:w.heap.size≤q): ¬ aL d M p q:=fun hf=>by
 have:=h.dH hf
 omega
theorem bC{P:Program}{F:FuncId}{args:Array Value}{w:World}{Q:Ending→World→Prop}(S:World→Prop)(hS:S w)(h:∀ w',S w'→Calls P F args w' Q): Calls P F args w Q:=h w hS
theorem FW(w:World)(d M n cp:Nat)(A:Option Addr)(s:ByteArray)(bs:List Nat)(p:ByteArray→Option FS)(room:Nat)(used:Int)(ops c:Nat)(hD:aO w d M p room used ops c)(hlen:bs.length=n)(hsl:Sl w (fun q=>q < w.heap.size∧¬ aL d M p q) A n (aD bs))(hroom:used+(n:Int)≤(room:Int))(hlow : -1099511627776≤used)(hr:room≤1073741824)(hc:c < 512)(hbig:(gT p s).length+n≤1048576)(hs1:1≤s.size)(hs:s.size≤64)(ho:ops < 4611686018427387904):
  Calls Tryz.prog 79 #[.pointer (some ⟨d,0,none⟩),.string s,.slice A n cp] w fun e w'=>e=.returned (.int .i64 0)∧∃ a,a.bs=gT p s ++ bs∧aO w' d M (aS p s a) room (used+(bs.length:Int)) (ops+1) (c+1)∧DStep w w' d M p (aS p s a):=by
 obtain⟨x,hx⟩:∃ x,x=w.heap.size:=⟨_,rfl⟩
 have o0:=Own.SL w hx 23 #[.pointer (some ⟨d,0,none⟩)] 9 #[.string s] 72 #[.slice A n cp] 9 #[.string s]
 have HD:=zh (zN hD (zN hlen (zN hsl (zN hx o0))))
 clear hD hlen hsl o0
 go_enter Tryz.func79,Tryz.ntmps79
 go_wp2_with fail
 rw[←hx]
 refine bC (Own w [(x,23,#[.pointer (some ⟨d,0,none⟩)]),(x+1,9,#[.string s]),(x+1+1,72,#[.slice A n cp]),(x+1+1+1,9,#[.string s])]) HD.out.2.2.2.2 ?_
 intro w1 h1
 have H1:=zh h1
 clear h1
 have hb1:=H1.out.bel
 refine(GY w1 d M 1 1 ops (.int .i64 (room:Nat)) (.int .i64 used) (some ⟨x+1+1+1,0,none⟩) (fun _=>s) 142 #[.pointer (some ⟨x+1+1,0,none⟩),.pointer (some ⟨x,0,none⟩),.pointer (some ⟨x+1,0,none⟩)] (GV w d M p room used ops c s bs) (HD.out.1.call hb1).blk ?_ (by omega) (fun _ _=>⟨hs1,hs⟩) ho (fun _=>by kernel_rfl) ?_ ?_).mono ?_
 ·intro _
  exact⟨x+1+1+1,0,rfl,(H1.out.get 3 rfl).lt,fun j hj=>by obtain rfl:j=0:=(by omega);exact H1.out.cell 3 0 rfl rfl⟩
 ·intro w2 hb2
  have hb3:Below w.heap.size w w2:=V.ay hb1 hb2
  have o2:=H1.out.call hb2
  refine(MZ w2 d M (x+1+1) x (x+1) n cp A s bs p room used ops c (HD.out.1.call hb3) ⟨o2.cell 2 0 rfl rfl,o2.cell 0 0 rfl rfl,o2.cell 1 0 rfl rfl⟩ HD.out.2.1 ?_ (kW HD.out.1 (by omega)) (kW HD.out.1 (by omega)) (kW HD.out.1 (by omega)) hroom hlow hr hc hbig hs).mono ?_
  ·exact (HD.out.2.2.1.below hb3 (fun q hq _=>hq.1)).mono (fun q hq=>⟨Nat.lt_of_lt_of_le hq.1 hb3.size,hq.2⟩)
  ·rintro e w3 ⟨rfl,a,ha,h3,h4⟩
   exact⟨rfl,a,ha,h3,(DStep.of_below hb3).trans h4⟩
 ·rintro w2 ⟨a,-,h2,-⟩
  exact⟨M,_,_,h2.blk⟩
 ·rintro e w2 ⟨rfl,w3,⟨a,ha,h3,h4⟩,hb2⟩
  have HR:=zh (zN ha (zN h3 (zN h4 hb2)))
  clear ha h3 h4 hb2
  go_wp2_with fail
  go_ret
  have h5:=HR.out.2.1.Kl HR.out.2.2.2
  exact⟨rfl,a,HR.out.1,h5.1,HR.out.2.2.1.trans h5.2⟩
end
section
open Go.RowKit
def kE(x y:Int): Int:=if x < y then -1 else if y < x then 1 else 0
theorem lD(w:World)(x:Int): Calls Tryz.prog 358 #[.int .i64 x] w fun e w'=>e=.returned (.bool false)∧Below w.heap.size w w':=by
 go_enter Tryz.func358,Tryz.ntmps358
 go_wp2_with fail
 go_ret
 exact⟨by simp,Below.refl _ _⟩
theorem jA(w:World)(x y:Int): Calls Tryz.prog 319 #[.int .i64 x,.int .i64 y] w fun e w'=>e=.returned (.int .i64 (kE x y))∧Below w.heap.size w w':=by
 by_cases h1:x < y
 ·have d1:decide (x < y)=true:=by simp[h1]
  have HC:=zh (show kE x y = -1 by unfold kE;rw[if_pos h1])
  clear h1
  go_enter Tryz.func319,Tryz.ntmps319
  go_wp2_with fail
  refine(lD w x).mono ?_
  rintro e w1 ⟨rfl,hb1⟩
  have HB:=zh hb1
  clear hb1
  go_wp2_with fail
  refine(lD w1 y).mono ?_
  rintro e w2 ⟨rfl,hb2⟩
  have HB2:=zh (HB.out.trans (hb2.mono HB.out.size))
  clear hb2
  go_wp2_with fail
  go_ret
  exact⟨by rw[HC.out];rfl,HB2.out⟩
 ·have d1:decide (x < y)=false:=by simp;omega
  by_cases h2:y < x
  ·have d2:decide (y < x)=true:=by simp[h2]
   have HC:=zh (show kE x y=1 by unfold kE;rw[if_neg h1,if_pos h2])
   clear h1 h2
   go_enter Tryz.func319,Tryz.ntmps319
   go_wp2_with fail
   refine(lD w x).mono ?_
   rintro e w1 ⟨rfl,hb1⟩
   have HB:=zh hb1
   clear hb1
   go_wp2_with fail
   refine(lD w1 y).mono ?_
   rintro e w2 ⟨rfl,hb2⟩
   have HB2:=zh (HB.out.trans (hb2.mono HB.out.size))
   clear hb2
   go_wp2_with fail
   go_ret
   exact⟨by rw[HC.out];rfl,HB2.out⟩
  ·have d2:decide (y < x)=false:=by simp;omega
   have HC:=zh (show kE x y=0 by unfold kE;rw[if_neg h1,if_neg h2])
   clear h1 h2
   go_enter Tryz.func319,Tryz.ntmps319
   go_wp2_with fail
   refine(lD w x).mono ?_
   rintro e w1 ⟨rfl,hb1⟩
   have HB:=zh hb1
   clear hb1
   go_wp2_with fail
   refine(lD w1 y).mono ?_
   rintro e w2 ⟨rfl,hb2⟩
   have HB2:=zh (HB.out.trans (hb2.mono HB.out.size))
   clear hb2
   go_wp2_with fail
   go_ret
   exact⟨by rw[HC.out];rfl,HB2.out⟩
theorem Cz(w:World)(g c:Nat)(u a b:Int)(hu:u≠0)(hg:au w g 3 #[.int .i64 u,.int .i64 a,.int .i64 b]): Calls Tryz.prog 318 #[.slice (some ⟨g,0,none⟩) 3 c] w fun e w'=>e=.returned (.int .i64 u)∧Below w.heap.size w w':=by
 have z0:=hg.cell 0
 have d1:(u == 0)=false:=by simp[hu]
 have HG:=zh hg
 clear hg hu
 go_enter Tryz.func318,Tryz.ntmps318
 go_wp2_with fail
 go_loopw [8] (fun i wr=>i=.int .i64 0∧wr=w) (fun _ _=>0)
 case atStart=>exact ⟨rfl,rfl⟩
 case round=>
  obtain⟨rfl,rfl⟩:=hrel
  go_wp2_with fail
  go_ret
  exact⟨rfl,Below.refl _ _⟩
theorem wu{w wx:World}{u a b v:Nat × TypeId × Array Value}(h:Own w [u,a,b,v] wx): Own w [a,b] wx:=h.sub (List.Sublist.cons _ (List.Sublist.cons_cons _ (List.Sublist.cons_cons _ (List.nil_sublist _))))
theorem FU(w:World)(Aa:Option Addr)(na ca ka:Nat)(fa:Nat→Pt)(Ab:Option Addr)(nb cb kb:Nat)(fb:Nat→Pt)(ha:dO w (fun q=>q < w.heap.size) Aa na fa)(hb:dO w (fun q=>q < w.heap.size) Ab nb fb)(hna:0 < na)(hnb:0 < nb)(hne:(fa 0).t≠(fb 0).t):
  Calls Tryz.prog 254 #[.agg #[.slice Aa na ca,.int .i64 (ka:Nat)],.agg #[.slice Ab nb cb,.int .i64 (kb:Nat)]] w fun e w'=>e=.returned (.bool (decide ((fa 0).t < (fb 0).t)))∧Below w.heap.size w w':=by
 obtain⟨ga,oa,rfl,-,-⟩:=id ha hna
 obtain⟨gb,ob,rfl,-,-⟩:=id hb hnb
 obtain⟨a,hae⟩:∃ a,a=fa 0:=⟨_,rfl⟩
 obtain⟨b,hbe⟩:∃ b,b=fb 0:=⟨_,rfl⟩
 rw[←hae,←hbe] at hne ⊢
 have cA:=fun wx (h:Below w.heap.size w wx)=>lN (ha.below h) hna
 have cB:=fun wx (h:Below w.heap.size w wx)=>lN (hb.below h) hnb
 simp only[←hae,←hbe,Nat.zero_mul,Nat.add_zero] at cA cB
 obtain⟨x,hx⟩:∃ x,x=w.heap.size:=⟨_,rfl⟩
 have o0:=Own.oJ w hx 387 #[.slice (some ⟨ga,oa,none⟩) na ca,.int .i64 (ka:Nat)] 387 #[.slice (some ⟨gb,ob,none⟩) nb cb,.int .i64 (kb:Nat)]
 have HD:=zh (zN cA (zN cB (zN hne (zN hx o0))))
 have ea:(0:Int) < (na:Int):=by omega
 have eb:(0:Int) < (nb:Int):=by omega
 clear ha hb cA cB hne o0 hae hbe
 go_enter Tryz.func254,Tryz.ntmps254
 go_wp2_with fail
 rw[←hx]
 clear hx
 refine aH (Own w [(x,387,#[.slice (some ⟨ga,oa,none⟩) na ca,.int .i64 (ka:Nat)]),(x+1,387,#[.slice (some ⟨gb,ob,none⟩) nb cb,.int .i64 (kb:Nat)])]) HD.out.2.2.2.2 ?_
 intro w1 h1
 have H1:=zh h1
 have hS:=h1.drew
 clear h1
 have hS:(Own w [(x,387,#[.slice (some ⟨ga,oa,none⟩) na ca,.int .i64 (ka:Nat)]),(x+1,387,#[.slice (some ⟨gb,ob,none⟩) nb cb,.int .i64 (kb:Nat)])]) (w1.drew):=hS
 refine av (Own w [(x,387,#[.slice (some ⟨ga,oa,none⟩) na ca,.int .i64 (ka:Nat)]),(x+1,387,#[.slice (some ⟨gb,ob,none⟩) nb cb,.int .i64 (kb:Nat)])]) (by kernel_rfl) hS ?_
 refine zB [0,1,2,3,4,5,6,7] ?_
 iterate 8 (refine zV ?_ ?_ hS ?_;rotate_left;(intro w' hSw;have u0:=hSw.cell 0 0 rfl rfl;have u1:=hSw.cell 1 0 rfl rfl;obtain ⟨v0,v1,v2⟩:=HD.out.1 _ hSw.bel;obtain ⟨v3,v4,v5⟩:=HD.out.2.1 _ hSw.bel;go_simp<;>with_reducible rfl);try simp only[zP])
 refine zE ?_
 refine jk (i:=8) (j:=9) rfl rfl (by kernel_rfl) (fun K hK=>?_) (fun K hK=>?_)
 ·skip
  have HK:=zh hK
  clear hK
  go_simp
  go_wp2_with fail
  refine HK.out.zt (Own w [(x,387,#[.slice (some ⟨ga,oa,none⟩) na ca,.int .i64 (ka:Nat)]),(x+1,387,#[.slice (some ⟨gb,ob,none⟩) nb cb,.int .i64 (kb:Nat)])]) (fun _ h=>h) (H1.out.call (((Below.refl _ _).alloc (Nat.le_refl _) (.cells #[.int .i64 0,.int .i64 0,.int .i64 0] 149)).drew)) ?_
  clear HK hS
  intro hS
  try simp only[zP]
  obtain⟨gx,hgx⟩:∃ gx,gx=w1.heap.size:=⟨_,rfl⟩
  obtain⟨gy,hgy⟩:∃ gy,gy=w1.heap.size+1:=⟨_,rfl⟩
  obtain⟨W,hW⟩:∃ W,W=((w1.alloc (.cells #[.int .i64 0,.int .i64 0,.int .i64 0] 149)).alloc (.cells #[.int .i64 0,.int .i64 0,.int .i64 0] 149)).drew:=⟨_,rfl⟩
  have o4:Own w [(x,387,#[.slice (some ⟨ga,oa,none⟩) na ca,.int .i64 (ka:Nat)]),(x+1,387,#[.slice (some ⟨gb,ob,none⟩) nb cb,.int .i64 (kb:Nat)]),(gx,149,#[.int .i64 0,.int .i64 0,.int .i64 0]),(gy,149,#[.int .i64 0,.int .i64 0,.int .i64 0])] W:=by rw[hW];exact ((H1.out.alloc hgx _ _).alloc (by rw[hgy];simp) _ _).drew
  have H4:=zh (o4.front 2 rfl)
  have HS4:=zh (o4.take 2)
  clear o4
  refine zC 9 fun K HK=>?_
  go_simp
  rw[←hW,←hgy,←hgx]
  go_wp2_with fail
  refine HK.out.zt (Own w [(x,387,#[.slice (some ⟨ga,oa,none⟩) na ca,.int .i64 (ka:Nat)]),(x+1,387,#[.slice (some ⟨gb,ob,none⟩) nb cb,.int .i64 (kb:Nat)])]) (fun _ h=>h) (HS4.out) ?_
  clear HK hS
  intro hS
  try simp only[zP]
  clear hW hgx hgy
  have z0:=H4.out.cell 0 0 rfl rfl
  have z1:=H4.out.cell 0 1 rfl rfl
  have z2:=H4.out.cell 0 2 rfl rfl
  have zf:=H4.out.free 0 rfl
  obtain⟨W5,hW5⟩:∃ W5,W5=((W.setCell ⟨gx,0,none⟩ (.int .i64 a.t)).setCell ⟨gx,1,none⟩ (.int .i64 a.v)).setCell ⟨gx,2,none⟩ (.int .i64 a.s):=⟨_,rfl⟩
  have h5:Own w [(gx,149,#[.int .i64 a.t,.int .i64 a.v,.int .i64 a.s]),(x,387,#[.slice (some ⟨ga,oa,none⟩) na ca,.int .i64 (ka:Nat)]),(x+1,387,#[.slice (some ⟨gb,ob,none⟩) nb cb,.int .i64 (kb:Nat)]),(gy,149,#[.int .i64 0,.int .i64 0,.int .i64 0])] W5:=by rw[hW5];exact ((H4.out.set 0 0 rfl (.int .i64 a.t)).set 0 1 rfl (.int .i64 a.v)).set 0 2 rfl (.int .i64 a.s)
  have H5:=zh h5
  clear h5
  refine zC 10 fun K HK=>?_
  go_simp
  rw[←hW5]
  go_wp2_with fail
  refine HK.out.zt (Own w [(x,387,#[.slice (some ⟨ga,oa,none⟩) na ca,.int .i64 (ka:Nat)]),(x+1,387,#[.slice (some ⟨gb,ob,none⟩) nb cb,.int .i64 (kb:Nat)])]) (fun _ h=>h) (wu H5.out) ?_
  clear HK hS
  intro hS
  try simp only[zP]
  clear z0 z1 z2 zf hW5
  have z0:=H5.out.cell 3 0 rfl rfl
  have z1:=H5.out.cell 3 1 rfl rfl
  have z2:=H5.out.cell 3 2 rfl rfl
  have zf:=H5.out.free 3 rfl
  obtain⟨W6,hW6⟩:∃ W6,W6=((W5.setCell ⟨gy,0,none⟩ (.int .i64 b.t)).setCell ⟨gy,1,none⟩ (.int .i64 b.v)).setCell ⟨gy,2,none⟩ (.int .i64 b.s):=⟨_,rfl⟩
  have h6:Own w [(gx,149,#[.int .i64 a.t,.int .i64 a.v,.int .i64 a.s]),(x,387,#[.slice (some ⟨ga,oa,none⟩) na ca,.int .i64 (ka:Nat)]),(x+1,387,#[.slice (some ⟨gb,ob,none⟩) nb cb,.int .i64 (kb:Nat)]),(gy,149,#[.int .i64 b.t,.int .i64 b.v,.int .i64 b.s])] W6:=by rw[hW6];exact ((H5.out.set 3 0 rfl (.int .i64 b.t)).set 3 1 rfl (.int .i64 b.v)).set 3 2 rfl (.int .i64 b.s)
  have H6:=zh h6
  clear h6
  refine zC 11 fun K HK=>?_
  go_simp
  rw[←hW6]
  go_wp2_with fail
  refine HK.out.zt (Own w [(x,387,#[.slice (some ⟨ga,oa,none⟩) na ca,.int .i64 (ka:Nat)]),(x+1,387,#[.slice (some ⟨gb,ob,none⟩) nb cb,.int .i64 (kb:Nat)])]) (fun _ h=>h) (wu H6.out) ?_
  clear HK hS
  intro hS
  try simp only[zP]
  clear z0 z1 z2 zf hW6
  refine zD ?_
  try simp only[zP]
  clear hS
  go_wp2_with fail
  have hS:=H6.out.drew
  have hS:(Own w [(gx,149,#[.int .i64 a.t,.int .i64 a.v,.int .i64 a.s]),(x,387,#[.slice (some ⟨ga,oa,none⟩) na ca,.int .i64 (ka:Nat)]),(x+1,387,#[.slice (some ⟨gb,ob,none⟩) nb cb,.int .i64 (kb:Nat)]),(gy,149,#[.int .i64 b.t,.int .i64 b.v,.int .i64 b.s])]) (W6.drew):=hS
  refine av (Own w [(gx,149,#[.int .i64 a.t,.int .i64 a.v,.int .i64 a.s]),(x,387,#[.slice (some ⟨ga,oa,none⟩) na ca,.int .i64 (ka:Nat)]),(x+1,387,#[.slice (some ⟨gb,ob,none⟩) nb cb,.int .i64 (kb:Nat)]),(gy,149,#[.int .i64 b.t,.int .i64 b.v,.int .i64 b.s])]) (by kernel_rfl) hS ?_
  refine zB [0,1,2,3,5,6,7,8,10,11,12,13] ?_
  iterate 12 (refine zV ?_ ?_ hS ?_;rotate_left;(intro w' hSw;have u0:=hSw.cell 0 0 rfl rfl;have u1:=hSw.cell 0 2 rfl rfl;have u2:=hSw.cell 3 0 rfl rfl;have u3:=hSw.cell 3 2 rfl rfl;have u4:=hSw.cell 1 1 rfl rfl;have u5:=hSw.cell 2 1 rfl rfl;go_simp<;>with_reducible rfl);try simp only[zP])
  refine zE ?_
  refine zC 4 fun K HK=>?_
  go_simp
  refine(jA _ a.t b.t).mono ?_
  rintro e W7 ⟨rfl,hb7⟩
  have H7:=zh (H6.out.drew.call hb7)
  clear hb7
  go_wp2_with fail
  refine HK.out.zt (Own w [(gx,149,#[.int .i64 a.t,.int .i64 a.v,.int .i64 a.s]),(x,387,#[.slice (some ⟨ga,oa,none⟩) na ca,.int .i64 (ka:Nat)]),(x+1,387,#[.slice (some ⟨gb,ob,none⟩) nb cb,.int .i64 (kb:Nat)]),(gy,149,#[.int .i64 b.t,.int .i64 b.v,.int .i64 b.s])]) (fun _ h=>h) (H7.out) ?_
  clear HK hS
  intro hS
  try simp only[zP]
  refine zC 9 fun K HK=>?_
  go_simp
  refine(jA _ b.s a.s).mono ?_
  rintro e W8 ⟨rfl,hb8⟩
  have H8:=zh (H7.out.call hb8)
  clear hb8
  go_wp2_with fail
  refine HK.out.zt (Own w [(gx,149,#[.int .i64 a.t,.int .i64 a.v,.int .i64 a.s]),(x,387,#[.slice (some ⟨ga,oa,none⟩) na ca,.int .i64 (ka:Nat)]),(x+1,387,#[.slice (some ⟨gb,ob,none⟩) nb cb,.int .i64 (kb:Nat)]),(gy,149,#[.int .i64 b.t,.int .i64 b.v,.int .i64 b.s])]) (fun _ h=>h) (H8.out) ?_
  clear HK hS
  intro hS
  try simp only[zP]
  refine zC 14 fun K HK=>?_
  go_simp
  refine(jA _ (kb:Int) (ka:Int)).mono ?_
  rintro e W9 ⟨rfl,hb9⟩
  have H9:=zh (H8.out.call hb9)
  clear hb9
  go_wp2_with fail
  refine HK.out.zt (Own w [(gx,149,#[.int .i64 a.t,.int .i64 a.v,.int .i64 a.s]),(x,387,#[.slice (some ⟨ga,oa,none⟩) na ca,.int .i64 (ka:Nat)]),(x+1,387,#[.slice (some ⟨gb,ob,none⟩) nb cb,.int .i64 (kb:Nat)]),(gy,149,#[.int .i64 b.t,.int .i64 b.v,.int .i64 b.s])]) (fun _ h=>h) (H9.out) ?_
  clear HK hS
  intro hS
  try simp only[zP]
  obtain⟨r0,hr0⟩:∃ r0,r0=kE a.t b.t:=⟨_,rfl⟩
  obtain⟨r1,hr1⟩:∃ r1,r1=kE b.s a.s:=⟨_,rfl⟩
  obtain⟨r2,hr2⟩:∃ r2,r2=kE (kb:Int) (ka:Int):=⟨_,rfl⟩
  rw[←hr0,←hr1,←hr2]
  have hnz:r0≠0:=by
   have:=HD.out.2.2.1
   rw[hr0]
   unfold kE
   split
   ·omega
   ·split<;>omega
  have hres:decide (r0 < 0)=decide (a.t < b.t):=by
   rw[hr0]
   unfold kE
   by_cases h:a.t < b.t
   ·rw[if_pos h];simp[h]
   ·rw[if_neg h]
    split<;>simp<;>omega
  have HR:=zh (zN hnz hres)
  clear hr0 hr1 hr2 hnz
  refine zC 15 fun K HK=>?_
  go_simp
  go_wp2_with fail
  refine HK.out.zt (Own w [(gx,149,#[.int .i64 a.t,.int .i64 a.v,.int .i64 a.s]),(x,387,#[.slice (some ⟨ga,oa,none⟩) na ca,.int .i64 (ka:Nat)]),(x+1,387,#[.slice (some ⟨gb,ob,none⟩) nb cb,.int .i64 (kb:Nat)]),(gy,149,#[.int .i64 b.t,.int .i64 b.v,.int .i64 b.s])]) (fun _ h=>h) (H9.out.call ((Below.refl _ _).alloc (Nat.le_refl _) (.cells #[.int .i64 r0,.int .i64 r1,.int .i64 r2] 3))) ?_
  clear HK hS
  intro hS
  try simp only[zP]
  refine zC 16 fun K HK=>?_
  go_simp
  refine(Cz _ _ _ r0 r1 r2 HR.out.1 (au.fresh _ _ _)).mono ?_
  rintro e W10 ⟨rfl,hb10⟩
  have H10:=zh ((H9.out.call ((Below.refl _ _).alloc (Nat.le_refl _) (.cells #[.int .i64 r0,.int .i64 r1,.int .i64 r2] 3))).call hb10)
  clear hb10
  go_wp2_with fail
  refine HK.out.zt (Own w [(gx,149,#[.int .i64 a.t,.int .i64 a.v,.int .i64 a.s]),(x,387,#[.slice (some ⟨ga,oa,none⟩) na ca,.int .i64 (ka:Nat)]),(x+1,387,#[.slice (some ⟨gb,ob,none⟩) nb cb,.int .i64 (kb:Nat)]),(gy,149,#[.int .i64 b.t,.int .i64 b.v,.int .i64 b.s])]) (fun _ h=>h) (H10.out) ?_
  clear HK hS
  intro hS
  try simp only[zP]
  refine zB [17,18] ?_
  iterate 2 (refine zV ?_ ?_ hS ?_;rotate_left;(intro w' hSw;go_simp<;>with_reducible rfl);try simp only[zP])
  refine zE ?_
  refine zD ?_
  try simp only[zP]
  clear hS
  go_wp2_with fail
  go_ret
  exact⟨by first | rfl | (rw[←HR.out.2];rfl),H10.out.bel⟩
 ·skip
  have HK:=zh hK
  clear hK
  go_simp
  go_wp2_with fail
  refine HK.out.zt (Own w [(x,387,#[.slice (some ⟨ga,oa,none⟩) na ca,.int .i64 (ka:Nat)]),(x+1,387,#[.slice (some ⟨gb,ob,none⟩) nb cb,.int .i64 (kb:Nat)])]) (fun _ h=>h) (H1.out.call (((Below.refl _ _).alloc (Nat.le_refl _) (.cells #[.int .i64 0,.int .i64 0,.int .i64 0] 149)).drew)) ?_
  clear HK hS
  intro hS
  try simp only[zP]
  obtain⟨gy,hgy⟩:∃ gy,gy=w1.heap.size:=⟨_,rfl⟩
  obtain⟨gx,hgx⟩:∃ gx,gx=w1.heap.size+1:=⟨_,rfl⟩
  obtain⟨W,hW⟩:∃ W,W=((w1.alloc (.cells #[.int .i64 0,.int .i64 0,.int .i64 0] 149)).alloc (.cells #[.int .i64 0,.int .i64 0,.int .i64 0] 149)).drew:=⟨_,rfl⟩
  have o4:Own w [(x,387,#[.slice (some ⟨ga,oa,none⟩) na ca,.int .i64 (ka:Nat)]),(x+1,387,#[.slice (some ⟨gb,ob,none⟩) nb cb,.int .i64 (kb:Nat)]),(gy,149,#[.int .i64 0,.int .i64 0,.int .i64 0]),(gx,149,#[.int .i64 0,.int .i64 0,.int .i64 0])] W:=by rw[hW];exact ((H1.out.alloc hgy _ _).alloc (by rw[hgx];simp) _ _).drew
  have H4:=zh (o4.front 3 rfl)
  have HS4:=zh (o4.take 2)
  clear o4
  refine zC 8 fun K HK=>?_
  go_simp
  rw[←hW,←hgx,←hgy]
  go_wp2_with fail
  refine HK.out.zt (Own w [(x,387,#[.slice (some ⟨ga,oa,none⟩) na ca,.int .i64 (ka:Nat)]),(x+1,387,#[.slice (some ⟨gb,ob,none⟩) nb cb,.int .i64 (kb:Nat)])]) (fun _ h=>h) (HS4.out) ?_
  clear HK hS
  intro hS
  try simp only[zP]
  clear hW hgx hgy
  have z0:=H4.out.cell 0 0 rfl rfl
  have z1:=H4.out.cell 0 1 rfl rfl
  have z2:=H4.out.cell 0 2 rfl rfl
  have zf:=H4.out.free 0 rfl
  obtain⟨W5,hW5⟩:∃ W5,W5=((W.setCell ⟨gx,0,none⟩ (.int .i64 a.t)).setCell ⟨gx,1,none⟩ (.int .i64 a.v)).setCell ⟨gx,2,none⟩ (.int .i64 a.s):=⟨_,rfl⟩
  have h5:Own w [(gx,149,#[.int .i64 a.t,.int .i64 a.v,.int .i64 a.s]),(x,387,#[.slice (some ⟨ga,oa,none⟩) na ca,.int .i64 (ka:Nat)]),(x+1,387,#[.slice (some ⟨gb,ob,none⟩) nb cb,.int .i64 (kb:Nat)]),(gy,149,#[.int .i64 0,.int .i64 0,.int .i64 0])] W5:=by rw[hW5];exact ((H4.out.set 0 0 rfl (.int .i64 a.t)).set 0 1 rfl (.int .i64 a.v)).set 0 2 rfl (.int .i64 a.s)
  have H5:=zh h5
  clear h5
  refine zC 10 fun K HK=>?_
  go_simp
  rw[←hW5]
  go_wp2_with fail
  refine HK.out.zt (Own w [(x,387,#[.slice (some ⟨ga,oa,none⟩) na ca,.int .i64 (ka:Nat)]),(x+1,387,#[.slice (some ⟨gb,ob,none⟩) nb cb,.int .i64 (kb:Nat)])]) (fun _ h=>h) (wu H5.out) ?_
  clear HK hS
  intro hS
  try simp only[zP]
  clear z0 z1 z2 zf hW5
  have z0:=H5.out.cell 3 0 rfl rfl
  have z1:=H5.out.cell 3 1 rfl rfl
  have z2:=H5.out.cell 3 2 rfl rfl
  have zf:=H5.out.free 3 rfl
  obtain⟨W6,hW6⟩:∃ W6,W6=((W5.setCell ⟨gy,0,none⟩ (.int .i64 b.t)).setCell ⟨gy,1,none⟩ (.int .i64 b.v)).setCell ⟨gy,2,none⟩ (.int .i64 b.s):=⟨_,rfl⟩
  have h6:Own w [(gx,149,#[.int .i64 a.t,.int .i64 a.v,.int .i64 a.s]),(x,387,#[.slice (some ⟨ga,oa,none⟩) na ca,.int .i64 (ka:Nat)]),(x+1,387,#[.slice (some ⟨gb,ob,none⟩) nb cb,.int .i64 (kb:Nat)]),(gy,149,#[.int .i64 b.t,.int .i64 b.v,.int .i64 b.s])] W6:=by rw[hW6];exact ((H5.out.set 3 0 rfl (.int .i64 b.t)).set 3 1 rfl (.int .i64 b.v)).set 3 2 rfl (.int .i64 b.s)
  have H6:=zh h6
  clear h6
  refine zC 11 fun K HK=>?_
  go_simp
  rw[←hW6]
  go_wp2_with fail
  refine HK.out.zt (Own w [(x,387,#[.slice (some ⟨ga,oa,none⟩) na ca,.int .i64 (ka:Nat)]),(x+1,387,#[.slice (some ⟨gb,ob,none⟩) nb cb,.int .i64 (kb:Nat)])]) (fun _ h=>h) (wu H6.out) ?_
  clear HK hS
  intro hS
  try simp only[zP]
  clear z0 z1 z2 zf hW6
  refine zD ?_
  try simp only[zP]
  clear hS
  go_wp2_with fail
  have hS:=H6.out.drew
  have hS:(Own w [(gx,149,#[.int .i64 a.t,.int .i64 a.v,.int .i64 a.s]),(x,387,#[.slice (some ⟨ga,oa,none⟩) na ca,.int .i64 (ka:Nat)]),(x+1,387,#[.slice (some ⟨gb,ob,none⟩) nb cb,.int .i64 (kb:Nat)]),(gy,149,#[.int .i64 b.t,.int .i64 b.v,.int .i64 b.s])]) (W6.drew):=hS
  refine av (Own w [(gx,149,#[.int .i64 a.t,.int .i64 a.v,.int .i64 a.s]),(x,387,#[.slice (some ⟨ga,oa,none⟩) na ca,.int .i64 (ka:Nat)]),(x+1,387,#[.slice (some ⟨gb,ob,none⟩) nb cb,.int .i64 (kb:Nat)]),(gy,149,#[.int .i64 b.t,.int .i64 b.v,.int .i64 b.s])]) (by kernel_rfl) hS ?_
  refine zB [0,1,2,3,5,6,7,8,10,11,12,13] ?_
  iterate 12 (refine zV ?_ ?_ hS ?_;rotate_left;(intro w' hSw;have u0:=hSw.cell 0 0 rfl rfl;have u1:=hSw.cell 0 2 rfl rfl;have u2:=hSw.cell 3 0 rfl rfl;have u3:=hSw.cell 3 2 rfl rfl;have u4:=hSw.cell 1 1 rfl rfl;have u5:=hSw.cell 2 1 rfl rfl;go_simp<;>with_reducible rfl);try simp only[zP])
  refine zE ?_
  refine zC 4 fun K HK=>?_
  go_simp
  refine(jA _ a.t b.t).mono ?_
  rintro e W7 ⟨rfl,hb7⟩
  have H7:=zh (H6.out.drew.call hb7)
  clear hb7
  go_wp2_with fail
  refine HK.out.zt (Own w [(gx,149,#[.int .i64 a.t,.int .i64 a.v,.int .i64 a.s]),(x,387,#[.slice (some ⟨ga,oa,none⟩) na ca,.int .i64 (ka:Nat)]),(x+1,387,#[.slice (some ⟨gb,ob,none⟩) nb cb,.int .i64 (kb:Nat)]),(gy,149,#[.int .i64 b.t,.int .i64 b.v,.int .i64 b.s])]) (fun _ h=>h) (H7.out) ?_
  clear HK hS
  intro hS
  try simp only[zP]
  refine zC 9 fun K HK=>?_
  go_simp
  refine(jA _ b.s a.s).mono ?_
  rintro e W8 ⟨rfl,hb8⟩
  have H8:=zh (H7.out.call hb8)
  clear hb8
  go_wp2_with fail
  refine HK.out.zt (Own w [(gx,149,#[.int .i64 a.t,.int .i64 a.v,.int .i64 a.s]),(x,387,#[.slice (some ⟨ga,oa,none⟩) na ca,.int .i64 (ka:Nat)]),(x+1,387,#[.slice (some ⟨gb,ob,none⟩) nb cb,.int .i64 (kb:Nat)]),(gy,149,#[.int .i64 b.t,.int .i64 b.v,.int .i64 b.s])]) (fun _ h=>h) (H8.out) ?_
  clear HK hS
  intro hS
  try simp only[zP]
  refine zC 14 fun K HK=>?_
  go_simp
  refine(jA _ (kb:Int) (ka:Int)).mono ?_
  rintro e W9 ⟨rfl,hb9⟩
  have H9:=zh (H8.out.call hb9)
  clear hb9
  go_wp2_with fail
  refine HK.out.zt (Own w [(gx,149,#[.int .i64 a.t,.int .i64 a.v,.int .i64 a.s]),(x,387,#[.slice (some ⟨ga,oa,none⟩) na ca,.int .i64 (ka:Nat)]),(x+1,387,#[.slice (some ⟨gb,ob,none⟩) nb cb,.int .i64 (kb:Nat)]),(gy,149,#[.int .i64 b.t,.int .i64 b.v,.int .i64 b.s])]) (fun _ h=>h) (H9.out) ?_
  clear HK hS
  intro hS
  try simp only[zP]
  obtain⟨r0,hr0⟩:∃ r0,r0=kE a.t b.t:=⟨_,rfl⟩
  obtain⟨r1,hr1⟩:∃ r1,r1=kE b.s a.s:=⟨_,rfl⟩
  obtain⟨r2,hr2⟩:∃ r2,r2=kE (kb:Int) (ka:Int):=⟨_,rfl⟩
  rw[←hr0,←hr1,←hr2]
  have hnz:r0≠0:=by
   have:=HD.out.2.2.1
   rw[hr0]
   unfold kE
   split
   ·omega
   ·split<;>omega
  have hres:decide (r0 < 0)=decide (a.t < b.t):=by
   rw[hr0]
   unfold kE
   by_cases h:a.t < b.t
   ·rw[if_pos h];simp[h]
   ·rw[if_neg h]
    split<;>simp<;>omega
  have HR:=zh (zN hnz hres)
  clear hr0 hr1 hr2 hnz
  refine zC 15 fun K HK=>?_
  go_simp
  go_wp2_with fail
  refine HK.out.zt (Own w [(gx,149,#[.int .i64 a.t,.int .i64 a.v,.int .i64 a.s]),(x,387,#[.slice (some ⟨ga,oa,none⟩) na ca,.int .i64 (ka:Nat)]),(x+1,387,#[.slice (some ⟨gb,ob,none⟩) nb cb,.int .i64 (kb:Nat)]),(gy,149,#[.int .i64 b.t,.int .i64 b.v,.int .i64 b.s])]) (fun _ h=>h) (H9.out.call ((Below.refl _ _).alloc (Nat.le_refl _) (.cells #[.int .i64 r0,.int .i64 r1,.int .i64 r2] 3))) ?_
  clear HK hS
  intro hS
  try simp only[zP]
  refine zC 16 fun K HK=>?_
  go_simp
  refine(Cz _ _ _ r0 r1 r2 HR.out.1 (au.fresh _ _ _)).mono ?_
  rintro e W10 ⟨rfl,hb10⟩
  have H10:=zh ((H9.out.call ((Below.refl _ _).alloc (Nat.le_refl _) (.cells #[.int .i64 r0,.int .i64 r1,.int .i64 r2] 3))).call hb10)
  clear hb10
  go_wp2_with fail
  refine HK.out.zt (Own w [(gx,149,#[.int .i64 a.t,.int .i64 a.v,.int .i64 a.s]),(x,387,#[.slice (some ⟨ga,oa,none⟩) na ca,.int .i64 (ka:Nat)]),(x+1,387,#[.slice (some ⟨gb,ob,none⟩) nb cb,.int .i64 (kb:Nat)]),(gy,149,#[.int .i64 b.t,.int .i64 b.v,.int .i64 b.s])]) (fun _ h=>h) (H10.out) ?_
  clear HK hS
  intro hS
  try simp only[zP]
  refine zB [17,18] ?_
  iterate 2 (refine zV ?_ ?_ hS ?_;rotate_left;(intro w' hSw;go_simp<;>with_reducible rfl);try simp only[zP])
  refine zE ?_
  refine zD ?_
  try simp only[zP]
  clear hS
  go_wp2_with fail
  go_ret
  exact⟨by first | rfl | (rw[←HR.out.2];rfl),H10.out.bel⟩
end
section
def par(i:Nat): Nat:=(i-1) / 2
def jh(f:Nat→Nat)(n:Nat): Prop:=∀ j,0 < j→j < n→f (par j)≤f j
def kM(f:Nat→Nat)(n i:Nat): Prop:=(∀ j,0 < j→j < n→j≠i→f (par j)≤f j)∧(∀ j,0 < j→j < n→par j=i→0 < i→f (par i)≤f j)
def oG(f:Nat→Nat)(n i:Nat): Prop:=(∀ j,0 < j→j < n→par j≠i→f (par j)≤f j)∧(∀ j,0 < j→j < n→par j=i→0 < i→f (par i)≤f j)
def cO{α:Type}(f:Nat→α)(i k:Nat): Nat→α:=fun j=>if j=i then f k else if j=k then f i else f j
theorem ou{j:Nat}(h:0 < j): par j < j:=by unfold par;omega
theorem jh.root{f:Nat→Nat}{n:Nat}(h:jh f n): ∀ j,j < n→f 0≤f j:=by
 intro j
 induction j using Nat.strongRecOn with
 | _ j ih=>
  intro hj
  by_cases h0:j=0
  ·rw[h0];exact Nat.le_refl _
  ·have hp:=ou (j:=j) (by omega)
   exact Nat.le_trans (ih _ hp (by omega)) (h j (by omega) hj)
theorem jh.up{f:Nat→Nat}{n:Nat}(h:jh f n): kM f (n+1) n:=
 ⟨fun j h0 hj hne=>h j h0 (by omega),fun j h0 hj hp=>by have:=ou h0;omega⟩
theorem kM.QD{f:Nat→Nat}{n:Nat}(h:kM f n 0): jh f n:=fun j h0 hj=>h.1 j h0 hj (by omega)
theorem kM.done{f:Nat→Nat}{n i:Nat}(h:kM f n i)(hi:f (par i)≤f i): jh f n:=fun j h0 hj=>by
 by_cases e:j=i
 ·rw[e];exact hi
 ·exact h.1 j h0 hj e
theorem kM.step{f:Nat→Nat}{n i:Nat}(h:kM f n i)(h0:0 < i)(hi:i < n)(hlt:f i < f (par i)): kM (cO f i (par i)) n (par i):=by
 have hpi:=ou h0
 have vi:cO f i (par i) i=f (par i):=by unfold cO;rw[if_pos rfl]
 have vp:cO f i (par i) (par i)=f i:=by unfold cO;rw[if_neg (by omega),if_pos rfl]
 have vo:∀ x,x≠i→x≠par i→cO f i (par i) x=f x:=fun x h1 h2=>by unfold cO;rw[if_neg h1,if_neg h2]
 refine⟨fun j j0 hj hne=>?_,fun j j0 hj hpj hpp=>?_⟩
 ·by_cases e:j=i
  ·rw[e,vi,vp];omega
  ·rw[vo j e hne]
   by_cases e2:par j=i
   ·rw[e2,vi]
    exact h.2 j j0 hj e2 h0
   ·by_cases e3:par j=par i
    ·rw[e3,vp]
     have:=h.1 j j0 hj e
     rw[e3] at this
     omega
    ·rw[vo _ e2 e3]
     exact h.1 j j0 hj e
 ·have h1:f (par (par i))≤f (par i):=h.1 (par i) hpp (by omega) (by omega)
  have hpp2:=ou hpp
  rw[vo (par (par i)) (by omega) (by omega)]
  by_cases e:j=i
  ·rw[e,vi];exact h1
  ·have hjp:j≠par i:=fun e2=>by rw[e2] at hpj;omega
   rw[vo j e hjp]
   have:=h.1 j j0 hj e
   rw[hpj] at this
   omega
theorem jh.down{f:Nat→Nat}{n:Nat}(h:jh f (n+1)): oG (fun j=>if j=0 then f n else f j) n 0:=
 ⟨fun j h0 hj hne=>by
  show (if par j=0 then f n else f (par j))≤if j=0 then f n else f j
  rw[if_neg hne,if_neg (by omega)]
  exact h j h0 (by omega),fun j h0 hj hp h1=>absurd h1 (Nat.lt_irrefl _)⟩
theorem oG.done{f:Nat→Nat}{n i:Nat}(h:oG f n i)(hc:∀ j,0 < j→j < n→par j=i→f i≤f j): jh f n:=fun j h0 hj=>by
 by_cases e:par j=i
 ·rw[e];exact hc j h0 hj e
 ·exact h.1 j h0 hj e
theorem oG.step{f:Nat→Nat}{n i k:Nat}(h:oG f n i)(hk0:0 < k)(hk:k < n)(hpk:par k=i)(hlt:f k < f i)(hleast:∀ j,0 < j→j < n→par j=i→f k≤f j): oG (cO f i k) n k:=by
 have hik:i < k:=by have:=ou hk0;omega
 have vi:cO f i k i=f k:=by unfold cO;rw[if_pos rfl]
 have vk:cO f i k k=f i:=by unfold cO;rw[if_neg (by omega),if_pos rfl]
 have vo:∀ x,x≠i→x≠k→cO f i k x=f x:=fun x h1 h2=>by unfold cO;rw[if_neg h1,if_neg h2]
 refine⟨fun j j0 hj hne=>?_,fun j j0 hj hpj _=>?_⟩
 ·by_cases e:j=k
  ·rw[e,hpk,vi,vk];omega
  ·by_cases e2:j=i
   ·rw[e2] at j0
    have hp:=ou j0
    rw[e2,vi,vo _ (by omega) (by omega)]
    exact h.2 k hk0 hk hpk j0
   ·rw[vo j e2 e]
    by_cases e3:par j=i
    ·rw[e3,vi]
     exact hleast j j0 hj e3
    ·rw[vo _ e3 hne]
     exact h.1 j j0 hj e3
 ·rw[hpk,vi]
  have hp:=ou j0
  rw[vo j (by omega) (by omega)]
  have:=h.1 j j0 hj (by omega)
  rw[hpj] at this
  exact this
structure Holds(f:Nat→Nat)(n:Nat)(S:Nat→Prop): Prop where
 inj:∀ i j,i < n→j < n→f i=f j→i=j
 mem:∀ j,j < n→S (f j)
 all:∀ x,S x→∃ j,j < n∧f j=x
theorem Holds.swap{f:Nat→Nat}{n:Nat}{S:Nat→Prop}(h:Holds f n S){i k:Nat}(hi:i < n)(hk:k < n): Holds (cO f i k) n S:=by
 let g:Nat→Nat:=fun j=>if j=i then k else if j=k then i else j
 have hg:∀ j,cO f i k j=f (g j):=fun j=>by
  show cO f i k j=f (if j=i then k else if j=k then i else j)
  unfold cO
  split
  ·rfl
  ·split<;>rfl
 have hgl:∀ j,j < n→g j < n:=fun j hj=>by
  show (if j=i then k else if j=k then i else j) < n
  split
  ·exact hk
  ·split
   ·exact hi
   ·exact hj
 have hgg:∀ j,g (g j)=j:=fun j=>by
  show (if (if j=i then k else if j=k then i else j)=i then k else if (if j=i then k else if j=k then i else j)=k then i else (if j=i then k else if j=k then i else j))=j
  by_cases e1:j=i
  ·rw[if_pos e1]
   by_cases e2:k=i
   ·rw[if_pos e2,e2,e1]
   ·rw[if_neg e2,if_pos rfl,e1]
  ·rw[if_neg e1]
   by_cases e2:j=k
   ·rw[if_pos e2,if_pos rfl,e2]
   ·rw[if_neg e2,if_neg e1,if_neg e2]
 refine⟨fun a b ha hb e=>?_,fun j hj=>by rw[hg];exact h.mem _ (hgl j hj),fun x hx=>?_⟩
 ·rw[hg,hg] at e
  have:=h.inj _ _ (hgl a ha) (hgl b hb) e
  rw[←hgg a,this,hgg]
 ·obtain ⟨j,hj,rfl⟩:=h.all x hx
  exact⟨g j,hgl j hj,by rw[hg,hgg]⟩
theorem Holds.push{f:Nat→Nat}{n:Nat}{S:Nat→Prop}(h:Holds f n S){x:Nat}(hx:¬ S x): Holds (fun j=>if j=n then x else f j) (n+1) (fun y=>S y∨y=x):=by
 refine⟨fun a b ha hb e=>?_,fun j hj=>?_,fun y hy=>?_⟩
 ·split at e<;>split at e
  ·omega
  ·exact absurd (e ▸ h.mem b (by omega)) hx
  ·exact absurd (e ▸ h.mem a (by omega)) hx
  ·exact h.inj a b (by omega) (by omega) e
 ·split
  ·exact .inr rfl
  ·exact .inl (h.mem j (by omega))
 ·rcases hy with hy | rfl
  ·obtain ⟨j,hj,rfl⟩:=h.all y hy
   exact⟨j,by omega,by rw[if_neg (by omega)]⟩
  ·exact ⟨n,by omega,by simp⟩
theorem Holds.pop{f:Nat→Nat}{n:Nat}{S:Nat→Prop}(h:Holds f (n+1) S): Holds (fun j=>if j=0 then f n else f j) n (fun y=>S y∧y≠f 0):=by
 refine⟨fun a b ha hb e=>?_,fun j hj=>?_,fun y hy=>?_⟩
 ·split at e<;>split at e
  ·omega
  ·have:=h.inj _ _ (by omega) (by omega) e;omega
  ·have:=h.inj _ _ (by omega) (by omega) e;omega
  ·exact h.inj _ _ (by omega) (by omega) e
 ·split
  ·exact ⟨h.mem n (by omega),fun e=>by have:=h.inj _ _ (by omega) (by omega) e;omega⟩
  ·exact ⟨h.mem j (by omega),fun e=>by have:=h.inj _ _ (by omega) (by omega) e;omega⟩
 ·obtain ⟨j,hj,rfl⟩:=h.all y hy.1
  have hj0:j≠0:=fun e=>hy.2 (by rw[e])
  by_cases e:j=n
  ·exact ⟨0,by omega,by simp[e]⟩
  ·exact ⟨j,by omega,by rw[if_neg hj0]⟩
end
section
open Go.RowKit
def jJ(it:Nat→Value)(f:Nat→Nat): Nat→List Value
 | 0=>[]
 | n+1=>jJ it f n ++ [it (f n),.int .i64 (f n:Nat)]
theorem gG(it:Nat→Value)(f:Nat→Nat): ∀ n,(jJ it f n).length=n*2
 | 0=>rfl
 | n+1=>by
  show (jJ it f n ++ _).length=_
  rw[List.length_append,gG it f n]
  simp
  omega
theorem wF(it:Nat→Value)(f:Nat→Nat)(j:Nat): ∀ n,j < n→(jJ it f n)[j*2]? = some (it (f j))∧(jJ it f n)[j*2+1]? = some (.int .i64 (f j:Nat))
 | 0,h=>absurd h (Nat.not_lt_zero _)
 | n+1,h=>by
  show (jJ it f n ++ _)[j*2]? = _∧(jJ it f n ++ _)[j*2+1]? = _
  by_cases e:j < n
  ·rw[List.getElem?_append_left (by rw[gG];omega),List.getElem?_append_left (by rw[gG];omega)]
   exact wF it f j n e
  ·obtain rfl:j=n:=by omega
   rw[List.getElem?_append_right (by rw[gG];omega),List.getElem?_append_right (by rw[gG];omega),gG]
   simp
theorem sZ{it it':Nat→Value}{f f':Nat→Nat}: ∀ n,(∀ j,j < n→f j=f' j∧it (f j)=it' (f j))→jJ it f n=jJ it' f' n
 | 0,_=>rfl
 | n+1,h=>by
  show jJ it f n ++ _=jJ it' f' n ++ _
  rw[sZ n (fun j hj=>h j (by omega)),←(h n (by omega)).1,(h n (by omega)).2]
theorem OB(it:Nat→Value)(f:Nat→Nat)(n i x:Nat)(hi:i < n): ((jJ it f n).set (i*2) (it x)).set (i*2+1) (.int .i64 (x:Nat))=jJ it (fun j=>if j=i then x else f j) n:=by
 apply List.ext_getElem?
 intro q
 by_cases hq:q < n*2
 ·have hj:q / 2 < n:=by omega
  obtain⟨h1,h2⟩:=wF it f (q / 2) n hj
  obtain⟨h3,h4⟩:=wF it (fun j=>if j=i then x else f j) (q / 2) n hj
  rw[List.getElem?_set,List.getElem?_set]
  simp only[List.length_set,gG]
  rcases(show q%2=0∨q%2=1 by omega) with h | h
  ·rw[show q=q / 2*2 by omega,h3]
   by_cases e:q / 2=i
   ·rw[if_neg (by omega),if_pos (by omega),if_pos (by omega),if_pos e]
   ·rw[if_neg (by omega),if_neg (by omega),if_neg e,h1]
  ·rw[show q=q / 2*2+1 by omega,h4]
   by_cases e:q / 2=i
   ·rw[if_pos (by omega),if_pos (by omega),if_pos e]
   ·rw[if_neg (by omega),if_neg (by omega),if_neg e,h2]
 ·rw[List.getElem?_eq_none (by simp[gG];omega),List.getElem?_eq_none (by rw[gG];omega)]
theorem Qc: (Tryz.prog.info? 387).map (fun i=>(i.zero,i.size,i.bytes))=some (some (.agg #[.slice none 0 0,.int .i64 0]),2,32):=by kernel_rfl
theorem Bz{w:World}{base g c n:Nat}{v u:Value}{k:Nat}{xs:List Value}{ty:TypeId}(hown:w.ownsRow base 387 2 v n xs)(hu:u.oneCell'=true)(hg:au w g 387 #[u,.int .i64 (k:Nat)])(hn:n < 100000)(hbase:base≤w.heap.size):
  ∃ v' w',(Builtin.append_ #[382,382] ty #[v,.slice (some ⟨g,0,none⟩) 1 c]).run Tryz.prog w=.ok v' w'∧w'.ownsRow base 387 2 v' (n+1) (xs ++ [u,.int .i64 (k:Nat)])∧w.grownBy w' v.ownBlock∧(v'.ownBlock=v.ownBlock∨v'.ownBlock=some w.heap.size):=by
 obtain⟨i,hi,hz,hs,hb⟩:=info_parts Qc
 have hadd:∀ i,(⟨g,0,none⟩:Addr).add i=⟨g,0+i,none⟩:=fun i=>by unfold Addr.add;split<;>simp_all
 obtain⟨v',w',h1,h2,h3,_,h4⟩:=run_append_own_at (P:=Tryz.prog) w base 382 ty 387 i _ 2 32 Tryz.underlying382 hi hz hs hb rfl (by decide) v n xs hown ⟨g,0,none⟩ 1 c [u,.int .i64 (k:Nat)] rfl
  (fun j u' hu'=>by
   rw[hadd,Nat.zero_add,hg.cell j]
   simpa using hu')
  (by intro u' hu';simp at hu';rcases hu' with rfl | rfl;exact hu;rfl) (by unfold maxLen;omega) (by omega) hbase
 exact⟨v',w',h1,h2,h3,h4⟩
structure aJ(w:World)(B h:Nat)(A:Option Addr)(cp:Nat)(it:Nat→Value)(f:Nat→Nat)(n:Nat): Prop where
 blk:au w h 384 #[.slice A n cp,.func (.func 254) #[] #[]]
 row:w.ownsRow B 387 2 (.slice A n cp) n (jJ it f n)
 hB:B≤h
theorem aJ.call{w w':World}{B h:Nat}{A:Option Addr}{cp:Nat}{it:Nat→Value}{f:Nat→Nat}{n:Nat}(hh:aJ w B h A cp it f n)(hb:Below w.heap.size w w'): aJ w' B h A cp it f n:=
 ⟨hh.blk.below hb hh.blk.lt,aF hh.row (Keeps.of_below (S:=fun _=>False) hb) (fun _ _ h=>h),hh.hB⟩
theorem aJ.za{w:World}{B h:Nat}{A:Option Addr}{cp:Nat}{it:Nat→Value}{f:Nat→Nat}{n:Nat}(hh:aJ w B h A cp it f n)(hn:0 < n): ∃ g,A=some ⟨g,0,none⟩∧n≤cp∧B≤g∧g≠h∧cp≤9223372036854775807:=by
 obtain⟨A',c',hv,hc,hg⟩:=aA hh.row
 injection hv with h1 h2 h3
 subst h1;subst h3
 obtain⟨g,hA,hlo,hlt⟩:=hg hn
 refine⟨g,hA,hc,hlo,fun e=>?_,(V.iC hh.row).2⟩
 have:=own_ne hh.row hh.blk (by decide)
 rw[hA] at this
 exact this (by rw[e];rfl)
theorem aJ.cell{w:World}{B h g:Nat}{cp:Nat}{it:Nat→Value}{f:Nat→Nat}{n j:Nat}(hh:aJ w B h (some ⟨g,0,none⟩) cp it f n)(hj:j < n): w.cell? ⟨g,j*2,none⟩=some (it (f j))∧w.cell? ⟨g,j*2+1,none⟩=some (.int .i64 (f j:Nat)):=by
 have hadd:∀ j,(⟨g,0,none⟩:Addr).add j=⟨g,j,none⟩:=fun j=>by unfold Addr.add;split<;>simp_all
 obtain⟨h1,h2⟩:=wF it f j n hj
 have c1:=hh.row.cells (g:=g) rfl _ _ h1
 have c2:=hh.row.cells (g:=g) rfl _ _ h2
 rw[hadd] at c1 c2
 exact⟨c1,c2⟩
theorem aJ.dV{w:World}{B h g:Nat}{cp:Nat}{it:Nat→Value}{f:Nat→Nat}{n:Nat}(hh:aJ w B h (some ⟨g,0,none⟩) cp it f n)(i:Nat): w.frozen? ⟨g,i,none⟩=false:=by
 rcases hh.row.2 with ⟨h,-⟩ | ⟨g',cap,cur,hv,_,hg,_⟩
 ·cases h
 ·injection hv with h1
  injection h1 with h1
  injection h1 with h1
  subst h1
  exact au.frozen hg i
theorem aJ.put{w w':World}{B h g:Nat}{cp:Nat}{it:Nat→Value}{f:Nat→Nat}{n:Nat}(hh:aJ w B h (some ⟨g,0,none⟩) cp it f n){i x:Nat}(hi:i < n)(hw:w'=(w.setCell ⟨g,i*2,none⟩ (it x)).setCell ⟨g,i*2+1,none⟩ (.int .i64 (x:Nat))):
  aJ w' B h (some ⟨g,0,none⟩) cp it (fun j=>if j=i then x else f j) n∧Keeps (fun q=>q=g) w w':=by
 have hk:Keeps (fun q=>q=g) w w':=by rw[hw];exact ((Keeps.refl (fun q=>q=g) w).setCell (fun _=>rfl) _).setCell (fun _=>rfl) _
 obtain⟨-,-,-,-,hgh,-⟩:=hh.za (by omega)
 refine⟨⟨hh.blk.keeps hk (fun e=>by obtain ⟨g',hA,_,_,h2,_⟩:=hh.za (by omega);injection hA with hA;injection hA with hA;exact h2 (by rw[←hA,e])),?_,hh.hB⟩,hk⟩
 rcases hh.row.2 with ⟨hv,-⟩ | ⟨g',cap,cur,hv,hB',hg,hnc,hcm,hcs,htk⟩
 ·cases hv
 ·injection hv with h1 h2 h3
  injection h1 with h1
  injection h1 with h1
  subst h1;subst h3
  have hb2:=(au.set (w:=w) (cs:=cur) hg (i*2) (it x)).set (i*2+1) (.int .i64 (x:Nat))
  rw[←hw] at hb2
  refine⟨by rw[gG],.inr ⟨g,cp,_,rfl,hB',hb2,hnc,hcm,by simp[hcs],?_⟩⟩
  rw[←OB it f n i x hi,←htk]
  rw[Array.toList_setIfInBounds,Array.toList_setIfInBounds,List.take_set,List.take_set]
end
section
open Go.RowKit
def j3(w:World)(q:Nat): Option TypeId:=match w.heap[q]? with
 | some (.cells _ t _)=>some t
 | _=>none
theorem bZ{w:World}{g:Nat}{t:TypeId}{cs:Array Value}(h:au w g t cs): j3 w g=some t:=by unfold j3;unfold au at h;rw[h]
theorem fQ{w:World}{base size n g:Nat}{e:TypeId}{v:Value}{xs:List Value}(h:w.ownsRow base e size v n xs)(hg:v.ownBlock=some g): j3 w g=some e:=by
 rcases h.2 with ⟨rfl,_⟩ | ⟨g',cap,cur,rfl,_,hh,_⟩
 ·cases hg
 ·have:g'=g:=by simpa [Value.ownBlock] using hg
  subst this
  exact bZ (cs:=cur) hh
theorem Mc{w w':World}{q:Nat}(h:w'.heap[q]? = w.heap[q]?): j3 w' q=j3 w q:=by unfold j3;rw[h]
def HT(w:World)(q:Nat): Prop:=j3 w q=some 387∨j3 w q=some 384
structure HB(B:Nat)(w w':World): Prop where
 bel:Below B w w'
 hk:Keeps (HT w) w w'
 hB:B≤w.heap.size
namespace HB
variable {B:Nat} {w w1 w2:World}
theorem size(h:HB B w w1): w.heap.size≤w1.heap.size:=h.bel.size
theorem ht(h:HB B w w1){q:Nat}(hq:q < w.heap.size)(ht:HT w1 q): HT w q:=by
 refine Classical.byContradiction fun hn=>hn ?_
 have:=Mc (h.hk.block q hq hn)
 unfold HT at ht ⊢
 rw[this] at ht
 exact ht
theorem refl(w:World)(hB:B≤w.heap.size): HB B w w:=⟨Below.refl _ _,Keeps.refl _ _,hB⟩
theorem zR(hb:Below w.heap.size w w1)(hB:B≤w.heap.size): HB B w w1:=⟨hb.mono hB,(Keeps.of_below (S:=fun _=>False) hb).mono (fun _ _ h=>h.elim),hB⟩
theorem trans(h:HB B w w1)(k:HB B w1 w2): HB B w w2:=⟨h.bel.trans k.bel,h.hk.trans k.hk (fun q hq ht=>h.ht hq ht),h.hB⟩
theorem call(h:HB B w w1)(hb:Below w1.heap.size w1 w2): HB B w w2:=h.trans (zR hb (Nat.le_trans h.hB h.size))
theorem drew(h:HB B w w1): HB B w w1.drew:=h.call (Below.refl _ _).drew
theorem keeps{g:Nat}(h:HB B w w1)(hk:Keeps (fun q=>q=g) w1 w2)(ht:HT w1 g)(hg:B≤g): HB B w w2:=
 h.trans ⟨hk.below (Nat.le_trans h.hB h.size) (fun k hk' e=>by omega),hk.mono (fun q _ e=>by rw[e];exact ht),Nat.le_trans h.hB h.size⟩
theorem grown{row:Option Nat}(h:HB B w w1)(hg:w1.grownBy w2 row)(hr:∀ q,row=some q→B≤q∧HT w1 q): HB B w w2:=
 h.trans ⟨(Below.refl _ _).grown hg (Nat.le_trans h.hB h.size) (fun q e=>(hr q e).1),((Keeps.refl (HT w1) w1).grown hg (fun k e _=>(hr k e).2)),Nat.le_trans h.hB h.size⟩
end HB
theorem aJ.ht1{w:World}{B h:Nat}{A:Option Addr}{cp:Nat}{it:Nat→Value}{f:Nat→Nat}{n:Nat}(hh:aJ w B h A cp it f n): HT w h:=.inr (bZ hh.blk)
theorem aJ.ht2{w:World}{B h g:Nat}{cp:Nat}{it:Nat→Value}{f:Nat→Nat}{n:Nat}(hh:aJ w B h (some ⟨g,0,none⟩) cp it f n): HT w g:=.inl (fQ hh.row rfl)
end
section
open Go.RowKit
structure uX(w0:World)(B:Nat)(it:Nat→Value)(ip:Nat→Nat→Pt)(S:Nat→Prop): Prop where
 at_:∀ x,S x→∃ A n c,it x=.slice A n c∧0 < n∧dO w0 (fun q=>q < B) A n (ip x)
 lt:∀ x y,S x→S y→x < y→(ip x 0).t < (ip y 0).t
theorem uX.mono{w0:World}{B:Nat}{it:Nat→Value}{ip:Nat→Nat→Pt}{S T:Nat→Prop}(h:uX w0 B it ip S)(hT:∀ x,T x→S x): uX w0 B it ip T:=⟨fun x hx=>h.at_ x (hT x hx),fun x y hx hy=>h.lt x y (hT x hx) (hT y hy)⟩
theorem kX(w0 wx:World)(B:Nat)(it:Nat→Value)(ip:Nat→Nat→Pt)(S:Nat→Prop)(hb:Below B w0 wx)(hB:B≤w0.heap.size)(hit:uX w0 B it ip S)(x y:Nat)(hx:S x)(hy:S y)(hne:x≠y):
  Calls Tryz.prog 254 #[.agg #[it x,.int .i64 (x:Nat)],.agg #[it y,.int .i64 (y:Nat)]] wx fun e w'=>e=.returned (.bool (decide (x < y)))∧Below wx.heap.size wx w':=by
 obtain⟨Aa,na,ca,ea,hna,hsa⟩:=hit.at_ x hx
 obtain⟨Ab,nb,cb,eb,hnb,hsb⟩:=hit.at_ y hy
 rw[ea,eb]
 have hk:∀ (A:Option Addr) (n:Nat) (f:Nat→Pt),dO w0 (fun q=>q < B) A n f→dO wx (fun q=>q < wx.heap.size) A n f:=fun A n f h=>(h.keep (fun k hk _=>hb.block k hk)).mono (fun q hq=>Nat.lt_of_lt_of_le (Nat.lt_of_lt_of_le hq hB) hb.size)
 have hcmp:(ip x 0).t≠(ip y 0).t∧decide ((ip x 0).t < (ip y 0).t)=decide (x < y):=by
  rcases Nat.lt_or_gt_of_ne hne with h | h
  ·have:=hit.lt x y hx hy h
   exact⟨by omega,by simp[h];omega⟩
  ·have:=hit.lt y x hy hx h
   exact⟨by omega,by simp;omega⟩
 refine(FU wx Aa na ca x (ip x) Ab nb cb y (ip y) (hk _ _ _ hsa) (hk _ _ _ hsb) hna hnb hcmp.1).mono ?_
 rintro e w' ⟨rfl,hb'⟩
 exact⟨by rw[hcmp.2],hb'⟩
def Oi(w:World)(B h:Nat)(it:Nat→Value)(n:Nat)(S:Nat→Prop)(x:Nat)(e:Ending)(w':World): Prop:=
 e=.returned (.tuple #[])∧∃ A' cp' f',aJ w' B h A' cp' it f' (n+1)∧jh f' (n+1)∧Holds f' (n+1) (fun y=>S y∨y=x)∧HB B w w'
theorem uP(w0 w:World)(B h:Nat)(A:Option Addr)(cp:Nat)(it:Nat→Value)(ip:Nat→Nat→Pt)(f:Nat→Nat)(n:Nat)(S:Nat→Prop)(x:Nat)(hw:Below B w0 w)(hB:B≤w0.heap.size)(hh:aJ w B h A cp it f n)(hp:jh f n)(hs:Holds f n S)(hx:¬ S x)(hit:uX w0 B it ip (fun y=>S y∨y=x))(hn:n < 1000):
  Calls Tryz.prog 255 #[.pointer (some ⟨h,0,none⟩),.agg #[it x,.int .i64 (x:Nat)]] w (Oi w B h it n S x):=by
 obtain⟨Ax,nx,cx,ex,-,-⟩:=hit.at_ x (.inr rfl)
 have hBw:B≤w.heap.size:=Nat.le_trans hB hw.size
 obtain⟨bx,hbx⟩:∃ bx,bx=w.heap.size:=⟨_,rfl⟩
 have a1:Below w.heap.size w (w.alloc (.cells #[it x,.int .i64 (x:Nat)] 387)):=(Below.refl _ _).alloc (Nat.le_refl _) _
 have HD:=zh (zN hw (zN hB (zN hh (zN hp (zN hs (zN hx (zN hit (zN hBw (zN hbx ex)))))))))
 clear hw hB hh hp hs hx hit
 rw[ex] at a1 ⊢
 go_enter Tryz.func255,Tryz.ntmps255
 go_wp2_with fail
 rw[←hbx]
 refine aH (fun wx=>HB B w wx∧aJ wx B h A cp it f n∧au wx bx 387 #[.slice Ax nx cx,.int .i64 (x:Nat)]) ⟨HB.zR a1 hBw,HD.out.2.2.1.call a1,by rw[hbx];exact au.fresh _ _ _⟩ ?_
 rintro w1 ⟨b1,h1,g1⟩
 have H1:=zh (zN b1 (zN h1 g1))
 clear b1 h1 g1 a1 hbx
 have hS:=H1.out.2.2.drew
 have hS:(fun wx=>au wx bx 387 #[.slice Ax nx cx,.int .i64 (x:Nat)]) (w1.drew):=hS
 refine av (fun wx=>au wx bx 387 #[.slice Ax nx cx,.int .i64 (x:Nat)]) (by kernel_rfl) hS ?_
 refine zB [0,1,2,3,5] ?_
 iterate 5 (refine zV ?_ ?_ hS ?_;rotate_left;(intro w' hSw;have u0:=hSw.cell 0;have u1:=hSw.cell 1;go_simp<;>with_reducible rfl);try simp only[zP])
 refine zE ?_
 obtain⟨W2,hW2⟩:∃ W2,W2=(w1.alloc (.cells #[.slice Ax nx cx,.int .i64 (x:Nat)] 387)).drew:=⟨_,rfl⟩
 have a2:Below w1.heap.size w1 W2:=by rw[hW2];exact ((Below.refl _ _).alloc (Nat.le_refl _) _).drew
 have hh2:=H1.out.2.1.call a2
 have hBW:B≤W2.heap.size:=Nat.le_trans (Nat.le_trans HD.out.2.2.2.2.2.2.2.1 H1.out.1.size) a2.size
 obtain⟨v3,w3,hrun3,r3,g3,x3⟩:=Bz (w:=W2) (base:=B) (g:=w1.heap.size) (c:=1) (n:=n) (v:=.slice A n cp) (u:=.slice Ax nx cx) (k:=x) (xs:=jJ it f n) (ty:=382) hh2.row rfl (by rw[hW2];exact (au.fresh _ _ _).drew) (by omega) hBW
 obtain⟨A3,c3,hv3,hc3,-⟩:=aA r3
 subst hv3
 have hrw:jJ it (fun j=>if j=n then x else f j) (n+1)=jJ it f n ++ [.slice Ax nx cx,.int .i64 (x:Nat)]:=by
  show jJ it (fun j=>if j=n then x else f j) n ++ [it (if n=n then x else f n),.int .i64 ((if n=n then x else f n:Nat))]=_
  rw[if_pos rfl,HD.out.2.2.2.2.2.2.2.2.2,sZ n (fun j hj=>by rw[if_neg (by omega)];exact ⟨rfl,rfl⟩)]
 rw[←hrw] at r3
 have hbh3:=dK g3 hh2.blk (fun e=>own_ne hh2.row hh2.blk (by decide) e.symm)
 have hbx3:au w3 bx 387 #[.slice Ax nx cx,.int .i64 (x:Nat)]:=dK g3 (H1.out.2.2.below a2 H1.out.2.2.lt) (fun e=>by
  have:=(HD.out.2.2.1.row.lt bx e.symm).2
  rw[HD.out.2.2.2.2.2.2.2.2.1] at this
  omega)
 obtain⟨w4,hw4⟩:∃ w4,w4=w3.setCell ⟨h,0,none⟩ (.slice A3 (n+1) c3):=⟨_,rfl⟩
 have hk4:Keeps (fun q=>q=h) w3 w4:=by rw[hw4];exact (Keeps.refl (fun q=>q=h) w3).setCell (fun _=>rfl) _
 have hb4:=hbh3.set 0 (.slice A3 (n+1) c3)
 rw[←hw4] at hb4
 have hh4:aJ w4 B h A3 c3 it (fun j=>if j=n then x else f j) (n+1):=⟨hb4,aF r3 hk4 (fun q hq e=>own_ne r3 hbh3 (by decide) (by rw[hq,e])),HD.out.2.2.1.hB⟩
 have hup4:kM (fun j=>if j=n then x else f j) (n+1) n:=jh.up (fun j h0 hj=>by
  have:=ou h0
  rw[if_neg (by omega),if_neg (by omega)]
  exact HD.out.2.2.2.1 j h0 hj)
 have hs4:=HD.out.2.2.2.2.1.push HD.out.2.2.2.2.2.1
 have hbx4:=hbx3.keeps hk4 (fun e=>by
  have:=HD.out.2.2.1.blk.lt
  rw[HD.out.2.2.2.2.2.2.2.2.1] at e
  omega)
 have hbel4:HB B w w4:=((H1.out.1.call a2).grown g3 (fun q hq=>⟨(hh2.row.lt q hq).1,.inl (fQ hh2.row hq)⟩)).keeps hk4 (.inr (bZ hbh3)) HD.out.2.2.1.hB
 have u3:=hbh3.cell 0
 have uf:=hbh3.frozen
 have HW2:=zh hW2
 have HW4:=zh hw4
 clear hW2 hw4
 have HP:=zh (zN hh4 (zN hup4 (zN hs4 (zN hbx3 hbx4))))
 have HW:=zh hbel4
 clear a2 hh2 hBW r3 g3 x3 hrw hbh3 hbx3 hk4 hb4 hh4 hup4 hs4 hbx4 hbel4 hc3
 refine jk (i:=4) (j:=6) rfl rfl (by kernel_rfl) (fun K hK=>?_) (fun K hK=>?_)
 ·skip
  have HK:=zh hK
  clear hK
  have u4:w1.drew.cell? ⟨h,0,none⟩=some (.slice A n cp):=H1.out.2.1.blk.cell 0
  go_simp
  go_wp2_with fail
  refine HK.out.zt (fun wx=>au wx bx 387 #[.slice Ax nx cx,.int .i64 (x:Nat)]) (fun _ h=>h) (hS) ?_
  clear HK hS
  intro hS
  try simp only[zP]
  clear u4
  have hS2:au W2 bx 387 #[.slice Ax nx cx,.int .i64 (x:Nat)]:=by rw[HW2.out];exact (H1.out.2.2.alloc _).drew
  refine zC 6 fun K HK=>?_
  go_simp
  rw[←HW2.out]
  go_wp2_with fail
  refine HK.out.zt (fun wx=>au wx bx 387 #[.slice Ax nx cx,.int .i64 (x:Nat)]) (fun _ h=>h) (hS2) ?_
  clear HK hS
  intro hS
  try simp only[zP]
  clear hS2
  refine zC 7 fun K HK=>?_
  refine dB rfl (.tmp 9) (.tmp 11) rfl rfl rfl hrun3 ?_
  refine HK.out.zt (fun wx=>au wx bx 387 #[.slice Ax nx cx,.int .i64 (x:Nat)]) (fun _ h=>h) (HP.out.2.2.2.1) ?_
  clear HK hS
  intro hS
  try simp only[zP]
  refine zB [8,9] ?_
  iterate 2 (refine zV ?_ ?_ hS ?_;rotate_left;(intro w' hSw;go_simp<;>with_reducible rfl);try simp only[zP])
  refine zE ?_
  refine zC 10 fun K HK=>?_
  go_simp
  rw[←HW4.out]
  go_wp2_with fail
  refine HK.out.zt (fun wx=>au wx bx 387 #[.slice Ax nx cx,.int .i64 (x:Nat)]) (fun _ h=>h) (HP.out.2.2.2.2) ?_
  clear HK hS
  intro hS
  try simp only[zP]
  refine zD ?_
  try simp only[zP]
  clear hrun3 hS u3 uf
  have v0:=HP.out.1.blk.cell 0
  go_wp2_with fail
  clear v0
  obtain⟨g,hA3,-,-,-,-⟩:=HP.out.1.za (by omega)
  subst hA3
  go_loopw [4] (fun i wr=>∃ (k:Nat) (f':Nat→Nat),k≤n∧i=.int .i64 (k:Nat)∧aJ wr B h (some ⟨g,0,none⟩) c3 it f' (n+1)∧kM f' (n+1) k∧Holds f' (n+1) (fun y=>S y∨y=x)∧HB B w wr) (fun i _=>(intOf i).toNat)
  case atStart=>exact ⟨n,_,Nat.le_refl _,rfl,HP.out.1,HP.out.2.1,HP.out.2.2.1,HW.out⟩
  case round=>
   obtain⟨k,f',hk,rfl,hh,hup,hs,hbel⟩:=hrel
   have hS:=hh.call (Below.refl _ _).drew
   have HL:=zh (zN hh (zN hup (zN hs hbel)))
   clear hh hup hs hbel
   cases k with
   | zero=>
    go_wp2_with fail
    have hS:(fun wx=>aJ wx B h (some ⟨g,0,none⟩) c3 it f' (n+1)) (wr.drew):=hS
    refine av (fun wx=>aJ wx B h (some ⟨g,0,none⟩) c3 it f' (n+1)) (by kernel_rfl) hS ?_
    refine zB [0,1,2] ?_
    iterate 3 (refine zV ?_ ?_ hS ?_;rotate_left;(intro w' hSw;go_simp<;>with_reducible rfl);try simp only[zP])
    refine zE ?_
    refine zB [3,4,5,6,7,8,9,10,11,12,13,14,15,16,17,18,19,20,21,22,23] ?_
    iterate 21 (refine zW hS ?_;try simp only[zP])
    refine zE ?_
    refine zT 24 ?_ ?_ hS ?_
    rotate_left
    ·(intro w' hSw;go_simp<;>with_reducible rfl)
    try simp only[zP]
    refine zD ?_
    try simp only[zP]
    have HS2:=zh hS
    clear hS
    go_wp2_with fail
    refine bodyPost_end (v:=.tuple #[]) (by simp[results,Tryz.results255,go_sem]) rfl ?_
    exact⟨rfl,_,c3,f',HS2.out,HL.out.2.1.QD,HL.out.2.2.1,HL.out.2.2.2.drew⟩
   | succ k=>
    have hm1:=HL.out.2.2.1.mem (k+1) (by omega)
    have hm2:=HL.out.2.2.1.mem (k / 2) (by omega)
    obtain⟨A1,n1,c1,e1,-,-⟩:=HD.out.2.2.2.2.2.2.1.at_ _ hm1
    obtain⟨A2,n2,c2,e2,-,-⟩:=HD.out.2.2.2.2.2.2.1.at_ _ hm2
    obtain⟨x1,hx1⟩:∃ x1,x1=f' (k+1):=⟨_,rfl⟩
    obtain⟨x2,hx2⟩:∃ x2,x2=f' (k / 2):=⟨_,rfl⟩
    rw[←hx1] at hm1 e1
    rw[←hx2] at hm2 e2
    have hne:x1≠x2:=fun e=>by
     have:=HL.out.2.2.1.inj (k+1) (k / 2) (by omega) (by omega) (by rw[←hx1,←hx2,e])
     omega
    have hcell:∀ wx,aJ wx B h (some ⟨g,0,none⟩) c3 it f' (n+1)→(wx.cell? ⟨g,(k+1)*2,none⟩=some (.slice A1 n1 c1)∧wx.cell? ⟨g,(k+1)*2+1,none⟩=some (.int .i64 (x1:Nat)))∧(wx.cell? ⟨g,k / 2*2,none⟩=some (.slice A2 n2 c2)∧wx.cell? ⟨g,k / 2*2+1,none⟩=some (.int .i64 (x2:Nat))):=fun wx hx=>by
     have q1:=hx.cell (j:=k+1) (by omega)
     have q2:=hx.cell (j:=k / 2) (by omega)
     rw[←hx1,e1] at q1
     rw[←hx2,e2] at q2
     exact⟨q1,q2⟩
    have HX:=zh (zN hm1 (zN hm2 (zN hne (zN hcell (zN e1 (zN e2 (zN hx1 hx2)))))))
    clear hm1 hm2 hne hcell e1 e2 hx1 hx2
    have d1:decide ((0:Int) < (k:Int)+1)=true:=by simp<;>omega
    have d2:(0:Int) < (k:Int)+1:=by omega
    have d3:(k:Int)+1 < (n:Int)+1:=by omega
    have d4:(k:Int) / 2 < (n:Int)+1:=by omega
    have d5:IntKind.i64.wrap (k:Int)=(k:Int):=by simp only[IntKind.wrap_i64];omega
    have d6:(0:Int)≤(k:Int) / 2:=by omega
    have d8:(0:Int)≤(k:Int)+1:=by omega
    have d9:IntKind.i64.wrap ((k:Int) / 2)=(k:Int) / 2:=by simp only[IntKind.wrap_i64];omega
    have d10:((k:Int) / 2).toNat=k / 2:=by omega
    go_wp2_with fail
    have hS:(fun wx=>aJ wx B h (some ⟨g,0,none⟩) c3 it f' (n+1)) (wr.drew):=hS
    refine av (fun wx=>aJ wx B h (some ⟨g,0,none⟩) c3 it f' (n+1)) (by kernel_rfl) hS ?_
    refine zB [0,1,2,3,4,5,6,7,8,9,10,11,12,13,14,15,16,17,18,19,20,21,22] ?_
    iterate 23 (refine zV ?_ ?_ hS ?_;rotate_left;(intro w' hSw;have u0:=hSw.blk.cell 0;have u1:=hSw.blk.cell 1;obtain ⟨⟨u2,u3⟩,u4,u5⟩:=HX.out.2.2.2.1 _ hSw;go_simp<;>with_reducible rfl);try simp only[zP])
    refine zE ?_
    have hcall:Calls Tryz.prog 254 #[.agg #[.slice A1 n1 c1,.int .i64 (x1:Nat)],.agg #[.slice A2 n2 c2,.int .i64 (x2:Nat)]] wr.drew fun e w'=>e=.returned (.bool (decide (x1 < x2)))∧Below wr.drew.heap.size wr.drew w':=by
     have hc:=kX w0 wr.drew B it ip _ ((HD.out.1.trans HL.out.2.2.2.bel).drew) HD.out.2.1 HD.out.2.2.2.2.2.2.1 x1 x2 HX.out.1 HX.out.2.1 HX.out.2.2.1
     rw[HX.out.2.2.2.2.1,HX.out.2.2.2.2.2.1] at hc
     exact hc
    refine zC 23 fun K HK=>?_
    go_simp
    refine(hcall).mono ?_
    rintro e w6 ⟨rfl,hb6⟩
    have hh6:=(HL.out.1.call (Below.refl _ _).drew).call hb6
    have hbel6:HB B w w6:=HL.out.2.2.2.drew.call hb6
    have H6:=zh (zN hh6 hbel6)
    clear hh6 hbel6 hb6 hcall
    go_wp2_with fail
    refine HK.out.zt (fun wx=>aJ wx B h (some ⟨g,0,none⟩) c3 it f' (n+1)) (fun _ h=>h) (H6.out.1) ?_
    clear HK hS
    intro hS
    try simp only[zP]
    refine zT 24 ?_ ?_ hS ?_
    rotate_left
    ·(intro w' hSw;go_simp<;>with_reducible rfl)
    try simp only[zP]
    refine zD ?_
    try simp only[zP]
    clear hS
    by_cases hlt:x1 < x2
    ·have d7:decide (x1 < x2)=true:=by simp[hlt]
     go_wp2_with fail
     clear d7
     have hS:=H6.out.1.blk.drew
     have hS:(fun wx=>au wx h 384 #[.slice (some ⟨g,0,none⟩) (n+1) c3,.func (.func 254) #[] #[]]) (w6.drew):=hS
     refine av (fun wx=>au wx h 384 #[.slice (some ⟨g,0,none⟩) (n+1) c3,.func (.func 254) #[] #[]]) (by kernel_rfl) hS ?_
     refine zB [0,1,2,3,4,5,6,7,8,9,10,11,12,13,14,15,16,17,18,19,21,22,23,24,25,26] ?_
     iterate 26 (refine zV ?_ ?_ hS ?_;rotate_left;(intro w' hSw;have u0:=hSw.cell 0;go_simp<;>with_reducible rfl);try simp only[zP])
     refine zE ?_
     refine jk (i:=20) (j:=27) rfl rfl (by kernel_rfl) (fun K hK=>?_) (fun K hK=>?_)
     ·skip
      have HK:=zh hK
      clear hK
      obtain⟨⟨u2,u3⟩,u4,u5⟩:=HX.out.2.2.2.1 _ (H6.out.1.call (Below.refl _ _).drew)
      go_simp
      go_wp2_with fail
      refine HK.out.zt (fun wx=>au wx h 384 #[.slice (some ⟨g,0,none⟩) (n+1) c3,.func (.func 254) #[] #[]]) (fun _ h=>h) (hS) ?_
      clear HK hS
      intro hS
      try simp only[zP]
      refine zC 27 fun K HK=>?_
      go_simp
      go_wp2_with fail
      refine HK.out.zt (fun wx=>au wx h 384 #[.slice (some ⟨g,0,none⟩) (n+1) c3,.func (.func 254) #[] #[]]) (fun _ h=>h) (hS) ?_
      clear HK hS
      intro hS
      try simp only[zP]
      clear u2 u3 u4 u5
      refine zT 28 ?_ ?_ hS ?_
      rotate_left
      ·(intro w' hSw;go_simp<;>with_reducible rfl)
      try simp only[zP]
      have q1:=(HX.out.2.2.2.1 _ H6.out.1).1.1
      have q2:=(HX.out.2.2.2.1 _ H6.out.1).1.2
      have qf:=H6.out.1.dV
      obtain⟨w7,hw7⟩:∃ w7,w7=((w6.setCell ⟨g,(k+1)*2,none⟩ (.slice A2 n2 c2)).setCell ⟨g,(k+1)*2+1,none⟩ (.int .i64 (x2:Nat))).drew:=⟨_,rfl⟩
      have h7:aJ w7 B h (some ⟨g,0,none⟩) c3 it (fun j=>if j=k+1 then x2 else f' j) (n+1)∧Keeps (fun q=>q=g) w6 w7:=by
       have h:=H6.out.1.put (i:=k+1) (x:=x2) (by omega) (w':=(w6.setCell ⟨g,(k+1)*2,none⟩ (.slice A2 n2 c2)).setCell ⟨g,(k+1)*2+1,none⟩ (.int .i64 (x2:Nat))) (by rw[HX.out.2.2.2.2.2.1])
       rw[hw7]
       exact⟨h.1.call (Below.refl _ _).drew,h.2.drew⟩
      have H7:=zh h7
      have HW7:=zh hw7
      clear h7 hw7
      refine zC 29 fun K HK=>?_
      go_simp
      rw[←HW7.out]
      go_wp2_with fail
      refine HK.out.zt (fun wx=>au wx h 384 #[.slice (some ⟨g,0,none⟩) (n+1) c3,.func (.func 254) #[] #[]]) (fun _ h=>h) (H7.out.1.blk) ?_
      clear HK hS
      intro hS
      try simp only[zP]
      clear q1 q2 qf
      refine zT 30 ?_ ?_ hS ?_
      rotate_left
      ·(intro w' hSw;go_simp<;>with_reducible rfl)
      try simp only[zP]
      have q34:w7.cell? ⟨g,k / 2*2,none⟩=some (.slice A2 n2 c2)∧w7.cell? ⟨g,k / 2*2+1,none⟩=some (.int .i64 (x2:Nat)):=by
       have h:=H7.out.1.cell (j:=k / 2) (by omega)
       rw[if_neg (by omega),←HX.out.2.2.2.2.2.2.2,HX.out.2.2.2.2.2.1] at h
       exact h
      have q1:=q34.1
      have q2:=q34.2
      have qf:=H7.out.1.dV
      obtain⟨w8,hw8⟩:∃ w8,w8=((w7.setCell ⟨g,k / 2*2,none⟩ (.slice A1 n1 c1)).setCell ⟨g,k / 2*2+1,none⟩ (.int .i64 (x1:Nat))):=⟨_,rfl⟩
      have h8:=H7.out.1.put (i:=k / 2) (x:=x1) (by omega) (w':=w8) (by rw[HX.out.2.2.2.2.1];exact hw8)
      have hbel8:HB B w w8:=by
       have hg:B≤g:=by
        obtain⟨g',hA,_,hlo,_⟩:=H6.out.1.za (by omega)
        injection hA with hA
        injection hA with hA
        rw[hA];exact hlo
       exact(H6.out.2.keeps H7.out.2 H6.out.1.ht2 hg).keeps h8.2 H7.out.1.ht2 hg
      have H8:=zh (zN h8.1 hbel8)
      have HW8:=zh hw8
      clear q34 h8 hbel8 hw8
      refine zC 31 fun K HK=>?_
      go_simp
      rw[←HW8.out]
      go_wp2_with fail
      refine HK.out.zt (fun wx=>au wx h 384 #[.slice (some ⟨g,0,none⟩) (n+1) c3,.func (.func 254) #[] #[]]) (fun _ h=>h) (H8.out.1.blk) ?_
      clear HK hS
      intro hS
      try simp only[zP]
      refine zD ?_
      try simp only[zP]
      clear q1 q2 qf hS
      go_wp2_with fail
      go_roundw
      case rel=>
       have e:par (k+1)=k / 2:=by unfold par;omega
       have hfe:∀ j,(if j=k / 2 then x1 else if j=k+1 then x2 else f' j)=cO f' (k+1) (par (k+1)) j:=fun j=>by
        unfold cO
        rw[e,HX.out.2.2.2.2.2.2.1,HX.out.2.2.2.2.2.2.2]
        by_cases h1:j=k / 2
        ·rw[if_pos h1,if_neg (by omega),if_pos h1]
        ·rw[if_neg h1]
         by_cases h2:j=k+1
         ·rw[if_pos h2,if_pos h2]
         ·rw[if_neg h2,if_neg h2,if_neg h1]
       have hfe2:=funext hfe
       refine⟨k / 2,_,by omega,by go_num,H8.out.1,?_,?_,H8.out.2⟩
       ·rw[hfe2,←e]
        exact HL.out.2.1.step (by omega) (by omega) (by rw[e,←HX.out.2.2.2.2.2.2.1,←HX.out.2.2.2.2.2.2.2];exact hlt)
       ·rw[hfe2]
        exact HL.out.2.2.1.swap (by omega) (by rw[e];omega)
      case measure=>simp[intOf]<;>omega
     ·skip
      have HK:=zh hK
      clear hK
      obtain⟨⟨u2,u3⟩,u4,u5⟩:=HX.out.2.2.2.1 _ (H6.out.1.call (Below.refl _ _).drew)
      go_simp
      go_wp2_with fail
      refine HK.out.zt (fun wx=>au wx h 384 #[.slice (some ⟨g,0,none⟩) (n+1) c3,.func (.func 254) #[] #[]]) (fun _ h=>h) (hS) ?_
      clear HK hS
      intro hS
      try simp only[zP]
      refine zC 20 fun K HK=>?_
      go_simp
      go_wp2_with fail
      refine HK.out.zt (fun wx=>au wx h 384 #[.slice (some ⟨g,0,none⟩) (n+1) c3,.func (.func 254) #[] #[]]) (fun _ h=>h) (hS) ?_
      clear HK hS
      intro hS
      try simp only[zP]
      clear u2 u3 u4 u5
      refine zT 28 ?_ ?_ hS ?_
      rotate_left
      ·(intro w' hSw;go_simp<;>with_reducible rfl)
      try simp only[zP]
      have q1:=(HX.out.2.2.2.1 _ H6.out.1).1.1
      have q2:=(HX.out.2.2.2.1 _ H6.out.1).1.2
      have qf:=H6.out.1.dV
      obtain⟨w7,hw7⟩:∃ w7,w7=((w6.setCell ⟨g,(k+1)*2,none⟩ (.slice A2 n2 c2)).setCell ⟨g,(k+1)*2+1,none⟩ (.int .i64 (x2:Nat))).drew:=⟨_,rfl⟩
      have h7:aJ w7 B h (some ⟨g,0,none⟩) c3 it (fun j=>if j=k+1 then x2 else f' j) (n+1)∧Keeps (fun q=>q=g) w6 w7:=by
       have h:=H6.out.1.put (i:=k+1) (x:=x2) (by omega) (w':=(w6.setCell ⟨g,(k+1)*2,none⟩ (.slice A2 n2 c2)).setCell ⟨g,(k+1)*2+1,none⟩ (.int .i64 (x2:Nat))) (by rw[HX.out.2.2.2.2.2.1])
       rw[hw7]
       exact⟨h.1.call (Below.refl _ _).drew,h.2.drew⟩
      have H7:=zh h7
      have HW7:=zh hw7
      clear h7 hw7
      refine zC 29 fun K HK=>?_
      go_simp
      rw[←HW7.out]
      go_wp2_with fail
      refine HK.out.zt (fun wx=>au wx h 384 #[.slice (some ⟨g,0,none⟩) (n+1) c3,.func (.func 254) #[] #[]]) (fun _ h=>h) (H7.out.1.blk) ?_
      clear HK hS
      intro hS
      try simp only[zP]
      clear q1 q2 qf
      refine zT 30 ?_ ?_ hS ?_
      rotate_left
      ·(intro w' hSw;go_simp<;>with_reducible rfl)
      try simp only[zP]
      have q34:w7.cell? ⟨g,k / 2*2,none⟩=some (.slice A2 n2 c2)∧w7.cell? ⟨g,k / 2*2+1,none⟩=some (.int .i64 (x2:Nat)):=by
       have h:=H7.out.1.cell (j:=k / 2) (by omega)
       rw[if_neg (by omega),←HX.out.2.2.2.2.2.2.2,HX.out.2.2.2.2.2.1] at h
       exact h
      have q1:=q34.1
      have q2:=q34.2
      have qf:=H7.out.1.dV
      obtain⟨w8,hw8⟩:∃ w8,w8=((w7.setCell ⟨g,k / 2*2,none⟩ (.slice A1 n1 c1)).setCell ⟨g,k / 2*2+1,none⟩ (.int .i64 (x1:Nat))):=⟨_,rfl⟩
      have h8:=H7.out.1.put (i:=k / 2) (x:=x1) (by omega) (w':=w8) (by rw[HX.out.2.2.2.2.1];exact hw8)
      have hbel8:HB B w w8:=by
       have hg:B≤g:=by
        obtain⟨g',hA,_,hlo,_⟩:=H6.out.1.za (by omega)
        injection hA with hA
        injection hA with hA
        rw[hA];exact hlo
       exact(H6.out.2.keeps H7.out.2 H6.out.1.ht2 hg).keeps h8.2 H7.out.1.ht2 hg
      have H8:=zh (zN h8.1 hbel8)
      have HW8:=zh hw8
      clear q34 h8 hbel8 hw8
      refine zC 31 fun K HK=>?_
      go_simp
      rw[←HW8.out]
      go_wp2_with fail
      refine HK.out.zt (fun wx=>au wx h 384 #[.slice (some ⟨g,0,none⟩) (n+1) c3,.func (.func 254) #[] #[]]) (fun _ h=>h) (H8.out.1.blk) ?_
      clear HK hS
      intro hS
      try simp only[zP]
      refine zD ?_
      try simp only[zP]
      clear q1 q2 qf hS
      go_wp2_with fail
      go_roundw
      case rel=>
       have e:par (k+1)=k / 2:=by unfold par;omega
       have hfe:∀ j,(if j=k / 2 then x1 else if j=k+1 then x2 else f' j)=cO f' (k+1) (par (k+1)) j:=fun j=>by
        unfold cO
        rw[e,HX.out.2.2.2.2.2.2.1,HX.out.2.2.2.2.2.2.2]
        by_cases h1:j=k / 2
        ·rw[if_pos h1,if_neg (by omega),if_pos h1]
        ·rw[if_neg h1]
         by_cases h2:j=k+1
         ·rw[if_pos h2,if_pos h2]
         ·rw[if_neg h2,if_neg h2,if_neg h1]
       have hfe2:=funext hfe
       refine⟨k / 2,_,by omega,by go_num,H8.out.1,?_,?_,H8.out.2⟩
       ·rw[hfe2,←e]
        exact HL.out.2.1.step (by omega) (by omega) (by rw[e,←HX.out.2.2.2.2.2.2.1,←HX.out.2.2.2.2.2.2.2];exact hlt)
       ·rw[hfe2]
        exact HL.out.2.2.1.swap (by omega) (by rw[e];omega)
      case measure=>simp[intOf]<;>omega
    ·have d7:decide (x1 < x2)=false:=by simp;omega
     go_wp2_with fail
     refine bodyPost_end (v:=.tuple #[]) (by simp[results,Tryz.results255,go_sem]) rfl ?_
     exact⟨rfl,_,c3,f',H6.out.1,HL.out.2.1.done (by
      have e:par (k+1)=k / 2:=by unfold par;omega
      rw[e,←HX.out.2.2.2.2.2.2.2,←HX.out.2.2.2.2.2.2.1]
      omega),HL.out.2.2.1,H6.out.2⟩
 ·skip
  have HK:=zh hK
  clear hK
  have hS2:au W2 bx 387 #[.slice Ax nx cx,.int .i64 (x:Nat)]:=by rw[HW2.out];exact (H1.out.2.2.alloc _).drew
  have u4:W2.cell? ⟨h,0,none⟩=some (.slice A n cp):=by rw[HW2.out];exact (H1.out.2.1.blk.alloc _).drew.cell 0
  go_simp
  rw[←HW2.out]
  go_wp2_with fail
  refine HK.out.zt (fun wx=>au wx bx 387 #[.slice Ax nx cx,.int .i64 (x:Nat)]) (fun _ h=>h) (hS2) ?_
  clear HK hS
  intro hS
  try simp only[zP]
  refine zC 4 fun K HK=>?_
  go_simp
  go_wp2_with fail
  refine HK.out.zt (fun wx=>au wx bx 387 #[.slice Ax nx cx,.int .i64 (x:Nat)]) (fun _ h=>h) (hS2) ?_
  clear HK hS
  intro hS
  try simp only[zP]
  clear hS2 u4
  refine zC 7 fun K HK=>?_
  refine dB rfl (.tmp 9) (.tmp 11) rfl rfl rfl hrun3 ?_
  refine HK.out.zt (fun wx=>au wx bx 387 #[.slice Ax nx cx,.int .i64 (x:Nat)]) (fun _ h=>h) (HP.out.2.2.2.1) ?_
  clear HK hS
  intro hS
  try simp only[zP]
  refine zB [8,9] ?_
  iterate 2 (refine zV ?_ ?_ hS ?_;rotate_left;(intro w' hSw;go_simp<;>with_reducible rfl);try simp only[zP])
  refine zE ?_
  refine zC 10 fun K HK=>?_
  go_simp
  rw[←HW4.out]
  go_wp2_with fail
  refine HK.out.zt (fun wx=>au wx bx 387 #[.slice Ax nx cx,.int .i64 (x:Nat)]) (fun _ h=>h) (HP.out.2.2.2.2) ?_
  clear HK hS
  intro hS
  try simp only[zP]
  refine zD ?_
  try simp only[zP]
  clear hrun3 hS u3 uf
  have v0:=HP.out.1.blk.cell 0
  go_wp2_with fail
  clear v0
  obtain⟨g,hA3,-,-,-,-⟩:=HP.out.1.za (by omega)
  subst hA3
  go_loopw [4] (fun i wr=>∃ (k:Nat) (f':Nat→Nat),k≤n∧i=.int .i64 (k:Nat)∧aJ wr B h (some ⟨g,0,none⟩) c3 it f' (n+1)∧kM f' (n+1) k∧Holds f' (n+1) (fun y=>S y∨y=x)∧HB B w wr) (fun i _=>(intOf i).toNat)
  case atStart=>exact ⟨n,_,Nat.le_refl _,rfl,HP.out.1,HP.out.2.1,HP.out.2.2.1,HW.out⟩
  case round=>
   obtain⟨k,f',hk,rfl,hh,hup,hs,hbel⟩:=hrel
   have hS:=hh.call (Below.refl _ _).drew
   have HL:=zh (zN hh (zN hup (zN hs hbel)))
   clear hh hup hs hbel
   cases k with
   | zero=>
    go_wp2_with fail
    have hS:(fun wx=>aJ wx B h (some ⟨g,0,none⟩) c3 it f' (n+1)) (wr.drew):=hS
    refine av (fun wx=>aJ wx B h (some ⟨g,0,none⟩) c3 it f' (n+1)) (by kernel_rfl) hS ?_
    refine zB [0,1,2] ?_
    iterate 3 (refine zV ?_ ?_ hS ?_;rotate_left;(intro w' hSw;go_simp<;>with_reducible rfl);try simp only[zP])
    refine zE ?_
    refine zB [3,4,5,6,7,8,9,10,11,12,13,14,15,16,17,18,19,20,21,22,23] ?_
    iterate 21 (refine zW hS ?_;try simp only[zP])
    refine zE ?_
    refine zT 24 ?_ ?_ hS ?_
    rotate_left
    ·(intro w' hSw;go_simp<;>with_reducible rfl)
    try simp only[zP]
    refine zD ?_
    try simp only[zP]
    have HS2:=zh hS
    clear hS
    go_wp2_with fail
    refine bodyPost_end (v:=.tuple #[]) (by simp[results,Tryz.results255,go_sem]) rfl ?_
    exact⟨rfl,_,c3,f',HS2.out,HL.out.2.1.QD,HL.out.2.2.1,HL.out.2.2.2.drew⟩
   | succ k=>
    have hm1:=HL.out.2.2.1.mem (k+1) (by omega)
    have hm2:=HL.out.2.2.1.mem (k / 2) (by omega)
    obtain⟨A1,n1,c1,e1,-,-⟩:=HD.out.2.2.2.2.2.2.1.at_ _ hm1
    obtain⟨A2,n2,c2,e2,-,-⟩:=HD.out.2.2.2.2.2.2.1.at_ _ hm2
    obtain⟨x1,hx1⟩:∃ x1,x1=f' (k+1):=⟨_,rfl⟩
    obtain⟨x2,hx2⟩:∃ x2,x2=f' (k / 2):=⟨_,rfl⟩
    rw[←hx1] at hm1 e1
    rw[←hx2] at hm2 e2
    have hne:x1≠x2:=fun e=>by
     have:=HL.out.2.2.1.inj (k+1) (k / 2) (by omega) (by omega) (by rw[←hx1,←hx2,e])
     omega
    have hcell:∀ wx,aJ wx B h (some ⟨g,0,none⟩) c3 it f' (n+1)→(wx.cell? ⟨g,(k+1)*2,none⟩=some (.slice A1 n1 c1)∧wx.cell? ⟨g,(k+1)*2+1,none⟩=some (.int .i64 (x1:Nat)))∧(wx.cell? ⟨g,k / 2*2,none⟩=some (.slice A2 n2 c2)∧wx.cell? ⟨g,k / 2*2+1,none⟩=some (.int .i64 (x2:Nat))):=fun wx hx=>by
     have q1:=hx.cell (j:=k+1) (by omega)
     have q2:=hx.cell (j:=k / 2) (by omega)
     rw[←hx1,e1] at q1
     rw[←hx2,e2] at q2
     exact⟨q1,q2⟩
    have HX:=zh (zN hm1 (zN hm2 (zN hne (zN hcell (zN e1 (zN e2 (zN hx1 hx2)))))))
    clear hm1 hm2 hne hcell e1 e2 hx1 hx2
    have d1:decide ((0:Int) < (k:Int)+1)=true:=by simp<;>omega
    have d2:(0:Int) < (k:Int)+1:=by omega
    have d3:(k:Int)+1 < (n:Int)+1:=by omega
    have d4:(k:Int) / 2 < (n:Int)+1:=by omega
    have d5:IntKind.i64.wrap (k:Int)=(k:Int):=by simp only[IntKind.wrap_i64];omega
    have d6:(0:Int)≤(k:Int) / 2:=by omega
    have d8:(0:Int)≤(k:Int)+1:=by omega
    have d9:IntKind.i64.wrap ((k:Int) / 2)=(k:Int) / 2:=by simp only[IntKind.wrap_i64];omega
    have d10:((k:Int) / 2).toNat=k / 2:=by omega
    go_wp2_with fail
    have hS:(fun wx=>aJ wx B h (some ⟨g,0,none⟩) c3 it f' (n+1)) (wr.drew):=hS
    refine av (fun wx=>aJ wx B h (some ⟨g,0,none⟩) c3 it f' (n+1)) (by kernel_rfl) hS ?_
    refine zB [0,1,2,3,4,5,6,7,8,9,10,11,12,13,14,15,16,17,18,19,20,21,22] ?_
    iterate 23 (refine zV ?_ ?_ hS ?_;rotate_left;(intro w' hSw;have u0:=hSw.blk.cell 0;have u1:=hSw.blk.cell 1;obtain ⟨⟨u2,u3⟩,u4,u5⟩:=HX.out.2.2.2.1 _ hSw;go_simp<;>with_reducible rfl);try simp only[zP])
    refine zE ?_
    have hcall:Calls Tryz.prog 254 #[.agg #[.slice A1 n1 c1,.int .i64 (x1:Nat)],.agg #[.slice A2 n2 c2,.int .i64 (x2:Nat)]] wr.drew fun e w'=>e=.returned (.bool (decide (x1 < x2)))∧Below wr.drew.heap.size wr.drew w':=by
     have hc:=kX w0 wr.drew B it ip _ ((HD.out.1.trans HL.out.2.2.2.bel).drew) HD.out.2.1 HD.out.2.2.2.2.2.2.1 x1 x2 HX.out.1 HX.out.2.1 HX.out.2.2.1
     rw[HX.out.2.2.2.2.1,HX.out.2.2.2.2.2.1] at hc
     exact hc
    refine zC 23 fun K HK=>?_
    go_simp
    refine(hcall).mono ?_
    rintro e w6 ⟨rfl,hb6⟩
    have hh6:=(HL.out.1.call (Below.refl _ _).drew).call hb6
    have hbel6:HB B w w6:=HL.out.2.2.2.drew.call hb6
    have H6:=zh (zN hh6 hbel6)
    clear hh6 hbel6 hb6 hcall
    go_wp2_with fail
    refine HK.out.zt (fun wx=>aJ wx B h (some ⟨g,0,none⟩) c3 it f' (n+1)) (fun _ h=>h) (H6.out.1) ?_
    clear HK hS
    intro hS
    try simp only[zP]
    refine zT 24 ?_ ?_ hS ?_
    rotate_left
    ·(intro w' hSw;go_simp<;>with_reducible rfl)
    try simp only[zP]
    refine zD ?_
    try simp only[zP]
    clear hS
    by_cases hlt:x1 < x2
    ·have d7:decide (x1 < x2)=true:=by simp[hlt]
     go_wp2_with fail
     clear d7
     have hS:=H6.out.1.blk.drew
     have hS:(fun wx=>au wx h 384 #[.slice (some ⟨g,0,none⟩) (n+1) c3,.func (.func 254) #[] #[]]) (w6.drew):=hS
     refine av (fun wx=>au wx h 384 #[.slice (some ⟨g,0,none⟩) (n+1) c3,.func (.func 254) #[] #[]]) (by kernel_rfl) hS ?_
     refine zB [0,1,2,3,4,5,6,7,8,9,10,11,12,13,14,15,16,17,18,19,21,22,23,24,25,26] ?_
     iterate 26 (refine zV ?_ ?_ hS ?_;rotate_left;(intro w' hSw;have u0:=hSw.cell 0;go_simp<;>with_reducible rfl);try simp only[zP])
     refine zE ?_
     refine jk (i:=20) (j:=27) rfl rfl (by kernel_rfl) (fun K hK=>?_) (fun K hK=>?_)
     ·skip
      have HK:=zh hK
      clear hK
      obtain⟨⟨u2,u3⟩,u4,u5⟩:=HX.out.2.2.2.1 _ (H6.out.1.call (Below.refl _ _).drew)
      go_simp
      go_wp2_with fail
      refine HK.out.zt (fun wx=>au wx h 384 #[.slice (some ⟨g,0,none⟩) (n+1) c3,.func (.func 254) #[] #[]]) (fun _ h=>h) (hS) ?_
      clear HK hS
      intro hS
      try simp only[zP]
      refine zC 27 fun K HK=>?_
      go_simp
      go_wp2_with fail
      refine HK.out.zt (fun wx=>au wx h 384 #[.slice (some ⟨g,0,none⟩) (n+1) c3,.func (.func 254) #[] #[]]) (fun _ h=>h) (hS) ?_
      clear HK hS
      intro hS
      try simp only[zP]
      clear u2 u3 u4 u5
      refine zT 28 ?_ ?_ hS ?_
      rotate_left
      ·(intro w' hSw;go_simp<;>with_reducible rfl)
      try simp only[zP]
      have q1:=(HX.out.2.2.2.1 _ H6.out.1).1.1
      have q2:=(HX.out.2.2.2.1 _ H6.out.1).1.2
      have qf:=H6.out.1.dV
      obtain⟨w7,hw7⟩:∃ w7,w7=((w6.setCell ⟨g,(k+1)*2,none⟩ (.slice A2 n2 c2)).setCell ⟨g,(k+1)*2+1,none⟩ (.int .i64 (x2:Nat))).drew:=⟨_,rfl⟩
      have h7:aJ w7 B h (some ⟨g,0,none⟩) c3 it (fun j=>if j=k+1 then x2 else f' j) (n+1)∧Keeps (fun q=>q=g) w6 w7:=by
       have h:=H6.out.1.put (i:=k+1) (x:=x2) (by omega) (w':=(w6.setCell ⟨g,(k+1)*2,none⟩ (.slice A2 n2 c2)).setCell ⟨g,(k+1)*2+1,none⟩ (.int .i64 (x2:Nat))) (by rw[HX.out.2.2.2.2.2.1])
       rw[hw7]
       exact⟨h.1.call (Below.refl _ _).drew,h.2.drew⟩
      have H7:=zh h7
      have HW7:=zh hw7
      clear h7 hw7
      refine zC 29 fun K HK=>?_
      go_simp
      rw[←HW7.out]
      go_wp2_with fail
      refine HK.out.zt (fun wx=>au wx h 384 #[.slice (some ⟨g,0,none⟩) (n+1) c3,.func (.func 254) #[] #[]]) (fun _ h=>h) (H7.out.1.blk) ?_
      clear HK hS
      intro hS
      try simp only[zP]
      clear q1 q2 qf
      refine zT 30 ?_ ?_ hS ?_
      rotate_left
      ·(intro w' hSw;go_simp<;>with_reducible rfl)
      try simp only[zP]
      have q34:w7.cell? ⟨g,k / 2*2,none⟩=some (.slice A2 n2 c2)∧w7.cell? ⟨g,k / 2*2+1,none⟩=some (.int .i64 (x2:Nat)):=by
       have h:=H7.out.1.cell (j:=k / 2) (by omega)
       rw[if_neg (by omega),←HX.out.2.2.2.2.2.2.2,HX.out.2.2.2.2.2.1] at h
       exact h
      have q1:=q34.1
      have q2:=q34.2
      have qf:=H7.out.1.dV
      obtain⟨w8,hw8⟩:∃ w8,w8=((w7.setCell ⟨g,k / 2*2,none⟩ (.slice A1 n1 c1)).setCell ⟨g,k / 2*2+1,none⟩ (.int .i64 (x1:Nat))):=⟨_,rfl⟩
      have h8:=H7.out.1.put (i:=k / 2) (x:=x1) (by omega) (w':=w8) (by rw[HX.out.2.2.2.2.1];exact hw8)
      have hbel8:HB B w w8:=by
       have hg:B≤g:=by
        obtain⟨g',hA,_,hlo,_⟩:=H6.out.1.za (by omega)
        injection hA with hA
        injection hA with hA
        rw[hA];exact hlo
       exact(H6.out.2.keeps H7.out.2 H6.out.1.ht2 hg).keeps h8.2 H7.out.1.ht2 hg
      have H8:=zh (zN h8.1 hbel8)
      have HW8:=zh hw8
      clear q34 h8 hbel8 hw8
      refine zC 31 fun K HK=>?_
      go_simp
      rw[←HW8.out]
      go_wp2_with fail
      refine HK.out.zt (fun wx=>au wx h 384 #[.slice (some ⟨g,0,none⟩) (n+1) c3,.func (.func 254) #[] #[]]) (fun _ h=>h) (H8.out.1.blk) ?_
      clear HK hS
      intro hS
      try simp only[zP]
      refine zD ?_
      try simp only[zP]
      clear q1 q2 qf hS
      go_wp2_with fail
      go_roundw
      case rel=>
       have e:par (k+1)=k / 2:=by unfold par;omega
       have hfe:∀ j,(if j=k / 2 then x1 else if j=k+1 then x2 else f' j)=cO f' (k+1) (par (k+1)) j:=fun j=>by
        unfold cO
        rw[e,HX.out.2.2.2.2.2.2.1,HX.out.2.2.2.2.2.2.2]
        by_cases h1:j=k / 2
        ·rw[if_pos h1,if_neg (by omega),if_pos h1]
        ·rw[if_neg h1]
         by_cases h2:j=k+1
         ·rw[if_pos h2,if_pos h2]
         ·rw[if_neg h2,if_neg h2,if_neg h1]
       have hfe2:=funext hfe
       refine⟨k / 2,_,by omega,by go_num,H8.out.1,?_,?_,H8.out.2⟩
       ·rw[hfe2,←e]
        exact HL.out.2.1.step (by omega) (by omega) (by rw[e,←HX.out.2.2.2.2.2.2.1,←HX.out.2.2.2.2.2.2.2];exact hlt)
       ·rw[hfe2]
        exact HL.out.2.2.1.swap (by omega) (by rw[e];omega)
      case measure=>simp[intOf]<;>omega
     ·skip
      have HK:=zh hK
      clear hK
      obtain⟨⟨u2,u3⟩,u4,u5⟩:=HX.out.2.2.2.1 _ (H6.out.1.call (Below.refl _ _).drew)
      go_simp
      go_wp2_with fail
      refine HK.out.zt (fun wx=>au wx h 384 #[.slice (some ⟨g,0,none⟩) (n+1) c3,.func (.func 254) #[] #[]]) (fun _ h=>h) (hS) ?_
      clear HK hS
      intro hS
      try simp only[zP]
      refine zC 20 fun K HK=>?_
      go_simp
      go_wp2_with fail
      refine HK.out.zt (fun wx=>au wx h 384 #[.slice (some ⟨g,0,none⟩) (n+1) c3,.func (.func 254) #[] #[]]) (fun _ h=>h) (hS) ?_
      clear HK hS
      intro hS
      try simp only[zP]
      clear u2 u3 u4 u5
      refine zT 28 ?_ ?_ hS ?_
      rotate_left
      ·(intro w' hSw;go_simp<;>with_reducible rfl)
      try simp only[zP]
      have q1:=(HX.out.2.2.2.1 _ H6.out.1).1.1
      have q2:=(HX.out.2.2.2.1 _ H6.out.1).1.2
      have qf:=H6.out.1.dV
      obtain⟨w7,hw7⟩:∃ w7,w7=((w6.setCell ⟨g,(k+1)*2,none⟩ (.slice A2 n2 c2)).setCell ⟨g,(k+1)*2+1,none⟩ (.int .i64 (x2:Nat))).drew:=⟨_,rfl⟩
      have h7:aJ w7 B h (some ⟨g,0,none⟩) c3 it (fun j=>if j=k+1 then x2 else f' j) (n+1)∧Keeps (fun q=>q=g) w6 w7:=by
       have h:=H6.out.1.put (i:=k+1) (x:=x2) (by omega) (w':=(w6.setCell ⟨g,(k+1)*2,none⟩ (.slice A2 n2 c2)).setCell ⟨g,(k+1)*2+1,none⟩ (.int .i64 (x2:Nat))) (by rw[HX.out.2.2.2.2.2.1])
       rw[hw7]
       exact⟨h.1.call (Below.refl _ _).drew,h.2.drew⟩
      have H7:=zh h7
      have HW7:=zh hw7
      clear h7 hw7
      refine zC 29 fun K HK=>?_
      go_simp
      rw[←HW7.out]
      go_wp2_with fail
      refine HK.out.zt (fun wx=>au wx h 384 #[.slice (some ⟨g,0,none⟩) (n+1) c3,.func (.func 254) #[] #[]]) (fun _ h=>h) (H7.out.1.blk) ?_
      clear HK hS
      intro hS
      try simp only[zP]
      clear q1 q2 qf
      refine zT 30 ?_ ?_ hS ?_
      rotate_left
      ·(intro w' hSw;go_simp<;>with_reducible rfl)
      try simp only[zP]
      have q34:w7.cell? ⟨g,k / 2*2,none⟩=some (.slice A2 n2 c2)∧w7.cell? ⟨g,k / 2*2+1,none⟩=some (.int .i64 (x2:Nat)):=by
       have h:=H7.out.1.cell (j:=k / 2) (by omega)
       rw[if_neg (by omega),←HX.out.2.2.2.2.2.2.2,HX.out.2.2.2.2.2.1] at h
       exact h
      have q1:=q34.1
      have q2:=q34.2
      have qf:=H7.out.1.dV
      obtain⟨w8,hw8⟩:∃ w8,w8=((w7.setCell ⟨g,k / 2*2,none⟩ (.slice A1 n1 c1)).setCell ⟨g,k / 2*2+1,none⟩ (.int .i64 (x1:Nat))):=⟨_,rfl⟩
      have h8:=H7.out.1.put (i:=k / 2) (x:=x1) (by omega) (w':=w8) (by rw[HX.out.2.2.2.2.1];exact hw8)
      have hbel8:HB B w w8:=by
       have hg:B≤g:=by
        obtain⟨g',hA,_,hlo,_⟩:=H6.out.1.za (by omega)
        injection hA with hA
        injection hA with hA
        rw[hA];exact hlo
       exact(H6.out.2.keeps H7.out.2 H6.out.1.ht2 hg).keeps h8.2 H7.out.1.ht2 hg
      have H8:=zh (zN h8.1 hbel8)
      have HW8:=zh hw8
      clear q34 h8 hbel8 hw8
      refine zC 31 fun K HK=>?_
      go_simp
      rw[←HW8.out]
      go_wp2_with fail
      refine HK.out.zt (fun wx=>au wx h 384 #[.slice (some ⟨g,0,none⟩) (n+1) c3,.func (.func 254) #[] #[]]) (fun _ h=>h) (H8.out.1.blk) ?_
      clear HK hS
      intro hS
      try simp only[zP]
      refine zD ?_
      try simp only[zP]
      clear q1 q2 qf hS
      go_wp2_with fail
      go_roundw
      case rel=>
       have e:par (k+1)=k / 2:=by unfold par;omega
       have hfe:∀ j,(if j=k / 2 then x1 else if j=k+1 then x2 else f' j)=cO f' (k+1) (par (k+1)) j:=fun j=>by
        unfold cO
        rw[e,HX.out.2.2.2.2.2.2.1,HX.out.2.2.2.2.2.2.2]
        by_cases h1:j=k / 2
        ·rw[if_pos h1,if_neg (by omega),if_pos h1]
        ·rw[if_neg h1]
         by_cases h2:j=k+1
         ·rw[if_pos h2,if_pos h2]
         ·rw[if_neg h2,if_neg h2,if_neg h1]
       have hfe2:=funext hfe
       refine⟨k / 2,_,by omega,by go_num,H8.out.1,?_,?_,H8.out.2⟩
       ·rw[hfe2,←e]
        exact HL.out.2.1.step (by omega) (by omega) (by rw[e,←HX.out.2.2.2.2.2.2.1,←HX.out.2.2.2.2.2.2.2];exact hlt)
       ·rw[hfe2]
        exact HL.out.2.2.1.swap (by omega) (by rw[e];omega)
      case measure=>simp[intOf]<;>omega
    ·have d7:decide (x1 < x2)=false:=by simp;omega
     go_wp2_with fail
     refine bodyPost_end (v:=.tuple #[]) (by simp[results,Tryz.results255,go_sem]) rfl ?_
     exact⟨rfl,_,c3,f',H6.out.1,HL.out.2.1.done (by
      have e:par (k+1)=k / 2:=by unfold par;omega
      rw[e,←HX.out.2.2.2.2.2.2.2,←HX.out.2.2.2.2.2.2.1]
      omega),HL.out.2.2.1,H6.out.2⟩
end
section
open Go.RowKit
theorem fF(w:World): (Op.unary .not (.bool true)).run Tryz.prog w=.ok (.bool false) w:=by kernel_rfl
theorem jV(w:World): (Op.unary .not (.bool false)).run Tryz.prog w=.ok (.bool true) w:=by kernel_rfl
def Rt(w:World)(B h:Nat)(cp:Nat)(it:Nat→Value)(n:Nat)(S:Nat→Prop)(x:Nat)(e:Ending)(w':World): Prop:=
 e=.returned (.agg #[it x,.int .i64 (x:Nat)])∧∃ A' f',aJ w' B h A' cp it f' n∧jh f' n∧Holds f' n (fun y=>S y∧y≠x)∧HB B w w'
theorem aJ.cut{w w':World}{B h g:Nat}{cp:Nat}{it:Nat→Value}{f:Nat→Nat}{n:Nat}(hh:aJ w B h (some ⟨g,0,none⟩) cp it f (n+1))(hw:w'=w.setCell ⟨h,0,none⟩ (.slice (some ⟨g,0,none⟩) n cp)): aJ w' B h (some ⟨g,0,none⟩) cp it f n∧Keeps (fun q=>q=h) w w':=by
 have hk:Keeps (fun q=>q=h) w w':=by rw[hw];exact (Keeps.refl (fun q=>q=h) w).setCell (fun _=>rfl) _
 have hb:=hh.blk.set 0 (.slice (some ⟨g,0,none⟩) n cp)
 rw[←hw] at hb
 have hr:=aF hh.row hk (fun q hq e=>own_ne hh.row hh.blk (by decide) (by rw[hq,e]))
 refine⟨⟨hb,?_,hh.hB⟩,hk⟩
 rcases hr.2 with ⟨hv,-⟩ | ⟨g',cap,cur,hv,hB',hg,hnc,hcm,hcs,htk⟩
 ·cases hv
 ·injection hv with h1 h2 h3
  injection h1 with h1
  injection h1 with h1
  subst h1;subst h3
  refine⟨gG _ _ _,.inr ⟨g,cp,cur,rfl,hB',hg,by omega,hcm,hcs,?_⟩⟩
  have h:=congrArg (List.take (n*2)) htk
  rw[List.take_take,Nat.min_eq_left (by omega)] at h
  rw[h]
  show List.take (n*2) (jJ it f n ++ _)=_
  rw[List.take_append_of_le_length (by rw[gG];exact Nat.le_refl _),List.take_of_length_le (by rw[gG];exact Nat.le_refl _)]
theorem Ph(w0 w:World)(B h:Nat)(A:Option Addr)(cp:Nat)(it:Nat→Value)(ip:Nat→Nat→Pt)(f:Nat→Nat)(n:Nat)(S:Nat→Prop)(hw:Below B w0 w)(hB:B≤w0.heap.size)(hh:aJ w B h A cp it f (n+1))(hp:jh f (n+1))(hs:Holds f (n+1) S)(hit:uX w0 B it ip S)(hn:n < 1000):
  Calls Tryz.prog 256 #[.pointer (some ⟨h,0,none⟩)] w (Rt w B h cp it n S (f 0)):=by
 obtain⟨g,rfl,hnc,hBg,hgh,hc63⟩:=hh.za (by omega)
 obtain⟨x0,hx0⟩:∃ x0,x0=f 0:=⟨_,rfl⟩
 obtain⟨xn,hxn⟩:∃ xn,xn=f n:=⟨_,rfl⟩
 obtain⟨A0,n0,c0,e0,-,-⟩:=hit.at_ _ (hs.mem 0 (by omega))
 obtain⟨An,nn,cn,en,-,-⟩:=hit.at_ _ (hs.mem n (by omega))
 rw[←hx0] at e0 ⊢
 rw[←hxn] at en
 have hBw:B≤w.heap.size:=Nat.le_trans hB hw.size
 obtain⟨r0,hr0⟩:∃ r0,r0=w.heap.size:=⟨_,rfl⟩
 have o0:=Own.eX w hr0 387 #[.slice none 0 0,.int .i64 0]
 have hcl:∀ wx,aJ wx B h (some ⟨g,0,none⟩) cp it f (n+1)→(wx.cell? ⟨g,0,none⟩=some (.slice A0 n0 c0)∧wx.cell? ⟨g,1,none⟩=some (.int .i64 (x0:Nat)))∧(wx.cell? ⟨g,n*2,none⟩=some (.slice An nn cn)∧wx.cell? ⟨g,n*2+1,none⟩=some (.int .i64 (xn:Nat))):=fun wx hx=>by
  have q1:=hx.cell (j:=0) (by omega)
  have q2:=hx.cell (j:=n) (by omega)
  rw[←hx0,e0] at q1
  rw[←hxn,en] at q2
  exact⟨q1,q2⟩
 have HD:=zh (zN hw (zN hB (zN hh (zN hp (zN hs (zN hit (zN hBw (zN hr0 (zN o0 (zN hcl (zN hx0 (zN hxn (zN e0 (zN en (zN hBg hgh)))))))))))))))
 clear hw hB hh hp hs hit o0 hcl hx0 hxn e0 en hBg hgh
 go_enter Tryz.func256,Tryz.ntmps256
 go_wp2_with fail
 rw[←hr0]
 clear hr0
 refine aH (fun wx=>Own w [(r0,387,#[.slice none 0 0,.int .i64 0])] wx) HD.out.2.2.2.2.2.2.2.2.1 ?_
 intro w1 o1
 have hh1:=HD.out.2.2.1.call o1.bel
 have hS:=hh1.call (Below.refl _ _).drew
 have H1:=zh (zN o1 hh1)
 clear o1 hh1
 have d1:IntKind.i64.wrap (n:Int)=(n:Int):=by simp only[IntKind.wrap_i64];omega
 have d2:(0:Int) < (n:Int)+1:=by omega
 have d3:(n:Int) < (n:Int)+1:=by omega
 have hS:(fun wx=>aJ wx B h (some ⟨g,0,none⟩) cp it f (n+1)) (w1.drew):=hS
 refine av (fun wx=>aJ wx B h (some ⟨g,0,none⟩) cp it f (n+1)) (by kernel_rfl) hS ?_
 refine zB [0,1,2,3,4,5,6,7,8,9,10,11] ?_
 iterate 12 (refine zV ?_ ?_ hS ?_;rotate_left;(intro w' hSw;have u0:=hSw.blk.cell 0;obtain ⟨⟨u2,u3⟩,-,-⟩:=HD.out.2.2.2.2.2.2.2.2.2.1 _ hSw;go_simp<;>with_reducible rfl);try simp only[zP])
 refine zE ?_
 refine zC 12 fun K HK=>?_
 go_simp
 obtain⟨gx,hgx⟩:∃ gx,gx=w1.heap.size:=⟨_,rfl⟩
 obtain⟨W2,hW2⟩:∃ W2,W2=(w1.alloc (.cells #[.slice none 0 0,.int .i64 0] 387)).drew:=⟨_,rfl⟩
 have o2:Own w [(r0,387,#[.slice none 0 0,.int .i64 0]),(gx,387,#[.slice none 0 0,.int .i64 0])] W2:=by rw[hW2];exact (H1.out.1.alloc hgx _ _).drew
 rw[←hgx,←hW2]
 clear hgx hW2
 have z0:=o2.cell 1 0 rfl rfl
 have z1:=o2.cell 1 1 rfl rfl
 have zf:=o2.free 1 rfl
 have o3:Own w [(r0,387,#[.slice none 0 0,.int .i64 0]),(gx,387,#[.slice A0 n0 c0,.int .i64 (x0:Nat)])] ((W2.setCell ⟨gx,0,none⟩ (.slice A0 n0 c0)).setCell ⟨gx,1,none⟩ (.int .i64 (x0:Nat))):=(o2.set 1 0 rfl _).set 1 1 rfl _
 obtain⟨W3,hW3⟩:∃ W3,W3=(W2.setCell ⟨gx,0,none⟩ (.slice A0 n0 c0)).setCell ⟨gx,1,none⟩ (.int .i64 (x0:Nat)):=⟨_,rfl⟩
 rw[←hW3] at o3
 have H2:=zh (zN o2 o3)
 have HW3:=zh hW3
 clear o2 o3 hW3
 go_wp2_with fail
 refine HK.out.zt (fun wx=>aJ wx B h (some ⟨g,0,none⟩) cp it f (n+1)) (fun _ h=>h) (HD.out.2.2.1.call H2.out.1.bel) ?_
 clear HK hS
 intro hS
 try simp only[zP]
 refine zC 13 fun K HK=>?_
 go_simp
 rw[←HW3.out]
 go_wp2_with fail
 refine HK.out.zt (fun wx=>aJ wx B h (some ⟨g,0,none⟩) cp it f (n+1)) (fun _ h=>h) (HD.out.2.2.1.call H2.out.2.bel) ?_
 clear HK hS
 intro hS
 try simp only[zP]
 refine zT 14 ?_ ?_ hS ?_
 rotate_left
 ·(intro w' hSw;go_simp<;>with_reducible rfl)
 try simp only[zP]
 refine zD ?_
 try simp only[zP]
 clear hS z0 z1 zf
 go_wp2_with fail
 have hh3:=HD.out.2.2.1.call H2.out.2.bel
 have hS:=hh3.blk.drew
 have hS:(fun wx=>au wx h 384 #[.slice (some ⟨g,0,none⟩) (n+1) cp,.func (.func 254) #[] #[]]) (W3.drew):=hS
 refine av (fun wx=>au wx h 384 #[.slice (some ⟨g,0,none⟩) (n+1) cp,.func (.func 254) #[] #[]]) (by kernel_rfl) hS ?_
 refine zB [0,1,2,3,4,5,6,7,8,9] ?_
 iterate 10 (refine zV ?_ ?_ hS ?_;rotate_left;(intro w' hSw;have u0:=hSw.cell 0;go_simp<;>with_reducible rfl);try simp only[zP])
 refine zE ?_
 obtain⟨-,u4,u5⟩:=HD.out.2.2.2.2.2.2.2.2.2.1 _ (hh3.call (Below.refl _ _).drew)
 refine zC 10 fun K HK=>?_
 go_simp
 go_wp2_with fail
 refine HK.out.zt (fun wx=>au wx h 384 #[.slice (some ⟨g,0,none⟩) (n+1) cp,.func (.func 254) #[] #[]]) (fun _ h=>h) (hS) ?_
 clear HK hS
 intro hS
 try simp only[zP]
 clear u4 u5
 refine zT 11 ?_ ?_ hS ?_
 rotate_left
 ·(intro w' hSw;go_simp<;>with_reducible rfl)
 try simp only[zP]
 obtain⟨⟨q1,q2⟩,-,-⟩:=HD.out.2.2.2.2.2.2.2.2.2.1 _ hh3
 have qf:=hh3.dV
 obtain⟨W4,hW4⟩:∃ W4,W4=((W3.setCell ⟨g,0,none⟩ (.slice An nn cn)).setCell ⟨g,1,none⟩ (.int .i64 (xn:Nat))).drew:=⟨_,rfl⟩
 have h4:aJ W4 B h (some ⟨g,0,none⟩) cp it (fun j=>if j=0 then xn else f j) (n+1)∧Keeps (fun q=>q=g) W3 W4:=by
  have h:=hh3.put (i:=0) (x:=xn) (by omega) (w':=(W3.setCell ⟨g,0,none⟩ (.slice An nn cn)).setCell ⟨g,1,none⟩ (.int .i64 (xn:Nat))) (by rw[HD.out.2.2.2.2.2.2.2.2.2.2.2.2.2.1])
  rw[hW4]
  exact⟨h.1.call (Below.refl _ _).drew,h.2.drew⟩
 have H4:=zh h4
 have HW4:=zh hW4
 clear h4 hW4 hh3
 refine zC 12 fun K HK=>?_
 go_simp
 rw[←HW4.out]
 go_wp2_with fail
 refine HK.out.zt (fun wx=>au wx h 384 #[.slice (some ⟨g,0,none⟩) (n+1) cp,.func (.func 254) #[] #[]]) (fun _ h=>h) (H4.out.1.blk) ?_
 clear HK hS
 intro hS
 try simp only[zP]
 refine zD ?_
 try simp only[zP]
 clear q1 q2 qf hS
 have v0:=H4.out.1.blk.cell 0
 have vf:=H4.out.1.blk.frozen
 obtain⟨W5,hW5⟩:∃ W5,W5=W4.setCell ⟨h,0,none⟩ (.slice (some ⟨g,0,none⟩) n cp):=⟨_,rfl⟩
 have h5:=H4.out.1.cut hW5
 have hgw:g < w.heap.size∧h < w.heap.size:=⟨(HD.out.2.2.1.row.lt g rfl).2,HD.out.2.2.1.blk.lt⟩
 have hr0:=HD.out.2.2.2.2.2.2.2.1
 have hgx1:=H2.out.2.geq 1 rfl
 have hbr:au W5 r0 387 #[.slice none 0 0,.int .i64 0]:=((H2.out.2.get 0 rfl).keeps H4.out.2 (fun e=>by omega)).keeps h5.2 (fun e=>by omega)
 have hbx:au W5 gx 387 #[.slice A0 n0 c0,.int .i64 (x0:Nat)]:=((H2.out.2.get 1 rfl).keeps H4.out.2 (fun e=>by omega)).keeps h5.2 (fun e=>by omega)
 have hbel:HB B w W5:=((HB.zR H2.out.2.bel HD.out.2.2.2.2.2.2.1).keeps H4.out.2 ((HD.out.2.2.1.call H2.out.2.bel).ht2) HD.out.2.2.2.2.2.2.2.2.2.2.2.2.2.2.1).keeps h5.2 H4.out.1.ht1 HD.out.2.2.1.hB
 have hdn:oG (fun j=>if j=0 then xn else f j) n 0:=by rw[HD.out.2.2.2.2.2.2.2.2.2.2.2.1];exact HD.out.2.2.2.1.down
 have hho:Holds (fun j=>if j=0 then xn else f j) n (fun y=>S y∧y≠x0):=by rw[HD.out.2.2.2.2.2.2.2.2.2.2.2.1,HD.out.2.2.2.2.2.2.2.2.2.2.1];exact HD.out.2.2.2.2.1.pop
 have hgr:gx≠r0:=H2.out.2.ne (i:=1) (j:=0) rfl rfl (by omega)
 have H5:=zh (zN h5.1 (zN hdn (zN hho (zN hbr (zN hbx hbel)))))
 have HN:=zh (zN hgw (zN hr0 (zN hgx1 hgr)))
 have HW5:=zh hW5
 clear h5 hgw hr0 hgx1 hbr hbx hbel hdn hho hgr hW5 d2 d3
 go_wp2_with fail
 rw[←HW5.out]
 clear v0 vf
 go_loopw [5] (fun i wr=>∃ (k:Nat) (f':Nat→Nat),(k < n∨k=0)∧i=.int .i64 (k:Nat)∧aJ wr B h (some ⟨g,0,none⟩) cp it f' n∧oG f' n k∧Holds f' n (fun y=>S y∧y≠x0)∧au wr r0 387 #[.slice none 0 0,.int .i64 0]∧au wr gx 387 #[.slice A0 n0 c0,.int .i64 (x0:Nat)]∧HB B w wr) (fun i _=>n-(intOf i).toNat)
 case atStart=>exact ⟨0,_,.inr rfl,rfl,H5.out.1,H5.out.2.1,H5.out.2.2.1,H5.out.2.2.2.1,H5.out.2.2.2.2.1,H5.out.2.2.2.2.2⟩
 case round=>
  obtain⟨i,f',hi,rfl,hh,hdn,hs,hbr,hbx,hbel⟩:=hrel
  have HL:=zh (zN hh (zN hdn (zN hs (zN hbr (zN hbx hbel)))))
  clear hh hdn hs hbr hbx hbel
  have hi1:i < 1000:=by omega
  go_wp2_with fail
  obtain⟨k,hk⟩:∃ k,k=2*i+1:=⟨_,rfl⟩
  rw[show (2:Int)*(i:Int)+1=(k:Int) by omega]
  have hk4k:k < 3000∧i < k:=by omega
  have hk4a:=hk4k.1
  have hk4b:=hk4k.2
  have HKK:=zh hk
  clear hk hk4k
  have hT:uX w0 B it ip (fun y=>S y∧y≠x0):=HD.out.2.2.2.2.2.1.mono (fun y hy=>hy.1)
  have HT:=zh hT
  clear hT
  by_cases hk1:k+1 < n
  ·have hm1:=HL.out.2.2.1.mem (k+1) (by omega)
   have hm2:=HL.out.2.2.1.mem k (by omega)
   obtain⟨A1,n1,c1,e1,-,-⟩:=HT.out.at_ _ hm1
   obtain⟨A2,n2,c2,e2,-,-⟩:=HT.out.at_ _ hm2
   obtain⟨y1,hy1⟩:∃ y1,y1=f' (k+1):=⟨_,rfl⟩
   obtain⟨y2,hy2⟩:∃ y2,y2=f' k:=⟨_,rfl⟩
   rw[←hy1] at hm1 e1
   rw[←hy2] at hm2 e2
   have hne:y1≠y2:=fun e=>by
    have:=HL.out.2.2.1.inj (k+1) k (by omega) (by omega) (by rw[←hy1,←hy2,e])
    omega
   have hcell:∀ wx,aJ wx B h (some ⟨g,0,none⟩) cp it f' n→(wx.cell? ⟨g,(k+1)*2,none⟩=some (.slice A1 n1 c1)∧wx.cell? ⟨g,(k+1)*2+1,none⟩=some (.int .i64 (y1:Nat)))∧(wx.cell? ⟨g,k*2,none⟩=some (.slice A2 n2 c2)∧wx.cell? ⟨g,k*2+1,none⟩=some (.int .i64 (y2:Nat))):=fun wx hx=>by
    have q1:=hx.cell (j:=k+1) (by omega)
    have q2:=hx.cell (j:=k) (by omega)
    rw[←hy1,e1] at q1
    rw[←hy2,e2] at q2
    exact⟨q1,q2⟩
   have hcall:Calls Tryz.prog 254 #[.agg #[.slice A1 n1 c1,.int .i64 (y1:Nat)],.agg #[.slice A2 n2 c2,.int .i64 (y2:Nat)]] wr.drew fun e w'=>e=.returned (.bool (decide (y1 < y2)))∧Below wr.drew.heap.size wr.drew w':=by
    have hc:=kX w0 wr.drew B it ip _ ((HD.out.1.trans HL.out.2.2.2.2.2.bel).drew) HD.out.2.1 HT.out y1 y2 hm1 hm2 hne
    rw[e1,e2] at hc
    exact hc
   have HX:=zh (zN hcell (zN hcall (zN hy1 (zN hy2 hne))))
   clear hcell hcall hy1 hy2 hne hm1 hm2 e1 e2
   have d5:IntKind.i64.wrap ((k:Int)+1)=(k:Int)+1:=by simp only[IntKind.wrap_i64];omega
   have d1:decide ((k:Int)+1 < (n:Int))=true:=by simp;omega
   have d2:(k:Int)+1 < (n:Int):=by omega
   have d3:(k:Int) < (n:Int):=by omega
   have d4:(0:Int)≤(k:Int)+1:=by omega
   have hS:=HL.out.1.call (Below.refl _ _).drew
   have hS:(fun wx=>aJ wx B h (some ⟨g,0,none⟩) cp it f' n) (wr.drew):=hS
   refine av (fun wx=>aJ wx B h (some ⟨g,0,none⟩) cp it f' n) (by kernel_rfl) hS ?_
   refine zB [0,1,2,3,4,5,6,7,8,9,10,11,12,13,14,15,16,17,18,19,20,21,22,23] ?_
   iterate 24 (refine zV ?_ ?_ hS ?_;rotate_left;(intro w' hSw;have u0:=hSw.blk.cell 0;have u1:=hSw.blk.cell 1;obtain ⟨⟨u2,u3⟩,u4,u5⟩:=HX.out.1 _ hSw;go_simp<;>with_reducible rfl);try simp only[zP])
   refine zE ?_
   refine zC 24 fun K HK=>?_
   go_simp
   refine(HX.out.2.1).mono ?_
   rintro e w6 ⟨rfl,hb6⟩
   have hb6':Below wr.heap.size wr w6:=V.ay (Below.refl _ _).drew hb6
   have H6:=zh (zN (HL.out.1.call hb6') (zN (HL.out.2.2.2.1.below hb6' HL.out.2.2.2.1.lt) (zN (HL.out.2.2.2.2.1.below hb6' HL.out.2.2.2.2.1.lt) (HL.out.2.2.2.2.2.call hb6'))))
   clear hb6 hb6'
   go_wp2_with fail
   refine HK.out.zt (fun wx=>aJ wx B h (some ⟨g,0,none⟩) cp it f' n) (fun _ h=>h) (H6.out.1) ?_
   clear HK hS
   intro hS
   try simp only[zP]
   refine zT 25 ?_ ?_ hS ?_
   rotate_left
   ·(intro w' hSw;go_simp<;>with_reducible rfl)
   try simp only[zP]
   refine zD ?_
   try simp only[zP]
   clear hS d1 d2 d3 d4
   by_cases hlt:y1 < y2
   ·have d7:decide (y1 < y2)=true:=by simp[hlt]
    go_wp2_with fail
    clear d7
    obtain⟨kk,hkk⟩:∃ kk,kk=k+1:=⟨_,rfl⟩
    rw[show (k:Int)+1=(kk:Int) by omega]
    have hleast:∀ j,0 < j→j < n→par j=i→kk < n∧f' kk≤f' j:=fun j h0 hj hpj=>by
     have hj2:j=k∨j=k+1:=by have hk:=HKK.out;unfold par at hpj;omega
     refine⟨by omega,?_⟩
     rcases hj2 with rfl | rfl
     ·rw[hkk,←HX.out.2.2.1,←HX.out.2.2.2.1];omega
     ·rw[hkk];exact Nat.le_refl _
    have hpk:par kk=i∧i < kk∧0 < kk∧kk < 4000:=by have hk:=HKK.out;unfold par;omega
    have HQ:=zh (zN hleast hpk.1)
    have hik:=hpk.2.1
    have hk0:=hpk.2.2.1
    have hk4:=hpk.2.2.2
    clear hleast hpk hkk hk1 hlt HX hk4a hk4b
    by_cases hkn:kk < n
    ·have hm1:=HL.out.2.2.1.mem kk hkn
     have hm2:=HL.out.2.2.1.mem i (by omega)
     obtain⟨A1,n1,c1,e1,-,-⟩:=HT.out.at_ _ hm1
     obtain⟨A2,n2,c2,e2,-,-⟩:=HT.out.at_ _ hm2
     obtain⟨y1,hy1⟩:∃ y1,y1=f' kk:=⟨_,rfl⟩
     obtain⟨y2,hy2⟩:∃ y2,y2=f' i:=⟨_,rfl⟩
     rw[←hy1] at hm1 e1
     rw[←hy2] at hm2 e2
     have hne:y1≠y2:=fun e=>by
      have:=HL.out.2.2.1.inj kk i hkn (by omega) (by rw[←hy1,←hy2,e])
      omega
     have hcell:∀ wx,aJ wx B h (some ⟨g,0,none⟩) cp it f' n→(wx.cell? ⟨g,kk*2,none⟩=some (.slice A1 n1 c1)∧wx.cell? ⟨g,kk*2+1,none⟩=some (.int .i64 (y1:Nat)))∧(wx.cell? ⟨g,i*2,none⟩=some (.slice A2 n2 c2)∧wx.cell? ⟨g,i*2+1,none⟩=some (.int .i64 (y2:Nat))):=fun wx hx=>by
      have q1:=hx.cell (j:=kk) hkn
      have q2:=hx.cell (j:=i) (by omega)
      rw[←hy1,e1] at q1
      rw[←hy2,e2] at q2
      exact⟨q1,q2⟩
     have hcall:Calls Tryz.prog 254 #[.agg #[.slice A1 n1 c1,.int .i64 (y1:Nat)],.agg #[.slice A2 n2 c2,.int .i64 (y2:Nat)]] w6.drew fun e w'=>e=.returned (.bool (decide (y1 < y2)))∧Below w6.drew.heap.size w6.drew w':=by
      have hc:=kX w0 w6.drew B it ip _ ((HD.out.1.trans H6.out.2.2.2.bel).drew) HD.out.2.1 HT.out y1 y2 hm1 hm2 hne
      rw[e1,e2] at hc
      exact hc
     have HX:=zh (zN hcell (zN hy1 (zN hy2 (zN e1 (zN e2 hcall)))))
     clear hcell hcall hy1 hy2 hne hm1 hm2 e1 e2
     have d1:decide ((n:Int)≤(kk:Int))=false:=by simp;omega
     have d2:decide (n≤kk)=false:=by simp;omega
     have d3:(kk:Int) < (n:Int):=by omega
     have d4:(i:Int) < (n:Int):=by omega
     have nt:=fF
     have nf:=jV
     have hS:=H6.out.1.call (Below.refl _ _).drew
     have hS:(fun wx=>aJ wx B h (some ⟨g,0,none⟩) cp it f' n) (w6.drew):=hS
     refine av (fun wx=>aJ wx B h (some ⟨g,0,none⟩) cp it f' n) (by kernel_rfl) hS ?_
     refine zB [0,1,2,3,4,5,6,7,8,9,10,11,12,13,14,15,16,17,18,19,20,21] ?_
     iterate 22 (refine zV ?_ ?_ hS ?_;rotate_left;(intro w' hSw;have u0:=hSw.blk.cell 0;have u1:=hSw.blk.cell 1;obtain ⟨⟨u2,u3⟩,u4,u5⟩:=HX.out.1 _ hSw;go_simp<;>with_reducible rfl);try simp only[zP])
     refine zE ?_
     refine zC 22 fun K HK=>?_
     go_simp
     refine(HX.out.2.2.2.2.2).mono ?_
     rintro e w7 ⟨rfl,hb7⟩
     have hb7':Below w6.heap.size w6 w7:=V.ay (Below.refl _ _).drew hb7
     have H7:=zh (zN (H6.out.1.call hb7') (zN (H6.out.2.1.below hb7' H6.out.2.1.lt) (zN (H6.out.2.2.1.below hb7' H6.out.2.2.1.lt) (H6.out.2.2.2.call hb7'))))
     clear hb7 hb7'
     go_wp2_with fail
     refine HK.out.zt (fun wx=>aJ wx B h (some ⟨g,0,none⟩) cp it f' n) (fun _ h=>h) (H7.out.1) ?_
     clear HK hS
     intro hS
     try simp only[zP]
     by_cases hlt:y1 < y2
     ·have d7:decide (y1 < y2)=true:=by simp[hlt]
      refine zB [23,24] ?_
      iterate 2 (refine zV ?_ ?_ hS ?_;rotate_left;(intro w' hSw;go_simp<;>with_reducible rfl);try simp only[zP])
      refine zE ?_
      refine zD ?_
      try simp only[zP]
      clear hS
      go_wp2_with fail
      clear d7
      have hS:=H7.out.1.blk.drew
      have hS:(fun wx=>au wx h 384 #[.slice (some ⟨g,0,none⟩) n cp,.func (.func 254) #[] #[]]) (w7.drew):=hS
      refine av (fun wx=>au wx h 384 #[.slice (some ⟨g,0,none⟩) n cp,.func (.func 254) #[] #[]]) (by kernel_rfl) hS ?_
      refine zB [0,1,2,3,4,5,6,7,8,9,10,11,12,13,14,15,17,18,19,20,21,22] ?_
      iterate 22 (refine zV ?_ ?_ hS ?_;rotate_left;(intro w' hSw;have u0:=hSw.cell 0;go_simp<;>with_reducible rfl);try simp only[zP])
      refine zE ?_
      refine jk (i:=16) (j:=23) rfl rfl (by kernel_rfl) (fun K hK=>?_) (fun K hK=>?_)
      ·skip
       have HK:=zh hK
       clear hK
       obtain⟨⟨u2,u3⟩,u4,u5⟩:=HX.out.1 _ (H7.out.1.call (Below.refl _ _).drew)
       go_simp
       go_wp2_with fail
       refine HK.out.zt (fun wx=>au wx h 384 #[.slice (some ⟨g,0,none⟩) n cp,.func (.func 254) #[] #[]]) (fun _ h=>h) (hS) ?_
       clear HK hS
       intro hS
       try simp only[zP]
       refine zC 23 fun K HK=>?_
       go_simp
       go_wp2_with fail
       refine HK.out.zt (fun wx=>au wx h 384 #[.slice (some ⟨g,0,none⟩) n cp,.func (.func 254) #[] #[]]) (fun _ h=>h) (hS) ?_
       clear HK hS
       intro hS
       try simp only[zP]
       clear u2 u3 u4 u5
       refine zT 24 ?_ ?_ hS ?_
       rotate_left
       ·(intro w' hSw;go_simp<;>with_reducible rfl)
       try simp only[zP]
       have q1:=(HX.out.1 _ H7.out.1).2.1
       have q2:=(HX.out.1 _ H7.out.1).2.2
       have qf:=H7.out.1.dV
       obtain⟨w8,hw8⟩:∃ w8,w8=((w7.setCell ⟨g,i*2,none⟩ (.slice A1 n1 c1)).setCell ⟨g,i*2+1,none⟩ (.int .i64 (y1:Nat))).drew:=⟨_,rfl⟩
       have h8:aJ w8 B h (some ⟨g,0,none⟩) cp it (fun j=>if j=i then y1 else f' j) n∧Keeps (fun q=>q=g) w7 w8:=by
        have h:=H7.out.1.put (i:=i) (x:=y1) (by omega) (w':=(w7.setCell ⟨g,i*2,none⟩ (.slice A1 n1 c1)).setCell ⟨g,i*2+1,none⟩ (.int .i64 (y1:Nat))) (by rw[HX.out.2.2.2.1])
        rw[hw8]
        exact⟨h.1.call (Below.refl _ _).drew,h.2.drew⟩
       have H8:=zh h8
       have HW8:=zh hw8
       clear h8 hw8
       refine zC 25 fun K HK=>?_
       go_simp
       rw[←HW8.out]
       go_wp2_with fail
       refine HK.out.zt (fun wx=>au wx h 384 #[.slice (some ⟨g,0,none⟩) n cp,.func (.func 254) #[] #[]]) (fun _ h=>h) (H8.out.1.blk) ?_
       clear HK hS
       intro hS
       try simp only[zP]
       clear q1 q2 qf
       refine zT 26 ?_ ?_ hS ?_
       rotate_left
       ·(intro w' hSw;go_simp<;>with_reducible rfl)
       try simp only[zP]
       have q34:w8.cell? ⟨g,kk*2,none⟩=some (.slice A1 n1 c1)∧w8.cell? ⟨g,kk*2+1,none⟩=some (.int .i64 (y1:Nat)):=by
        have h:=H8.out.1.cell (j:=kk) (by omega)
        rw[if_neg (by omega),←HX.out.2.1,HX.out.2.2.2.1] at h
        exact h
       have q1:=q34.1
       have q2:=q34.2
       have qf:=H8.out.1.dV
       obtain⟨w9,hw9⟩:∃ w9,w9=((w8.setCell ⟨g,kk*2,none⟩ (.slice A2 n2 c2)).setCell ⟨g,kk*2+1,none⟩ (.int .i64 (y2:Nat))):=⟨_,rfl⟩
       have h9:=H8.out.1.put (i:=kk) (x:=y2) (by omega) (w':=w9) (by rw[HX.out.2.2.2.2.1];exact hw9)
       have hBg:=HD.out.2.2.2.2.2.2.2.2.2.2.2.2.2.2.1
       have hbel9:HB B w w9:=(H7.out.2.2.2.keeps H8.out.2 H7.out.1.ht2 hBg).keeps h9.2 H8.out.1.ht2 hBg
       have hn9:=HN.out
       have H9:=zh (zN h9.1 (zN ((H7.out.2.1.keeps H8.out.2 (fun e=>by omega)).keeps h9.2 (fun e=>by omega)) (zN ((H7.out.2.2.1.keeps H8.out.2 (fun e=>by omega)).keeps h9.2 (fun e=>by omega)) hbel9)))
       have HW9:=zh hw9
       clear q34 h9 hbel9 hw9 hn9 hBg
       refine zC 27 fun K HK=>?_
       go_simp
       rw[←HW9.out]
       go_wp2_with fail
       refine HK.out.zt (fun wx=>au wx h 384 #[.slice (some ⟨g,0,none⟩) n cp,.func (.func 254) #[] #[]]) (fun _ h=>h) (H9.out.1.blk) ?_
       clear HK hS
       intro hS
       try simp only[zP]
       refine zD ?_
       try simp only[zP]
       clear q1 q2 qf hS
       go_wp2_with fail
       go_roundw
       case rel=>
        have hfe:∀ j,(if j=kk then y2 else if j=i then y1 else f' j)=cO f' i kk j:=fun j=>by
         unfold cO
         rw[HX.out.2.1,HX.out.2.2.1]
         by_cases h1:j=kk
         ·rw[if_pos h1,if_neg (by omega),if_pos h1]
         ·rw[if_neg h1]
          by_cases h2:j=i
          ·rw[if_pos h2,if_pos h2]
          ·rw[if_neg h2,if_neg h2,if_neg h1]
        have hfe2:=funext hfe
        refine⟨kk,_,.inl hkn,rfl,H9.out.1,?_,?_,H9.out.2.1,H9.out.2.2.1,H9.out.2.2.2⟩
        ·rw[hfe2]
         exact HL.out.2.1.step hk0 hkn HQ.out.2 (by rw[←HX.out.2.1,←HX.out.2.2.1];exact hlt) (fun j h0 hj hpj=>(HQ.out.1 j h0 hj hpj).2)
        ·rw[hfe2]
         exact HL.out.2.2.1.swap (by omega) hkn
       case measure=>simp[intOf]<;>omega
      ·skip
       have HK:=zh hK
       clear hK
       obtain⟨⟨u2,u3⟩,u4,u5⟩:=HX.out.1 _ (H7.out.1.call (Below.refl _ _).drew)
       go_simp
       go_wp2_with fail
       refine HK.out.zt (fun wx=>au wx h 384 #[.slice (some ⟨g,0,none⟩) n cp,.func (.func 254) #[] #[]]) (fun _ h=>h) (hS) ?_
       clear HK hS
       intro hS
       try simp only[zP]
       refine zC 16 fun K HK=>?_
       go_simp
       go_wp2_with fail
       refine HK.out.zt (fun wx=>au wx h 384 #[.slice (some ⟨g,0,none⟩) n cp,.func (.func 254) #[] #[]]) (fun _ h=>h) (hS) ?_
       clear HK hS
       intro hS
       try simp only[zP]
       clear u2 u3 u4 u5
       refine zT 24 ?_ ?_ hS ?_
       rotate_left
       ·(intro w' hSw;go_simp<;>with_reducible rfl)
       try simp only[zP]
       have q1:=(HX.out.1 _ H7.out.1).2.1
       have q2:=(HX.out.1 _ H7.out.1).2.2
       have qf:=H7.out.1.dV
       obtain⟨w8,hw8⟩:∃ w8,w8=((w7.setCell ⟨g,i*2,none⟩ (.slice A1 n1 c1)).setCell ⟨g,i*2+1,none⟩ (.int .i64 (y1:Nat))).drew:=⟨_,rfl⟩
       have h8:aJ w8 B h (some ⟨g,0,none⟩) cp it (fun j=>if j=i then y1 else f' j) n∧Keeps (fun q=>q=g) w7 w8:=by
        have h:=H7.out.1.put (i:=i) (x:=y1) (by omega) (w':=(w7.setCell ⟨g,i*2,none⟩ (.slice A1 n1 c1)).setCell ⟨g,i*2+1,none⟩ (.int .i64 (y1:Nat))) (by rw[HX.out.2.2.2.1])
        rw[hw8]
        exact⟨h.1.call (Below.refl _ _).drew,h.2.drew⟩
       have H8:=zh h8
       have HW8:=zh hw8
       clear h8 hw8
       refine zC 25 fun K HK=>?_
       go_simp
       rw[←HW8.out]
       go_wp2_with fail
       refine HK.out.zt (fun wx=>au wx h 384 #[.slice (some ⟨g,0,none⟩) n cp,.func (.func 254) #[] #[]]) (fun _ h=>h) (H8.out.1.blk) ?_
       clear HK hS
       intro hS
       try simp only[zP]
       clear q1 q2 qf
       refine zT 26 ?_ ?_ hS ?_
       rotate_left
       ·(intro w' hSw;go_simp<;>with_reducible rfl)
       try simp only[zP]
       have q34:w8.cell? ⟨g,kk*2,none⟩=some (.slice A1 n1 c1)∧w8.cell? ⟨g,kk*2+1,none⟩=some (.int .i64 (y1:Nat)):=by
        have h:=H8.out.1.cell (j:=kk) (by omega)
        rw[if_neg (by omega),←HX.out.2.1,HX.out.2.2.2.1] at h
        exact h
       have q1:=q34.1
       have q2:=q34.2
       have qf:=H8.out.1.dV
       obtain⟨w9,hw9⟩:∃ w9,w9=((w8.setCell ⟨g,kk*2,none⟩ (.slice A2 n2 c2)).setCell ⟨g,kk*2+1,none⟩ (.int .i64 (y2:Nat))):=⟨_,rfl⟩
       have h9:=H8.out.1.put (i:=kk) (x:=y2) (by omega) (w':=w9) (by rw[HX.out.2.2.2.2.1];exact hw9)
       have hBg:=HD.out.2.2.2.2.2.2.2.2.2.2.2.2.2.2.1
       have hbel9:HB B w w9:=(H7.out.2.2.2.keeps H8.out.2 H7.out.1.ht2 hBg).keeps h9.2 H8.out.1.ht2 hBg
       have hn9:=HN.out
       have H9:=zh (zN h9.1 (zN ((H7.out.2.1.keeps H8.out.2 (fun e=>by omega)).keeps h9.2 (fun e=>by omega)) (zN ((H7.out.2.2.1.keeps H8.out.2 (fun e=>by omega)).keeps h9.2 (fun e=>by omega)) hbel9)))
       have HW9:=zh hw9
       clear q34 h9 hbel9 hw9 hn9 hBg
       refine zC 27 fun K HK=>?_
       go_simp
       rw[←HW9.out]
       go_wp2_with fail
       refine HK.out.zt (fun wx=>au wx h 384 #[.slice (some ⟨g,0,none⟩) n cp,.func (.func 254) #[] #[]]) (fun _ h=>h) (H9.out.1.blk) ?_
       clear HK hS
       intro hS
       try simp only[zP]
       refine zD ?_
       try simp only[zP]
       clear q1 q2 qf hS
       go_wp2_with fail
       go_roundw
       case rel=>
        have hfe:∀ j,(if j=kk then y2 else if j=i then y1 else f' j)=cO f' i kk j:=fun j=>by
         unfold cO
         rw[HX.out.2.1,HX.out.2.2.1]
         by_cases h1:j=kk
         ·rw[if_pos h1,if_neg (by omega),if_pos h1]
         ·rw[if_neg h1]
          by_cases h2:j=i
          ·rw[if_pos h2,if_pos h2]
          ·rw[if_neg h2,if_neg h2,if_neg h1]
        have hfe2:=funext hfe
        refine⟨kk,_,.inl hkn,rfl,H9.out.1,?_,?_,H9.out.2.1,H9.out.2.2.1,H9.out.2.2.2⟩
        ·rw[hfe2]
         exact HL.out.2.1.step hk0 hkn HQ.out.2 (by rw[←HX.out.2.1,←HX.out.2.2.1];exact hlt) (fun j h0 hj hpj=>(HQ.out.1 j h0 hj hpj).2)
        ·rw[hfe2]
         exact HL.out.2.2.1.swap (by omega) hkn
       case measure=>simp[intOf]<;>omega
     ·have d7:decide (y1 < y2)=false:=by simp;omega
      refine zB [23,24] ?_
      iterate 2 (refine zV ?_ ?_ hS ?_;rotate_left;(intro w' hSw;go_simp<;>with_reducible rfl);try simp only[zP])
      refine zE ?_
      refine zD ?_
      try simp only[zP]
      clear hS
      have z0:w7.cell? ⟨r0,0,none⟩=some (.slice none 0 0):=H7.out.2.1.cell 0
      have z1:w7.cell? ⟨r0,1,none⟩=some (.int .i64 0):=H7.out.2.1.cell 1
      have zf:=H7.out.2.1.frozen
      have v0:w7.cell? ⟨gx,0,none⟩=some (.slice A0 n0 c0):=H7.out.2.2.1.cell 0
      have v1:w7.cell? ⟨gx,1,none⟩=some (.int .i64 (x0:Nat)):=H7.out.2.2.1.cell 1
      go_wp2_with fail
      clear d7
      have HE:=zh (show ∀ j,0 < j→j < n→par j=i→f' i≤f' j from fun j h0 hj hpj=>by
       have h1:=(HQ.out.1 j h0 hj hpj).2
       have h2:=HX.out.2.1
       have h3:=HX.out.2.2.1
       omega)
      obtain⟨W8,hW8⟩:∃ W8,W8=(w7.setCell ⟨r0,0,none⟩ (.slice A0 n0 c0)).setCell ⟨r0,1,none⟩ (.int .i64 (x0:Nat)):=⟨_,rfl⟩
      have hk8:Keeps (fun q=>q=r0) w7 W8:=by rw[hW8];exact ((Keeps.refl (fun q=>q=r0) w7).setCell (fun _=>rfl) _).setCell (fun _=>rfl) _
      have hb8:=(H7.out.2.1.set 0 (.slice A0 n0 c0)).set 1 (.int .i64 (x0:Nat))
      rw[←hW8] at hb8
      have hn8:=HN.out
      have hh8:aJ W8 B h (some ⟨g,0,none⟩) cp it f' n:=⟨H7.out.1.blk.keeps hk8 (fun e=>by omega),aF H7.out.1.row hk8 (fun q hq e=>by
       have:g=q:=by simpa [Value.ownBlock] using hq
       omega),H7.out.1.hB⟩
      have H8:=zh (zN hh8 (zN hb8 (H7.out.2.2.2.keeps hk8 (.inl (bZ H7.out.2.1)) (by rw[HD.out.2.2.2.2.2.2.2.1];exact HD.out.2.2.2.2.2.2.1))))
      have HW8:=zh hW8
      clear hk8 hb8 hn8 hh8 hW8
      rw[←HW8.out]
      have y8:=H8.out.2.1.cell 0
      have y9:=H8.out.2.1.cell 1
      simp at y8 y9
      refine bodyPost_ret (v:=.agg #[.slice A0 n0 c0,.int .i64 (x0:Nat)]) (by simp[results,Tryz.results256,go_sem,y8,y9]) rfl ?_
      exact⟨by rw[HD.out.2.2.2.2.2.2.2.2.2.2.2.2.1],_,f',H8.out.1,HL.out.2.1.done HE.out,HL.out.2.2.1,H8.out.2.2⟩
    ·have d1:decide ((n:Int)≤(kk:Int))=true:=by simp;omega
     have d2:decide (n≤kk)=true:=by simp;omega
     have hS:=H6.out.1.call (Below.refl _ _).drew
     have hS:(fun wx=>aJ wx B h (some ⟨g,0,none⟩) cp it f' n) (w6.drew):=hS
     refine av (fun wx=>aJ wx B h (some ⟨g,0,none⟩) cp it f' n) (by kernel_rfl) hS ?_
     refine zB [0,1,2,3] ?_
     iterate 4 (refine zV ?_ ?_ hS ?_;rotate_left;(intro w' hSw;go_simp<;>with_reducible rfl);try simp only[zP])
     refine zE ?_
     refine zB [4,5,6,7,8,9,10,11,12,13,14,15,16,17,18,19,20,21,22,23] ?_
     iterate 20 (refine zW hS ?_;try simp only[zP])
     refine zE ?_
     refine zT 24 ?_ ?_ hS ?_
     rotate_left
     ·(intro w' hSw;go_simp<;>with_reducible rfl)
     try simp only[zP]
     refine zD ?_
     try simp only[zP]
     clear hS
     have HE:=zh (show ∀ j,0 < j→j < n→par j=i→f' i≤f' j from fun j h0 hj hpj=>absurd (HQ.out.1 j h0 hj hpj).1 hkn)
     obtain⟨w7,hw7⟩:∃ w7,w7=w6.drew:=⟨_,rfl⟩
     have H7:=zh (show aJ w7 B h (some ⟨g,0,none⟩) cp it f' n∧au w7 r0 387 #[.slice none 0 0,.int .i64 0]∧au w7 gx 387 #[.slice A0 n0 c0,.int .i64 (x0:Nat)]∧HB B w w7 from by
      rw[hw7]
      exact⟨H6.out.1.call (Below.refl _ _).drew,H6.out.2.1.drew,H6.out.2.2.1.drew,H6.out.2.2.2.drew⟩)
     rw[←hw7]
     clear hw7
     have z0:w7.cell? ⟨r0,0,none⟩=some (.slice none 0 0):=H7.out.2.1.cell 0
     have z1:w7.cell? ⟨r0,1,none⟩=some (.int .i64 0):=H7.out.2.1.cell 1
     have zf:=H7.out.2.1.frozen
     have v0:w7.cell? ⟨gx,0,none⟩=some (.slice A0 n0 c0):=H7.out.2.2.1.cell 0
     have v1:w7.cell? ⟨gx,1,none⟩=some (.int .i64 (x0:Nat)):=H7.out.2.2.1.cell 1
     go_wp2_with fail
     obtain⟨W8,hW8⟩:∃ W8,W8=(w7.setCell ⟨r0,0,none⟩ (.slice A0 n0 c0)).setCell ⟨r0,1,none⟩ (.int .i64 (x0:Nat)):=⟨_,rfl⟩
     have hk8:Keeps (fun q=>q=r0) w7 W8:=by rw[hW8];exact ((Keeps.refl (fun q=>q=r0) w7).setCell (fun _=>rfl) _).setCell (fun _=>rfl) _
     have hb8:=(H7.out.2.1.set 0 (.slice A0 n0 c0)).set 1 (.int .i64 (x0:Nat))
     rw[←hW8] at hb8
     have hn8:=HN.out
     have hh8:aJ W8 B h (some ⟨g,0,none⟩) cp it f' n:=⟨H7.out.1.blk.keeps hk8 (fun e=>by omega),aF H7.out.1.row hk8 (fun q hq e=>by
      have:g=q:=by simpa [Value.ownBlock] using hq
      omega),H7.out.1.hB⟩
     have H8:=zh (zN hh8 (zN hb8 (H7.out.2.2.2.keeps hk8 (.inl (bZ H7.out.2.1)) (by rw[HD.out.2.2.2.2.2.2.2.1];exact HD.out.2.2.2.2.2.2.1))))
     have HW8:=zh hW8
     clear hk8 hb8 hn8 hh8 hW8
     rw[←HW8.out]
     have y8:=H8.out.2.1.cell 0
     have y9:=H8.out.2.1.cell 1
     simp at y8 y9
     refine bodyPost_ret (v:=.agg #[.slice A0 n0 c0,.int .i64 (x0:Nat)]) (by simp[results,Tryz.results256,go_sem,y8,y9]) rfl ?_
     exact⟨by rw[HD.out.2.2.2.2.2.2.2.2.2.2.2.2.1],_,f',H8.out.1,HL.out.2.1.done HE.out,HL.out.2.2.1,H8.out.2.2⟩
   ·have d7:decide (y1 < y2)=false:=by simp;omega
    go_wp2_with fail
    clear d7
    obtain⟨kk,hkk⟩:∃ kk,kk=k:=⟨_,rfl⟩
    rw[←hkk]
    have hleast:∀ j,0 < j→j < n→par j=i→kk < n∧f' kk≤f' j:=fun j h0 hj hpj=>by
     have hj2:j=k∨j=k+1:=by have hk:=HKK.out;unfold par at hpj;omega
     refine⟨by omega,?_⟩
     rcases hj2 with rfl | rfl
     ·rw[hkk];exact Nat.le_refl _
     ·rw[hkk,←HX.out.2.2.1,←HX.out.2.2.2.1];omega
    have hpk:par kk=i∧i < kk∧0 < kk∧kk < 4000:=by have hk:=HKK.out;unfold par;omega
    have HQ:=zh (zN hleast hpk.1)
    have hik:=hpk.2.1
    have hk0:=hpk.2.2.1
    have hk4:=hpk.2.2.2
    clear hleast hpk hkk hk1 hlt HX hk4a hk4b
    by_cases hkn:kk < n
    ·have hm1:=HL.out.2.2.1.mem kk hkn
     have hm2:=HL.out.2.2.1.mem i (by omega)
     obtain⟨A1,n1,c1,e1,-,-⟩:=HT.out.at_ _ hm1
     obtain⟨A2,n2,c2,e2,-,-⟩:=HT.out.at_ _ hm2
     obtain⟨y1,hy1⟩:∃ y1,y1=f' kk:=⟨_,rfl⟩
     obtain⟨y2,hy2⟩:∃ y2,y2=f' i:=⟨_,rfl⟩
     rw[←hy1] at hm1 e1
     rw[←hy2] at hm2 e2
     have hne:y1≠y2:=fun e=>by
      have:=HL.out.2.2.1.inj kk i hkn (by omega) (by rw[←hy1,←hy2,e])
      omega
     have hcell:∀ wx,aJ wx B h (some ⟨g,0,none⟩) cp it f' n→(wx.cell? ⟨g,kk*2,none⟩=some (.slice A1 n1 c1)∧wx.cell? ⟨g,kk*2+1,none⟩=some (.int .i64 (y1:Nat)))∧(wx.cell? ⟨g,i*2,none⟩=some (.slice A2 n2 c2)∧wx.cell? ⟨g,i*2+1,none⟩=some (.int .i64 (y2:Nat))):=fun wx hx=>by
      have q1:=hx.cell (j:=kk) hkn
      have q2:=hx.cell (j:=i) (by omega)
      rw[←hy1,e1] at q1
      rw[←hy2,e2] at q2
      exact⟨q1,q2⟩
     have hcall:Calls Tryz.prog 254 #[.agg #[.slice A1 n1 c1,.int .i64 (y1:Nat)],.agg #[.slice A2 n2 c2,.int .i64 (y2:Nat)]] w6.drew fun e w'=>e=.returned (.bool (decide (y1 < y2)))∧Below w6.drew.heap.size w6.drew w':=by
      have hc:=kX w0 w6.drew B it ip _ ((HD.out.1.trans H6.out.2.2.2.bel).drew) HD.out.2.1 HT.out y1 y2 hm1 hm2 hne
      rw[e1,e2] at hc
      exact hc
     have HX:=zh (zN hcell (zN hy1 (zN hy2 (zN e1 (zN e2 hcall)))))
     clear hcell hcall hy1 hy2 hne hm1 hm2 e1 e2
     have d1:decide ((n:Int)≤(kk:Int))=false:=by simp;omega
     have d2:decide (n≤kk)=false:=by simp;omega
     have d3:(kk:Int) < (n:Int):=by omega
     have d4:(i:Int) < (n:Int):=by omega
     have nt:=fF
     have nf:=jV
     have hS:=H6.out.1.call (Below.refl _ _).drew
     have hS:(fun wx=>aJ wx B h (some ⟨g,0,none⟩) cp it f' n) (w6.drew):=hS
     refine av (fun wx=>aJ wx B h (some ⟨g,0,none⟩) cp it f' n) (by kernel_rfl) hS ?_
     refine zB [0,1,2,3,4,5,6,7,8,9,10,11,12,13,14,15,16,17,18,19,20,21] ?_
     iterate 22 (refine zV ?_ ?_ hS ?_;rotate_left;(intro w' hSw;have u0:=hSw.blk.cell 0;have u1:=hSw.blk.cell 1;obtain ⟨⟨u2,u3⟩,u4,u5⟩:=HX.out.1 _ hSw;go_simp<;>with_reducible rfl);try simp only[zP])
     refine zE ?_
     refine zC 22 fun K HK=>?_
     go_simp
     refine(HX.out.2.2.2.2.2).mono ?_
     rintro e w7 ⟨rfl,hb7⟩
     have hb7':Below w6.heap.size w6 w7:=V.ay (Below.refl _ _).drew hb7
     have H7:=zh (zN (H6.out.1.call hb7') (zN (H6.out.2.1.below hb7' H6.out.2.1.lt) (zN (H6.out.2.2.1.below hb7' H6.out.2.2.1.lt) (H6.out.2.2.2.call hb7'))))
     clear hb7 hb7'
     go_wp2_with fail
     refine HK.out.zt (fun wx=>aJ wx B h (some ⟨g,0,none⟩) cp it f' n) (fun _ h=>h) (H7.out.1) ?_
     clear HK hS
     intro hS
     try simp only[zP]
     by_cases hlt:y1 < y2
     ·have d7:decide (y1 < y2)=true:=by simp[hlt]
      refine zB [23,24] ?_
      iterate 2 (refine zV ?_ ?_ hS ?_;rotate_left;(intro w' hSw;go_simp<;>with_reducible rfl);try simp only[zP])
      refine zE ?_
      refine zD ?_
      try simp only[zP]
      clear hS
      go_wp2_with fail
      clear d7
      have hS:=H7.out.1.blk.drew
      have hS:(fun wx=>au wx h 384 #[.slice (some ⟨g,0,none⟩) n cp,.func (.func 254) #[] #[]]) (w7.drew):=hS
      refine av (fun wx=>au wx h 384 #[.slice (some ⟨g,0,none⟩) n cp,.func (.func 254) #[] #[]]) (by kernel_rfl) hS ?_
      refine zB [0,1,2,3,4,5,6,7,8,9,10,11,12,13,14,15,17,18,19,20,21,22] ?_
      iterate 22 (refine zV ?_ ?_ hS ?_;rotate_left;(intro w' hSw;have u0:=hSw.cell 0;go_simp<;>with_reducible rfl);try simp only[zP])
      refine zE ?_
      refine jk (i:=16) (j:=23) rfl rfl (by kernel_rfl) (fun K hK=>?_) (fun K hK=>?_)
      ·skip
       have HK:=zh hK
       clear hK
       obtain⟨⟨u2,u3⟩,u4,u5⟩:=HX.out.1 _ (H7.out.1.call (Below.refl _ _).drew)
       go_simp
       go_wp2_with fail
       refine HK.out.zt (fun wx=>au wx h 384 #[.slice (some ⟨g,0,none⟩) n cp,.func (.func 254) #[] #[]]) (fun _ h=>h) (hS) ?_
       clear HK hS
       intro hS
       try simp only[zP]
       refine zC 23 fun K HK=>?_
       go_simp
       go_wp2_with fail
       refine HK.out.zt (fun wx=>au wx h 384 #[.slice (some ⟨g,0,none⟩) n cp,.func (.func 254) #[] #[]]) (fun _ h=>h) (hS) ?_
       clear HK hS
       intro hS
       try simp only[zP]
       clear u2 u3 u4 u5
       refine zT 24 ?_ ?_ hS ?_
       rotate_left
       ·(intro w' hSw;go_simp<;>with_reducible rfl)
       try simp only[zP]
       have q1:=(HX.out.1 _ H7.out.1).2.1
       have q2:=(HX.out.1 _ H7.out.1).2.2
       have qf:=H7.out.1.dV
       obtain⟨w8,hw8⟩:∃ w8,w8=((w7.setCell ⟨g,i*2,none⟩ (.slice A1 n1 c1)).setCell ⟨g,i*2+1,none⟩ (.int .i64 (y1:Nat))).drew:=⟨_,rfl⟩
       have h8:aJ w8 B h (some ⟨g,0,none⟩) cp it (fun j=>if j=i then y1 else f' j) n∧Keeps (fun q=>q=g) w7 w8:=by
        have h:=H7.out.1.put (i:=i) (x:=y1) (by omega) (w':=(w7.setCell ⟨g,i*2,none⟩ (.slice A1 n1 c1)).setCell ⟨g,i*2+1,none⟩ (.int .i64 (y1:Nat))) (by rw[HX.out.2.2.2.1])
        rw[hw8]
        exact⟨h.1.call (Below.refl _ _).drew,h.2.drew⟩
       have H8:=zh h8
       have HW8:=zh hw8
       clear h8 hw8
       refine zC 25 fun K HK=>?_
       go_simp
       rw[←HW8.out]
       go_wp2_with fail
       refine HK.out.zt (fun wx=>au wx h 384 #[.slice (some ⟨g,0,none⟩) n cp,.func (.func 254) #[] #[]]) (fun _ h=>h) (H8.out.1.blk) ?_
       clear HK hS
       intro hS
       try simp only[zP]
       clear q1 q2 qf
       refine zT 26 ?_ ?_ hS ?_
       rotate_left
       ·(intro w' hSw;go_simp<;>with_reducible rfl)
       try simp only[zP]
       have q34:w8.cell? ⟨g,kk*2,none⟩=some (.slice A1 n1 c1)∧w8.cell? ⟨g,kk*2+1,none⟩=some (.int .i64 (y1:Nat)):=by
        have h:=H8.out.1.cell (j:=kk) (by omega)
        rw[if_neg (by omega),←HX.out.2.1,HX.out.2.2.2.1] at h
        exact h
       have q1:=q34.1
       have q2:=q34.2
       have qf:=H8.out.1.dV
       obtain⟨w9,hw9⟩:∃ w9,w9=((w8.setCell ⟨g,kk*2,none⟩ (.slice A2 n2 c2)).setCell ⟨g,kk*2+1,none⟩ (.int .i64 (y2:Nat))):=⟨_,rfl⟩
       have h9:=H8.out.1.put (i:=kk) (x:=y2) (by omega) (w':=w9) (by rw[HX.out.2.2.2.2.1];exact hw9)
       have hBg:=HD.out.2.2.2.2.2.2.2.2.2.2.2.2.2.2.1
       have hbel9:HB B w w9:=(H7.out.2.2.2.keeps H8.out.2 H7.out.1.ht2 hBg).keeps h9.2 H8.out.1.ht2 hBg
       have hn9:=HN.out
       have H9:=zh (zN h9.1 (zN ((H7.out.2.1.keeps H8.out.2 (fun e=>by omega)).keeps h9.2 (fun e=>by omega)) (zN ((H7.out.2.2.1.keeps H8.out.2 (fun e=>by omega)).keeps h9.2 (fun e=>by omega)) hbel9)))
       have HW9:=zh hw9
       clear q34 h9 hbel9 hw9 hn9 hBg
       refine zC 27 fun K HK=>?_
       go_simp
       rw[←HW9.out]
       go_wp2_with fail
       refine HK.out.zt (fun wx=>au wx h 384 #[.slice (some ⟨g,0,none⟩) n cp,.func (.func 254) #[] #[]]) (fun _ h=>h) (H9.out.1.blk) ?_
       clear HK hS
       intro hS
       try simp only[zP]
       refine zD ?_
       try simp only[zP]
       clear q1 q2 qf hS
       go_wp2_with fail
       go_roundw
       case rel=>
        have hfe:∀ j,(if j=kk then y2 else if j=i then y1 else f' j)=cO f' i kk j:=fun j=>by
         unfold cO
         rw[HX.out.2.1,HX.out.2.2.1]
         by_cases h1:j=kk
         ·rw[if_pos h1,if_neg (by omega),if_pos h1]
         ·rw[if_neg h1]
          by_cases h2:j=i
          ·rw[if_pos h2,if_pos h2]
          ·rw[if_neg h2,if_neg h2,if_neg h1]
        have hfe2:=funext hfe
        refine⟨kk,_,.inl hkn,rfl,H9.out.1,?_,?_,H9.out.2.1,H9.out.2.2.1,H9.out.2.2.2⟩
        ·rw[hfe2]
         exact HL.out.2.1.step hk0 hkn HQ.out.2 (by rw[←HX.out.2.1,←HX.out.2.2.1];exact hlt) (fun j h0 hj hpj=>(HQ.out.1 j h0 hj hpj).2)
        ·rw[hfe2]
         exact HL.out.2.2.1.swap (by omega) hkn
       case measure=>simp[intOf]<;>omega
      ·skip
       have HK:=zh hK
       clear hK
       obtain⟨⟨u2,u3⟩,u4,u5⟩:=HX.out.1 _ (H7.out.1.call (Below.refl _ _).drew)
       go_simp
       go_wp2_with fail
       refine HK.out.zt (fun wx=>au wx h 384 #[.slice (some ⟨g,0,none⟩) n cp,.func (.func 254) #[] #[]]) (fun _ h=>h) (hS) ?_
       clear HK hS
       intro hS
       try simp only[zP]
       refine zC 16 fun K HK=>?_
       go_simp
       go_wp2_with fail
       refine HK.out.zt (fun wx=>au wx h 384 #[.slice (some ⟨g,0,none⟩) n cp,.func (.func 254) #[] #[]]) (fun _ h=>h) (hS) ?_
       clear HK hS
       intro hS
       try simp only[zP]
       clear u2 u3 u4 u5
       refine zT 24 ?_ ?_ hS ?_
       rotate_left
       ·(intro w' hSw;go_simp<;>with_reducible rfl)
       try simp only[zP]
       have q1:=(HX.out.1 _ H7.out.1).2.1
       have q2:=(HX.out.1 _ H7.out.1).2.2
       have qf:=H7.out.1.dV
       obtain⟨w8,hw8⟩:∃ w8,w8=((w7.setCell ⟨g,i*2,none⟩ (.slice A1 n1 c1)).setCell ⟨g,i*2+1,none⟩ (.int .i64 (y1:Nat))).drew:=⟨_,rfl⟩
       have h8:aJ w8 B h (some ⟨g,0,none⟩) cp it (fun j=>if j=i then y1 else f' j) n∧Keeps (fun q=>q=g) w7 w8:=by
        have h:=H7.out.1.put (i:=i) (x:=y1) (by omega) (w':=(w7.setCell ⟨g,i*2,none⟩ (.slice A1 n1 c1)).setCell ⟨g,i*2+1,none⟩ (.int .i64 (y1:Nat))) (by rw[HX.out.2.2.2.1])
        rw[hw8]
        exact⟨h.1.call (Below.refl _ _).drew,h.2.drew⟩
       have H8:=zh h8
       have HW8:=zh hw8
       clear h8 hw8
       refine zC 25 fun K HK=>?_
       go_simp
       rw[←HW8.out]
       go_wp2_with fail
       refine HK.out.zt (fun wx=>au wx h 384 #[.slice (some ⟨g,0,none⟩) n cp,.func (.func 254) #[] #[]]) (fun _ h=>h) (H8.out.1.blk) ?_
       clear HK hS
       intro hS
       try simp only[zP]
       clear q1 q2 qf
       refine zT 26 ?_ ?_ hS ?_
       rotate_left
       ·(intro w' hSw;go_simp<;>with_reducible rfl)
       try simp only[zP]
       have q34:w8.cell? ⟨g,kk*2,none⟩=some (.slice A1 n1 c1)∧w8.cell? ⟨g,kk*2+1,none⟩=some (.int .i64 (y1:Nat)):=by
        have h:=H8.out.1.cell (j:=kk) (by omega)
        rw[if_neg (by omega),←HX.out.2.1,HX.out.2.2.2.1] at h
        exact h
       have q1:=q34.1
       have q2:=q34.2
       have qf:=H8.out.1.dV
       obtain⟨w9,hw9⟩:∃ w9,w9=((w8.setCell ⟨g,kk*2,none⟩ (.slice A2 n2 c2)).setCell ⟨g,kk*2+1,none⟩ (.int .i64 (y2:Nat))):=⟨_,rfl⟩
       have h9:=H8.out.1.put (i:=kk) (x:=y2) (by omega) (w':=w9) (by rw[HX.out.2.2.2.2.1];exact hw9)
       have hBg:=HD.out.2.2.2.2.2.2.2.2.2.2.2.2.2.2.1
       have hbel9:HB B w w9:=(H7.out.2.2.2.keeps H8.out.2 H7.out.1.ht2 hBg).keeps h9.2 H8.out.1.ht2 hBg
       have hn9:=HN.out
       have H9:=zh (zN h9.1 (zN ((H7.out.2.1.keeps H8.out.2 (fun e=>by omega)).keeps h9.2 (fun e=>by omega)) (zN ((H7.out.2.2.1.keeps H8.out.2 (fun e=>by omega)).keeps h9.2 (fun e=>by omega)) hbel9)))
       have HW9:=zh hw9
       clear q34 h9 hbel9 hw9 hn9 hBg
       refine zC 27 fun K HK=>?_
       go_simp
       rw[←HW9.out]
       go_wp2_with fail
       refine HK.out.zt (fun wx=>au wx h 384 #[.slice (some ⟨g,0,none⟩) n cp,.func (.func 254) #[] #[]]) (fun _ h=>h) (H9.out.1.blk) ?_
       clear HK hS
       intro hS
       try simp only[zP]
       refine zD ?_
       try simp only[zP]
       clear q1 q2 qf hS
       go_wp2_with fail
       go_roundw
       case rel=>
        have hfe:∀ j,(if j=kk then y2 else if j=i then y1 else f' j)=cO f' i kk j:=fun j=>by
         unfold cO
         rw[HX.out.2.1,HX.out.2.2.1]
         by_cases h1:j=kk
         ·rw[if_pos h1,if_neg (by omega),if_pos h1]
         ·rw[if_neg h1]
          by_cases h2:j=i
          ·rw[if_pos h2,if_pos h2]
          ·rw[if_neg h2,if_neg h2,if_neg h1]
        have hfe2:=funext hfe
        refine⟨kk,_,.inl hkn,rfl,H9.out.1,?_,?_,H9.out.2.1,H9.out.2.2.1,H9.out.2.2.2⟩
        ·rw[hfe2]
         exact HL.out.2.1.step hk0 hkn HQ.out.2 (by rw[←HX.out.2.1,←HX.out.2.2.1];exact hlt) (fun j h0 hj hpj=>(HQ.out.1 j h0 hj hpj).2)
        ·rw[hfe2]
         exact HL.out.2.2.1.swap (by omega) hkn
       case measure=>simp[intOf]<;>omega
     ·have d7:decide (y1 < y2)=false:=by simp;omega
      refine zB [23,24] ?_
      iterate 2 (refine zV ?_ ?_ hS ?_;rotate_left;(intro w' hSw;go_simp<;>with_reducible rfl);try simp only[zP])
      refine zE ?_
      refine zD ?_
      try simp only[zP]
      clear hS
      have z0:w7.cell? ⟨r0,0,none⟩=some (.slice none 0 0):=H7.out.2.1.cell 0
      have z1:w7.cell? ⟨r0,1,none⟩=some (.int .i64 0):=H7.out.2.1.cell 1
      have zf:=H7.out.2.1.frozen
      have v0:w7.cell? ⟨gx,0,none⟩=some (.slice A0 n0 c0):=H7.out.2.2.1.cell 0
      have v1:w7.cell? ⟨gx,1,none⟩=some (.int .i64 (x0:Nat)):=H7.out.2.2.1.cell 1
      go_wp2_with fail
      clear d7
      have HE:=zh (show ∀ j,0 < j→j < n→par j=i→f' i≤f' j from fun j h0 hj hpj=>by
       have h1:=(HQ.out.1 j h0 hj hpj).2
       have h2:=HX.out.2.1
       have h3:=HX.out.2.2.1
       omega)
      obtain⟨W8,hW8⟩:∃ W8,W8=(w7.setCell ⟨r0,0,none⟩ (.slice A0 n0 c0)).setCell ⟨r0,1,none⟩ (.int .i64 (x0:Nat)):=⟨_,rfl⟩
      have hk8:Keeps (fun q=>q=r0) w7 W8:=by rw[hW8];exact ((Keeps.refl (fun q=>q=r0) w7).setCell (fun _=>rfl) _).setCell (fun _=>rfl) _
      have hb8:=(H7.out.2.1.set 0 (.slice A0 n0 c0)).set 1 (.int .i64 (x0:Nat))
      rw[←hW8] at hb8
      have hn8:=HN.out
      have hh8:aJ W8 B h (some ⟨g,0,none⟩) cp it f' n:=⟨H7.out.1.blk.keeps hk8 (fun e=>by omega),aF H7.out.1.row hk8 (fun q hq e=>by
       have:g=q:=by simpa [Value.ownBlock] using hq
       omega),H7.out.1.hB⟩
      have H8:=zh (zN hh8 (zN hb8 (H7.out.2.2.2.keeps hk8 (.inl (bZ H7.out.2.1)) (by rw[HD.out.2.2.2.2.2.2.2.1];exact HD.out.2.2.2.2.2.2.1))))
      have HW8:=zh hW8
      clear hk8 hb8 hn8 hh8 hW8
      rw[←HW8.out]
      have y8:=H8.out.2.1.cell 0
      have y9:=H8.out.2.1.cell 1
      simp at y8 y9
      refine bodyPost_ret (v:=.agg #[.slice A0 n0 c0,.int .i64 (x0:Nat)]) (by simp[results,Tryz.results256,go_sem,y8,y9]) rfl ?_
      exact⟨by rw[HD.out.2.2.2.2.2.2.2.2.2.2.2.2.1],_,f',H8.out.1,HL.out.2.1.done HE.out,HL.out.2.2.1,H8.out.2.2⟩
    ·have d1:decide ((n:Int)≤(kk:Int))=true:=by simp;omega
     have d2:decide (n≤kk)=true:=by simp;omega
     have hS:=H6.out.1.call (Below.refl _ _).drew
     have hS:(fun wx=>aJ wx B h (some ⟨g,0,none⟩) cp it f' n) (w6.drew):=hS
     refine av (fun wx=>aJ wx B h (some ⟨g,0,none⟩) cp it f' n) (by kernel_rfl) hS ?_
     refine zB [0,1,2,3] ?_
     iterate 4 (refine zV ?_ ?_ hS ?_;rotate_left;(intro w' hSw;go_simp<;>with_reducible rfl);try simp only[zP])
     refine zE ?_
     refine zB [4,5,6,7,8,9,10,11,12,13,14,15,16,17,18,19,20,21,22,23] ?_
     iterate 20 (refine zW hS ?_;try simp only[zP])
     refine zE ?_
     refine zT 24 ?_ ?_ hS ?_
     rotate_left
     ·(intro w' hSw;go_simp<;>with_reducible rfl)
     try simp only[zP]
     refine zD ?_
     try simp only[zP]
     clear hS
     have HE:=zh (show ∀ j,0 < j→j < n→par j=i→f' i≤f' j from fun j h0 hj hpj=>absurd (HQ.out.1 j h0 hj hpj).1 hkn)
     obtain⟨w7,hw7⟩:∃ w7,w7=w6.drew:=⟨_,rfl⟩
     have H7:=zh (show aJ w7 B h (some ⟨g,0,none⟩) cp it f' n∧au w7 r0 387 #[.slice none 0 0,.int .i64 0]∧au w7 gx 387 #[.slice A0 n0 c0,.int .i64 (x0:Nat)]∧HB B w w7 from by
      rw[hw7]
      exact⟨H6.out.1.call (Below.refl _ _).drew,H6.out.2.1.drew,H6.out.2.2.1.drew,H6.out.2.2.2.drew⟩)
     rw[←hw7]
     clear hw7
     have z0:w7.cell? ⟨r0,0,none⟩=some (.slice none 0 0):=H7.out.2.1.cell 0
     have z1:w7.cell? ⟨r0,1,none⟩=some (.int .i64 0):=H7.out.2.1.cell 1
     have zf:=H7.out.2.1.frozen
     have v0:w7.cell? ⟨gx,0,none⟩=some (.slice A0 n0 c0):=H7.out.2.2.1.cell 0
     have v1:w7.cell? ⟨gx,1,none⟩=some (.int .i64 (x0:Nat)):=H7.out.2.2.1.cell 1
     go_wp2_with fail
     obtain⟨W8,hW8⟩:∃ W8,W8=(w7.setCell ⟨r0,0,none⟩ (.slice A0 n0 c0)).setCell ⟨r0,1,none⟩ (.int .i64 (x0:Nat)):=⟨_,rfl⟩
     have hk8:Keeps (fun q=>q=r0) w7 W8:=by rw[hW8];exact ((Keeps.refl (fun q=>q=r0) w7).setCell (fun _=>rfl) _).setCell (fun _=>rfl) _
     have hb8:=(H7.out.2.1.set 0 (.slice A0 n0 c0)).set 1 (.int .i64 (x0:Nat))
     rw[←hW8] at hb8
     have hn8:=HN.out
     have hh8:aJ W8 B h (some ⟨g,0,none⟩) cp it f' n:=⟨H7.out.1.blk.keeps hk8 (fun e=>by omega),aF H7.out.1.row hk8 (fun q hq e=>by
      have:g=q:=by simpa [Value.ownBlock] using hq
      omega),H7.out.1.hB⟩
     have H8:=zh (zN hh8 (zN hb8 (H7.out.2.2.2.keeps hk8 (.inl (bZ H7.out.2.1)) (by rw[HD.out.2.2.2.2.2.2.2.1];exact HD.out.2.2.2.2.2.2.1))))
     have HW8:=zh hW8
     clear hk8 hb8 hn8 hh8 hW8
     rw[←HW8.out]
     have y8:=H8.out.2.1.cell 0
     have y9:=H8.out.2.1.cell 1
     simp at y8 y9
     refine bodyPost_ret (v:=.agg #[.slice A0 n0 c0,.int .i64 (x0:Nat)]) (by simp[results,Tryz.results256,go_sem,y8,y9]) rfl ?_
     exact⟨by rw[HD.out.2.2.2.2.2.2.2.2.2.2.2.2.1],_,f',H8.out.1,HL.out.2.1.done HE.out,HL.out.2.2.1,H8.out.2.2⟩
  ·have d5:IntKind.i64.wrap ((k:Int)+1)=(k:Int)+1:=by simp only[IntKind.wrap_i64];omega
   have d1:decide ((k:Int)+1 < (n:Int))=false:=by simp;omega
   have hS:=HL.out.1.call (Below.refl _ _).drew
   have hS:(fun wx=>aJ wx B h (some ⟨g,0,none⟩) cp it f' n) (wr.drew):=hS
   refine av (fun wx=>aJ wx B h (some ⟨g,0,none⟩) cp it f' n) (by kernel_rfl) hS ?_
   refine zB [0,1,2,3,4] ?_
   iterate 5 (refine zV ?_ ?_ hS ?_;rotate_left;(intro w' hSw;go_simp<;>with_reducible rfl);try simp only[zP])
   refine zE ?_
   refine zB [5,6,7,8,9,10,11,12,13,14,15,16,17,18,19,20,21,22,23,24] ?_
   iterate 20 (refine zW hS ?_;try simp only[zP])
   refine zE ?_
   refine zT 25 ?_ ?_ hS ?_
   rotate_left
   ·(intro w' hSw;go_simp<;>with_reducible rfl)
   try simp only[zP]
   refine zD ?_
   try simp only[zP]
   clear hS d1
   go_wp2_with fail
   refine aH (fun wx=>aJ wx B h (some ⟨g,0,none⟩) cp it f' n∧au wx r0 387 #[.slice none 0 0,.int .i64 0]∧au wx gx 387 #[.slice A0 n0 c0,.int .i64 (x0:Nat)]∧HB B w wx) ⟨HL.out.1.call (Below.refl _ _).drew,HL.out.2.2.2.1.drew,HL.out.2.2.2.2.1.drew,HL.out.2.2.2.2.2.drew⟩ ?_
   rintro w6 h6
   have H6:=zh h6
   clear h6
   obtain⟨kk,hkk⟩:∃ kk,kk=k:=⟨_,rfl⟩
   rw[←hkk]
   have hleast:∀ j,0 < j→j < n→par j=i→kk < n∧f' kk≤f' j:=fun j h0 hj hpj=>by
    have hj2:j=k∨j=k+1:=by have hk:=HKK.out;unfold par at hpj;omega
    have hj3:j=kk:=by omega
    rw[hj3]
    exact⟨by omega,Nat.le_refl _⟩
   have hpk:par kk=i∧i < kk∧0 < kk∧kk < 4000:=by have hk:=HKK.out;unfold par;omega
   have HQ:=zh (zN hleast hpk.1)
   have hik:=hpk.2.1
   have hk0:=hpk.2.2.1
   have hk4:=hpk.2.2.2
   clear hleast hpk hkk hk1 hk4a hk4b
   by_cases hkn:kk < n
   ·have hm1:=HL.out.2.2.1.mem kk hkn
    have hm2:=HL.out.2.2.1.mem i (by omega)
    obtain⟨A1,n1,c1,e1,-,-⟩:=HT.out.at_ _ hm1
    obtain⟨A2,n2,c2,e2,-,-⟩:=HT.out.at_ _ hm2
    obtain⟨y1,hy1⟩:∃ y1,y1=f' kk:=⟨_,rfl⟩
    obtain⟨y2,hy2⟩:∃ y2,y2=f' i:=⟨_,rfl⟩
    rw[←hy1] at hm1 e1
    rw[←hy2] at hm2 e2
    have hne:y1≠y2:=fun e=>by
     have:=HL.out.2.2.1.inj kk i hkn (by omega) (by rw[←hy1,←hy2,e])
     omega
    have hcell:∀ wx,aJ wx B h (some ⟨g,0,none⟩) cp it f' n→(wx.cell? ⟨g,kk*2,none⟩=some (.slice A1 n1 c1)∧wx.cell? ⟨g,kk*2+1,none⟩=some (.int .i64 (y1:Nat)))∧(wx.cell? ⟨g,i*2,none⟩=some (.slice A2 n2 c2)∧wx.cell? ⟨g,i*2+1,none⟩=some (.int .i64 (y2:Nat))):=fun wx hx=>by
     have q1:=hx.cell (j:=kk) hkn
     have q2:=hx.cell (j:=i) (by omega)
     rw[←hy1,e1] at q1
     rw[←hy2,e2] at q2
     exact⟨q1,q2⟩
    have hcall:Calls Tryz.prog 254 #[.agg #[.slice A1 n1 c1,.int .i64 (y1:Nat)],.agg #[.slice A2 n2 c2,.int .i64 (y2:Nat)]] w6.drew fun e w'=>e=.returned (.bool (decide (y1 < y2)))∧Below w6.drew.heap.size w6.drew w':=by
     have hc:=kX w0 w6.drew B it ip _ ((HD.out.1.trans H6.out.2.2.2.bel).drew) HD.out.2.1 HT.out y1 y2 hm1 hm2 hne
     rw[e1,e2] at hc
     exact hc
    have HX:=zh (zN hcell (zN hy1 (zN hy2 (zN e1 (zN e2 hcall)))))
    clear hcell hcall hy1 hy2 hne hm1 hm2 e1 e2
    have d1:decide ((n:Int)≤(kk:Int))=false:=by simp;omega
    have d2:decide (n≤kk)=false:=by simp;omega
    have d3:(kk:Int) < (n:Int):=by omega
    have d4:(i:Int) < (n:Int):=by omega
    have nt:=fF
    have nf:=jV
    have hS:=H6.out.1.call (Below.refl _ _).drew
    have hS:(fun wx=>aJ wx B h (some ⟨g,0,none⟩) cp it f' n) (w6.drew):=hS
    refine av (fun wx=>aJ wx B h (some ⟨g,0,none⟩) cp it f' n) (by kernel_rfl) hS ?_
    refine zB [0,1,2,3,4,5,6,7,8,9,10,11,12,13,14,15,16,17,18,19,20,21] ?_
    iterate 22 (refine zV ?_ ?_ hS ?_;rotate_left;(intro w' hSw;have u0:=hSw.blk.cell 0;have u1:=hSw.blk.cell 1;obtain ⟨⟨u2,u3⟩,u4,u5⟩:=HX.out.1 _ hSw;go_simp<;>with_reducible rfl);try simp only[zP])
    refine zE ?_
    refine zC 22 fun K HK=>?_
    go_simp
    refine(HX.out.2.2.2.2.2).mono ?_
    rintro e w7 ⟨rfl,hb7⟩
    have hb7':Below w6.heap.size w6 w7:=V.ay (Below.refl _ _).drew hb7
    have H7:=zh (zN (H6.out.1.call hb7') (zN (H6.out.2.1.below hb7' H6.out.2.1.lt) (zN (H6.out.2.2.1.below hb7' H6.out.2.2.1.lt) (H6.out.2.2.2.call hb7'))))
    clear hb7 hb7'
    go_wp2_with fail
    refine HK.out.zt (fun wx=>aJ wx B h (some ⟨g,0,none⟩) cp it f' n) (fun _ h=>h) (H7.out.1) ?_
    clear HK hS
    intro hS
    try simp only[zP]
    by_cases hlt:y1 < y2
    ·have d7:decide (y1 < y2)=true:=by simp[hlt]
     refine zB [23,24] ?_
     iterate 2 (refine zV ?_ ?_ hS ?_;rotate_left;(intro w' hSw;go_simp<;>with_reducible rfl);try simp only[zP])
     refine zE ?_
     refine zD ?_
     try simp only[zP]
     clear hS
     go_wp2_with fail
     clear d7
     have hS:=H7.out.1.blk.drew
     have hS:(fun wx=>au wx h 384 #[.slice (some ⟨g,0,none⟩) n cp,.func (.func 254) #[] #[]]) (w7.drew):=hS
     refine av (fun wx=>au wx h 384 #[.slice (some ⟨g,0,none⟩) n cp,.func (.func 254) #[] #[]]) (by kernel_rfl) hS ?_
     refine zB [0,1,2,3,4,5,6,7,8,9,10,11,12,13,14,15,17,18,19,20,21,22] ?_
     iterate 22 (refine zV ?_ ?_ hS ?_;rotate_left;(intro w' hSw;have u0:=hSw.cell 0;go_simp<;>with_reducible rfl);try simp only[zP])
     refine zE ?_
     refine jk (i:=16) (j:=23) rfl rfl (by kernel_rfl) (fun K hK=>?_) (fun K hK=>?_)
     ·skip
      have HK:=zh hK
      clear hK
      obtain⟨⟨u2,u3⟩,u4,u5⟩:=HX.out.1 _ (H7.out.1.call (Below.refl _ _).drew)
      go_simp
      go_wp2_with fail
      refine HK.out.zt (fun wx=>au wx h 384 #[.slice (some ⟨g,0,none⟩) n cp,.func (.func 254) #[] #[]]) (fun _ h=>h) (hS) ?_
      clear HK hS
      intro hS
      try simp only[zP]
      refine zC 23 fun K HK=>?_
      go_simp
      go_wp2_with fail
      refine HK.out.zt (fun wx=>au wx h 384 #[.slice (some ⟨g,0,none⟩) n cp,.func (.func 254) #[] #[]]) (fun _ h=>h) (hS) ?_
      clear HK hS
      intro hS
      try simp only[zP]
      clear u2 u3 u4 u5
      refine zT 24 ?_ ?_ hS ?_
      rotate_left
      ·(intro w' hSw;go_simp<;>with_reducible rfl)
      try simp only[zP]
      have q1:=(HX.out.1 _ H7.out.1).2.1
      have q2:=(HX.out.1 _ H7.out.1).2.2
      have qf:=H7.out.1.dV
      obtain⟨w8,hw8⟩:∃ w8,w8=((w7.setCell ⟨g,i*2,none⟩ (.slice A1 n1 c1)).setCell ⟨g,i*2+1,none⟩ (.int .i64 (y1:Nat))).drew:=⟨_,rfl⟩
      have h8:aJ w8 B h (some ⟨g,0,none⟩) cp it (fun j=>if j=i then y1 else f' j) n∧Keeps (fun q=>q=g) w7 w8:=by
       have h:=H7.out.1.put (i:=i) (x:=y1) (by omega) (w':=(w7.setCell ⟨g,i*2,none⟩ (.slice A1 n1 c1)).setCell ⟨g,i*2+1,none⟩ (.int .i64 (y1:Nat))) (by rw[HX.out.2.2.2.1])
       rw[hw8]
       exact⟨h.1.call (Below.refl _ _).drew,h.2.drew⟩
      have H8:=zh h8
      have HW8:=zh hw8
      clear h8 hw8
      refine zC 25 fun K HK=>?_
      go_simp
      rw[←HW8.out]
      go_wp2_with fail
      refine HK.out.zt (fun wx=>au wx h 384 #[.slice (some ⟨g,0,none⟩) n cp,.func (.func 254) #[] #[]]) (fun _ h=>h) (H8.out.1.blk) ?_
      clear HK hS
      intro hS
      try simp only[zP]
      clear q1 q2 qf
      refine zT 26 ?_ ?_ hS ?_
      rotate_left
      ·(intro w' hSw;go_simp<;>with_reducible rfl)
      try simp only[zP]
      have q34:w8.cell? ⟨g,kk*2,none⟩=some (.slice A1 n1 c1)∧w8.cell? ⟨g,kk*2+1,none⟩=some (.int .i64 (y1:Nat)):=by
       have h:=H8.out.1.cell (j:=kk) (by omega)
       rw[if_neg (by omega),←HX.out.2.1,HX.out.2.2.2.1] at h
       exact h
      have q1:=q34.1
      have q2:=q34.2
      have qf:=H8.out.1.dV
      obtain⟨w9,hw9⟩:∃ w9,w9=((w8.setCell ⟨g,kk*2,none⟩ (.slice A2 n2 c2)).setCell ⟨g,kk*2+1,none⟩ (.int .i64 (y2:Nat))):=⟨_,rfl⟩
      have h9:=H8.out.1.put (i:=kk) (x:=y2) (by omega) (w':=w9) (by rw[HX.out.2.2.2.2.1];exact hw9)
      have hBg:=HD.out.2.2.2.2.2.2.2.2.2.2.2.2.2.2.1
      have hbel9:HB B w w9:=(H7.out.2.2.2.keeps H8.out.2 H7.out.1.ht2 hBg).keeps h9.2 H8.out.1.ht2 hBg
      have hn9:=HN.out
      have H9:=zh (zN h9.1 (zN ((H7.out.2.1.keeps H8.out.2 (fun e=>by omega)).keeps h9.2 (fun e=>by omega)) (zN ((H7.out.2.2.1.keeps H8.out.2 (fun e=>by omega)).keeps h9.2 (fun e=>by omega)) hbel9)))
      have HW9:=zh hw9
      clear q34 h9 hbel9 hw9 hn9 hBg
      refine zC 27 fun K HK=>?_
      go_simp
      rw[←HW9.out]
      go_wp2_with fail
      refine HK.out.zt (fun wx=>au wx h 384 #[.slice (some ⟨g,0,none⟩) n cp,.func (.func 254) #[] #[]]) (fun _ h=>h) (H9.out.1.blk) ?_
      clear HK hS
      intro hS
      try simp only[zP]
      refine zD ?_
      try simp only[zP]
      clear q1 q2 qf hS
      go_wp2_with fail
      go_roundw
      case rel=>
       have hfe:∀ j,(if j=kk then y2 else if j=i then y1 else f' j)=cO f' i kk j:=fun j=>by
        unfold cO
        rw[HX.out.2.1,HX.out.2.2.1]
        by_cases h1:j=kk
        ·rw[if_pos h1,if_neg (by omega),if_pos h1]
        ·rw[if_neg h1]
         by_cases h2:j=i
         ·rw[if_pos h2,if_pos h2]
         ·rw[if_neg h2,if_neg h2,if_neg h1]
       have hfe2:=funext hfe
       refine⟨kk,_,.inl hkn,rfl,H9.out.1,?_,?_,H9.out.2.1,H9.out.2.2.1,H9.out.2.2.2⟩
       ·rw[hfe2]
        exact HL.out.2.1.step hk0 hkn HQ.out.2 (by rw[←HX.out.2.1,←HX.out.2.2.1];exact hlt) (fun j h0 hj hpj=>(HQ.out.1 j h0 hj hpj).2)
       ·rw[hfe2]
        exact HL.out.2.2.1.swap (by omega) hkn
      case measure=>simp[intOf]<;>omega
     ·skip
      have HK:=zh hK
      clear hK
      obtain⟨⟨u2,u3⟩,u4,u5⟩:=HX.out.1 _ (H7.out.1.call (Below.refl _ _).drew)
      go_simp
      go_wp2_with fail
      refine HK.out.zt (fun wx=>au wx h 384 #[.slice (some ⟨g,0,none⟩) n cp,.func (.func 254) #[] #[]]) (fun _ h=>h) (hS) ?_
      clear HK hS
      intro hS
      try simp only[zP]
      refine zC 16 fun K HK=>?_
      go_simp
      go_wp2_with fail
      refine HK.out.zt (fun wx=>au wx h 384 #[.slice (some ⟨g,0,none⟩) n cp,.func (.func 254) #[] #[]]) (fun _ h=>h) (hS) ?_
      clear HK hS
      intro hS
      try simp only[zP]
      clear u2 u3 u4 u5
      refine zT 24 ?_ ?_ hS ?_
      rotate_left
      ·(intro w' hSw;go_simp<;>with_reducible rfl)
      try simp only[zP]
      have q1:=(HX.out.1 _ H7.out.1).2.1
      have q2:=(HX.out.1 _ H7.out.1).2.2
      have qf:=H7.out.1.dV
      obtain⟨w8,hw8⟩:∃ w8,w8=((w7.setCell ⟨g,i*2,none⟩ (.slice A1 n1 c1)).setCell ⟨g,i*2+1,none⟩ (.int .i64 (y1:Nat))).drew:=⟨_,rfl⟩
      have h8:aJ w8 B h (some ⟨g,0,none⟩) cp it (fun j=>if j=i then y1 else f' j) n∧Keeps (fun q=>q=g) w7 w8:=by
       have h:=H7.out.1.put (i:=i) (x:=y1) (by omega) (w':=(w7.setCell ⟨g,i*2,none⟩ (.slice A1 n1 c1)).setCell ⟨g,i*2+1,none⟩ (.int .i64 (y1:Nat))) (by rw[HX.out.2.2.2.1])
       rw[hw8]
       exact⟨h.1.call (Below.refl _ _).drew,h.2.drew⟩
      have H8:=zh h8
      have HW8:=zh hw8
      clear h8 hw8
      refine zC 25 fun K HK=>?_
      go_simp
      rw[←HW8.out]
      go_wp2_with fail
      refine HK.out.zt (fun wx=>au wx h 384 #[.slice (some ⟨g,0,none⟩) n cp,.func (.func 254) #[] #[]]) (fun _ h=>h) (H8.out.1.blk) ?_
      clear HK hS
      intro hS
      try simp only[zP]
      clear q1 q2 qf
      refine zT 26 ?_ ?_ hS ?_
      rotate_left
      ·(intro w' hSw;go_simp<;>with_reducible rfl)
      try simp only[zP]
      have q34:w8.cell? ⟨g,kk*2,none⟩=some (.slice A1 n1 c1)∧w8.cell? ⟨g,kk*2+1,none⟩=some (.int .i64 (y1:Nat)):=by
       have h:=H8.out.1.cell (j:=kk) (by omega)
       rw[if_neg (by omega),←HX.out.2.1,HX.out.2.2.2.1] at h
       exact h
      have q1:=q34.1
      have q2:=q34.2
      have qf:=H8.out.1.dV
      obtain⟨w9,hw9⟩:∃ w9,w9=((w8.setCell ⟨g,kk*2,none⟩ (.slice A2 n2 c2)).setCell ⟨g,kk*2+1,none⟩ (.int .i64 (y2:Nat))):=⟨_,rfl⟩
      have h9:=H8.out.1.put (i:=kk) (x:=y2) (by omega) (w':=w9) (by rw[HX.out.2.2.2.2.1];exact hw9)
      have hBg:=HD.out.2.2.2.2.2.2.2.2.2.2.2.2.2.2.1
      have hbel9:HB B w w9:=(H7.out.2.2.2.keeps H8.out.2 H7.out.1.ht2 hBg).keeps h9.2 H8.out.1.ht2 hBg
      have hn9:=HN.out
      have H9:=zh (zN h9.1 (zN ((H7.out.2.1.keeps H8.out.2 (fun e=>by omega)).keeps h9.2 (fun e=>by omega)) (zN ((H7.out.2.2.1.keeps H8.out.2 (fun e=>by omega)).keeps h9.2 (fun e=>by omega)) hbel9)))
      have HW9:=zh hw9
      clear q34 h9 hbel9 hw9 hn9 hBg
      refine zC 27 fun K HK=>?_
      go_simp
      rw[←HW9.out]
      go_wp2_with fail
      refine HK.out.zt (fun wx=>au wx h 384 #[.slice (some ⟨g,0,none⟩) n cp,.func (.func 254) #[] #[]]) (fun _ h=>h) (H9.out.1.blk) ?_
      clear HK hS
      intro hS
      try simp only[zP]
      refine zD ?_
      try simp only[zP]
      clear q1 q2 qf hS
      go_wp2_with fail
      go_roundw
      case rel=>
       have hfe:∀ j,(if j=kk then y2 else if j=i then y1 else f' j)=cO f' i kk j:=fun j=>by
        unfold cO
        rw[HX.out.2.1,HX.out.2.2.1]
        by_cases h1:j=kk
        ·rw[if_pos h1,if_neg (by omega),if_pos h1]
        ·rw[if_neg h1]
         by_cases h2:j=i
         ·rw[if_pos h2,if_pos h2]
         ·rw[if_neg h2,if_neg h2,if_neg h1]
       have hfe2:=funext hfe
       refine⟨kk,_,.inl hkn,rfl,H9.out.1,?_,?_,H9.out.2.1,H9.out.2.2.1,H9.out.2.2.2⟩
       ·rw[hfe2]
        exact HL.out.2.1.step hk0 hkn HQ.out.2 (by rw[←HX.out.2.1,←HX.out.2.2.1];exact hlt) (fun j h0 hj hpj=>(HQ.out.1 j h0 hj hpj).2)
       ·rw[hfe2]
        exact HL.out.2.2.1.swap (by omega) hkn
      case measure=>simp[intOf]<;>omega
    ·have d7:decide (y1 < y2)=false:=by simp;omega
     refine zB [23,24] ?_
     iterate 2 (refine zV ?_ ?_ hS ?_;rotate_left;(intro w' hSw;go_simp<;>with_reducible rfl);try simp only[zP])
     refine zE ?_
     refine zD ?_
     try simp only[zP]
     clear hS
     have z0:w7.cell? ⟨r0,0,none⟩=some (.slice none 0 0):=H7.out.2.1.cell 0
     have z1:w7.cell? ⟨r0,1,none⟩=some (.int .i64 0):=H7.out.2.1.cell 1
     have zf:=H7.out.2.1.frozen
     have v0:w7.cell? ⟨gx,0,none⟩=some (.slice A0 n0 c0):=H7.out.2.2.1.cell 0
     have v1:w7.cell? ⟨gx,1,none⟩=some (.int .i64 (x0:Nat)):=H7.out.2.2.1.cell 1
     go_wp2_with fail
     clear d7
     have HE:=zh (show ∀ j,0 < j→j < n→par j=i→f' i≤f' j from fun j h0 hj hpj=>by
      have h1:=(HQ.out.1 j h0 hj hpj).2
      have h2:=HX.out.2.1
      have h3:=HX.out.2.2.1
      omega)
     obtain⟨W8,hW8⟩:∃ W8,W8=(w7.setCell ⟨r0,0,none⟩ (.slice A0 n0 c0)).setCell ⟨r0,1,none⟩ (.int .i64 (x0:Nat)):=⟨_,rfl⟩
     have hk8:Keeps (fun q=>q=r0) w7 W8:=by rw[hW8];exact ((Keeps.refl (fun q=>q=r0) w7).setCell (fun _=>rfl) _).setCell (fun _=>rfl) _
     have hb8:=(H7.out.2.1.set 0 (.slice A0 n0 c0)).set 1 (.int .i64 (x0:Nat))
     rw[←hW8] at hb8
     have hn8:=HN.out
     have hh8:aJ W8 B h (some ⟨g,0,none⟩) cp it f' n:=⟨H7.out.1.blk.keeps hk8 (fun e=>by omega),aF H7.out.1.row hk8 (fun q hq e=>by
      have:g=q:=by simpa [Value.ownBlock] using hq
      omega),H7.out.1.hB⟩
     have H8:=zh (zN hh8 (zN hb8 (H7.out.2.2.2.keeps hk8 (.inl (bZ H7.out.2.1)) (by rw[HD.out.2.2.2.2.2.2.2.1];exact HD.out.2.2.2.2.2.2.1))))
     have HW8:=zh hW8
     clear hk8 hb8 hn8 hh8 hW8
     rw[←HW8.out]
     have y8:=H8.out.2.1.cell 0
     have y9:=H8.out.2.1.cell 1
     simp at y8 y9
     refine bodyPost_ret (v:=.agg #[.slice A0 n0 c0,.int .i64 (x0:Nat)]) (by simp[results,Tryz.results256,go_sem,y8,y9]) rfl ?_
     exact⟨by rw[HD.out.2.2.2.2.2.2.2.2.2.2.2.2.1],_,f',H8.out.1,HL.out.2.1.done HE.out,HL.out.2.2.1,H8.out.2.2⟩
   ·have d1:decide ((n:Int)≤(kk:Int))=true:=by simp;omega
    have d2:decide (n≤kk)=true:=by simp;omega
    have hS:=H6.out.1.call (Below.refl _ _).drew
    have hS:(fun wx=>aJ wx B h (some ⟨g,0,none⟩) cp it f' n) (w6.drew):=hS
    refine av (fun wx=>aJ wx B h (some ⟨g,0,none⟩) cp it f' n) (by kernel_rfl) hS ?_
    refine zB [0,1,2,3] ?_
    iterate 4 (refine zV ?_ ?_ hS ?_;rotate_left;(intro w' hSw;go_simp<;>with_reducible rfl);try simp only[zP])
    refine zE ?_
    refine zB [4,5,6,7,8,9,10,11,12,13,14,15,16,17,18,19,20,21,22,23] ?_
    iterate 20 (refine zW hS ?_;try simp only[zP])
    refine zE ?_
    refine zT 24 ?_ ?_ hS ?_
    rotate_left
    ·(intro w' hSw;go_simp<;>with_reducible rfl)
    try simp only[zP]
    refine zD ?_
    try simp only[zP]
    clear hS
    have HE:=zh (show ∀ j,0 < j→j < n→par j=i→f' i≤f' j from fun j h0 hj hpj=>absurd (HQ.out.1 j h0 hj hpj).1 hkn)
    obtain⟨w7,hw7⟩:∃ w7,w7=w6.drew:=⟨_,rfl⟩
    have H7:=zh (show aJ w7 B h (some ⟨g,0,none⟩) cp it f' n∧au w7 r0 387 #[.slice none 0 0,.int .i64 0]∧au w7 gx 387 #[.slice A0 n0 c0,.int .i64 (x0:Nat)]∧HB B w w7 from by
     rw[hw7]
     exact⟨H6.out.1.call (Below.refl _ _).drew,H6.out.2.1.drew,H6.out.2.2.1.drew,H6.out.2.2.2.drew⟩)
    rw[←hw7]
    clear hw7
    have z0:w7.cell? ⟨r0,0,none⟩=some (.slice none 0 0):=H7.out.2.1.cell 0
    have z1:w7.cell? ⟨r0,1,none⟩=some (.int .i64 0):=H7.out.2.1.cell 1
    have zf:=H7.out.2.1.frozen
    have v0:w7.cell? ⟨gx,0,none⟩=some (.slice A0 n0 c0):=H7.out.2.2.1.cell 0
    have v1:w7.cell? ⟨gx,1,none⟩=some (.int .i64 (x0:Nat)):=H7.out.2.2.1.cell 1
    go_wp2_with fail
    obtain⟨W8,hW8⟩:∃ W8,W8=(w7.setCell ⟨r0,0,none⟩ (.slice A0 n0 c0)).setCell ⟨r0,1,none⟩ (.int .i64 (x0:Nat)):=⟨_,rfl⟩
    have hk8:Keeps (fun q=>q=r0) w7 W8:=by rw[hW8];exact ((Keeps.refl (fun q=>q=r0) w7).setCell (fun _=>rfl) _).setCell (fun _=>rfl) _
    have hb8:=(H7.out.2.1.set 0 (.slice A0 n0 c0)).set 1 (.int .i64 (x0:Nat))
    rw[←hW8] at hb8
    have hn8:=HN.out
    have hh8:aJ W8 B h (some ⟨g,0,none⟩) cp it f' n:=⟨H7.out.1.blk.keeps hk8 (fun e=>by omega),aF H7.out.1.row hk8 (fun q hq e=>by
     have:g=q:=by simpa [Value.ownBlock] using hq
     omega),H7.out.1.hB⟩
    have H8:=zh (zN hh8 (zN hb8 (H7.out.2.2.2.keeps hk8 (.inl (bZ H7.out.2.1)) (by rw[HD.out.2.2.2.2.2.2.2.1];exact HD.out.2.2.2.2.2.2.1))))
    have HW8:=zh hW8
    clear hk8 hb8 hn8 hh8 hW8
    rw[←HW8.out]
    have y8:=H8.out.2.1.cell 0
    have y9:=H8.out.2.1.cell 1
    simp at y8 y9
    refine bodyPost_ret (v:=.agg #[.slice A0 n0 c0,.int .i64 (x0:Nat)]) (by simp[results,Tryz.results256,go_sem,y8,y9]) rfl ?_
    exact⟨by rw[HD.out.2.2.2.2.2.2.2.2.2.2.2.2.1],_,f',H8.out.1,HL.out.2.1.done HE.out,HL.out.2.2.1,H8.out.2.2⟩
end
section
open Go.RowKit
def aQ(r:Nat→List Pt): Nat→List Pt
 | 0=>[]
 | k+1=>aQ r k ++ r k
def gL(r:Nat→List Pt)(x:Nat)(t:List Pt): Nat→List Pt:=fun y=>if y=x then t else r y
def Inc(l:List Pt): Prop:=l.Pairwise (fun a b=>a.t < b.t)
theorem Aj{r s:Nat→List Pt}: ∀ K,(∀ y,y < K→r y=s y)→aQ r K=aQ s K
 | 0,_=>rfl
 | K+1,h=>by
  show aQ r K ++ r K=aQ s K ++ s K
  rw[Aj K (fun y hy=>h y (by omega)),h K (by omega)]
theorem tJ{r:Nat→List Pt}: ∀ K,(∀ y,y < K→r y=[])→aQ r K=[]
 | 0,_=>rfl
 | K+1,h=>by
  show aQ r K ++ r K=[]
  rw[tJ K (fun y hy=>h y (by omega)),h K (by omega)];rfl
theorem CP{r:Nat→List Pt}{x:Nat}{p:Pt}{t:List Pt}(hx:r x=p :: t)(h0:∀ y,y < x→r y=[]): ∀ K,x < K→aQ r K=p :: aQ (gL r x t) K
 | 0,h=>by omega
 | K+1,h=>by
  show aQ r K ++ r K=p :: (aQ (gL r x t) K ++ gL r x t K)
  by_cases e:x=K
  ·subst e
   rw[tJ x h0,tJ (r:=gL r x t) x (fun y hy=>by unfold gL;rw[if_neg (by omega)];exact h0 y hy),hx]
   unfold gL
   simp
  ·rw[CP hx h0 K (by omega)]
   unfold gL
   rw[if_neg (by omega)]
   rfl
theorem xV{r:Nat→List Pt}{p:Pt}: ∀ K y,y < K→p ∈ r y→p ∈ aQ r K
 | 0,_,h,_=>by omega
 | K+1,y,h,hp=>by
  show p ∈ aQ r K ++ r K
  rw[List.mem_append]
  by_cases e:y=K
  ·subst e;exact .inr hp
  ·exact .inl (xV K y (by omega) hp)
theorem Inc.parts{a b:List Pt}(h:Inc (a ++ b)): Inc a∧Inc b∧∀ p ∈ a,∀ q ∈ b,p.t < q.t:=by
 unfold Inc at h
 rw[List.pairwise_append] at h
 exact h
theorem tX{r:Nat→List Pt}: ∀ K,Inc (aQ r K)→∀ y,y < K→Inc (r y)
 | 0,_,_,h=>by omega
 | K+1,hi,y,h=>by
  have hi':Inc (aQ r K ++ r K):=hi
  by_cases e:y=K
  ·subst e;exact hi'.parts.2.1
  ·exact tX K hi'.parts.1 y (by omega)
theorem Iw{r:Nat→List Pt}: ∀ K,Inc (aQ r K)→∀ x y,x < y→y < K→∀ p ∈ r x,∀ q ∈ r y,p.t < q.t
 | 0,_,_,_,_,h,_,_,_,_=>by omega
 | K+1,hi,x,y,hxy,h,p,hp,q,hq=>by
  have hi':Inc (aQ r K ++ r K):=hi
  by_cases e:y=K
  ·subst e;exact hi'.parts.2.2 p (xV y x hxy hp) q hq
  ·exact Iw K hi'.parts.1 x y hxy (by omega) p hp q hq
theorem yh{r:Nat→List Pt}: ∀ K y,y < K→(r y).length≤(aQ r K).length
 | 0,_,h=>by omega
 | K+1,y,h=>by
  show _≤(aQ r K ++ r K).length
  rw[List.length_append]
  by_cases e:y=K
  ·subst e;omega
  ·have:=yh (r:=r) K y (by omega);omega
theorem Inc.rises{l:List Pt}(h:Inc l)(j:Nat)(hj:j+1 < l.length): (l.getD j ⟨0,0,0⟩).t < (l.getD (j+1) ⟨0,0,0⟩).t:=by
 have:=List.pairwise_iff_getElem.1 h j (j+1) (by omega) hj (by omega)
 rw[List.getD_eq_getElem?_getD,List.getD_eq_getElem?_getD,List.getElem?_eq_getElem (by omega),List.getElem?_eq_getElem hj]
 exact this
theorem jQ{l:List Pt}{j:Nat}(hj:j < l.length): l.getD j ⟨0,0,0⟩ ∈ l:=by
 rw[List.getD_eq_getElem?_getD,List.getElem?_eq_getElem hj]
 exact List.getElem_mem _
theorem MR{r:Nat→List Pt}(K:Nat): (aQ r (K+1)).length=(aQ r K).length+(r K).length:=by
 show (aQ r K ++ r K).length=_
 rw[List.length_append]
theorem O7{w:World}{D:Nat→Prop}{b off n:Nat}{f:Nat→Pt}(h:dO w D (some ⟨b,off,none⟩) (n+1) f): dO w D (some ⟨b,off+3,none⟩) n (fun j=>f (j+1)):=fun hn=>by
 obtain⟨b',o',e,hD,hc⟩:=h (by omega)
 injection e with e
 injection e with e1 e2
 subst e1;subst e2
 refine⟨b,off+3,rfl,hD,fun j hj=>?_⟩
 have:=hc (j+1) (by omega)
 rw[show off+(j+1)*3=off+3+j*3 by omega] at this
 exact this
def eZ(r:Nat→List Pt)(K:Nat): Nat→Prop:=fun y=>y < K∧0 < (r y).length
theorem Kk{r:Nat→List Pt}{i:Nat}(h:0 < (r i).length): (fun y=>eZ r i y∨y=i)=eZ r (i+1):=by
 funext y
 apply propext
 unfold eZ
 constructor
 ·rintro (⟨h1,h2⟩ | rfl)
  ·exact ⟨by omega,h2⟩
  ·exact ⟨by omega,h⟩
 ·rintro ⟨h1,h2⟩
  by_cases e:y=i
  ·exact .inr e
  ·exact .inl ⟨by omega,h2⟩
theorem JV{r:Nat→List Pt}{i:Nat}(h:(r i).length=0): eZ r i=eZ r (i+1):=by
 funext y
 apply propext
 unfold eZ
 constructor
 ·rintro ⟨h1,h2⟩
  exact⟨by omega,h2⟩
 ·rintro ⟨h1,h2⟩
  refine⟨?_,h2⟩
  by_cases e:y=i
  ·subst e;omega
  ·omega
theorem Ci{r:Nat→List Pt}{K x:Nat}{t:List Pt}(hx:x < K)(ht:0 < t.length)(h0:0 < (r x).length): (fun y=>(eZ r K y∧y≠x)∨y=x)=eZ (gL r x t) K:=by
 funext y
 apply propext
 unfold eZ gL
 by_cases e:y=x
 ·subst e;simp[hx,ht]
 ·simp[e]
theorem Ad{r:Nat→List Pt}{K x:Nat}: (fun y=>eZ r K y∧y≠x)=eZ (gL r x []) K:=by
 funext y
 apply propext
 unfold eZ gL
 by_cases e:y=x
 ·subst e;simp
 ·simp[e]
def fT(At:Nat→Option Addr)(ct:Nat→Nat)(r:Nat→List Pt): Nat→Value:=fun x=>.slice (At x) (r x).length (ct x)
def qb(r:Nat→List Pt): Nat→Nat→Pt:=fun x j=>(r x).getD j ⟨0,0,0⟩
theorem Jm{w:World}{B K:Nat}{At:Nat→Option Addr}{ct:Nat→Nat}{r:Nat→List Pt}(hs:∀ x,x < K→dO w (fun q=>q < B) (At x) (r x).length (qb r x))(hi:Inc (aQ r K)): uX w B (fT At ct r) (qb r) (eZ r K):=by
 refine⟨fun x hx=>⟨At x,(r x).length,ct x,rfl,hx.2,hs x hx.1⟩,fun x y hx hy hxy=>?_⟩
 exact Iw K hi x y hxy hy.1 _ (jQ hx.2) _ (jQ hy.2)
end
section
open Go.RowKit
def uw(n m:Nat): Nat:=48+n / 10 ^ (11-m)%10
def jm(n m:Nat): List Nat:=(List.range 12).map (fun j=>if j < m then 0 else uw n j)
def Bg(n:Nat): List Nat:=jm n 0
def bU(pre n:Nat): ByteArray:=bY (pre :: Bg n)
theorem qg(n m:Nat): (jm n m).length=12:=by unfold jm;simp
theorem dZ(pre n:Nat): (bU pre n).size=13:=by unfold bU bY Bg jm;simp[ByteArray.size]
theorem Ti(n m:Nat): uw n m < 58:=by unfold uw;omega
theorem Mi(n:Nat): ∀ b ∈ Bg n,b < 256:=by
 intro b hb
 unfold Bg jm at hb
 obtain⟨j,-,rfl⟩:=List.mem_map.1 hb
 have:=Ti n j
 split<;>omega
theorem Bv(n m i:Nat): (jm n m)[i]? = if i < 12 then some (if i < m then 0 else uw n i) else none:=by
 unfold jm
 rw[List.getElem?_map]
 by_cases h:i < 12
 ·rw[List.getElem?_range h,if_pos h];rfl
 ·rw[List.getElem?_eq_none (by simp;omega),if_neg h];rfl
theorem Fh(n m i:Nat)(hi:i < 12): ∃ b:Nat,(((jm n m).map V.aI).toArray)[i]? = some (.int .u8 (b:Nat)):=by
 rw[List.getElem?_toArray,List.getElem?_map,Bv,if_pos hi]
 exact⟨_,rfl⟩
theorem qP(n:Nat): ((jm n 12).map V.aI).toArray=#[.int .u8 0,.int .u8 0,.int .u8 0,.int .u8 0,.int .u8 0,.int .u8 0,.int .u8 0,.int .u8 0,.int .u8 0,.int .u8 0,.int .u8 0,.int .u8 0]:=by rfl
theorem Hf(n m:Nat)(hm:m < 12)(v:Value)(hv:v=.int .u8 (uw n m:Nat)): (((jm n (m+1)).map V.aI).toArray).setIfInBounds m v=((jm n m).map V.aI).toArray:=by
 subst hv
 apply Array.ext_getElem?
 intro i
 rw[Array.getElem?_setIfInBounds,List.getElem?_toArray,List.getElem?_toArray,List.getElem?_map,List.getElem?_map,Bv,Bv]
 by_cases e:m=i
 ·subst e
  rw[if_pos rfl,if_pos (by simp[qg];omega),if_pos hm,if_neg (by omega)]
  rfl
 ·rw[if_neg e]
  by_cases h12:i < 12
  ·rw[if_pos h12,if_pos h12]
   by_cases e2:i < m
   ·rw[if_pos (by omega),if_pos e2]
   ·rw[if_neg (by omega),if_neg e2]
  ·rw[if_neg h12,if_neg h12]
theorem EH(n m:Nat)(hm:m < 12): n / 10 ^ (12-(m+1)) / 10=n / 10 ^ (12-m):=by
 rw[Nat.div_div_eq_div_mul,show 12-m=12-(m+1)+1 by omega,Nat.pow_succ]
theorem Oy{pre n k:Nat}(hp:pre < 256)(hn:n < 10000)(hk:k < 10000)(h:bU pre n=bU pre k): n=k:=by
 have hb:∀ n,∀ j,(pre :: Bg n).getD j 0 < 256:=fun n=>V.bW (fun b hb=>by
  rcases List.mem_cons.1 hb with rfl | hb
  ·exact hp
  ·exact Mi n b hb)
 have h2:=PU (hb n) (hb k) h
 have h3:∀ j,j < 12→uw n j=uw k j:=fun j hj=>by
  have h4:=congrArg (fun l=>l[j+1]?) h2
  simp only[List.getElem?_cons_succ] at h4
  unfold Bg jm at h4
  simp only[List.getElem?_map,List.getElem?_range hj] at h4
  simpa using h4
 have a0:=h3 11 (by omega)
 have a1:=h3 10 (by omega)
 have a2:=h3 9 (by omega)
 have a3:=h3 8 (by omega)
 unfold uw at a0 a1 a2 a3
 simp at a0 a1 a2 a3
 omega
theorem EU(p:Nat)(l:List Nat)(hp:p < 256): (⟨#[UInt8.ofNat p]⟩:ByteArray) ++ bY l=bY (p :: l):=by
 apply ByteArray.ext
 simp[bY,ByteArray.data_append]
theorem pJ(w:World)(n:Nat)(hn:n < 1000000): Calls Tryz.prog 80 #[.int .i64 (n:Nat)] w fun e w'=>e=.returned (.string (bU 119 n))∧Below w.heap.size w w':=by
 obtain⟨x,hx⟩:∃ x,x=w.heap.size:=⟨_,rfl⟩
 have o0:=Own.eX w hx 244 ((jm n 12).map V.aI).toArray
 rw[qP] at o0
 have HO:=zh (zN hx o0)
 clear o0
 go_enter Tryz.func80,Tryz.ntmps80
 go_wp2_with fail
 rw[←hx]
 clear hx
 go_loopw [0,4] (fun s0 i wr=>∃ m cur:Nat,m≤12∧i=.int .i64 ((m:Int)-1)∧s0=.int .i64 (cur:Nat)∧cur < 1000000∧cur=n / 10 ^ (12-m)∧Own w [(x,244,((jm n m).map V.aI).toArray)] wr) (fun _ i _=>(intOf i+1).toNat)
 case atStart=>exact ⟨12,n,by omega,rfl,rfl,hn,by simp,by rw[qP];exact HO.out.2⟩
 case round=>
  obtain⟨m,cur,hm,rfl,rfl,hcl,hcur,hbel⟩:=hrel
  have HC:=zh hcur
  clear hcur
  rcases Nat.eq_zero_or_pos m with hm0 | hm0
  ·subst hm0
   have hsl:=V.EY (hbel.get 0 rfl)
   rw[qg] at hsl
   have hcv:=nN (P:=Tryz.prog) (c:=12) 72 5 9 Tryz.underlying72 Tryz.underlying5 Tryz.underlying9 (bs:=jm n 0) (qg n 0) hsl
   have HB:=zh hbel
   clear hbel hsl
   go_wp2_with fail
   go_ret
   exact⟨congrArg (fun b=>Ending.returned (.string b)) (EU 119 (jm n 0) (by omega)),HB.out.bel⟩
  ·obtain ⟨m,rfl⟩:∃ m',m=m'+1:=⟨m-1,by omega⟩
   have e0:(((m+1:Nat):Int)-1)=(m:Int):=by omega
   have hlt:m < 12:=by omega
   rw[e0]
   obtain⟨b0,hb0⟩:=Fh n (m+1) m hlt
   have z0:wr.cell? ⟨x,m,none⟩=some (.int .u8 (b0:Nat)):=((hbel.get 0 rfl).cell m).trans hb0
   clear hb0
   have zf:=hbel.free 0 rfl
   have HB:=zh hbel
   clear hbel e0
   go_wp2_with fail
   go_roundw
   case rel=>
    refine⟨m,cur / 10,by omega,rfl,by go_num,by omega,?_,?_⟩
    ·rw[HC.out];exact EH n m hlt
    ·have h1:=HB.out.set 0 m rfl (.int .u8 (48+(cur:Int)%10))
     have h2:(48+(cur:Int)%10)=((uw n m:Nat):Int):=by
      unfold uw
      rw[show 11-m=12-(m+1) by omega,←HC.out]
      omega
     rw[Hf n m hlt _ (by rw[h2])] at h1
     exact h1
   case measure=>simp[intOf]
end
section
open Go.RowKit
theorem Kn(w:World)(n:Nat)(hn:n < 1000000): Calls Tryz.prog 153 #[.string ⟨#[115]⟩,.int .i64 (n:Nat)] w fun e w'=>e=.returned (.string (bU 115 n))∧Below w.heap.size w w':=by
 obtain⟨x,hx⟩:∃ x,x=w.heap.size:=⟨_,rfl⟩
 have o0:=Own.eX w hx 5 ((jm n 12).map V.aI).toArray
 rw[qP] at o0
 have HO:=zh (zN hx o0)
 clear o0
 have hmk:(Instr.makeSlice 72 (.int .i64 12) (.int .i64 12)).run Tryz.prog w=.ok (.slice (some ⟨w.heap.size,0,none⟩) 12 12) (w.alloc (.cells #[.int .u8 0,.int .u8 0,.int .u8 0,.int .u8 0,.int .u8 0,.int .u8 0,.int .u8 0,.int .u8 0,.int .u8 0,.int .u8 0,.int .u8 0,.int .u8 0] 5)):=by
  obtain⟨ht,-,i,hi,hz,hs1,hby⟩:=V.byteElem
  have h:=run_makeSlice (P:=Tryz.prog) w 72 5 i (.int .u8 0) ht hi hz .i64 .i64 12 12 (by omega) (by omega) (by rw[hs1];decide) (by rw[hby];decide) (by omega)
  rw[hs1] at h
  have e:madeCells (Value.int .u8 0).cells (Int.toNat 12*1)=#[.int .u8 0,.int .u8 0,.int .u8 0,.int .u8 0,.int .u8 0,.int .u8 0,.int .u8 0,.int .u8 0,.int .u8 0,.int .u8 0,.int .u8 0,.int .u8 0]:=by kernel_rfl
  rw[e] at h
  exact h
 go_enter Tryz.func153,Tryz.ntmps153
 go_wp2_with fail
 rw[←hx]
 clear hx
 go_loopw [1,6] (fun s0 i wr=>∃ m cur:Nat,m≤12∧i=.int .i64 ((m:Int)-1)∧s0=.int .i64 (cur:Nat)∧cur < 1000000∧cur=n / 10 ^ (12-m)∧Own w [(x,5,((jm n m).map V.aI).toArray)] wr) (fun _ i _=>(intOf i+1).toNat)
 case atStart=>exact ⟨12,n,by omega,rfl,rfl,hn,by simp,by rw[qP];exact HO.out.2⟩
 case round=>
  obtain⟨m,cur,hm,rfl,rfl,hcl,hcur,hbel⟩:=hrel
  have HC:=zh hcur
  clear hcur
  rcases Nat.eq_zero_or_pos m with hm0 | hm0
  ·subst hm0
   have hsl:=V.EY (hbel.get 0 rfl)
   rw[qg] at hsl
   have hcv:=nN (P:=Tryz.prog) (c:=12) 72 5 9 Tryz.underlying72 Tryz.underlying5 Tryz.underlying9 (bs:=jm n 0) (qg n 0) hsl
   have HB:=zh hbel
   clear hbel hsl
   go_wp2_with fail
   go_ret
   exact⟨congrArg (fun b=>Ending.returned (.string b)) (EU 115 (jm n 0) (by omega)),HB.out.bel⟩
  ·obtain ⟨m,rfl⟩:∃ m',m=m'+1:=⟨m-1,by omega⟩
   have e0:(((m+1:Nat):Int)-1)=(m:Int):=by omega
   have hlt:m < 12:=by omega
   rw[e0]
   obtain⟨b0,hb0⟩:=Fh n (m+1) m hlt
   have z0:wr.cell? ⟨x,m,none⟩=some (.int .u8 (b0:Nat)):=((hbel.get 0 rfl).cell m).trans hb0
   clear hb0
   have zf:=hbel.free 0 rfl
   have HB:=zh hbel
   clear hbel e0
   go_wp2_with fail
   go_roundw
   case rel=>
    refine⟨m,cur / 10,by omega,rfl,by go_num,by omega,?_,?_⟩
    ·rw[HC.out];exact EH n m hlt
    ·have h1:=HB.out.set 0 m rfl (.int .u8 (48+(cur:Int)%10))
     have h2:(48+(cur:Int)%10)=((uw n m:Nat):Int):=by
      unfold uw
      rw[show 11-m=12-(m+1) by omega,←HC.out]
      omega
     rw[Hf n m hlt _ (by rw[h2])] at h1
     exact h1
   case measure=>simp[intOf]
end
end Go.Proofs.YtmffkpkgbdcnjaaGreatDoor
