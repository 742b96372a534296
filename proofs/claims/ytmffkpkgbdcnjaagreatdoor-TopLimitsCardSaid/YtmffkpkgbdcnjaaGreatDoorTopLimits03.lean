/-
  Texts of this proof, joined.
-/
import Derived.Test.YtmffkpkgbdcnjaaGreatDoorTopLimits02
import Derived.Test.YtmffkpkgbdcnjaaGreatDoorTopLimits01
import Derived.Deep.LoopGhost
set_option linter.unusedVariables false
set_option linter.unusedSimpArgs false
set_option maxRecDepth 100000
set_option maxHeartbeats 20000000
namespace Go.Proofs.YtmffkpkgbdcnjaaGreatDoor
namespace F
open Go.RowKit
theorem bE(w:World)(gu gb:Nat)(A:Option Addr)(len c:Nat)(D:Nat→Prop)(bs:List Nat)(i m:Nat)(z:Int)(hz:z=(i:Nat))(hl:bs.length=len)(hsl:Sl w D A len (aD bs))(hb:∀ j,bs.getD j 0 < 256)(hi:i < m)(hm:m≤len)(hm8:m≤8)(hu:au w gu 50 #[.int .u64 (bS bs (i+1) m:Nat)])(hbb:au w gb 72 #[.slice A len c]):
  Calls Tryz.prog 343 #[.int .i64 z,.pointer (some ⟨gu,0,none⟩),.pointer (some ⟨gb,0,none⟩)] w fun e w'=>e=.returned (.tuple #[])∧SX w gu gb A len c (bS bs i m) w':=by
 subst hz
 exact OX w gu gb A len c D bs i m hl hsl hb hi hm hm8 hu hbb
def jr(w:World)(u:Nat)(e:Ending)(w':World): Prop:=e=.returned (.int .u64 (u:Nat))∧Keeps (fun _=>False) w w'
theorem iW(bs:List Nat)(m:Nat): bS bs m m=0:=by
 unfold bS
 rw[List.drop_eq_nil_of_le (by simp;omega)]
 show _*0=0
 omega
theorem Qs(w:World)(A:Option Addr)(c:Nat)(D:Nat→Prop)(bs:List Nat)(hl:bs.length=0)(hsl:Sl w D A 0 (aD bs))(hb:∀ j,bs.getD j 0 < 256):
  Calls Tryz.prog 293 #[.slice A 0 c] w (jr w (bS bs 0 0)):=by
 have HS:=zh (zN hl (zN hsl hb))
 clear hl hsl hb
 go_enter Tryz.func293,Tryz.ntmps293
 go_wp2_with fail
 go_ret
 have k0:Keeps (fun _=>False) w ((w.alloc (.cells #[.slice A 0 c] 72)).alloc (.cells #[.int .u64 0] 50)):=((Keeps.refl _ w).alloc _).alloc _
 exact⟨rfl,k0⟩
theorem PY(w:World)(A:Option Addr)(c:Nat)(D:Nat→Prop)(bs:List Nat)(hl:bs.length=1)(hsl:Sl w D A 1 (aD bs))(hb:∀ j,bs.getD j 0 < 256):
  Calls Tryz.prog 293 #[.slice A 1 c] w (jr w (bS bs 0 1)):=by
 have HS:=zh (zN hl (zN hsl hb))
 clear hl hsl hb
 go_enter Tryz.func293,Tryz.ntmps293
 go_wp2_with fail
 obtain⟨x,hx⟩:∃ x,x=w.heap.size:=⟨_,rfl⟩
 have k0:Keeps (fun _=>False) w ((w.alloc (.cells #[.slice A 1 c] 72)).alloc (.cells #[.int .u64 0] 50)):=((Keeps.refl _ w).alloc _).alloc _
 have bb0:au ((w.alloc (.cells #[.slice A 1 c] 72)).alloc (.cells #[.int .u64 0] 50)) x 72 #[.slice A 1 c]:=by rw[hx];exact (au.fresh w _ _).alloc _
 have bu0:au ((w.alloc (.cells #[.slice A 1 c] 72)).alloc (.cells #[.int .u64 0] 50)) (x+1) 50 #[.int .u64 (bS bs 1 1:Nat)]:=by
  rw[hx,iW]
  have h:=au.fresh (w.alloc (.cells #[.slice A 1 c] 72)) 50 #[.int .u64 0]
  simpa using h
 have s0:=HS.out.2.1.keep (w':=((w.alloc (.cells #[.slice A 1 c] 72)).alloc (.cells #[.int .u64 0] 50))) (fun q _ hq=>k0.block q hq (fun h=>h))
 generalize ((w.alloc (.cells #[.slice A 1 c] 72)).alloc (.cells #[.int .u64 0] 50))=w0 at k0 bb0 bu0 s0 ⊢
 rw[←hx]
 have hxw:w.heap.size≤x:=by omega
 have H0:=zh (zN k0 (zN bb0 (zN bu0 s0)))
 clear k0 bb0 bu0 s0 hx
 refine(bE w0 (x+1) x A 1 c _ bs 0 1 0 rfl HS.out.1 H0.out.2.2.2 HS.out.2.2 (by omega) (by omega) (by omega) H0.out.2.2.1 H0.out.2.1).mono ?_
 rintro e w1 ⟨rfl,hu,hbb,hk⟩
 have H1:=zh (zN (H0.out.1.trans hk (fun y hy e=>by omega)) (zN hbb (zN hu (HS.out.2.1.keep (w':=w1) (fun q _ hq=>(H0.out.1.trans hk (T:=fun k=>k=x+1) (S:=fun _=>False) (fun y hy e=>by omega)).block q hq (fun h=>h))))))
 clear hu hbb hk
 have c0:=H1.out.2.2.1.cell 0
 simp at c0
 go_wp2_with fail
 go_ret
 exact⟨rfl,H1.out.1⟩
theorem Od(w:World)(A:Option Addr)(c:Nat)(D:Nat→Prop)(bs:List Nat)(hl:bs.length=2)(hsl:Sl w D A 2 (aD bs))(hb:∀ j,bs.getD j 0 < 256):
  Calls Tryz.prog 293 #[.slice A 2 c] w (jr w (bS bs 0 2)):=by
 have HS:=zh (zN hl (zN hsl hb))
 clear hl hsl hb
 go_enter Tryz.func293,Tryz.ntmps293
 go_wp2_with fail
 obtain⟨x,hx⟩:∃ x,x=w.heap.size:=⟨_,rfl⟩
 have k0:Keeps (fun _=>False) w ((w.alloc (.cells #[.slice A 2 c] 72)).alloc (.cells #[.int .u64 0] 50)):=((Keeps.refl _ w).alloc _).alloc _
 have bb0:au ((w.alloc (.cells #[.slice A 2 c] 72)).alloc (.cells #[.int .u64 0] 50)) x 72 #[.slice A 2 c]:=by rw[hx];exact (au.fresh w _ _).alloc _
 have bu0:au ((w.alloc (.cells #[.slice A 2 c] 72)).alloc (.cells #[.int .u64 0] 50)) (x+1) 50 #[.int .u64 (bS bs 2 2:Nat)]:=by
  rw[hx,iW]
  have h:=au.fresh (w.alloc (.cells #[.slice A 2 c] 72)) 50 #[.int .u64 0]
  simpa using h
 have s0:=HS.out.2.1.keep (w':=((w.alloc (.cells #[.slice A 2 c] 72)).alloc (.cells #[.int .u64 0] 50))) (fun q _ hq=>k0.block q hq (fun h=>h))
 generalize ((w.alloc (.cells #[.slice A 2 c] 72)).alloc (.cells #[.int .u64 0] 50))=w0 at k0 bb0 bu0 s0 ⊢
 rw[←hx]
 have hxw:w.heap.size≤x:=by omega
 have H0:=zh (zN k0 (zN bb0 (zN bu0 s0)))
 clear k0 bb0 bu0 s0 hx
 refine(bE w0 (x+1) x A 2 c _ bs 1 2 1 rfl HS.out.1 H0.out.2.2.2 HS.out.2.2 (by omega) (by omega) (by omega) H0.out.2.2.1 H0.out.2.1).mono ?_
 rintro e w1 ⟨rfl,hu,hbb,hk⟩
 have H1:=zh (zN (H0.out.1.trans hk (fun y hy e=>by omega)) (zN hbb (zN hu (HS.out.2.1.keep (w':=w1) (fun q _ hq=>(H0.out.1.trans hk (T:=fun k=>k=x+1) (S:=fun _=>False) (fun y hy e=>by omega)).block q hq (fun h=>h))))))
 clear hu hbb hk
 go_wp2_with fail
 refine(bE w1 (x+1) x A 2 c _ bs 0 2 0 rfl HS.out.1 H1.out.2.2.2 HS.out.2.2 (by omega) (by omega) (by omega) H1.out.2.2.1 H1.out.2.1).mono ?_
 rintro e w2 ⟨rfl,hu,hbb,hk⟩
 have H2:=zh (zN (H1.out.1.trans hk (fun y hy e=>by omega)) (zN hbb (zN hu (HS.out.2.1.keep (w':=w2) (fun q _ hq=>(H1.out.1.trans hk (T:=fun k=>k=x+1) (S:=fun _=>False) (fun y hy e=>by omega)).block q hq (fun h=>h))))))
 clear hu hbb hk
 have c0:=H2.out.2.2.1.cell 0
 simp at c0
 go_wp2_with fail
 go_ret
 exact⟨rfl,H2.out.1⟩
theorem PW(w:World)(A:Option Addr)(c:Nat)(D:Nat→Prop)(bs:List Nat)(hl:bs.length=3)(hsl:Sl w D A 3 (aD bs))(hb:∀ j,bs.getD j 0 < 256):
  Calls Tryz.prog 293 #[.slice A 3 c] w (jr w (bS bs 0 3)):=by
 have HS:=zh (zN hl (zN hsl hb))
 clear hl hsl hb
 go_enter Tryz.func293,Tryz.ntmps293
 go_wp2_with fail
 obtain⟨x,hx⟩:∃ x,x=w.heap.size:=⟨_,rfl⟩
 have k0:Keeps (fun _=>False) w ((w.alloc (.cells #[.slice A 3 c] 72)).alloc (.cells #[.int .u64 0] 50)):=((Keeps.refl _ w).alloc _).alloc _
 have bb0:au ((w.alloc (.cells #[.slice A 3 c] 72)).alloc (.cells #[.int .u64 0] 50)) x 72 #[.slice A 3 c]:=by rw[hx];exact (au.fresh w _ _).alloc _
 have bu0:au ((w.alloc (.cells #[.slice A 3 c] 72)).alloc (.cells #[.int .u64 0] 50)) (x+1) 50 #[.int .u64 (bS bs 3 3:Nat)]:=by
  rw[hx,iW]
  have h:=au.fresh (w.alloc (.cells #[.slice A 3 c] 72)) 50 #[.int .u64 0]
  simpa using h
 have s0:=HS.out.2.1.keep (w':=((w.alloc (.cells #[.slice A 3 c] 72)).alloc (.cells #[.int .u64 0] 50))) (fun q _ hq=>k0.block q hq (fun h=>h))
 generalize ((w.alloc (.cells #[.slice A 3 c] 72)).alloc (.cells #[.int .u64 0] 50))=w0 at k0 bb0 bu0 s0 ⊢
 rw[←hx]
 have hxw:w.heap.size≤x:=by omega
 have H0:=zh (zN k0 (zN bb0 (zN bu0 s0)))
 clear k0 bb0 bu0 s0 hx
 refine(bE w0 (x+1) x A 3 c _ bs 2 3 2 rfl HS.out.1 H0.out.2.2.2 HS.out.2.2 (by omega) (by omega) (by omega) H0.out.2.2.1 H0.out.2.1).mono ?_
 rintro e w1 ⟨rfl,hu,hbb,hk⟩
 have H1:=zh (zN (H0.out.1.trans hk (fun y hy e=>by omega)) (zN hbb (zN hu (HS.out.2.1.keep (w':=w1) (fun q _ hq=>(H0.out.1.trans hk (T:=fun k=>k=x+1) (S:=fun _=>False) (fun y hy e=>by omega)).block q hq (fun h=>h))))))
 clear hu hbb hk
 go_wp2_with fail
 refine(bE w1 (x+1) x A 3 c _ bs 1 3 1 rfl HS.out.1 H1.out.2.2.2 HS.out.2.2 (by omega) (by omega) (by omega) H1.out.2.2.1 H1.out.2.1).mono ?_
 rintro e w2 ⟨rfl,hu,hbb,hk⟩
 have H2:=zh (zN (H1.out.1.trans hk (fun y hy e=>by omega)) (zN hbb (zN hu (HS.out.2.1.keep (w':=w2) (fun q _ hq=>(H1.out.1.trans hk (T:=fun k=>k=x+1) (S:=fun _=>False) (fun y hy e=>by omega)).block q hq (fun h=>h))))))
 clear hu hbb hk
 go_wp2_with fail
 refine(bE w2 (x+1) x A 3 c _ bs 0 3 0 rfl HS.out.1 H2.out.2.2.2 HS.out.2.2 (by omega) (by omega) (by omega) H2.out.2.2.1 H2.out.2.1).mono ?_
 rintro e w3 ⟨rfl,hu,hbb,hk⟩
 have H3:=zh (zN (H2.out.1.trans hk (fun y hy e=>by omega)) (zN hbb (zN hu (HS.out.2.1.keep (w':=w3) (fun q _ hq=>(H2.out.1.trans hk (T:=fun k=>k=x+1) (S:=fun _=>False) (fun y hy e=>by omega)).block q hq (fun h=>h))))))
 clear hu hbb hk
 have c0:=H3.out.2.2.1.cell 0
 simp at c0
 go_wp2_with fail
 go_ret
 exact⟨rfl,H3.out.1⟩
theorem Ql(w:World)(A:Option Addr)(c:Nat)(D:Nat→Prop)(bs:List Nat)(hl:bs.length=4)(hsl:Sl w D A 4 (aD bs))(hb:∀ j,bs.getD j 0 < 256):
  Calls Tryz.prog 293 #[.slice A 4 c] w (jr w (bS bs 0 4)):=by
 have HS:=zh (zN hl (zN hsl hb))
 clear hl hsl hb
 go_enter Tryz.func293,Tryz.ntmps293
 go_wp2_with fail
 obtain⟨x,hx⟩:∃ x,x=w.heap.size:=⟨_,rfl⟩
 have k0:Keeps (fun _=>False) w ((w.alloc (.cells #[.slice A 4 c] 72)).alloc (.cells #[.int .u64 0] 50)):=((Keeps.refl _ w).alloc _).alloc _
 have bb0:au ((w.alloc (.cells #[.slice A 4 c] 72)).alloc (.cells #[.int .u64 0] 50)) x 72 #[.slice A 4 c]:=by rw[hx];exact (au.fresh w _ _).alloc _
 have bu0:au ((w.alloc (.cells #[.slice A 4 c] 72)).alloc (.cells #[.int .u64 0] 50)) (x+1) 50 #[.int .u64 (bS bs 4 4:Nat)]:=by
  rw[hx,iW]
  have h:=au.fresh (w.alloc (.cells #[.slice A 4 c] 72)) 50 #[.int .u64 0]
  simpa using h
 have s0:=HS.out.2.1.keep (w':=((w.alloc (.cells #[.slice A 4 c] 72)).alloc (.cells #[.int .u64 0] 50))) (fun q _ hq=>k0.block q hq (fun h=>h))
 generalize ((w.alloc (.cells #[.slice A 4 c] 72)).alloc (.cells #[.int .u64 0] 50))=w0 at k0 bb0 bu0 s0 ⊢
 rw[←hx]
 have hxw:w.heap.size≤x:=by omega
 have H0:=zh (zN k0 (zN bb0 (zN bu0 s0)))
 clear k0 bb0 bu0 s0 hx
 refine(bE w0 (x+1) x A 4 c _ bs 3 4 3 rfl HS.out.1 H0.out.2.2.2 HS.out.2.2 (by omega) (by omega) (by omega) H0.out.2.2.1 H0.out.2.1).mono ?_
 rintro e w1 ⟨rfl,hu,hbb,hk⟩
 have H1:=zh (zN (H0.out.1.trans hk (fun y hy e=>by omega)) (zN hbb (zN hu (HS.out.2.1.keep (w':=w1) (fun q _ hq=>(H0.out.1.trans hk (T:=fun k=>k=x+1) (S:=fun _=>False) (fun y hy e=>by omega)).block q hq (fun h=>h))))))
 clear hu hbb hk
 go_wp2_with fail
 refine(bE w1 (x+1) x A 4 c _ bs 2 4 2 rfl HS.out.1 H1.out.2.2.2 HS.out.2.2 (by omega) (by omega) (by omega) H1.out.2.2.1 H1.out.2.1).mono ?_
 rintro e w2 ⟨rfl,hu,hbb,hk⟩
 have H2:=zh (zN (H1.out.1.trans hk (fun y hy e=>by omega)) (zN hbb (zN hu (HS.out.2.1.keep (w':=w2) (fun q _ hq=>(H1.out.1.trans hk (T:=fun k=>k=x+1) (S:=fun _=>False) (fun y hy e=>by omega)).block q hq (fun h=>h))))))
 clear hu hbb hk
 go_wp2_with fail
 refine(bE w2 (x+1) x A 4 c _ bs 1 4 1 rfl HS.out.1 H2.out.2.2.2 HS.out.2.2 (by omega) (by omega) (by omega) H2.out.2.2.1 H2.out.2.1).mono ?_
 rintro e w3 ⟨rfl,hu,hbb,hk⟩
 have H3:=zh (zN (H2.out.1.trans hk (fun y hy e=>by omega)) (zN hbb (zN hu (HS.out.2.1.keep (w':=w3) (fun q _ hq=>(H2.out.1.trans hk (T:=fun k=>k=x+1) (S:=fun _=>False) (fun y hy e=>by omega)).block q hq (fun h=>h))))))
 clear hu hbb hk
 go_wp2_with fail
 refine(bE w3 (x+1) x A 4 c _ bs 0 4 0 rfl HS.out.1 H3.out.2.2.2 HS.out.2.2 (by omega) (by omega) (by omega) H3.out.2.2.1 H3.out.2.1).mono ?_
 rintro e w4 ⟨rfl,hu,hbb,hk⟩
 have H4:=zh (zN (H3.out.1.trans hk (fun y hy e=>by omega)) (zN hbb (zN hu (HS.out.2.1.keep (w':=w4) (fun q _ hq=>(H3.out.1.trans hk (T:=fun k=>k=x+1) (S:=fun _=>False) (fun y hy e=>by omega)).block q hq (fun h=>h))))))
 clear hu hbb hk
 have c0:=H4.out.2.2.1.cell 0
 simp at c0
 go_wp2_with fail
 go_ret
 exact⟨rfl,H4.out.1⟩
theorem Oa(w:World)(A:Option Addr)(c:Nat)(D:Nat→Prop)(bs:List Nat)(hl:bs.length=5)(hsl:Sl w D A 5 (aD bs))(hb:∀ j,bs.getD j 0 < 256):
  Calls Tryz.prog 293 #[.slice A 5 c] w (jr w (bS bs 0 5)):=by
 have HS:=zh (zN hl (zN hsl hb))
 clear hl hsl hb
 go_enter Tryz.func293,Tryz.ntmps293
 go_wp2_with fail
 obtain⟨x,hx⟩:∃ x,x=w.heap.size:=⟨_,rfl⟩
 have k0:Keeps (fun _=>False) w ((w.alloc (.cells #[.slice A 5 c] 72)).alloc (.cells #[.int .u64 0] 50)):=((Keeps.refl _ w).alloc _).alloc _
 have bb0:au ((w.alloc (.cells #[.slice A 5 c] 72)).alloc (.cells #[.int .u64 0] 50)) x 72 #[.slice A 5 c]:=by rw[hx];exact (au.fresh w _ _).alloc _
 have bu0:au ((w.alloc (.cells #[.slice A 5 c] 72)).alloc (.cells #[.int .u64 0] 50)) (x+1) 50 #[.int .u64 (bS bs 5 5:Nat)]:=by
  rw[hx,iW]
  have h:=au.fresh (w.alloc (.cells #[.slice A 5 c] 72)) 50 #[.int .u64 0]
  simpa using h
 have s0:=HS.out.2.1.keep (w':=((w.alloc (.cells #[.slice A 5 c] 72)).alloc (.cells #[.int .u64 0] 50))) (fun q _ hq=>k0.block q hq (fun h=>h))
 generalize ((w.alloc (.cells #[.slice A 5 c] 72)).alloc (.cells #[.int .u64 0] 50))=w0 at k0 bb0 bu0 s0 ⊢
 rw[←hx]
 have hxw:w.heap.size≤x:=by omega
 have H0:=zh (zN k0 (zN bb0 (zN bu0 s0)))
 clear k0 bb0 bu0 s0 hx
 refine(bE w0 (x+1) x A 5 c _ bs 4 5 4 rfl HS.out.1 H0.out.2.2.2 HS.out.2.2 (by omega) (by omega) (by omega) H0.out.2.2.1 H0.out.2.1).mono ?_
 rintro e w1 ⟨rfl,hu,hbb,hk⟩
 have H1:=zh (zN (H0.out.1.trans hk (fun y hy e=>by omega)) (zN hbb (zN hu (HS.out.2.1.keep (w':=w1) (fun q _ hq=>(H0.out.1.trans hk (T:=fun k=>k=x+1) (S:=fun _=>False) (fun y hy e=>by omega)).block q hq (fun h=>h))))))
 clear hu hbb hk
 go_wp2_with fail
 refine(bE w1 (x+1) x A 5 c _ bs 3 5 3 rfl HS.out.1 H1.out.2.2.2 HS.out.2.2 (by omega) (by omega) (by omega) H1.out.2.2.1 H1.out.2.1).mono ?_
 rintro e w2 ⟨rfl,hu,hbb,hk⟩
 have H2:=zh (zN (H1.out.1.trans hk (fun y hy e=>by omega)) (zN hbb (zN hu (HS.out.2.1.keep (w':=w2) (fun q _ hq=>(H1.out.1.trans hk (T:=fun k=>k=x+1) (S:=fun _=>False) (fun y hy e=>by omega)).block q hq (fun h=>h))))))
 clear hu hbb hk
 go_wp2_with fail
 refine(bE w2 (x+1) x A 5 c _ bs 2 5 2 rfl HS.out.1 H2.out.2.2.2 HS.out.2.2 (by omega) (by omega) (by omega) H2.out.2.2.1 H2.out.2.1).mono ?_
 rintro e w3 ⟨rfl,hu,hbb,hk⟩
 have H3:=zh (zN (H2.out.1.trans hk (fun y hy e=>by omega)) (zN hbb (zN hu (HS.out.2.1.keep (w':=w3) (fun q _ hq=>(H2.out.1.trans hk (T:=fun k=>k=x+1) (S:=fun _=>False) (fun y hy e=>by omega)).block q hq (fun h=>h))))))
 clear hu hbb hk
 go_wp2_with fail
 refine(bE w3 (x+1) x A 5 c _ bs 1 5 1 rfl HS.out.1 H3.out.2.2.2 HS.out.2.2 (by omega) (by omega) (by omega) H3.out.2.2.1 H3.out.2.1).mono ?_
 rintro e w4 ⟨rfl,hu,hbb,hk⟩
 have H4:=zh (zN (H3.out.1.trans hk (fun y hy e=>by omega)) (zN hbb (zN hu (HS.out.2.1.keep (w':=w4) (fun q _ hq=>(H3.out.1.trans hk (T:=fun k=>k=x+1) (S:=fun _=>False) (fun y hy e=>by omega)).block q hq (fun h=>h))))))
 clear hu hbb hk
 go_wp2_with fail
 refine(bE w4 (x+1) x A 5 c _ bs 0 5 0 rfl HS.out.1 H4.out.2.2.2 HS.out.2.2 (by omega) (by omega) (by omega) H4.out.2.2.1 H4.out.2.1).mono ?_
 rintro e w5 ⟨rfl,hu,hbb,hk⟩
 have H5:=zh (zN (H4.out.1.trans hk (fun y hy e=>by omega)) (zN hbb (zN hu (HS.out.2.1.keep (w':=w5) (fun q _ hq=>(H4.out.1.trans hk (T:=fun k=>k=x+1) (S:=fun _=>False) (fun y hy e=>by omega)).block q hq (fun h=>h))))))
 clear hu hbb hk
 have c0:=H5.out.2.2.1.cell 0
 simp at c0
 go_wp2_with fail
 go_ret
 exact⟨rfl,H5.out.1⟩
theorem Oh(w:World)(A:Option Addr)(c:Nat)(D:Nat→Prop)(bs:List Nat)(hl:bs.length=6)(hsl:Sl w D A 6 (aD bs))(hb:∀ j,bs.getD j 0 < 256):
  Calls Tryz.prog 293 #[.slice A 6 c] w (jr w (bS bs 0 6)):=by
 have HS:=zh (zN hl (zN hsl hb))
 clear hl hsl hb
 go_enter Tryz.func293,Tryz.ntmps293
 go_wp2_with fail
 obtain⟨x,hx⟩:∃ x,x=w.heap.size:=⟨_,rfl⟩
 have k0:Keeps (fun _=>False) w ((w.alloc (.cells #[.slice A 6 c] 72)).alloc (.cells #[.int .u64 0] 50)):=((Keeps.refl _ w).alloc _).alloc _
 have bb0:au ((w.alloc (.cells #[.slice A 6 c] 72)).alloc (.cells #[.int .u64 0] 50)) x 72 #[.slice A 6 c]:=by rw[hx];exact (au.fresh w _ _).alloc _
 have bu0:au ((w.alloc (.cells #[.slice A 6 c] 72)).alloc (.cells #[.int .u64 0] 50)) (x+1) 50 #[.int .u64 (bS bs 6 6:Nat)]:=by
  rw[hx,iW]
  have h:=au.fresh (w.alloc (.cells #[.slice A 6 c] 72)) 50 #[.int .u64 0]
  simpa using h
 have s0:=HS.out.2.1.keep (w':=((w.alloc (.cells #[.slice A 6 c] 72)).alloc (.cells #[.int .u64 0] 50))) (fun q _ hq=>k0.block q hq (fun h=>h))
 generalize ((w.alloc (.cells #[.slice A 6 c] 72)).alloc (.cells #[.int .u64 0] 50))=w0 at k0 bb0 bu0 s0 ⊢
 rw[←hx]
 have hxw:w.heap.size≤x:=by omega
 have H0:=zh (zN k0 (zN bb0 (zN bu0 s0)))
 clear k0 bb0 bu0 s0 hx
 refine(bE w0 (x+1) x A 6 c _ bs 5 6 5 rfl HS.out.1 H0.out.2.2.2 HS.out.2.2 (by omega) (by omega) (by omega) H0.out.2.2.1 H0.out.2.1).mono ?_
 rintro e w1 ⟨rfl,hu,hbb,hk⟩
 have H1:=zh (zN (H0.out.1.trans hk (fun y hy e=>by omega)) (zN hbb (zN hu (HS.out.2.1.keep (w':=w1) (fun q _ hq=>(H0.out.1.trans hk (T:=fun k=>k=x+1) (S:=fun _=>False) (fun y hy e=>by omega)).block q hq (fun h=>h))))))
 clear hu hbb hk
 go_wp2_with fail
 refine(bE w1 (x+1) x A 6 c _ bs 4 6 4 rfl HS.out.1 H1.out.2.2.2 HS.out.2.2 (by omega) (by omega) (by omega) H1.out.2.2.1 H1.out.2.1).mono ?_
 rintro e w2 ⟨rfl,hu,hbb,hk⟩
 have H2:=zh (zN (H1.out.1.trans hk (fun y hy e=>by omega)) (zN hbb (zN hu (HS.out.2.1.keep (w':=w2) (fun q _ hq=>(H1.out.1.trans hk (T:=fun k=>k=x+1) (S:=fun _=>False) (fun y hy e=>by omega)).block q hq (fun h=>h))))))
 clear hu hbb hk
 go_wp2_with fail
 refine(bE w2 (x+1) x A 6 c _ bs 3 6 3 rfl HS.out.1 H2.out.2.2.2 HS.out.2.2 (by omega) (by omega) (by omega) H2.out.2.2.1 H2.out.2.1).mono ?_
 rintro e w3 ⟨rfl,hu,hbb,hk⟩
 have H3:=zh (zN (H2.out.1.trans hk (fun y hy e=>by omega)) (zN hbb (zN hu (HS.out.2.1.keep (w':=w3) (fun q _ hq=>(H2.out.1.trans hk (T:=fun k=>k=x+1) (S:=fun _=>False) (fun y hy e=>by omega)).block q hq (fun h=>h))))))
 clear hu hbb hk
 go_wp2_with fail
 refine(bE w3 (x+1) x A 6 c _ bs 2 6 2 rfl HS.out.1 H3.out.2.2.2 HS.out.2.2 (by omega) (by omega) (by omega) H3.out.2.2.1 H3.out.2.1).mono ?_
 rintro e w4 ⟨rfl,hu,hbb,hk⟩
 have H4:=zh (zN (H3.out.1.trans hk (fun y hy e=>by omega)) (zN hbb (zN hu (HS.out.2.1.keep (w':=w4) (fun q _ hq=>(H3.out.1.trans hk (T:=fun k=>k=x+1) (S:=fun _=>False) (fun y hy e=>by omega)).block q hq (fun h=>h))))))
 clear hu hbb hk
 go_wp2_with fail
 refine(bE w4 (x+1) x A 6 c _ bs 1 6 1 rfl HS.out.1 H4.out.2.2.2 HS.out.2.2 (by omega) (by omega) (by omega) H4.out.2.2.1 H4.out.2.1).mono ?_
 rintro e w5 ⟨rfl,hu,hbb,hk⟩
 have H5:=zh (zN (H4.out.1.trans hk (fun y hy e=>by omega)) (zN hbb (zN hu (HS.out.2.1.keep (w':=w5) (fun q _ hq=>(H4.out.1.trans hk (T:=fun k=>k=x+1) (S:=fun _=>False) (fun y hy e=>by omega)).block q hq (fun h=>h))))))
 clear hu hbb hk
 go_wp2_with fail
 refine(bE w5 (x+1) x A 6 c _ bs 0 6 0 rfl HS.out.1 H5.out.2.2.2 HS.out.2.2 (by omega) (by omega) (by omega) H5.out.2.2.1 H5.out.2.1).mono ?_
 rintro e w6 ⟨rfl,hu,hbb,hk⟩
 have H6:=zh (zN (H5.out.1.trans hk (fun y hy e=>by omega)) (zN hbb (zN hu (HS.out.2.1.keep (w':=w6) (fun q _ hq=>(H5.out.1.trans hk (T:=fun k=>k=x+1) (S:=fun _=>False) (fun y hy e=>by omega)).block q hq (fun h=>h))))))
 clear hu hbb hk
 have c0:=H6.out.2.2.1.cell 0
 simp at c0
 go_wp2_with fail
 go_ret
 exact⟨rfl,H6.out.1⟩
theorem OQ(w:World)(A:Option Addr)(c:Nat)(D:Nat→Prop)(bs:List Nat)(hl:bs.length=7)(hsl:Sl w D A 7 (aD bs))(hb:∀ j,bs.getD j 0 < 256):
  Calls Tryz.prog 293 #[.slice A 7 c] w (jr w (bS bs 0 7)):=by
 have HS:=zh (zN hl (zN hsl hb))
 clear hl hsl hb
 go_enter Tryz.func293,Tryz.ntmps293
 go_wp2_with fail
 obtain⟨x,hx⟩:∃ x,x=w.heap.size:=⟨_,rfl⟩
 have k0:Keeps (fun _=>False) w ((w.alloc (.cells #[.slice A 7 c] 72)).alloc (.cells #[.int .u64 0] 50)):=((Keeps.refl _ w).alloc _).alloc _
 have bb0:au ((w.alloc (.cells #[.slice A 7 c] 72)).alloc (.cells #[.int .u64 0] 50)) x 72 #[.slice A 7 c]:=by rw[hx];exact (au.fresh w _ _).alloc _
 have bu0:au ((w.alloc (.cells #[.slice A 7 c] 72)).alloc (.cells #[.int .u64 0] 50)) (x+1) 50 #[.int .u64 (bS bs 7 7:Nat)]:=by
  rw[hx,iW]
  have h:=au.fresh (w.alloc (.cells #[.slice A 7 c] 72)) 50 #[.int .u64 0]
  simpa using h
 have s0:=HS.out.2.1.keep (w':=((w.alloc (.cells #[.slice A 7 c] 72)).alloc (.cells #[.int .u64 0] 50))) (fun q _ hq=>k0.block q hq (fun h=>h))
 generalize ((w.alloc (.cells #[.slice A 7 c] 72)).alloc (.cells #[.int .u64 0] 50))=w0 at k0 bb0 bu0 s0 ⊢
 rw[←hx]
 have hxw:w.heap.size≤x:=by omega
 have H0:=zh (zN k0 (zN bb0 (zN bu0 s0)))
 clear k0 bb0 bu0 s0 hx
 refine(bE w0 (x+1) x A 7 c _ bs 6 7 6 rfl HS.out.1 H0.out.2.2.2 HS.out.2.2 (by omega) (by omega) (by omega) H0.out.2.2.1 H0.out.2.1).mono ?_
 rintro e w1 ⟨rfl,hu,hbb,hk⟩
 have H1:=zh (zN (H0.out.1.trans hk (fun y hy e=>by omega)) (zN hbb (zN hu (HS.out.2.1.keep (w':=w1) (fun q _ hq=>(H0.out.1.trans hk (T:=fun k=>k=x+1) (S:=fun _=>False) (fun y hy e=>by omega)).block q hq (fun h=>h))))))
 clear hu hbb hk
 go_wp2_with fail
 refine(bE w1 (x+1) x A 7 c _ bs 5 7 5 rfl HS.out.1 H1.out.2.2.2 HS.out.2.2 (by omega) (by omega) (by omega) H1.out.2.2.1 H1.out.2.1).mono ?_
 rintro e w2 ⟨rfl,hu,hbb,hk⟩
 have H2:=zh (zN (H1.out.1.trans hk (fun y hy e=>by omega)) (zN hbb (zN hu (HS.out.2.1.keep (w':=w2) (fun q _ hq=>(H1.out.1.trans hk (T:=fun k=>k=x+1) (S:=fun _=>False) (fun y hy e=>by omega)).block q hq (fun h=>h))))))
 clear hu hbb hk
 go_wp2_with fail
 refine(bE w2 (x+1) x A 7 c _ bs 4 7 4 rfl HS.out.1 H2.out.2.2.2 HS.out.2.2 (by omega) (by omega) (by omega) H2.out.2.2.1 H2.out.2.1).mono ?_
 rintro e w3 ⟨rfl,hu,hbb,hk⟩
 have H3:=zh (zN (H2.out.1.trans hk (fun y hy e=>by omega)) (zN hbb (zN hu (HS.out.2.1.keep (w':=w3) (fun q _ hq=>(H2.out.1.trans hk (T:=fun k=>k=x+1) (S:=fun _=>False) (fun y hy e=>by omega)).block q hq (fun h=>h))))))
 clear hu hbb hk
 go_wp2_with fail
 refine(bE w3 (x+1) x A 7 c _ bs 3 7 3 rfl HS.out.1 H3.out.2.2.2 HS.out.2.2 (by omega) (by omega) (by omega) H3.out.2.2.1 H3.out.2.1).mono ?_
 rintro e w4 ⟨rfl,hu,hbb,hk⟩
 have H4:=zh (zN (H3.out.1.trans hk (fun y hy e=>by omega)) (zN hbb (zN hu (HS.out.2.1.keep (w':=w4) (fun q _ hq=>(H3.out.1.trans hk (T:=fun k=>k=x+1) (S:=fun _=>False) (fun y hy e=>by omega)).block q hq (fun h=>h))))))
 clear hu hbb hk
 go_wp2_with fail
 refine(bE w4 (x+1) x A 7 c _ bs 2 7 2 rfl HS.out.1 H4.out.2.2.2 HS.out.2.2 (by omega) (by omega) (by omega) H4.out.2.2.1 H4.out.2.1).mono ?_
 rintro e w5 ⟨rfl,hu,hbb,hk⟩
 have H5:=zh (zN (H4.out.1.trans hk (fun y hy e=>by omega)) (zN hbb (zN hu (HS.out.2.1.keep (w':=w5) (fun q _ hq=>(H4.out.1.trans hk (T:=fun k=>k=x+1) (S:=fun _=>False) (fun y hy e=>by omega)).block q hq (fun h=>h))))))
 clear hu hbb hk
 go_wp2_with fail
 refine(bE w5 (x+1) x A 7 c _ bs 1 7 1 rfl HS.out.1 H5.out.2.2.2 HS.out.2.2 (by omega) (by omega) (by omega) H5.out.2.2.1 H5.out.2.1).mono ?_
 rintro e w6 ⟨rfl,hu,hbb,hk⟩
 have H6:=zh (zN (H5.out.1.trans hk (fun y hy e=>by omega)) (zN hbb (zN hu (HS.out.2.1.keep (w':=w6) (fun q _ hq=>(H5.out.1.trans hk (T:=fun k=>k=x+1) (S:=fun _=>False) (fun y hy e=>by omega)).block q hq (fun h=>h))))))
 clear hu hbb hk
 go_wp2_with fail
 refine(bE w6 (x+1) x A 7 c _ bs 0 7 0 rfl HS.out.1 H6.out.2.2.2 HS.out.2.2 (by omega) (by omega) (by omega) H6.out.2.2.1 H6.out.2.1).mono ?_
 rintro e w7 ⟨rfl,hu,hbb,hk⟩
 have H7:=zh (zN (H6.out.1.trans hk (fun y hy e=>by omega)) (zN hbb (zN hu (HS.out.2.1.keep (w':=w7) (fun q _ hq=>(H6.out.1.trans hk (T:=fun k=>k=x+1) (S:=fun _=>False) (fun y hy e=>by omega)).block q hq (fun h=>h))))))
 clear hu hbb hk
 have c0:=H7.out.2.2.1.cell 0
 simp at c0
 go_wp2_with fail
 go_ret
 exact⟨rfl,H7.out.1⟩
theorem NW(w:World)(A:Option Addr)(c:Nat)(D:Nat→Prop)(bs:List Nat)(len:Nat)(hl:bs.length=len)(hlen:8≤len)(hlen2:len≤1099511627776)(hsl:Sl w D A len (aD bs))(hb:∀ j,bs.getD j 0 < 256):
  Calls Tryz.prog 293 #[.slice A len c] w (jr w (bS bs 0 8)):=by
 have HS:=zh (zN hl (zN hsl hb))
 clear hl hsl hb
 have hmi:min (len:Int) 8=8:=by omega
 have hd:decide ((8:Int) < (len:Int))=true∨len=8:=by rcases (show 8 < len∨len=8 by omega) with h | h;exact .inl (by simp;omega);exact .inr h
 clear hd
 go_enter Tryz.func293,Tryz.ntmps293
 go_wp2_with fail
 all_goals
  obtain⟨x,hx⟩:∃ x,x=w.heap.size:=⟨_,rfl⟩
  have k0:Keeps (fun _=>False) w ((w.alloc (.cells #[.slice A len c] 72)).alloc (.cells #[.int .u64 0] 50)):=((Keeps.refl _ w).alloc _).alloc _
  have bb0:au ((w.alloc (.cells #[.slice A len c] 72)).alloc (.cells #[.int .u64 0] 50)) x 72 #[.slice A len c]:=by rw[hx];exact (au.fresh w _ _).alloc _
  have bu0:au ((w.alloc (.cells #[.slice A len c] 72)).alloc (.cells #[.int .u64 0] 50)) (x+1) 50 #[.int .u64 (bS bs 8 8:Nat)]:=by
   rw[hx,iW]
   have h:=au.fresh (w.alloc (.cells #[.slice A len c] 72)) 50 #[.int .u64 0]
   simpa using h
  have s0:=HS.out.2.1.keep (w':=((w.alloc (.cells #[.slice A len c] 72)).alloc (.cells #[.int .u64 0] 50))) (fun q _ hq=>k0.block q hq (fun h=>h))
  generalize ((w.alloc (.cells #[.slice A len c] 72)).alloc (.cells #[.int .u64 0] 50))=w0 at k0 bb0 bu0 s0 ⊢
  rw[←hx]
  have hxw:w.heap.size≤x:=by omega
  have H0:=zh (zN k0 (zN bb0 (zN bu0 s0)))
  clear k0 bb0 bu0 s0 hx
  refine(bE w0 (x+1) x A len c _ bs 7 8 7 rfl HS.out.1 H0.out.2.2.2 HS.out.2.2 (by omega) (by omega) (by omega) H0.out.2.2.1 H0.out.2.1).mono ?_
  rintro e w1 ⟨rfl,hu,hbb,hk⟩
  have H1:=zh (zN (H0.out.1.trans hk (fun y hy e=>by omega)) (zN hbb (zN hu (HS.out.2.1.keep (w':=w1) (fun q _ hq=>(H0.out.1.trans hk (T:=fun k=>k=x+1) (S:=fun _=>False) (fun y hy e=>by omega)).block q hq (fun h=>h))))))
  clear hu hbb hk
  go_wp2_with fail
  refine(bE w1 (x+1) x A len c _ bs 6 8 6 rfl HS.out.1 H1.out.2.2.2 HS.out.2.2 (by omega) (by omega) (by omega) H1.out.2.2.1 H1.out.2.1).mono ?_
  rintro e w2 ⟨rfl,hu,hbb,hk⟩
  have H2:=zh (zN (H1.out.1.trans hk (fun y hy e=>by omega)) (zN hbb (zN hu (HS.out.2.1.keep (w':=w2) (fun q _ hq=>(H1.out.1.trans hk (T:=fun k=>k=x+1) (S:=fun _=>False) (fun y hy e=>by omega)).block q hq (fun h=>h))))))
  clear hu hbb hk
  go_wp2_with fail
  refine(bE w2 (x+1) x A len c _ bs 5 8 5 rfl HS.out.1 H2.out.2.2.2 HS.out.2.2 (by omega) (by omega) (by omega) H2.out.2.2.1 H2.out.2.1).mono ?_
  rintro e w3 ⟨rfl,hu,hbb,hk⟩
  have H3:=zh (zN (H2.out.1.trans hk (fun y hy e=>by omega)) (zN hbb (zN hu (HS.out.2.1.keep (w':=w3) (fun q _ hq=>(H2.out.1.trans hk (T:=fun k=>k=x+1) (S:=fun _=>False) (fun y hy e=>by omega)).block q hq (fun h=>h))))))
  clear hu hbb hk
  go_wp2_with fail
  refine(bE w3 (x+1) x A len c _ bs 4 8 4 rfl HS.out.1 H3.out.2.2.2 HS.out.2.2 (by omega) (by omega) (by omega) H3.out.2.2.1 H3.out.2.1).mono ?_
  rintro e w4 ⟨rfl,hu,hbb,hk⟩
  have H4:=zh (zN (H3.out.1.trans hk (fun y hy e=>by omega)) (zN hbb (zN hu (HS.out.2.1.keep (w':=w4) (fun q _ hq=>(H3.out.1.trans hk (T:=fun k=>k=x+1) (S:=fun _=>False) (fun y hy e=>by omega)).block q hq (fun h=>h))))))
  clear hu hbb hk
  go_wp2_with fail
  refine(bE w4 (x+1) x A len c _ bs 3 8 3 rfl HS.out.1 H4.out.2.2.2 HS.out.2.2 (by omega) (by omega) (by omega) H4.out.2.2.1 H4.out.2.1).mono ?_
  rintro e w5 ⟨rfl,hu,hbb,hk⟩
  have H5:=zh (zN (H4.out.1.trans hk (fun y hy e=>by omega)) (zN hbb (zN hu (HS.out.2.1.keep (w':=w5) (fun q _ hq=>(H4.out.1.trans hk (T:=fun k=>k=x+1) (S:=fun _=>False) (fun y hy e=>by omega)).block q hq (fun h=>h))))))
  clear hu hbb hk
  go_wp2_with fail
  refine(bE w5 (x+1) x A len c _ bs 2 8 2 rfl HS.out.1 H5.out.2.2.2 HS.out.2.2 (by omega) (by omega) (by omega) H5.out.2.2.1 H5.out.2.1).mono ?_
  rintro e w6 ⟨rfl,hu,hbb,hk⟩
  have H6:=zh (zN (H5.out.1.trans hk (fun y hy e=>by omega)) (zN hbb (zN hu (HS.out.2.1.keep (w':=w6) (fun q _ hq=>(H5.out.1.trans hk (T:=fun k=>k=x+1) (S:=fun _=>False) (fun y hy e=>by omega)).block q hq (fun h=>h))))))
  clear hu hbb hk
  go_wp2_with fail
  refine(bE w6 (x+1) x A len c _ bs 1 8 1 rfl HS.out.1 H6.out.2.2.2 HS.out.2.2 (by omega) (by omega) (by omega) H6.out.2.2.1 H6.out.2.1).mono ?_
  rintro e w7 ⟨rfl,hu,hbb,hk⟩
  have H7:=zh (zN (H6.out.1.trans hk (fun y hy e=>by omega)) (zN hbb (zN hu (HS.out.2.1.keep (w':=w7) (fun q _ hq=>(H6.out.1.trans hk (T:=fun k=>k=x+1) (S:=fun _=>False) (fun y hy e=>by omega)).block q hq (fun h=>h))))))
  clear hu hbb hk
  go_wp2_with fail
  refine(bE w7 (x+1) x A len c _ bs 0 8 0 rfl HS.out.1 H7.out.2.2.2 HS.out.2.2 (by omega) (by omega) (by omega) H7.out.2.2.1 H7.out.2.1).mono ?_
  rintro e w8 ⟨rfl,hu,hbb,hk⟩
  have H8:=zh (zN (H7.out.1.trans hk (fun y hy e=>by omega)) (zN hbb (zN hu (HS.out.2.1.keep (w':=w8) (fun q _ hq=>(H7.out.1.trans hk (T:=fun k=>k=x+1) (S:=fun _=>False) (fun y hy e=>by omega)).block q hq (fun h=>h))))))
  clear hu hbb hk
  have c0:=H8.out.2.2.1.cell 0
  simp at c0
  go_wp2_with fail
  go_ret
  exact⟨rfl,H8.out.1⟩
theorem r9(w:World)(A:Option Addr)(len c:Nat)(D:Nat→Prop)(bs:List Nat)(hl:bs.length=len)(hsl:Sl w D A len (aD bs))(hb:∀ j,bs.getD j 0 < 256)(hlen:len≤1099511627776):
  Calls Tryz.prog 293 #[.slice A len c] w (jr w (le (bs.take 8))):=by
 have e:∀ m,bS bs 0 m=le (bs.take m):=fun m=>by unfold bS;rw[List.drop_zero];omega
 rcases Nat.lt_or_ge len 8 with h | h
 ·have e2:bs.take 8=bs.take len:=by rw[List.take_of_length_le (by omega),List.take_of_length_le (by omega)]
  rw[e2,←e]
  rcases(show len=0∨len=1∨len=2∨len=3∨len=4∨len=5∨len=6∨len=7 by omega) with rfl | rfl | rfl | rfl | rfl | rfl | rfl | rfl
  ·exact Qs w A c D bs hl hsl hb
  ·exact PY w A c D bs hl hsl hb
  ·exact Od w A c D bs hl hsl hb
  ·exact PW w A c D bs hl hsl hb
  ·exact Ql w A c D bs hl hsl hb
  ·exact Oa w A c D bs hl hsl hb
  ·exact Oh w A c D bs hl hsl hb
  ·exact OQ w A c D bs hl hsl hb
 ·rw[←e]
  exact NW w A c D bs len hl h hlen hsl hb
end F
namespace F
open Go.RowKit
theorem Oq(bs:List Nat)(lo hi j:Nat)(h:lo+j < hi): ((bs.take hi).drop lo).getD j 0=bs.getD (lo+j) 0:=by
 rw[List.getD_eq_getElem?_getD,List.getD_eq_getElem?_getD,List.getElem?_drop,List.getElem?_take_of_lt h]
theorem ze{w:World}{D:Nat→Prop}{b off len:Nat}{bs:List Nat}(h:Sl w D (some ⟨b,off,none⟩) len (aD bs))(lo hi:Nat)(hhi:hi≤len): Sl w D (some ⟨b,off+lo,none⟩) (hi-lo) (aD ((bs.take hi).drop lo)):=by
 intro h0
 obtain⟨b',off',e,hD,hc⟩:=h (by omega)
 injection e with e
 injection e with e1 e2
 subst e1
 subst e2
 refine⟨_,_,rfl,hD,fun j hj=>?_⟩
 have:=hc (lo+j) (by omega)
 rw[←Nat.add_assoc] at this
 rw[this]
 unfold aD
 rw[Oq bs lo hi j (by omega)]
theorem yH{bs:List Nat}(h:∀ j,bs.getD j 0 < 256)(lo hi:Nat): ∀ j,((bs.take hi).drop lo).getD j 0 < 256:=
 lM (fun b hb=>gZ h hi b (List.mem_of_mem_drop hb))
theorem pq(bs:List Nat)(lo hi:Nat)(h:hi≤bs.length): ((bs.take hi).drop lo).length=hi-lo:=by simp;omega
def gB(bs:List Nat): Nat:=le ((bs.take 5).drop 1)
def iK(bs:List Nat): Int:=if bs.length < 9 then 10 else if 1048576 < gB bs then 3 else if bs.length < gB bs+9 then 10 else 0
def oK(bs:List Nat): Nat:=if iK bs=0 then gB bs+9 else 0
def nS(w:World)(bs:List Nat)(e:Ending)(w':World): Prop:=e=.returned (.tuple #[.int .i64 (oK bs:Nat),.int .i64 (iK bs)])∧Keeps (fun _=>False) w w'
theorem qN{w w':World}{bs:List Nat}(v er:Int)(h1:iK bs=er)(h2:er≠0∧v=0∨er=0∧v=((gB bs+9:Nat):Int))(hk:Keeps (fun _=>False) w w'): nS w bs (.returned (.tuple #[.int .i64 v,.int .i64 er])) w':=by
 refine⟨?_,hk⟩
 unfold oK
 rw[h1]
 rcases h2 with ⟨h2,rfl⟩ | ⟨rfl,rfl⟩
 ·rw[if_neg h2];rfl
 ·rw[if_pos rfl]
theorem OV(w:World)(A:Option Addr)(len c:Nat)(D:Nat→Prop)(bs:List Nat)(hl:bs.length=len)(hsl:Sl w D A len (aD bs))(hb:∀ j,bs.getD j 0 < 256)(hlen:len≤2097152)(hlc:len≤c):
  Calls Tryz.prog 283 #[.slice A len c] w (nS w bs):=by
 by_cases h9:len < 9
 ·have hfin:nS w bs (.returned (.tuple #[.int .i64 0,.int .i64 10])) w:=qN 0 10 (by unfold iK;rw[if_pos (by omega)]) (.inl ⟨by omega,rfl⟩) (Keeps.refl _ _)
  have HF:=zh hfin
  clear hfin hl hsl hb
  go_enter Tryz.func283,Tryz.ntmps283
  go_wp2_with fail
  go_ret2
  exact HF.out
 ·obtain ⟨b,off,hA,-,-⟩:=hsl (by omega)
  subst hA
  have hs4:=ze hsl 1 5 (by omega)
  have hb4:=yH hb 1 5
  have hl4:=pq bs 1 5 (by omega)
  have hn4:gB bs < 4294967296:=by
   have:=Kv (l:=(bs.take 5).drop 1) (fun x hx=>gZ hb 5 x (List.mem_of_mem_drop hx))
   rw[hl4] at this
   exact this
  have h8:le (((bs.take 5).drop 1).take 8)=gB bs:=by rw[List.take_of_length_le (by omega)];rfl
  have herr:∀ er,iK bs=er→iK bs=er:=fun _ h=>h
  have hE:iK bs=if 1048576 < gB bs then 3 else if len < gB bs+9 then 10 else 0:=by unfold iK;rw[hl,if_neg h9]
  have HS:=zh (zN hs4 (zN hb4 (zN hl4 (zN hn4 (zN h8 hE)))))
  clear hs4 hb4 hl4 hn4 h8 herr hE hsl hb hl
  have d9:decide ((len:Int) < 9)=false:=by simp;omega
  go_enter Tryz.func283,Tryz.ntmps283
  go_wp2_with fail
  refine(r9 _ _ _ _ _ ((bs.take 5).drop 1) HS.out.2.2.1 HS.out.1 HS.out.2.1 (by omega)).mono ?_
  rintro e w1 ⟨rfl,hk1⟩
  obtain⟨-,-,-,hn4,h8,hE⟩:=HS.out
  rw[h8]
  obtain⟨n,hn⟩:∃ n,n=gB bs:=⟨_,rfl⟩
  rw[←hn] at hn4 hE
  rw[←hn]
  by_cases h1:1048576 < n
  ·have hfin:nS w bs (.returned (.tuple #[.int .i64 0,.int .i64 3])) w1:=qN 0 3 (by rw[hE,if_pos h1]) (.inl ⟨by omega,rfl⟩) hk1
   have HF:=zh hfin
   clear hfin hk1 hn h8 hE d9
   go_wp2_with fail
   go_ret2
   exact HF.out
  ·by_cases h2:len < n+9
   ·have hfin:nS w bs (.returned (.tuple #[.int .i64 0,.int .i64 10])) w1:=qN 0 10 (by rw[hE,if_neg h1,if_pos h2]) (.inl ⟨by omega,rfl⟩) hk1
    have HF:=zh hfin
    have d3:decide ((len:Int)-9 < (n:Int))=true:=by simp;omega
    clear hfin hk1 hn h8 hE d9
    go_wp2_with fail
    go_ret2
    exact HF.out
   ·have hfin:nS w bs (.returned (.tuple #[.int .i64 ((n:Int)+9),.int .i64 0])) w1:=qN _ 0 (by rw[hE,if_neg h1,if_neg h2]) (.inr ⟨rfl,by omega⟩) hk1
    have HF:=zh hfin
    have d3:decide ((len:Int)-9 < (n:Int))=false:=by simp;omega
    clear hfin hk1 hn h8 hE d9
    go_wp2_with fail
    go_ret2
    exact HF.out
def sumOf(bs:List Nat): Nat:=le ((bs.take bs.length).drop (bs.length-4))
def iO(bs:List Nat): Int:=if sumOf bs=oN (bs.take (bs.length-4)) then 0 else 12
def kr(bs:List Nat): Nat:=if iO bs=0 then bs.getD 0 0 else 0
def iN(bs:List Nat): List Nat:=if iO bs=0 then (bs.take (bs.length-4)).drop 5 else []
def mF(w:World)(k:Nat)(l:List Nat)(er:Int)(e:Ending)(w':World): Prop:=
 ∃ A c,e=.returned (.tuple #[.int .u8 (k:Nat),.slice A l.length c,.int .i64 er])∧w'.ownsRow w.heap.size 5 1 (.slice A l.length c) l.length (l.map aI)∧Keeps (fun _=>False) w w'
theorem Ep(w:World)(base:Nat)(e:TypeId)(hb:base≤w.heap.size): (w.alloc (.cells #[] e)).ownsRow base e 1 (.slice (some ⟨w.heap.size,0,none⟩) 0 0) 0 []:=
 World.ownsRow_made w #[] 0 hb (by unfold maxLen;omega) rfl
theorem IL(w:World)(A:Option Addr)(len c:Nat)(D:Nat→Prop)(bs:List Nat)(hl:bs.length=len)(hsl:Sl w D A len (aD bs))(hb:∀ j,bs.getD j 0 < 256)(h9:9≤len)(hlen:len≤2097152)(hlc:len≤c):
  Calls Tryz.prog 284 #[.slice A len c] w (mF w (kr bs) (iN bs) (iO bs)):=by
 obtain⟨b,off,hA,-,hcell⟩:=hsl (by omega)
 subst hA
 obtain⟨m,hm⟩:∃ m,m=len-4:=⟨_,rfl⟩
 have hs1:=ze hsl m len (Nat.le_refl _)
 have hs2:=ze hsl 0 m (by omega)
 have hs3:=ze hsl 5 m (by omega)
 have hb1:=yH hb m len
 have hb2:=yH hb 0 m
 have hl1:=pq bs m len (by omega)
 have hl2:=pq bs 0 m (by omega)
 have hl3:=pq bs 5 m (by omega)
 rw[Nat.sub_zero] at hs2 hl2
 rw[Nat.add_zero] at hs2
 have h8:le (((bs.take len).drop m).take 8)=sumOf bs:=by rw[List.take_of_length_le (by omega),hm,←hl];rfl
 have hcr:oN ((bs.take m).drop 0)=oN (bs.take (bs.length-4)):=by rw[List.drop_zero,hm,hl]
 have hsu:sumOf bs < 4294967296:=by
  have:=Kv (l:=(bs.take len).drop m) (fun x hx=>gZ hb len x (List.mem_of_mem_drop hx))
  rw[hl1,show len-m=4 by omega,List.take_of_length_le (by omega)] at this
  unfold sumOf
  rw[hl,←hm,List.take_of_length_le (by omega)]
  exact this
 have hI:(bs.take (bs.length-4)).drop 5=(bs.take m).drop 5:=by rw[hl,hm]
 have c0:w.cell? ⟨b,off,none⟩=some (.int .u8 (bs.getD 0 0:Nat)):=hcell 0 (by omega)
 have hcu:=Bu (gZ hb (bs.length-4))
 have HS:=zh (zN hs1 (zN hs2 (zN hs3 (zN hb1 (zN hb2 (zN hl1 (zN hl2 (zN hl3 (zN h8 (zN hcr (zN hsu (zN hI hcu))))))))))))
 have HM:=zh hm
 clear hs1 hs2 hs3 hb1 hb2 hl1 hl2 hl3 h8 hcr hsu hI hcu hcell hsl hb hl
 have e4:(len:Int)-4=(m:Int):=by omega
 have hm5:5≤m:=by omega
 have hml:m < len:=by omega
 clear hm
 have i1:(0:Int)≤(m:Int):=by omega
 have i2:(m:Int)≤(len:Int):=by omega
 have i3:(m:Int).toNat=m:=by omega
 have i4:(5:Int)≤(m:Int):=by omega
 have hmc:m≤c:=by omega
 have hmc2:m < c:=by omega
 have hmc3:¬ c=m:=by omega
 have hmc4:¬ c=5:=by omega
 have hl0:0 < len:=by omega
 go_enter Tryz.func284,Tryz.ntmps284
 go_wp2_with fail
 clear e4
 obtain⟨hs1,hs2,hs3,hb1,hb2,hl1,hl2,hl3,h8,hcr,hsu,hI,hcu⟩:=HS.out
 obtain⟨su,hsu'⟩:∃ su,su=sumOf bs:=⟨_,rfl⟩
 obtain⟨cr,hcr'⟩:∃ cr,cr=oN (bs.take (bs.length-4)):=⟨_,rfl⟩
 obtain⟨k0,hk0⟩:∃ k0,k0=bs.getD 0 0:=⟨_,rfl⟩
 rw[←hk0] at c0
 rw[←hsu'] at h8 hsu
 rw[←hcr'] at hcr hcu
 have hE:iO bs=if su=cr then 0 else 12:=by rw[hsu',hcr'];rfl
 have hK:kr bs=if iO bs=0 then k0 else 0:=by rw[hk0];rfl
 have HT:=zh (zN hs1 (zN hs2 (zN hs3 (zN h8 (zN hcr (zN hE hK))))))
 clear hs1 hs2 hs3 hb1 hb2 hl1 hl2 hl3 h8 hcr hI hE hK hsu' hcr' hk0
 have C0:=zh c0
 clear c0
 have hS:(fun _:World=>True) (w.drew):=trivial
 refine av (fun _:World=>True) (by kernel_rfl) hS ?_
 refine zB [0,1,2,5,6,7] ?_
 iterate 6 (refine zV ?_ ?_ hS ?_;rotate_left;(intro w' hSw;go_simp<;>with_reducible rfl);try simp only[zP])
 refine zE ?_
 refine zC 3 fun K HK=>?_
 go_simp
 refine(r9 w.drew _ _ _ _ ((bs.take len).drop m) HS.out.2.2.2.2.2.1 (HT.out.1.keep (w':=w.drew) (fun _ _ _=>rfl)) HS.out.2.2.2.1 (by omega)).mono ?_
 rintro e w1 ⟨rfl,hk1⟩
 rw[HT.out.2.2.2.1]
 have hk1':Keeps (fun _=>False) w w1:=((Keeps.refl _ w).drew).trans' hk1
 have H1:=zh hk1'
 clear hk1 hk1'
 go_wp2_with fail
 refine HK.out.zt (fun _:World=>True) (fun _ h=>h) (trivial) ?_
 clear HK hS
 intro hS
 try simp only[zP]
 have euw:IntKind.u32.wrap (su:Int)=(su:Int):=by rw[IntKind.wrap_u32'];omega
 refine zT 4 ?_ ?_ hS ?_
 rotate_left
 ·(intro w' hSw;go_simp<;>with_reducible rfl)
 try simp only[zP]
 clear euw
 refine zC 8 fun K HK=>?_
 go_simp
 refine(Ib w1 _ _ _ _ ((bs.take m).drop 0) HS.out.2.2.2.2.2.2.1 (HT.out.2.1.keep (w':=w1) (fun q _ hq=>H1.out.block q hq (fun h=>h))) HS.out.2.2.2.2.1 (by omega)).mono ?_
 rintro e w2 ⟨rfl,rfl⟩
 rw[HT.out.2.2.2.2.1]
 go_wp2_with fail
 refine HK.out.zt (fun _:World=>True) (fun _ h=>h) (trivial) ?_
 clear HK hS
 intro hS
 try simp only[zP]
 refine zT 9 ?_ ?_ hS ?_
 rotate_left
 ·(intro w' hSw;go_simp<;>with_reducible rfl)
 try simp only[zP]
 refine zD ?_
 try simp only[zP]
 by_cases heq:su=cr
 ·have hE0:iO bs=0:=by rw[HT.out.2.2.2.2.2.1,if_pos heq]
  have hK0:kr bs=k0:=by rw[HT.out.2.2.2.2.2.2,hE0,if_pos rfl]
  have hI0:iN bs=(bs.take m).drop 5:=by unfold iN;rw[hE0,if_pos rfl,HS.out.2.2.2.2.2.2.2.2.2.2.2.1]
  have HE:=zh (zN hE0 (zN hK0 hI0))
  clear hE0 hK0 hI0
  subst heq
  have d1:((su:Int) != (su:Int))=false:=by simp
  have d2:((su:Int) == (su:Int))=true:=by simp
  go_wp2_with fail
  clear d1 d2
  have c1:w1.cell? ⟨b,off,none⟩=some (.int .u8 (k0:Nat)):=by
   have hlt:=World.block_lt_of_cell? w _ C0.out
   exact(World.cell?_of_block (w:=w) (H1.out.block b hlt (fun h=>h))).trans C0.out
  have hlt1:b < w1.heap.size:=World.block_lt_of_cell? w1 _ c1
  have sof:∀ w',Keeps (fun _=>False) w1 w'→(fun w':World=>w'.cell? ⟨b,off,none⟩=some (.int .u8 (k0:Nat))) w':=fun w' hk=>(World.cell?_of_block (w:=w1) (hk.block b hlt1 (fun h=>h))).trans c1
  have HSo:=zh sof
  clear sof c1 hlt1
  have kd:Keeps (fun _=>False) w1 w1.drew:=(Keeps.refl _ w1).drew
  have hS:(fun w':World=>w'.cell? ⟨b,off,none⟩=some (.int .u8 (k0:Nat))) (w1.drew):=HSo.out _ kd
  refine av (fun w':World=>w'.cell? ⟨b,off,none⟩=some (.int .u8 (k0:Nat))) (by kernel_rfl) hS ?_
  refine zB [0,1,2,4,5,6] ?_
  iterate 6 (refine zV ?_ ?_ hS ?_;rotate_left;(intro w' hSw;go_simp<;>with_reducible rfl);try simp only[zP])
  refine zE ?_
  refine zC 3 fun K HK=>?_
  go_simp
  go_wp2_with fail
  refine HK.out.zt (fun w':World=>w'.cell? ⟨b,off,none⟩=some (.int .u8 (k0:Nat))) (fun _ h=>h) (HSo.out _ (kd.alloc (.cells #[] 5))) ?_
  clear HK hS
  intro hS
  try simp only[zP]
  refine zC 7 fun K HK=>?_
  refine lF (f:=aD ((bs.take m).drop 5)) (D:=D) (base:=w.heap.size) (n:=0) (xs:=[]) byteElem rfl (.tmp 22) (.tmp 25) rfl rfl rfl ?hown ?hsl ?h1 ?h63 ?hby ?hbase ?_
  case hown=>exact Ep w1.drew w.heap.size 5 H1.out.size
  case hsl=>exact HT.out.2.2.1.keep (w':=w1.drew.alloc (.cells #[] 5)) (fun q _ hq=>((H1.out.drew).alloc (.cells #[] 5)).block q hq (fun h=>h))
  case h1=>intro j _;rfl
  case h63=>unfold maxLen;omega
  case hby=>omega
  case hbase=>have:=H1.out.size;simp;omega
  intro v3 w3 ho3 hg3 hx3
  clear hx3
  have hkk:Keeps (fun _=>False) w1 w3:=lK (w0:=w1) (kd.alloc (.cells #[] 5)) (Ep w1.drew w1.heap.size 5 (Nat.le_refl _)) hg3
  have hkw:Keeps (fun _=>False) w w3:=H1.out.trans' hkk
  have e3:[] ++ (List.range (0+(m-5))).map (aD ((bs.take m).drop 5))=(iN bs).map aI:=by
   rw[HE.out.2.2,Nat.zero_add,fE HS.out.2.2.2.2.2.2.2.1];rfl
  have hlI:0+(m-5)=(iN bs).length:=by rw[HE.out.2.2,HS.out.2.2.2.2.2.2.2.1];omega
  rw[Nat.zero_add] at e3
  rw[e3,hlI] at ho3
  obtain⟨A3,c3,hv3,-,-⟩:=aA ho3
  subst hv3
  have H3:=zh (zN ho3 (zN hkk hkw))
  clear ho3 hg3 hkk hkw e3 hlI
  refine HK.out.zt (fun w':World=>w'.cell? ⟨b,off,none⟩=some (.int .u8 (k0:Nat))) (fun _ h=>h) (HSo.out _ H3.out.2.1) ?_
  clear HK hS
  intro hS
  try simp only[zP]
  refine zB [8,9,10] ?_
  iterate 3 (refine zV ?_ ?_ hS ?_;rotate_left;(intro w' hSw;go_simp<;>with_reducible rfl);try simp only[zP])
  refine zE ?_
  refine zD ?_
  try simp only[zP]
  go_wp2_with fail
  go_ret3
  refine⟨A3,c3,?_,H3.out.1,H3.out.2.2⟩
  rw[HE.out.1,HE.out.2.1]
  rfl
 ·have hE0:iO bs=12:=by rw[HT.out.2.2.2.2.2.1,if_neg heq]
  have hfin:mF w (kr bs) (iN bs) (iO bs) (.returned (.tuple #[.int .u8 0,.slice none 0 0,.int .i64 12])) w1:=by
   unfold kr iN
   rw[hE0,if_neg (by omega),if_neg (by omega)]
   exact⟨none,0,rfl,⟨rfl,.inl ⟨rfl,rfl⟩⟩,H1.out⟩
  have HF:=zh hfin
  have d1:((su:Int) != (cr:Int))=true:=by simp;omega
  have d2:((su:Int) == (cr:Int))=false:=by simp;omega
  clear hE0 hfin heq
  go_wp2_with fail
  go_ret3
  exact HF.out
end F
namespace F
open Go.RowKit
def dY(bs:List Nat): Int:=if iK bs=0 then (if oK bs=bs.length then iO bs else 11) else iK bs
def fO(bs:List Nat): Nat:=if dY bs=0 then kr bs else 0
def aK(bs:List Nat): List Nat:=if dY bs=0 then iN bs else []
def xY(w:World)(k:Nat)(l:List Nat)(n:Nat)(er:Int)(e:Ending)(w':World): Prop:=
 ∃ A c,e=.returned (.tuple #[.int .u8 (k:Nat),.slice A l.length c,.int .i64 (n:Nat),.int .i64 er])∧w'.ownsRow w.heap.size 5 1 (.slice A l.length c) l.length (l.map aI)∧Keeps (fun _=>False) w w'
theorem vV{bs:List Nat}(h:iK bs=0): oK bs=gB bs+9∧gB bs≤1048576∧gB bs+9≤bs.length:=by
 unfold oK
 rw[if_pos h]
 unfold iK at h
 split at h
 ·omega
 ·split at h
  ·omega
  ·split at h
   ·omega
   ·omega
theorem El{bs:List Nat}(h:iO bs≠0): kr bs=0∧iN bs=[]:=by unfold kr iN;rw[if_neg h,if_neg h];exact ⟨rfl,rfl⟩
theorem yu(w:World)(A:Option Addr)(len c:Nat)(D:Nat→Prop)(bs:List Nat)(hl:bs.length=len)(hsl:Sl w D A len (aD bs))(hb:∀ j,bs.getD j 0 < 256)(hlen:len≤2097152)(hlc:len≤c):
  Calls Tryz.prog 192 #[.slice A len c] w (mF w (fO bs) (aK bs) (dY bs)):=by
 have HS:=zh (zN hl (zN hsl hb))
 clear hl hsl hb
 go_enter Tryz.func192,Tryz.ntmps192
 go_wp2_with fail
 refine(OV _ _ _ _ _ bs HS.out.1 HS.out.2.1 HS.out.2.2 hlen hlc).mono ?_
 rintro e w1 ⟨rfl,hk1⟩
 by_cases hE:iK bs=0
 ·obtain ⟨g1,g2,g3⟩:=vV hE
  rw[hE,g1]
  obtain⟨n,hn⟩:∃ n,n=gB bs+9:=⟨_,rfl⟩
  rw[←hn] at g1 g3
  rw[←hn]
  have hn9:9≤n:=by omega
  have hnl:n≤len:=by have:=HS.out.1;omega
  by_cases heq:n=len
  ·have hoE:dY bs=iO bs:=by unfold dY;rw[if_pos hE,g1,HS.out.1,if_pos heq]
   have hoK:fO bs=kr bs:=by
    unfold fO
    rw[hoE]
    by_cases h0:iO bs=0
    ·rw[if_pos h0]
    ·rw[if_neg h0,(El h0).1]
   have hoI:aK bs=iN bs:=by
    unfold aK
    rw[hoE]
    by_cases h0:iO bs=0
    ·rw[if_pos h0]
    ·rw[if_neg h0,(El h0).2]
   have HO:=zh (zN hoE (zN hoK hoI))
   have H1:=zh hk1
   clear hoE hoK hoI hk1 hE g1 g2 g3 hn
   subst heq
   have d:((n:Int) != (n:Int))=false:=by simp
   go_wp2_with fail
   clear d
   refine(IL _ _ _ _ _ bs HS.out.1 (HS.out.2.1.keep (w':=w1) (fun q _ hq=>H1.out.block q hq (fun h=>h))) HS.out.2.2 hn9 hlen hlc).mono ?_
   rintro e w2 ⟨A2,c2,rfl,ho2,hk2⟩
   have hfin:mF w (fO bs) (aK bs) (dY bs) (.returned (.tuple #[.int .u8 (kr bs:Nat),.slice A2 (iN bs).length c2,.int .i64 (iO bs)])) w2:=by
    rw[HO.out.1,HO.out.2.1,HO.out.2.2]
    exact⟨A2,c2,rfl,aU ho2 H1.out.size,H1.out.trans' hk2⟩
   have HF:=zh hfin
   clear ho2 hk2 hfin
   go_wp2_with fail
   go_ret3
   exact HF.out
  ·have hoE:dY bs=11:=by unfold dY;rw[if_pos hE,g1,HS.out.1,if_neg heq]
   have hfin:mF w (fO bs) (aK bs) (dY bs) (.returned (.tuple #[.int .u8 0,.slice none 0 0,.int .i64 11])) w1:=by
    unfold fO aK
    rw[hoE,if_neg (by omega),if_neg (by omega)]
    exact⟨none,0,rfl,⟨rfl,.inl ⟨rfl,rfl⟩⟩,hk1⟩
   have HF:=zh hfin
   clear hfin hoE hk1 hE g1 g2 g3 hn
   have d:((n:Int) != (len:Int))=true:=by simp;omega
   go_wp2_with fail
   go_ret3
   exact HF.out
 ·have hoE:dY bs=iK bs:=by unfold dY;rw[if_neg hE]
  have hfin:mF w (fO bs) (aK bs) (dY bs) (.returned (.tuple #[.int .u8 0,.slice none 0 0,.int .i64 (iK bs)])) w1:=by
   unfold fO aK
   rw[hoE,if_neg hE,if_neg hE]
   exact⟨none,0,rfl,⟨rfl,.inl ⟨rfl,rfl⟩⟩,hk1⟩
  have HF:=zh hfin
  have d1:(iK bs != 0)=true:=by simp[hE]
  have d2:(iK bs == 0)=false:=by simp[hE]
  obtain⟨er,her⟩:∃ er,er=iK bs:=⟨_,rfl⟩
  rw[←her] at d1 d2 HF
  rw[←her]
  clear hfin hoE hk1 hE her
  go_wp2_with fail
  go_ret3
  exact HF.out
end F
namespace F
theorem Lu(kind:Nat)(bs more:List Nat): (aN kind bs ++ more).take 5=kind :: fH bs.length:=by
 unfold aN iq fH
 simp
theorem Gx(kind:Nat)(bs more:List Nat)(h:bs.length < 4294967296): gB (aN kind bs ++ more)=bs.length:=by
 unfold gB
 rw[Lu]
 exact Bf _ h
theorem KJ(kind:Nat)(bs more:List Nat)(h:bs.length≤1048576): iK (aN kind bs ++ more)=0∧oK (aN kind bs ++ more)=bs.length+9:=by
 have hn:=Gx kind bs more (by omega)
 have hl:(aN kind bs ++ more).length=bs.length+9+more.length:=by rw[List.length_append,bB]
 have h1:iK (aN kind bs ++ more)=0:=by
  unfold iK
  rw[hn,hl,if_neg (by omega),if_neg (by omega),if_neg (by omega)]
 refine⟨h1,?_⟩
 unfold oK
 rw[if_pos h1,hn]
theorem Cv(kind:Nat)(bs:List Nat): (aN kind bs).take ((aN kind bs).length-4)=iq kind bs:=by
 have:(aN kind bs).length-4=(iq kind bs).length:=by rw[bB,mV];omega
 rw[this]
 unfold aN
 exact List.take_left
theorem Lv(kind:Nat)(bs:List Nat): (aN kind bs).drop ((aN kind bs).length-4)=fH (oN (iq kind bs)):=by
 have:(aN kind bs).length-4=(iq kind bs).length:=by rw[bB,mV];omega
 rw[this]
 unfold aN
 exact List.drop_left
theorem Nw{kind:Nat}{bs:List Nat}(hk:kind < 256)(hb:∀ j,bs.getD j 0 < 256): iO (aN kind bs)=0∧kr (aN kind bs)=kind∧iN (aN kind bs)=bs:=by
 have h1:iO (aN kind bs)=0:=by
  unfold iO sumOf
  rw[List.take_length,Lv,Cv,Bf _ (Bu (pz hk hb)),if_pos rfl]
 refine⟨h1,?_,?_⟩
 ·unfold kr
  rw[if_pos h1]
  rfl
 ·unfold iN
  rw[if_pos h1,Cv]
  rfl
theorem vR{kind:Nat}{bs:List Nat}(hk:kind < 256)(hb:∀ j,bs.getD j 0 < 256)(h:bs.length≤1048576): dY (aN kind bs)=0∧fO (aN kind bs)=kind∧aK (aN kind bs)=bs:=by
 obtain⟨g1,g2⟩:=KJ kind bs [] h
 rw[List.append_nil] at g1 g2
 obtain⟨w1,w2,w3⟩:=Nw hk hb
 have h1:dY (aN kind bs)=0:=by
  unfold dY
  rw[if_pos g1,g2,bB,if_pos rfl,w1]
 refine⟨h1,?_,?_⟩
 ·unfold fO;rw[if_pos h1,w2]
 ·unfold aK;rw[if_pos h1,w3]
theorem OI{bs:List Nat}(h:dY bs≠0): fO bs=0∧aK bs=[]:=by unfold fO aK;rw[if_neg h,if_neg h];exact ⟨rfl,rfl⟩
theorem wI{bs:List Nat}(h:dY bs=0): 9≤bs.length∧le (bs.drop (bs.length-4))=oN (bs.take (bs.length-4)):=by
 unfold dY at h
 by_cases h1:iK bs=0
 ·rw[if_pos h1] at h
  obtain⟨g1,g2,g3⟩:=vV h1
  by_cases h2:oK bs=bs.length
  ·rw[if_pos h2] at h
   refine⟨by omega,?_⟩
   unfold iO sumOf at h
   rw[List.take_length] at h
   split at h
   ·assumption
   ·omega
  ·rw[if_neg h2] at h;omega
 ·rw[if_neg h1] at h;exact absurd h h1
end F
namespace F
theorem GL: ∀ {l:List Nat},l.length=4→(∀ b ∈ l,b < 256)→fH (le l)=l
 | [a,b,c,d],_,hb=>by
  have h1:=hb a (by simp)
  have h2:=hb b (by simp)
  have h3:=hb c (by simp)
  have h4:=hb d (by simp)
  show [(a+256*(b+256*(c+256*(d+256*0))))%256,(a+256*(b+256*(c+256*(d+256*0)))) / 256%256,(a+256*(b+256*(c+256*(d+256*0)))) / 65536%256,(a+256*(b+256*(c+256*(d+256*0)))) / 16777216%256]=[a,b,c,d]
  congr 1
  ·omega
  ·congr 1
   ·omega
   ·congr 1
    ·omega
    ·congr 1
     omega
theorem DF{b:List Nat}(hb:∀ x ∈ b,x < 256)(h:dY b=0): b=aN (fO b) (aK b)∧(aK b).length+9=b.length∧fO b < 256:=by
 have hok:=wI h
 have hk:fO b=kr b:=by unfold fO;rw[if_pos h]
 have hi:aK b=iN b:=by unfold aK;rw[if_pos h]
 have hE:=h
 unfold dY at hE
 by_cases h1:iK b=0
 ·rw[if_pos h1] at hE
  obtain⟨g1,g2,g3⟩:=vV h1
  by_cases h2:oK b=b.length
  ·rw[if_pos h2] at hE
   rw[hk,hi]
   unfold kr iN
   rw[if_pos hE,if_pos hE]
   obtain⟨m,hm⟩:∃ m,m=b.length-4:=⟨_,rfl⟩
   have hm5:5≤m:=by omega
   rw[←hm] at hok ⊢
   obtain⟨k,t,rfl⟩:∃ k t,b=k :: t:=by
    cases b with
    | nil=>simp at hok
    | cons k t=>exact ⟨k,t,rfl⟩
   have e1:(k :: t).drop m=fH (oN ((k :: t).take m)):=by
    rw[←hok.2,GL (by rw[List.length_drop];omega) (fun x hx=>hb x (List.mem_of_mem_drop hx))]
   have hI:(((k :: t).take m).drop 5).length=(k :: t).length-9:=by rw[List.length_drop,List.length_take];omega
   have hF:gB (k :: t)=(k :: t).length-9:=by omega
   have e2:(((k :: t).take 5).drop 1)=fH (gB (k :: t)):=by
    unfold gB
    rw[GL (by rw[List.length_drop,List.length_take];omega) (fun x hx=>hb x (List.mem_of_mem_take (List.mem_of_mem_drop hx)))]
   have e3:(k :: t).take m=iq ((k :: t).getD 0 0) (((k :: t).take m).drop 5):=by
    unfold iq
    rw[hI,←hF,←e2]
    have e4:(k :: t).take m=((k :: t).take m).take 5 ++ ((k :: t).take m).drop 5:=(List.take_append_drop 5 _).symm
    have e5:((k :: t).take m).take 5=(k :: t).take 5:=by rw[List.take_take,Nat.min_eq_left hm5]
    rw[e5] at e4
    exact e4
   refine⟨?_,by rw[hI];omega,hb k (by simp)⟩
   unfold aN
   rw[←e3,←e1,List.take_append_drop]
  ·rw[if_neg h2] at hE;omega
 ·rw[if_neg h1] at hE;exact absurd hE h1
end F
namespace D
open Go.RowKit
def iV(a b:Int): Int:=(a+b+9223372036854775808)%18446744073709551616-9223372036854775808
end D
namespace D
open Go.RowKit
theorem MF(z:Nat): gU z=List.replicate (cls z) 1 ++ (if cls z < 4 then [0] else []) ++ aM z (wd (cls z)) (wd (cls z)):=by
 unfold gU
 congr 1
 have hk:=Aw z
 generalize cls z=k at *
 rcases(show k=0∨k=1∨k=2∨k=3∨k=4 by omega) with rfl | rfl | rfl | rfl | rfl<;>decide
end D
namespace D
open Go.RowKit
theorem Ht(a b:Int)(w:World)(a0 : -9223372036854775808≤a)(a1:a≤9223372036854775807)(b0 : -9223372036854775808≤b)(b1:b≤9223372036854775807):
  Calls Tryz.prog 394 #[.int .i64 a,.int .i64 b] w fun e w'=>e=.returned (.int .i64 (iV a b))∧w=w':=by
 have H:=zh (zN a0 (zN a1 (zN b0 b1)))
 clear a0 a1 b0 b1
 go_enter Tryz.func394,Tryz.ntmps394
 go_wp2
 go_ret
 refine⟨kY ?_,rfl⟩
 obtain⟨a0,a1,b0,b1⟩:=H.out
 unfold iV
 unfold wrap64
 simp only[IntKind.wrap_u64]
 omega
def bR(bs:List Nat)(en:Nat): Nat→Nat→Nat × Int × Nat
 | 0,p=>(4,0,p)
 | f+1,p=>if p < en then (if bI bs p=0 then (4-(f+1),0,p+1) else bR bs en f (p+1)) else (0,10,p)
theorem Db(bs:List Nat)(en f p:Nat)(hf:f≤4): (bR bs en f p).1≤4:=by
 induction f generalizing p with
 | zero=>exact Nat.le_refl _
 | succ f ih=>
  unfold bR
  split
  ·split
   ·show 4-(f+1)≤4;omega
   ·exact ih _ (by omega)
  ·exact Nat.zero_le _
theorem qj(bs:List Nat)(p:Nat): gets bs p 1=bI bs p:=by simp[gets]
theorem QX(bs:List Nat)(p en:Nat)(h:p < en): kI bs p en 1=bI bs p∧kG p en 1=0∧kL p en 1=1:=by
 unfold kI kG kL
 rw[if_pos (by omega),if_pos (by omega),if_pos (by omega),if_pos (by omega)]
 exact⟨qj bs p,rfl,rfl⟩
theorem get_none(bs:List Nat)(p en:Nat)(n:Int)(h:(en:Int)-p < n)(h0:0≤n)(h1:n≤64): kI bs p en n=0∧kG p en n=10∧kL p en n=0:=by
 unfold kI kG kL
 rw[if_neg (by omega),if_pos (by omega),if_neg (by omega),if_neg (by omega)]
 exact⟨rfl,rfl,rfl⟩
theorem get_some(bs:List Nat)(p en n:Nat)(h:p+n≤en)(h1:n≤64): kI bs p en n=gets bs p n∧kG p en n=0∧kL p en n=n:=by
 unfold kI kG kL
 rw[if_pos (by omega),if_pos (by omega),if_pos (by omega),if_pos (by omega)]
 exact⟨rfl,rfl,rfl⟩
def yT(w:World)(r:Nat)(D:Nat→Prop)(bs:List Nat)(en:Nat)(m:Nat × Int × Nat)(e:Ending)(w':World): Prop:=
 e=.returned (.tuple #[.int .i64 (m.1:Nat),.int .i64 m.2.1])∧Rd w' r D bs m.2.2 en∧Keeps (fun k=>k=r) w w'
theorem Pf(w:World)(r:Nat)(D:Nat→Prop)(bs:List Nat)(p en:Nat)(h:Rd w r D bs p en):
  Calls Tryz.prog 404 #[.pointer (some ⟨r,0,none⟩)] w (yT w r D bs en (bR bs en 4 p)):=by
 have HH:=zh h
 clear h
 go_enter Tryz.func404,Tryz.ntmps404
 go_wp2_with fail
 go_loopw [4] (fun i wr=>∃ k:Nat,k≤4∧i=.int .i64 k∧Rd wr r D bs (p+k) en∧Keeps (fun k=>k=r) w wr∧bR bs en 4 p=bR bs en (4-k) (p+k))
  (fun i _=>4-(intOf i).toNat)
 case atStart=>exact ⟨0,Nat.zero_le _,rfl,HH.out,Keeps.refl _ _,rfl⟩
 case round=>
  obtain⟨k,hk,rfl,hrr,hkr,hmr⟩:=hrel
  by_cases hlt:k < 4
  ·obtain ⟨f,hf⟩:∃ f,4-k=f+1:=⟨3-k,by omega⟩
   rw[hf] at hmr
   have HR:=zh (zN hrr (zN hkr (zN hmr hf)))
   clear hrr hkr hmr hf
   go_wp2_with fail
   refine(pV _ _ _ _ _ _ _ HR.out.1).mono ?_
   rintro e w2 ⟨rfl,hr2,hk2⟩
   by_cases hp:p+k < en
   ·obtain ⟨g1,g2,g3⟩:=QX bs (p+k) en hp
    rw[g3] at hr2
    rw[g1,g2]
    have hb:=sI bs (p+k)
    obtain⟨b,hbb⟩:∃ b,b=bI bs (p+k):=⟨_,rfl⟩
    rw[←hbb] at hb
    rw[←hbb]
    have H2:=zh (zN hr2 (zN (HR.out.2.1.trans' hk2) (zN hbb hp)))
    clear hr2 hk2 g1 g2 g3 hbb hp
    rcases(show b=0∨b=1 by omega) with rfl | rfl
    ·rw[show ((0:Nat):Int)=0 from rfl]
     go_wp2_with fail
     go_ret2
     obtain⟨h1,h2,h3,h4⟩:=H2.out
     obtain⟨-,-,m1,m2⟩:=HR.out
     rw[m1]
     unfold bR
     rw[if_pos h4,if_pos h3.symm]
     refine⟨?_,?_,h2⟩
     ·show _=Ending.returned (.tuple #[.int .i64 ((4-(f+1):Nat):Int),.int .i64 0])
      rw[show 4-(f+1)=k by omega]
      rfl
     ·exact h1
    ·rw[show ((1:Nat):Int)=1 from rfl]
     go_wp2_with fail
     go_roundw
     case rel=>
      obtain⟨h1,h2,h3,h4⟩:=H2.out
      obtain⟨-,-,m1,m2⟩:=HR.out
      refine⟨k+1,by omega,by go_num,h1,h2,?_⟩
      rw[m1,show 4-(k+1)=f by omega]
      show (if p+k < en then _ else _)=_
      rw[if_pos h4,if_neg (by omega)]
      rfl
     case measure=>simp[intOf];omega
   ·obtain ⟨g1,g2,g3⟩:=get_none bs (p+k) en 1 (by omega) (by omega) (by omega)
    rw[g3] at hr2
    rw[g1,g2]
    have H2:=zh (zN hr2 (zN (HR.out.2.1.trans' hk2) hp))
    clear hr2 hk2 g1 g2 g3 hp
    go_wp2_with fail
    go_ret2
    obtain⟨h1,h2,h4⟩:=H2.out
    obtain⟨-,-,m1,m2⟩:=HR.out
    rw[m1]
    unfold bR
    rw[if_neg h4]
    exact⟨rfl,h1,h2⟩
  ·obtain rfl:k=4:=by omega
   have HR:=zh (zN hrr (zN hkr hmr))
   clear hrr hkr hmr
   go_wp2_with fail
   go_ret2
   rw[HR.out.2.2]
   exact⟨rfl,HR.out.1,HR.out.2.1⟩
def mY(bs:List Nat)(en c:Nat)(e:Int)(q:Nat): Int × Int × Nat:=
 if e=0 then
  if q+wd c≤en then
   if cls (gets bs q (wd c))=c then (zag (gets bs q (wd c)),0,q+wd c) else (0,11,q+wd c)
  else (0,10,q)
 else (0,e,q)
def iw(bs:List Nat)(en p:Nat): Int × Int × Nat:=mY bs en (bR bs en 4 p).1 (bR bs en 4 p).2.1 (bR bs en 4 p).2.2
theorem CQ(bs:List Nat)(en f p:Nat): (bR bs en f p).2.1=0∨(bR bs en f p).2.1=10:=by
 induction f generalizing p with
 | zero=>exact .inl rfl
 | succ f ih=>
  unfold bR
  split
  ·split
   ·exact .inl rfl
   ·exact ih _
  ·exact .inr rfl
theorem pU(bs:List Nat)(p n:Nat)(h:n≤64): gets bs p n < 18446744073709551616:=
 Nat.lt_of_lt_of_le (iB bs p n) (Nat.le_trans (Nat.pow_le_pow_right (by omega) h) (by decide))
theorem xC(bs:List Nat)(en p:Nat): -9223372036854775808≤(iw bs en p).1∧(iw bs en p).1≤9223372036854775807:=by
 unfold iw mY
 split
 ·split
  ·split
   ·exact MP (pU _ _ _ (Dv (Db _ _ _ _ (Nat.le_refl _))))
   ·exact ⟨by show _≤(0:Int);omega,by show (0:Int)≤_;omega⟩
  ·exact ⟨by show _≤(0:Int);omega,by show (0:Int)≤_;omega⟩
 ·exact ⟨by show _≤(0:Int);omega,by show (0:Int)≤_;omega⟩
def yB(w:World)(r:Nat)(D:Nat→Prop)(bs:List Nat)(en:Nat)(m:Int × Int × Nat)(e:Ending)(w':World): Prop:=
 e=.returned (.tuple #[.int .i64 m.1,.int .i64 m.2.1])∧Rd w' r D bs m.2.2 en∧Keeps (fun k=>k=r) w w'
theorem Qv(w:World)(r:Nat)(D:Nat→Prop)(bs:List Nat)(p en:Nat)(h:Rd w r D bs p en):
  Calls Tryz.prog 393 #[.pointer (some ⟨r,0,none⟩)] w (yB w r D bs en (iw bs en p)):=by
 have HH:=zh h
 clear h
 go_enter Tryz.func393,Tryz.ntmps393
 go_wp2_with fail
 refine(Pf _ _ _ _ _ _ HH.out).mono ?_
 rintro e w1 ⟨rfl,hr1,hk1⟩
 have hc:=Db bs en 4 p (Nat.le_refl _)
 have he:=CQ bs en 4 p
 have ht:iw bs en p=mY bs en (bR bs en 4 p).1 (bR bs en 4 p).2.1 (bR bs en 4 p).2.2:=rfl
 obtain⟨m,hm⟩:∃ m,m=bR bs en 4 p:=⟨_,rfl⟩
 rw[←hm] at hc he hr1 ht
 rw[←hm]
 clear hm
 obtain⟨c,e,q⟩:=m
 simp only[] at hc he hr1 ht
 have H1:=zh (zN hr1 (zN hk1 ht))
 clear hr1 hk1 ht
 rcases he with rfl | rfl
 ·go_wp2_with fail
  refine(sQ _).mono ?_
  rintro e w2 ⟨rfl,hb2⟩
  have H2:=zh (zN (H1.out.1.below hb2) (H1.out.2.1.trans' (Keeps.of_below hb2)))
  clear hb2
  unfold pO
  have ix:=fun w=>CW c (by omega) w
  go_wp2_with fail
  refine(pV _ _ _ _ _ _ _ H2.out.1).mono ?_
  rintro e w3 ⟨rfl,hr3,hk3⟩
  have hw:=Dv hc
  by_cases hfit:q+wd c≤en
  ·obtain ⟨g1,g2,g3⟩:=get_some bs q en (wd c) hfit hw
   rw[g3] at hr3
   rw[g1,g2]
   have hz:=pU bs q (wd c) hw
   obtain⟨z,hzz⟩:∃ z,z=gets bs q (wd c):=⟨_,rfl⟩
   rw[←hzz] at hz
   rw[←hzz]
   have H3:=zh (zN hr3 (zN (H2.out.2.trans' hk3) (zN hzz (zN hfit hz))))
   clear hr3 hk3 g1 g2 g3 hzz hfit hz ix hw
   go_wp2_with fail
   refine(xS _ H3.out.2.2.2.2 _).mono ?_
   rintro e w4 ⟨rfl,hb4⟩
   have H4:=zh (zN (H3.out.1.below hb4) (H3.out.2.1.trans' (Keeps.of_below hb4)))
   clear hb4
   by_cases hcl:cls z=c
   ·have hne:(((cls z:Nat):Int) != (c:Int))=false:=by simp[hcl]
    have hne2:(((cls z:Nat):Int) == (c:Int))=true:=by simp[hcl]
    have HC:=zh hcl
    clear hcl
    go_wp2_with fail
    refine(GI _ _ H3.out.2.2.2.2).mono ?_
    rintro e w5 ⟨rfl,rfl⟩
    go_wp2_with fail
    go_ret2
    obtain⟨-,-,h3,h4,-⟩:=H3.out
    rw[H1.out.2.2]
    unfold mY
    rw[if_pos (rfl:(0:Int)=0),if_pos h4,←h3,if_pos HC.out]
    exact⟨rfl,H4.out.1,H4.out.2⟩
   ·have hne:(((cls z:Nat):Int) != (c:Int))=true:=by simp;omega
    have hne2:(((cls z:Nat):Int) == (c:Int))=false:=by simp;omega
    have HC:=zh hcl
    clear hcl
    go_wp2_with fail
    go_ret2
    obtain⟨-,-,h3,h4,-⟩:=H3.out
    rw[H1.out.2.2]
    unfold mY
    rw[if_pos (rfl:(0:Int)=0),if_pos h4,←h3,if_neg HC.out]
    exact⟨rfl,H4.out.1,H4.out.2⟩
  ·obtain ⟨g1,g2,g3⟩:=get_none bs q en (wd c) (by omega) (by omega) (by omega)
   rw[g3] at hr3
   rw[g1,g2]
   have H3:=zh (zN hr3 (zN (H2.out.2.trans' hk3) hfit))
   clear hr3 hk3 g1 g2 g3 hfit ix hw
   go_wp2_with fail
   go_ret2
   rw[H1.out.2.2]
   unfold mY
   rw[if_pos (rfl:(0:Int)=0),if_neg H3.out.2.2]
   exact⟨rfl,H3.out.1,H3.out.2.1⟩
 ·go_wp2_with fail
  go_ret2
  rw[H1.out.2.2]
  unfold mY
  rw[if_neg (by omega)]
  exact⟨rfl,H1.out.1,H1.out.2.1⟩
def lH(bs:List Nat)(en p:Nat): Bool:=decide (en-p < 8) && decide (gets bs p (min (en-p) 64)=0)
theorem MI(w:World)(r:Nat)(D:Nat→Prop)(bs:List Nat)(p en:Nat)(h:Rd w r D bs p en):
  Calls Tryz.prog 395 #[.pointer (some ⟨r,0,none⟩)] w fun e w'=>e=.returned (.bool (lH bs en p))∧Keeps (fun k=>k=r) w w':=by
 have hle:=h.le
 have hsm:=h.small
 have hen:=h.en_le
 have HH:=zh h
 clear h
 obtain⟨n,hn⟩:∃ n:Nat,n=en-p:=⟨_,rfl⟩
 have hni:(en:Int)-p=(n:Int):=by omega
 have hn8:n≤8796093022208:=by omega
 have HN:=zh (zN hn hle)
 clear hn hle hsm hen
 have fin:∀ b,b=lH bs en p→Ending.returned (.bool b)=.returned (.bool (lH bs en p)):=fun b h=>by rw[h]
 have FIN:=zh fin
 clear fin
 go_enter Tryz.func395,Tryz.ntmps395
 go_wp2_with fail
 refine(Ej _ _ _ _ _ _ HH.out).mono ?_
 rintro e w1 ⟨rfl,k1,rfl⟩
 rw[hni]
 clear hni
 by_cases h64:n < 64
 ·have hmi:min (n:Int) 64=(n:Int):=by omega
  have hd:decide ((64:Int) < (n:Int))=false:=by simp;omega
  have hd2:decide ((n:Int) < 64)=true:=by simp;omega
  go_wp2_with fail
  refine(pV _ _ _ _ _ _ _ (HH.out.drewN k1)).mono ?_
  rintro e w2 ⟨rfl,hr2,hk2⟩
  obtain⟨g1,g2,g3⟩:=get_some bs p en n (by obtain ⟨h1,h2⟩:=HN.out;omega) (by omega)
  have H2:=zh (Keeps.trans' ((Keeps.refl _ w).drewN k1) hk2)
  have hz:=pU bs p n (by omega)
  obtain⟨z,hzz⟩:∃ z,z=gets bs p n:=⟨_,rfl⟩
  rw[←hzz] at hz g1
  rw[g1,g2]
  have H3:=zh (zN hzz hz)
  clear hr2 hk2 g1 g2 g3 hzz hz hmi hd hd2
  have hmn:min n 64=n:=by omega
  have HMN:=zh hmn
  clear hmn
  by_cases h8:n < 8
  ·by_cases h0:z=0
   ·subst h0
    rw[show ((0:Nat):Int)=0 from rfl]
    go_wp2_with fail
    go_ret
    refine⟨FIN.out _ ?_,H2.out⟩
    unfold lH
    rw[←HN.out.1,HMN.out,←H3.out.1]
    simp[h8]
   ·have d:((z:Int) == 0)=false:=by simp;omega
    go_wp2_with fail
    go_ret
    refine⟨FIN.out _ ?_,H2.out⟩
    unfold lH
    rw[←HN.out.1,HMN.out,←H3.out.1]
    simp[h0]
  ·go_wp2_with fail
   go_ret
   refine⟨FIN.out _ ?_,H2.out⟩
   unfold lH
   rw[←HN.out.1]
   simp[h8]
 ·have hmi:min (n:Int) 64=64:=by omega
  go_wp2_with fail
  all_goals
   refine(pV _ _ _ _ _ _ _ (HH.out.drewN k1)).mono ?_
   rintro e w2 ⟨rfl,hr2,hk2⟩
   have H2:=zh (Keeps.trans' ((Keeps.refl _ w).drewN k1) hk2)
   clear hr2 hk2
   have h8:¬ n < 8:=by omega
   have d8:decide ((n:Int) < 8)=false:=by simp;omega
   go_wp2_with fail
   go_ret
   refine⟨FIN.out _ ?_,H2.out⟩
   unfold lH
   rw[←HN.out.1]
   simp[h8]
end D
namespace D
open Go.RowKit
def sG(n:Int): Value:=.int .i64 n
def dS(n:Int): Prop:=-9223372036854775808≤n∧n≤9223372036854775807
def lu(u:Nat): Int:=if u < 9223372036854775808 then (u:Int) else (u:Int)-18446744073709551616
theorem Gi{u:Nat}(h:u < 18446744073709551616): dS (lu u):=by unfold lu dS;split<;>omega
theorem Mw{u:Nat}(h:u < 18446744073709551616): wrap64 (u:Int)=lu u:=by
 unfold lu
 unfold wrap64
 try simp only[IntKind.wrap_i64]
 split<;>omega
theorem I4{u:Nat}(h:u < 18446744073709551616): IntKind.i64.wrap (u:Int)=lu u:=by
 unfold lu
 rw[IntKind.wrap_i64]
 split<;>omega
def nextR(bs:List Nat)(en:Nat)(out:List Int)(step:Int)(p:Nat): Int × Int × Int × Nat:=
 if out.length=0 then (if p+64≤en then (lu (gets bs p 64),0,step,p+64) else (0,10,step,p))
 else (iV (out.getD (out.length-1) 0) (iV step (iw bs en p).1),(iw bs en p).2.1,iV step (iw bs en p).1,(iw bs en p).2.2)
def yx(w:World)(r:Nat)(D:Nat→Prop)(bs:List Nat)(en gs:Nat)(m:Int × Int × Int × Nat)(e:Ending)(w':World): Prop:=
 e=.returned (.tuple #[.int .i64 m.1,.int .i64 m.2.1])∧Rd w' r D bs m.2.2.2 en∧au w' gs 3 #[.int .i64 m.2.2.1]∧Keeps (fun k=>k=r∨k=gs) w w'
theorem wB(a b:Int): dS (iV a b):=by unfold iV dS;omega
theorem add_same(a b:Int)(w:World)(ha:dS a)(hb:dS b):
  Calls Tryz.prog 394 #[.int .i64 a,.int .i64 b] w fun e w'=>e=.returned (.int .i64 (iV a b))∧w'=w:=
 (Ht a b w ha.1 ha.2 hb.1 hb.2).mono fun _ _ ⟨h,k⟩=>⟨h,k.symm⟩
theorem Tt{w:World}{B:Nat}{A:Option Addr}{n c:Nat}{out:List Int}(hn:out.length=n)(h:w.ownsRow B 3 1 (.slice A n c) n (out.map sG)): Sl w (fun k=>(Value.slice A n c).ownBlock=some k) A n (fun j=>.int .i64 (out.getD j 0)):=by
 refine Sl.lQ h ?_
 intro j u hu
 rw[List.getElem?_map] at hu
 cases hj:out[j]? with
 | none=>rw[hj] at hu;cases hu
 | some x=>rw[hj] at hu;injection hu with hu;rw[List.getD_eq_getElem?_getD,hj];exact hu.symm
theorem Kh(w:World)(r:Nat)(D:Nat→Prop)(bs:List Nat)(p en B go gr gs:Nat)(v:Value)(step:Int)(h:Rd w r D bs p en)(hr:au w gr 526 #[.pointer (some ⟨r,0,none⟩)])(ho:au w go 62 #[v])(hs:au w gs 3 #[.int .i64 step])(hrow:w.ownsRow B 3 1 v 0 []):
  Calls Tryz.prog 391 #[.pointer (some ⟨go,0,none⟩),.pointer (some ⟨gr,0,none⟩),.pointer (some ⟨gs,0,none⟩)] w (yx w r D bs en gs (nextR bs en [] step p)):=by
 obtain⟨A,c,rfl,-,-⟩:=aA hrow
 have c1:=hr.cell 0
 have c2:=ho.cell 0
 simp at c1 c2
 have HH:=zh (zN h hs)
 clear h hr ho hs hrow
 have d0:(((0:Nat):Int) == 0)=true:=rfl
 go_enter Tryz.func391,Tryz.ntmps391
 go_wp2_with fail
 refine(pV _ _ _ _ _ _ _ HH.out.1).mono ?_
 rintro e w1 ⟨rfl,hr1,hk1⟩
 clear c1 c2
 have hne:gs≠r:=by
  obtain⟨A',c',hb,-⟩:=HH.out.1.blk
  exact fun e=>(hb.ne HH.out.2 (by decide)) e.symm
 by_cases hfit:p+64≤en
 ·obtain ⟨g1,g2,g3⟩:=get_some bs p en 64 hfit (by omega)
  have hz:=pU bs p 64 (by omega)
  rw[show (64:Int)=((64:Nat):Int) from rfl,g3] at hr1
  rw[show (64:Int)=((64:Nat):Int) from rfl,g1,g2]
  obtain⟨z,hzz⟩:∃ z,z=gets bs p 64:=⟨_,rfl⟩
  rw[←hzz] at hz
  rw[←hzz]
  have H1:=zh (zN hr1 (zN hk1 (zN hzz (zN hz (zN hfit hne)))))
  clear hr1 hk1 hzz g1 g2 g3 hfit hne hz
  go_wp2_with fail
  go_ret2
  obtain⟨h1,h2,h3,h4,h5,h6⟩:=H1.out
  unfold nextR
  rw[if_pos (by rfl),if_pos h5,←h3]
  refine⟨?_,h1,HH.out.2.keeps h2 h6,h2.mono fun _ _ h=>.inl h⟩
  first
  | (rw[Mw h4];rfl)
  | (rw[I4 h4];rfl)
 ·obtain ⟨g1,g2,g3⟩:=get_none bs p en 64 (by omega) (by omega) (by omega)
  rw[g3] at hr1
  rw[g1,g2]
  have H1:=zh (zN hr1 (zN hk1 (zN hfit hne)))
  clear hr1 hk1 g1 g2 g3 hfit hne
  go_wp2_with fail
  go_ret2
  obtain⟨h1,h2,h5,h6⟩:=H1.out
  unfold nextR
  rw[if_pos (by rfl),if_neg h5]
  exact⟨rfl,h1,HH.out.2.keeps h2 h6,h2.mono fun _ _ h=>.inl h⟩
theorem KW(w:World)(r:Nat)(D:Nat→Prop)(bs:List Nat)(p en B go gr gs m:Nat)(v:Value)(out:List Int)(step:Int)(h:Rd w r D bs p en)(hr:au w gr 526 #[.pointer (some ⟨r,0,none⟩)])(ho:au w go 62 #[v])(hs:au w gs 3 #[.int .i64 step])(hn:out.length=m+1)(hrow:w.ownsRow B 3 1 v (m+1) (out.map sG))(hB:gs < B)(hout:∀ j,dS (out.getD j 0))(hst:dS step)(hD:¬ D gs)(hm:m≤4096):
  Calls Tryz.prog 391 #[.pointer (some ⟨go,0,none⟩),.pointer (some ⟨gr,0,none⟩),.pointer (some ⟨gs,0,none⟩)] w (yx w r D bs en gs (nextR bs en out step p)):=by
 obtain⟨A,c,rfl,-,-⟩:=aA hrow
 obtain⟨A',c',hbr,-⟩:=h.blk
 have n1:gs≠r:=fun e=>(hbr.ne hs (by decide)) e.symm
 have n2:go≠r:=fun e=>(hbr.ne ho (by decide)) e.symm
 have n3:gs≠go:=fun e=>(hs.ne ho (by decide)) e
 have n4:∀ g,(Value.slice A (m+1) c).ownBlock=some g→g≠r:=fun g hg e=>own_ne hrow hbr (by decide) (by rw[hg,e])
 have n5:∀ g,(Value.slice A (m+1) c).ownBlock=some g→B≤g:=fun g hg=>(hrow.lt g hg).1
 have c1:=hr.cell 0
 have c2:=ho.cell 0
 simp at c1 c2
 have c2':w.cell? ⟨go,0,none⟩=some (.slice A (m+1) c):=c2
 have HH:=zh (zN h (zN hs (zN ho (zN hrow (zN hn (zN hout (zN hst (zN n1 (zN n2 (zN n3 (zN n4 (zN n5 hD))))))))))))
 clear h hr ho hs hrow hn hout hst n1 n2 n3 n4 n5 hD hbr
 have d0:(((m:Int)+1) == 0)=false:=by simp;omega
 go_enter Tryz.func391,Tryz.ntmps391
 go_wp2_with fail
 refine(Qv _ _ _ _ _ _ HH.out.1).mono ?_
 rintro e w1 ⟨rfl,hr1,hk1⟩
 obtain⟨t,ht⟩:∃ t,t=iw bs en p:=⟨_,rfl⟩
 have htr:=xC bs en p
 rw[←ht] at hr1 htr
 rw[←ht]
 obtain⟨d,er,q⟩:=t
 simp only[] at hr1 htr
 obtain⟨h,hs,ho,hrow,hn,hout,hst,n1,n2,n3,n4,n5,hD⟩:=HH.out
 have hs1:=hs.keeps hk1 n1
 have ho1:=ho.keeps hk1 n2
 have hrow1:=aF hrow hk1 n4
 have cs1:=hs1.cell 0
 have fs1:=hs1.frozen 0
 simp at cs1 fs1
 have H1:=zh (zN hr1 (zN hk1 (zN ht (zN htr (zN hs1 (zN ho1 hrow1))))))
 clear h hs ho hrow hn hout hst n1 n2 n3 n4 n5 hD hr1 hk1 ht htr hs1 ho1 hrow1 c1 c2 c2' d0
 go_wp2_with fail
 refine(Ht _ _ _ HH.out.2.2.2.2.2.2.1.1 HH.out.2.2.2.2.2.2.1.2 H1.out.2.2.2.1.1 H1.out.2.2.2.1.2).mono ?_
 rintro e w2 ⟨rfl,rfl⟩
 obtain⟨s2,hs2⟩:∃ s2,s2=iV step d:=⟨_,rfl⟩
 have hs2r:=wB step d
 rw[←hs2] at hs2r
 rw[←hs2]
 have HS2:=zh (zN hs2 hs2r)
 clear hs2 hs2r
 go_wp2_with fail
 obtain⟨h,hs,ho,hrow,hn,hout,hst,n1,n2,n3,n4,n5,hD⟩:=HH.out
 obtain⟨hr1,hk1,ht,htr,hs1,ho1,hrow1⟩:=H1.out
 obtain⟨w3,hw3⟩:∃ w3,w3=w1.setCell ⟨gs,0,none⟩ (.int .i64 s2):=⟨_,rfl⟩
 rw[←hw3]
 have k3:Keeps (fun k=>k=gs) w1 w3:=by rw[hw3];exact (Keeps.refl (fun k=>k=gs) w1).setCell (p:=⟨gs,0,none⟩) (fun _=>rfl) _
 have hs3:au w3 gs 3 #[.int .i64 s2]:=by rw[hw3];simpa using hs1.set 0 (.int .i64 s2)
 have ho3:=ho1.keeps k3 (fun e=>n3 e.symm)
 have hrow3:=aF hrow1 k3 (fun g hg e=>by have:=n5 g hg;omega)
 have hr3:Rd w3 r D bs q en:=hr1.keeps k3 (fun e=>n1 e.symm) (fun k hk e=>hD (e ▸ hk))
 obtain⟨b,off,hA,-,hcell⟩:=Tt hn hrow3 (by omega)
 subst hA
 have cl:w3.cell? ⟨b,off+m,none⟩=some (.int .i64 (out.getD m 0)):=hcell m (by omega)
 have c3s:=hs3.cell 0
 have c3o:=ho3.cell 0
 simp at c3s c3o
 have hlr:=hout m
 obtain⟨la,hla⟩:∃ la,la=out.getD m 0:=⟨_,rfl⟩
 rw[←hla] at hlr cl
 have H3:=zh (zN hr3 (zN hs3 (zN k3 (zN hla (zN hlr hn)))))
 clear h hs ho hrow hn hout hst n1 n2 n3 n4 n5 hD hr1 hk1 ht htr hs1 ho1 hrow1 hw3 k3 hs3 ho3 hrow3 hr3 hcell hla hlr cs1 fs1
 have ejw:IntKind.i64.wrap ((m:Int)+1-1)=(m:Int):=by rw[IntWalk.i64_in _ (by omega)];omega
 have ejw2:(m:Int)+1-1=(m:Int):=by omega
 have ejw3:IntKind.i64.wrap (m:Int)=(m:Int):=IntWalk.i64_in _ (by omega)
 have ejw4:((m:Int)).toNat=m:=by omega
 have hj2:(0:Int)≤(m:Int):=by omega
 have hj3:(m:Int) < (m:Int)+1:=by omega
 go_quiet ((go_at_call 394;exact Calls.quiet_of_same (add_same _ _ _ H3.out.2.2.2.2.1 HS2.out.2)))
 clear ejw ejw2 ejw3 ejw4
 go_wp2_with fail
 go_ret2
 obtain⟨hr1,hk1,ht,htr,hs1,ho1,hrow1⟩:=H1.out
 obtain⟨hr3,hs3,k3,hla,hlr,hn⟩:=H3.out
 unfold nextR
 rw[if_neg (by omega),←ht,show out.length-1=m by omega,←hla]
 refine⟨?_,hr3.drewN _,?_,?_⟩
 ·rw[HS2.out.1];rfl
 ·rw[←HS2.out.1];exact hs3.drewN _
 ·exact ((hk1.mono fun _ _ h=>.inl h).trans' (k3.mono fun _ _ h=>.inr h)).drewN _
end D
namespace D
open Go.RowKit
def mD(bs:List Nat)(en:Nat): Nat→List Int→Int→Nat→List Int × Int × Nat
 | 0,out,_,p=>(out,0,p)
 | n+1,out,step,p=>if (nextR bs en out step p).2.1=0 then mD bs en n (out ++ [(nextR bs en out step p).1]) (nextR bs en out step p).2.2.1 (nextR bs en out step p).2.2.2 else ([],(nextR bs en out step p).2.1,p)
def Si(bs:List Nat)(en:Nat)(d:List Int × Int × Nat): List Int × Int:=
 if d.2.1=0 then (if lH bs en d.2.2 then (d.1,0) else ([],11)) else ([],d.2.1)
def lJ(bs:List Nat)(n:Nat): List Int × Int:=Si bs (8*bs.length) (mD bs (8*bs.length) n [] 0 0)
def vZ(w:World)(l:List Int × Int)(e:Ending)(w':World): Prop:=
 ∃ A c,e=.returned (.tuple #[.slice A l.1.length c,.int .i64 l.2])∧w'.ownsRow w.heap.size 3 1 (.slice A l.1.length c) l.1.length (l.1.map sG)∧Keeps (fun _=>False) w w'
theorem xA(bs:List Nat)(en:Nat)(out:List Int)(step:Int)(p:Nat)(hs:dS step): dS (nextR bs en out step p).1∧dS (nextR bs en out step p).2.2.1:=by
 unfold nextR
 split
 ·split
  ·exact ⟨Gi (pU _ _ _ (by omega)),hs⟩
  ·exact ⟨⟨by show _≤(0:Int);omega,by show (0:Int)≤_;omega⟩,hs⟩
 ·exact ⟨wB _ _,wB _ _⟩
theorem KL{l:List Int}{x:Int}(h:∀ j,dS (l.getD j 0))(hx:dS x): ∀ j,dS ((l ++ [x]).getD j 0):=by
 intro j
 rw[List.getD_eq_getElem?_getD]
 rcases Nat.lt_trichotomy j l.length with hj | hj | hj
 ·rw[List.getElem?_append_left hj,←List.getD_eq_getElem?_getD];exact h j
 ·subst hj;simpa using hx
 ·rw[List.getElem?_eq_none (by simp;omega)];exact ⟨by show _≤(0:Int);omega,by show (0:Int)≤_;omega⟩
structure GX(w wr:World)(r:Nat)(D:Nat→Prop)(bs:List Nat)(en x:Nat)(out:List Int)(step:Int)(p:Nat)(v:Value): Prop where
 rd:Rd wr r D bs p en
 br:au wr x 526 #[.pointer (some ⟨r,0,none⟩)]
 bo:au wr (x+1) 62 #[v]
 bs:au wr (x+2) 3 #[.int .i64 step]
 row:wr.ownsRow (x+3) 3 1 v out.length (out.map sG)
 keep:Keeps (fun _=>False) w wr
 ints:∀ j,dS (out.getD j 0)
 st:dS step
 old:w.heap.size≤r∧r < x
 dlt:∀ k,D k→k < x
theorem Qu{w wr:World}{r:Nat}{D:Nat→Prop}{bs:List Nat}{en x:Nat}{out:List Int}{step:Int}{p:Nat}{v:Value}(h:GX w wr r D bs en x out step p v)(hl:out.length≤4096):
  Calls Tryz.prog 391 #[.pointer (some ⟨x+1,0,none⟩),.pointer (some ⟨x,0,none⟩),.pointer (some ⟨x+2,0,none⟩)] wr (yx wr r D bs en (x+2) (nextR bs en out step p)):=by
 obtain⟨h1,h2,h3,h4,h5,h6,h7,h8,h9,h10⟩:=h
 cases out with
 | nil=>exact Kh wr r D bs p en (x+3) (x+1) x (x+2) v step h1 h2 h3 h4 h5
 | cons a l=>exact KW wr r D bs p en (x+3) (x+1) x (x+2) l.length v (a :: l) step h1 h2 h3 h4 rfl h5 (by omega) h7 h8 (fun hk=>by have:=h10 _ hk;omega) (by simp at hl;omega)
theorem GX.next{w wr w':World}{r:Nat}{D:Nat→Prop}{bs:List Nat}{en x:Nat}{out:List Int}{step:Int}{p:Nat}{v:Value}{s':Int}{p':Nat}(h:GX w wr r D bs en x out step p v)(hr:Rd w' r D bs p' en)(hs:au w' (x+2) 3 #[.int .i64 s'])(hk:Keeps (fun k=>k=r∨k=x+2) wr w')(hs':dS s'): GX w w' r D bs en x out s' p' v:=by
 obtain⟨h1,h2,h3,h4,h5,h6,h7,h8,h9,h10⟩:=h
 refine⟨hr,h2.keeps hk (by omega),h3.keeps hk (by omega),hs,aF h5 hk (fun g hg=>?_),h6.trans hk (fun y hy e=>by omega),h7,hs',h9,h10⟩
 have:=(h5.lt g hg).1
 omega
theorem MK(bs:List Nat)(en p:Nat): (iw bs en p).2.1=0∨(iw bs en p).2.1=10∨(iw bs en p).2.1=11:=by
 unfold iw mY
 split
 ·split
  ·split
   ·exact .inl rfl
   ·exact .inr (.inr rfl)
  ·exact .inr (.inl rfl)
 ·rcases CQ bs en 4 p with h | h
  ·exact .inl h
  ·exact .inr (.inl h)
theorem Ml(bs:List Nat)(en:Nat)(out:List Int)(step:Int)(p:Nat): (nextR bs en out step p).2.1=0∨(nextR bs en out step p).2.1=10∨(nextR bs en out step p).2.1=11:=by
 unfold nextR
 split
 ·split
  ·exact .inl rfl
  ·exact .inr (.inl rfl)
 ·exact MK _ _ _
theorem KG(w:World)(A:Option Addr)(len c:Nat)(n:Int)(hn:n < 0):
  Calls Tryz.prog 367 #[.slice A len c,.int .i64 n] w (vZ w ([],2)):=by
 go_enter Tryz.func367,Tryz.ntmps367
 go_wp2
 go_ret2
 exact⟨none,0,rfl,⟨rfl,.inl ⟨rfl,rfl⟩⟩,Keeps.refl _ _⟩
theorem Ke(w:World)(A:Option Addr)(len c:Nat)(n:Int)(hn:4096 < n):
  Calls Tryz.prog 367 #[.slice A len c,.int .i64 n] w (vZ w ([],3)):=by
 have h0:¬ n < 0:=by omega
 go_enter Tryz.func367,Tryz.ntmps367
 go_wp2
 go_ret2
 exact⟨none,0,rfl,⟨rfl,.inl ⟨rfl,rfl⟩⟩,Keeps.refl _ _⟩
theorem LJ(w:World)(A:Option Addr)(len c:Nat)(D0:Nat→Prop)(bs:List Nat)(n:Nat)(hl:bs.length=len)(hsl:Sl w D0 A len (aD bs))(hbyte:∀ j,bs.getD j 0 < 256)(hsm:len≤1048576)(hn:n≤4096):
  Calls Tryz.prog 367 #[.slice A len c,.int .i64 n] w (vZ w (lJ bs n)):=by
 have HS:=zh (zN hsl (zN hbyte hl))
 clear hsl hbyte hl
 have d1:decide ((n:Int) < 0)=false:=by simp
 have d2:decide ((4096:Int) < n)=false:=by simp;omega
 go_enter Tryz.func367,Tryz.ntmps367
 go_wp2_with fail
 refine(uy _ _ _ _ _ bs _ HS.out.2.2 HS.out.1 HS.out.2.1 (by omega) (by omega) (by omega)).mono ?_
 rintro e w1 ⟨r,rfl,hlr,hr1,hk1⟩
 clear d1 d2
 obtain⟨en,hen⟩:∃ en,en=(8*(len:Int)).toNat:=⟨_,rfl⟩
 rw[←hen] at hr1
 have hrlt:r < w1.heap.size:=by obtain ⟨A',c',hb,-⟩:=hr1.blk;exact hb.lt
 have H1:=zh (zN hr1 (zN hk1 (zN hlr (zN hrlt hen))))
 clear hr1 hk1 hlr hrlt hen
 go_wp2_with fail
 obtain⟨x,hx⟩:∃ x,x=w1.heap.size:=⟨_,rfl⟩
 obtain⟨D,hD⟩:∃ D:Nat→Prop,D=fun k=>w.heap.size≤k∧k < r:=⟨_,rfl⟩
 have hst:GX w (((w1.alloc (.cells #[.pointer (some ⟨r,0,none⟩)] 526)).alloc (.cells #[.slice none 0 0] 62)).alloc (.cells #[.int .i64 0] 3)) r D bs en x [] 0 0 (.slice none 0 0):=by
  obtain⟨hr1,hk1,hlr,hrlt,hen⟩:=H1.out
  subst hx
  subst hD
  refine⟨hr1.keeps (S:=fun _=>False) ((((Keeps.refl _ w1).alloc _).alloc _).alloc _) (fun h=>h) (fun _ _ h=>h),((au.fresh w1 _ _).alloc _).alloc _,?_,?_,⟨rfl,.inl ⟨rfl,rfl⟩⟩,((hk1.alloc _).alloc _).alloc _,fun j=>?_,⟨by omega,by omega⟩,⟨hlr,hrlt⟩,fun k hk=>by omega⟩
  ·have:=(au.fresh (w1.alloc (.cells #[.pointer (some ⟨r,0,none⟩)] 526)) 62 #[.slice none 0 0]).alloc (.cells #[.int .i64 0] 3)
   simpa using this
  ·have:=(au.fresh ((w1.alloc (.cells #[.pointer (some ⟨r,0,none⟩)] 526)).alloc (.cells #[.slice none 0 0] 62)) 3 #[.int .i64 0])
   simpa using this
  ·exact ⟨by simp,by simp⟩
 have H2:=zh hst
 rw[←hx]
 clear hst hD hx
 go_loopw [29] (fun i wr=>∃ (k:Nat) (out:List Int) (step:Int) (p:Nat) (v:Value),k≤n∧i=.int .i64 k∧GX w wr r D bs en x out step p v∧out.length=k∧mD bs en n [] 0 0=mD bs en (n-k) out step p)
  (fun i _=>n-(intOf i).toNat)
 case atStart=>exact ⟨0,[],0,0,.slice none 0 0,Nat.zero_le _,rfl,H2.out,rfl,rfl⟩
 case round=>
  obtain⟨k,out,step,p,v,hk,rfl,hst,hlen,hdec⟩:=hrel
  by_cases hlt:k < n
  ·obtain ⟨f,hf⟩:∃ f,n-k=f+1:=⟨n-k-1,by omega⟩
   rw[hf] at hdec
   have HR:=zh (zN hst (zN hlen (zN hdec hf)))
   clear hst hlen hdec hf
   go_wp2_with fail
   refine(Qu HR.out.1 (by rw[HR.out.2.1];omega)).mono ?_
   rintro e w2 ⟨rfl,hr2,hs2,hk2⟩
   have hrg:=xA bs en out step p HR.out.1.st
   have her:=Ml bs en out step p
   have hd2:mD bs en (f+1) out step p=if (nextR bs en out step p).2.1=0 then mD bs en f (out ++ [(nextR bs en out step p).1]) (nextR bs en out step p).2.2.1 (nextR bs en out step p).2.2.2 else ([],(nextR bs en out step p).2.1,p):=rfl
   obtain⟨q,hq⟩:∃ q,q=nextR bs en out step p:=⟨_,rfl⟩
   rw[←hq] at hr2 hs2 hrg her hd2
   rw[←hq]
   obtain⟨t,er,s',p'⟩:=q
   simp only[] at hr2 hs2 hrg her hd2
   have hst2:=HR.out.1.next hr2 hs2 hk2 hrg.2
   have hfin:∀ z:Int,(z=10∨z=11)→z=er→∃ A c,Ending.returned (.tuple #[.slice none 0 0,.int .i64 z])=.returned (.tuple #[.slice A (lJ bs n).1.length c,.int .i64 (lJ bs n).2])∧w2.ownsRow w.heap.size 3 1 (.slice A (lJ bs n).1.length c) (lJ bs n).1.length ((lJ bs n).1.map sG)∧Keeps (fun _=>False) w w2:=by
    intro z hz e
    have hne:er≠0:=by omega
    rw[if_neg hne] at hd2
    have hen:en=8*bs.length:=by have:=H1.out.2.2.2.2;have:=HS.out.2.2;omega
    have:lJ bs n=([],er):=by
     unfold lJ
     rw[←hen,HR.out.2.2.1,hd2]
     show (if er=0 then _ else _)=_
     rw[if_neg hne]
    rw[this,e]
    exact⟨none,0,rfl,⟨rfl,.inl ⟨rfl,rfl⟩⟩,hst2.keep⟩
   have HF:=zh hfin
   have H3:=zh (zN hst2 (zN hrg (zN hd2 hq)))
   clear hr2 hs2 hk2 hrg hd2 hq hst2 hfin
   rcases her with rfl | rfl | rfl
   ·have c3o:=H3.out.1.bo.cell 0
    simp at c3o
    obtain⟨A3,c3,hv3,-,-⟩:=aA H3.out.1.row
    have HV3:=zh hv3
    clear hv3
    go_wp2_with (at_builtin;refine aW (f:=fun _=>.int .i64 t) (D:=fun k=>k=w2.heap.size) (base:=x+3) (n:=out.length) (xs:=out.map sG) RP rfl (.tmp 39) (.tmp 41) rfl rfl rfl ?hown ?hsl ?h1 ?h63 ?hby ?hbase ?_)
    case hown=>exact H3.out.1.row.alloc _
    case hsl=>exact kS _ _ _
    case h1=>intro j _;rfl
    case h63=>unfold maxLen;have:=HR.out.2.1;omega
    case hby=>have:=HR.out.2.1;omega
    case hbase=>have:=H3.out.1.bs.lt;simp;omega
    intro v4 w4 hown4 hg4 hat4
    obtain⟨A4,c4',hv4,-,-⟩:=aA hown4
    subst hv4
    have hk4:Keeps (fun k=>v.ownBlock=some k) w2 w4:=((Keeps.refl _ w2).alloc _).grown hg4 (fun q hq _=>hq)
    have hvb:∀ g,v.ownBlock=some g→x+3≤g:=fun g hg=>(H3.out.1.row.lt g hg).1
    have hbo4:=H3.out.1.bo.keeps hk4 (fun e=>by have:=hvb _ e;omega)
    have hbs4:=H3.out.1.bs.keeps hk4 (fun e=>by have:=hvb _ e;omega)
    have hbr4:=H3.out.1.br.keeps hk4 (fun e=>by have:=hvb _ e;omega)
    have hrd4:=H3.out.1.rd.keeps hk4 (fun e=>by have:=hvb _ e;have:=H3.out.1.old;omega) (fun k hk e=>by have:=hvb _ e;have:=H3.out.1.dlt k hk;omega)
    have hkk4:Keeps (fun _=>False) w w4:=H3.out.1.keep.trans hk4 (fun y hy e=>by have:=hvb _ e;have:=H3.out.1.old;omega)
    have c4:=hbo4.cell 0
    have f4:=hbo4.frozen 0
    simp at c4 f4
    have H4:=zh (zN hown4 (zN hbo4 (zN hbs4 (zN hbr4 (zN hrd4 hkk4)))))
    clear hown4 hg4 hat4 hk4 hvb hbo4 hbs4 hbr4 hrd4 hkk4
    go_wp2_with fail
    go_roundw
    case rel=>
     obtain⟨hown4,hbo4,hbs4,hbr4,hrd4,hkk4⟩:=H4.out
     obtain⟨hst2,hrg,hd2,hq⟩:=H3.out
     have k5:Keeps (fun k=>k=x+1) w4 (w4.setCell ⟨x+1,0,none⟩ (.slice A4 (out.length+1) c4')):=(Keeps.refl (fun k=>k=x+1) w4).setCell (p:=⟨x+1,0,none⟩) (fun _=>rfl) _
     refine⟨k+1,out ++ [t],s',p',.slice A4 (out.length+1) c4',by omega,by go_num,⟨?_,?_,?_,?_,?_,?_,?_,hrg.2,hst2.old,hst2.dlt⟩,by simp[HR.out.2.1],?_⟩
     ·exact hrd4.keeps k5 (fun e=>by have:=hst2.old;omega) (fun k hk e=>by have:=hst2.dlt k hk;omega)
     ·exact hbr4.keeps k5 (by omega)
     ·simpa using hbo4.set 0 (.slice A4 (out.length+1) c4')
     ·exact hbs4.keeps k5 (by omega)
     ·have h:=aF hown4 k5 (fun g hg e=>by have:=(hown4.lt g hg).1;omega)
      rw[List.length_append,List.map_append]
      exact h
     ·exact hkk4.trans k5 (fun y hy e=>by have:=hst2.old;omega)
     ·exact KL hst2.ints hrg.1
     ·rw[HR.out.2.2.1,hd2,show n-(k+1)=f by have:=HR.out.2.2.2;omega];exact if_pos (by trivial)
    case measure=>simp[intOf];omega
   ·go_wp2_with fail
    go_ret2
    exact HF.out 10 (.inl rfl) rfl
   ·go_wp2_with fail
    go_ret2
    exact HF.out 11 (.inr rfl) rfl
  ·obtain rfl:k=n:=by omega
   rw[Nat.sub_self] at hdec
   have c3:=hst.br.cell 0
   simp at c3
   have HR:=zh (zN hst (zN hlen hdec))
   clear hst hlen hdec
   go_wp2_with fail
   refine(MI _ _ _ _ _ _ HR.out.1.rd).mono ?_
   rintro e w2 ⟨rfl,hk2⟩
   have hbo2:=HR.out.1.bo.keeps hk2 (fun e=>by have:=HR.out.1.old;omega)
   have hro2:=aF HR.out.1.row hk2 (fun g hg e=>by have:=(HR.out.1.row.lt g hg).1;have:=HR.out.1.old;omega)
   have hkk2:Keeps (fun _=>False) w w2:=HR.out.1.keep.trans hk2 (fun y hy e=>by have:=HR.out.1.old;omega)
   have hen:en=8*bs.length:=by have:=H1.out.2.2.2.2;have:=HS.out.2.2;omega
   have hd:lJ bs k=if lH bs en p then (out,0) else ([],11):=by
    unfold lJ
    rw[←hen,HR.out.2.2]
    rfl
   have c4:=hbo2.cell 0
   simp at c4
   obtain⟨A3,c3',hv3,-,-⟩:=aA hro2
   rw[hv3] at hro2 c4
   have H2':=zh (zN hro2 (zN hkk2 (zN hd hen)))
   clear hbo2 hro2 hkk2 hk2 hd hen hv3
   obtain⟨b,hb⟩:∃ b,b=lH bs en p:=⟨_,rfl⟩
   rw[←hb]
   have HB:=zh hb
   clear hb
   cases b
   ·go_wp2_with fail
    go_ret2
    obtain⟨h1,h2,h3,h4⟩:=H2'.out
    rw[←HB.out] at h3
    rw[h3]
    exact⟨none,0,rfl,⟨rfl,.inl ⟨rfl,rfl⟩⟩,h2⟩
   ·go_wp2_with fail
    go_ret2
    obtain⟨h1,h2,h3,h4⟩:=H2'.out
    rw[←HB.out] at h3
    rw[h3]
    exact⟨A3,c3',rfl,aU h1 (by have:=HR.out.1.old;omega),h2⟩
end D
section
theorem Eu(bs:List Nat)(p n j:Nat)(h:j < n): gets bs p n / 2 ^ (n-1-j)%2=bI bs (p+j):=by
 induction n with
 | zero=>omega
 | succ n ih=>
  have hb:=sI bs (p+n)
  rcases Nat.lt_or_ge j n with hj | hj
  ·rw[show n+1-1-j=(n-1-j)+1 by omega,Nat.pow_succ,Nat.mul_comm,←Nat.div_div_eq_div_mul,gets]
   rw[show (2*gets bs p n+bI bs (p+n)) / 2=gets bs p n by omega]
   exact ih hj
  ·obtain rfl:j=n:=by omega
   rw[show j+1-1-j=0 by omega,gets]
   simp only[Nat.pow_zero,Nat.div_one]
   omega
theorem Pn{x y:Nat}(hx:x < 256)(hy:y < 256)(h:∀ r,r < 8→x / 2 ^ (7-r)%2=y / 2 ^ (7-r)%2): x=y:=by
 have h0:=h 0 (by omega)
 have h1:=h 1 (by omega)
 have h2:=h 2 (by omega)
 have h3:=h 3 (by omega)
 have h4:=h 4 (by omega)
 have h5:=h 5 (by omega)
 have h6:=h 6 (by omega)
 have h7:=h 7 (by omega)
 simp at h0 h1 h2 h3 h4 h5 h6 h7
 omega
theorem NA{a b:List Nat}(hl:a.length=b.length)(ha:∀ j,a.getD j 0 < 256)(hb:∀ j,b.getD j 0 < 256)(h:∀ i,i < 8*a.length→bI a i=bI b i): a=b:=by
 apply List.ext_getElem hl
 intro i h1 h2
 have e:a.getD i 0=b.getD i 0:=by
  refine Pn (ha i) (hb i) fun r hr=>?_
  have:=h (8*i+r) (by omega)
  unfold bI at this
  rw[show (8*i+r) / 8=i by omega,show (8*i+r)%8=r by omega] at this
  exact this
 rw[List.getD_eq_getElem?_getD,List.getD_eq_getElem?_getD,List.getElem?_eq_getElem h1,List.getElem?_eq_getElem h2] at e
 exact e
structure Begins(bs L:List Nat): Prop where
 le:L.length≤8*bs.length
 eq:∀ i,i < L.length→bI bs i=L.getD i 0
namespace Begins
variable {bs L M:List Nat} {n v:Nat}
theorem nil(bs:List Nat): Begins bs []:=⟨Nat.zero_le _,fun i h=>absurd h (by simp)⟩
theorem put(h:Begins bs L)(hn:L.length+n≤8*bs.length)(hv:gets bs L.length n=v): Begins bs (L ++ aM v n n):=by
 refine⟨by rw[List.length_append,aG];exact hn,fun i hi=>?_⟩
 rw[List.length_append,aG] at hi
 rcases Nat.lt_or_ge i L.length with hl | hl
 ·rw[mG _ _ _ hl];exact h.eq i hl
 ·obtain ⟨j,rfl⟩:∃ j,i=L.length+j:=⟨i-L.length,by omega⟩
  rw[lI,wT _ _ _ _ (by omega),←hv,Eu _ _ _ _ (by omega)]
theorem pre(h:Begins bs (L ++ M)): Begins bs L:=by
 refine⟨by have:=h.le;rw[List.length_append] at this;omega,fun i hi=>?_⟩
 rw[h.eq i (by rw[List.length_append];omega),mG _ _ _ hi]
theorem get(h:Begins bs (L ++ aM v n n))(hv:v < 2 ^ n): gets bs L.length n=v:=by
 have:=J2 (bs:=bs) (p:=L.length) (u:=v) (n:=n) (fun j hj=>by
  rw[h.eq _ (by rw[List.length_append,aG];omega),lI,wT _ _ _ _ hj]) n (Nat.le_refl _)
 rw[this]
 simp[Nat.mod_eq_of_lt hv]
theorem room(h:Begins bs (L ++ M)): L.length+M.length≤8*bs.length:=by have:=h.le;rw[List.length_append] at this;exact this
theorem bit(h:Begins bs (L ++ M))(j:Nat)(hj:j < M.length): bI bs (L.length+j)=M.getD j 0:=by
 rw[h.eq _ (by rw[List.length_append];omega),lI]
theorem snoc(h:Begins bs L)(hn:L.length < 8*bs.length){b:Nat}(hb:bI bs L.length=b): Begins bs (L ++ [b]):=by
 refine⟨by rw[List.length_append];simp;omega,fun i hi=>?_⟩
 rw[List.length_append] at hi
 simp at hi
 rcases Nat.lt_or_ge i L.length with hl | hl
 ·rw[mG _ _ _ hl];exact h.eq i hl
 ·obtain rfl:i=L.length:=by omega
  rw[hb,qA]
theorem pack{L:List Nat}(h:∀ j,L.getD j 0 < 2): Begins (pack L) L:=
 ⟨by rw[bK];omega,fun i _=>tH h i⟩
theorem all(h:Begins bs L)(hb:∀ j,bs.getD j 0 < 256)(hL:∀ j,L.getD j 0 < 2)(hend:8*bs.length < L.length+8)(h0:gets bs L.length (8*bs.length-L.length)=0): bs=Go.Proofs.YtmffkpkgbdcnjaaGreatDoor.pack L:=by
 have hle:=h.le
 refine NA (by rw[bK];omega) hb (fun j=>by rw[fU];exact kJ hL j) fun i hi=>?_
 rw[tH hL]
 rcases Nat.lt_or_ge i L.length with hl | hl
 ·exact h.eq i hl
 ·obtain ⟨j,rfl⟩:∃ j,i=L.length+j:=⟨i-L.length,by omega⟩
  rw[←Eu bs L.length (8*bs.length-L.length) j (by omega),h0,gV L _ (by omega)]
  simp
end Begins
theorem Cn{bs:List Nat}{p:Nat}: ∀ n,(∀ j,j < n→bI bs (p+j)=0)→gets bs p n=0
 | 0,_=>rfl
 | n+1,h=>by rw[gets,Cn n (fun j hj=>h j (by omega)),h n (by omega)]
theorem um{L:List Nat}(h:∀ j,L.getD j 0 < 2)(n:Nat): gets (pack L) L.length n=0:=
 Cn n fun j _=>by rw[tH h,gV L _ (by omega)]
end
namespace D
def gX(c:Nat): List Nat:=List.replicate c 1 ++ (if c < 4 then [0] else [])
theorem ko{c:Nat}(h:c≤4): (gX c).length=ah c:=by
 unfold gX ah
 rw[List.length_append,List.length_replicate]
 split
 ·simp;omega
 ·simp;omega
theorem tZ(z:Nat): gU z=gX (cls z) ++ aM z (wd (cls z)) (wd (cls z)):=MF z
theorem Cm(bs L:List Nat)(c q:Nat): ∀ f,f≤4→Begins bs (L ++ List.replicate (4-f) 1)→bR bs (8*bs.length) f (L.length+(4-f))=(c,0,q)→c≤4∧Begins bs (L ++ gX c)∧q=L.length+ah c
 | 0,_,hb,h=>by
  injection h with h1 h2
  injection h2 with h2 h3
  subst h1
  subst h3
  refine⟨Nat.le_refl _,?_,rfl⟩
  simpa [gX] using hb
 | f+1,hf,hb,h=>by
  have hl:(L ++ List.replicate (4-(f+1)) 1).length=L.length+(4-(f+1)):=by simp
  unfold bR at h
  by_cases hp:L.length+(4-(f+1)) < 8*bs.length
  ·rw[if_pos hp] at h
   by_cases h0:bI bs (L.length+(4-(f+1)))=0
   ·rw[if_pos h0] at h
    injection h with h1 h2
    injection h2 with h2 h3
    subst h1
    subst h3
    refine⟨by omega,?_,by unfold ah;omega⟩
    unfold gX
    rw[if_pos (by omega),←List.append_assoc]
    exact hb.snoc (by rw[hl];exact hp) (by rw[hl];exact h0)
   ·rw[if_neg h0] at h
    have h1:bI bs (L.length+(4-(f+1)))=1:=by have:=sI bs (L.length+(4-(f+1)));omega
    have hs:=hb.snoc (b:=1) (by rw[hl];exact hp) (by rw[hl];exact h1)
    rw[List.append_assoc,←List.replicate_succ',show 4-(f+1)+1=4-f by omega] at hs
    rw[show L.length+(4-(f+1))+1=L.length+(4-f) by omega] at h
    exact Cm bs L c q f (by omega) hs h
  ·rw[if_neg hp] at h
   injection h with h1 h2
   injection h2 with h2 h3
   omega
theorem O9{bs L:List Nat}{d:Int}{q:Nat}(hb:Begins bs L)(h:iw bs (8*bs.length) L.length=(d,0,q)): Begins bs (L ++ gU (zig d))∧q=(L ++ gU (zig d)).length∧dS d:=by
 have hr:=xC bs (8*bs.length) L.length
 rw[h] at hr
 unfold iw at h
 have hm:=Cm bs L (bR bs (8*bs.length) 4 L.length).1 (bR bs (8*bs.length) 4 L.length).2.2 4 (Nat.le_refl _) (by simpa using hb)
 generalize bR bs (8*bs.length) 4 L.length=mm at h hm
 obtain⟨c,e,p⟩:=mm
 simp only[] at h hm
 unfold mY at h
 by_cases he:e=0
 ·subst he
  obtain⟨hc,hB,hp⟩:=hm rfl
  rw[if_pos rfl] at h
  by_cases hfit:p+wd c≤8*bs.length
  ·rw[if_pos hfit] at h
   by_cases hcl:cls (gets bs p (wd c))=c
   ·rw[if_pos hcl] at h
    injection h with h1 h2
    injection h2 with h2 h3
    have hz:zig d=gets bs p (wd c):=by rw[←h1,Rb]
    have hpl:p=(L ++ gX c).length:=by rw[List.length_append,ko hc];exact hp
    have hB2:=hB.put (n:=wd c) (v:=gets bs p (wd c)) (by rw[←hpl];exact hfit) (by rw[←hpl])
    rw[hz,tZ,hcl,←List.append_assoc]
    refine⟨hB2,?_,hr⟩
    rw[List.length_append,aG,←hpl,h3]
   ·rw[if_neg hcl] at h
    injection h with h1 h2
    injection h2 with h2 h3
    omega
  ·rw[if_neg hfit] at h
   injection h with h1 h2
   injection h2 with h2 h3
   omega
 ·rw[if_neg he] at h
  injection h with h1 h2
  injection h2 with h2 h3
  exact absurd h2 he
theorem NT{bs L:List Nat}{c:Nat}(hc:c≤4)(h:Begins bs (L ++ gX c)): bR bs (8*bs.length) 4 L.length=(c,0,L.length+ah c):=by
 have hr:=h.room
 rw[ko hc] at hr
 have hbit:∀ j,j < ah c→bI bs (L.length+j)=(gX c).getD j 0:=fun j hj=>h.bit j (by rw[ko hc];exact hj)
 rcases(show c=0∨c=1∨c=2∨c=3∨c=4 by omega) with rfl | rfl | rfl | rfl | rfl
 ·have hr':L.length+1≤8*bs.length:=hr
  have a0:bI bs (L.length+0)=0:=hbit 0 (by decide)
  show bR bs (8*bs.length) 4 L.length=(0,0,L.length+1)
  rw[bR,if_pos (by omega),if_pos (by exact a0)]
 ·have hr':L.length+2≤8*bs.length:=hr
  have a0:bI bs (L.length+0)=1:=hbit 0 (by decide)
  have a1:bI bs (L.length+1)=0:=hbit 1 (by decide)
  show bR bs (8*bs.length) 4 L.length=(1,0,L.length+2)
  rw[bR,if_pos (by omega),if_neg (fun e=>by have e':bI bs (L.length+0)=0:=e;omega)]
  rw[bR,if_pos (by omega),if_pos (by exact a1)]
 ·have hr':L.length+3≤8*bs.length:=hr
  have a0:bI bs (L.length+0)=1:=hbit 0 (by decide)
  have a1:bI bs (L.length+1)=1:=hbit 1 (by decide)
  have a2:bI bs (L.length+2)=0:=hbit 2 (by decide)
  show bR bs (8*bs.length) 4 L.length=(2,0,L.length+3)
  rw[bR,if_pos (by omega),if_neg (fun e=>by have e':bI bs (L.length+0)=0:=e;omega)]
  rw[bR,if_pos (by omega),if_neg (fun e=>by have e':bI bs (L.length+1)=0:=e;omega)]
  rw[bR,if_pos (by omega),if_pos (by exact a2)]
 ·have hr':L.length+4≤8*bs.length:=hr
  have a0:bI bs (L.length+0)=1:=hbit 0 (by decide)
  have a1:bI bs (L.length+1)=1:=hbit 1 (by decide)
  have a2:bI bs (L.length+2)=1:=hbit 2 (by decide)
  have a3:bI bs (L.length+3)=0:=hbit 3 (by decide)
  show bR bs (8*bs.length) 4 L.length=(3,0,L.length+4)
  rw[bR,if_pos (by omega),if_neg (fun e=>by have e':bI bs (L.length+0)=0:=e;omega)]
  rw[bR,if_pos (by omega),if_neg (fun e=>by have e':bI bs (L.length+1)=0:=e;omega)]
  rw[bR,if_pos (by omega),if_neg (fun e=>by have e':bI bs (L.length+2)=0:=e;omega)]
  rw[bR,if_pos (by omega),if_pos (by exact a3)]
 ·have hr':L.length+4≤8*bs.length:=hr
  have a0:bI bs (L.length+0)=1:=hbit 0 (by decide)
  have a1:bI bs (L.length+1)=1:=hbit 1 (by decide)
  have a2:bI bs (L.length+2)=1:=hbit 2 (by decide)
  have a3:bI bs (L.length+3)=1:=hbit 3 (by decide)
  show bR bs (8*bs.length) 4 L.length=(4,0,L.length+4)
  rw[bR,if_pos (by omega),if_neg (fun e=>by have e':bI bs (L.length+0)=0:=e;omega)]
  rw[bR,if_pos (by omega),if_neg (fun e=>by have e':bI bs (L.length+1)=0:=e;omega)]
  rw[bR,if_pos (by omega),if_neg (fun e=>by have e':bI bs (L.length+2)=0:=e;omega)]
  rw[bR,if_pos (by omega),if_neg (fun e=>by have e':bI bs (L.length+3)=0:=e;omega)]
  rfl
theorem NU{z:Nat}(hz:z < 18446744073709551616): z < 2 ^ wd (cls z):=by
 unfold cls
 split
 ·subst z;decide
 ·split
  ·show z < 2 ^ 7;omega
  ·split
   ·show z < 2 ^ 12;omega
   ·split
    ·show z < 2 ^ 32;omega
    ·show z < 2 ^ 64;omega
theorem N8{bs L:List Nat}{z:Nat}(hz:z < 18446744073709551616)(h:Begins bs (L ++ gU z)): iw bs (8*bs.length) L.length=(zag z,0,(L ++ gU z).length):=by
 have hc:=Aw z
 rw[tZ,←List.append_assoc] at h
 have hm:=NT hc h.pre
 have hpl:L.length+ah (cls z)=(L ++ gX (cls z)).length:=by rw[List.length_append,ko hc]
 have hg:=h.get (NU hz)
 have hroom:=h.room
 rw[aG] at hroom
 unfold iw
 rw[hm]
 show mY bs (8*bs.length) (cls z) 0 (L.length+ah (cls z))=_
 unfold mY
 rw[if_pos rfl,hpl,if_pos hroom,hg,if_pos rfl,tZ,←List.append_assoc]
 have e:(L ++ gX (cls z) ++ aM z (wd (cls z)) (wd (cls z))).length=(L ++ gX (cls z)).length+wd (cls z):=by rw[List.length_append,aG]
 rw[e]
theorem nW{f g:Nat→Int}: ∀ k,(∀ j,j < k→f j=g j)→aY f k=aY g k∧st f k=st g k
 | 0,_=>⟨rfl,rfl⟩
 | 1,h=>⟨by unfold aY;rw[h 0 (by omega)],rfl⟩
 | k+2,h=>by
  obtain⟨h1,h2⟩:=nW (k+1) (fun j hj=>h j (by omega))
  refine⟨?_,?_⟩
  ·unfold aY
   rw[h1,h2,h (k+1) (by omega),h k (by omega)]
  ·show dR (f (k+1)) (f k)=dR (g (k+1)) (g k)
   rw[h (k+1) (by omega),h k (by omega)]
theorem KR(f:Nat→Int)(k n:Nat)(h:k≤n): ∃ M,aY f n=aY f k ++ M:=by
 obtain⟨m,rfl⟩:∃ m,n=k+m:=⟨n-k,by omega⟩
 clear h
 induction m with
 | zero=>exact ⟨[],by simp⟩
 | succ m ih=>
  obtain⟨M,hM⟩:=ih
  match hk:k+m with
  | 0=>
   have:k=0:=by omega
   subst this
   exact⟨_,by rw[show aY f 0=[] from rfl,List.nil_append]⟩
  | j+1=>
   rw[hk] at hM
   rw[show k+(m+1)=j+2 by omega]
   refine⟨M ++ gU (zig (dR (dR (f (j+1)) (f j)) (st f (j+1)))),?_⟩
   show aY f (j+1) ++ _=_
   rw[hM,List.append_assoc]
theorem Lg{n:Int}(h:dS n): lu (u64 n)=n:=by unfold lu u64;unfold dS at h;split<;>omega
theorem K8{u:Nat}(h:u < 18446744073709551616): u64 (lu u)=u:=by unfold lu u64;split<;>omega
theorem Cq{a b:Int}(h:dS a): iV b (dR a b)=a:=by unfold iV dR;unfold dS at h;omega
theorem E8{a s:Int}(h:dS s): dR (iV a s) a=s:=by unfold iV dR;unfold dS at h;omega
def upTo(f:Nat→Int)(k:Nat): List Int:=(List.range k).map f
theorem xH(f:Nat→Int)(k:Nat): (upTo f k).length=k:=by simp[upTo]
theorem Nl(f:Nat→Int)(k:Nat): upTo f (k+1)=upTo f k ++ [f k]:=by simp[upTo,List.range_succ]
theorem MG(f:Nat→Int)(k j:Nat)(h:j < k): (upTo f k).getD j 0=f j:=by
 unfold upTo
 rw[List.getD_eq_getElem?_getD,List.getElem?_map,List.getElem?_range h];rfl
theorem PD{bs:List Nat}{f:Nat→Int}{k:Nat}(hf:∀ j,dS (f j))(h:Begins bs (aY f (k+1))):
  nextR bs (8*bs.length) (upTo f k) (st f k) (aY f k).length=(f k,0,st f (k+1),(aY f (k+1)).length):=by
 match k with
 | 0=>
  have h':Begins bs ([] ++ aM (u64 (f 0)) 64 64):=h
  have hg:=h'.get (zI _)
  have hroom:=h'.room
  rw[aG] at hroom
  unfold nextR
  rw[xH,if_pos rfl]
  show (if 0+64≤8*bs.length then _ else _)=_
  rw[if_pos (show 0+64≤8*bs.length from hroom)]
  show (lu (gets bs 0 64),_,_,_)=_
  have hg':gets bs 0 64=u64 (f 0):=hg
  rw[hg',Lg (hf 0)]
  show _=(f 0,0,0,(aM (u64 (f 0)) 64 64).length)
  rw[aG]
  rfl
 | k+1=>
  have h':Begins bs (aY f (k+1) ++ gU (zig (dR (dR (f (k+1)) (f k)) (st f (k+1))))):=h
  have ht:=N8 (jc (gH _ _).1 (gH _ _).2) h'
  rw[AX] at ht
  unfold nextR
  rw[xH,if_neg (by omega),ht]
  show (iV _ (iV _ (dR _ _)),0,iV _ (dR _ _),_)=_
  have e1:iV (st f (k+1)) (dR (dR (f (k+1)) (f k)) (st f (k+1)))=dR (f (k+1)) (f k):=Cq (gH _ _)
  rw[show k+1-1=k by omega,MG f (k+1) k (by omega),e1,Cq (hf (k+1))]
  rfl
theorem Ii{bs:List Nat}{f:Nat→Int}{n:Nat}(hf:∀ j,dS (f j))(h:Begins bs (aY f n)): ∀ m k,m+k=n→mD bs (8*bs.length) m (upTo f k) (st f k) (aY f k).length=(upTo f n,0,(aY f n).length)
 | 0,k,hk=>by
  obtain rfl:k=n:=by omega
  rfl
 | m+1,k,hk=>by
  obtain⟨M,hM⟩:=KR f (k+1) n (by omega)
  have hb:Begins bs (aY f (k+1)):=by rw[hM] at h;exact h.pre
  unfold mD
  rw[PD hf hb]
  show (if (0:Int)=0 then _ else _)=_
  rw[if_pos rfl,←Nl]
  exact Ii hf h m (k+1) (by omega)
theorem Fa{f:Nat→Int}(hf:∀ j,dS (f j))(n:Nat): lJ (pack (aY f n)) n=(upTo f n,0):=by
 have hb:=qF f n
 have h:=Ii hf (Begins.pack hb) n 0 (by omega)
 have h':mD (pack (aY f n)) (8*(pack (aY f n)).length) n [] 0 0=(upTo f n,0,(aY f n).length):=h
 unfold lJ
 rw[h']
 show (if (0:Int)=0 then _ else _)=_
 rw[if_pos rfl]
 have he:lH (pack (aY f n)) (8*(pack (aY f n)).length) (aY f n).length=true:=by
  unfold lH
  rw[um hb,bK]
  simp
  omega
 show (if lH _ _ (aY f n).length=true then _ else _)=_
 rw[he]
 rfl
theorem Qf{bs:List Nat}{out:List Int}{t s':Int}{p':Nat}(hb:Begins bs (aY (fun j=>out.getD j 0) out.length))(h:nextR bs (8*bs.length) out (st (fun j=>out.getD j 0) out.length) (aY (fun j=>out.getD j 0) out.length).length=(t,0,s',p')):
  Begins bs (aY (fun j=>(out ++ [t]).getD j 0) (out.length+1))∧s'=st (fun j=>(out ++ [t]).getD j 0) (out.length+1)∧p'=(aY (fun j=>(out ++ [t]).getD j 0) (out.length+1)).length:=by
 have hg:∀ j,j < out.length→out.getD j 0=(out ++ [t]).getD j 0:=fun j hj=>by
  rw[List.getD_eq_getElem?_getD,List.getD_eq_getElem?_getD,List.getElem?_append_left hj]
 have hlast:(out ++ [t]).getD out.length 0=t:=by
  rw[List.getD_eq_getElem?_getD];simp
 obtain⟨c1,c2⟩:=nW out.length hg
 unfold nextR at h
 cases hl:out.length with
 | zero=>
  have ho:out=[]:=List.eq_nil_of_length_eq_zero hl
  subst ho
  rw[if_pos (show ([]:List Int).length=0 from rfl)] at h
  have h':(if 0+64≤8*bs.length then (lu (gets bs 0 64),(0:Int),(0:Int),0+64) else (0,10,0,0))=(t,0,s',p'):=h
  by_cases hfit:0+64≤8*bs.length
  ·rw[if_pos hfit] at h'
   injection h' with h1 h2
   injection h2 with h2 h3
   injection h3 with h3 h4
   have hz:=pU bs 0 64 (by omega)
   have hB:=(Begins.nil bs).put (n:=64) (v:=gets bs 0 64) hfit rfl
   have e:aY (fun j=>([] ++ [t]).getD j 0) (0+1)=[] ++ aM (gets bs 0 64) 64 64:=by
    show aM (u64 t) 64 64=_
    rw[←h1,K8 hz]
    rfl
   rw[e]
   refine⟨hB,h3.symm,?_⟩
   rw[←h4,List.nil_append,aG]
  ·rw[if_neg hfit] at h'
   injection h' with h1 h2
   injection h2 with h2 h3
   omega
 | succ k=>
  rw[if_neg (by omega)] at h
  rw[hl] at hb h c1 c2
  rcases htk:iw bs (8*bs.length) (aY (fun j=>out.getD j 0) (k+1)).length with ⟨d,er,q⟩
  rw[htk] at h
  injection h with h1 h2
  injection h2 with h2 h3
  injection h3 with h3 h4
  simp only[] at h1 h2 h3 h4
  subst h2
  obtain⟨hB,hq,hd⟩:=O9 hb htk
  have e1:(out ++ [t]).getD (k+1) 0=t:=by rw[←hl];exact hlast
  have e2:(out ++ [t]).getD k 0=out.getD k 0:=(hg k (by omega)).symm
  have e3:dR t (out.getD k 0)=s':=by
   rw[←h1,h3,show k+1-1=k by omega,]
   exact E8 (by rw[←h3];exact wB _ _)
  have e4:dR s' (st (fun j=>out.getD j 0) (k+1))=d:=by rw[←h3];exact E8 hd
  have e:aY (fun j=>(out ++ [t]).getD j 0) (k+1+1)=aY (fun j=>out.getD j 0) (k+1) ++ gU (zig d):=by
   show aY (fun j=>(out ++ [t]).getD j 0) (k+1) ++ gU (zig (dR (dR ((out ++ [t]).getD (k+1) 0) ((out ++ [t]).getD k 0)) (st (fun j=>(out ++ [t]).getD j 0) (k+1))))=_
   rw[←c1,←c2,e1,e2,e3,e4]
  rw[e]
  refine⟨hB,?_,by rw[←h4,hq]⟩
  show s'=dR ((out ++ [t]).getD (k+1) 0) ((out ++ [t]).getD k 0)
  rw[e1,e2,e3]
theorem GU{bs:List Nat}{l:List Int}{q:Nat}: ∀ m (out:List Int),Begins bs (aY (fun j=>out.getD j 0) out.length)→
  mD bs (8*bs.length) m out (st (fun j=>out.getD j 0) out.length) (aY (fun j=>out.getD j 0) out.length).length=(l,0,q)→
  l.length=out.length+m∧Begins bs (aY (fun j=>l.getD j 0) l.length)∧q=(aY (fun j=>l.getD j 0) l.length).length
 | 0,out,hb,h=>by
  injection h with h1 h2
  injection h2 with h2 h3
  subst h1
  exact⟨rfl,hb,h3.symm⟩
 | m+1,out,hb,h=>by
  unfold mD at h
  rcases hn:nextR bs (8*bs.length) out (st (fun j=>out.getD j 0) out.length) (aY (fun j=>out.getD j 0) out.length).length with ⟨t,er,s',p'⟩
  rw[hn] at h
  have h':(if er=0 then mD bs (8*bs.length) m (out ++ [t]) s' p' else ([],er,(aY (fun j=>out.getD j 0) out.length).length))=(l,0,q):=h
  by_cases he:er=0
  ·subst he
   rw[if_pos rfl] at h'
   obtain⟨h1,h2,h3⟩:=Qf hb hn
   have hl:(out ++ [t]).length=out.length+1:=by simp
   rw[h2,h3] at h'
   have:=GU m (out ++ [t]) (by rw[hl];exact h1) (by rw[hl];exact h')
   rw[hl] at this
   exact⟨by omega,this.2⟩
  ·rw[if_neg he] at h'
   injection h' with h1 h2
   injection h2 with h2 h3
   exact absurd h2 he
theorem RJ{bs:List Nat}(hbyte:∀ j,bs.getD j 0 < 256){n:Nat}{l:List Int}(h:lJ bs n=(l,0)): l.length=n∧pack (aY (fun j=>l.getD j 0) n)=bs:=by
 unfold lJ at h
 rcases hd:mD bs (8*bs.length) n [] 0 0 with ⟨o,er,q⟩
 rw[hd] at h
 have h':(if er=0 then (if lH bs (8*bs.length) q=true then (o,(0:Int)) else ([],11)) else ([],er))=(l,0):=h
 by_cases he:er=0
 ·subst he
  rw[if_pos rfl] at h'
  by_cases hend:lH bs (8*bs.length) q=true
  ·rw[if_pos hend] at h'
   injection h' with h1 h2
   subst h1
   obtain⟨g1,g2,g3⟩:=GU n [] (Begins.nil bs) hd
   have hl:o.length=n:=by simpa using g1
   refine⟨hl,?_⟩
   rw[hl] at g2 g3
   unfold lH at hend
   simp only[Bool.and_eq_true,decide_eq_true_eq] at hend
   obtain⟨e1,e2⟩:=hend
   rw[g3] at e1 e2
   have:=g2.le
   exact(g2.all hbyte (qF _ _) (by omega) (by rw[show min (8*bs.length-(aY (fun j=>o.getD j 0) n).length) 64=8*bs.length-(aY (fun j=>o.getD j 0) n).length by omega] at e2;exact e2)).symm
  ·rw[if_neg hend] at h'
   injection h' with h1 h2
   omega
 ·rw[if_neg he] at h'
  injection h' with h1 h2
  exact absurd h2 he
end D
namespace D
open Go.RowKit
end D
namespace D
open Go.RowKit
def jw(bs:List Nat)(n:Int): List Int × Int:=if n < 0 then ([],2) else if 4096 < n then ([],3) else lJ bs n.toNat
theorem zq(w:World)(A:Option Addr)(len c:Nat)(D0:Nat→Prop)(bs:List Nat)(n:Int)(hl:bs.length=len)(hsl:Sl w D0 A len (aD bs))(hbyte:∀ j,bs.getD j 0 < 256)(hsm:len≤1048576):
  Calls Tryz.prog 367 #[.slice A len c,.int .i64 n] w (vZ w (jw bs n)):=by
 unfold jw
 by_cases h1:n < 0
 ·rw[if_pos h1];exact KG w A len c n h1
 ·rw[if_neg h1]
  by_cases h2:4096 < n
  ·rw[if_pos h2];exact Ke w A len c n h2
  ·rw[if_neg h2]
   obtain⟨m,rfl⟩:=Int.eq_ofNat_of_zero_le (show 0≤n by omega)
   exact LJ w A len c D0 bs m hl hsl hbyte hsm (by omega)
theorem wM{bs:List Nat}(hb:∀ j,bs.getD j 0 < 256){n:Int}{l:List Int}(h:jw bs n=(l,0)): (l.length:Int)=n∧l.length≤4096∧pack (aY (fun j=>l.getD j 0) l.length)=bs:=by
 unfold jw at h
 by_cases h1:n < 0
 ·rw[if_pos h1] at h;injection h with _ h;omega
 ·rw[if_neg h1] at h
  by_cases h2:4096 < n
  ·rw[if_pos h2] at h;injection h with _ h;omega
  ·rw[if_neg h2] at h
   obtain⟨g1,g2⟩:=RJ hb h
   rw[←g1] at g2
   exact⟨by omega,by omega,g2⟩
theorem BR(bs:List Nat)(en:Nat): ∀ m (out:List Int) (step:Int) (p:Nat),(∀ j,dS (out.getD j 0))→dS step→∀ j,dS ((mD bs en m out step p).1.getD j 0)
 | 0,out,_,_,h,_=>h
 | m+1,out,step,p,h,hs=>by
  have hr:=xA bs en out step p hs
  unfold mD
  split
  ·exact BR bs en m _ _ _ (KL h hr.1) hr.2
  ·intro j;exact ⟨by simp,by simp⟩
theorem CZ(bs:List Nat)(n:Int): ∀ j,dS ((jw bs n).1.getD j 0):=by
 intro j
 have z:dS (([]:List Int).getD j 0):=⟨by simp,by simp⟩
 unfold jw
 split
 ·exact z
 ·split
  ·exact z
  ·unfold lJ Si
   split
   ·split
    ·exact BR bs _ _ [] 0 0 (fun j=>⟨by simp,by simp⟩) ⟨by omega,by omega⟩ j
    ·exact z
   ·exact z
end D
namespace X
open Go.RowKit
def wl(o:Option (Nat × Nat)): Int:=match o with
 | none=>-1
 | some p=>(p.1:Nat)
def wt(o:Option (Nat × Nat)): Int:=match o with
 | none=>-1
 | some p=>(p.2:Nat)
structure Tk(w wr:World)(t r:Nat)(D:Nat→Prop)(bs:List Nat)(en:Nat)(o:Option (Nat × Nat))(e:Int)(p:Nat): Prop where
 rd:Rd wr r D bs p en
 blk:au wr t 536 #[.pointer (some ⟨r,0,none⟩),.int .i64 (wl o),.int .i64 (wt o),.int .i64 e]
 keep:Keeps (fun k=>k=r∨k=t) w wr
 ne:r≠t
 nd:¬ D t
namespace Tk
variable {w wr w':World} {t r:Nat} {D:Nat→Prop} {bs:List Nat} {en:Nat} {o:Option (Nat × Nat)} {e:Int} {p:Nat}
theorem below(h:Tk w wr t r D bs en o e p)(hb:Below wr.heap.size wr w'): Tk w w' t r D bs en o e p:=
 ⟨h.rd.below hb,h.blk.below hb h.blk.lt,h.keep.trans' (Keeps.of_below hb),h.ne,h.nd⟩
theorem drew(h:Tk w wr t r D bs en o e p): Tk w wr.drew t r D bs en o e p:=⟨h.rd.drewN 1,h.blk.drew,h.keep.drew,h.ne,h.nd⟩
theorem drewN(h:Tk w wr t r D bs en o e p)(k:Nat): Tk w (wr.drewN k) t r D bs en o e p:=⟨h.rd.drewN k,h.blk.drewN k,h.keep.drewN k,h.ne,h.nd⟩
theorem c0(h:Tk w wr t r D bs en o e p): wr.cell? ⟨t,0,none⟩=some (.pointer (some ⟨r,0,none⟩)):=by simpa using h.blk.cell 0
theorem c1(h:Tk w wr t r D bs en o e p): wr.cell? ⟨t,1,none⟩=some (.int .i64 (wl o)):=by simpa using h.blk.cell 1
theorem c2(h:Tk w wr t r D bs en o e p): wr.cell? ⟨t,2,none⟩=some (.int .i64 (wt o)):=by simpa using h.blk.cell 2
theorem c3(h:Tk w wr t r D bs en o e p): wr.cell? ⟨t,3,none⟩=some (.int .i64 e):=by simpa using h.blk.cell 3
theorem fz(h:Tk w wr t r D bs en o e p)(i:Nat): wr.frozen? ⟨t,i,none⟩=false:=h.blk.frozen i
theorem OH(h:Tk w wr t r D bs en o e p)(e':Int): Tk w (wr.setCell ⟨t,3,none⟩ (.int .i64 e')) t r D bs en o e' p:=by
 have hk:Keeps (fun k=>k=t) wr (wr.setCell ⟨t,3,none⟩ (.int .i64 e')):=(Keeps.refl (fun k=>k=t) wr).setCell (p:=⟨t,3,none⟩) (fun _=>rfl) _
 refine⟨h.rd.keeps hk (fun e=>h.ne e) (fun k hk e=>h.nd (e ▸ hk)),?_,h.keep.trans hk (fun k _ e=>.inr e),h.ne,h.nd⟩
 simpa using h.blk.set 3 (.int .i64 e')
theorem KD(h:Tk w wr t r D bs en o e p)(l m:Nat): Tk w ((wr.setCell ⟨t,1,none⟩ (.int .i64 (l:Nat))).setCell ⟨t,2,none⟩ (.int .i64 (m:Nat))) t r D bs en (some (l,m)) e p:=by
 have hk:Keeps (fun k=>k=t) wr ((wr.setCell ⟨t,1,none⟩ (.int .i64 (l:Nat))).setCell ⟨t,2,none⟩ (.int .i64 (m:Nat))):=
  ((Keeps.refl (fun k=>k=t) wr).setCell (p:=⟨t,1,none⟩) (fun _=>rfl) _).setCell (p:=⟨t,2,none⟩) (fun _=>rfl) _
 refine⟨h.rd.keeps hk (fun e=>h.ne e) (fun k hk e=>h.nd (e ▸ hk)),?_,h.keep.trans hk (fun k _ e=>.inr e),h.ne,h.nd⟩
 have hb:=(h.blk.set 1 (.int .i64 (l:Nat))).set 2 (.int .i64 (m:Nat))
 simp at hb
 exact hb
theorem re(h:Tk w wr t r D bs en o e p): Tk wr wr t r D bs en o e p:=⟨h.rd,h.blk,Keeps.refl _ _,h.ne,h.nd⟩
theorem on{o':Option (Nat × Nat)}{e':Int}{p':Nat}(h:Tk w wr t r D bs en o e p)(h':Tk wr w' t r D bs en o' e' p'): Tk w w' t r D bs en o' e' p':=⟨h'.rd,h'.blk,h.keep.trans' h'.keep,h'.ne,h'.nd⟩
theorem read(h:Tk w wr t r D bs en o e p){p':Nat}(hr:Rd w' r D bs p' en)(hk:Keeps (fun k=>k=r) wr w'): Tk w w' t r D bs en o e p':=
 ⟨hr,h.blk.keeps hk (fun e=>h.ne e.symm),h.keep.trans hk (fun k _ e=>.inl e),h.ne,h.nd⟩
end Tk
def jF(bs:List Nat)(en:Nat)(e:Int)(p n:Nat): Nat × Int × Nat:=if e=0 then (if p+n≤en then (gets bs p n,0,p+n) else (0,10,p)) else (0,e,p)
def P6(w:World)(t r:Nat)(D:Nat→Prop)(bs:List Nat)(en:Nat)(o:Option (Nat × Nat))(g:Nat × Int × Nat)(e:Ending)(w':World): Prop:=
 e=.returned (.int .u64 (g.1:Nat))∧Tk w w' t r D bs en o g.2.1 g.2.2
theorem kK{w wr:World}{t r:Nat}{D:Nat→Prop}{bs:List Nat}{en:Nat}{o:Option (Nat × Nat)}{e:Int}{p:Nat}(h:Tk w wr t r D bs en o e p)(n:Nat)(hn:n≤64):
  Calls Tryz.prog 396 #[.pointer (some ⟨t,0,none⟩),.int .i64 (n:Nat)] wr (P6 w t r D bs en o (jF bs en e p n)):=by
 have c0:=h.c0
 have c3:=h.c3
 have HH:=zh h
 clear h
 by_cases he:e=0
 ·subst he
  go_enter Tryz.func396,Tryz.ntmps396
  go_wp2_with fail
  refine(pV _ _ _ _ _ _ _ HH.out.rd).mono ?_
  rintro e w2 ⟨rfl,hr2,hk2⟩
  by_cases hp:p+n≤en
  ·have g1:kI bs p en n=gets bs p n:=by unfold kI;rw[if_pos (by omega)];rfl
   have g2:kG p en n=0:=by unfold kG;rw[if_pos (by omega),if_pos (by omega)]
   have g3:kL p en n=n:=by unfold kL;rw[if_pos (by omega)];rfl
   rw[g3] at hr2
   rw[g1,g2]
   have h2:=HH.out.read hr2 hk2
   have f3:=h2.fz 3
   have d3:=h2.c3
   have hg:jF bs en 0 p n=(gets bs p n,0,p+n):=by unfold jF;rw[if_pos rfl,if_pos hp]
   obtain⟨v,hv⟩:∃ v,v=gets bs p n:=⟨_,rfl⟩
   rw[←hv] at hg
   rw[←hv]
   have H2:=zh (zN h2 hg)
   clear h2 hg hr2 hk2 g1 g2 g3 hp hv c0 c3
   go_wp2_with fail
   go_ret
   rw[H2.out.2]
   exact⟨rfl,H2.out.1.OH 0⟩
  ·have g1:kI bs p en n=0:=by unfold kI;rw[if_neg (by omega)]
   have g2:kG p en n=10:=by unfold kG;rw[if_pos (by omega),if_neg (by omega)]
   have g3:kL p en n=0:=by unfold kL;rw[if_neg (by omega)]
   rw[g3] at hr2
   rw[g1,g2]
   have h2:=HH.out.read hr2 hk2
   have f3:=h2.fz 3
   have d3:=h2.c3
   have hg:jF bs en 0 p n=(0,10,p):=by unfold jF;rw[if_pos rfl,if_neg hp]
   have H2:=zh (zN h2 hg)
   clear h2 hg hr2 hk2 g1 g2 g3 hp c0 c3
   go_wp2_with fail
   go_ret
   rw[H2.out.2]
   exact⟨rfl,H2.out.1.OH 10⟩
 ·have hg:jF bs en e p n=(0,e,p):=by unfold jF;rw[if_neg he]
  rw[hg]
  go_enter Tryz.func396,Tryz.ntmps396
  go_wp2_with fail
  go_ret
  exact⟨rfl,HH.out⟩
def JU(w:World)(t r:Nat)(D:Nat→Prop)(bs:List Nat)(en:Nat)(o:Option (Nat × Nat))(e':Int)(p:Nat)(e:Ending)(w':World): Prop:=
 e=.returned (.tuple #[])∧Tk w w' t r D bs en o e' p
theorem eu{w wr:World}{t r:Nat}{D:Nat→Prop}{bs:List Nat}{en:Nat}{o:Option (Nat × Nat)}{e:Int}{p:Nat}(h:Tk w wr t r D bs en o e p)(b:Bool):
  Calls Tryz.prog 399 #[.pointer (some ⟨t,0,none⟩),.bool b] wr (JU w t r D bs en o (if b=true∧e=0 then 11 else e) p):=by
 have c3:=h.c3
 have f3:=h.fz 3
 have HH:=zh h
 clear h
 cases b with
 | false=>
  rw[if_neg (by simp)]
  go_enter Tryz.func399,Tryz.ntmps399
  go_wp2_with fail
  refine bodyPost_end (v:=.tuple #[]) (by simp[results,Tryz.results399,go_sem]) rfl ?_
  exact⟨rfl,HH.out⟩
 | true=>
  by_cases he:e=0
  ·subst he
   rw[if_pos ⟨rfl,rfl⟩]
   go_enter Tryz.func399,Tryz.ntmps399
   go_wp2_with fail
   refine bodyPost_end (v:=.tuple #[]) (by simp[results,Tryz.results399,go_sem]) rfl ?_
   exact⟨rfl,HH.out.OH 11⟩
  ·rw[if_neg (by simp[he])]
   go_enter Tryz.func399,Tryz.ntmps399
   go_wp2_with fail
   refine bodyPost_end (v:=.tuple #[]) (by simp[results,Tryz.results399,go_sem]) rfl ?_
   exact⟨rfl,HH.out⟩
end X
namespace X
open Go.RowKit
def uS(bs:List Nat)(en:Nat)(o:Option (Nat × Nat))(q:Nat): Option (Nat × Option (Nat × Nat) × Nat):=match o with
 | none=>none
 | some (l,t)=>if q+(64-l-t)≤en then (if gets bs q (64-l-t)=0 then none else some (gets bs q (64-l-t)*2 ^ t,some (l,t),q+(64-l-t))) else none
def uK(bs:List Nat)(en:Nat)(o:Option (Nat × Nat))(l m q:Nat): Option (Nat × Option (Nat × Nat) × Nat):=
 if l+m≤64 then
  if q+m≤en then
   if gets bs q m*2 ^ (64-l-m)≠0∧lead (gets bs q m*2 ^ (64-l-m))=l∧trail (gets bs q m*2 ^ (64-l-m))=64-l-m∧fits o (gets bs q m*2 ^ (64-l-m))=false
    then some (gets bs q m*2 ^ (64-l-m),some (l,64-l-m),q+m) else none
  else none
 else none
def newX(bs:List Nat)(en:Nat)(o:Option (Nat × Nat))(q:Nat): Option (Nat × Option (Nat × Nat) × Nat):=
 if q+6≤en then (if q+6+6≤en then uK bs en o (gets bs q 6) (gets bs (q+6) 6+1) (q+6+6) else none) else none
def jI(bs:List Nat)(en:Nat)(o:Option (Nat × Nat))(p:Nat): Option (Nat × Option (Nat × Nat) × Nat):=
 if p+1≤en then
  if gets bs p 1=0 then some (0,o,p+1)
  else if p+1+1≤en then (if gets bs (p+1) 1=0 then uS bs en o (p+1+1) else newX bs en o (p+1+1))
  else none
 else none
def LU(w:World)(t r:Nat)(D:Nat→Prop)(bs:List Nat)(en:Nat)(N:Option (Nat × Option (Nat × Nat) × Nat))(e:Ending)(w':World): Prop:=
 ∃ (x:Nat) (o':Option (Nat × Nat)) (er:Int) (p':Nat),e=.returned (.int .u64 (x:Nat))∧x < 18446744073709551616∧Tk w w' t r D bs en o' er p'∧((er=0∧N=some (x,o',p'))∨((er=10∨er=11)∧N=none))
theorem jW{bs:List Nat}{en p n:Nat}(h:p+n≤en): jF bs en 0 p n=(gets bs p n,0,p+n):=by unfold jF;rw[if_pos rfl,if_pos h]
theorem jH{bs:List Nat}{en p n:Nat}(h:¬ p+n≤en): jF bs en 0 p n=(0,10,p):=by unfold jF;rw[if_pos rfl,if_neg h]
theorem Ou{bs:List Nat}{en p n:Nat}{e:Int}(h:¬ e=0): jF bs en e p n=(0,e,p):=by unfold jF;rw[if_neg h]
theorem yM(bs:List Nat)(p n:Nat)(h:n≤64): gets bs p n < 18446744073709551616:=
 Nat.lt_of_lt_of_le (iB bs p n) (Nat.le_trans (Nat.pow_le_pow_right (by omega) h) (by decide))
theorem tN{v m t:Nat}(hv:v < 2 ^ m)(h:m+t≤64): v*2 ^ t < 18446744073709551616:=by
 have h1:v*2 ^ t < 2 ^ m*2 ^ t:=Nat.mul_lt_mul_of_pos_right hv (Nat.two_pow_pos t)
 rw[←Nat.pow_add] at h1
 exact Nat.lt_of_lt_of_le h1 (Nat.le_trans (Nat.pow_le_pow_right (by omega) h) (by decide))
theorem zH{v t x:Nat}(hx:x=v*2 ^ t)(h:x < 18446744073709551616): IntKind.u64.wrap ((v:Int)*2 ^ t)=(x:Int):=by
 have e:(v:Int)*2 ^ t=((v*2 ^ t:Nat):Int):=by simp
 rw[e,←hx,IntKind.wrap_u64]
 omega
theorem Sz(o:Option (Nat × Nat)): uR o=#[.int .i64 (wl o),.int .i64 (wt o)]:=by cases o<;>rfl
def NR(t:Nat)(a b:Int)(w:World): Prop:=w.cell? ⟨t,1,none⟩=some (.int .i64 a)∧w.cell? ⟨t,2,none⟩=some (.int .i64 b)
theorem wL{w wr:World}{t r:Nat}{D:Nat→Prop}{bs:List Nat}{en:Nat}{o:Option (Nat × Nat)}{e:Int}{p:Nat}(h:Tk w wr t r D bs en o e p): NR t (wl o) (wt o) wr:=⟨h.c1,h.c2⟩
def qM(t y:Nat)(a b:Int)(l m:Nat)(w:World): Prop:=(w.cell? ⟨t,1,none⟩=some (.int .i64 a)∧w.cell? ⟨t,2,none⟩=some (.int .i64 b))∧w.cell? ⟨y,0,none⟩=some (.int .i64 (l:Nat))∧w.cell? ⟨y,1,none⟩=some (.int .i64 (m:Nat))
theorem lT{w wr:World}{t r y l m:Nat}{D:Nat→Prop}{bs:List Nat}{en:Nat}{o:Option (Nat × Nat)}{e:Int}{p:Nat}(h:Tk w wr t r D bs en o e p)(hy:au wr y 490 #[.int .i64 (l:Nat),.int .i64 (m:Nat)]): qM t y (wl o) (wt o) l m wr:=
 ⟨⟨h.c1,h.c2⟩,by simpa using hy.cell 0,by simpa using hy.cell 1⟩
theorem Mq{w wr:World}{t r:Nat}{D:Nat→Prop}{bs:List Nat}{en:Nat}{o:Option (Nat × Nat)}{p:Nat}(h:Tk w wr t r D bs en o 0 p)(hok:lW o):
  Calls Tryz.prog 397 #[.pointer (some ⟨t,0,none⟩)] wr (LU w t r D bs en (jI bs en o p)):=by
 obtain⟨N,hN⟩:∃ N,N=jI bs en o p:=⟨_,rfl⟩
 rw[←hN]
 have HH:=zh (zN h hok)
 clear h hok
 go_enter Tryz.func397,Tryz.ntmps397
 have HN:=zh hN
 clear hN
 go_wp2_with fail
 refine(kK HH.out.1 1 (by omega)).mono ?_
 rintro e w1 ⟨rfl,h1⟩
 by_cases q1:p+1≤en
 ·rw[jW q1] at h1
  rw[jW q1]
  simp only[] at h1
  have hv:=iB bs p 1
  obtain⟨v1,hv1⟩:∃ v1,v1=gets bs p 1:=⟨_,rfl⟩
  rw[←hv1] at hv
  rw[←hv1]
  rcases(show v1=0∨v1=1 by omega) with rfl | rfl
  ·have hn:N=some (0,o,p+1):=by rw[HN.out];unfold jI;rw[if_pos q1,if_pos hv1.symm]
   have H1:=zh (zN h1 hn)
   clear h1 hn hv hv1 q1
   rw[show ((0:Nat):Int)=0 from rfl]
   go_wp2_with fail
   go_ret
   exact⟨0,o,0,p+1,rfl,by omega,H1.out.1,.inl ⟨rfl,H1.out.2⟩⟩
  ·have hn:N=if p+1+1≤en then (if gets bs (p+1) 1=0 then uS bs en o (p+1+1) else newX bs en o (p+1+1)) else none:=by
    rw[HN.out];unfold jI;rw[if_pos q1,if_neg (by omega)]
   have H1:=zh (zN h1 hn)
   clear h1 hn hv hv1 q1 HN
   rw[show ((1:Nat):Int)=1 from rfl]
   go_wp2_with fail
   refine(kK H1.out.1 1 (by omega)).mono ?_
   rintro e w2 ⟨rfl,h2⟩
   obtain⟨v2,er,p2,hg2,hcase⟩:∃ (v2:Nat) (er:Int) (p2:Nat),jF bs en 0 (p+1) 1=(v2,er,p2)∧((v2=0∧er=0∧N=uS bs en o p2)∨(v2=0∧er=10∧N=none)∨(v2=1∧er=0∧N=newX bs en o p2)):=by
    have hn:=H1.out.2
    by_cases q2:p+1+1≤en
    ·rw[if_pos q2] at hn
     refine⟨_,_,_,jW q2,?_⟩
     by_cases h0:gets bs (p+1) 1=0
     ·rw[if_pos h0] at hn
      exact .inl ⟨h0,rfl,hn⟩
     ·rw[if_neg h0] at hn
      have:=iB bs (p+1) 1
      exact .inr (.inr ⟨by omega,rfl,hn⟩)
    ·rw[if_neg q2] at hn
     exact⟨_,_,_,jH q2,.inr (.inl ⟨rfl,rfl,hn⟩)⟩
   rw[hg2] at h2
   rw[hg2]
   simp only[] at h2
   clear hg2 H1
   have H2:=zh h2
   clear h2
   by_cases hv2:v2=0
   ·subst hv2
    have hc2:(er=0∧N=uS bs en o p2)∨(er=10∧N=none):=by
     rcases hcase with ⟨-,h⟩ | ⟨-,h⟩ | ⟨h,-⟩
     ·exact .inl h
     ·exact .inr h
     ·omega
    have HC:=zh hc2
    clear hc2 hcase
    rw[show ((0:Nat):Int)=0 from rfl]
    go_wp2_with fail
    cases o with
    | none=>
     have hS:(NR t (-1) (-1)) (w2.drew):=wL H2.out.drew
     refine av (NR t (-1) (-1)) (by kernel_rfl) hS ?_
     refine zB [0,1,2,3,4] ?_
     iterate 5 (refine zV ?_ ?_ hS ?_;rotate_left;(intro w' hSw;obtain ⟨p1,p2⟩:=hSw;go_simp<;>with_reducible rfl);try simp only[zP])
     refine zE ?_
     refine zC 5 fun K HK=>?_
     go_simp
     refine(nT w2.drew).mono ?_
     rintro e w3 ⟨rfl,hb3⟩
     have h3:=H2.out.drew.below hb3
     have H3:=zh h3
     clear h3 hb3
     go_wp2_with fail
     refine HK.out.zt (NR t (-1) (-1)) (fun _ h=>h) (wL H3.out) ?_
     clear HK hS
     intro hS
     try simp only[zP]
     refine zT 6 ?_ ?_ hS ?_
     rotate_left
     ·(intro w' hSw;go_simp<;>with_reducible rfl)
     try simp only[zP]
     refine zC 7 fun K HK=>?_
     go_simp
     refine(eu H3.out true).mono ?_
     rintro e w4 ⟨rfl,h4⟩
     obtain⟨e4,he4,hn4⟩:∃ e4:Int,(if true=true∧er=0 then (11:Int) else er)=e4∧((e4=10∨e4=11)∧N=none):=by
      rcases HC.out with ⟨rfl,h⟩ | ⟨rfl,h⟩
      ·exact ⟨11,by simp,.inr rfl,h⟩
      ·exact ⟨10,by simp,.inl rfl,h⟩
     rw[he4] at h4
     have H4:=zh (zN h4 hn4)
     have hne:¬ e4=0:=by omega
     have d3:=h4.c3
     clear h4 he4 hn4
     go_wp2_with fail
     refine HK.out.zt (NR t (-1) (-1)) (fun _ h=>h) (wL H4.out.1) ?_
     clear HK hS
     intro hS
     try simp only[zP]
     refine zD ?_
     try simp only[zP]
     go_wp2_with fail
     go_ret
     exact⟨0,none,e4,p2,rfl,by omega,H4.out.1,.inr H4.out.2⟩
    | some lt=>
     obtain⟨l,tr⟩:=lt
     have hl1:¬ ((l:Int) = -1):=by omega
     have hS:(NR t (l:Nat) (tr:Nat)) (w2.drew):=wL H2.out.drew
     refine av (NR t (l:Nat) (tr:Nat)) (by kernel_rfl) hS ?_
     refine zB [0,1,2,3,4] ?_
     iterate 5 (refine zV ?_ ?_ hS ?_;rotate_left;(intro w' hSw;obtain ⟨p1,p2⟩:=hSw;go_simp<;>with_reducible rfl);try simp only[zP])
     refine zE ?_
     refine zC 5 fun K HK=>?_
     go_simp
     refine(nT w2.drew).mono ?_
     rintro e w3 ⟨rfl,hb3⟩
     have h3:=H2.out.drew.below hb3
     have H3:=zh h3
     clear h3 hb3
     go_wp2_with fail
     refine HK.out.zt (NR t (l:Nat) (tr:Nat)) (fun _ h=>h) (wL H3.out) ?_
     clear HK hS
     intro hS
     try simp only[zP]
     refine zT 6 ?_ ?_ hS ?_
     rotate_left
     ·(intro w' hSw;go_simp<;>with_reducible rfl)
     try simp only[zP]
     refine zC 7 fun K HK=>?_
     go_simp
     refine(eu H3.out false).mono ?_
     rintro e w4 ⟨rfl,h4⟩
     rw[if_neg (by simp)] at h4
     have H4:=zh h4
     have d3:=h4.c3
     have d1:w4.cell? ⟨t,1,none⟩=some (.int .i64 (l:Nat)):=h4.c1
     have d2:w4.cell? ⟨t,2,none⟩=some (.int .i64 (tr:Nat)):=h4.c2
     clear h4
     go_wp2_with fail
     refine HK.out.zt (NR t (l:Nat) (tr:Nat)) (fun _ h=>h) (wL H4.out) ?_
     clear HK hS
     intro hS
     try simp only[zP]
     refine zD ?_
     try simp only[zP]
     clear hl1 hS
     rcases HC.out with ⟨rfl,hn⟩ | ⟨rfl,hn⟩
     ·clear HC H2 H3
      have hlt:l+tr≤63:=HH.out.2 (l,tr) rfl
      have hlt64:l+tr≤64:=by omega
      have HO:=zh hn
      clear hn
      go_wp2_with fail
      refine(pF l tr hlt64 _).mono ?_
      rintro e w5 ⟨rfl,hb5⟩
      have H5:=zh (H4.out.below hb5)
      clear hb5
      go_wp2_with fail
      refine(kK H5.out (64-l-tr) (by omega)).mono ?_
      rintro e w6 ⟨rfl,h6⟩
      have hn:=HO.out
      unfold uS at hn
      by_cases q3:p2+(64-l-tr)≤en
      ·rw[jW q3] at h6
       rw[jW q3]
       simp only[] at h6 hn
       rw[if_pos q3] at hn
       have hvl:=iB bs p2 (64-l-tr)
       obtain⟨v,hv⟩:∃ v,v=gets bs p2 (64-l-tr):=⟨_,rfl⟩
       rw[←hv] at hvl hn
       rw[←hv]
       obtain⟨x,hx⟩:∃ x,x=v*2 ^ tr:=⟨_,rfl⟩
       have hxl:x < 18446744073709551616:=by rw[hx];exact tN hvl (by omega)
       have hsw:=zH hx hxl
       have hv0:v=0→x=0:=fun h=>by rw[hx,h,Nat.zero_mul]
       by_cases h0:v=0
       ·rw[if_pos h0] at hn
        have hx0:=hv0 h0
        subst h0
        subst hx0
        have H6:=zh (zN h6 hn)
        clear h6 hn hv hvl hx hxl hv0 q3 d1 d2 d3 HO
        rw[show ((0:Nat):Int)=0 from rfl]
        rw[show ((0:Nat):Int)=0 from rfl] at hsw
        go_wp2_with fail
        refine(eu H6.out.1 true).mono ?_
        rintro e w7 ⟨rfl,h7⟩
        rw[if_pos ⟨rfl,rfl⟩] at h7
        have d2:w7.cell? ⟨t,2,none⟩=some (.int .i64 (tr:Nat)):=h7.c2
        have H7:=zh h7
        clear h7
        go_wp2_with fail
        go_ret
        exact⟨0,_,11,_,rfl,by omega,H7.out,.inr ⟨.inr rfl,H6.out.2⟩⟩
       ·rw[if_neg h0,←hx] at hn
        have hd:((v:Int) == 0)=false:=by simp[h0]
        have H6:=zh (zN h6 (zN hn hxl))
        clear h6 hn hv hvl hx hxl hv0 q3 d1 d2 d3 HO h0
        go_wp2_with fail
        refine(eu H6.out.1 false).mono ?_
        rintro e w7 ⟨rfl,h7⟩
        rw[if_neg (by simp)] at h7
        have d2:w7.cell? ⟨t,2,none⟩=some (.int .i64 (tr:Nat)):=h7.c2
        have H7:=zh h7
        clear h7
        go_wp2_with fail
        go_ret
        exact⟨x,_,0,_,rfl,H6.out.2.2,H7.out,.inl ⟨rfl,H6.out.2.1⟩⟩
      ·rw[jH q3] at h6
       rw[jH q3]
       simp only[] at h6 hn
       rw[if_neg q3] at hn
       have H6:=zh (zN h6 hn)
       clear h6 hn q3 d1 d2 d3 HO
       rw[show ((0:Nat):Int)=0 from rfl]
       go_wp2_with fail
       refine(eu H6.out.1 true).mono ?_
       rintro e w7 ⟨rfl,h7⟩
       rw[if_neg (by simp)] at h7
       have d2:w7.cell? ⟨t,2,none⟩=some (.int .i64 (tr:Nat)):=h7.c2
       have H7:=zh h7
       clear h7
       go_wp2_with fail
       go_ret
       exact⟨0,_,10,_,rfl,by omega,H7.out,.inr ⟨.inl rfl,H6.out.2⟩⟩
     ·have HO:=zh hn
      clear HC H2 H3 hn
      go_wp2_with fail
      go_ret
      exact⟨0,_,10,p2,rfl,by omega,H4.out,.inr ⟨.inl rfl,HO.out⟩⟩
   ·have hc2:v2=1∧er=0∧N=newX bs en o p2:=by
     rcases hcase with ⟨h,-⟩ | ⟨h,-⟩ | h
     ·exact absurd h hv2
     ·exact absurd h hv2
     ·exact h
    clear hcase hv2
    obtain⟨rfl,rfl,hn2⟩:=hc2
    have HM:=zh hn2
    clear hn2
    rw[show ((1:Nat):Int)=1 from rfl]
    go_wp2_with fail
    refine(kK H2.out 6 (by omega)).mono ?_
    rintro e w3 ⟨rfl,h3⟩
    obtain⟨l,e3,p3,hg3,hl64,hc3⟩:∃ (l:Nat) (e3:Int) (p3:Nat),jF bs en 0 p2 6=(l,e3,p3)∧l < 64∧((e3=0∧p3=p2+6∧l=gets bs p2 6∧N=if p2+6+6≤en then uK bs en o (gets bs p2 6) (gets bs (p2+6) 6+1) (p2+6+6) else none)∨(e3=10∧N=none)):=by
     have hn:=HM.out
     unfold newX at hn
     by_cases q2:p2+6≤en
     ·rw[if_pos q2] at hn
      exact⟨_,_,_,jW q2,iB bs p2 6,.inl ⟨rfl,rfl,rfl,hn⟩⟩
     ·rw[if_neg q2] at hn
      exact⟨_,_,_,jH q2,by omega,.inr ⟨rfl,hn⟩⟩
    rw[hg3] at h3
    rw[hg3]
    simp only[] at h3
    have H3:=zh (zN h3 hc3)
    clear hg3 h3 hc3 HM
    have wl1:IntKind.i64.wrap (l:Int)=(l:Int):=IntWalk.i64_in _ (by omega)
    go_wp2_with fail
    refine(kK H3.out.1 6 (by omega)).mono ?_
    rintro e w5 ⟨rfl,h5⟩
    obtain⟨m,e5,p5,hg5,hm64,hc5⟩:∃ (m:Nat) (e5:Int) (p5:Nat),jF bs en e3 p3 6=(m,e5,p5)∧m < 64∧((e5=0∧N=uK bs en o l (m+1) p5)∨(e5=10∧N=none)):=by
     rcases H3.out.2 with ⟨rfl,rfl,hl,hn⟩ | ⟨rfl,hn⟩
     ·by_cases q2:p2+6+6≤en
      ·rw[if_pos q2,←hl] at hn
       exact⟨_,_,_,jW q2,iB bs (p2+6) 6,.inl ⟨rfl,hn⟩⟩
      ·rw[if_neg q2] at hn
       exact⟨_,_,_,jH q2,by omega,.inr ⟨rfl,hn⟩⟩
     ·exact ⟨_,_,_,Ou (by omega),by omega,.inr ⟨rfl,hn⟩⟩
    rw[hg5] at h5
    rw[hg5]
    simp only[] at h5
    obtain⟨mm,hmm⟩:∃ mm,mm=m+1:=⟨_,rfl⟩
    rw[←hmm] at hc5
    have hmi:(m:Int)+1=(mm:Int):=by omega
    have hmm1:1≤mm:=by omega
    have hmm64:mm≤64:=by omega
    have H5:=zh (zN h5 hc5)
    clear hg5 h5 hc5 H3 H2 hmm
    have wm1:IntKind.i64.wrap (m:Int)=(m:Int):=IntWalk.i64_in _ (by omega)
    by_cases hlm:l+mm≤64
    ·have dl:decide ((64:Int) < (l:Int)+(mm:Int))=false:=by simp;omega
     go_wp2_with fail
     refine(eu H5.out.1 false).mono ?_
     rintro e w6 ⟨rfl,h6⟩
     rw[if_neg (by simp)] at h6
     have d3:=h6.c3
     have H6:=zh h6
     clear h6 wl1 wm1 hmi dl
     rcases H5.out.2 with ⟨rfl,hn⟩ | ⟨rfl,hn⟩
     ·clear H5
      obtain⟨s,hs⟩:∃ s,s=64-l-mm:=⟨_,rfl⟩
      have hsi:(64:Int)-l-mm=(s:Int):=by omega
      have hs63:s≤63:=by omega
      have hs64:s < 64:=by omega
      have h7:=H6.out.below ((Below.refl w6.heap.size w6).alloc (Nat.le_refl _) (.cells #[.int .i64 (l:Nat),.int .i64 (s:Nat)] 490))
      have hy7:=au.fresh w6 490 #[.int .i64 (l:Nat),.int .i64 (s:Nat)]
      obtain⟨y,hy⟩:∃ y,y=w6.heap.size:=⟨_,rfl⟩
      obtain⟨w7,hw7⟩:∃ w7,w7=w6.alloc (.cells #[.int .i64 (l:Nat),.int .i64 (s:Nat)] 490):=⟨_,rfl⟩
      have hyt:y≠t:=by have:=H6.out.blk.lt;omega
      have hyr:y≠r:=by
       obtain⟨A,c,hb,-⟩:=H6.out.rd.blk
       have:=hb.lt
       omega
      unfold uK at hn
      rw[if_pos hlm,←hs] at hn
      have HSS:=zh hs
      clear hs
      go_wp2_with fail
      have hs:=HSS.out
      clear HSS
      rw[←hw7,←hy]
      rw[←hw7] at h7 hy7
      rw[←hy] at hy7
      have H7:=zh (zN h7 (zN hy7 (zN hn (zN hlm hs))))
      have HY:=zh (zN hyt hyr)
      clear h7 hy7 hn hy hw7 H6 d3 hlm hs hyt hyr hsi
      have hS:(qM t y (wl o) (wt o) l s) (w7.drew):=lT H7.out.1.drew H7.out.2.1.drew
      refine av (qM t y (wl o) (wt o) l s) (by kernel_rfl) hS ?_
      refine zB [0,1,3] ?_
      iterate 3 (refine zV ?_ ?_ hS ?_;rotate_left;(intro w' hSw;go_simp<;>with_reducible rfl);try simp only[zP])
      refine zE ?_
      refine zT 4 ?_ ?_ hS ?_
      rotate_left
      ·(intro w' hSw;obtain ⟨-,-,p2⟩:=hSw;go_simp<;>with_reducible rfl)
      try simp only[zP]
      refine zC 2 fun K HK=>?_
      go_simp
      refine(kK H7.out.1.drew.re mm (by omega)).mono ?_
      rintro e w8 ⟨rfl,h8'⟩
      obtain⟨v,e8,p8,hg8,hv8,hc8⟩:∃ (v:Nat) (e8:Int) (p8:Nat),jF bs en 0 p5 mm=(v,e8,p8)∧v < 2 ^ mm∧((e8=0∧N=if v*2 ^ s≠0∧lead (v*2 ^ s)=l∧trail (v*2 ^ s)=s∧fits o (v*2 ^ s)=false then some (v*2 ^ s,some (l,s),p8) else none)∨(v=0∧e8=10∧N=none)):=by
       have hn:=H7.out.2.2.1
       by_cases q2:p5+mm≤en
       ·rw[if_pos q2] at hn
        exact⟨_,_,_,jW q2,iB bs p5 mm,.inl ⟨rfl,hn⟩⟩
       ·rw[if_neg q2] at hn
        exact⟨_,_,_,jH q2,Nat.two_pow_pos _,.inr ⟨rfl,rfl,hn⟩⟩
      rw[hg8] at h8'
      rw[hg8]
      simp only[] at h8'
      have h8:=H7.out.1.drew.on h8'
      have hy8:au w8 y 490 #[.int .i64 (l:Nat),.int .i64 (s:Nat)]:=H7.out.2.1.drew.keeps h8'.keep (fun e=>by have:=HY.out;omega)
      obtain⟨x,hx⟩:∃ x,x=v*2 ^ s:=⟨_,rfl⟩
      have hxl:x < 18446744073709551616:=by rw[hx];exact tN hv8 (by have:=H7.out.2.2.2;omega)
      have hsw:=zH hx hxl
      rw[←hx] at hc8
      have hv0:v=0→x=0:=fun h=>by rw[hx,h,Nat.zero_mul]
      have H8:=zh (zN h8 (zN hy8 (zN hc8 (zN hxl hv0))))
      clear hg8 h8 h8' hy8 hc8 hv8 hx hxl hv0
      go_wp2_with fail
      refine HK.out.zt (qM t y (wl o) (wt o) l s) (fun _ h=>h) (lT H8.out.1 H8.out.2.1) ?_
      clear HK hS
      intro hS
      try simp only[zP]
      refine zB [5,6] ?_
      iterate 2 (refine zV ?_ ?_ hS ?_;rotate_left;(intro w' hSw;go_simp<;>with_reducible rfl);try simp only[zP])
      refine zE ?_
      refine zD ?_
      try simp only[zP]
      clear hsw
      by_cases hx0:x=0
      ·subst hx0
       rw[show ((0:Nat):Int)=0 from rfl]
       go_wp2_with fail
       have hS:(qM t y (wl o) (wt o) l s) (w8.drew):=lT H8.out.1.drew H8.out.2.1.drew
       refine av (qM t y (wl o) (wt o) l s) (by kernel_rfl) hS ?_
       refine zB [0,1,2,3] ?_
       iterate 4 (refine zV ?_ ?_ hS ?_;rotate_left;(intro w' hSw;go_simp<;>with_reducible rfl);try simp only[zP])
       refine zE ?_
       refine zB [4,5,6,7] ?_
       iterate 4 (refine zW hS ?_;try simp only[zP])
       refine zE ?_
       refine zB [8,9] ?_
       iterate 2 (refine zV ?_ ?_ hS ?_;rotate_left;(intro w' hSw;go_simp<;>with_reducible rfl);try simp only[zP])
       refine zE ?_
       refine zB [10,11,12,13,14,15] ?_
       iterate 6 (refine zW hS ?_;try simp only[zP])
       refine zE ?_
       refine zT 16 ?_ ?_ hS ?_
       rotate_left
       ·(intro w' hSw;go_simp<;>with_reducible rfl)
       try simp only[zP]
       have HYB:=zh H8.out.2.1.drew
       refine zC 17 fun K HK=>?_
       go_simp
       refine(eu (H8.out.1.drew).re true).mono ?_
       rintro e wz ⟨rfl,hz'⟩
       obtain⟨ez,hez,hnz⟩:∃ ez:Int,(if true=true∧e8=0 then (11:Int) else e8)=ez∧((ez=0∧N=some (0,some (l,s),p8))∨((ez=10∨ez=11)∧N=none)):=by
        rcases H8.out.2.2.1 with ⟨rfl,hn⟩ | ⟨-,rfl,hn⟩
        ·rw[if_neg (by simp)] at hn
         exact⟨11,by simp,.inr ⟨.inr rfl,hn⟩⟩
        ·exact ⟨10,by simp,.inr ⟨.inl rfl,hn⟩⟩
       rw[hez] at hz'
       have hz:=(H8.out.1.drew).on hz'
       have hyz:au wz y 490 #[.int .i64 (l:Nat),.int .i64 (s:Nat)]:=(HYB.out).keeps hz'.keep (fun e=>by have:=HY.out;omega)
       have HZ:=zh (zN hz (zN hyz hnz))
       clear hz hz' hyz hnz hez
       go_wp2_with fail
       refine HK.out.zt (qM t y (wl o) (wt o) l s) (fun _ h=>h) (lT HZ.out.1 HZ.out.2.1) ?_
       clear HK hS
       intro hS
       try simp only[zP]
       refine zD ?_
       try simp only[zP]
       have y0:wz.cell? ⟨y,0,none⟩=some (.int .i64 (l:Nat)):=hS.2.1
       have y1:wz.cell? ⟨y,1,none⟩=some (.int .i64 (s:Nat)):=hS.2.2
       have z1:wz.cell? ⟨t,1,none⟩=some (.int .i64 (wl o)):=hS.1.1
       have z2:wz.cell? ⟨t,2,none⟩=some (.int .i64 (wt o)):=hS.1.2
       have f1:=HZ.out.1.fz 1
       have f2:=HZ.out.1.fz 2
       clear hS
       go_wp2_with fail
       go_ret
       exact⟨0,some (l,s),ez,p8,rfl,by omega,HZ.out.1.KD l s,HZ.out.2.2⟩
      ·have HX0:=zh hx0
       have hd:((x:Int) == 0)=false:=by simp[hx0]
       have hxn:¬ ((x:Int)=0):=by omega
       obtain⟨he8,hn8⟩:e8=0∧N=if x≠0∧lead x=l∧trail x=s∧fits o x=false then some (x,some (l,s),p8) else none:=by
        rcases H8.out.2.2.1 with h | ⟨h,-⟩
        ·exact h
        ·exact absurd (H8.out.2.2.2.2 h) hx0
       have HE8:=zh (zN he8 hn8)
       clear hx0 he8 hn8
       go_wp2_with fail
       have hS:(qM t y (wl o) (wt o) l s) (w8.drew):=lT H8.out.1.drew H8.out.2.1.drew
       refine av (qM t y (wl o) (wt o) l s) (by kernel_rfl) hS ?_
       refine zB [0,1,2,3,4] ?_
       iterate 5 (refine zV ?_ ?_ hS ?_;rotate_left;(intro w' hSw;go_simp<;>with_reducible rfl);try simp only[zP])
       refine zE ?_
       refine zT 6 ?_ ?_ hS ?_
       rotate_left
       ·(intro w' hSw;obtain ⟨-,p1,p2⟩:=hSw;go_simp<;>with_reducible rfl)
       try simp only[zP]
       refine zC 5 fun K HK=>?_
       go_simp
       refine(MJ x H8.out.2.2.2.1 w8.drew).mono ?_
       rintro e w9 ⟨rfl,hb9⟩
       have h9:=H8.out.1.drew.below hb9
       have hy9:=H8.out.2.1.drew.below hb9 H8.out.2.1.lt
       have hhas:=MC o x (wl o) (wt o) (Sz o)
       obtain⟨la,hla⟩:∃ la,la=lead x:=⟨_,rfl⟩
       obtain⟨ta,hta⟩:∃ ta,ta=trail x:=⟨_,rfl⟩
       rw[←hla,←hta] at hhas
       rw[←hla,←hta]
       have H9:=zh (zN h9 hy9)
       have HHAS:=zh hhas
       have HLA:=zh (zN hla hta)
       clear h9 hy9 hb9 hhas hla hta
       go_wp2_with fail
       refine HK.out.zt (qM t y (wl o) (wt o) l s) (fun _ h=>h) (lT H9.out.1 H9.out.2) ?_
       clear HK hS
       intro hS
       try simp only[zP]
       by_cases hne:la=l∧ta=s
       ·obtain ⟨rfl,rfl⟩:=hne
        refine zB [7,8,9,10,11,12] ?_
        iterate 6 (refine zV ?_ ?_ hS ?_;rotate_left;(intro w' hSw;go_simp<;>with_reducible rfl);try simp only[zP])
        refine zE ?_
        refine zT 13 ?_ ?_ hS ?_
        rotate_left
        ·(intro w' hSw;obtain ⟨⟨p1,p2⟩,-⟩:=hSw;go_simp<;>with_reducible rfl)
        try simp only[zP]
        refine zT 14 ?_ ?_ hS ?_
        rotate_left
        ·(intro w' hSw;obtain ⟨-,p1,p2⟩:=hSw;go_simp<;>with_reducible rfl)
        try simp only[zP]
        refine zC 15 fun K HK=>?_
        go_simp
        refine(HHAS.out w9).mono ?_
        rintro e wh ⟨rfl,hbh⟩
        have hh:=H9.out.1.below hbh
        have hyh:=H9.out.2.below hbh H9.out.2.lt
        obtain⟨bf,hbf⟩:∃ bf,bf=fits o x:=⟨_,rfl⟩
        rw[←hbf]
        have HBF:=zh hbf
        have HH2:=zh (zN hh hyh)
        have HYB:=zh hyh
        clear hh hyh hbh hbf
        go_wp2_with fail
        refine HK.out.zt (qM t y (wl o) (wt o) la ta) (fun _ h=>h) (lT HH2.out.1 HH2.out.2) ?_
        clear HK hS
        intro hS
        try simp only[zP]
        refine zT 16 ?_ ?_ hS ?_
        rotate_left
        ·(intro w' hSw;go_simp<;>with_reducible rfl)
        try simp only[zP]
        refine zC 17 fun K HK=>?_
        go_simp
        refine(eu (HH2.out.1).re bf).mono ?_
        rintro e wz ⟨rfl,hz'⟩
        obtain⟨ez,hez,hnz⟩:∃ ez:Int,(if bf=true∧e8=0 then (11:Int) else e8)=ez∧((ez=0∧N=some (x,some (la,ta),p8))∨((ez=10∨ez=11)∧N=none)):=by
         have hn:=HE8.out.2
         cases bf with
         | true=>
          rw[if_neg (by rw[←HBF.out];simp)] at hn
          exact⟨11,by simp[HE8.out.1],.inr ⟨.inr rfl,hn⟩⟩
         | false=>
          rw[if_pos ⟨HX0.out,HLA.out.1.symm,HLA.out.2.symm,HBF.out.symm⟩] at hn
          exact⟨0,by simp[HE8.out.1],.inl ⟨rfl,hn⟩⟩
        rw[hez] at hz'
        have hz:=(HH2.out.1).on hz'
        have hyz:au wz y 490 #[.int .i64 (la:Nat),.int .i64 (ta:Nat)]:=(HYB.out).keeps hz'.keep (fun e=>by have:=HY.out;omega)
        have HZ:=zh (zN hz (zN hyz hnz))
        clear hz hz' hyz hnz hez
        go_wp2_with fail
        refine HK.out.zt (qM t y (wl o) (wt o) la ta) (fun _ h=>h) (lT HZ.out.1 HZ.out.2.1) ?_
        clear HK hS
        intro hS
        try simp only[zP]
        refine zD ?_
        try simp only[zP]
        have y0:wz.cell? ⟨y,0,none⟩=some (.int .i64 (la:Nat)):=hS.2.1
        have y1:wz.cell? ⟨y,1,none⟩=some (.int .i64 (ta:Nat)):=hS.2.2
        have z1:wz.cell? ⟨t,1,none⟩=some (.int .i64 (wl o)):=hS.1.1
        have z2:wz.cell? ⟨t,2,none⟩=some (.int .i64 (wt o)):=hS.1.2
        have f1:=HZ.out.1.fz 1
        have f2:=HZ.out.1.fz 2
        clear hS
        go_wp2_with fail
        go_ret
        exact⟨x,some (la,ta),ez,p8,rfl,H8.out.2.2.2.1,HZ.out.1.KD la ta,HZ.out.2.2⟩
       ·have HNE:=zh (show ¬ (x≠0∧lead x=l∧trail x=s∧fits o x=false) from fun h=>hne ⟨HLA.out.1.trans h.2.1,HLA.out.2.trans h.2.2.1⟩)
        have HYB:=zh H9.out.2
        rcases(show ¬ ((la:Int)=(l:Int))∨((la:Int)=(l:Int)∧¬ ((ta:Int)=(s:Int))) by omega) with hn1 | ⟨hn0,hn1⟩
        ·clear hne
         refine zB [7,8,9] ?_
         iterate 3 (refine zV ?_ ?_ hS ?_;rotate_left;(intro w' hSw;go_simp<;>with_reducible rfl);try simp only[zP])
         refine zE ?_
         refine zB [10,11,12,13,14,15] ?_
         iterate 6 (refine zW hS ?_;try simp only[zP])
         refine zE ?_
         refine zT 16 ?_ ?_ hS ?_
         rotate_left
         ·(intro w' hSw;go_simp<;>with_reducible rfl)
         try simp only[zP]
         refine zC 17 fun K HK=>?_
         go_simp
         refine(eu (H9.out.1).re true).mono ?_
         rintro e wz ⟨rfl,hz'⟩
         obtain⟨ez,hez,hnz⟩:∃ ez:Int,(if true=true∧e8=0 then (11:Int) else e8)=ez∧((ez=0∧N=some (x,some (l,s),p8))∨((ez=10∨ez=11)∧N=none)):=by
          have hn:=HE8.out.2
          rw[if_neg HNE.out] at hn
          exact⟨11,by simp[HE8.out.1],.inr ⟨.inr rfl,hn⟩⟩
         rw[hez] at hz'
         have hz:=(H9.out.1).on hz'
         have hyz:au wz y 490 #[.int .i64 (l:Nat),.int .i64 (s:Nat)]:=(HYB.out).keeps hz'.keep (fun e=>by have:=HY.out;omega)
         have HZ:=zh (zN hz (zN hyz hnz))
         clear hz hz' hyz hnz hez
         go_wp2_with fail
         refine HK.out.zt (qM t y (wl o) (wt o) l s) (fun _ h=>h) (lT HZ.out.1 HZ.out.2.1) ?_
         clear HK hS
         intro hS
         try simp only[zP]
         refine zD ?_
         try simp only[zP]
         have y0:wz.cell? ⟨y,0,none⟩=some (.int .i64 (l:Nat)):=hS.2.1
         have y1:wz.cell? ⟨y,1,none⟩=some (.int .i64 (s:Nat)):=hS.2.2
         have z1:wz.cell? ⟨t,1,none⟩=some (.int .i64 (wl o)):=hS.1.1
         have z2:wz.cell? ⟨t,2,none⟩=some (.int .i64 (wt o)):=hS.1.2
         have f1:=HZ.out.1.fz 1
         have f2:=HZ.out.1.fz 2
         clear hS
         go_wp2_with fail
         go_ret
         exact⟨x,some (l,s),ez,p8,rfl,H8.out.2.2.2.1,HZ.out.1.KD l s,HZ.out.2.2⟩
        ·obtain rfl:la=l:=by omega
         clear hne hn0
         refine zB [7,8,9] ?_
         iterate 3 (refine zV ?_ ?_ hS ?_;rotate_left;(intro w' hSw;go_simp<;>with_reducible rfl);try simp only[zP])
         refine zE ?_
         refine zB [10,11,12,13,14,15] ?_
         iterate 6 (refine zW hS ?_;try simp only[zP])
         refine zE ?_
         refine zT 16 ?_ ?_ hS ?_
         rotate_left
         ·(intro w' hSw;go_simp<;>with_reducible rfl)
         try simp only[zP]
         refine zC 17 fun K HK=>?_
         go_simp
         refine(eu (H9.out.1).re true).mono ?_
         rintro e wz ⟨rfl,hz'⟩
         obtain⟨ez,hez,hnz⟩:∃ ez:Int,(if true=true∧e8=0 then (11:Int) else e8)=ez∧((ez=0∧N=some (x,some (la,s),p8))∨((ez=10∨ez=11)∧N=none)):=by
          have hn:=HE8.out.2
          rw[if_neg HNE.out] at hn
          exact⟨11,by simp[HE8.out.1],.inr ⟨.inr rfl,hn⟩⟩
         rw[hez] at hz'
         have hz:=(H9.out.1).on hz'
         have hyz:au wz y 490 #[.int .i64 (la:Nat),.int .i64 (s:Nat)]:=(HYB.out).keeps hz'.keep (fun e=>by have:=HY.out;omega)
         have HZ:=zh (zN hz (zN hyz hnz))
         clear hz hz' hyz hnz hez
         go_wp2_with fail
         refine HK.out.zt (qM t y (wl o) (wt o) la s) (fun _ h=>h) (lT HZ.out.1 HZ.out.2.1) ?_
         clear HK hS
         intro hS
         try simp only[zP]
         refine zD ?_
         try simp only[zP]
         have y0:wz.cell? ⟨y,0,none⟩=some (.int .i64 (la:Nat)):=hS.2.1
         have y1:wz.cell? ⟨y,1,none⟩=some (.int .i64 (s:Nat)):=hS.2.2
         have z1:wz.cell? ⟨t,1,none⟩=some (.int .i64 (wl o)):=hS.1.1
         have z2:wz.cell? ⟨t,2,none⟩=some (.int .i64 (wt o)):=hS.1.2
         have f1:=HZ.out.1.fz 1
         have f2:=HZ.out.1.fz 2
         clear hS
         go_wp2_with fail
         go_ret
         exact⟨x,some (la,s),ez,p8,rfl,H8.out.2.2.2.1,HZ.out.1.KD la s,HZ.out.2.2⟩
     ·have HO:=zh hn
      clear hn H5
      go_wp2_with fail
      go_ret
      exact⟨0,o,10,p5,rfl,by omega,H6.out,.inr ⟨.inl rfl,HO.out⟩⟩
    ·have dl:decide ((64:Int) < (l:Int)+(mm:Int))=true:=by simp;omega
     go_wp2_with fail
     refine(eu H5.out.1 true).mono ?_
     rintro e w6 ⟨rfl,h6⟩
     obtain⟨e6,he6,hc6⟩:∃ e6:Int,(if true=true∧e5=0 then (11:Int) else e5)=e6∧((e6=10∨e6=11)∧N=none):=by
      rcases H5.out.2 with ⟨rfl,hn⟩ | ⟨rfl,hn⟩
      ·unfold uK at hn
       rw[if_neg hlm] at hn
       exact⟨11,by simp,.inr rfl,hn⟩
      ·exact ⟨10,by simp,.inl rfl,hn⟩
     rw[he6] at h6
     have d3:=h6.c3
     have hz:¬ e6=0:=by omega
     have H6:=zh (zN h6 hc6)
     clear h6 wl1 wm1 hmi dl he6 hc6
     go_wp2_with fail
     go_ret
     exact⟨0,o,e6,p5,rfl,by omega,H6.out.1,.inr H6.out.2⟩
 ·rw[jH q1] at h1
  rw[jH q1]
  simp only[] at h1
  have hn:N=none:=by rw[HN.out];unfold jI;rw[if_neg q1]
  have H1:=zh (zN h1 hn)
  clear h1 hn q1
  rw[show ((0:Nat):Int)=0 from rfl]
  go_wp2_with fail
  go_ret
  exact⟨0,o,10,p,rfl,by omega,H1.out.1,.inr ⟨.inl rfl,H1.out.2⟩⟩
end X
section
open Go.RowKit
section
variable {P:Program} {w:World} {t e ty:TypeId} {z:Value} {bytes base n m c cap g:Nat} {xs:List Value} {D:Nat→Prop} {ad:Addr} {f:Nat→Value}
theorem zF(he:dL P t e z bytes)(hown:w.ownsRow base e 1 (.slice (some ⟨g,0,none⟩) n cap) n xs)(hsl:Sl w D (some ad) m f)(h1:∀ j,j < m→(f j).oneCell'=true)(h63:n+m≤maxLen)(hbytes:(n+m)*bytes≤140737488355328)(hbase:base≤w.heap.size):
  ∃ v' w',(Builtin.append_ #[t,t] ty #[.slice (some ⟨g,0,none⟩) n cap,.slice (some ad) m c]).run P w=.ok v' w'∧w'.ownsRow base e 1 v' (n+m) (xs ++ (List.range m).map f)∧w.grownBy w' (some g)∧
   (v'.ownBlock=some g∨v'.ownBlock=some w.heap.size)∧∀ j u,xs[j]? = some u→w'.cell? ⟨g,j,none⟩=some u:=by
 have hcells:∀ j u,((List.range m).map f)[j]? = some u→w.cell? (ad.add j)=some u:=by
  intro j u hu
  rcases Nat.eq_zero_or_pos m with h0 | h0
  ·subst h0
   simp at hu
  ·obtain ⟨b,off,h,_,hc⟩:=hsl h0
   injection h with h
   subst h
   rw[List.getElem?_map] at hu
   rcases Nat.lt_or_ge j m with hj | hj
   ·rw[List.getElem?_range hj] at hu
    simp at hu
    subst hu
    have hadd:(⟨b,off,none⟩:Addr).add j=⟨b,off+j,none⟩:=by unfold Addr.add;split<;>simp_all
    rw[hadd]
    exact hc j hj
   ·rw[List.getElem?_eq_none (by simpa using hj)] at hu
    cases hu
 have hone:∀ u ∈ (List.range m).map f,u.oneCell'=true:=by
  intro u hu;rw[List.mem_map] at hu;obtain ⟨j,hj,rfl⟩:=hu;exact h1 j (by simpa using hj)
 obtain⟨v',w',hrun,h2,h3,h5⟩:=uq (P:=P) (ty:=ty) (c:=c) he hown hsl h1 h63 hbytes hbase
 obtain⟨ht,hz1,i,hi,hz,hs,hb⟩:=he
 subst hb
 have hold:∀ j u,xs[j]? = some u→w.cell? ⟨g,j,none⟩=some u:=by
  intro j u hu
  have:=hown.cells (g:=g) rfl j u hu
  have hadd:(⟨g,0,none⟩:Addr).add j=⟨g,j,none⟩:=by rw[show (⟨g,0,none⟩:Addr).add j=⟨g,0+j,none⟩ from by unfold Addr.add;split<;>simp_all,Nat.zero_add]
  rwa [hadd] at this
 refine⟨v',w',hrun,h2,h3,h5,?_⟩
 have hl1:((List.range m).map f).length=m*i.size:=by rw[hs];simp
 by_cases hroom:n+m≤cap
 ·rcases hown.2 with ⟨hn,rfl⟩ | ⟨g',cap',cur,hv,hbg,hg,hnc,hcm,hcs,htake⟩
  ·cases hn
  ·injection hv with hv1 hv2 hv3
   injection hv1 with hv1
   injection hv1 with hv1
   subst hv1
   subst hv3
   have hr:=run_append_room (P:=P) w t ty e i ht hi g n cap cur hg ad m c _ hl1 hcells hone hroom (by rw[hl1,hs,hcs];omega)
   rw[hr] at hrun
   injection hrun with hv hw
   subst hv
   intro j u hu
   have hj:j < xs.length:=(List.getElem?_eq_some_iff.1 hu).1
   have:=h2.cells (g:=g) rfl j u (by rw[List.getElem?_append_left hj];exact hu)
   have hadd:(⟨g,0,none⟩:Addr).add j=⟨g,j,none⟩:=by rw[show (⟨g,0,none⟩:Addr).add j=⟨g,0+j,none⟩ from by unfold Addr.add;split<;>simp_all,Nat.zero_add]
   rwa [hadd] at this
 ·have hr:=run_append_grow (P:=P) w t ty e i z ht hi hz ⟨g,0,none⟩ n cap xs (by rw[hs];exact hown.1) (hown.cells (g:=g) rfl) ad m c _ hl1 hcells (by omega) (by simp only[maxLen] at h63;omega) (growslice_fits (by omega) hbytes)
  rw[hr] at hrun
  injection hrun with hv hw
  subst hw
  intro j u hu
  have h:=hold j u hu
  exact(World.cell?_of_block (w:=w.drew) (a:=⟨g,j,none⟩) (Below.heap_alloc _ _ _ (World.block_lt_of_cell? w.drew _ h))).trans h
theorem yC{ops:Array Oper}{o:Oper}{a:Act}{K:Act→World→Prop}{Q:Exit→Act→World→Prop}{E:Prop}(he:dL P t e z bytes)(hgd:o.guard=none)(s x:Operand)(ho:o.op=.call { callee:=.builtin .append,args:=#[s,x],argTypes:=#[t,t] })(hs:a.eval s=.slice (some ⟨g,0,none⟩) n cap)(hx:a.eval x=.slice (some ad) m c)(hown:w.ownsRow base e 1 (.slice (some ⟨g,0,none⟩) n cap) n xs)(hsl:Sl w D (some ad) m f)(h1:∀ j,j < m→(f j).oneCell'=true)(h63:n+m≤maxLen)(hbytes:(n+m)*bytes≤140737488355328)(hbase:base≤w.heap.size)(h:∀ v' w',w'.ownsRow base e 1 v' (n+m) (xs ++ (List.range m).map f)→w.grownBy w' (some g)→(v'.ownBlock=some g∨v'.ownBlock=some w.heap.size)→(∀ j u,xs[j]? = some u→w'.cell? ⟨g,j,none⟩=some u)→K (a.put o.dst v') w'):
  if Region.wanted o (yielded ops a.tmps)=true then Oper.wp P o a w K Q else E:=by
 have hw:Region.wanted o (yielded ops a.tmps)=true:=by simp[Region.wanted,hgd]
 rw[if_pos hw]
 obtain⟨v',w',hrun,h2,h3,h4,h5⟩:=zF (P:=P) (ty:=o.type) (c:=c) he hown hsl h1 h63 hbytes hbase
 unfold Oper.wp execOp
 simp only[ho,resolve,invoke,builtin,Sem.run_bind,Sem.run_pure,Result.andThen_ok,List.map_toArray,List.map_cons,List.map_nil,hs,hx,hrun]
 exact h v' w' h2 h3 h4 h5
end
end
namespace X
open Go.RowKit
theorem Ic: dL Tryz.prog 446 50 (.int .u64 0) 8:=dL.mk' Tryz.underlying446 rfl (by kernel_rfl)
end X
namespace X
open Go.RowKit
def sU(x:Nat): Value:=.int .u64 (x:Nat)
def jd(bs:List Nat)(en:Nat)(out:List Nat)(o:Option (Nat × Nat))(p:Nat): Option (Nat × Option (Nat × Nat) × Nat):=
 if out.length=0 then (if p+64≤en then some (gets bs p 64,o,p+64) else none)
 else match jI bs en o p with
  | none=>none
  | some q=>some (out.getD (out.length-1) 0 ^^^ q.1,q.2)
def jR(bs:List Nat)(en:Nat): Nat→List Nat→Option (Nat × Nat)→Nat→Option (List Nat × Nat)
 | 0,out,_,p=>some (out,p)
 | n+1,out,o,p=>match jd bs en out o p with
  | none=>none
  | some q=>jR bs en n (out ++ [q.1]) q.2.1 q.2.2
def vK(bs:List Nat)(en p:Nat): Prop:=en-p < 8∧gets bs p (en-p)=0
instance (bs:List Nat) (en p:Nat):Decidable (vK bs en p):=inferInstanceAs (Decidable (_∧_))
def jg(bs:List Nat)(n:Nat): Option (List Nat):=match jR bs (8*bs.length) n [] none 0 with
 | none=>none
 | some q=>if vK bs (8*bs.length) q.2 then some q.1 else none
def mh(w:World)(N:Option (List Nat))(e:Ending)(w':World): Prop:=
 ∃ (l:List Nat) (er:Int) (A:Option Addr) (c:Nat),e=.returned (.tuple #[.slice A l.length c,.int .i64 er])∧w'.ownsRow w.heap.size 50 1 (.slice A l.length c) l.length (l.map sU)∧Keeps (fun _=>False) w w'∧
  (∀ j,l.getD j 0 < 18446744073709551616)∧((er=0∧N=some l)∨((er≠0∧l=[])∧N=none))
theorem DL{l:List Nat}{x:Nat}(h:∀ j,l.getD j 0 < 18446744073709551616)(hx:x < 18446744073709551616): ∀ j,(l ++ [x]).getD j 0 < 18446744073709551616:=by
 intro j
 rw[List.getD_eq_getElem?_getD]
 rcases Nat.lt_trichotomy j l.length with hj | hj | hj
 ·rw[List.getElem?_append_left hj,←List.getD_eq_getElem?_getD];exact h j
 ·subst hj;simpa using hx
 ·rw[List.getElem?_eq_none (by simp;omega)];show 0 < _;omega
theorem Gu{bs:List Nat}{en:Nat}{o o':Option (Nat × Nat)}{p x p':Nat}(h:lW o)(hn:jI bs en o p=some (x,o',p')): lW o':=by
 unfold jI at hn
 split at hn
 ·split at hn
  ·injection hn with hn;injection hn with _ hn;injection hn with hn _;rw[←hn];exact h
  ·split at hn
   ·split at hn
    ·unfold uS at hn
     split at hn
     ·cases hn
     ·split at hn
      ·split at hn
       ·cases hn
       ·injection hn with hn;injection hn with _ hn;injection hn with hn _;rw[←hn];exact h
      ·cases hn
    ·unfold newX at hn
     split at hn
     ·split at hn
      ·unfold uK at hn
       split at hn
       ·split at hn
        ·split at hn
         ·injection hn with hn;injection hn with _ hn;injection hn with hn _
          rw[←hn]
          intro q hq
          injection hq with hq
          subst hq
          show _+(64-_-_)≤63
          omega
         ·cases hn
        ·cases hn
       ·cases hn
      ·cases hn
     ·cases hn
   ·cases hn
 ·cases hn
theorem Tk.app{w wr w':World}{t r:Nat}{D:Nat→Prop}{bs:List Nat}{en:Nat}{o:Option (Nat × Nat)}{e:Int}{p:Nat}{S:Nat→Prop}(h:Tk w wr t r D bs en o e p)(hk:Keeps S wr w')(hS:∀ g,S g→t+1≤g)(hr:r < t)(hD:∀ k,D k→k < t)(hw:w.heap.size≤t+1): Tk w w' t r D bs en o e p:=
 ⟨h.rd.keeps hk (fun h=>by have:=hS _ h;omega) (fun k hk h=>by have:=hS _ h;have:=hD k hk;omega),h.blk.keeps hk (fun h=>by have:=hS _ h;omega),h.keep.trans hk (fun k hk h=>by have:=hS _ h;omega),h.ne,h.nd⟩
theorem Gn(w:World)(A:Option Addr)(len c:Nat)(n:Int)(hn:n < 0):
  Calls Tryz.prog 368 #[.slice A len c,.int .i64 n] w fun e w'=>e=.returned (.tuple #[.slice none 0 0,.int .i64 2])∧w=w':=by
 go_enter Tryz.func368,Tryz.ntmps368
 go_wp2
 go_ret2
 exact⟨rfl,rfl⟩
theorem Gp(w:World)(A:Option Addr)(len c:Nat)(n:Int)(hn:4096 < n):
  Calls Tryz.prog 368 #[.slice A len c,.int .i64 n] w fun e w'=>e=.returned (.tuple #[.slice none 0 0,.int .i64 3])∧w=w':=by
 have h0:¬ n < 0:=by omega
 go_enter Tryz.func368,Tryz.ntmps368
 go_wp2
 go_ret2
 exact⟨rfl,rfl⟩
structure Uq(w w2 wr:World)(t r:Nat)(D:Nat→Prop)(bs:List Nat)(en:Nat)(out:List Nat)(o:Option (Nat × Nat))(p:Nat)(v:Value): Prop where
 tk:Tk w2 wr t r D bs en o 0 p
 row:wr.ownsRow (t+1) 50 1 v out.length (out.map sU)
 u64:∀ j,out.getD j 0 < 18446744073709551616
 win:lW o
theorem SF{w:World}{base c n:Nat}{A:Option Addr}{l:List Nat}(ho:w.ownsRow base 50 1 (.slice A n c) n (l.map sU))(hl:l.length=n): Sl w (fun k=>(Value.slice A n c).ownBlock=some k) A n (fun j=>sU (l.getD j 0)):=by
 refine Sl.lQ ho ?_
 intro j u hu
 rw[List.getElem?_map] at hu
 cases hj:l[j]? with
 | none=>rw[hj] at hu;cases hu
 | some x=>rw[hj] at hu;injection hu with hu;rw[List.getD_eq_getElem?_getD,hj];exact hu.symm
theorem J4(w:World)(A:Option Addr)(len c:Nat)(D0:Nat→Prop)(bs:List Nat)(n:Nat)(hl:bs.length=len)(hsl:Sl w D0 A len (aD bs))(hbyte:∀ j,bs.getD j 0 < 256)(hsm:len≤1048576)(hn:n≤4096):
  Calls Tryz.prog 368 #[.slice A len c,.int .i64 n] w (mh w (jg bs n)):=by
 have HS:=zh (zN hsl (zN hbyte hl))
 clear hsl hbyte hl
 have d1:decide ((n:Int) < 0)=false:=by simp
 have d2:decide ((4096:Int) < n)=false:=by simp;omega
 go_enter Tryz.func368,Tryz.ntmps368
 go_wp2_with fail
 refine(uy _ _ _ _ _ bs _ HS.out.2.2 HS.out.1 HS.out.2.1 (by omega) (by omega) (by omega)).mono ?_
 rintro e w1 ⟨r,rfl,hlr,hr1,hk1⟩
 clear d1 d2
 obtain⟨en,hen⟩:∃ en,en=(8*(len:Int)).toNat:=⟨_,rfl⟩
 rw[←hen] at hr1
 have hen8:en=8*bs.length:=by have:=HS.out.2.2;omega
 have hrlt:r < w1.heap.size:=by obtain ⟨A',c',hb,-⟩:=hr1.blk;exact hb.lt
 have H1:=zh (zN hr1 (zN hk1 (zN hlr (zN hrlt hen8))))
 clear hr1 hk1 hlr hrlt hen hen8
 go_wp2_with fail
 refine(nT _).mono ?_
 rintro e w1' ⟨rfl,hb1⟩
 obtain⟨t,ht⟩:∃ t,t=w1'.heap.size:=⟨_,rfl⟩
 obtain⟨D,hD⟩:∃ D:Nat→Prop,D=fun k=>w.heap.size≤k∧k < r:=⟨_,rfl⟩
 obtain⟨w2,hw2⟩:∃ w2,w2=w1'.alloc (.cells #[.pointer (some ⟨r,0,none⟩),.int .i64 (-1),.int .i64 (-1),.int .i64 0] 536):=⟨_,rfl⟩
 have hrt:r < t:=by have:=hb1.size;have:=H1.out.2.2.2.1;omega
 have htk:Tk w2 w2 t r D bs en none 0 0:=by
  obtain⟨hr1,hk1,hlr,hrlt,hen⟩:=H1.out
  refine⟨?_,?_,Keeps.refl _ _,by omega,by rw[hD];omega⟩
  ·rw[hD,hw2]
   exact(hr1.below hb1).below ((Below.refl _ _).alloc (Nat.le_refl _) _)
  ·rw[hw2,ht]
   exact au.fresh _ _ _
 have hk2:Keeps (fun _=>False) w w2:=by
  obtain⟨hr1,hk1,hlr,hrlt,hen⟩:=H1.out
  rw[hw2]
  exact(hk1.trans' (Keeps.of_below hb1)).alloc _
 have hs2:w2.heap.size=t+1:=by rw[hw2,ht];simp
 have hDt:∀ k,D k→k < t:=by rw[hD];intro k hk;omega
 have hwr:w.heap.size≤r:=H1.out.2.2.1
 have HT:=zh (zN htk (zN hk2 (zN hs2 (zN hDt (zN hrt hwr)))))
 clear htk hk2 hs2 hDt hrt hD hb1 hwr
 go_wp2_with fail
 rw[←hw2,←ht]
 clear hw2 ht
 have hlow:∀ w',Keeps (fun k=>k=r∨k=t) w2 w'→Keeps (fun _=>False) w w':=fun w' hk=>HT.out.2.1.trans hk (fun k hk e=>by have:=HT.out.2.2.2.2;omega)
 have HL:=zh hlow
 clear hlow
 go_loopw [9,31] (fun v i wr=>∃ (k:Nat) (out:List Nat) (o:Option (Nat × Nat)) (p:Nat),k≤n∧i=.int .i64 k∧Uq w w2 wr t r D bs en out o p v∧out.length=k∧jR bs en n [] none 0=jR bs en (n-k) out o p)
  (fun _ i _=>n-(intOf i).toNat)
 case atStart=>exact ⟨0,[],none,0,Nat.zero_le _,rfl,⟨HT.out.1,⟨rfl,.inl ⟨rfl,rfl⟩⟩,fun j=>by simp,fun q hq=>by cases hq⟩,rfl,rfl⟩
 case round=>
  obtain⟨k,out,o,p,hk,rfl,hst,hlen,hdec⟩:=hrel
  by_cases hlt:k < n
  ·obtain ⟨f,hf⟩:∃ f,n-k=f+1:=⟨n-k-1,by omega⟩
   rw[hf] at hdec
   have HR:=zh (zN hst (zN hlen (zN hdec hf)))
   clear hst hlen hdec hf
   rcases Nat.eq_zero_or_pos k with hk0 | hk0
   ·subst hk0
    go_wp2_with fail
    refine(kK HR.out.1.tk.re 64 (by omega)).mono ?_
    rintro e w3 ⟨rfl,h3⟩
    obtain⟨z,er,p5,hg3,hz64,hstep⟩:∃ (z:Nat) (er:Int) (p5:Nat),jF bs en 0 p 64=(z,er,p5)∧z < 18446744073709551616∧((er=0∧jd bs en out o p=some (z,o,p5))∨((er=10∨er=11)∧jd bs en out o p=none)):=by
     have h0:out.length=0:=HR.out.2.1
     unfold jd
     rw[if_pos h0]
     by_cases q:p+64≤en
     ·rw[if_pos q]
      exact⟨_,_,_,jW q,yM _ _ _ (by omega),.inl ⟨rfl,rfl⟩⟩
     ·rw[if_neg q]
      exact⟨_,_,_,jH q,by omega,.inr ⟨.inl rfl,rfl⟩⟩
    rw[hg3] at h3
    rw[hg3]
    simp only[] at h3
    obtain⟨hrt,hDt⟩:r < t∧∀ k,D k→k < t:=⟨HT.out.2.2.2.2.1,HT.out.2.2.2.1⟩
    have hrow3:=aF HR.out.1.row h3.keep (fun g hg e=>by have:=(HR.out.1.row.lt g hg).1;omega)
    have htk3:=HR.out.1.tk.on h3
    have ht3:t < w3.heap.size:=h3.blk.lt
    have H3:=zh (zN hrow3 (zN htk3 (zN hstep ht3)))
    have HZ:=zh hz64
    have HW5:=zh (show er=0→lW o from fun _=>HR.out.1.win)
    clear hrow3 htk3 h3 hg3 hstep hz64 hrt hDt ht3
    obtain⟨A3,c3,hv3,-,-⟩:=aA HR.out.1.row
    have HV3:=zh hv3
    clear hv3
    go_wp2_with (at_builtin;refine aW (f:=fun _=>.int .u64 (z:Nat)) (D:=fun k=>k=w3.heap.size) (base:=t+1) (n:=out.length) (xs:=out.map sU) Ic rfl (.tmp 36) (.tmp 39) rfl rfl rfl ?hown ?hsl ?h1 ?h63 ?hby ?hbase ?_)
    case hown=>exact H3.out.1.alloc _
    case hsl=>exact kS _ _ _
    case h1=>intro j _;rfl
    case h63=>unfold maxLen;have:=HR.out.2.1;omega
    case hby=>have:=HR.out.2.1;omega
    case hbase=>have:=H3.out.2.2.2;simp;omega
    intro v5 w5 ho5 hg5 hat5
    have htk5:=H3.out.2.1.app (((Keeps.refl _ w3).alloc _).grown hg5 (fun q hq _=>hq)) (fun g hg=>(H3.out.1.lt g hg).1) HT.out.2.2.2.2.1 HT.out.2.2.2.1 (by rw[HT.out.2.2.1];exact Nat.le_refl _)
    have hstep:=H3.out.2.2.1
    clear hg5 hat5 H3
    have H5:=zh (zN htk5 (zN ho5 hstep))
    have d3:=htk5.c3
    clear htk5 ho5 hstep
    rcases H5.out.2.2 with ⟨rfl,hs5⟩ | ⟨her,hs5⟩
    ·have HSX:=zh hs5
     clear hs5
     go_wp2_with fail
     go_roundw
     case rel=>
      refine⟨0+1,out ++ [z],o,p5,by omega,by go_num,⟨H5.out.1,?_,DL HR.out.1.u64 HZ.out,HW5.out rfl⟩,by simp[HR.out.2.1],?_⟩
      ·rw[List.length_append,List.map_append]
       exact H5.out.2.1
      ·rw[HR.out.2.2.1,show n-(0+1)=f by have:=HR.out.2.2.2;omega]
       show (match jd bs en out o p with | none=>none | some q=>jR bs en f (out ++ [q.1]) q.2.1 q.2.2)=_
       rw[HSX.out]
     case measure=>simp[intOf];omega
    ·have hne:¬ er=0:=by omega
     have hfin:mh w (jg bs n) (.returned (.tuple #[.slice none 0 0,.int .i64 er])) w5.drew:=by
      refine⟨[],er,none,0,rfl,⟨rfl,.inl ⟨rfl,rfl⟩⟩,(HL.out _ H5.out.1.keep).drew,fun j=>by simp,.inr ⟨⟨hne,rfl⟩,?_⟩⟩
      have hd:jR bs en n [] none 0=none:=by
       rw[HR.out.2.2.1]
       show (match jd bs en out o p with | none=>none | some q=>jR bs en f (out ++ [q.1]) q.2.1 q.2.2)=_
       rw[hs5]
      unfold jg
      rw[←H1.out.2.2.2.2,hd]
     have HF:=zh hfin
     clear hfin hs5 her
     go_wp2_with fail
     have hdd:w5.drew.cell? ⟨t,3,none⟩=some (.int .i64 er):=d3
     clear d3
     have hS:(fun w':World=>w'.cell? ⟨t,3,none⟩=some (.int .i64 er)) (w5.drew):=hdd
     refine av (fun w':World=>w'.cell? ⟨t,3,none⟩=some (.int .i64 er)) (by kernel_rfl) hS ?_
     refine zB [0,1,2,3,4,5] ?_
     iterate 6 (refine zV ?_ ?_ hS ?_;rotate_left;(intro w' hSw;go_simp<;>with_reducible rfl);try simp only[zP])
     refine zE ?_
     refine zD ?_
     try simp only[zP]
     go_wp2_with fail
     go_ret2
     exact HF.out
   ·obtain ⟨j,rfl⟩:∃ j,k=j+1:=⟨k-1,by omega⟩
    obtain⟨A3,c3,hv3,hc3,hA3⟩:=aA HR.out.1.row
    obtain⟨g,hA,hg1,hg2⟩:=hA3 (by have:=HR.out.2.1;omega)
    subst hA
    have hrow:=HR.out.1.row
    rw[hv3] at hrow
    have hlj:out.length=j+1:=HR.out.2.1
    rw[hlj] at hrow hv3
    obtain⟨b,off,hbe,-,hcells⟩:=SF hrow hlj (by omega)
    obtain⟨rfl,rfl⟩:g=b∧0=off:=by simpa using hbe
    obtain⟨last,hlast⟩:∃ last,last=out.getD j 0:=⟨_,rfl⟩
    have hcl:wr.cell? ⟨g,j,none⟩=some (.int .u64 (last:Nat)):=by
     have h:wr.cell? ⟨g,0+j,none⟩=some (sU (out.getD j 0)):=hcells j (by omega)
     rw[Nat.zero_add,←hlast] at h
     exact h
    have hl64:last < 18446744073709551616:=by rw[hlast];exact HR.out.1.u64 j
    have hgr:g≠r∧g≠t:=by have:=HT.out.2.2.2.2.1;omega
    rw[hv3]
    have HG:=zh (zN hrow (zN hcl (zN hl64 (zN hlast (zN hgr (zN hg1 hlj))))))
    clear hrow hcells hbe hcl hl64 hlast hgr hg1 hg2 hlj hA3 hc3 hk0
    have HV3:=zh hv3
    clear hv3
    have ejw:IntKind.i64.wrap ((j:Int)+1-1)=(j:Int):=by rw[IntWalk.i64_in _ (by omega)];omega
    have ejw2:(j:Int)+1-1=(j:Int):=by omega
    have hj2:(0:Int)≤(j:Int):=by omega
    have ejw3:IntKind.i64.wrap (j:Int)=(j:Int):=IntWalk.i64_in _ (by omega)
    have hjl:(j:Int) < (j:Int)+1:=by omega
    have ejw4:((j:Int)).toNat=j:=by omega
    have hj0:¬ ((j:Int)+1=0):=by omega
    have hjn:(j:Int)+1 < (n:Int):=by omega
    rw[show ((j+1:Nat):Int)=(j:Int)+1 from rfl]
    go_wp2_with fail
    have hS:(fun w':World=>w'.cell? ⟨g,j,none⟩=some (.int .u64 (last:Nat))) (wr.drew):=HG.out.2.1
    refine av (fun w':World=>w'.cell? ⟨g,j,none⟩=some (.int .u64 (last:Nat))) (by kernel_rfl) hS ?_
    refine zB [0,1,2,3,4,5,6] ?_
    iterate 7 (refine zV ?_ ?_ hS ?_;rotate_left;(intro w' hSw;go_simp<;>with_reducible rfl);try simp only[zP])
    refine zE ?_
    refine zC 7 fun K HK=>?_
    go_simp
    refine(Mq HR.out.1.tk.drew.re HR.out.1.win).mono ?_
    rintro e w3 ⟨x,o5,er,p5,rfl,hxl,h3,hc3⟩
    obtain⟨z,hz⟩:∃ z,z=last ^^^ x:=⟨_,rfl⟩
    have hzx:bits .xor .u64 (last:Int) (x:Int)=(z:Int):=by rw[u64_xor_nat _ _ HG.out.2.2.1 hxl,hz]
    have hz64:z < 18446744073709551616:=by rw[hz];exact vJ HG.out.2.2.1 hxl
    have hstep:(er=0∧jd bs en out o p=some (z,o5,p5))∨((er=10∨er=11)∧jd bs en out o p=none):=by
     have hlj:=HG.out.2.2.2.2.2.2
     unfold jd
     rw[if_neg (by omega)]
     rcases hc3 with ⟨h1,h2⟩ | ⟨h1,h2⟩
     ·refine .inl ⟨h1,?_⟩
      rw[h2]
      show some (out.getD (out.length-1) 0 ^^^ x,o5,p5)=_
      rw[hlj,show j+1-1=j by omega,←HG.out.2.2.2.1,←hz]
     ·refine .inr ⟨h1,?_⟩
      rw[h2]
    have HW5:=zh (show er=0→lW o5 from fun h=>by
     rcases hc3 with ⟨h1,h2⟩ | ⟨h1,h2⟩
     ·exact Gu HR.out.1.win h2
     ·omega)
    have hrow3:=aF HG.out.1 ((Keeps.refl _ wr).drew.trans' h3.keep) (fun q hq e=>by
     have:=HG.out.2.2.2.2.1
     have hq':g=q:=by simpa [Value.ownBlock] using hq
     omega)
    have htk3:=HR.out.1.tk.drew.on h3
    have ht3:t < w3.heap.size:=h3.blk.lt
    have hcl3:w3.cell? ⟨g,j,none⟩=some (.int .u64 (last:Nat)):=(World.cell?_of_block (w:=wr.drew) (a:=⟨g,j,none⟩) (h3.keep.block g (World.block_lt_of_cell? wr _ HG.out.2.1) (fun e=>by have:=HG.out.2.2.2.2.1;omega))).trans HG.out.2.1
    have HZ:=zh hz64
    have H3:=zh (zN hrow3 (zN htk3 (zN hstep (zN ht3 hcl3))))
    clear hz hz64 hstep hrow3 htk3 ht3 hcl3 h3 hc3 hxl
    go_wp2_with fail
    refine HK.out.zt (fun w':World=>w'.cell? ⟨g,j,none⟩=some (.int .u64 (last:Nat))) (fun _ h=>h) (H3.out.2.2.2.2) ?_
    clear HK hS
    intro hS
    try simp only[zP]
    refine zT 8 ?_ ?_ hS ?_
    rotate_left
    ·(intro w' hSw;go_simp<;>with_reducible rfl)
    try simp only[zP]
    have HA:=zh (show (w3.alloc (.cells #[.int .u64 (z:Nat)] 50)).cell? ⟨g,j,none⟩=some (.int .u64 (last:Nat)) from (World.cell?_of_block (w:=w3) (a:=⟨g,j,none⟩) (Below.heap_alloc _ _ _ (World.block_lt_of_cell? w3 _ H3.out.2.2.2.2))).trans H3.out.2.2.2.2)
    refine zC 9 fun K HK=>?_
    go_simp
    go_wp2_with fail
    refine HK.out.zt (fun w':World=>w'.cell? ⟨g,j,none⟩=some (.int .u64 (last:Nat))) (fun _ h=>h) (HA.out) ?_
    clear HK hS
    intro hS
    try simp only[zP]
    refine zC 10 fun K HK=>?_
    refine yC (f:=fun _=>.int .u64 (z:Nat)) (D:=fun k=>k=w3.heap.size) (base:=t+1) (n:=j+1) (m:=1) (g:=g) (xs:=out.map sU) Ic rfl (.tmp 41) (.tmp 50) rfl rfl rfl ?hown ?hsl ?h1 ?h63 ?hby ?hbase ?_
    case hown=>exact H3.out.1.alloc _
    case hsl=>exact kS _ _ _
    case h1=>intro j _;rfl
    case h63=>unfold maxLen;omega
    case hby=>omega
    case hbase=>have:=H3.out.2.2.2.1;simp;omega
    intro v5 w5 ho5 hg5 hat5 hkp5
    have htk5:=H3.out.2.1.app (((Keeps.refl _ w3).alloc _).grown hg5 (fun q hq _=>hq)) (fun g hg=>(H3.out.1.lt g hg).1) HT.out.2.2.2.2.1 HT.out.2.2.2.1 (by rw[HT.out.2.2.1];exact Nat.le_refl _)
    have hstep:=H3.out.2.2.1
    have hcl5:w5.cell? ⟨g,j,none⟩=some (.int .u64 (last:Nat)):=by
     refine hkp5 j _ ?_
     have hlj:=HG.out.2.2.2.2.2.2
     rw[List.getElem?_map,HG.out.2.2.2.1,List.getD_eq_getElem?_getD,List.getElem?_eq_getElem (by omega)]
     rfl
    have HC5:=zh hcl5
    clear hg5 hat5 H3 HA hkp5 hcl5
    obtain⟨A5,c5,hv5,-,-⟩:=aA ho5
    subst hv5
    refine HK.out.zt (fun w':World=>w'.cell? ⟨g,j,none⟩=some (.int .u64 (last:Nat))) (fun _ h=>h) (HC5.out) ?_
    clear HK hS
    intro hS
    try simp only[zP]
    refine zT 11 ?_ ?_ hS ?_
    rotate_left
    ·(intro w' hSw;go_simp<;>with_reducible rfl)
    try simp only[zP]
    refine zD ?_
    try simp only[zP]
    have H5:=zh (zN htk5 (zN ho5 hstep))
    have d3:=htk5.c3
    clear htk5 ho5 hstep
    rcases H5.out.2.2 with ⟨rfl,hs5⟩ | ⟨her,hs5⟩
    ·have HSX:=zh hs5
     clear hs5
     go_wp2_with fail
     go_roundw
     case rel=>
      refine⟨j+1+1,out ++ [z],o5,p5,by omega,by go_num,⟨H5.out.1,?_,DL HR.out.1.u64 HZ.out,HW5.out rfl⟩,by simp[HR.out.2.1],?_⟩
      ·rw[List.length_append,List.map_append,HG.out.2.2.2.2.2.2]
       exact H5.out.2.1
      ·rw[HR.out.2.2.1,show n-(j+1+1)=f by have:=HR.out.2.2.2;omega]
       show (match jd bs en out o p with | none=>none | some q=>jR bs en f (out ++ [q.1]) q.2.1 q.2.2)=_
       rw[HSX.out]
     case measure=>simp[intOf];omega
    ·have hne:¬ er=0:=by omega
     have hfin:mh w (jg bs n) (.returned (.tuple #[.slice none 0 0,.int .i64 er])) w5.drew:=by
      refine⟨[],er,none,0,rfl,⟨rfl,.inl ⟨rfl,rfl⟩⟩,(HL.out _ H5.out.1.keep).drew,fun j=>by simp,.inr ⟨⟨hne,rfl⟩,?_⟩⟩
      have hd:jR bs en n [] none 0=none:=by
       rw[HR.out.2.2.1]
       show (match jd bs en out o p with | none=>none | some q=>jR bs en f (out ++ [q.1]) q.2.1 q.2.2)=_
       rw[hs5]
      unfold jg
      rw[←H1.out.2.2.2.2,hd]
     have HF:=zh hfin
     clear hfin hs5 her
     go_wp2_with fail
     have hdd:w5.drew.cell? ⟨t,3,none⟩=some (.int .i64 er):=d3
     clear d3
     have hS:(fun w':World=>w'.cell? ⟨t,3,none⟩=some (.int .i64 er)) (w5.drew):=hdd
     refine av (fun w':World=>w'.cell? ⟨t,3,none⟩=some (.int .i64 er)) (by kernel_rfl) hS ?_
     refine zB [0,1,2,3,4,5] ?_
     iterate 6 (refine zV ?_ ?_ hS ?_;rotate_left;(intro w' hSw;go_simp<;>with_reducible rfl);try simp only[zP])
     refine zE ?_
     refine zD ?_
     try simp only[zP]
     go_wp2_with fail
     go_ret2
     exact HF.out
  ·obtain rfl:k=n:=by omega
   have HR:=zh (zN hst (zN hlen (hdec.trans (show jR bs en (k-k) out o p=some (out,p) by rw[Nat.sub_self];rfl))))
   clear hst hlen hdec
   have hle:=HR.out.1.tk.rd.le
   have hsm8:=HR.out.1.tk.rd.small
   have hen8:=HR.out.1.tk.rd.en_le
   obtain⟨lf,hlf⟩:∃ lf:Nat,lf=en-p:=⟨_,rfl⟩
   have hni:(en:Int)-p=(lf:Int):=by omega
   have hl8:lf≤8796093022208:=by omega
   have HN:=zh (zN hlf hle)
   clear hlf hle hsm8 hen8
   go_wp2_with fail
   refine(Ej _ _ _ _ _ _ HR.out.1.tk.rd).mono ?_
   rintro e w3 ⟨rfl,k1,rfl⟩
   rw[hni]
   clear hni
   have H3:=zh (HR.out.1.tk.re.drewN k1)
   by_cases h8:lf < 8
   ·have hmi:min (lf:Int) 64=(lf:Int):=by omega
    have hd:decide ((64:Int) < (lf:Int))=false:=by simp;omega
    have hd2:decide ((lf:Int) < 64)=true:=by simp;omega
    have hd3:decide ((8:Int)≤(lf:Int))=false:=by simp;omega
    have hd4:¬ ((8:Int)≤(lf:Int)):=by omega
    go_wp2_with fail
    refine(kK H3.out lf (by omega)).mono ?_
    rintro e w4 ⟨rfl,h4⟩
    have hok:jF bs en 0 p lf=(gets bs p lf,0,p+lf):=jW (by have:=HN.out;omega)
    rw[hok] at h4
    rw[hok]
    simp only[] at h4
    obtain⟨z,hz⟩:∃ z,z=gets bs p lf:=⟨_,rfl⟩
    have hz64:z < 18446744073709551616:=by rw[hz];exact yM _ _ _ (by omega)
    rw[←hz]
    have H4:=zh (zN h4 hz)
    clear h4 hz hok hmi hd hd2
    by_cases h0:z=0
    ·subst h0
     rw[show ((0:Nat):Int)=0 from rfl]
     go_wp2_with fail
     refine(eu H4.out.1 false).mono ?_
     rintro e w5 ⟨rfl,h5⟩
     rw[if_neg (by simp)] at h5
     obtain⟨A3,c3,hv3,-,-⟩:=aA HR.out.1.row
     have hrow5:=aF HR.out.1.row h5.keep (fun q hq e=>by
      have:=(HR.out.1.row.lt q hq).1
      have:=HT.out.2.2.2.2.1
      omega)
     have hk5:=HR.out.1.tk.on h5
     have hfin:mh w (jg bs k) (.returned (.tuple #[.slice A3 out.length c3,.int .i64 0])) w5:=by
      refine⟨out,0,A3,c3,rfl,aU (hv3 ▸ hrow5) (by have:=HT.out.2.2.2.2;omega),HL.out _ hk5.keep,HR.out.1.u64,.inl ⟨rfl,?_⟩⟩
      unfold jg
      rw[←H1.out.2.2.2.2,HR.out.2.2]
      show (if vK bs en p then some out else none)=some out
      rw[if_pos ⟨by rw[←HN.out.1];exact h8,by rw[←HN.out.1];exact H4.out.2.symm⟩]
     have HF:=zh (zN hfin hv3)
     have d3:=h5.c3
     clear hfin hv3 h5 hk5 hrow5
     go_wp2_with fail
     go_ret2
     rw[HF.out.2]
     exact HF.out.1
    ·have d:((z:Int) != 0)=true:=by simp;omega
     go_wp2_with fail
     try rw[d]
     refine(eu H4.out.1 true).mono ?_
     rintro e w5 ⟨rfl,h5⟩
     rw[if_pos ⟨rfl,rfl⟩] at h5
     have H5:=zh h5
     clear h5
     have hfin:mh w (jg bs k) (.returned (.tuple #[.slice none 0 0,.int .i64 11])) w5.drew:=by
      refine⟨[],11,none,0,rfl,⟨rfl,.inl ⟨rfl,rfl⟩⟩,(HL.out _ (HR.out.1.tk.on H5.out).keep).drew,fun j=>by simp,.inr ⟨⟨by decide,rfl⟩,?_⟩⟩
      unfold jg
      rw[←H1.out.2.2.2.2,HR.out.2.2]
      show (if vK bs en p then some out else none)=none
      rw[if_neg (fun h=>h0 (by have h2:=h.2;rw[←HN.out.1,←H4.out.2] at h2;exact h2))]
     have HF:=zh hfin
     have d3:=H5.out.c3
     clear hfin
     go_wp2_with fail
     have hdd:w5.drew.cell? ⟨t,3,none⟩=some (.int .i64 11):=d3
     clear d3
     have hS:(fun w':World=>w'.cell? ⟨t,3,none⟩=some (.int .i64 11)) (w5.drew):=hdd
     refine av (fun w':World=>w'.cell? ⟨t,3,none⟩=some (.int .i64 11)) (by kernel_rfl) hS ?_
     refine zB [0,1,2,3,4,5] ?_
     iterate 6 (refine zV ?_ ?_ hS ?_;rotate_left;(intro w' hSw;go_simp<;>with_reducible rfl);try simp only[zP])
     refine zE ?_
     refine zD ?_
     try simp only[zP]
     go_wp2_with fail
     go_ret2
     exact HF.out
   ·have hd3:decide ((8:Int)≤(lf:Int))=true:=by simp;omega
    have hd4:(8:Int)≤(lf:Int):=by omega
    go_wp2_with fail
    refine(eu H3.out true).mono ?_
    rintro e w5 ⟨rfl,h5⟩
    rw[if_pos ⟨rfl,rfl⟩] at h5
    have H5:=zh h5
    clear h5
    have hfin:mh w (jg bs k) (.returned (.tuple #[.slice none 0 0,.int .i64 11])) w5.drew:=by
     refine⟨[],11,none,0,rfl,⟨rfl,.inl ⟨rfl,rfl⟩⟩,(HL.out _ (HR.out.1.tk.on H5.out).keep).drew,fun j=>by simp,.inr ⟨⟨by decide,rfl⟩,?_⟩⟩
     unfold jg
     rw[←H1.out.2.2.2.2,HR.out.2.2]
     show (if vK bs en p then some out else none)=none
     rw[if_neg (fun h=>h8 (by have h1:=h.1;rw[←HN.out.1] at h1;exact h1))]
    have HF:=zh hfin
    have d3:=H5.out.c3
    clear hfin
    go_wp2_with fail
    have hdd:w5.drew.cell? ⟨t,3,none⟩=some (.int .i64 11):=d3
    clear d3
    have hS:(fun w':World=>w'.cell? ⟨t,3,none⟩=some (.int .i64 11)) (w5.drew):=hdd
    refine av (fun w':World=>w'.cell? ⟨t,3,none⟩=some (.int .i64 11)) (by kernel_rfl) hS ?_
    refine zB [0,1,2,3,4,5] ?_
    iterate 6 (refine zV ?_ ?_ hS ?_;rotate_left;(intro w' hSw;go_simp<;>with_reducible rfl);try simp only[zP])
    refine zE ?_
    refine zD ?_
    try simp only[zP]
    go_wp2_with fail
    go_ret2
    exact HF.out
end X
namespace X
theorem qj(bs:List Nat)(p:Nat): gets bs p 1=bI bs p:=by show 2*0+bI bs (p+0)=_;simp
theorem yU(bs:List Nat)(p:Nat): gets bs p 2=2*gets bs p 1+gets bs (p+1) 1:=by
 rw[qj,qj]
 show 2*gets bs p 1+bI bs (p+1)=_
 rw[qj]
theorem jX(bs:List Nat)(p:Nat): gets bs p 1 < 2:=iB bs p 1
theorem P8{v l t:Nat}(hlt:l+t≤63)(h0:v≠0)(hv:v < 2 ^ (64-l-t)): v*2 ^ t < 18446744073709551616∧v*2 ^ t≠0∧l≤lead (v*2 ^ t)∧t≤trail (v*2 ^ t)∧v*2 ^ t / 2 ^ t=v:=by
 have hp:0 < 2 ^ t:=Nat.two_pow_pos t
 have hx:v*2 ^ t < 18446744073709551616:=tN hv (by omega)
 have hx0:0 < v*2 ^ t:=Nat.mul_pos (by omega) hp
 have hxl:v*2 ^ t < 2 ^ (64-l):=by
  rw[show 64-l=(64-l-t)+t by omega,Nat.pow_add]
  exact Nat.mul_lt_mul_of_pos_right hv hp
 refine⟨hx,by omega,?_,?_,Nat.mul_div_cancel _ hp⟩
 ·obtain ⟨h1,h2,h3⟩:=oz hx0 hx
  rcases Nat.lt_or_ge (lead (v*2 ^ t)) l with hlt' | hge
  ·have:2 ^ (64-l)≤2 ^ (63-lead (v*2 ^ t)):=Nat.pow_le_pow_right (by omega) (by omega)
   omega
  ·exact hge
 ·have hv64:v < 18446744073709551616:=Nat.lt_of_lt_of_le hv (Nat.le_trans (Nat.pow_le_pow_right (by omega) (show 64-l-t≤64 by omega)) (by decide))
  obtain⟨-,m,hm⟩:=kV (by omega) hv64
  have:trail (v*2 ^ t)=trail v+t:=by
   refine Ko (m:=m) hx ?_
   rw[Nat.pow_add,Nat.mul_assoc,Nat.mul_comm (2 ^ t),←Nat.mul_assoc,←hm]
  omega
theorem Em{x l t:Nat}(hx:x < 18446744073709551616)(h0:x≠0)(hl:l≤lead x)(ht:t≤trail x): x / 2 ^ t < 2 ^ (64-l-t)∧x / 2 ^ t≠0∧x / 2 ^ t*2 ^ t=x∧l+t≤63:=by
 have hp:0 < 2 ^ t:=Nat.two_pow_pos t
 have hw:=qJ (by omega) hx
 obtain⟨h1,h2,h3⟩:=oz (u:=x) (by omega) hx
 obtain⟨h4,m,hm⟩:=kV (u:=x) (by omega) hx
 have hd:x / 2 ^ t*2 ^ t=x:=by
  refine Nat.div_mul_cancel ?_
  refine⟨2 ^ (trail x-t)*(2*m+1),?_⟩
  rw[←Nat.mul_assoc,←Nat.pow_add,show t+(trail x-t)=trail x by omega]
  exact hm
 refine⟨?_,?_,hd,by omega⟩
 ·refine Nat.div_lt_of_lt_mul ?_
  rw[←Nat.pow_add]
  refine Nat.lt_of_lt_of_le h3 (Nat.pow_le_pow_right (by omega) (by omega))
 ·intro he
  rw[he] at hd
  omega
theorem QK{bs L:List Nat}(h:Begins bs L)(hr:L.length+1+1≤8*bs.length)(h1:¬ gets bs L.length 1=0){b:Nat}(h2:gets bs (L.length+1) 1=b): Begins bs (L ++ aM (2+b) 2 2):=by
 refine h.put (by omega) ?_
 rw[yU,h2]
 have:=jX bs L.length
 omega
theorem KT{bs L:List Nat}{o o':Option (Nat × Nat)}{x p':Nat}(ho:lW o)(hb:Begins bs L)(h:jI bs (8*bs.length) o L.length=some (x,o',p')):
  Begins bs (L ++ fB o x)∧o'=iL o x∧p'=(L ++ fB o x).length∧x < 18446744073709551616:=by
 unfold jI at h
 split at h
 ·rename_i hr1
  split at h
  ·rename_i hz
   injection h with h
   injection h with hx h
   injection h with h2 h3
   subst hx
   subst h2
   have e:fB o 0=aM 0 1 1:=by unfold fB;rw[if_pos rfl]
   rw[e]
   refine⟨hb.put hr1 hz,by unfold iL;rw[if_pos rfl],?_,by omega⟩
   rw[List.length_append,aG,h3]
  ·rename_i hnz
   split at h
   ·rename_i hr2
    split at h
    ·rename_i hz2
     have hm:=QK hb hr2 hnz hz2
     unfold uS at h
     split at h
     ·cases h
     ·rename_i l t
      split at h
      ·rename_i hr3
       split at h
       ·cases h
       ·rename_i hv0
        injection h with h
        injection h with hx h
        injection h with h2 h3
        have hlt:l+t≤63:=ho _ rfl
        obtain⟨w1,w2,w3,w4,w5⟩:=P8 hlt hv0 (iB bs (L.length+1+1) (64-l-t))
        rw[hx] at w1 w2 w3 w4 w5
        have hf:fits (some (l,t)) x=true:=by
         unfold fits
         simp[w3,w4]
        obtain⟨e1,e2⟩:=vD w2 hf
        have hml:(L ++ aM (2+0) 2 2).length=L.length+1+1:=by rw[List.length_append,aG]
        have hB:=hm.put (n:=64-l-t) (v:=x / 2 ^ t) (by rw[hml];exact hr3) (by rw[hml,w5])
        rw[e1,e2,←List.append_assoc]
        refine⟨hB,h2.symm,?_,w1⟩
        rw[List.length_append,hml,aG,h3]
      ·cases h
    ·rename_i hz2
     have hz3:gets bs (L.length+1) 1=1:=by have:=jX bs (L.length+1);omega
     have hm:=QK hb hr2 hnz hz3
     have hml:(L ++ aM (2+1) 2 2).length=L.length+1+1:=by rw[List.length_append,aG]
     unfold newX at h
     split at h
     ·rename_i hr4
      split at h
      ·rename_i hr5
       unfold uK at h
       split at h
       ·rename_i hlm
        split at h
        ·rename_i hr6
         split at h
         ·rename_i hc
          injection h with h
          injection h with hx h
          injection h with h2 h3
          rw[hx] at hc
          obtain⟨c1,c2,c3,c4⟩:=hc
          obtain⟨e1,e2⟩:=uZ c1 c4
          have hB1:=hm.put (n:=6) (v:=lead x) (by rw[hml];exact hr4) (by rw[hml];exact c2.symm)
          have hl1:(L ++ aM (2+1) 2 2 ++ aM (lead x) 6 6).length=L.length+1+1+6:=by rw[List.length_append,hml,aG]
          have hB2:=hB1.put (n:=6) (v:=64-lead x-trail x-1) (by rw[hl1];exact hr5) (by rw[hl1,c3];omega)
          have hl2:(L ++ aM (2+1) 2 2 ++ aM (lead x) 6 6 ++ aM (64-lead x-trail x-1) 6 6).length=L.length+1+1+6+6:=by rw[List.length_append,hl1,aG]
          have hmm:64-lead x-trail x=gets bs (L.length+1+1+6) 6+1:=by omega
          have hxt:x / 2 ^ trail x=gets bs (L.length+1+1+6+6) (64-lead x-trail x):=by
           rw[hmm,c3,←hx,Nat.mul_div_cancel _ (Nat.two_pow_pos _)]
          have hB3:=hB2.put (n:=64-lead x-trail x) (v:=x / 2 ^ trail x) (by rw[hl2,hmm];exact hr6) (by rw[hl2];exact hxt.symm)
          have h64:x < 18446744073709551616:=by
           rw[←hx]
           exact tN (iB _ _ _) (by omega)
          have ee:L ++ fB o x=L ++ aM (2+1) 2 2 ++ aM (lead x) 6 6 ++ aM (64-lead x-trail x-1) 6 6 ++ aM (x / 2 ^ trail x) (64-lead x-trail x) (64-lead x-trail x):=by
           rw[e1];simp only[List.append_assoc]
          rw[ee,e2]
          refine⟨hB3,?_,?_,h64⟩
          ·rw[←h2,c2,c3]
          ·rw[List.length_append,hl2,aG,hmm,h3]
         ·cases h
        ·cases h
       ·cases h
      ·cases h
     ·cases h
   ·cases h
 ·cases h
theorem LB{bs L:List Nat}{o:Option (Nat × Nat)}{x:Nat}(ho:lW o)(hx:x < 18446744073709551616)(h:Begins bs (L ++ fB o x)):
  jI bs (8*bs.length) o L.length=some (x,iL o x,(L ++ fB o x).length):=by
 have hroom:=h.room
 by_cases h0:x=0
 ·subst h0
  have e:fB o 0=aM 0 1 1:=by unfold fB;rw[if_pos rfl]
  rw[e] at h hroom ⊢
  rw[aG] at hroom
  unfold jI
  rw[if_pos hroom,if_pos (h.get (by decide)),List.length_append,aG]
  unfold iL
  rw[if_pos rfl]
 ·cases hf:fits o x with
  | true=>
   match o,ho,hf,h,hroom with
   | none,_,hf,_,_=>cases hf
   | some (l,t),ho,hf,h,hroom=>
    obtain⟨e1,e2⟩:=vD h0 hf
    have hf':=hf
    unfold fits at hf'
    simp only[Bool.and_eq_true,decide_eq_true_eq] at hf'
    obtain⟨b1,b2,b3,b4⟩:=Em hx h0 hf'.1 hf'.2
    rw[e1,←List.append_assoc] at h
    rw[e1,List.length_append,aG,aG] at hroom
    have hm:=h.pre.get (by decide)
    rw[yU] at hm
    have g1:=jX bs L.length
    have g2:=jX bs (L.length+1)
    have hml:(L ++ aM 2 2 2).length=L.length+1+1:=by rw[List.length_append,aG]
    have hg:=h.get b1
    rw[hml] at hg
    unfold jI
    rw[if_pos (by omega),if_neg (by omega),if_pos (by omega),if_pos (by omega)]
    unfold uS
    show (if L.length+1+1+(64-l-t)≤8*bs.length then _ else _)=_
    rw[if_pos (by omega),hg,if_neg b2,b3,e2,e1,←List.append_assoc,List.length_append,hml,aG]
  | false=>
   obtain⟨e1,e2⟩:=uZ h0 hf
   have hw:=qJ (u:=x) (by omega) hx
   obtain⟨b1,b2,b3,-⟩:=Em hx h0 (Nat.le_refl _) (Nat.le_refl _)
   have ee:L ++ fB o x=L ++ aM 3 2 2 ++ aM (lead x) 6 6 ++ aM (64-lead x-trail x-1) 6 6 ++ aM (x / 2 ^ trail x) (64-lead x-trail x) (64-lead x-trail x):=by
    rw[e1];simp only[List.append_assoc]
   rw[ee] at h ⊢
   have hml:(L ++ aM 3 2 2).length=L.length+1+1:=by rw[List.length_append,aG]
   have hl1:(L ++ aM 3 2 2 ++ aM (lead x) 6 6).length=L.length+1+1+6:=by rw[List.length_append,hml,aG]
   have hl2:(L ++ aM 3 2 2 ++ aM (lead x) 6 6 ++ aM (64-lead x-trail x-1) 6 6).length=L.length+1+1+6+6:=by rw[List.length_append,hl1,aG]
   have hr:=h.room
   rw[hl2,aG] at hr
   have hm:=h.pre.pre.pre.get (by decide)
   rw[yU] at hm
   have q1:=h.pre.pre.get (by show lead x < 64;omega)
   have q2:=h.pre.get (by show 64-lead x-trail x-1 < 64;omega)
   have q3:=h.get b1
   rw[hml] at q1
   rw[hl1] at q2
   rw[hl2] at q3
   have g1:=jX bs L.length
   have g2:=jX bs (L.length+1)
   unfold jI
   rw[if_pos (by omega),if_neg (by omega),if_pos (by omega),if_neg (by omega)]
   unfold newX
   rw[if_pos (by omega),if_pos (by omega),q1,q2,show 64-lead x-trail x-1+1=64-lead x-trail x by omega]
   unfold uK
   rw[if_pos (by omega),if_pos (by omega),show 64-lead x-(64-lead x-trail x)=trail x by omega,q3,b3,if_pos ⟨h0,rfl,rfl,hf⟩,e2,List.length_append,hl2,aG]
theorem qy{f g:Nat→Nat}: ∀ k,(∀ j,j < k→f j=g j)→aV f k=aV g k∧gF f k=gF g k
 | 0,_=>⟨rfl,rfl⟩
 | 1,h=>⟨by show aM (f 0) 64 64=aM (g 0) 64 64;rw[h 0 (by omega)],rfl⟩
 | k+2,h=>by
  obtain⟨h1,h2⟩:=qy (k+1) (fun j hj=>h j (by omega))
  refine⟨?_,?_⟩
  ·show aV f (k+1) ++ fB (gF f (k+1)) (f (k+1) ^^^ f k)=aV g (k+1) ++ fB (gF g (k+1)) (g (k+1) ^^^ g k)
   rw[h1,h2,h k (by omega),h (k+1) (by omega)]
  ·show iL (gF f (k+1)) (f (k+1) ^^^ f k)=iL (gF g (k+1)) (g (k+1) ^^^ g k)
   rw[h2,h k (by omega),h (k+1) (by omega)]
theorem JQ(f:Nat→Nat)(k:Nat): ∀ n,k≤n→∃ M,aV f n=aV f k ++ M:=by
 intro n
 induction n with
 | zero=>
   intro h;obtain rfl:k=0:=by omega
   exact⟨[],by simp⟩
 | succ n ih=>
  intro h
  by_cases he:k=n+1
  ·subst he;exact ⟨[],by simp⟩
  ·obtain ⟨M,hM⟩:=ih (by omega)
   match n,hM with
   | 0,hM=>
     obtain rfl:k=0:=by omega
     exact⟨aV f 1,rfl⟩
   | n+1,hM=>
    refine⟨M ++ fB (gF f (n+1)) (f (n+1) ^^^ f n),?_⟩
    show aV f (n+1) ++ _=_
    rw[hM,List.append_assoc]
def gK(f:Nat→Nat)(k:Nat): List Nat:=(List.range k).map f
theorem uG(f:Nat→Nat)(k:Nat): (gK f k).length=k:=by simp[gK]
theorem JA(f:Nat→Nat)(k:Nat): gK f (k+1)=gK f k ++ [f k]:=by simp[gK,List.range_succ]
theorem JK(f:Nat→Nat)(k j:Nat)(h:j < k): (gK f k).getD j 0=f j:=by
 unfold gK
 rw[List.getD_eq_getElem?_getD,List.getElem?_map,List.getElem?_range h];rfl
theorem Qk(a b:Nat): a ^^^ (b ^^^ a)=b:=by
 rw[Nat.xor_comm b a,←Nat.xor_assoc,Nat.xor_self,Nat.zero_xor]
theorem Le(a b:Nat): (a ^^^ b) ^^^ a=b:=by
 rw[Nat.xor_comm (a ^^^ b) a,←Nat.xor_assoc,Nat.xor_self,Nat.zero_xor]
theorem LG{bs:List Nat}{f:Nat→Nat}{k:Nat}(hf:∀ j,f j < 18446744073709551616)(h:Begins bs (aV f (k+1))):
  jd bs (8*bs.length) (gK f k) (gF f k) (aV f k).length=some (f k,gF f (k+1),(aV f (k+1)).length):=by
 match k with
 | 0=>
  have h':Begins bs ([] ++ aM (f 0) 64 64):=h
  have hg:gets bs 0 64=f 0:=h'.get (hf 0)
  have hroom:0+64≤8*bs.length:=by have:=h'.room;rw[aG] at this;exact this
  unfold jd
  rw[uG,if_pos rfl]
  show (if 0+64≤8*bs.length then some (gets bs 0 64,none,0+64) else none)=some (f 0,none,(aM (f 0) 64 64).length)
  rw[if_pos hroom,hg,aG]
 | k+1=>
  have h':Begins bs (aV f (k+1) ++ fB (gF f (k+1)) (f (k+1) ^^^ f k)):=h
  have ht:=LB (BH hf (k+1)) (vJ (hf _) (hf _)) h'
  unfold jd
  rw[uG,if_neg (by omega),ht]
  show some ((gK f (k+1)).getD (k+1-1) 0 ^^^ (f (k+1) ^^^ f k),_,_)=_
  rw[show k+1-1=k by omega,JK f (k+1) k (by omega),Qk]
  rfl
theorem Fe{bs:List Nat}{f:Nat→Nat}{n:Nat}(hf:∀ j,f j < 18446744073709551616)(h:Begins bs (aV f n)): ∀ m k,m+k=n→jR bs (8*bs.length) m (gK f k) (gF f k) (aV f k).length=some (gK f n,(aV f n).length)
 | 0,k,hk=>by
  obtain rfl:k=n:=by omega
  rfl
 | m+1,k,hk=>by
  obtain⟨M,hM⟩:=JQ f (k+1) n (by omega)
  have hb:Begins bs (aV f (k+1)):=by rw[hM] at h;exact h.pre
  unfold jR
  rw[LG hf hb]
  show jR bs (8*bs.length) m (gK f k ++ [f k]) (gF f (k+1)) (aV f (k+1)).length=_
  rw[←JA]
  exact Fe hf h m (k+1) (by omega)
theorem Nf{f:Nat→Nat}(hf:∀ j,f j < 18446744073709551616)(n:Nat): jg (pack (aV f n)) n=some (gK f n):=by
 have hb:=sK f n
 have h:jR (pack (aV f n)) (8*(pack (aV f n)).length) n [] none 0=some (gK f n,(aV f n).length):=Fe hf (Begins.pack hb) n 0 (by omega)
 unfold jg
 rw[h]
 show (if vK _ _ (aV f n).length then some (gK f n) else none)=_
 rw[if_pos]
 unfold vK
 rw[um hb,bK]
 refine⟨?_,rfl⟩
 omega
theorem Ll{bs out:List Nat}{t p':Nat}{o':Option (Nat × Nat)}(hu:∀ j,out.getD j 0 < 18446744073709551616)(hb:Begins bs (aV (fun j=>out.getD j 0) out.length))(h:jd bs (8*bs.length) out (gF (fun j=>out.getD j 0) out.length) (aV (fun j=>out.getD j 0) out.length).length=some (t,o',p')):
  Begins bs (aV (fun j=>(out ++ [t]).getD j 0) (out.length+1))∧o'=gF (fun j=>(out ++ [t]).getD j 0) (out.length+1)∧p'=(aV (fun j=>(out ++ [t]).getD j 0) (out.length+1)).length∧t < 18446744073709551616:=by
 have hg:∀ j,j < out.length→out.getD j 0=(out ++ [t]).getD j 0:=fun j hj=>by
  rw[List.getD_eq_getElem?_getD,List.getD_eq_getElem?_getD,List.getElem?_append_left hj]
 have hlast:(out ++ [t]).getD out.length 0=t:=by
  rw[List.getD_eq_getElem?_getD];simp
 obtain⟨c1,c2⟩:=qy out.length hg
 unfold jd at h
 cases hl:out.length with
 | zero=>
  have ho:out=[]:=List.eq_nil_of_length_eq_zero hl
  subst ho
  rw[if_pos (show ([]:List Nat).length=0 from rfl)] at h
  have h':(if 0+64≤8*bs.length then some (gets bs 0 64,(none:Option (Nat × Nat)),0+64) else none)=some (t,o',p'):=h
  split at h'
  ·rename_i hfit
   injection h' with h'
   injection h' with h1 h2
   injection h2 with h2 h3
   have hz:=yM bs 0 64 (by omega)
   have hB:=(Begins.nil bs).put (n:=64) (v:=gets bs 0 64) hfit rfl
   have e:aV (fun j=>([] ++ [t]).getD j 0) (0+1)=[] ++ aM (gets bs 0 64) 64 64:=by
    show aM t 64 64=_
    rw[←h1]
    rfl
   rw[e]
   refine⟨hB,h2.symm,?_,by rw[←h1];exact hz⟩
   rw[←h3,List.nil_append,aG]
  ·cases h'
 | succ k=>
  rw[if_neg (by omega)] at h
  rw[hl] at hb h c1 c2
  cases htk:jI bs (8*bs.length) (gF (fun j=>out.getD j 0) (k+1)) (aV (fun j=>out.getD j 0) (k+1)).length with
  | none=>rw[htk] at h;cases h
  | some q=>
   obtain⟨x,o2,p2⟩:=q
   rw[htk] at h
   injection h with h
   injection h with h1 h2
   injection h2 with h2 h3
   simp only[] at h1 h2 h3
   obtain⟨hB,hq,hd,hx⟩:=KT (BH hu (k+1)) hb htk
   rw[show k+1-1=k by omega] at h1
   have e1:(out ++ [t]).getD (k+1) 0=t:=by rw[←hl];exact hlast
   have e2:(out ++ [t]).getD k 0=out.getD k 0:=(hg k (by omega)).symm
   have e3:t ^^^ out.getD k 0=x:=by rw[←h1,Le]
   have e:aV (fun j=>(out ++ [t]).getD j 0) (k+1+1)=aV (fun j=>out.getD j 0) (k+1) ++ fB (gF (fun j=>out.getD j 0) (k+1)) x:=by
    show aV (fun j=>(out ++ [t]).getD j 0) (k+1) ++ fB (gF (fun j=>(out ++ [t]).getD j 0) (k+1)) ((out ++ [t]).getD (k+1) 0 ^^^ (out ++ [t]).getD k 0)=_
    rw[←c1,←c2,e1,e2,e3]
   rw[e]
   refine⟨hB,?_,by rw[←h3,hd],by rw[←h1];exact vJ (hu k) hx⟩
   show o'=iL (gF (fun j=>(out ++ [t]).getD j 0) (k+1)) ((out ++ [t]).getD (k+1) 0 ^^^ (out ++ [t]).getD k 0)
   rw[←c2,e1,e2,e3,←hq,h2]
theorem Ec{bs:List Nat}{l:List Nat}{q:Nat}: ∀ m (out:List Nat),(∀ j,out.getD j 0 < 18446744073709551616)→Begins bs (aV (fun j=>out.getD j 0) out.length)→
  jR bs (8*bs.length) m out (gF (fun j=>out.getD j 0) out.length) (aV (fun j=>out.getD j 0) out.length).length=some (l,q)→
  l.length=out.length+m∧Begins bs (aV (fun j=>l.getD j 0) l.length)∧q=(aV (fun j=>l.getD j 0) l.length).length
 | 0,out,_,hb,h=>by
  injection h with h
  injection h with h1 h2
  subst h1
  exact⟨rfl,hb,h2.symm⟩
 | m+1,out,hu,hb,h=>by
  unfold jR at h
  cases hn:jd bs (8*bs.length) out (gF (fun j=>out.getD j 0) out.length) (aV (fun j=>out.getD j 0) out.length).length with
  | none=>rw[hn] at h;cases h
  | some r=>
   obtain⟨t,o',p'⟩:=r
   rw[hn] at h
   have h':jR bs (8*bs.length) m (out ++ [t]) o' p'=some (l,q):=h
   obtain⟨h1,h2,h3,h4⟩:=Ll hu hb hn
   have hl:(out ++ [t]).length=out.length+1:=by simp
   rw[h2,h3] at h'
   have:=Ec m (out ++ [t]) (DL hu h4) (by rw[hl];exact h1) (by rw[hl];exact h')
   rw[hl] at this
   exact⟨by omega,this.2⟩
theorem Oe{bs:List Nat}(hbyte:∀ j,bs.getD j 0 < 256){n:Nat}{l:List Nat}(h:jg bs n=some l): l.length=n∧pack (aV (fun j=>l.getD j 0) n)=bs:=by
 unfold jg at h
 cases hd:jR bs (8*bs.length) n [] none 0 with
 | none=>rw[hd] at h;cases h
 | some r=>
  obtain⟨o,q⟩:=r
  rw[hd] at h
  have h':(if vK bs (8*bs.length) q then some o else none)=some l:=h
  split at h'
  ·rename_i hend
   injection h' with h1
   subst h1
   obtain⟨g1,g2,g3⟩:=Ec n [] (fun j=>by simp) (Begins.nil bs) hd
   have hl:o.length=n:=by simpa using g1
   refine⟨hl,?_⟩
   rw[hl] at g2 g3
   obtain⟨e1,e2⟩:=hend
   rw[g3] at e1 e2
   have:=g2.le
   exact(g2.all hbyte (sK _ _) (by omega) e2).symm
  ·cases h'
end X
namespace X
open Go.RowKit
end X
namespace X
open Go.RowKit
def lV(bs:List Nat)(n:Int): Option (List Nat):=if n < 0 then none else if 4096 < n then none else jg bs n.toNat
theorem FY(w:World)(A:Option Addr)(len c:Nat)(D0:Nat→Prop)(bs:List Nat)(n:Int)(hl:bs.length=len)(hsl:Sl w D0 A len (aD bs))(hbyte:∀ j,bs.getD j 0 < 256)(hsm:len≤1048576):
  Calls Tryz.prog 368 #[.slice A len c,.int .i64 n] w (mh w (lV bs n)):=by
 unfold lV
 by_cases h1:n < 0
 ·rw[if_pos h1]
  refine(Gn w A len c n h1).mono ?_
  rintro e w' ⟨rfl,rfl⟩
  exact⟨[],2,none,0,rfl,⟨rfl,.inl ⟨rfl,rfl⟩⟩,Keeps.refl _ _,fun j=>by simp,.inr ⟨⟨by decide,rfl⟩,rfl⟩⟩
 ·rw[if_neg h1]
  by_cases h2:4096 < n
  ·rw[if_pos h2]
   refine(Gp w A len c n h2).mono ?_
   rintro e w' ⟨rfl,rfl⟩
   exact⟨[],3,none,0,rfl,⟨rfl,.inl ⟨rfl,rfl⟩⟩,Keeps.refl _ _,fun j=>by simp,.inr ⟨⟨by decide,rfl⟩,rfl⟩⟩
  ·rw[if_neg h2]
   obtain⟨m,rfl⟩:=Int.eq_ofNat_of_zero_le (show 0≤n by omega)
   exact J4 w A len c D0 bs m hl hsl hbyte hsm (by omega)
theorem Eb{bs:List Nat}(hb:∀ j,bs.getD j 0 < 256){n:Int}{l:List Nat}(h:lV bs n=some l): (l.length:Int)=n∧l.length≤4096∧pack (aV (fun j=>l.getD j 0) l.length)=bs:=by
 unfold lV at h
 by_cases h1:n < 0
 ·rw[if_pos h1] at h;cases h
 ·rw[if_neg h1] at h
  by_cases h2:4096 < n
  ·rw[if_pos h2] at h;cases h
  ·rw[if_neg h2] at h
   obtain⟨g1,g2⟩:=Oe hb h
   rw[←g1] at g2
   exact⟨by omega,by omega,g2⟩
end X
end Go.Proofs.YtmffkpkgbdcnjaaGreatDoor
