/-
  Proved: never more points are in memory than may be; a write beyond that is refused, and changes nothing; behind a flush there is room: for all two numbers
  No condition beyond those of the given row. (The frame follows the kit's proof-skeleton; the walk is the text TopLimitsW of this claim.)
-/
import Derived.Test.YtmffkpkgbdcnjaaGreatDoorTopLimits05
import Derived.Test.YtmffkpkgbdcnjaaGreatDoorTopLimits01
import Derived.Test.YtmffkpkgbdcnjaaGreatDoorTopLimits06
import Derived.Test.YtmffkpkgbdcnjaaGreatDoorTopLimits07
import Derived.Test.YtmffkpkgbdcnjaaGreatDoorCards
import Derived.Test.YtmffkpkgbdcnjaaGreatDoorTie
import Derived.WalkKit
import Derived.ProofKit
import Derived.OpenShut
import Derived.ShutString
import Derived.ChangeOld
import Derived.Below
import Derived.SizedLaws
import Derived.ChangeVars
import Derived.Lib.SmallJoins
import Derived.LaidLaws
import Derived.LaidHandle
import Derived.Stop.Joined
import Derived.Deep.DeepHandedRow
set_option linter.unusedVariables false
set_option linter.unusedSimpArgs false
set_option maxRecDepth 100000
set_option maxHeartbeats 20000000
namespace Go.Proofs.YtmffkpkgbdcnjaaGreatDoor
section
open Go.RowKit
def lY(n:Nat): List Nat:=[n%256,n / 256%256,n / 65536%256,0]
theorem Kw(n:Nat): ∀ b ∈ lY n,b < 256:=by
 intro b hb
 simp[lY] at hb
 omega
def ni(bs:List Nat): List Nat:=F.aN 1 (lY bs.length) ++ F.aN 2 bs
theorem wV(bs:List Nat): (ni bs).length=bs.length+22:=by
 unfold ni
 rw[List.length_append,F.bB,F.bB]
 simp[lY]
 omega
theorem FV(w:World)(A:Option Addr)(n c:Nat)(D:Nat→Prop)(bs:List Nat)(hl:bs.length=n)(hsl:Sl w D A n (aD bs))(hD:∀ q,D q→q < w.heap.size)(hb:∀ j,bs.getD j 0 < 256)(hn:n≤65536):
  Calls Tryz.prog 78 #[.slice A n c] w (F.jE w (ni bs) 0):=by
 obtain⟨x,hx⟩:∃ x,x=w.heap.size:=⟨_,rfl⟩
 have o0:=Own.eX w hx 5 #[.int .u8 ((n:Int)%256),.int .u8 ((n:Int) / 256%256),.int .u8 ((n:Int) / 65536),.int .u8 0]
 have d1:decide ((65536:Int) < (n:Int))=false:=by simp;omega
 have d2:decide (65536 < n)=false:=by simp;omega
 have HD:=zh (zN hl (zN hsl (zN hD (zN hb (zN hx o0)))))
 clear hl hsl hD hb o0
 go_enter Tryz.func78,Tryz.ntmps78
 go_wp2_with fail
 rw[←hx]
 clear hx
 refine bC (Own w [(x,5,#[.int .u8 ((n:Int)%256),.int .u8 ((n:Int) / 256%256),.int .u8 ((n:Int) / 65536),.int .u8 0])]) HD.out.2.2.2.2.2 ?_
 intro w1 h1
 have hbk:au w1 x 5 ((lY n).map F.aI).toArray:=by
  have h:=h1.get 0 rfl
  have e:((lY n).map F.aI).toArray=#[.int .u8 ((n:Int)%256),.int .u8 ((n:Int) / 256%256),.int .u8 ((n:Int) / 65536),.int .u8 0]:=by
   simp[lY,F.aI]
   omega
  rw[e]
  exact h
 have hs4:Sl w1 (fun q=>q < w1.heap.size) (some ⟨x,0,none⟩) 4 (aD (lY n)):=(V.EY hbk)
 have H1:=zh (zN h1.bel hs4)
 clear h1 hbk hs4
 refine(F.pR w1 1 _ 4 4 _ (lY n) rfl H1.out.2 (F.lM (Kw n)) (by omega) (by omega)).mono ?_
 rintro e w2 ⟨A2,c2,rfl,ho2,hk2⟩
 have hb2:Below w.heap.size w w2:=H1.out.1.trans (hk2.bM.mono H1.out.1.size)
 have ho2':=aU ho2 H1.out.1.size
 obtain⟨l2,hl2⟩:∃ l2,l2=(F.aN 1 (lY n)).length:=⟨_,rfl⟩
 rw[←hl2] at ho2 ho2' ⊢
 have H2:=zh (zN hb2 (zN ho2' hl2))
 clear ho2 ho2' hk2 hb2
 have hl13:l2=13:=by rw[hl2,F.bB];simp[lY]
 have hq2:l2≤13:=by omega
 have HL2:=zh hl13
 clear hl2 hl13
 go_wp2_with fail
 refine(F.pR w2 2 A n c _ bs HD.out.1 (HD.out.2.1.below H2.out.1 (fun q hq _=>HD.out.2.2.1 q hq)) HD.out.2.2.2.1 (by omega) (by omega)).mono ?_
 rintro e w3 ⟨A3,c3,rfl,ho3,hk3⟩
 obtain⟨l3,hl3⟩:∃ l3,l3=(F.aN 2 bs).length:=⟨_,rfl⟩
 rw[←hl3] at ho3 ⊢
 have hl39:l3=n+9:=by rw[hl3,F.bB,HD.out.1]
 have hq3:l3≤n+9:=by omega
 have HL3:=zh hl39
 clear hl39
 have hb3:Below w.heap.size w w3:=H2.out.1.trans (hk3.bM.mono H2.out.1.size)
 have ho23:=aF H2.out.2.1 hk3 (fun _ _ h=>h)
 have hs3:=(F.rD hl3.symm ho3).mono (E:=fun q=>q < w3.heap.size) (fun q hq=>(ho3.lt q hq).2)
 have H3:=zh (zN hb3 (zN ho23 (zN hs3 hl3)))
 clear ho3 hk3 hb3 ho23 hs3 hl3
 go_wp2_with (at_builtin;refine aW (f:=aD (F.aN 2 bs)) (D:=fun q=>q < w3.heap.size) (base:=w.heap.size) (n:=l2) (xs:=(F.aN 1 (lY n)).map F.aI) F.byteElem rfl (.tmp 31) (.tmp 32) rfl rfl rfl ?hown ?hsl ?h1 ?h63 ?hby ?hbase ?_)
 case hown=>exact H3.out.2.1
 case hsl=>exact H3.out.2.2.1
 case h1=>intro j _;rfl
 case h63=>unfold maxLen;omega
 case hby=>omega
 case hbase=>exact H3.out.1.size
 intro v4 w4 ho4 hg4 hx4
 have hb4:Below w.heap.size w w4:=V.qE H3.out.1 H3.out.2.1 hg4
 obtain⟨A4,c4,hv4,hc4,-⟩:=aA ho4
 subst hv4
 have e4:l2+l3=(ni bs).length:=by rw[wV,HD.out.1,HL2.out,HL3.out];omega
 have ho4':w4.ownsRow w.heap.size 5 1 (.slice A4 (ni bs).length c4) (ni bs).length ((ni bs).map F.aI):=by
  rw[H3.out.2.2.2,F.fE rfl,←H3.out.2.2.2,e4] at ho4
  unfold ni
  rw[List.map_append,HD.out.1]
  unfold ni at ho4
  rw[HD.out.1] at ho4
  exact ho4
 have H4:=zh (zN hb4 (zN ho4' e4))
 clear ho4 ho4' hg4 hx4 hb4 e4
 go_wp2_with fail
 go_ret2
 exact⟨A4,c4,by rw[←H4.out.2.2];rfl,H4.out.2.1,Keeps.of_below H4.out.1⟩
end
section
open Go.RowKit
def lX(fs:Nat→Nat)(k:Nat): List Value:=(List.range k).map fun j=>.int .i64 (fs j:Nat)
theorem oI(fs:Nat→Nat)(k:Nat): (lX fs k).length=k:=by unfold lX;simp
theorem tO(fs:Nat→Nat)(k j:Nat)(h:j < k): (lX fs k)[j]? = some (.int .i64 (fs j:Nat)):=by
 unfold lX
 rw[List.getElem?_map,List.getElem?_range h]
 rfl
structure bL(w:World)(l d limit:Nat)(A:Option Addr)(cp:Nat)(fs:Nat→Nat)(k size next:Nat)(dirty:Bool): Prop where
 blk:au w l 130 #[.pointer (some ⟨d,0,none⟩),.int .i64 (limit:Nat),.slice A k cp,.int .i64 (size:Nat),.int .i64 (next:Nat),.bool dirty,.bool false]
 row:w.ownsRow 0 3 1 (.slice A k cp) k (lX fs k)
def fM(l:Nat)(A:Option Addr)(q:Nat): Prop:=q=l∨(A.map (·.block))=some q
theorem ownB(A:Option Addr)(n c:Nat): (Value.slice A n c).ownBlock=A.map (·.block):=by cases A<;>rfl
theorem bL.keep{S:Nat→Prop}{w w':World}{l d limit:Nat}{A:Option Addr}{cp:Nat}{fs:Nat→Nat}{k size next:Nat}{dirty:Bool}(h:bL w l d limit A cp fs k size next dirty)(hk:Keeps S w w')(hS:∀ q,fM l A q→¬ S q): bL w' l d limit A cp fs k size next dirty:=
 ⟨h.blk.keeps hk (hS _ (.inl rfl)),aF h.row hk (fun g hg=>hS _ (.inr (by rw[←ownB A k cp];exact hg)))⟩
theorem bL.call{w w':World}{l d limit:Nat}{A:Option Addr}{cp:Nat}{fs:Nat→Nat}{k size next:Nat}{dirty:Bool}(h:bL w l d limit A cp fs k size next dirty)(hb:Below w.heap.size w w'): bL w' l d limit A cp fs k size next dirty:=
 h.keep (S:=fun _=>False) (Keeps.of_below hb) (fun _ _ h=>h)
theorem bL.dH{w:World}{l d limit:Nat}{A:Option Addr}{cp:Nat}{fs:Nat→Nat}{k size next:Nat}{dirty:Bool}(h:bL w l d limit A cp fs k size next dirty){q:Nat}(hq:fM l A q): q < w.heap.size:=by
 rcases hq with rfl | hq
 ·exact h.blk.lt
 ·exact (h.row.lt q (by rw[ownB];exact hq)).2
theorem bL.cellAt{w:World}{l d limit:Nat}{A:Option Addr}{cp:Nat}{fs:Nat→Nat}{k size next:Nat}{dirty:Bool}(h:bL w l d limit A cp fs k size next dirty){g:Nat}(hA:A=some ⟨g,0,none⟩){j:Nat}(hj:j < k): w.cell? ⟨g,j,none⟩=some (.int .i64 (fs j:Nat)):=by
 have:=h.row.cells (g:=g) (by rw[hA];rfl) j _ (tO fs k j hj)
 rwa [show (⟨g,0,none⟩:Addr).add j=⟨g,j,none⟩ by unfold Addr.add;split<;>simp_all] at this
theorem bL.ne{w:World}{l d limit:Nat}{A:Option Addr}{cp:Nat}{fs:Nat→Nat}{k size next:Nat}{dirty:Bool}(h:bL w l d limit A cp fs k size next dirty){g:Nat}(hA:A=some ⟨g,0,none⟩): g≠l:=fun e=>by
 have:=own_ne h.row h.blk (by decide)
 rw[hA] at this
 exact this (by rw[e];rfl)
theorem bL.some{w:World}{l d limit:Nat}{A:Option Addr}{cp:Nat}{fs:Nat→Nat}{k size next:Nat}{dirty:Bool}(h:bL w l d limit A cp fs k size next dirty)(hk:0 < k): ∃ g,A=some ⟨g,0,none⟩∧k≤cp∧g < w.heap.size:=by
 obtain⟨A',c',hv,hc,hg⟩:=aA h.row
 injection hv with h1 h2 h3
 subst h1;subst h3
 obtain⟨g,hA,-,hlt⟩:=hg hk
 exact⟨g,hA,hc,hlt⟩
structure fG(w w':World)(d M:Nat)(p p':ByteArray→Option FS)(l:Nat)(A A':Option Addr): Prop where
 keep:Keeps (fun q=>aL d M p q∨fM l A q) w w'
 dfar:∀ q,q < w.heap.size→aL d M p' q→aL d M p q
 lfar:∀ q,q < w.heap.size→fM l A' q→fM l A q
theorem fG.trans{w w1 w2:World}{d M:Nat}{p p1 p2:ByteArray→Option FS}{l:Nat}{A A1 A2:Option Addr}(h:fG w w1 d M p p1 l A A1)(k:fG w1 w2 d M p1 p2 l A1 A2): fG w w2 d M p p2 l A A2:=
 ⟨h.keep.trans k.keep (fun q hq hf=>hf.imp (h.dfar q hq) (h.lfar q hq)),fun q hq hf=>h.dfar q hq (k.dfar q (Nat.lt_of_lt_of_le hq h.keep.size) hf),fun q hq hf=>h.lfar q hq (k.lfar q (Nat.lt_of_lt_of_le hq h.keep.size) hf)⟩
theorem fG.disk{w w':World}{d M:Nat}{p p':ByteArray→Option FS}(l:Nat)(A:Option Addr)(h:DStep w w' d M p p'): fG w w' d M p p' l A A:=
 ⟨h.keep.mono (fun q _ hq=>.inl hq),h.far,fun _ _ h=>h⟩
theorem fG.of_below{w w':World}(d M:Nat)(p:ByteArray→Option FS)(l:Nat)(A:Option Addr)(h:Below w.heap.size w w'): fG w w' d M p p l A A:=fG.disk l A (DStep.of_below h)
theorem Nj(a:Addr)(w:World): (binOp .eql 76 (.pointer (some a)) (.pointer none)).run Tryz.prog w=.ok (.bool false) w:=by kernel_rfl
theorem F5(a:Addr)(w:World): (binOp .eql 23 (.pointer (some a)) (.pointer none)).run Tryz.prog w=.ok (.bool false) w:=by kernel_rfl
theorem zi(w:World): (Op.unary .not (.bool true)).run Tryz.prog w=.ok (.bool false) w:=by kernel_rfl
theorem wY(w:World): (Op.unary .not (.bool false)).run Tryz.prog w=.ok (.bool true) w:=by kernel_rfl
theorem mO(w:World)(l d:Nat)(hc:w.cell? ⟨l,0,none⟩=some (.pointer (some ⟨d,0,none⟩))): Calls Tryz.prog 65 #[.pointer (some ⟨l,0,none⟩)] w fun e w'=>e=.returned (.bool false)∧Below w.heap.size w w':=by
 have q2:=fun y=>Nj ⟨y,0,none⟩
 have q3:=fun y=>F5 ⟨y,0,none⟩
 go_enter Tryz.func65,Tryz.ntmps65
 go_wp2_with fail
 go_ret
 exact⟨rfl,Below.refl _ _⟩
theorem AO(w:World)(l d limit:Nat)(A:Option Addr)(cp:Nat)(fs:Nat→Nat)(k size next:Nat)(dirty:Bool)(h:bL w l d limit A cp fs k size next dirty): Calls Tryz.prog 27 #[.pointer (some ⟨l,0,none⟩)] w fun e w'=>e=.returned (.int .i64 (next:Nat))∧Below w.heap.size w w':=by
 have HD:=zh h
 clear h
 go_enter Tryz.func27,Tryz.ntmps27
 go_wp2_with fail
 refine(mO w l d (HD.out.blk.cell 0)).mono ?_
 rintro e w1 ⟨rfl,hb1⟩
 have u0:=(HD.out.call hb1).blk.cell 4
 have HB:=zh hb1
 clear hb1
 go_wp2_with fail
 go_ret
 exact⟨rfl,HB.out⟩
theorem vW(w:World)(l d limit cp size next:Nat)(A:Option Addr)(fs:Nat→Nat)(dirty:Bool)(h:bL w l d limit A cp fs 0 size next dirty): Calls Tryz.prog 26 #[.pointer (some ⟨l,0,none⟩)] w fun e w'=>e=.returned (.int .i64 (next:Nat))∧Below w.heap.size w w':=by
 have HD:=zh h
 clear h
 go_enter Tryz.func26,Tryz.ntmps26
 go_wp2_with fail
 refine(mO w l d (HD.out.blk.cell 0)).mono ?_
 rintro e w1 ⟨rfl,hb1⟩
 have u0:=(HD.out.call hb1).blk.cell 4
 have u1:=(HD.out.call hb1).blk.cell 2
 have HB:=zh hb1
 clear hb1
 go_wp2_with fail
 go_ret
 exact⟨rfl,HB.out⟩
theorem Ea(w:World)(l d limit:Nat)(A:Option Addr)(cp:Nat)(fs:Nat→Nat)(k size next:Nat)(h:bL w l d limit A cp fs k size next false): Calls Tryz.prog 34 #[.pointer (some ⟨l,0,none⟩)] w fun e w'=>e=.returned (.int .i64 0)∧Below w.heap.size w w':=by
 have nf:=wY
 have HD:=zh h
 clear h
 go_enter Tryz.func34,Tryz.ntmps34
 go_wp2_with fail
 refine(mO w l d (HD.out.blk.cell 0)).mono ?_
 rintro e w1 ⟨rfl,hb1⟩
 have u0:=(HD.out.call hb1).blk.cell 5
 have u1:=(HD.out.call hb1).blk.cell 6
 have HB:=zh hb1
 clear hb1
 go_wp2_with fail
 go_ret
 exact⟨rfl,HB.out⟩
def MH(w:World)(d M:Nat)(p:ByteArray→Option FS)(room T G l limit:Nat)(A:Option Addr)(cp:Nat)(fs:Nat→Nat)(k size next:Nat)(e:Ending)(w':World): Prop:=
 e=.returned (.int .i64 0)∧∃ p',bq w' d M p' room T (G+1)∧fb p'=fb p∧bL w' l d limit A cp fs k size next false∧fG w w' d M p p' l A A∧∀ q,fM l A q→¬ aL d M p' q
theorem Jd(w:World)(d M:Nat)(p:ByteArray→Option FS)(room T G l limit:Nat)(A:Option Addr)(cp:Nat)(fs:Nat→Nat)(k size next:Nat)(bs:List Nat)(h:bL w l d limit A cp fs (k+1) size next true)(hd:bq w d M p room T G)(hdis:∀ q,fM l A q→¬ aL d M p q)(hf:fb p (bU 119 (fs k))=some bs)(hfk:fs k < 1000000)(hT:T≤1048576)(hG:G < 512)(hk64:k < 1000):
  Calls Tryz.prog 34 #[.pointer (some ⟨l,0,none⟩)] w (MH w d M p room T G l limit A cp fs (k+1) size next):=by
 have nt:=zi
 obtain⟨g,rfl,hcp,hg⟩:=h.some (by omega)
 have HD:=zh (zN h (zN hd (zN hdis hf)))
 clear h hd hdis hf
 go_enter Tryz.func34,Tryz.ntmps34
 go_wp2_with fail
 refine(mO w l d (HD.out.1.blk.cell 0)).mono ?_
 rintro e w1 ⟨rfl,hb1⟩
 have h1:=HD.out.1.call hb1
 have u0:=h1.blk.cell 5
 have u1:=h1.blk.cell 6
 have hS:=h1.call (Below.refl _ _).drew
 have HB:=zh hb1
 clear hb1 h1
 go_wp2_with fail
 clear u0 u1
 have e1:IntKind.i64.wrap (k:Int)=(k:Int):=by simp only[IntKind.wrap_i64];omega
 have e2:(k:Int) < (k:Int)+1:=by omega
 have hS:(fun wx=>bL wx l d limit (some ⟨g,0,none⟩) cp fs (k+1) size next true) (w1.drew):=hS
 refine av (fun wx=>bL wx l d limit (some ⟨g,0,none⟩) cp fs (k+1) size next true) (by kernel_rfl) hS ?_
 refine zB [0,1,2,3,4,5,6,7,8,9,10,11,12,13,14,15] ?_
 iterate 16 (refine zV ?_ ?_ hS ?_;rotate_left;(intro w' hSw;have u0:=hSw.blk.cell 0;have u2:=hSw.blk.cell 2;have u3:=hSw.cellAt rfl (j:=k) (by omega);go_simp<;>with_reducible rfl);try simp only[zP])
 refine zE ?_
 refine zC 16 fun K HK=>?_
 go_simp
 refine(pJ _ (fs k) hfk).mono ?_
 rintro e w2 ⟨rfl,hb2⟩
 have hb12:Below w.heap.size w w2:=V.ay (V.ay HB.out (Below.refl _ _).drew) hb2
 have HB2:=zh hb12
 clear hb2 hb12
 go_wp2_with fail
 refine HK.out.zt (fun wx=>bL wx l d limit (some ⟨g,0,none⟩) cp fs (k+1) size next true) (fun _ h=>h) (HD.out.1.call HB2.out) ?_
 clear HK hS
 intro hS
 try simp only[zP]
 refine zC 17 fun K HK=>?_
 go_simp
 refine(Ba _ d M (bU 119 (fs k)) bs p room T G (HD.out.2.1.call HB2.out) HD.out.2.2.2 hT hG (by rw[dZ];omega) (by rw[dZ];omega)).mono ?_
 rintro e w3 ⟨rfl,p',hd3,hst3,hf3⟩
 have hl3:=(HD.out.1.call HB2.out).keep hst3.keep HD.out.2.2.1
 have HR:=zh (zN hd3 (zN hst3 (zN hf3 hl3)))
 clear hd3 hst3 hf3 hl3
 go_wp2_with fail
 refine HK.out.zt (fun wx=>bL wx l d limit (some ⟨g,0,none⟩) cp fs (k+1) size next true) (fun _ h=>h) (HR.out.2.2.2) ?_
 clear HK hS
 intro hS
 try simp only[zP]
 refine zT 18 ?_ ?_ hS ?_
 rotate_left
 ·(intro w' hSw;go_simp<;>with_reducible rfl)
 try simp only[zP]
 refine zD ?_
 try simp only[zP]
 clear hS e1 e2
 have u5:=HR.out.2.2.2.blk.cell 5
 have u6:=HR.out.2.2.2.blk.cell 6
 have uf:=HR.out.2.2.2.blk.frozen
 go_wp2_with fail
 go_ret
 obtain⟨w4,hw4⟩:∃ w4,w4=(w3.setCell ⟨l,6,none⟩ (.bool false)).setCell ⟨l,5,none⟩ (.bool false):=⟨_,rfl⟩
 have hk4:Keeps (fun q=>q=l) w3 w4:=by rw[hw4];exact ((Keeps.refl (fun q=>q=l) w3).setCell (fun _=>rfl) _).setCell (fun _=>rfl) _
 have hb4:=((HR.out.2.2.2.blk.set 6 (.bool false)).set 5 (.bool false))
 rw[←hw4] at hb4 ⊢
 have hne:=HR.out.2.2.2.ne rfl
 refine⟨rfl,p',HR.out.1.keep hk4 ?_,HR.out.2.2.1,⟨hb4,aF HR.out.2.2.2.row hk4 (fun g' hg' e=>?_)⟩,?_,?_⟩
 ·rintro q hq rfl
  have hlt:=HD.out.1.blk.lt
  exact HD.out.2.2.1 q (.inl rfl) (HR.out.2.1.far q (Nat.lt_of_lt_of_le hlt HB2.out.size) hq)
 ·have:g=g':=by simpa [Value.ownBlock] using hg'
  exact hne (this.trans e)
 ·refine ((fG.of_below d M p l (some ⟨g,0,none⟩) HB2.out).trans (fG.disk l (some ⟨g,0,none⟩) HR.out.2.1)).trans ⟨hk4.mono (fun q _ e=>.inr (.inl e)),fun _ _ h=>h,fun _ _ h=>h⟩
 ·intro q hq hf
  exact HD.out.2.2.1 q hq (HR.out.2.1.far q (Nat.lt_of_lt_of_le (HD.out.1.dH hq) HB2.out.size) hf)
end
section
open Go.RowKit
theorem BF: dL Tryz.prog 62 3 (.int .i64 0) 8:=dL.mk' Tryz.underlying62 rfl (by kernel_rfl)
def og(fs:Nat→Nat)(k x:Nat): Nat→Nat:=fun j=>if j < k then fs j else x
theorem BO(fs:Nat→Nat)(k x:Nat): lX (og fs k x) (k+1)=lX fs k ++ [.int .i64 (x:Nat)]:=by
 apply List.ext_getElem?
 intro j
 rcases Nat.lt_trichotomy j k with h | rfl | h
 ·rw[tO _ _ _ (by omega),List.getElem?_append_left (by rw[oI];exact h),tO _ _ _ h]
  unfold og
  rw[if_pos h]
 ·rw[tO _ _ _ (by omega),List.getElem?_append_right (by rw[oI];omega),oI]
  unfold og
  rw[if_neg (by omega)]
  simp
 ·rw[List.getElem?_eq_none (by rw[oI];omega),List.getElem?_eq_none (by simp[oI];omega)]
def xZ(w:World)(d M:Nat)(p:ByteArray→Option FS)(room T G l limit:Nat)(A:Option Addr)(fs:Nat→Nat)(k size next:Nat)(rn:Nat)(e:Ending)(w':World): Prop:=
 e=.returned (.int .i64 0)∧∃ p' A' cp' fs' k' size' c',bq w' d M p' room (T+rn) (G+1)∧bL w' l d limit A' cp' fs' (k'+1) size' (next+1) true∧fG w w' d M p p' l A A'∧(∀ q,fM l A' q→¬ aL d M p' q)∧
  fb p' (bU 119 (fs' k'))=some c'∧(∀ t,(∀ j,t≠bU 119 j)→fb p' t=fb p t)∧(∀ j,j < k'+1→fs' j < 1000000)∧k'≤k∧size'≤size+rn
theorem QO{w w6 wE:World}{d M:Nat}{p p':ByteArray→Option FS}{room T G l limit:Nat}{A:Option Addr}{cp:Nat}{fs:Nat→Nat}{k size next r rn:Nat}{X:List Nat}(hd6:bq w6 d M p' room (T+rn) (G+1))(hst:fG w w6 d M p p' l A A)(hds:∀ q,fM l A q→¬ aL d M p' q)(hf6:fb p'=aS (fb p) (bU 119 (fs k)) X)(hl6:bL w6 l d limit A cp fs (k+1) size next false)(hfs:∀ j,j < k+1→fs j < 1000000)(hr:r≤rn)(hE:wE=((w6.setCell ⟨l,3,none⟩ (.int .i64 ((size:Int)+(r:Int)))).setCell ⟨l,5,none⟩ (.bool true)).setCell ⟨l,4,none⟩ (.int .i64 ((next:Int)+1))):
  xZ w d M p room T G l limit A fs (k+1) size next rn (.returned (.int .i64 0)) wE:=by
 have hk4:Keeps (fun q=>q=l) w6 wE:=by rw[hE];exact (((Keeps.refl (fun q=>q=l) w6).setCell (fun _=>rfl) _).setCell (fun _=>rfl) _).setCell (fun _=>rfl) _
 have hb4:=(((hl6.blk.set 3 (.int .i64 ((size:Int)+(r:Int)))).set 5 (.bool true)).set 4 (.int .i64 ((next:Int)+1)))
 rw[←hE] at hb4
 refine⟨rfl,p',A,cp,fs,k,size+r,X,hd6.keep hk4 ?_,⟨hb4,aF hl6.row hk4 (fun g hg e=>own_ne hl6.row hl6.blk (by decide) (by rw[hg,e]))⟩,?_,hds,?_,?_,hfs,by omega,by omega⟩
 ·rintro q hq rfl
  exact hds q (.inl rfl) hq
 ·exact hst.trans ⟨hk4.mono (fun q _ e=>.inr (.inl e)),fun _ _ h=>h,fun _ _ h=>h⟩
 ·rw[hf6,gQ]
 ·intro t ht
  rw[hf6,fP _ _ (ht _)]
theorem G8{w w6 w7 wE:World}{d M:Nat}{p p':ByteArray→Option FS}{room T G l limit:Nat}{A A7:Option Addr}{cp c7:Nat}{fs:Nat→Nat}{k size next r rn:Nat}{X:List Nat}{o:Obj}(hd6:bq w6 d M p' room (T+rn) (G+1))(hst:fG w w6 d M p p' l A A)(hds:∀ q,fM l A q→¬ aL d M p' q)(hf6:fb p'=aS (fb p) (bU 119 next) X)(hl6:bL w6 l d limit A cp fs k size next false)(hfs:∀ j,j < k→fs j < 1000000)(hnx:next < 1000000)(hr:r≤rn)(hrow:w7.ownsRow 0 3 1 (.slice A7 (k+1) c7) (k+1) (lX (og fs k next) (k+1)))(hbk:au w7 l 130 #[.pointer (some ⟨d,0,none⟩),.int .i64 (limit:Nat),.slice A k cp,.int .i64 (size:Nat),.int .i64 (next:Nat),.bool false,.bool false])(hg7:(w6.alloc o).grownBy w7 (Value.slice A k cp).ownBlock)(hx7:(Value.slice A7 (k+1) c7).ownBlock=(Value.slice A k cp).ownBlock∨(Value.slice A7 (k+1) c7).ownBlock=some (w6.heap.size+1))(hE:wE=((((w7.setCell ⟨l,2,none⟩ (.slice A7 (k+1) c7)).setCell ⟨l,3,none⟩ (.int .i64 0)).setCell ⟨l,3,none⟩ (.int .i64 (r:Int))).setCell ⟨l,5,none⟩ (.bool true)).setCell ⟨l,4,none⟩ (.int .i64 ((next:Int)+1))):
  xZ w d M p room T G l limit A fs k size next rn (.returned (.int .i64 0)) wE:=by
 have hk4:Keeps (fun q=>q=l) w7 wE:=by rw[hE];exact (((((Keeps.refl (fun q=>q=l) w7).setCell (fun _=>rfl) _).setCell (fun _=>rfl) _).setCell (fun _=>rfl) _).setCell (fun _=>rfl) _).setCell (fun _=>rfl) _
 have hb4:=(((((hbk.set 2 (.slice A7 (k+1) c7)).set 3 (.int .i64 0)).set 3 (.int .i64 (r:Int))).set 5 (.bool true)).set 4 (.int .i64 ((next:Int)+1)))
 rw[←hE] at hb4
 have hk6:Keeps (fM l A) w6 wE:=by
  refine((((Keeps.refl (fM l A) w6).alloc o).grown hg7 (fun k' hk' _=>.inr (by rw[←ownB A k cp];exact hk')))).trans' (hk4.mono ?_)
  intro q _ e
  exact .inl e
 have hin:∀ q,fM l A7 q→fM l A q∨w6.heap.size≤q:=by
  rintro q (rfl | hq)
  ·exact .inl (.inl rfl)
  ·rcases hx7 with h | h
   ·rw[ownB,ownB] at h
    exact .inl (.inr (by rw[←h];exact hq))
   ·rw[ownB] at h
    rw[hq] at h
    injection h with h
    right
    omega
 refine⟨rfl,p',A7,c7,og fs k next,k,r,X,hd6.keep hk6 (fun q hq hl=>hds q hl hq),⟨hb4,aF hrow hk4 (fun g hg e=>own_ne hrow hbk (by decide) (by rw[hg,e]))⟩,?_,?_,?_,?_,?_,Nat.le_refl _,by omega⟩
 ·refine hst.trans ⟨hk6.mono (fun q _ e=>.inr e),fun _ _ h=>h,fun q hq hl=>?_⟩
  rcases hin q hl with h | h
  ·exact h
  ·omega
 ·intro q hq hf
  rcases hin q hq with h | h
  ·exact hds q h hf
  ·have:=hd6.dH hf
   omega
 ·rw[show og fs k next k=next by unfold og;rw[if_neg (by omega)],hf6,gQ]
 ·intro t ht
  rw[hf6,fP _ _ (ht _)]
 ·intro j hj
  unfold og
  split
  ·rename_i h
   exact hfs j h
  ·exact hnx
theorem K4(w:World)(d M:Nat)(p:ByteArray→Option FS)(room T G l limit:Nat)(A:Option Addr)(cp:Nat)(fs:Nat→Nat)(k size next:Nat)(Ab:Option Addr)(n cb:Nat)(bs:List Nat)(D:Nat→Prop)(h:bL w l d limit A cp fs k size next false)(hd:bq w d M p room T G)(hdis:∀ q,fM l A q→¬ aL d M p q)(hl:bs.length=n)(hsl:Sl w D Ab n (aD bs))(hD:∀ q,D q→q < w.heap.size)(hb:∀ j,bs.getD j 0 < 256)(hn:n≤60000)(hT:T+n+22≤1048576)(hr1:1048576≤room)(hr:room≤1073741824)(hG:G < 512)(hk:k < 1000)(hs:size≤1048576)(hnx:next < 1000000)(hfs:∀ j,j < k→fs j < 1000000)(hlim:limit≤1048576):
  Calls Tryz.prog 32 #[.pointer (some ⟨l,0,none⟩),.slice Ab n cb] w (xZ w d M p room T G l limit A fs k size next (n+22)):=by
 have nt:=zi
 have nf:=wY
 have HD:=zh (zN h (zN hd (zN hdis (zN hl (zN hsl (zN hD (zN hb hfs)))))))
 clear h hd hdis hl hsl hD hb hfs
 go_enter Tryz.func32,Tryz.ntmps32
 go_wp2_with fail
 refine(mO w l d (HD.out.1.blk.cell 0)).mono ?_
 rintro e w1 ⟨rfl,hb1⟩
 have u6:=(HD.out.1.call hb1).blk.cell 6
 have HB:=zh hb1
 clear hb1
 go_wp2_with fail
 refine(FV w1 Ab n cb D bs HD.out.2.2.2.1 (HD.out.2.2.2.2.1.below HB.out (fun q hq _=>HD.out.2.2.2.2.2.1 q hq)) (fun q hq=>Nat.lt_of_lt_of_le (HD.out.2.2.2.2.2.1 q hq) HB.out.size) HD.out.2.2.2.2.2.2.1 (by omega)).mono ?_
 rintro e w2 ⟨Ar,cr,rfl,hor,hkr⟩
 obtain⟨rn,hrn⟩:∃ rn,rn=(ni bs).length:=⟨_,rfl⟩
 rw[←hrn] at hor ⊢
 have hrl:rn=n+22:=by rw[hrn,wV,HD.out.2.2.2.1]
 have hrl2:rn≤n+22:=by omega
 have hb2:Below w.heap.size w w2:=HB.out.trans (hkr.bM.mono HB.out.size)
 have hsr:Sl w2 (fun q=>w.heap.size≤q∧q < w2.heap.size) Ar rn (aD (ni bs)):=(F.rD hrn.symm hor).mono (fun q hq=>by have:=hor.lt q hq;exact ⟨Nat.le_trans HB.out.size this.1,this.2⟩)
 have HR:=zh (zN hb2 (zN hsr (zN hrn hrl)))
 clear hb2 hsr hrn hrl hor hkr u6
 go_wp2_with fail
 have hS:=HD.out.1.call (V.ay HR.out.1 (Below.refl _ _).drew)
 cases k with
 | zero=>
  have hS:(fun wx=>bL wx l d limit A cp fs 0 size next false) (w2.drew):=hS
  refine av (fun wx=>bL wx l d limit A cp fs 0 size next false) (by kernel_rfl) hS ?_
  refine zB [0,1,2,3,4,5,6,7,8,9,10,11] ?_
  iterate 12 (refine zV ?_ ?_ hS ?_;rotate_left;(intro w' hSw;have u2:=hSw.blk.cell 2;have u4:=hSw.blk.cell 4;go_simp<;>with_reducible rfl);try simp only[zP])
  refine zE ?_
  refine zD ?_
  try simp only[zP]
  go_wp2_with fail
  have hS:=hS.call (Below.refl _ _).drew
  have hS:(fun wx=>bL wx l d limit A cp fs 0 size next false) (w2.drew.drew):=hS
  refine av (fun wx=>bL wx l d limit A cp fs 0 size next false) (by kernel_rfl) hS ?_
  refine zB [0,1,2] ?_
  iterate 3 (refine zV ?_ ?_ hS ?_;rotate_left;(intro w' hSw;go_simp<;>with_reducible rfl);try simp only[zP])
  refine zE ?_
  refine zB [3,4,5,6,7,8,9,10,11] ?_
  iterate 9 (refine zW hS ?_;try simp only[zP])
  refine zE ?_
  refine zT 12 ?_ ?_ hS ?_
  rotate_left
  ·(intro w' hSw;go_simp<;>with_reducible rfl)
  try simp only[zP]
  refine zD ?_
  try simp only[zP]
  clear hS
  go_wp2_with fail
  refine aH (fun wx=>bL wx l d limit A cp fs 0 size next false∧Below w2.heap.size w2 wx) ⟨HD.out.1.call (V.ay HR.out.1 (V.ay (Below.refl _ _).drew (Below.refl _ _).drew)),(V.ay (Below.refl _ _).drew (Below.refl _ _).drew)⟩ ?_
  intro w4 h4
  have H4:=zh h4
  clear h4
  have hS:=H4.out.1.call (Below.refl _ _).drew
  have hS:(fun wx=>bL wx l d limit A cp fs 0 size next false) (w4.drew):=hS
  refine av (fun wx=>bL wx l d limit A cp fs 0 size next false) (by kernel_rfl) hS ?_
  refine zB [0,1,2,3,4,6] ?_
  iterate 6 (refine zV ?_ ?_ hS ?_;rotate_left;(intro w' hSw;have u0:=hSw.blk.cell 0;go_simp<;>with_reducible rfl);try simp only[zP])
  refine zE ?_
  refine zC 5 fun K HK=>?_
  go_simp
  refine(pJ _ next hnx).mono ?_
  rintro e w5 ⟨rfl,hb5⟩
  have hb45:Below w4.heap.size w4 w5:=V.ay (Below.refl _ _).drew hb5
  have HB5:=zh (zN (V.ay H4.out.2 hb45) (V.ay HR.out.1 (V.ay H4.out.2 hb45)))
  clear hb5 hb45
  go_wp2_with fail
  refine HK.out.zt (fun wx=>bL wx l d limit A cp fs 0 size next false) (fun _ h=>h) (HD.out.1.call HB5.out.2) ?_
  clear HK hS
  intro hS
  try simp only[zP]
  refine zC 7 fun K HK=>?_
  go_simp
  refine(oq w5 d M rn cr Ar (bU 119 next) (ni bs) p room T G (HD.out.2.1.call HB5.out.2) HR.out.2.2.1.symm ((HR.out.2.1.below HB5.out.1 (fun q hq _=>hq.2)).mono (fun q hq=>⟨Nat.lt_of_lt_of_le hq.2 HB5.out.1.size,fun hf=>by have:=HD.out.2.1.dH hf;omega⟩)) (by omega) hr1 hr hG (by rw[dZ];omega) (by rw[dZ];omega)).mono ?_
  rintro e w6 ⟨rfl,p',hd6,hst6,hf6⟩
  have hl6:=(HD.out.1.call HB5.out.2).keep hst6.keep HD.out.2.2.1
  have hst:fG w w6 d M p p' l A A:=(fG.of_below d M p l A HB5.out.2).trans (fG.disk l A hst6)
  have hds:∀ q,fM l A q→¬ aL d M p' q:=fun q hq hf=>HD.out.2.2.1 q hq (hst6.far q (Nat.lt_of_lt_of_le (HD.out.1.dH hq) HB5.out.2.size) hf)
  have hdT:=hd6.more (T':=T+(n+22)) (G':=G+1) (by omega) (Nat.le_refl _)
  have H6:=zh (zN hdT (zN hst (zN hds (zN hf6 hl6))))
  clear hd6 hst6 hf6 hl6 hst hds hdT
  go_wp2_with fail
  refine HK.out.zt (fun wx=>bL wx l d limit A cp fs 0 size next false) (fun _ h=>h) (H6.out.2.2.2.2) ?_
  clear HK hS
  intro hS
  try simp only[zP]
  refine zT 8 ?_ ?_ hS ?_
  rotate_left
  ·(intro w' hSw;go_simp<;>with_reducible rfl)
  try simp only[zP]
  refine zD ?_
  try simp only[zP]
  clear hS
  have z2:=H6.out.2.2.2.2.blk.cell 2
  have z3:=H6.out.2.2.2.2.blk.cell 3
  have z4:=H6.out.2.2.2.2.blk.cell 4
  have z5:=H6.out.2.2.2.2.blk.cell 5
  have zf:=H6.out.2.2.2.2.blk.frozen
  go_wp2_with (at_builtin;refine aW (f:=fun _=>.int .i64 (next:Nat)) (D:=fun q=>q=w6.heap.size) (base:=0) (n:=0) (xs:=lX fs 0) BF rfl (.tmp 95) (.tmp 97) rfl rfl rfl ?hown ?hsl ?h1 ?h63 ?hby ?hbase ?_)
  case hown=>exact H6.out.2.2.2.2.row.alloc _
  case hsl=>exact kS w6 _ _
  case h1=>intro j _;rfl
  case h63=>unfold maxLen;omega
  case hby=>omega
  case hbase=>exact Nat.zero_le _
  intro v7 w7 ho7 hg7 hx7
  obtain⟨A7,c7,hv7,hc7,-⟩:=aA ho7
  subst hv7
  have hrow:w7.ownsRow 0 3 1 (.slice A7 (0+1) c7) (0+1) (lX (og fs 0 next) (0+1)):=by rw[BO];exact ho7
  have hbk:=dK hg7 (H6.out.2.2.2.2.blk.alloc (.cells #[.int .i64 (next:Nat)] 3)) (fun e=>own_ne H6.out.2.2.2.2.row H6.out.2.2.2.2.blk (by decide) e.symm)
  clear z2 z3 z4 z5 zf
  have z2:=hbk.cell 2
  have z3:=hbk.cell 3
  have z4:=hbk.cell 4
  have z5:=hbk.cell 5
  have zf:=hbk.frozen
  have H7:=zh (zN hrow (zN hbk (zN hg7 hx7)))
  clear hrow hbk hg7 hx7 ho7
  go_wp2_with fail
  go_ret
  exact G8 H6.out.1 H6.out.2.1 H6.out.2.2.1 H6.out.2.2.2.1 H6.out.2.2.2.2 HD.out.2.2.2.2.2.2.2 hnx hrl2 H7.out.1 H7.out.2.1 H7.out.2.2.1 H7.out.2.2.2 rfl
 | succ k=>
  obtain⟨g,rfl,hcp,hg⟩:=HD.out.1.some (by omega)
  have d0:(((k+1:Nat):Int) == 0)=false:=by simp;omega
  have e2:(k:Int) < (k:Int)+1:=by omega
  have e1:IntKind.i64.wrap (k:Int)=(k:Int):=by simp only[IntKind.wrap_i64];omega
  have hS:(fun wx=>bL wx l d limit (some ⟨g,0,none⟩) cp fs (k+1) size next false) (w2.drew):=hS
  refine av (fun wx=>bL wx l d limit (some ⟨g,0,none⟩) cp fs (k+1) size next false) (by kernel_rfl) hS ?_
  refine zB [0,1,2,3,4,5,6,7,8,9,10,11] ?_
  iterate 12 (refine zV ?_ ?_ hS ?_;rotate_left;(intro w' hSw;have u2:=hSw.blk.cell 2;have u4:=hSw.blk.cell 4;go_simp<;>with_reducible rfl);try simp only[zP])
  refine zE ?_
  refine zD ?_
  try simp only[zP]
  go_wp2_with fail
  have hS:=hS.call (Below.refl _ _).drew
  by_cases hsz:limit≤size
  ·have d1:decide ((limit:Int)≤(size:Int))=true:=by simp;omega
   have d2:decide (limit≤size)=true:=by simp;omega
   have hS:(fun wx=>bL wx l d limit (some ⟨g,0,none⟩) cp fs (k+1) size next false) (w2.drew.drew):=hS
   refine av (fun wx=>bL wx l d limit (some ⟨g,0,none⟩) cp fs (k+1) size next false) (by kernel_rfl) hS ?_
   refine zB [0,1,2,3,4,5,6,7,8,9,10,11,12] ?_
   iterate 13 (refine zV ?_ ?_ hS ?_;rotate_left;(intro w' hSw;have u1:=hSw.blk.cell 1;have u3:=hSw.blk.cell 3;go_simp<;>with_reducible rfl);try simp only[zP])
   refine zE ?_
   refine zD ?_
   try simp only[zP]
   clear d1 d2
   go_wp2_with fail
   refine(Ea _ l d limit (some ⟨g,0,none⟩) cp fs (k+1) size next hS).mono ?_
   rintro e w4 ⟨rfl,hb4⟩
   have h4:bL w4 l d limit (some ⟨g,0,none⟩) cp fs (k+1) size next false∧Below w2.heap.size w2 w4:=⟨hS.call hb4,V.ay (V.ay (Below.refl _ _).drew (Below.refl _ _).drew) hb4⟩
   have H4:=zh h4
   clear h4 hS hb4 hsz
   go_wp2_with fail
   have hS:=H4.out.1.call (Below.refl _ _).drew
   have hS:(fun wx=>bL wx l d limit (some ⟨g,0,none⟩) cp fs (k+1) size next false) (w4.drew):=hS
   refine av (fun wx=>bL wx l d limit (some ⟨g,0,none⟩) cp fs (k+1) size next false) (by kernel_rfl) hS ?_
   refine zB [0,1,2,3,4,6] ?_
   iterate 6 (refine zV ?_ ?_ hS ?_;rotate_left;(intro w' hSw;have u0:=hSw.blk.cell 0;go_simp<;>with_reducible rfl);try simp only[zP])
   refine zE ?_
   refine zC 5 fun K HK=>?_
   go_simp
   refine(pJ _ next hnx).mono ?_
   rintro e w5 ⟨rfl,hb5⟩
   have hb45:Below w4.heap.size w4 w5:=V.ay (Below.refl _ _).drew hb5
   have HB5:=zh (zN (V.ay H4.out.2 hb45) (V.ay HR.out.1 (V.ay H4.out.2 hb45)))
   clear hb5 hb45
   go_wp2_with fail
   refine HK.out.zt (fun wx=>bL wx l d limit (some ⟨g,0,none⟩) cp fs (k+1) size next false) (fun _ h=>h) (HD.out.1.call HB5.out.2) ?_
   clear HK hS
   intro hS
   try simp only[zP]
   refine zC 7 fun K HK=>?_
   go_simp
   refine(oq w5 d M rn cr Ar (bU 119 next) (ni bs) p room T G (HD.out.2.1.call HB5.out.2) HR.out.2.2.1.symm ((HR.out.2.1.below HB5.out.1 (fun q hq _=>hq.2)).mono (fun q hq=>⟨Nat.lt_of_lt_of_le hq.2 HB5.out.1.size,fun hf=>by have:=HD.out.2.1.dH hf;omega⟩)) (by omega) hr1 hr hG (by rw[dZ];omega) (by rw[dZ];omega)).mono ?_
   rintro e w6 ⟨rfl,p',hd6,hst6,hf6⟩
   have hl6:=(HD.out.1.call HB5.out.2).keep hst6.keep HD.out.2.2.1
   have hst:fG w w6 d M p p' l (some ⟨g,0,none⟩) (some ⟨g,0,none⟩):=(fG.of_below d M p l (some ⟨g,0,none⟩) HB5.out.2).trans (fG.disk l (some ⟨g,0,none⟩) hst6)
   have hds:∀ q,fM l (some ⟨g,0,none⟩) q→¬ aL d M p' q:=fun q hq hf=>HD.out.2.2.1 q hq (hst6.far q (Nat.lt_of_lt_of_le (HD.out.1.dH hq) HB5.out.2.size) hf)
   have hdT:=hd6.more (T':=T+(n+22)) (G':=G+1) (by omega) (Nat.le_refl _)
   have H6:=zh (zN hdT (zN hst (zN hds (zN hf6 hl6))))
   clear hd6 hst6 hf6 hl6 hst hds hdT
   go_wp2_with fail
   refine HK.out.zt (fun wx=>bL wx l d limit (some ⟨g,0,none⟩) cp fs (k+1) size next false) (fun _ h=>h) (H6.out.2.2.2.2) ?_
   clear HK hS
   intro hS
   try simp only[zP]
   refine zT 8 ?_ ?_ hS ?_
   rotate_left
   ·(intro w' hSw;go_simp<;>with_reducible rfl)
   try simp only[zP]
   refine zD ?_
   try simp only[zP]
   clear hS
   have z2:=H6.out.2.2.2.2.blk.cell 2
   have z3:=H6.out.2.2.2.2.blk.cell 3
   have z4:=H6.out.2.2.2.2.blk.cell 4
   have z5:=H6.out.2.2.2.2.blk.cell 5
   have zf:=H6.out.2.2.2.2.blk.frozen
   go_wp2_with (at_builtin;refine aW (f:=fun _=>.int .i64 (next:Nat)) (D:=fun q=>q=w6.heap.size) (base:=0) (n:=(k+1)) (xs:=lX fs (k+1)) BF rfl (.tmp 95) (.tmp 97) rfl rfl rfl ?hown ?hsl ?h1 ?h63 ?hby ?hbase ?_)
   case hown=>exact H6.out.2.2.2.2.row.alloc _
   case hsl=>exact kS w6 _ _
   case h1=>intro j _;rfl
   case h63=>unfold maxLen;omega
   case hby=>omega
   case hbase=>exact Nat.zero_le _
   intro v7 w7 ho7 hg7 hx7
   obtain⟨A7,c7,hv7,hc7,-⟩:=aA ho7
   subst hv7
   have hrow:w7.ownsRow 0 3 1 (.slice A7 ((k+1)+1) c7) ((k+1)+1) (lX (og fs (k+1) next) ((k+1)+1)):=by rw[BO];exact ho7
   have hbk:=dK hg7 (H6.out.2.2.2.2.blk.alloc (.cells #[.int .i64 (next:Nat)] 3)) (fun e=>own_ne H6.out.2.2.2.2.row H6.out.2.2.2.2.blk (by decide) e.symm)
   clear z2 z3 z4 z5 zf
   have z2:=hbk.cell 2
   have z3:=hbk.cell 3
   have z4:=hbk.cell 4
   have z5:=hbk.cell 5
   have zf:=hbk.frozen
   have H7:=zh (zN hrow (zN hbk (zN hg7 hx7)))
   clear hrow hbk hg7 hx7 ho7
   go_wp2_with fail
   go_ret
   exact G8 H6.out.1 H6.out.2.1 H6.out.2.2.1 H6.out.2.2.2.1 H6.out.2.2.2.2 HD.out.2.2.2.2.2.2.2 hnx hrl2 H7.out.1 H7.out.2.1 H7.out.2.2.1 H7.out.2.2.2 rfl
  ·have d1:decide ((limit:Int)≤(size:Int))=false:=by simp;omega
   have d2:decide (limit≤size)=false:=by simp;omega
   have hS:(fun wx=>bL wx l d limit (some ⟨g,0,none⟩) cp fs (k+1) size next false) (w2.drew.drew):=hS
   refine av (fun wx=>bL wx l d limit (some ⟨g,0,none⟩) cp fs (k+1) size next false) (by kernel_rfl) hS ?_
   refine zB [0,1,2,3,4,5,6,7,8,9,10,11,12] ?_
   iterate 13 (refine zV ?_ ?_ hS ?_;rotate_left;(intro w' hSw;have u1:=hSw.blk.cell 1;have u3:=hSw.blk.cell 3;go_simp<;>with_reducible rfl);try simp only[zP])
   refine zE ?_
   refine zD ?_
   try simp only[zP]
   clear d1 d2
   go_wp2_with fail
   have hS:=hS.call (Below.refl _ _).drew
   have hS:(fun wx=>bL wx l d limit (some ⟨g,0,none⟩) cp fs (k+1) size next false) (w2.drew.drew.drew):=hS
   refine av (fun wx=>bL wx l d limit (some ⟨g,0,none⟩) cp fs (k+1) size next false) (by kernel_rfl) hS ?_
   refine zB [0,1,2,3,4,5,6,7,8,9,10,11,12] ?_
   iterate 13 (refine zV ?_ ?_ hS ?_;rotate_left;(intro w' hSw;have u2:=hSw.blk.cell 2;have u3:=hSw.cellAt rfl (j:=k) (by omega);go_simp<;>with_reducible rfl);try simp only[zP])
   refine zE ?_
   refine zD ?_
   try simp only[zP]
   clear hS
   go_wp2_with fail
   refine aH (fun wx=>bL wx l d limit (some ⟨g,0,none⟩) cp fs (k+1) size next false∧Below w2.heap.size w2 wx) ⟨HD.out.1.call (V.ay HR.out.1 (V.ay (V.ay (Below.refl _ _).drew (Below.refl _ _).drew) (Below.refl _ _).drew)),(V.ay (V.ay (Below.refl _ _).drew (Below.refl _ _).drew) (Below.refl _ _).drew)⟩ ?_
   intro w4 h4
   have H4:=zh h4
   clear h4 hsz
   have hS:=H4.out.1.call (Below.refl _ _).drew
   have hS:(fun wx=>bL wx l d limit (some ⟨g,0,none⟩) cp fs (k+1) size next false) (w4.drew):=hS
   refine av (fun wx=>bL wx l d limit (some ⟨g,0,none⟩) cp fs (k+1) size next false) (by kernel_rfl) hS ?_
   refine zB [0,1,2,3,4,6] ?_
   iterate 6 (refine zV ?_ ?_ hS ?_;rotate_left;(intro w' hSw;have u0:=hSw.blk.cell 0;go_simp<;>with_reducible rfl);try simp only[zP])
   refine zE ?_
   refine zC 5 fun K HK=>?_
   go_simp
   refine(pJ _ (fs k) (HD.out.2.2.2.2.2.2.2 k (by omega))).mono ?_
   rintro e w5 ⟨rfl,hb5⟩
   have hb45:Below w4.heap.size w4 w5:=V.ay (Below.refl _ _).drew hb5
   have HB5:=zh (zN (V.ay H4.out.2 hb45) (V.ay HR.out.1 (V.ay H4.out.2 hb45)))
   clear hb5 hb45
   go_wp2_with fail
   refine HK.out.zt (fun wx=>bL wx l d limit (some ⟨g,0,none⟩) cp fs (k+1) size next false) (fun _ h=>h) (HD.out.1.call HB5.out.2) ?_
   clear HK hS
   intro hS
   try simp only[zP]
   refine zC 7 fun K HK=>?_
   go_simp
   refine(oq w5 d M rn cr Ar (bU 119 (fs k)) (ni bs) p room T G (HD.out.2.1.call HB5.out.2) HR.out.2.2.1.symm ((HR.out.2.1.below HB5.out.1 (fun q hq _=>hq.2)).mono (fun q hq=>⟨Nat.lt_of_lt_of_le hq.2 HB5.out.1.size,fun hf=>by have:=HD.out.2.1.dH hf;omega⟩)) (by omega) hr1 hr hG (by rw[dZ];omega) (by rw[dZ];omega)).mono ?_
   rintro e w6 ⟨rfl,p',hd6,hst6,hf6⟩
   have hl6:=(HD.out.1.call HB5.out.2).keep hst6.keep HD.out.2.2.1
   have hst:fG w w6 d M p p' l (some ⟨g,0,none⟩) (some ⟨g,0,none⟩):=(fG.of_below d M p l (some ⟨g,0,none⟩) HB5.out.2).trans (fG.disk l (some ⟨g,0,none⟩) hst6)
   have hds:∀ q,fM l (some ⟨g,0,none⟩) q→¬ aL d M p' q:=fun q hq hf=>HD.out.2.2.1 q hq (hst6.far q (Nat.lt_of_lt_of_le (HD.out.1.dH hq) HB5.out.2.size) hf)
   have hdT:=hd6.more (T':=T+(n+22)) (G':=G+1) (by omega) (Nat.le_refl _)
   have H6:=zh (zN hdT (zN hst (zN hds (zN hf6 hl6))))
   clear hd6 hst6 hf6 hl6 hst hds hdT
   go_wp2_with fail
   refine HK.out.zt (fun wx=>bL wx l d limit (some ⟨g,0,none⟩) cp fs (k+1) size next false) (fun _ h=>h) (H6.out.2.2.2.2) ?_
   clear HK hS
   intro hS
   try simp only[zP]
   refine zT 8 ?_ ?_ hS ?_
   rotate_left
   ·(intro w' hSw;go_simp<;>with_reducible rfl)
   try simp only[zP]
   refine zD ?_
   try simp only[zP]
   clear hS
   have z2:=H6.out.2.2.2.2.blk.cell 2
   have z3:=H6.out.2.2.2.2.blk.cell 3
   have z4:=H6.out.2.2.2.2.blk.cell 4
   have z5:=H6.out.2.2.2.2.blk.cell 5
   have zf:=H6.out.2.2.2.2.blk.frozen
   go_wp2_with fail
   go_ret
   exact QO H6.out.1 H6.out.2.1 H6.out.2.2.1 H6.out.2.2.2.1 H6.out.2.2.2.2 HD.out.2.2.2.2.2.2.2 hrl2 rfl
end
section
open Go.RowKit Go.Maps
theorem Jw(w:World)(t:Int)(ht:gD t): Calls Tryz.prog 71 #[.int .i64 t] w fun e w'=>e=.returned (.bool true)∧Below w.heap.size w w':=by
 have d1:decide (-1152921504606846976≤t)=true:=by simp;exact ht.1
 have d2:decide (t≤1152921504606846976)=true:=by simp;exact ht.2
 clear ht
 go_enter Tryz.func71,Tryz.ntmps71
 go_wp2_with fail
 go_ret
 exact⟨rfl,Below.refl _ _⟩
theorem OL(w:World)(tm v:Int)(ht:gD tm): Calls Tryz.prog 69 #[.agg #[.string bD,.int .i64 tm,.int .i64 v]] w fun e w'=>e=.returned (.bool false)∧Below w.heap.size w w':=by
 obtain⟨x,hx⟩:∃ x,x=w.heap.size:=⟨_,rfl⟩
 have o0:=Own.eX w hx 35 #[.string bD,.int .i64 tm,.int .i64 v]
 have nt:∀ w:World,(Op.unary .not (.bool true)).run Tryz.prog w=.ok (.bool false) w:=fF
 have HO:=zh (zN o0 ht)
 clear o0 ht
 go_enter Tryz.func69,Tryz.ntmps69
 go_wp2_with fail
 rw[←hx]
 clear hx
 refine bC (Own w [(x,35,#[.string bD,.int .i64 tm,.int .i64 v])]) HO.out.1 ?_
 intro w1 h1
 refine(o9 bD (by decide) w1).mono ?_
 rw[Fb]
 rintro e w2 ⟨rfl,hb2⟩
 have h2:=h1.call hb2
 have H2:=zh h2
 have z0_0:=h2.cell 0 0 rfl rfl;have z0_1:=h2.cell 0 1 rfl rfl;have z0_2:=h2.cell 0 2 rfl rfl
 clear h1 h2 hb2
 go_wp2_with fail
 clear z0_0 z0_1 z0_2
 refine(Jw w2 tm HO.out.2).mono ?_
 rintro e w3 ⟨rfl,hb3⟩
 have H3:=zh (H2.out.call hb3)
 clear hb3
 go_wp2_with fail
 go_ret
 exact⟨rfl,H3.out.bel⟩
theorem jN.cells{w:World}{D:Nat→Prop}{A:Option Addr}{tm v:Int}(h:jN w D A tm v): ∃ b off,A=some ⟨b,off,none⟩∧∀ wx,Below w.heap.size w wx→wx.cell? ⟨b,off,none⟩=some (.string bD)∧wx.cell? ⟨b,off+1,none⟩=some (.int .i64 tm)∧wx.cell? ⟨b,off+2,none⟩=some (.int .i64 v):=by
 obtain⟨b,off,rfl,-,h1,h2,h3⟩:=h
 exact⟨b,off,rfl,fun wx hb=>⟨dw hb h1,dw hb h2,dw hb h3⟩⟩
theorem JW(w:World)(D:Nat→Prop)(Ab:Option Addr)(cb:Nat)(tm v:Int)(h:jN w D Ab tm v)(ht:gD tm): Calls Tryz.prog 136 #[.slice Ab 1 cb,.func (.func 69) #[] #[]] w fun e w'=>e=.returned (.int .i64 (-1))∧Below w.heap.size w w':=by
 obtain⟨b,off,rfl,hc⟩:=h.cells
 have HC:=zh (zN hc ht)
 clear hc h ht
 go_enter Tryz.func136,Tryz.ntmps136
 go_wp2_with fail
 go_loopw [8] (fun i wr=>(i=.int .i64 0∨i=.int .i64 1)∧Below w.heap.size w wr) (fun i _=>1-(intOf i).toNat)
 case atStart=>exact ⟨.inl rfl,Below.refl _ _⟩
 case round=>
  obtain⟨hi,hb⟩:=hrel
  rcases hi with rfl | rfl
  ·obtain ⟨u0,u1,u2⟩:=HC.out.1 wr hb
   have HB:=zh hb
   clear hb
   go_wp2_with fail
   refine(OL wr tm v HC.out.2).mono ?_
   rintro e w2 ⟨rfl,hb2⟩
   have H2:=zh (HB.out.trans (hb2.mono HB.out.size))
   clear hb2 u0 u1 u2
   go_wp2_with fail
   go_roundw
   case rel=>exact ⟨.inr rfl,H2.out⟩
   case measure=>simp[intOf]
  ·have HB:=zh hb
   clear hb
   go_wp2_with fail
   go_ret
   exact⟨rfl,HB.out⟩
theorem Dk(w:World)(D:Nat→Prop)(Ab:Option Addr)(cb:Nat)(tm v:Int)(h:jN w D Ab tm v)(ht:gD tm): Calls Tryz.prog 72 #[.slice Ab 1 cb,.func (.func 69) #[] #[]] w fun e w'=>e=.returned (.bool false)∧Below w.heap.size w w':=by
 have hc:=JW w D Ab cb tm v h ht
 have HC:=zh hc
 clear hc h ht
 go_enter Tryz.func72,Tryz.ntmps72
 go_wp2_with fail
 refine HC.out.mono ?_
 rintro e w2 ⟨rfl,hb2⟩
 have H2:=zh hb2
 clear hb2
 go_wp2_with fail
 go_ret
 exact⟨rfl,H2.out⟩
def K3(w:World)(tm:Int)(e:Ending)(w':World): Prop:=∃ A c,e=.returned (.slice A 1 c)∧w'.ownsRow w.heap.size 3 1 (.slice A 1 c) 1 [.int .i64 tm]∧Below w.heap.size w w'
theorem qY(w:World)(D:Nat→Prop)(Ab:Option Addr)(cb:Nat)(tm v:Int)(h:jN w D Ab tm v): Calls Tryz.prog 74 #[.slice Ab 1 cb] w (K3 w tm):=by
 obtain⟨b,off,rfl,hc⟩:=h.cells
 have HC:=zh hc
 clear hc h
 go_enter Tryz.func74,Tryz.ntmps74
 go_wp2_with fail
 go_loopw [3,8] (fun o i wr=>((i=.int .i64 0∧o=.slice none 0 0)∨(i=.int .i64 1∧∃ A c,o=.slice A 1 c∧wr.ownsRow w.heap.size 3 1 o 1 [.int .i64 tm]))∧Below w.heap.size w wr) (fun _ i _=>1-(intOf i).toNat)
 case atStart=>exact ⟨.inl ⟨rfl,rfl⟩,Below.refl _ _⟩
 case round=>
  obtain⟨hi,hb⟩:=hrel
  rcases hi with ⟨rfl,rfl⟩ | ⟨rfl,A,c,rfl,hr⟩
  ·obtain ⟨u0,u1,u2⟩:=HC.out wr hb
   have HB:=zh hb
   clear hb
   go_upto_region 5 with (fail)
   obtain⟨x,hx⟩:∃ x,x=wr.heap.size:=⟨_,rfl⟩
   rw[←hx]
   refine aH (Own w [(x,35,#[.string bD,.int .i64 tm,.int .i64 v])]) (((Own.start w).call HB.out).alloc hx _ _) ?_
   intro w2 h2
   have z1:=h2.cell 0 1 rfl rfl
   have H2:=zh h2
   clear h2 hx u0 u1 u2
   go_wp2_with (at_builtin;refine aW BF (base:=w.heap.size) (n:=0) (m:=1) (xs:=[]) (D:=fun q=>q=w2.heap.size) (f:=fun _=>.int .i64 tm) rfl (.tmp 12) (.tmp 15) rfl rfl rfl ?hown ?hsl ?h1 ?h63 ?hbytes ?hbase ?_)
   case hown=>exact World.ownsRow_nil _ _ _ _
   case hsl=>exact kS _ _ _
   case h1=>exact fun _ _=>rfl
   case h63=>unfold maxLen;omega
   case hbytes=>omega
   case hbase=>have:=H2.out.size;simp;omega
   intro v6 w6 hr6 hg6 hx6
   have al:Below w2.heap.size w2 (w2.alloc (.cells #[.int .i64 tm] 3)):=(Below.refl _ _).alloc (Nat.le_refl _) _
   have b6:Below w.heap.size w w6:=(H2.out.call al).bel.grown hg6 (H2.out.call al).size (fun k hk=>by cases hk)
   obtain⟨A6,c6,hv6,hc6,-⟩:=aA hr6
   subst hv6
   have H6:=zh (zN hr6 b6)
   clear hr6 hg6 hx6 al b6 z1
   go_wp2_with fail
   go_roundw
   case rel=>exact ⟨.inr ⟨rfl,A6,c6,rfl,H6.out.1⟩,H6.out.2⟩
   case measure=>simp[intOf]
  ·have HB:=zh (zN hb hr)
   clear hb hr
   go_wp2_with fail
   go_ret
   exact⟨A,c,rfl,HB.out.2,HB.out.1⟩
def Ry(w:World)(e:Ending)(w':World): Prop:=∃ (A:Option Addr) (c:Nat) (bs:List Nat),e=.returned (.slice A bs.length c)∧bs.length≤50∧(∀ b ∈ bs,b < 256)∧w'.ownsRow w.heap.size 5 1 (.slice A bs.length c) bs.length (bs.map V.aI)∧Below w.heap.size w w'
theorem Es(w:World)(D:Nat→Prop)(Ab:Option Addr)(cb:Nat)(tm v:Int)(h:jN w D Ab tm v)(ht:dS tm)(hv:dS v): Calls Tryz.prog 33 #[.slice Ab 1 cb] w (Ry w):=by
 obtain⟨b,off,rfl,hc⟩:=h.cells
 have HC:=zh hc
 have ku:IntKind.u64.wrap 1=1:=by decide
 clear hc h
 go_enter Tryz.func33,Tryz.ntmps33
 go_wp2_with fail
 refine(V.gW w none 0 0 [] 1 rfl (Sl.nil _ _ _ _) (by omega) (by omega) (by omega) (by omega)).mono ?_
 rintro e w1 ⟨v1,rfl,ho1,hb1⟩
 have hl1:([] ++ V.aC (1:Int).toNat).length≤10:=by
  have:=V.aR (u:=(1:Int).toNat) (by decide)
  simpa using this
 have hy1:∀ b ∈ [] ++ V.aC (1:Int).toNat,b < 256:=iI (fun b hb=>by cases hb) (V.cK _)
 obtain⟨b1,hb1e⟩:∃ l,l=[] ++ V.aC (1:Int).toNat:=⟨_,rfl⟩
 rw[←hb1e] at ho1 hl1 hy1
 obtain⟨A1,c1,hv1,hc1,-⟩:=aA ho1
 subst hv1
 have H1:=zh (zN ho1 (zN hb1 hy1))
 clear ho1 hb1 hy1 hb1e
 go_wp2_with fail
 go_loopw [3,12] (fun o i wr=>∃ (A:Option Addr) (c:Nat) (bs:List Nat),o=.slice A bs.length c∧((i=.int .i64 0∧bs.length≤10)∨(i=.int .i64 1∧bs.length≤50))∧bs.length≤c∧(∀ b ∈ bs,b < 256)∧wr.ownsRow w.heap.size 5 1 (.slice A bs.length c) bs.length (bs.map V.aI)∧Below w.heap.size w wr) (fun _ i _=>1-(intOf i).toNat)
 case atStart=>exact ⟨A1,c1,b1,rfl,.inl ⟨rfl,hl1⟩,hc1,H1.out.2.2,H1.out.1,H1.out.2.1⟩
 case round=>
  clear H1 hl1 hc1
  obtain⟨A1,c1,b1,rfl,hi,hc1,hy1,ho1,hb1⟩:=hrel
  rcases hi with ⟨rfl,hl1⟩ | ⟨rfl,hl1⟩
  ·obtain ⟨u0,u1,u2⟩:=HC.out wr hb1
   have H1:=zh (zN ho1 (zN hb1 hy1))
   clear ho1 hb1 hy1
   go_upto_region 5 with (fail)
   obtain⟨x,hx⟩:∃ x,x=wr.heap.size:=⟨_,rfl⟩
   rw[←hx]
   have al:Below wr.heap.size wr (wr.alloc (.cells #[.string bD,.int .i64 tm,.int .i64 v] 35)):=(Below.refl _ _).alloc (Nat.le_refl _) _
   refine aH (fun wx=>Own w [(x,35,#[.string bD,.int .i64 tm,.int .i64 v])] wx∧wx.ownsRow w.heap.size 5 1 (.slice A1 b1.length c1) b1.length (b1.map V.aI)) ⟨((Own.start w).call H1.out.2.1).alloc hx _ _,V.bH H1.out.1 al⟩ ?_
   rintro w2 ⟨h2,r2⟩
   have hS:=h2.drew
   have H2:=zh (zN h2.drew (V.bH r2 (Below.refl _ _).drew))
   clear h2 r2 al hx u0 u1 u2
   have hS:(Own w [(x,35,#[.string bD,.int .i64 tm,.int .i64 v])]) (w2.drew):=hS
   refine av (Own w [(x,35,#[.string bD,.int .i64 tm,.int .i64 v])]) (by kernel_rfl) hS ?_
   refine zB [0,1,2,4,5,7,8] ?_
   iterate 7 (refine zV ?_ ?_ hS ?_;rotate_left;(intro w' hSw;have z0:=hSw.cell 0 0 rfl rfl;have z1:=hSw.cell 0 1 rfl rfl;have z2:=hSw.cell 0 2 rfl rfl;go_simp<;>with_reducible rfl);try simp only[zP])
   refine zE ?_
   refine zC 3 fun K HK=>?_
   go_simp
   refine(V.jU w2.drew A1 b1.length c1 b1 bD rfl (V.dN (V.bH H2.out.2 (Below.refl _ _))) hc1 (by omega) (by decide)).mono ?_
   rintro e w3 ⟨v3,rfl,ho3,hb3⟩
   have hll:(b1 ++ V.aC bD.size ++ V.txt bD).length≤b1.length+11:=by
    have h1:=V.aR (u:=bD.size) (by decide)
    have h2:=V.iZ bD
    have h3:bD.size=1:=rfl
    rw[List.length_append,List.length_append];omega
   have hby:=iI (iI H1.out.2.2 (V.cK bD.size)) (V.rW bD)
   obtain⟨b3,hb3e⟩:∃ l,l=b1 ++ V.aC bD.size ++ V.txt bD:=⟨_,rfl⟩
   rw[←hb3e] at ho3 hll hby
   obtain⟨A3,c3,hv3,hc3,-⟩:=aA ho3
   subst hv3
   have H3:=zh (zN ho3 (zN (H2.out.1.call hb3) hby))
   have l3:=hll
   clear ho3 hb3 hll hby hb3e
   go_wp2_with fail
   refine HK.out.zt (Own w [(x,35,#[.string bD,.int .i64 tm,.int .i64 v])]) (fun _ h=>h) (H3.out.2.1) ?_
   clear HK hS
   intro hS
   try simp only[zP]
   refine zC 6 fun K HK=>?_
   go_simp
   refine(V.jO w3 A3 b3.length c3 b3 tm rfl (V.dN H3.out.1) hc3 (by omega) ht.1 ht.2).mono ?_
   rintro e w4 ⟨v4,rfl,ho4,hb4⟩
   have hll:(b3 ++ V.aC (zig tm)).length≤b3.length+10:=by
    have h1:=V.aR (u:=zig tm) (jc ht.1 ht.2)
    rw[List.length_append];omega
   have hby:=iI H3.out.2.2 (V.cK (zig tm))
   obtain⟨b4,hb4e⟩:∃ l,l=b3 ++ V.aC (zig tm):=⟨_,rfl⟩
   rw[←hb4e] at ho4 hll hby
   obtain⟨A4,c4,hv4,hc4,-⟩:=aA ho4
   subst hv4
   have H4:=zh (zN ho4 (zN (H3.out.2.1.call hb4) hby))
   have l4:=hll
   clear ho4 hb4 hll hby hb4e
   go_wp2_with fail
   refine HK.out.zt (Own w [(x,35,#[.string bD,.int .i64 tm,.int .i64 v])]) (fun _ h=>h) (H4.out.2.1) ?_
   clear HK hS
   intro hS
   try simp only[zP]
   refine zC 9 fun K HK=>?_
   go_simp
   refine(V.jO w4 A4 b4.length c4 b4 v rfl (V.dN H4.out.1) hc4 (by omega) hv.1 hv.2).mono ?_
   rintro e w5 ⟨v5,rfl,ho5,hb5⟩
   have hll:(b4 ++ V.aC (zig v)).length≤b4.length+10:=by
    have h1:=V.aR (u:=zig v) (jc hv.1 hv.2)
    rw[List.length_append];omega
   have hby:=iI H4.out.2.2 (V.cK (zig v))
   obtain⟨b5,hb5e⟩:∃ l,l=b4 ++ V.aC (zig v):=⟨_,rfl⟩
   rw[←hb5e] at ho5 hll hby
   obtain⟨A5,c5,hv5,hc5,-⟩:=aA ho5
   subst hv5
   have H5:=zh (zN ho5 (zN (H4.out.2.1.call hb5) hby))
   have l5:=hll
   clear ho5 hb5 hll hby hb5e
   go_wp2_with fail
   refine HK.out.zt (Own w [(x,35,#[.string bD,.int .i64 tm,.int .i64 v])]) (fun _ h=>h) (H5.out.2.1) ?_
   clear HK hS
   intro hS
   try simp only[zP]
   refine zT 10 ?_ ?_ hS ?_
   rotate_left
   ·(intro w' hSw;go_simp<;>with_reducible rfl)
   try simp only[zP]
   refine zD ?_
   try simp only[zP]
   clear hS
   go_wp2_with fail
   go_roundw
   case rel=>exact ⟨A5,c5,b5,rfl,.inr ⟨rfl,by omega⟩,hc5,H5.out.2.2,aU H5.out.1 H4.out.2.1.size,H5.out.2.1.bel⟩
   case measure=>simp[intOf]
  ·have HB:=zh (zN ho1 (zN hb1 hy1))
   clear ho1 hb1 hy1
   go_wp2_with fail
   go_ret
   exact⟨A1,c1,b1,rfl,hl1,HB.out.2.2,HB.out.1,HB.out.2.1⟩
end
section
open Go.RowKit Go.Maps
def qV(tu:Int): Array Value:=#[.int .i64 0,.int .i64 0,.string bD,.string ByteArray.empty,.int .i64 0,.int .i64 tu,.int .i64 0,.int .i64 0,.int .i64 0,.int .i64 0,.int .i64 0,.int .i64 0]
theorem xE(w:World)(n a b:Int)(h1:a≤n)(h2:n≤b): Calls Tryz.prog 102 #[.int .i64 n,.int .i64 a,.int .i64 b] w fun e w'=>e=.returned (.bool true)∧Below w.heap.size w w':=by
 have d1:decide (a≤n)=true:=by simp;exact h1
 have d2:decide (n≤b)=true:=by simp;exact h2
 clear h1 h2
 go_enter Tryz.func102,Tryz.ntmps102
 go_wp2_with fail
 go_ret
 exact⟨rfl,Below.refl _ _⟩
theorem Jf(w:World)(tu:Int): Calls Tryz.prog 101 #[.agg (qV tu)] w fun e w'=>e=.returned (.bool true)∧Below w.heap.size w w':=by
 obtain⟨x,hx⟩:∃ x,x=w.heap.size:=⟨_,rfl⟩
 have o0:=Own.eX w hx 43 (qV tu)
 have HO:=zh o0
 clear o0
 unfold qV
 go_enter Tryz.func101,Tryz.ntmps101
 go_upto_region 1 with (fail)
 rw[←hx]
 clear hx
 refine aH (Own w [(x,43,qV tu)]) HO.out ?_
 intro w1 h1
 have H1:=zh h1
 have z0:=h1.cell 0 0 rfl rfl
 clear h1
 go_wp2_with fail
 go_ret
 exact⟨rfl,H1.out.bel⟩
theorem Kz(w:World)(tu:Int): Calls Tryz.prog 103 #[.agg (qV tu)] w fun e w'=>e=.returned (.agg (qV tu))∧Below w.heap.size w w':=by
 obtain⟨x,hx⟩:∃ x,x=w.heap.size:=⟨_,rfl⟩
 have o0:=Own.oJ w hx 43 (qV tu) 43 #[.int .i64 0,.int .i64 0,.string ByteArray.empty,.string ByteArray.empty,.int .i64 0,.int .i64 0,.int .i64 0,.int .i64 0,.int .i64 0,.int .i64 0,.int .i64 0,.int .i64 0]
 have HO:=zh o0
 clear o0
 unfold qV
 go_enter Tryz.func103,Tryz.ntmps103
 go_upto_region 1 with (fail)
 rw[←hx]
 clear hx
 refine aH (Own w [(x,43,qV tu),(x+1,43,#[.int .i64 0,.int .i64 0,.string ByteArray.empty,.string ByteArray.empty,.int .i64 0,.int .i64 0,.int .i64 0,.int .i64 0,.int .i64 0,.int .i64 0,.int .i64 0,.int .i64 0])]) HO.out ?_
 intro w1 h1
 have H1:=zh h1
 have z0_0:=h1.cell 0 0 rfl rfl;have z0_1:=h1.cell 0 1 rfl rfl;have z0_2:=h1.cell 0 2 rfl rfl;have z0_3:=h1.cell 0 3 rfl rfl;have z0_4:=h1.cell 0 4 rfl rfl;have z0_5:=h1.cell 0 5 rfl rfl;have z0_6:=h1.cell 0 6 rfl rfl;have z0_7:=h1.cell 0 7 rfl rfl;have z0_8:=h1.cell 0 8 rfl rfl;have z0_9:=h1.cell 0 9 rfl rfl;have z0_10:=h1.cell 0 10 rfl rfl;have z0_11:=h1.cell 0 11 rfl rfl
 have zf0:=h1.free 0 rfl
 clear h1
 go_upto_region 3 with (fail)
 refine aH (Own w [(x,43,qV tu),(x+1,43,#[.int .i64 0,.int .i64 0,.string ByteArray.empty,.string ByteArray.empty,.int .i64 0,.int .i64 0,.int .i64 0,.int .i64 0,.int .i64 0,.int .i64 0,.int .i64 0,.int .i64 0])]) ((((H1.out.set 0 6 rfl (.int .i64 0)).set 0 7 rfl (.int .i64 0)).set 0 8 rfl (.int .i64 0)).set 0 11 rfl (.int .i64 0)) ?_
 clear z0_0 z0_1 z0_2 z0_3 z0_4 z0_5 z0_6 z0_7 z0_8 z0_9 z0_10 z0_11 zf0
 intro w2 h1
 have H2:=zh h1
 have z0_0:=h1.cell 0 0 rfl rfl;have z0_1:=h1.cell 0 1 rfl rfl;have z0_2:=h1.cell 0 2 rfl rfl;have z0_3:=h1.cell 0 3 rfl rfl;have z0_4:=h1.cell 0 4 rfl rfl;have z0_5:=h1.cell 0 5 rfl rfl;have z0_6:=h1.cell 0 6 rfl rfl;have z0_7:=h1.cell 0 7 rfl rfl;have z0_8:=h1.cell 0 8 rfl rfl;have z0_9:=h1.cell 0 9 rfl rfl;have z0_10:=h1.cell 0 10 rfl rfl;have z0_11:=h1.cell 0 11 rfl rfl
 have zf0:=h1.free 0 rfl
 clear h1
 go_upto_region 5 with (fail)
 refine aH (Own w [(x,43,qV tu),(x+1,43,#[.int .i64 0,.int .i64 0,.string ByteArray.empty,.string ByteArray.empty,.int .i64 0,.int .i64 0,.int .i64 0,.int .i64 0,.int .i64 0,.int .i64 0,.int .i64 0,.int .i64 0])]) (H2.out.set 0 9 rfl (.int .i64 0)) ?_
 clear z0_0 z0_1 z0_2 z0_3 z0_4 z0_5 z0_6 z0_7 z0_8 z0_9 z0_10 z0_11 zf0
 intro w3 h1
 have H3:=zh h1
 have z0_0:=h1.cell 0 0 rfl rfl;have z0_1:=h1.cell 0 1 rfl rfl;have z0_2:=h1.cell 0 2 rfl rfl;have z0_3:=h1.cell 0 3 rfl rfl;have z0_4:=h1.cell 0 4 rfl rfl;have z0_5:=h1.cell 0 5 rfl rfl;have z0_6:=h1.cell 0 6 rfl rfl;have z0_7:=h1.cell 0 7 rfl rfl;have z0_8:=h1.cell 0 8 rfl rfl;have z0_9:=h1.cell 0 9 rfl rfl;have z0_10:=h1.cell 0 10 rfl rfl;have z0_11:=h1.cell 0 11 rfl rfl
 have zf0:=h1.free 0 rfl
 clear h1
 go_upto_region 7 with (fail)
 refine aH (Own w [(x,43,qV tu),(x+1,43,#[.int .i64 0,.int .i64 0,.string ByteArray.empty,.string ByteArray.empty,.int .i64 0,.int .i64 0,.int .i64 0,.int .i64 0,.int .i64 0,.int .i64 0,.int .i64 0,.int .i64 0])]) ((H3.out.set 0 3 rfl (.string ByteArray.empty)).set 0 10 rfl (.int .i64 0)) ?_
 clear z0_0 z0_1 z0_2 z0_3 z0_4 z0_5 z0_6 z0_7 z0_8 z0_9 z0_10 z0_11 zf0
 intro w4 h1
 have H4:=zh h1
 have z0_0:=h1.cell 0 0 rfl rfl;have z0_1:=h1.cell 0 1 rfl rfl;have z0_2:=h1.cell 0 2 rfl rfl;have z0_3:=h1.cell 0 3 rfl rfl;have z0_4:=h1.cell 0 4 rfl rfl;have z0_5:=h1.cell 0 5 rfl rfl;have z0_6:=h1.cell 0 6 rfl rfl;have z0_7:=h1.cell 0 7 rfl rfl;have z0_8:=h1.cell 0 8 rfl rfl;have z0_9:=h1.cell 0 9 rfl rfl;have z0_10:=h1.cell 0 10 rfl rfl;have z0_11:=h1.cell 0 11 rfl rfl
 have zf0:=h1.free 0 rfl
 clear h1
 go_upto_region 9 with (fail)
 refine aH (Own w [(x,43,qV tu),(x+1,43,#[.int .i64 0,.int .i64 0,.string ByteArray.empty,.string ByteArray.empty,.int .i64 0,.int .i64 0,.int .i64 0,.int .i64 0,.int .i64 0,.int .i64 0,.int .i64 0,.int .i64 0])]) (H4.out.set 0 1 rfl (.int .i64 0)) ?_
 clear z0_0 z0_1 z0_2 z0_3 z0_4 z0_5 z0_6 z0_7 z0_8 z0_9 z0_10 z0_11 zf0
 intro w5 h1
 have H5:=zh h1
 obtain⟨w6,hw6⟩:∃ wz,wz=((((((((((((w5.setCell ⟨x+1,0,none⟩ (.int .i64 0)).setCell ⟨x+1,1,none⟩ (.int .i64 0)).setCell ⟨x+1,2,none⟩ (.string bD)).setCell ⟨x+1,3,none⟩ (.string ByteArray.empty)).setCell ⟨x+1,4,none⟩ (.int .i64 0)).setCell ⟨x+1,5,none⟩ (.int .i64 tu)).setCell ⟨x+1,6,none⟩ (.int .i64 0)).setCell ⟨x+1,7,none⟩ (.int .i64 0)).setCell ⟨x+1,8,none⟩ (.int .i64 0)).setCell ⟨x+1,9,none⟩ (.int .i64 0)).setCell ⟨x+1,10,none⟩ (.int .i64 0)).setCell ⟨x+1,11,none⟩ (.int .i64 0)):=⟨_,rfl⟩
 have o6:Own w [(x+1,43,qV tu)] w6:=by rw[hw6];exact (fu.of (h1.sub (List.sublist_cons_self _ _)) rfl).put [.int .i64 0,.int .i64 0,.string bD,.string ByteArray.empty,.int .i64 0,.int .i64 tu,.int .i64 0,.int .i64 0,.int .i64 0,.int .i64 0,.int .i64 0,.int .i64 0] rfl
 have H6:=zh o6
 have HW6:=zh hw6
 have z0_0:=h1.cell 0 0 rfl rfl;have z0_1:=h1.cell 0 1 rfl rfl;have z0_2:=h1.cell 0 2 rfl rfl;have z0_3:=h1.cell 0 3 rfl rfl;have z0_4:=h1.cell 0 4 rfl rfl;have z0_5:=h1.cell 0 5 rfl rfl;have z0_6:=h1.cell 0 6 rfl rfl;have z0_7:=h1.cell 0 7 rfl rfl;have z0_8:=h1.cell 0 8 rfl rfl;have z0_9:=h1.cell 0 9 rfl rfl;have z0_10:=h1.cell 0 10 rfl rfl;have z0_11:=h1.cell 0 11 rfl rfl;have z1_0:=h1.cell 1 0 rfl rfl;have z1_1:=h1.cell 1 1 rfl rfl;have z1_2:=h1.cell 1 2 rfl rfl;have z1_3:=h1.cell 1 3 rfl rfl;have z1_4:=h1.cell 1 4 rfl rfl;have z1_5:=h1.cell 1 5 rfl rfl;have z1_6:=h1.cell 1 6 rfl rfl;have z1_7:=h1.cell 1 7 rfl rfl;have z1_8:=h1.cell 1 8 rfl rfl;have z1_9:=h1.cell 1 9 rfl rfl;have z1_10:=h1.cell 1 10 rfl rfl;have z1_11:=h1.cell 1 11 rfl rfl
 have zf1:=h1.free 1 rfl
 clear h1 o6 hw6
 go_wp2_with (rw[←HW6.out])
 clear z0_0 z0_1 z0_2 z0_3 z0_4 z0_5 z0_6 z0_7 z0_8 z0_9 z0_10 z0_11 z1_0 z1_1 z1_2 z1_3 z1_4 z1_5 z1_6 z1_7 z1_8 z1_9 z1_10 z1_11 zf1
 have h6:=H6.out
 have z0_0:=h6.cell 0 0 rfl rfl;have z0_1:=h6.cell 0 1 rfl rfl;have z0_2:=h6.cell 0 2 rfl rfl;have z0_3:=h6.cell 0 3 rfl rfl;have z0_4:=h6.cell 0 4 rfl rfl;have z0_5:=h6.cell 0 5 rfl rfl;have z0_6:=h6.cell 0 6 rfl rfl;have z0_7:=h6.cell 0 7 rfl rfl;have z0_8:=h6.cell 0 8 rfl rfl;have z0_9:=h6.cell 0 9 rfl rfl;have z0_10:=h6.cell 0 10 rfl rfl;have z0_11:=h6.cell 0 11 rfl rfl
 refine bodyPost_ret (v:=.agg (qV tu)) (by unfold qV;simp[results,Tryz.results103,go_sem,z0_0,z0_1,z0_2,z0_3,z0_4,z0_5,z0_6,z0_7,z0_8,z0_9,z0_10,z0_11]) rfl ?_
 exact⟨rfl,H6.out.bel⟩
theorem F8(w:World)(tu:Int)(h0:0≤tu)(h1:tu≤1000000): Calls Tryz.prog 44 #[.agg (qV tu)] w fun e w'=>e=.returned (.int .i64 0)∧Below w.heap.size w w':=by
 obtain⟨x,hx⟩:∃ x,x=w.heap.size:=⟨_,rfl⟩
 have o0:=Own.eX w hx 43 (qV tu)
 have nt:∀ w:World,(Op.unary .not (.bool true)).run Tryz.prog w=.ok (.bool false) w:=fF
 have HO:=zh o0
 clear o0
 unfold qV
 go_enter Tryz.func44,Tryz.ntmps44
 go_wp2_with fail
 rw[←hx]
 clear hx
 refine aH (Own w [(x,43,qV tu)]) HO.out ?_
 intro w1 o1
 have hS:=o1.drew
 clear o1
 have hS:(Own w [(x,43,qV tu)]) (w1.drew):=hS
 refine av (Own w [(x,43,qV tu)]) (by kernel_rfl) hS ?_
 refine zT 0 ?_ ?_ hS ?_
 rotate_left
 ·(intro w' hSw;have z0_0:=hSw.cell 0 0 rfl rfl;have z0_1:=hSw.cell 0 1 rfl rfl;have z0_2:=hSw.cell 0 2 rfl rfl;have z0_3:=hSw.cell 0 3 rfl rfl;have z0_4:=hSw.cell 0 4 rfl rfl;have z0_5:=hSw.cell 0 5 rfl rfl;have z0_6:=hSw.cell 0 6 rfl rfl;have z0_7:=hSw.cell 0 7 rfl rfl;have z0_8:=hSw.cell 0 8 rfl rfl;have z0_9:=hSw.cell 0 9 rfl rfl;have z0_10:=hSw.cell 0 10 rfl rfl;have z0_11:=hSw.cell 0 11 rfl rfl;go_simp<;>with_reducible rfl)
 try simp only[zP]
 have c1:=Jf w1.drew tu
 unfold qV at c1
 refine zC 1 fun K HK=>?_
 go_simp
 refine(c1).mono ?_
 rintro e w2 ⟨rfl,hb2⟩
 have h2:=hS.call hb2
 clear hb2 c1
 go_wp2_with fail
 refine HK.out.zt (Own w [(x,43,qV tu)]) (fun _ h=>h) (h2) ?_
 clear HK hS
 intro hS
 try simp only[zP]
 refine zB [2,3] ?_
 iterate 2 (refine zV ?_ ?_ hS ?_;rotate_left;(intro w' hSw;go_simp<;>with_reducible rfl);try simp only[zP])
 refine zE ?_
 refine zB [4,5] ?_
 iterate 2 (refine zV ?_ ?_ hS ?_;rotate_left;(intro w' hSw;have z0_2:=hSw.cell 0 2 rfl rfl;go_simp<;>with_reducible rfl);try simp only[zP])
 refine zE ?_
 have c2:=o9 bD (by decide) w2
 rw[Fb] at c2
 refine zC 6 fun K HK=>?_
 go_simp
 refine(c2).mono ?_
 rintro e w3 ⟨rfl,hb3⟩
 have h3:=h2.call hb3
 clear hb3 c2 h2
 go_wp2_with fail
 refine HK.out.zt (Own w [(x,43,qV tu)]) (fun _ h=>h) (h3) ?_
 clear HK hS
 intro hS
 try simp only[zP]
 refine zB [7,8,9] ?_
 iterate 3 (refine zV ?_ ?_ hS ?_;rotate_left;(intro w' hSw;go_simp<;>with_reducible rfl);try simp only[zP])
 refine zE ?_
 refine zB [10,11] ?_
 iterate 2 (refine zV ?_ ?_ hS ?_;rotate_left;(intro w' hSw;have z0_4:=hSw.cell 0 4 rfl rfl;go_simp<;>with_reducible rfl);try simp only[zP])
 refine zE ?_
 refine zC 12 fun K HK=>?_
 go_simp
 refine(xE w3 0 (-1152921504606846976) 1152921504606846976 (by omega) (by omega)).mono ?_
 rintro e w4 ⟨rfl,hb4⟩
 have h4:=h3.call hb4
 clear hb4 h3
 go_wp2_with fail
 refine HK.out.zt (Own w [(x,43,qV tu)]) (fun _ h=>h) (h4) ?_
 clear HK hS
 intro hS
 try simp only[zP]
 refine zB [13,14,15] ?_
 iterate 3 (refine zV ?_ ?_ hS ?_;rotate_left;(intro w' hSw;go_simp<;>with_reducible rfl);try simp only[zP])
 refine zE ?_
 refine zB [16,17,18,19] ?_
 iterate 4 (refine zV ?_ ?_ hS ?_;rotate_left;(intro w' hSw;have z0_4:=hSw.cell 0 4 rfl rfl;have z0_5:=hSw.cell 0 5 rfl rfl;go_simp<;>with_reducible rfl);try simp only[zP])
 refine zE ?_
 refine zC 20 fun K HK=>?_
 go_simp
 refine(xE w4 tu 0 1152921504606846976 (by omega) (by omega)).mono ?_
 rintro e w5 ⟨rfl,hb5⟩
 have h5:=h4.call hb5
 clear hb5 h4
 go_wp2_with fail
 refine HK.out.zt (Own w [(x,43,qV tu)]) (fun _ h=>h) (h5) ?_
 clear HK hS
 intro hS
 try simp only[zP]
 refine zB [21,22,23] ?_
 iterate 3 (refine zV ?_ ?_ hS ?_;rotate_left;(intro w' hSw;go_simp<;>with_reducible rfl);try simp only[zP])
 refine zE ?_
 refine zB [24,25] ?_
 iterate 2 (refine zV ?_ ?_ hS ?_;rotate_left;(intro w' hSw;have z0_0:=hSw.cell 0 0 rfl rfl;have z0_1:=hSw.cell 0 1 rfl rfl;have z0_2:=hSw.cell 0 2 rfl rfl;have z0_3:=hSw.cell 0 3 rfl rfl;have z0_4:=hSw.cell 0 4 rfl rfl;have z0_5:=hSw.cell 0 5 rfl rfl;have z0_6:=hSw.cell 0 6 rfl rfl;have z0_7:=hSw.cell 0 7 rfl rfl;have z0_8:=hSw.cell 0 8 rfl rfl;have z0_9:=hSw.cell 0 9 rfl rfl;have z0_10:=hSw.cell 0 10 rfl rfl;have z0_11:=hSw.cell 0 11 rfl rfl;go_simp<;>with_reducible rfl);try simp only[zP])
 refine zE ?_
 have c6:=Kz w5 tu
 unfold qV at c6
 refine zC 26 fun K HK=>?_
 go_simp
 refine(c6).mono ?_
 rintro e w6 ⟨rfl,hb6⟩
 have h6:=h5.call hb6
 clear hb6 c6 h5
 go_wp2_with fail
 refine HK.out.zt (Own w [(x,43,qV tu)]) (fun _ h=>h) (h6) ?_
 clear HK hS
 intro hS
 try simp only[zP]
 refine zB [27,28] ?_
 iterate 2 (refine zV ?_ ?_ hS ?_;rotate_left;(intro w' hSw;go_simp<;>with_reducible rfl);try simp only[zP])
 refine zE ?_
 refine zD ?_
 try simp only[zP]
 clear hS
 have H6:=zh h6
 clear h6
 go_wp2_with fail
 go_ret
 exact⟨rfl,H6.out.bel⟩
end
section
open Go.RowKit
theorem Kg(w:World)(d M:Nat)(room T limit:Nat)(hd:bq w d M (fun _=>none) room T 0)(h1:1≤limit)(h2:limit≤1048576):
  Calls Tryz.prog 24 #[.pointer (some ⟨d,0,none⟩),.int .i64 (limit:Nat)] w fun e w'=>∃ l,e=.returned (.tuple #[.pointer (some ⟨l,0,none⟩),.slice none 0 0,.int .i64 0])∧w.heap.size≤l∧bL w' l d limit none 0 (fun _=>0) 0 0 0 false∧Below w.heap.size w w':=by
 have d1:decide ((limit:Int) < 1)=false:=by simp;omega
 have d2:decide ((1048576:Int) < (limit:Int))=false:=by simp;omega
 have d3:decide (limit < 1)=false:=by simp;omega
 have d4:decide (1048576 < limit)=false:=by simp;omega
 have HD:=zh hd
 clear hd
 go_enter Tryz.func24,Tryz.ntmps24
 go_wp2_with fail
 refine(jv w d M ⟨#[119]⟩ _ room T 0 HD.out rfl (by decide)).mono ?_
 rintro e w1 ⟨rfl,hb1⟩
 obtain⟨x,hx⟩:∃ x,x=w1.heap.size:=⟨_,rfl⟩
 have o0:=Own.oJ w1 hx 130 #[.pointer (some ⟨d,0,none⟩),.int .i64 (limit:Nat),.slice none 0 0,.int .i64 0,.int .i64 0,.bool false,.bool false] 86 #[.slice none 0 0]
 have HB:=zh (zN hb1 (zN hx o0))
 clear hb1 o0
 go_wp2_with fail
 rw[←hx]
 clear hx
 refine bC (Own w1 [(x,130,#[.pointer (some ⟨d,0,none⟩),.int .i64 (limit:Nat),.slice none 0 0,.int .i64 0,.int .i64 0,.bool false,.bool false]),(x+1,86,#[.slice none 0 0])]) HB.out.2.2 ?_
 intro w2 h2
 have H2:=zh h2
 clear h2
 refine(qh w2 d M _ _ room T ((HD.out.call HB.out.1).call H2.out.bel)).mono ?_
 rintro e w3 ⟨rfl,hb3⟩
 have H3:=zh hb3
 clear hb3
 go_wp2_with fail
 go_loopw [37] (fun i wr=>i=.int .i64 0∧wr=w3) (fun _ _=>0)
 case atStart=>exact ⟨rfl,rfl⟩
 case round=>
  obtain⟨rfl,rfl⟩:=hrel
  go_wp2_with fail
  have o3:=H2.out.call H3.out
  have hS:=o3.drew
  have hS:(fun wx=>Own w1 [(x,130,#[.pointer (some ⟨d,0,none⟩),.int .i64 (limit:Nat),.slice none 0 0,.int .i64 0,.int .i64 0,.bool false,.bool false]),(x+1,86,#[.slice none 0 0])] wx) (wr.drew):=hS
  refine av (fun wx=>Own w1 [(x,130,#[.pointer (some ⟨d,0,none⟩),.int .i64 (limit:Nat),.slice none 0 0,.int .i64 0,.int .i64 0,.bool false,.bool false]),(x+1,86,#[.slice none 0 0])] wx) (by kernel_rfl) hS ?_
  refine zB [0,1,2,3,4] ?_
  iterate 5 (refine zV ?_ ?_ hS ?_;rotate_left;(intro w' hSw;have u0:=hSw.cell 1 0 rfl rfl;go_simp<;>with_reducible rfl);try simp only[zP])
  refine zE ?_
  refine zD ?_
  try simp only[zP]
  have HS:=zh hS
  clear hS o3
  go_wp2_with fail
  go_ret3
  exact⟨x,rfl,by rw[HB.out.2.1];exact HB.out.1.size,⟨HS.out.get 0 rfl,rfl,.inl ⟨rfl,rfl⟩⟩,V.ay HB.out.1 HS.out.bel⟩
end
section
open Go.RowKit Go.Maps
def cls: Option TypeId→Nat
 | none=>0
 | some t=>if t=71∨t=114∨t=5 then 1 else if t=128∨t=164 then 2 else if t=130∨t=3 then 3 else if t=117∨t=149 then 4 else if t=81 then 5 else 6
theorem DV{w:World}{M n:Nat}{D:DataW Value}(h:w.ownsMap Tryz.prog 9 eP M n D): j3 w M=none:=by
 obtain⟨es,clock,e1,-⟩:=h
 unfold j3
 rw[e1]
theorem qI{w:World}{d M:Nat}{p:ByteArray→Option FS}{room T G q:Nat}(h:bq w d M p room T G)(hq:aL d M p q): cls (j3 w q)=1∨(q=M∧cls (j3 w q)=0):=by
 obtain⟨⟨u,o,c,hD,-⟩,-⟩:=h
 rcases hq with rfl | rfl | ⟨s,a,ha,hq⟩
 ·left;rw[bZ hD.blk];rfl
 ·right
  obtain⟨n,D,hm,-⟩:=hD.map
  exact⟨rfl,by rw[DV hm];rfl⟩
 ·left
  obtain⟨h1,h2⟩:=hD.fil s a ha
  rcases hq with rfl | hq
  ·rw[bZ h1];rfl
  ·rw[fQ h2 hq];rfl
theorem qU{w:World}{st d N R q:Nat}{s:Bool}{la lg:Int}{A:Option Addr}{K cp:Nat}{pl:Nat→List Pt}(h:mX w st d N R q s la lg A K cp pl){r:Nat}(hr:mP st A r): cls (j3 w r)=2:=by
 rcases hr with rfl | hr
 ·rw[bZ h.blk];rfl
 ·rw[fQ h.row (by rw[lZ];exact hr)];rfl
theorem qQ{w:World}{l d limit:Nat}{A:Option Addr}{cp:Nat}{fs:Nat→Nat}{k size next:Nat}{dirty:Bool}(h:bL w l d limit A cp fs k size next dirty){r:Nat}(hr:fM l A r): cls (j3 w r)=3:=by
 rcases hr with rfl | hr
 ·rw[bZ h.blk];rfl
 ·rw[fQ h.row (by rw[lZ];exact hr)];rfl
theorem kU{w:World}{t Mt:Nat}{A:Option Addr}{cp:Nat}{L:List Pt}{n most U:Nat}(h:eB w t Mt A cp L n most U){r:Nat}(hr:dM t Mt A r): cls (j3 w r)=4∨(r=Mt∧cls (j3 w r)=0):=by
 rcases hr with rfl | rfl | hr
 ·left;rw[bZ h.blk];rfl
 ·right
  obtain⟨s,N,D,h1,-⟩:=h.map
  exact⟨rfl,by rw[DV h1];rfl⟩
 ·left;rw[fQ h.row (by rw[lZ];exact hr)];rfl
structure dQ where
 st: Nat
 d:Nat
 M:Nat
 l:Nat
 t:Nat
 Mt:Nat
 p:ByteArray→Option FS
 T:Nat
 G:Nat
 A:Option Addr
 K:Nat
 cp:Nat
 pl:Nat→List Pt
 R:Nat
 q0:Nat
 s0:Bool
 la0:Int
 Al:Option Addr
 cl:Nat
 fs:Nat→Nat
 kl:Nat
 sz:Nat
 nx:Nat
 At:Option Addr
 ct:Nat
 L:List Pt
 n:Nat
 U:Nat
 s:Bool
 la:Int
 q:Nat
def eY(x:dQ)(lg:Int): Array Value:=#[.int .i64 (-1),.pointer (some ⟨x.st,0,none⟩),.pointer (some ⟨x.l,0,none⟩),.pointer (some ⟨x.t,0,none⟩),.bool x.s,.int .i64 x.la,.int .i64 lg,.int .i64 (x.q:Nat),.bool false]
def IX(x:dQ)(e:Nat)(r:Nat): Prop:=aL x.d x.M x.p r∨mP x.st x.A r∨fM x.l x.Al r∨dM x.t x.Mt x.At r∨r=e
structure bJ(B:Nat)(w0 w:World)(e:Nat)(lg:Int)(room limit most:Nat)(x:dQ): Prop where
 blk:au w e 81 (eY x lg)
 dt:bq w x.d x.M x.p room x.T x.G
 sto:mX w x.st x.d x.K x.R x.q0 x.s0 x.la0 lg x.A x.K x.cp x.pl
 log:bL w x.l x.d limit x.Al x.cl x.fs x.kl x.sz x.nx false
 tab:eB w x.t x.Mt x.At x.ct x.L x.n most x.U
 mne:x.M≠x.Mt
 lo:∀ r,IX x e r→B≤r
 bel:Below B w0 w
 hB:B≤w0.heap.size
 fso:SV (fb x.p) x.pl x.K
 noN:fb x.p iP=none
 noS:∀ j,x.K≤j→j < 10000→fb x.p (bU 115 j)=none
 plo:nu x.pl x.K
 inc:Inc (aQ x.pl x.K ++ x.L)
 sm:∀ p ∈ x.L,vG p
 mark:V.dh x.s x.la lg=true
 fwd:x.s0=false∨(x.s=true∧x.la0≤x.la)
 rn:x.R≤x.nx
 qq:x.q0≤x.q
 fsl:∀ j,j < x.kl→x.fs j < 1000000
 nm:x.n≤most
 he:V.cu w0∧0 < B
theorem bJ.herr{B:Nat}{w0 w:World}{e:Nat}{lg:Int}{room limit most:Nat}{x:dQ}(h:bJ B w0 w e lg room limit most x): V.cu w:=(World.cell?_of_block (w:=w0) (h.bel.block _ h.he.2)).trans h.he.1
theorem bJ.size{B:Nat}{w0 w:World}{e:Nat}{lg:Int}{room limit most:Nat}{x:dQ}(h:bJ B w0 w e lg room limit most x): B≤w.heap.size:=Nat.le_trans h.hB h.bel.size
theorem bJ.call{B:Nat}{w0 w w':World}{e:Nat}{lg:Int}{room limit most:Nat}{x:dQ}(h:bJ B w0 w e lg room limit most x)(hb:Below w.heap.size w w'): bJ B w0 w' e lg room limit most x:=
 { h with blk:=h.blk.below hb h.blk.lt,dt:=h.dt.call hb,sto:=h.sto.call hb,log:=h.log.call hb,tab:=h.tab.call hb,bel:=h.bel.trans (hb.mono h.size) }
section
variable {B:Nat} {w0 w:World} {e:Nat} {lg:Int} {room limit most:Nat} {x:dQ}
theorem bJ.Km(h:bJ B w0 w e lg room limit most x): cls (j3 w e)=5:=by rw[bZ h.blk];rfl
theorem bJ.ds(h:bJ B w0 w e lg room limit most x)(r:Nat)(h1:aL x.d x.M x.p r)(h2:mP x.st x.A r): False:=by
 have a:=qI h.dt h1;have b:=qU h.sto h2;omega
theorem bJ.dl(h:bJ B w0 w e lg room limit most x)(r:Nat)(h1:aL x.d x.M x.p r)(h2:fM x.l x.Al r): False:=by
 have a:=qI h.dt h1;have b:=qQ h.log h2;omega
theorem bJ.QF(h:bJ B w0 w e lg room limit most x)(r:Nat)(h1:aL x.d x.M x.p r)(h2:dM x.t x.Mt x.At r): False:=by
 have a:=qI h.dt h1;have b:=kU h.tab h2;have c:=h.mne;omega
theorem bJ.de(h:bJ B w0 w e lg room limit most x)(r:Nat)(h1:aL x.d x.M x.p r)(h2:r=e): False:=by
 have a:=qI h.dt h1;have b:=h.Km;rw[h2] at a;omega
theorem bJ.sl(h:bJ B w0 w e lg room limit most x)(r:Nat)(h1:mP x.st x.A r)(h2:fM x.l x.Al r): False:=by
 have a:=qU h.sto h1;have b:=qQ h.log h2;omega
theorem bJ.S9(h:bJ B w0 w e lg room limit most x)(r:Nat)(h1:mP x.st x.A r)(h2:dM x.t x.Mt x.At r): False:=by
 have a:=qU h.sto h1;have b:=kU h.tab h2;omega
theorem bJ.se(h:bJ B w0 w e lg room limit most x)(r:Nat)(h1:mP x.st x.A r)(h2:r=e): False:=by
 have a:=qU h.sto h1;have b:=h.Km;rw[h2] at a;omega
theorem bJ.lt(h:bJ B w0 w e lg room limit most x)(r:Nat)(h1:fM x.l x.Al r)(h2:dM x.t x.Mt x.At r): False:=by
 have a:=qQ h.log h1;have b:=kU h.tab h2;omega
theorem bJ.le(h:bJ B w0 w e lg room limit most x)(r:Nat)(h1:fM x.l x.Al r)(h2:r=e): False:=by
 have a:=qQ h.log h1;have b:=h.Km;rw[h2] at a;omega
theorem bJ.te(h:bJ B w0 w e lg room limit most x)(r:Nat)(h1:dM x.t x.Mt x.At r)(h2:r=e): False:=by
 have a:=kU h.tab h1;have b:=h.Km;rw[h2] at a;omega
end
theorem LD(a:Addr)(w:World): (binOp .eql 27 (.pointer (some a)) (.pointer none)).run Tryz.prog w=.ok (.bool false) w:=by kernel_rfl
theorem Kr(w:World)(e t:Nat)(hc:w.cell? ⟨e,3,none⟩=some (.pointer (some ⟨t,0,none⟩))): Calls Tryz.prog 31 #[.pointer (some ⟨e,0,none⟩)] w fun u w'=>u=.returned (.bool false)∧Below w.heap.size w w':=by
 have q2:=fun y=>LD ⟨y,0,none⟩
 have q3:=fun y=>BQ ⟨y,0,none⟩
 go_enter Tryz.func31,Tryz.ntmps31
 go_wp2_with fail
 go_ret
 exact⟨rfl,Below.refl _ _⟩
theorem bJ.none{B:Nat}{w0 w:World}{e:Nat}{lg:Int}{room limit most:Nat}{x:dQ}(h:bJ B w0 w e lg room limit most x): Calls Tryz.prog 31 #[.pointer (some ⟨e,0,none⟩)] w fun u w'=>u=.returned (.bool false)∧Below w.heap.size w w':=Kr w e x.t (h.blk.cell 3)
theorem iJ{B:Nat}{w0 w:World}{e:Nat}{lg:Int}{room limit most:Nat}{x:dQ}(h:bJ B w0 w e lg room limit most x): Calls Tryz.prog 10 #[.pointer (some ⟨e,0,none⟩)] w fun u w'=>u=.returned (.int .i64 (x.n:Nat))∧Below w.heap.size w w':=by
 have HD:=zh h
 clear h
 go_enter Tryz.func10,Tryz.ntmps10
 go_wp2_with fail
 refine HD.out.none.mono ?_
 rintro u w1 ⟨rfl,hb1⟩
 have h1:=HD.out.call hb1
 have z3:w1.cell? ⟨e,3,none⟩=some (.pointer (some ⟨x.t,0,none⟩)):=h1.blk.cell 3
 have H1:=zh (zN h1 hb1)
 clear h1 hb1
 go_wp2_with fail
 refine(C8 w1 x.t x.Mt x.At x.ct x.L x.n most x.U H1.out.1.tab).mono ?_
 rintro u w2 ⟨rfl,hb2⟩
 have H2:=zh (V.ay H1.out.2 hb2)
 clear hb2
 go_wp2_with fail
 go_ret
 exact⟨rfl,H2.out⟩
theorem GA(c0 c1 c2 c3 c4 c5 c6 c7:Value)(w:World): (Instr.field 92 (.agg #[c0,c1,c2,c3,c4,c5,c6,c7]) 4).run Tryz.prog w=.ok c6 w:=by kernel_rfl
theorem FP{B:Nat}{w0 w:World}{e:Nat}{lg:Int}{room limit most:Nat}{x:dQ}(h:bJ B w0 w e lg room limit most x)(hK:x.K≤400): Calls Tryz.prog 13 #[.pointer (some ⟨e,0,none⟩)] w fun u w'=>u=.returned (.int .i64 (x.K:Nat))∧Below w.heap.size w w':=by
 have hff:=GA
 have HD:=zh h
 clear h
 go_enter Tryz.func13,Tryz.ntmps13
 go_wp2_with fail
 refine HD.out.none.mono ?_
 rintro u w1 ⟨rfl,hb1⟩
 have h1:=HD.out.call hb1
 have z1:w1.cell? ⟨e,1,none⟩=some (.pointer (some ⟨x.st,0,none⟩)):=h1.blk.cell 1
 have H1:=zh (zN h1 hb1)
 clear h1 hb1
 go_wp2_with fail
 refine(zn w1 x.st x.d x.K x.R x.q0 x.s0 x.la0 lg x.A x.K x.cp x.pl H1.out.1.sto (by omega)).mono ?_
 rintro u w2 ⟨A2,c2,rfl,-,-,hb2⟩
 unfold aP
 have H2:=zh (V.ay H1.out.2 hb2)
 clear hb2
 go_wp2_with fail
 go_ret
 exact⟨rfl,H2.out⟩
theorem Gv{B:Nat}{w0 w:World}{e:Nat}{lg:Int}{room limit most:Nat}{x:dQ}(h:bJ B w0 w e lg room limit most x): Calls Tryz.prog 19 #[.pointer (some ⟨e,0,none⟩)] w fun u w'=>(∃ (a:Int) (b:Bool),u=.returned (.tuple #[.int .i64 a,.bool b]))∧Below w.heap.size w w':=by
 have HD:=zh h
 clear h
 go_enter Tryz.func19,Tryz.ntmps19
 go_wp2_with fail
 refine HD.out.none.mono ?_
 rintro u w1 ⟨rfl,hb1⟩
 have h1:=HD.out.call hb1
 have z4:w1.cell? ⟨e,4,none⟩=some (.bool x.s):=h1.blk.cell 4
 have z5:w1.cell? ⟨e,5,none⟩=some (.int .i64 x.la):=h1.blk.cell 5
 have z6:w1.cell? ⟨e,6,none⟩=some (.int .i64 lg):=h1.blk.cell 6
 have H1:=zh (zN h1 hb1)
 clear h1 hb1
 go_wp2_with fail
 refine(V.AU x.s x.la lg w1).mono ?_
 rintro u w2 ⟨rfl,hb2⟩
 have H2:=zh (V.ay H1.out.2 hb2)
 clear hb2
 go_wp2_with fail
 go_ret2
 exact⟨⟨_,_,rfl⟩,H2.out⟩
theorem Nb{B:Nat}{w0 w:World}{e:Nat}{lg:Int}{room limit most:Nat}{x:dQ}(h:bJ B w0 w e lg room limit most x): Calls Tryz.prog 41 #[.pointer (some ⟨e,0,none⟩)] w fun u w'=>u=.returned (.int .i64 (-1152921504606846976))∧Below w.heap.size w w':=by
 have HD:=zh h
 have nt:∀ w:World,(Op.unary .not (.bool true)).run Tryz.prog w=.ok (.bool false) w:=fF
 have nf:∀ w:World,(Op.unary .not (.bool false)).run Tryz.prog w=.ok (.bool true) w:=jV
 clear h
 go_enter Tryz.func41,Tryz.ntmps41
 go_wp2_with fail
 refine(Gv HD.out).mono ?_
 rintro u w1 ⟨⟨a,b,rfl⟩,hb1⟩
 have H1:=zh (zN (HD.out.call hb1) hb1)
 clear hb1
 go_wp2_with fail
 refine H1.out.1.none.mono ?_
 rintro u w2 ⟨rfl,hb2⟩
 have h2:=H1.out.1.call hb2
 have z0:w2.cell? ⟨e,0,none⟩=some (.int .i64 (-1)):=h2.blk.cell 0
 have H2:=zh (V.ay H1.out.2 hb2)
 clear hb2 h2
 cases b with
 | false=>
  go_wp2_with fail
  go_ret
  exact⟨rfl,H2.out⟩
 | true=>
  go_wp2_with fail
  go_ret
  exact⟨rfl,H2.out⟩
end
section
open Go.RowKit Go.Maps
section
variable {w:World} {e:Nat} {lg:Int} {x:dQ}
theorem QI(h:au w e 81 (eY x lg)): w.cell? ⟨e,1,none⟩=some (.pointer (some ⟨x.st,0,none⟩)):=h.cell 1
theorem KA(h:au w e 81 (eY x lg)): w.cell? ⟨e,2,none⟩=some (.pointer (some ⟨x.l,0,none⟩)):=h.cell 2
theorem wK(h:au w e 81 (eY x lg)): w.cell? ⟨e,3,none⟩=some (.pointer (some ⟨x.t,0,none⟩)):=h.cell 3
theorem wD(h:au w e 81 (eY x lg)): w.cell? ⟨e,4,none⟩=some (.bool x.s):=h.cell 4
theorem vY(h:au w e 81 (eY x lg)): w.cell? ⟨e,5,none⟩=some (.int .i64 x.la):=h.cell 5
theorem wJ(h:au w e 81 (eY x lg)): w.cell? ⟨e,6,none⟩=some (.int .i64 lg):=h.cell 6
theorem JN(h:au w e 81 (eY x lg)): w.cell? ⟨e,7,none⟩=some (.int .i64 (x.q:Nat)):=h.cell 7
theorem Kc(h:au w e 81 (eY x lg)): w.cell? ⟨e,8,none⟩=some (.bool false):=h.cell 8
end
theorem Bp{w:World}{base:Nat}{A:Option Addr}{c:Nat}{tm:Int}(h:w.ownsRow base 3 1 (.slice A 1 c) 1 [.int .i64 tm]): Sl w (fun k=>k < w.heap.size) A 1 (fun _=>.int .i64 tm):=by
 refine(Sl.lQ h ?_).mono (fun k hk=>(h.lt k hk).2)
 intro q u hu
 cases q with
 | zero=>simp at hu;exact hu.symm
 | succ q=>simp at hu
theorem BL{s:Bool}{la lg tm:Int}(h:s=true→V.oU s la lg≤tm): V.oZ (V.uU s la lg) (V.oU s la lg) (fun _=>tm) 1 0 = -1:=by
 unfold V.oZ V.oZ
 rw[if_neg]
 intro hc
 rw[Bool.and_eq_true,decide_eq_true_eq] at hc
 have hs:s=true:=by
  have:=hc.1
  unfold V.uU at this
  rw[Bool.and_eq_true] at this
  exact this.2
 have:=h hs
 omega
theorem wR{B:Nat}{w0 w:World}{e:Nat}{lg:Int}{room limit most:Nat}{x:dQ}(h:bJ B w0 w e lg room limit most x)(D:Nat→Prop)(Ab:Option Addr)(cb:Nat)(tm v:Int)(hO:jN w D Ab tm v)(htm:gD tm)(hlt:∀ j,j < x.n→(x.L.getD j ⟨0,0,0⟩).t < tm)(hlate:x.s=true→V.oU x.s x.la lg≤tm)(hm:most≤1000)(r:Int)(hr:(x.n < most∧r=0)∨(most≤x.n∧r=22)):
  Calls Tryz.prog 29 #[.pointer (some ⟨e,0,none⟩),.slice Ab 1 cb] w fun u w'=>u=.returned (.int .i64 r)∧Below w.heap.size w w':=by
 have HD:=zh (zN h (zN hO (zN htm hlt)))
 have hll:=BL hlate
 have nt:∀ w:World,(Op.unary .not (.bool true)).run Tryz.prog w=.ok (.bool false) w:=fF
 have nf:∀ w:World,(Op.unary .not (.bool false)).run Tryz.prog w=.ok (.bool true) w:=jV
 clear h hO hlt hlate
 go_enter Tryz.func29,Tryz.ntmps29
 go_wp2_with fail
 refine(Dk w D Ab cb tm v HD.out.2.1 HD.out.2.2.1).mono ?_
 rintro u w1 ⟨rfl,hb1⟩
 have H1:=zh hb1
 clear hb1
 go_wp2_with fail
 have hS:Below w.heap.size w w1.drew:=V.ay H1.out (Below.refl _ _).drew
 have hS:(fun wx=>Below w.heap.size w wx) (w1.drew):=hS
 refine av (fun wx=>Below w.heap.size w wx) (by kernel_rfl) hS ?_
 refine zB [0,1,2,3,4] ?_
 iterate 5 (refine zV ?_ ?_ hS ?_;rotate_left;(intro w' hSw;have hQ:=(HD.out.1.call hSw).blk;have z4:=wD hQ;have z5:=vY hQ;have z6:=wJ hQ;clear hQ;go_simp<;>with_reducible rfl);try simp only[zP])
 refine zE ?_
 refine zC 5 fun K HK=>?_
 go_simp
 refine(qY w1.drew D Ab cb tm v (HD.out.2.1.call hS)).mono ?_
 rintro u w2 ⟨A2,c2,rfl,hr2,hb2⟩
 have hb12:Below w.heap.size w w2:=V.ay hS hb2
 have H2:=zh (zN hr2 hb12)
 clear hr2 hb2 hb12
 go_wp2_with fail
 refine HK.out.zt (fun wx=>Below w.heap.size w wx) (fun _ h=>h) (H2.out.2) ?_
 clear HK hS
 intro hS
 try simp only[zP]
 have c6:=V.OU x.s x.la lg w2 A2 1 c2 (fun _=>tm) (Bp H2.out.1) (by omega)
 rw[hll] at c6
 refine zC 6 fun K HK=>?_
 go_simp
 refine(c6).mono ?_
 rintro u w3 ⟨rfl,hb3⟩
 have hb13:Below w.heap.size w w3:=V.ay H2.out.2 hb3
 clear c6 hb3
 go_wp2_with fail
 refine HK.out.zt (fun wx=>Below w.heap.size w wx) (fun _ h=>h) (hb13) ?_
 clear HK hS
 intro hS
 try simp only[zP]
 refine zB [7,8] ?_
 iterate 2 (refine zV ?_ ?_ hS ?_;rotate_left;(intro w' hSw;go_simp<;>with_reducible rfl);try simp only[zP])
 refine zE ?_
 refine zD ?_
 try simp only[zP]
 have H3:=zh hS
 have z3:=wK (HD.out.1.call hS).blk
 clear hS hb13
 go_wp2_with fail
 refine(Jt w3 x.t x.Mt x.At x.ct x.L x.n most x.U Ab cb tm v D (HD.out.1.call H3.out).tab (HD.out.2.1.call H3.out) HD.out.1.nm hm (by have:=HD.out.2.2.1;unfold gD at this;unfold dS;omega) HD.out.2.2.2).mono ?_
 rintro u w4 ⟨rfl,hb4⟩
 have H4:=zh (V.ay H3.out hb4)
 clear hb4
 rcases hr with ⟨hf,rfl⟩ | ⟨hf,rfl⟩
 ·rw[decide_eq_true hf]
  clear hf
  go_wp2_with fail
  go_ret
  exact⟨rfl,H4.out⟩
 ·rw[decide_eq_false (Nat.not_lt.mpr hf)]
  clear hf
  go_wp2_with fail
  go_ret
  exact⟨rfl,H4.out⟩
def yB(x:dQ)(w:World)(e:Nat)(lg:Int)(most:Nat)(tm v:Int)(u:Ending)(w':World): Prop:=
 u=.returned (.tuple #[])∧∃ A' cp',eB w' x.t x.Mt A' cp' (x.L ++ [⟨tm,v,(x.q:Nat)⟩]) (x.n+1) most (x.U+1)∧au w' e 81 (eY { x with s:=true,la:=tm,q:=x.q+1 } lg)∧Keeps (fun r=>dM x.t x.Mt x.At r∨r=e) w w'∧(∀ r,r < w.heap.size→dM x.t x.Mt A' r→dM x.t x.Mt x.At r)
theorem OW{s:Bool}{la lg tm:Int}(hr:V.dh s la lg=true)(ht:gD tm)(hf:s=true→la≤tm): V.kQ (V.dh s la lg) (fun _=>tm) 1=true∧(V.iM s la (fun _=>tm) 1)=(true,tm):=by
 unfold gD at ht
 refine⟨?_,?_⟩
 ·unfold V.kQ V.kQ V.fI
  rw[hr]
  simp
  omega
 ·unfold V.iM V.iM
  by_cases h:((!s) || decide (la < tm))=true
  ·simp only[h,if_true]
  ·rw[if_neg h]
   simp at h
   have:=hf h.1
   rw[h.1]
   congr 1
   omega
theorem JY{B:Nat}{w0 w:World}{e:Nat}{lg:Int}{room limit most:Nat}{x:dQ}(h:bJ B w0 w e lg room limit most x)(D:Nat→Prop)(Ab:Option Addr)(cb:Nat)(tm v:Int)(hO:jN w D Ab tm v)(hD:∀ r,D r→¬ (dM x.t x.Mt x.At r∨r=e))(htm:gD tm)(hlt:∀ j,j < x.n→(x.L.getD j ⟨0,0,0⟩).t < tm)(hri:Ku x.L)(hfw:x.s=true→x.la≤tm)(hnm:x.n < most)(hm:most≤1000)(hU:x.U < 1000000)(hq:x.q < 1000000):
  Calls Tryz.prog 30 #[.pointer (some ⟨e,0,none⟩),.slice Ab 1 cb] w (yB x w e lg most tm v):=by
 obtain⟨b,off,rfl,hc⟩:=hO.cells
 have HD:=zh (zN h (zN hO (zN hD (zN hlt hri))))
 have hnt:=OW h.mark htm hfw
 have HC:=zh hc
 clear h hO hD hlt hri hfw hc
 go_enter Tryz.func30,Tryz.ntmps30
 go_wp2_with fail
 go_loopw [8] (fun i wr=>(i=.int .i64 0∧Below w.heap.size w wr)∨(i=.int .i64 1∧∃ A' cp',eB wr x.t x.Mt A' cp' (x.L ++ [⟨tm,v,(x.q:Nat)⟩]) (x.n+1) most (x.U+1)∧Stp w wr (dM x.t x.Mt x.At) (dM x.t x.Mt A'))) (fun i _=>1-(intOf i).toNat)
 case atStart=>exact .inl ⟨rfl,Below.refl _ _⟩
 case round=>
  rcases hrel with ⟨rfl,hb⟩ | ⟨rfl,A',cp',hT,hst⟩
  ·obtain ⟨u0,u1,u2⟩:=HC.out wr hb
   have HB:=zh hb
   clear hb
   go_upto_region 3 with (fail)
   obtain⟨y,hy⟩:∃ y,y=wr.heap.size:=⟨_,rfl⟩
   rw[←hy]
   refine aH (Own w [(y,35,#[.string bD,.int .i64 tm,.int .i64 v])]) (((Own.start w).call HB.out).alloc hy _ _) ?_
   intro w2 h2
   have hq2:=HD.out.1.call h2.bel
   have hS:au w2.drew e 81 (eY x lg)∧au w2.drew y 35 #[.string bD,.int .i64 tm,.int .i64 v]:=⟨(HD.out.1.call h2.drew.bel).blk,h2.drew.get 0 rfl⟩
   have H2:=zh (zN hS h2.drew.bel)
   clear h2 hq2 hy u0 u1 u2
   have hS:(fun wx=>au wx e 81 (eY x lg)∧au wx y 35 #[.string bD,.int .i64 tm,.int .i64 v]) (w2.drew):=hS
   refine av (fun wx=>au wx e 81 (eY x lg)∧au wx y 35 #[.string bD,.int .i64 tm,.int .i64 v]) (by kernel_rfl) hS ?_
   refine zB [0,1,2,3,4,5,6,7,8,9,10,11,12,13,14] ?_
   iterate 15 (refine zV ?_ ?_ hS ?_;rotate_left;(intro w' hSw;have z3:=wK hSw.1;have z7:=JN hSw.1;have u0:=hSw.2.cell 0;have u1:=hSw.2.cell 1;have u2:=hSw.2.cell 2;go_simp<;>with_reducible rfl);try simp only[zP])
   refine zE ?_
   have cc:=La w2.drew x.t x.Mt x.At x.ct x.L x.n most x.U ⟨tm,v,(x.q:Nat)⟩ (HD.out.1.call H2.out.2).tab HD.out.2.2.2.1 HD.out.2.2.2.2 hnm hm hU
   refine zC 15 fun K HK=>?_
   go_simp
   refine(cc).mono ?_
   rintro u w3 ⟨rfl,A3,cp3,hT3,hst3⟩
   have hk3:au w3 e 81 (eY x lg)∧au w3 y 35 #[.string bD,.int .i64 tm,.int .i64 v]:=by
    have hE2:=HD.out.1.call H2.out.2
    refine⟨H2.out.1.1.keeps hst3.keep (fun hf=>hE2.te _ hf rfl),H2.out.1.2.keeps hst3.keep (fun hf=>?_)⟩
    have a:=kU hE2.tab hf
    rw[bZ H2.out.1.2] at a
    rcases a with a | a
    ·exact absurd a (by decide)
    ·exact absurd a.2 (by decide)
   have H3:=zh (zN hT3 ((Stp.of_below (dM x.t x.Mt x.At) H2.out.2).trans hst3))
   clear hT3 hst3 cc
   go_wp2_with fail
   refine HK.out.zt (fun wx=>au wx e 81 (eY x lg)∧au wx y 35 #[.string bD,.int .i64 tm,.int .i64 v]) (fun _ h=>h) (hk3) ?_
   clear HK hS
   intro hS
   try simp only[zP]
   refine zD ?_
   try simp only[zP]
   clear hk3 hS
   go_wp2_with fail
   go_roundw
   case rel=>exact .inr ⟨rfl,A3,cp3,H3.out.1,H3.out.2⟩
   case measure=>simp[intOf]
  ·have hE:=HD.out.1
   have hb1:au wr e 81 (eY x lg):=hE.blk.keeps hst.keep (fun hf=>hE.te _ hf rfl)
   have z7:=JN hb1
   have zf:=hb1.frozen
   have H1:=zh (zN hT (zN hst hb1))
   clear hT hst hb1 hE
   go_upto_region 6 with (fail)
   obtain⟨w2,hw2⟩:∃ wz,wz=wr.setCell ⟨e,7,none⟩ (.int .i64 ((x.q:Int)+1)):=⟨_,rfl⟩
   rw[←hw2]
   have hb2:=H1.out.2.2.set 7 (.int .i64 ((x.q:Int)+1))
   rw[←hw2] at hb2
   have hk2:Keeps (fun r=>r=e) wr w2:=by rw[hw2];exact (Keeps.refl (fun r=>r=e) wr).setCell (fun _=>rfl) _
   have hb2':au w2 e 81 (eY { x with q:=x.q+1 } lg):=hb2
   have hS:Keeps (fun r=>r=e) w2 w2.drew:=(Keeps.refl _ w2).drew
   have hb3:au w2.drew e 81 (eY { x with q:=x.q+1 } lg):=hb2'.below (Below.refl _ _).drew hb2'.lt
   have hO3:jN w2.drew D (some ⟨b,off,none⟩) tm v:=by
    refine HD.out.2.1.keep (S:=fun r=>dM x.t x.Mt x.At r∨r=e) ?_ (fun q hq=>HD.out.2.2.1 q hq)
    exact((H1.out.2.1.keep.mono (fun q _ h=>.inl h)).trans' (hk2.mono (fun q _ h=>.inr h))).trans' (hS.mono (fun q _ h=>.inr h))
   have z4:=wD hb3
   have z5:=vY hb3
   have z6:=wJ hb3
   have HW:=zh (zN hk2 (zN hb3 hO3))
   clear hb2 hb2' hb3 hO3 hk2 z7 zf hw2
   have hS:(fun wx=>Keeps (fun r=>r=e) w2 wx) (w2.drew):=hS
   refine av (fun wx=>Keeps (fun r=>r=e) w2 wx) (by kernel_rfl) hS ?_
   refine zB [0,1,2,3,5] ?_
   iterate 5 (refine zV ?_ ?_ hS ?_;rotate_left;(intro w' hSw;go_simp<;>with_reducible rfl);try simp only[zP])
   refine zE ?_
   refine jk (i:=4) (j:=6) rfl rfl (by kernel_rfl) (fun K hK=>?_) (fun K hK=>?_)
   ·skip
    have HK:=zh hK
    clear hK
    go_simp
    go_wp2_with fail
    refine HK.out.zt (fun wx=>Keeps (fun r=>r=e) w2 wx) (fun _ h=>h) (hS) ?_
    clear HK hS
    intro hS
    try simp only[zP]
    refine zC 6 fun K HK=>?_
    go_simp
    refine(qY w2.drew D (some ⟨b,off,none⟩) cb tm v HW.out.2.2).mono ?_
    rintro u w3 ⟨A3,c3,rfl,hr3,hb3⟩
    have H3:=zh (zN hr3 hb3)
    have hk3:Keeps (fun r=>r=e) w2 w3:=hS.trans' (Keeps.of_below hb3)
    clear hr3 hb3
    go_wp2_with fail
    refine HK.out.zt (fun wx=>Keeps (fun r=>r=e) w2 wx) (fun _ h=>h) (hk3) ?_
    clear HK hS
    intro hS
    try simp only[zP]
    have c7:=V.Dz x.s x.la lg w3 A3 1 c3 (fun _=>tm) (Bp H3.out.1) (by omega)
    refine zC 7 fun K HK=>?_
    go_simp
    refine(c7).mono ?_
    rintro u w4 ⟨hu4,hb4⟩
    rw[if_pos hnt.1,hnt.2] at hu4
    subst hu4
    have hb34:=V.ay H3.out.2 hb4
    have hk4:Keeps (fun r=>r=e) w2 w4:=hS.trans' (Keeps.of_below hb4)
    have hb4e:=HW.out.2.1.below hb34 HW.out.2.1.lt
    have zf:=hb4e.frozen
    have x4:=wD hb4e
    have x5:=vY hb4e
    have x6:=wJ hb4e
    have H4:=zh (zN hb34 hb4e)
    clear hb34 hb4e c7 hb4
    go_wp2_with fail
    refine HK.out.zt (fun wx=>Keeps (fun r=>r=e) w2 wx) (fun _ h=>h) (hk4) ?_
    clear HK hS
    intro hS
    try simp only[zP]
    refine zB [8,9,10,11,12] ?_
    iterate 5 (refine zV ?_ ?_ hS ?_;rotate_left;(intro w' hSw;go_simp<;>with_reducible rfl);try simp only[zP])
    refine zE ?_
    refine zC 13 fun K HK=>?_
    go_simp
    obtain⟨w5,hw5⟩:∃ wz,wz=(((w4.setCell ⟨e,4,none⟩ (.bool true)).setCell ⟨e,5,none⟩ (.int .i64 tm)).setCell ⟨e,6,none⟩ (.int .i64 lg)):=⟨_,rfl⟩
    rw[←hw5]
    have hk45:Keeps (fun r=>r=e) w4 w5:=by rw[hw5];exact jT [.bool true,.int .i64 tm,.int .i64 lg] 4 w4
    have hb5:=nZ [.bool true,.int .i64 tm,.int .i64 lg] 4 w4 _ H4.out.2
    have hw5':w5=setFrom w4 e 4 [.bool true,.int .i64 tm,.int .i64 lg]:=hw5
    rw[←hw5'] at hb5
    have hk5:Keeps (fun r=>r=e) w2 w5:=hk4.trans' hk45
    have H5:=zh (zN hb5 hk5)
    clear hk45 hb5 hw5' hw5 zf x4 x5 x6
    go_wp2_with fail
    refine HK.out.zt (fun wx=>Keeps (fun r=>r=e) w2 wx) (fun _ h=>h) (hk5) ?_
    clear HK hS
    intro hS
    try simp only[zP]
    refine zD ?_
    try simp only[zP]
    clear hS hk5 hk4
    go_wp2_with fail
    refine bodyPost_end (v:=.tuple #[]) (by simp[results,Tryz.results30,go_sem]) rfl ?_
    have hE:=HD.out.1
    have hk2:Keeps (fun r=>r=e) wr w5:=HW.out.1.trans' H5.out.2
    refine⟨rfl,A',cp',H1.out.1.keep hk2 (fun q hq hf=>?_),H5.out.1,(H1.out.2.1.keep.mono (fun q _ h=>.inl h)).trans' (hk2.mono (fun q _ h=>.inr h)),H1.out.2.1.far⟩
    have a:=kU H1.out.1 hq
    rw[hf,bZ H1.out.2.2] at a
    rcases a with a | a
    ·exact absurd a (by decide)
    ·exact absurd a.2 (by decide)
   ·skip
    have HK:=zh hK
    clear hK
    go_simp
    refine(qY w2.drew D (some ⟨b,off,none⟩) cb tm v HW.out.2.2).mono ?_
    rintro u w3 ⟨A3,c3,rfl,hr3,hb3⟩
    have hk3:Keeps (fun r=>r=e) w2 w3:=hS.trans' (Keeps.of_below hb3)
    have hbe:=HW.out.2.1.below hb3 HW.out.2.1.lt
    have y4:=wD hbe
    have y5:=vY hbe
    have y6:=wJ hbe
    have H3:=zh (zN hr3 hb3)
    clear hr3 hb3 hbe
    go_wp2_with fail
    refine HK.out.zt (fun wx=>Keeps (fun r=>r=e) w2 wx) (fun _ h=>h) (hk3) ?_
    clear HK hS
    intro hS
    try simp only[zP]
    refine zC 4 fun K HK=>?_
    go_simp
    go_wp2_with fail
    refine HK.out.zt (fun wx=>Keeps (fun r=>r=e) w2 wx) (fun _ h=>h) (hk3) ?_
    clear HK hS
    intro hS
    try simp only[zP]
    have c7:=V.Dz x.s x.la lg w3 A3 1 c3 (fun _=>tm) (Bp H3.out.1) (by omega)
    refine zC 7 fun K HK=>?_
    go_simp
    refine(c7).mono ?_
    rintro u w4 ⟨hu4,hb4⟩
    rw[if_pos hnt.1,hnt.2] at hu4
    subst hu4
    have hb34:=V.ay H3.out.2 hb4
    have hk4:Keeps (fun r=>r=e) w2 w4:=hS.trans' (Keeps.of_below hb4)
    have hb4e:=HW.out.2.1.below hb34 HW.out.2.1.lt
    have zf:=hb4e.frozen
    have x4:=wD hb4e
    have x5:=vY hb4e
    have x6:=wJ hb4e
    have H4:=zh (zN hb34 hb4e)
    clear hb34 hb4e c7 hb4
    go_wp2_with fail
    refine HK.out.zt (fun wx=>Keeps (fun r=>r=e) w2 wx) (fun _ h=>h) (hk4) ?_
    clear HK hS
    intro hS
    try simp only[zP]
    refine zB [8,9,10,11,12] ?_
    iterate 5 (refine zV ?_ ?_ hS ?_;rotate_left;(intro w' hSw;go_simp<;>with_reducible rfl);try simp only[zP])
    refine zE ?_
    refine zC 13 fun K HK=>?_
    go_simp
    obtain⟨w5,hw5⟩:∃ wz,wz=(((w4.setCell ⟨e,4,none⟩ (.bool true)).setCell ⟨e,5,none⟩ (.int .i64 tm)).setCell ⟨e,6,none⟩ (.int .i64 lg)):=⟨_,rfl⟩
    rw[←hw5]
    have hk45:Keeps (fun r=>r=e) w4 w5:=by rw[hw5];exact jT [.bool true,.int .i64 tm,.int .i64 lg] 4 w4
    have hb5:=nZ [.bool true,.int .i64 tm,.int .i64 lg] 4 w4 _ H4.out.2
    have hw5':w5=setFrom w4 e 4 [.bool true,.int .i64 tm,.int .i64 lg]:=hw5
    rw[←hw5'] at hb5
    have hk5:Keeps (fun r=>r=e) w2 w5:=hk4.trans' hk45
    have H5:=zh (zN hb5 hk5)
    clear hk45 hb5 hw5' hw5 zf x4 x5 x6
    go_wp2_with fail
    refine HK.out.zt (fun wx=>Keeps (fun r=>r=e) w2 wx) (fun _ h=>h) (hk5) ?_
    clear HK hS
    intro hS
    try simp only[zP]
    refine zD ?_
    try simp only[zP]
    clear hS hk5 hk4
    go_wp2_with fail
    refine bodyPost_end (v:=.tuple #[]) (by simp[results,Tryz.results30,go_sem]) rfl ?_
    have hE:=HD.out.1
    have hk2:Keeps (fun r=>r=e) wr w5:=HW.out.1.trans' H5.out.2
    refine⟨rfl,A',cp',H1.out.1.keep hk2 (fun q hq hf=>?_),H5.out.1,(H1.out.2.1.keep.mono (fun q _ h=>.inl h)).trans' (hk2.mono (fun q _ h=>.inr h)),H1.out.2.1.far⟩
    have a:=kU H1.out.1 hq
    rw[hf,bZ H1.out.2.2] at a
    rcases a with a | a
    ·exact absurd a (by decide)
    ·exact absurd a.2 (by decide)
end
section
open Go.RowKit Go.Maps
theorem G7(i j:Nat): bU 115 i≠bU 119 j:=fun e=>by
 have h:=congrArg (fun s=>s.data[0]?) e
 unfold bU bY at h
 simp at h
theorem Me{K:Nat}{pl:Nat→List Pt}{L:List Pt}{tm:Int}(h:∀ p ∈ aQ pl K ++ L,p.t < tm)(j:Nat)(hj:j < L.length): (L.getD j ⟨0,0,0⟩).t < tm:=by
 rw[List.getD_eq_getElem?_getD,List.getElem?_eq_getElem hj]
 exact h _ (List.mem_append_right _ (List.getElem_mem hj))
theorem Mf{a L:List Pt}(h:Inc (a ++ L)): Ku L:=fun j hj=>by
 have h2:=(List.pairwise_append.1 h).2.1
 rw[List.getD_eq_getElem?_getD,List.getElem?_eq_getElem (by omega),List.getD_eq_getElem?_getD,List.getElem?_eq_getElem hj]
 exact List.pairwise_iff_getElem.1 h2 j (j+1) _ _ (by omega)
theorem OG{a L:List Pt}{p:Pt}(h:Inc (a ++ L))(hp:∀ x ∈ a ++ L,x.t < p.t): Inc (a ++ (L ++ [p])):=by
 rw[←List.append_assoc]
 refine List.pairwise_append.2 ⟨h,List.pairwise_singleton _ _,?_⟩
 intro x hx y hy
 rw[List.mem_singleton] at hy
 rw[hy]
 exact hp x hx
theorem bJ.logged{B:Nat}{w0 w w':World}{e:Nat}{lg:Int}{room limit most:Nat}{x:dQ}(h:bJ B w0 w e lg room limit most x){p':ByteArray→Option FS}{T' G':Nat}{Al:Option Addr}{cl:Nat}{fs:Nat→Nat}{kl sz nx:Nat}(hs:fG w w' x.d x.M x.p p' x.l x.Al Al)(hd:bq w' x.d x.M p' room T' G')(hl:bL w' x.l x.d limit Al cl fs kl sz nx false)(hf:∀ t,(∀ j,t≠bU 119 j)→fb p' t=fb x.p t)(hfs:∀ j,j < kl→fs j < 1000000)(hnx:x.nx≤nx):
  bJ B w0 w' e lg room limit most { x with p:=p',T:=T',G:=G',Al:=Al,cl:=cl,fs:=fs,kl:=kl,sz:=sz,nx:=nx } where
 blk:=h.blk.keeps hs.keep (fun hr=>hr.elim (fun hr=>h.de _ hr rfl) (fun hr=>h.le _ hr rfl))
 dt:=hd
 sto:=h.sto.keep hs.keep (fun q hq hr=>hr.elim (fun hr=>h.ds _ hr hq) (fun hr=>h.sl _ hq hr))
 log:=hl
 tab:=h.tab.keep hs.keep (fun q hq hr=>hr.elim (fun hr=>h.QF _ hr hq) (fun hr=>h.lt _ hr hq))
 mne:=h.mne
 lo:=by
  intro r hr
  rcases Nat.lt_or_ge r w.heap.size with hlt | hge
  ·refine h.lo r ?_
   rcases hr with hr | hr | hr | hr | hr
   ·exact .inl (hs.dfar r hlt hr)
   ·exact .inr (.inl hr)
   ·exact .inr (.inr (.inl (hs.lfar r hlt hr)))
   ·exact .inr (.inr (.inr (.inl hr)))
   ·exact .inr (.inr (.inr (.inr hr)))
  ·exact Nat.le_trans h.size hge
 bel:=h.bel.trans (hs.keep.below h.size (fun k hk hr=>by
  have:B≤k:=h.lo k (hr.elim .inl (fun hr=>.inr (.inr (.inl hr))))
  omega))
 hB:=h.hB
 fso:=fun j hj=>(hf _ (G7 j)).trans (h.fso j hj)
 noN:=(hf _ (fun j e=>rR (j:=j) (by rfl) 119 e.symm)).trans h.noN
 noS:=fun j hj hj2=>(hf _ (G7 j)).trans (h.noS j hj hj2)
 plo:=h.plo
 inc:=h.inc
 sm:=h.sm
 mark:=h.mark
 fwd:=h.fwd
 rn:=Nat.le_trans h.rn hnx
 qq:=h.qq
 fsl:=hfs
 nm:=h.nm
 he:=h.he
theorem bJ.taken{B:Nat}{w0 w w':World}{e:Nat}{lg:Int}{room limit most:Nat}{x:dQ}(h:bJ B w0 w e lg room limit most x){A':Option Addr}{cp':Nat}{tm v:Int}(ht:eB w' x.t x.Mt A' cp' (x.L ++ [⟨tm,v,(x.q:Nat)⟩]) (x.n+1) most (x.U+1))(hb:au w' e 81 (eY { x with s:=true,la:=tm,q:=x.q+1 } lg))(hk:Keeps (fun r=>dM x.t x.Mt x.At r∨r=e) w w')(hf:∀ r,r < w.heap.size→dM x.t x.Mt A' r→dM x.t x.Mt x.At r)(htm:0≤tm∧tm≤1000000)(hv:0≤v∧v≤1000000)(hq:x.q≤1000000)(hlt:∀ p ∈ aQ x.pl x.K ++ x.L,p.t < tm)(hfw:x.s=true→x.la≤tm)(hnm:x.n < most):
  bJ B w0 w' e lg room limit most { x with At:=A',ct:=cp',L:=x.L ++ [⟨tm,v,(x.q:Nat)⟩],n:=x.n+1,U:=x.U+1,s:=true,la:=tm,q:=x.q+1 } where
 blk:=hb
 dt:=h.dt.keep hk (fun q hq hr=>hr.elim (fun hr=>h.QF _ hq hr) (fun hr=>h.de _ hq hr))
 sto:=h.sto.keep hk (fun q hq hr=>hr.elim (fun hr=>h.S9 _ hq hr) (fun hr=>h.se _ hq hr))
 log:=h.log.keep hk (fun q hq hr=>hr.elim (fun hr=>h.lt _ hq hr) (fun hr=>h.le _ hq hr))
 tab:=ht
 mne:=h.mne
 lo:=by
  intro r hr
  rcases Nat.lt_or_ge r w.heap.size with hlt | hge
  ·refine h.lo r ?_
   rcases hr with hr | hr | hr | hr | hr
   ·exact .inl hr
   ·exact .inr (.inl hr)
   ·exact .inr (.inr (.inl hr))
   ·exact .inr (.inr (.inr (.inl (hf r hlt hr))))
   ·exact .inr (.inr (.inr (.inr hr)))
  ·exact Nat.le_trans h.size hge
 bel:=h.bel.trans (hk.below h.size (fun k hk hr=>by
  have:B≤k:=h.lo k (hr.elim (fun hr=>.inr (.inr (.inr (.inl hr)))) (fun hr=>.inr (.inr (.inr (.inr hr)))))
  omega))
 hB:=h.hB
 fso:=h.fso
 noN:=h.noN
 noS:=h.noS
 plo:=h.plo
 inc:=OG h.inc hlt
 sm:=by
  intro p hp
  rcases List.mem_append.1 hp with hp | hp
  ·exact h.sm p hp
  ·rw[List.mem_singleton] at hp
   subst hp
   exact⟨htm,hv,by show (0:Int)≤((x.q:Nat):Int);omega,by show ((x.q:Nat):Int)≤1000000;omega⟩
 mark:=by
  have:=h.mark
  unfold V.dh V.fI at this ⊢
  simp at this ⊢
  omega
 fwd:=by
  rcases h.fwd with h1 | ⟨h1,h2⟩
  ·exact .inl h1
  ·exact .inr ⟨rfl,Int.le_trans h2 (hfw h1)⟩
 rn:=h.rn
 qq:=Nat.le_succ_of_le h.qq
 fsl:=h.fsl
 nm:=hnm
 he:=h.he
theorem ET{B:Nat}{w0 w:World}{e:Nat}{lg:Int}{room limit most:Nat}{x:dQ}(h:bJ B w0 w e lg room limit most x)(D:Nat→Prop)(Ab:Option Addr)(cb:Nat)(tm v:Int)(hO:jN w D Ab tm v)(htm:0≤tm∧tm≤1000000)(hlt:∀ p ∈ aQ x.pl x.K ++ x.L,p.t < tm)(hlate:x.s=true→V.oU x.s x.la lg≤tm)(hm:most≤1000)(hfull:most≤x.n):
  Calls Tryz.prog 9 #[.pointer (some ⟨e,0,none⟩),.slice Ab 1 cb] w fun u w'=>u=.returned (.int .i64 22)∧Below w.heap.size w w':=by
 have ht:gD tm:=by unfold gD;omega
 have hll:∀ j,j < x.n→(x.L.getD j ⟨0,0,0⟩).t < tm:=fun j hj=>Me hlt j (by rw[h.tab.len];exact hj)
 have HD:=zh (zN h (zN hO (zN hll hlate)))
 clear h hO hlt hlate hll
 go_enter Tryz.func9,Tryz.ntmps9
 go_wp2_with fail
 refine HD.out.1.none.mono ?_
 rintro u w1 ⟨rfl,hb1⟩
 have h1:=HD.out.1.call hb1
 have z8:=Kc h1.blk
 have H1:=zh (zN h1 hb1)
 clear h1 hb1
 go_wp2_with fail
 refine(wR H1.out.1 D Ab cb tm v (HD.out.2.1.call H1.out.2) ht HD.out.2.2.1 HD.out.2.2.2 hm 22 (.inr ⟨hfull,rfl⟩)).mono ?_
 rintro u w2 ⟨rfl,hb2⟩
 have H2:=zh (V.ay H1.out.2 hb2)
 clear hb2
 go_wp2_with fail
 go_ret
 exact⟨rfl,H2.out⟩
def Ju(B:Nat)(w0 w:World)(e:Nat)(lg:Int)(room limit most:Nat)(x:dQ)(tm v:Int)(u:Ending)(w':World): Prop:=
 u=.returned (.int .i64 0)∧∃ p' Al cl fs kl sz At ct,kl≤x.kl+1∧sz≤x.sz+72∧
  bJ B w0 w' e lg room limit most { x with p:=p',T:=x.T+72,G:=x.G+2,Al:=Al,cl:=cl,fs:=fs,kl:=kl,sz:=sz,nx:=x.nx+1,At:=At,ct:=ct,L:=x.L ++ [⟨tm,v,(x.q:Nat)⟩],n:=x.n+1,U:=x.U+1,s:=true,la:=tm,q:=x.q+1 }
theorem xD{B:Nat}{w0 w:World}{e:Nat}{lg:Int}{room limit most:Nat}{x:dQ}(h:bJ B w0 w e lg room limit most x)(D:Nat→Prop)(Ab:Option Addr)(cb:Nat)(tm v:Int)(hO:jN w D Ab tm v)(hD:∀ r,D r→¬ IX x e r)(htm:0≤tm∧tm≤1000000)(hv:0≤v∧v≤1000000)(hlt:∀ p ∈ aQ x.pl x.K ++ x.L,p.t < tm)(hlate:x.s=true→V.oU x.s x.la lg≤tm)(hfw:x.s=true→x.la≤tm)(hnm:x.n < most)(hm:most≤1000)(hU:x.U < 1000000)(hq:x.q < 1000000)(hT:x.T+72≤1048576)(hG:x.G+2≤512)(hr1:1048576≤room)(hr:room≤1073741824)(hk:x.kl < 1000)(hsz:x.sz≤1048576)(hnx:x.nx < 1000000)(hlim:limit≤1048576):
  Calls Tryz.prog 9 #[.pointer (some ⟨e,0,none⟩),.slice Ab 1 cb] w (Ju B w0 w e lg room limit most x tm v):=by
 have ht:gD tm:=by unfold gD;omega
 have hll:∀ j,j < x.n→(x.L.getD j ⟨0,0,0⟩).t < tm:=fun j hj=>Me hlt j (by rw[h.tab.len];exact hj)
 have HD:=zh (zN h (zN hO (zN hll (zN hlate (zN hlt (zN hfw hD))))))
 clear h hO hlt hlate hll hfw hD
 go_enter Tryz.func9,Tryz.ntmps9
 go_wp2_with fail
 refine HD.out.1.none.mono ?_
 rintro u w1 ⟨rfl,hb1⟩
 have h1:=HD.out.1.call hb1
 have z8:=Kc h1.blk
 have H1:=zh (zN h1 hb1)
 clear h1 hb1
 go_wp2_with fail
 refine(wR H1.out.1 D Ab cb tm v (HD.out.2.1.call H1.out.2) ht HD.out.2.2.1 HD.out.2.2.2.1 hm 0 (.inl ⟨hnm,rfl⟩)).mono ?_
 rintro u w2 ⟨rfl,hb2⟩
 have hb02:=V.ay H1.out.2 hb2
 have H2:=zh (zN (HD.out.1.call hb02) hb02)
 clear hb2 hb02 z8
 go_upto_region 8 with (fail)
 have hS:au w2.drew e 81 (eY x lg):=(H2.out.1.call (Below.refl _ _).drew).blk
 have HB2:=zh (V.ay H2.out.2 (Below.refl _ _).drew)
 have hS:(fun wx=>au wx e 81 (eY x lg)) (w2.drew):=hS
 refine av (fun wx=>au wx e 81 (eY x lg)) (by kernel_rfl) hS ?_
 refine zB [0,1,2,3,4] ?_
 iterate 5 (refine zV ?_ ?_ hS ?_;rotate_left;(intro w' hSw;have z2:=KA hSw;go_simp<;>with_reducible rfl);try simp only[zP])
 refine zE ?_
 refine zC 5 fun K HK=>?_
 go_simp
 refine(Es w2.drew D Ab cb tm v (HD.out.2.1.call HB2.out) (by unfold dS;omega) (by unfold dS;omega)).mono ?_
 rintro u w3 ⟨A3,c3,bs,rfl,hbs,hby,hr3,hb3⟩
 have hb03:=V.ay HB2.out hb3
 have hE3:=HD.out.1.call hb03
 have hS3:au w3 e 81 (eY x lg):=hE3.blk
 have H3:=zh (zN hr3 (zN hb03 (zN hE3 hby)))
 clear hr3 hb3 hb03 hE3 hby
 go_wp2_with fail
 refine HK.out.zt (fun wx=>au wx e 81 (eY x lg)) (fun _ h=>h) (hS3) ?_
 clear HK hS
 intro hS
 try simp only[zP]
 have hE3:=H3.out.2.2.1
 have cc:=K4 w3 x.d x.M x.p room x.T x.G x.l limit x.Al x.cl x.fs x.kl x.sz x.nx A3 bs.length c3 bs (fun k=>k < w3.heap.size) hE3.log hE3.dt (fun r h1 h2=>hE3.dl r h2 h1) rfl (V.dN H3.out.1) (fun _ h=>h) (fun j=>by
  rw[List.getD_eq_getElem?_getD]
  rcases Nat.lt_or_ge j bs.length with hj | hj
  ·rw[List.getElem?_eq_getElem hj];exact H3.out.2.2.2 _ (List.getElem_mem hj)
  ·rw[List.getElem?_eq_none hj];decide) (by omega) (by omega) hr1 hr (by omega) hk hsz hnx hE3.fsl hlim
 refine zC 6 fun K HK=>?_
 go_simp
 refine(cc).mono ?_
 rintro u w4 ⟨rfl,p4,A4,c4,f4,k4,s4,b4,hd4,hl4,hst4,hds4,hc4,ho4,hf4,hk4,hs4⟩
 have hS4:au w4 e 81 (eY x lg):=hE3.blk.keeps hst4.keep (fun hr=>hr.elim (fun hr=>hE3.de _ hr rfl) (fun hr=>hE3.le _ hr rfl))
 have z2:=KA hS4
 have H4:=zh (zN hd4 (zN hl4 (zN hst4 (zN hds4 (zN hc4 (zN ho4 hf4))))))
 clear hd4 hl4 hst4 hds4 hc4 ho4 hf4 hE3 cc
 go_wp2_with fail
 refine HK.out.zt (fun wx=>au wx e 81 (eY x lg)) (fun _ h=>h) (hS4) ?_
 clear HK hS
 intro hS
 try simp only[zP]
 refine zT 7 ?_ ?_ hS ?_
 rotate_left
 ·(intro w' hSw;go_simp<;>with_reducible rfl)
 try simp only[zP]
 refine zD ?_
 try simp only[zP]
 clear hS hS4 hS3
 go_wp2_with fail
 refine(Jd w4 x.d x.M p4 room (x.T+(bs.length+22)) (x.G+1) x.l limit A4 c4 f4 k4 s4 (x.nx+1) b4 H4.out.2.1 H4.out.1 H4.out.2.2.2.1 H4.out.2.2.2.2.1 (H4.out.2.2.2.2.2.2 k4 (by omega)) (by omega) (by omega) (by omega)).mono ?_
 rintro u w5 ⟨rfl,p5,hd5,hf5,hl5,hst5,hds5⟩
 have hE3:=H3.out.2.2.1
 have hst:=H4.out.2.2.1.trans hst5
 have hE5:=hE3.logged hst (hd5.more (T':=x.T+72) (G':=x.G+2) (by omega) (Nat.le_refl _)) hl5 (fun t ht=>by rw[hf5];exact H4.out.2.2.2.2.2.1 t ht) H4.out.2.2.2.2.2.2 (Nat.le_succ _)
 have hO5:=(HD.out.2.1.call H3.out.2.1).keep hst.keep (fun q hq hr=>HD.out.2.2.2.2.2.2 q hq (hr.elim .inl (fun hr=>.inr (.inr (.inl hr)))))
 have H5:=zh (zN hE5 hO5)
 clear hE5 hO5 hst hst5 hds5 hl5 hf5 hd5 hE3 z2
 go_wp2_with fail
 refine(JY H5.out.1 D Ab cb tm v H5.out.2 (fun r hr hf=>HD.out.2.2.2.2.2.2 r hr (hf.elim (fun hf=>.inr (.inr (.inr (.inl hf)))) (fun hf=>.inr (.inr (.inr (.inr hf)))))) ht HD.out.2.2.1 (Mf HD.out.1.inc) HD.out.2.2.2.2.2.1 hnm hm hU hq).mono ?_
 rintro u w6 ⟨rfl,A6,c6,hT6,hb6,hk6,hf6⟩
 have hE6:=H5.out.1.taken hT6 hb6 hk6 hf6 htm hv (by show x.q≤1000000;omega) HD.out.2.2.2.2.1 HD.out.2.2.2.2.2.1 hnm
 have H6:=zh hE6
 clear hT6 hb6 hk6 hf6 hE6
 go_wp2_with fail
 go_ret
 exact⟨rfl,p5,A4,c4,f4,k4+1,s4,A6,c6,by omega,by omega,H6.out⟩
end
section
open Go.RowKit Go.Maps
theorem yI(pl:Nat→List Pt)(K:Nat)(L:List Pt): aQ (fZ pl K L) (K+1)=aQ pl K ++ L:=by
 show aQ (fZ pl K L) K ++ fZ pl K L K=_
 rw[Aj (r:=fZ pl K L) (s:=pl) K (fun y hy=>if_neg (by omega))]
 show _ ++ (if K=K then L else pl K)=_
 rw[if_pos rfl]
theorem nu.upd{pl:Nat→List Pt}{K:Nat}{L:List Pt}(h:nu pl K)(hp:0 < L.length)(hl:L.length≤40)(hi:Inc (aQ pl K ++ L))(hs:∀ p ∈ L,vG p): nu (fZ pl K L) (K+1) where
 len:=fun j hj=>by
  unfold fZ
  by_cases e:j=K
  ·rw[if_pos e];exact ⟨hp,hl⟩
  ·rw[if_neg e];exact h.len j (by omega)
 inc:=by rw[yI];exact hi
 sm:=fun j hj=>by
  unfold fZ
  by_cases e:j=K
  ·rw[if_pos e];exact hs
  ·rw[if_neg e];exact h.sm j (by omega)
theorem bJ.flushed{B:Nat}{w0 w w5 w6:World}{e:Nat}{lg:Int}{room limit most:Nat}{x:dQ}(h:bJ B w0 w e lg room limit most x){p':ByteArray→Option FS}{T' G':Nat}{A':Option Addr}{cp':Nat}{bs:List Nat}(ho:Iz w w5 x.st x.d x.M x.p p' x.A A')(hd:bq w5 x.d x.M p' room T' G')(hf:fb p'=aS (aS (fb x.p) (bU 115 x.K) (pW x.L)) rQ bs)(hs:mX w5 x.st x.d (x.K+1) x.nx x.q x.s x.la lg A' (x.K+1) cp' (fZ x.pl x.K x.L))(ht:eB w6 x.t x.Mt Option.none 0 [] 0 most x.U)(hst:Stp w5 w6 (dM x.t x.Mt x.At) (dM x.t x.Mt Option.none))(hp:0 < x.n)(hl:x.n≤40)(hK:x.K < 400):
  bJ B w0 w6 e lg room limit most { x with p:=p',T:=T',G:=G',A:=A',K:=x.K+1,cp:=cp',pl:=fZ x.pl x.K x.L,R:=x.nx,q0:=x.q,s0:=x.s,la0:=x.la,At:=Option.none,ct:=0,L:=[],n:=0 }:=by
 have hsz:w.heap.size≤w5.heap.size:=ho.keep.size
 have hdt:∀ r,aL x.d x.M p' r→dM x.t x.Mt x.At r→False:=fun r hr h2=>h.QF r (ho.dfar r (h.tab.dH h2) hr) h2
 have hstb:∀ r,mP x.st A' r→dM x.t x.Mt x.At r→False:=fun r hr h2=>h.S9 r (.inl (ho.sfar r (h.tab.dH h2) hr)) h2
 have hkk:Keeps (fun r=>aL x.d x.M x.p r∨r=x.st∨dM x.t x.Mt x.At r) w w6:=(ho.keep.mono (fun q _ hq=>hq.elim .inl (fun hq=>.inr (.inl hq)))).trans' (hst.keep.mono (fun q _ hq=>.inr (.inr hq)))
 have hfs:∀ j,j < 10000→j≠x.K→fb p' (bU 115 j)=fb x.p (bU 115 j):=fun j hj hne=>by
  rw[hf,fP _ _ (rR (by rfl) 115),fP _ _ (fun e=>hne (Oy (by omega) hj (by omega) e))]
 refine {
  blk:=h.blk.keeps hkk (fun hr=>?_)
  dt:=hd.keep hst.keep (fun q hq hr=>hdt q hq hr)
  sto:=hs.keep hst.keep (fun q hq hr=>hstb q hq hr)
  log:=h.log.keep hkk (fun q hq hr=>?_)
  tab:=ht
  mne:=h.mne
  lo:=?_
  bel:=h.bel.trans (hkk.below h.size (fun k hk hr=>?_))
  hB:=h.hB
  fso:=?_
  noN:=?_
  noS:=fun j hj hj2=>(hfs j hj2 (by have:x.K+1≤j:=hj;omega)).trans (h.noS j (by have:x.K+1≤j:=hj;omega) hj2)
  plo:=h.plo.upd (by rw[h.tab.len];exact hp) (by rw[h.tab.len];exact hl) h.inc h.sm
  inc:=?_
  sm:=fun p hp=>by cases hp
  mark:=h.mark
  fwd:=?_
  rn:=Nat.le_refl _
  qq:=Nat.le_refl _
  fsl:=h.fsl
  nm:=Nat.zero_le _
  he:=h.he }
 ·rcases hr with hr | hr | hr
  ·exact h.de _ hr rfl
  ·exact h.se _ (.inl hr) rfl
  ·exact h.te _ hr rfl
 ·rcases hr with hr | hr | hr
  ·exact h.dl _ hr hq
  ·exact h.sl _ (.inl hr) hq
  ·exact h.lt _ hq hr
 ·intro r hr
  rcases Nat.lt_or_ge r w.heap.size with hlt | hge
  ·refine h.lo r ?_
   rcases hr with hr | hr | hr | hr | hr
   ·exact .inl (ho.dfar r hlt hr)
   ·exact .inr (.inl (.inl (ho.sfar r hlt hr)))
   ·exact .inr (.inr (.inl hr))
   ·exact .inr (.inr (.inr (.inl (hst.far r (Nat.lt_of_lt_of_le hlt hsz) hr))))
   ·exact .inr (.inr (.inr (.inr hr)))
  ·exact Nat.le_trans h.size hge
 ·have:B≤k:=h.lo k (by
   rcases hr with hr | hr | hr
   ·exact .inl hr
   ·exact .inr (.inl (.inl hr))
   ·exact .inr (.inr (.inr (.inl hr))))
  omega
 ·intro j hj
  have hj:j < x.K+1:=hj
  show fb p' (bU 115 j)=some (pW (fZ x.pl x.K x.L j))
  by_cases e:j=x.K
  ·rw[e,hf,fP _ _ (rR (by rfl) 115),gQ]
   unfold fZ
   rw[if_pos rfl]
  ·rw[hfs j (by omega) e,h.fso j (by omega)]
   unfold fZ
   rw[if_neg e]
 ·show fb p' iP=Option.none
  rw[hf,fP _ _ (by decide),fP _ _ (fun e=>rR (by rfl) 115 e.symm)]
  exact h.noN
 ·show Inc (aQ (fZ x.pl x.K x.L) (x.K+1) ++ [])
  rw[List.append_nil,yI]
  exact h.inc
 ·show x.s=false∨(x.s=true∧x.la≤x.la)
  cases x.s with
  | false=>exact .inl rfl
  | true=>exact .inr ⟨rfl,Int.le_refl _⟩
def zG(B:Nat)(w0:World)(e:Nat)(lg:Int)(room limit most:Nat)(x:dQ)(u:Ending)(w':World): Prop:=
 u=.returned (.int .i64 0)∧∃ p' A' cp',bJ B w0 w' e lg room limit most { x with p:=p',T:=x.T+5000+(100+53*(x.K+1)),G:=x.G+5,A:=A',K:=x.K+1,cp:=cp',pl:=fZ x.pl x.K x.L,R:=x.nx,q0:=x.q,s0:=x.s,la0:=x.la,At:=none,ct:=0,L:=[],n:=0 }
theorem Gt{B:Nat}{w0 w:World}{e:Nat}{lg:Int}{room limit most:Nat}{x:dQ}(h:bJ B w0 w e lg room limit most x)(hp:0 < x.n)(hl:x.n≤40)(hK:x.K < 400)(hT:x.T+5000+(100+53*(x.K+1))≤1048576)(hG:x.G+4 < 512)(hr1:1048576≤room)(hr:room≤1073741824)(hnx:x.nx≤1000000)(hq:x.q≤1000000):
  Calls Tryz.prog 36 #[.pointer (some ⟨e,0,none⟩)] w (zG B w0 e lg room limit most x):=by
 have HD:=zh h
 have z3:=wK h.blk
 have d0:(((x.n:Nat):Int) == 0)=false:=by simp;omega
 clear h
 go_enter Tryz.func36,Tryz.ntmps36
 go_wp2_with fail
 refine(C8 w x.t x.Mt x.At x.ct x.L x.n most x.U HD.out.tab).mono ?_
 rintro u w1 ⟨rfl,hb1⟩
 have H1:=zh (zN (HD.out.call hb1) hb1)
 clear hb1 z3
 go_upto_region 3 with (fail)
 have hE:=H1.out.1.call (Below.refl _ _).drew
 have hS:au w1.drew e 81 (eY x lg):=hE.blk
 have H2:=zh hE
 clear hE d0
 have hS:(fun wx=>au wx e 81 (eY x lg)) (w1.drew):=hS
 refine av (fun wx=>au wx e 81 (eY x lg)) (by kernel_rfl) hS ?_
 refine zB [0,1,2,3,4,5,6,7,9,10,11,12,14,15,16,17,18,19,20,21] ?_
 iterate 20 (refine zV ?_ ?_ hS ?_;rotate_left;(intro w' hSw;have z1:=QI hSw;have z2:=KA hSw;have z3:=wK hSw;have z4:=wD hSw;have z5:=vY hSw;have z6:=wJ hSw;have z7:=JN hSw;go_simp<;>with_reducible rfl);try simp only[zP])
 refine zE ?_
 refine zC 8 fun K HK=>?_
 go_simp
 refine(xk w1.drew x.t x.Mt x.At x.ct x.L x.n most x.U H2.out.tab hp (by omega)).mono ?_
 rintro u w2 ⟨A2,c2,A3,c3,rfl,hr2,hr3,hb2⟩
 have hE:=H2.out.call hb2
 have hS2:au w2 e 81 (eY x lg):=hE.blk
 have H3:=zh (zN hE (zN hr2 hr3))
 clear hE hr2 hr3 hb2
 go_wp2_with fail
 refine HK.out.zt (fun wx=>au wx e 81 (eY x lg)) (fun _ h=>h) (hS2) ?_
 clear HK hS
 intro hS
 try simp only[zP]
 refine zC 13 fun K HK=>?_
 go_simp
 refine(AO w2 x.l x.d limit x.Al x.cl x.fs x.kl x.sz x.nx false H3.out.1.log).mono ?_
 rintro u w3 ⟨rfl,hb3⟩
 have hE:=H3.out.1.call hb3
 have hS3:au w3 e 81 (eY x lg):=hE.blk
 have hpa:=Nt (aF H3.out.2.1 (Keeps.of_below (S:=fun _=>False) hb3) (fun _ _ h=>h)) (H3.out.2.2.below hb3) hE.tab.len hE.sm
 have H4:=zh (zN hE hpa)
 clear hE hpa hb3
 go_wp2_with fail
 refine HK.out.zt (fun wx=>au wx e 81 (eY x lg)) (fun _ h=>h) (hS3) ?_
 clear HK hS
 intro hS
 try simp only[zP]
 have hE:=H4.out.1
 have hpl:=hE.plo.upd (by rw[hE.tab.len];exact hp) (by rw[hE.tab.len];exact hl) hE.inc hE.sm
 have hlk:qw x.L:=⟨by rw[hE.tab.len];exact hp,by rw[hE.tab.len];exact hl,(List.pairwise_append.1 hE.inc).2.1,hE.sm⟩
 have cc:=I5 w3 x.st x.d x.M x.p room x.T x.G x.R x.q0 x.s0 x.la0 lg x.A x.K x.cp x.pl A2 c2 (fun _=>A3) (fun _=>c3) x.L x.nx x.q x.s x.la hE.sto (fun g h1 h2=>hE.ds g h2 h1) hE.dt hE.noN (hE.noS x.K (Nat.le_refl _) (by omega)) H4.out.2 hlk hpl hE.herr (fun hr=>by have:=hE.lo _ (.inl hr);have:=hE.he.2;omega) hE.mark hE.fwd hE.rn hnx hE.qq hq hK hT hr1 hr hG
 refine zC 22 fun K HK=>?_
 go_simp
 refine(cc).mono ?_
 rintro u w4 ⟨rfl,p',bs,A',cp',hd4,hf4,hs4,ho4⟩
 have hS4:au w4 e 81 (eY x lg):=hE.blk.keeps ho4.keep (fun hr=>hr.elim (fun hr=>hE.de _ hr rfl) (fun hr=>hE.se _ (.inl hr) rfl))
 have z3:=wK hS4
 have ht4:=hE.tab.keep ho4.keep (fun q hq hr=>hr.elim (fun hr=>hE.QF _ hr hq) (fun hr=>hE.S9 _ (.inl hr) hq))
 have H5:=zh (zN hd4 (zN hf4 (zN hs4 (zN ho4 ht4))))
 clear hd4 hf4 hs4 ho4 ht4 cc hE hpl hlk
 go_wp2_with fail
 refine HK.out.zt (fun wx=>au wx e 81 (eY x lg)) (fun _ h=>h) (hS4) ?_
 clear HK hS
 intro hS
 try simp only[zP]
 refine zT 23 ?_ ?_ hS ?_
 rotate_left
 ·(intro w' hSw;go_simp<;>with_reducible rfl)
 try simp only[zP]
 refine zD ?_
 try simp only[zP]
 clear hS hS2 hS3 hS4
 go_wp2_with fail
 refine(IJ w4 x.t x.Mt x.At x.ct x.L x.n most x.U H5.out.2.2.2.2 hp (by omega)).mono ?_
 rintro u w6 ⟨⟨v,rfl⟩,ht6,hst6⟩
 have H6:=zh (H4.out.1.flushed H5.out.2.2.2.1 H5.out.1 H5.out.2.1 H5.out.2.2.1 ht6 hst6 hp hl hK)
 clear ht6 hst6 z3
 go_wp2_with fail
 go_ret
 exact⟨rfl,p',A',cp',H6.out⟩
end
section
open Go.RowKit Go.Maps
theorem IZ{B:Nat}{w0 w:World}{e:Nat}{lg:Int}{room limit most:Nat}{x:dQ}(h:bJ B w0 w e lg room limit most x)(hp:0 < x.n)(hl:x.n≤40)(hK:x.K < 400)(hT:x.T+5000+(100+53*(x.K+1))≤1048576)(hG:x.G+4 < 512)(hr1:1048576≤room)(hr:room≤1073741824)(hnx:x.nx≤1000000)(hq:x.q≤1000000):
  Calls Tryz.prog 11 #[.pointer (some ⟨e,0,none⟩),.int .i64 0] w (zG B w0 e lg room limit most x):=by
 obtain⟨y,hy⟩:∃ y,y=w.heap.size:=⟨_,rfl⟩
 have o0:=Own.eX w hy 27 #[.pointer (some ⟨e,0,none⟩)]
 have HD:=zh (zN h o0)
 clear h o0
 go_enter Tryz.func11,Tryz.ntmps11
 go_wp2_with fail
 rw[←hy]
 clear hy
 refine bC (Own w [(y,27,#[.pointer (some ⟨e,0,none⟩)])]) HD.out.2 ?_
 intro w1 h1
 have H1:=zh h1
 clear h1
 refine(HD.out.1.call H1.out.bel).none.mono ?_
 rintro u w2 ⟨rfl,hb2⟩
 have h2:=H1.out.call hb2
 have z0:=h2.cell 0 0 rfl rfl
 have z8:=Kc (HD.out.1.call h2.bel).blk
 have H2:=zh h2
 clear h2 hb2
 go_wp2_with fail
 refine(Gt (HD.out.1.call H2.out.bel) hp hl hK hT hG hr1 hr hnx hq).mono ?_
 rintro u w3 ⟨rfl,h3⟩
 have H3:=zh h3
 clear h3 z0 z8
 go_wp2_with fail
 go_ret
 exact⟨rfl,H3.out⟩
end
section
open Go.RowKit Go.Maps
def two{α:Type}(a b:α): Nat→α:=fun y=>if y=0 then a else b
theorem Ed{B:Nat}{w0 w:World}{e:Nat}{lg:Int}{room limit most:Nat}{x:dQ}(h:bJ B w0 w e lg room limit most x)(a b:Int)(hab:∀ p ∈ aQ x.pl x.K ++ x.L,a≤p.t∧p.t < b)(hT:x.T≤1048576)(hK:x.K≤400)(hn:x.n≤1000)(hlen:(aQ x.pl x.K ++ x.L).length≤100000):
  Calls Tryz.prog 108 #[.pointer (some ⟨e,0,none⟩),.string bD,.int .i64 a,.int .i64 b] w (uD w (aQ x.pl x.K ++ x.L)):=by
 have HD:=zh (zN h hab)
 have z1:=QI h.blk
 clear h hab
 go_enter Tryz.func108,Tryz.ntmps108
 go_wp2_with fail
 have hE:=HD.out.1
 refine(D6 w x.st x.d x.M x.p room x.T x.G x.K x.R x.q0 x.s0 x.la0 lg x.A x.K x.cp x.pl a b hE.sto hE.dt hE.fso hE.plo hE.herr hT hK (fun j hj y hy=>HD.out.2 y (List.mem_append_left _ (xV x.K j hj hy)))).mono ?_
 rintro u w1 ⟨A1,c1,rfl,hr1,hb1⟩
 obtain⟨n1,hn1⟩:∃ n,n=(aQ x.pl x.K).length:=⟨_,rfl⟩
 have hE1:=hE.call hb1
 have z3:=wK hE1.blk
 have H1:=zh (zN hE1 (zN hr1 (zN hb1 hn1)))
 rw[←hn1]
 clear hE hE1 hr1 hb1 hn1 z1
 go_wp2_with fail
 refine(DI w1 x.t x.Mt x.At x.ct x.L x.n most x.U a b H1.out.1.tab hn).mono ?_
 rintro u w2 ⟨v2,rfl,hr2,hb2⟩
 have hsel:eD (fun j=>x.L.getD j ⟨0,0,0⟩) a b x.n=x.L:=by
  have hl:=H1.out.1.tab.len
  rw[←hl]
  exact He (fun p hp=>HD.out.2 p (List.mem_append_right _ hp))
 rw[hsel] at hr2
 clear hsel
 obtain⟨A2,c2,hv2,hc2⟩:=hr2.form
 subst hv2
 obtain⟨n2,hn2⟩:∃ n,n=x.L.length:=⟨_,rfl⟩
 have hr1:=H1.out.2.1.below hb2
 have hb02:=V.ay H1.out.2.2.1 hb2
 have H2:=zh (zN hr1 (zN (aU hr2 H1.out.2.2.1.size) (zN hb02 hn2)))
 rw[←hn2]
 clear hr1 hr2 hb2 hb02 hn2 hc2 z3
 go_wp2_with fail
 obtain⟨y,hy⟩:∃ y,y=w2.heap.size:=⟨_,rfl⟩
 rw[←hy]
 refine bC (Own w2 [(y,186,#[.slice A1 n1 c1,.slice A2 n2 c2])]) (Own.eX w2 hy _ _) ?_
 intro w3 h3
 clear hy
 have s0:=h3.cell 0 0 rfl rfl
 have s1:=h3.cell 0 1 rfl rfl
 have hlt:=h3.lt _ (List.mem_singleton.2 rfl)
 have hsl:Sl w3 (fun q=>q < w3.heap.size) (some ⟨y,0,none⟩) 2 (fT (two A1 A2) (two c1 c2) (two (aQ x.pl x.K) x.L)):=fun _=>⟨y,0,rfl,hlt,fun j hj=>by
  match j,hj with
  | 0,_=>exact (by rw[s0,H1.out.2.2.2];rfl)
  | 1,_=>exact (by rw[s1,H2.out.2.2.2];rfl)⟩
 have hp1:aX w3 w.heap.size (.slice A1 (aQ x.pl x.K).length c1) (aQ x.pl x.K):=aX.below H2.out.1 h3.bel
 have hp2:aX w3 w.heap.size (.slice A2 x.L.length c2) x.L:=aX.below H2.out.2.1 h3.bel
 have hlo:qC w3 (two A1 A2) (two c1 c2) (two (aQ x.pl x.K) x.L) 2:=⟨fun j hj=>by
  match j,hj with
  | 0,_=>exact hp1.sl.mono (fun q hq=>(hp1.fC q hq.2).2)
  | 1,_=>exact hp2.sl.mono (fun q hq=>(hp2.fC q hq.2).2),fun j hj=>by
  match j,hj with
  | 0,_=>exact V.iC hp1
  | 1,_=>exact V.iC hp2⟩
 have hcat:aQ (two (aQ x.pl x.K) x.L) 2=aQ x.pl x.K ++ x.L:=rfl
 have hc:=AA w3 (some ⟨y,0,none⟩) 2 2 (two A1 A2) (two c1 c2) (two (aQ x.pl x.K) x.L) hsl hlo (by rw[hcat];exact HD.out.1.inc) (by omega) (by rw[hcat];exact hlen)
 rw[hcat] at hc
 have h03:Below w.heap.size w w3:=V.ay H2.out.2.2.1 h3.bel
 clear s0 s1 hsl hp1 hp2 hlo hcat h3 hlt
 refine hc.mono ?_
 rintro u w4 ⟨A4,c4,rfl,hr4,hb4⟩
 obtain⟨n4,hn4⟩:∃ n,n=(aQ x.pl x.K ++ x.L).length:=⟨_,rfl⟩
 have H4:=zh (zN (aU hr4 h03.size) (zN (V.ay h03 hb4) hn4))
 rw[←hn4]
 clear hr4 hb4 hn4 hc h03
 go_wp2_with fail
 go_ret2
 exact⟨A4,c4,by rw[H4.out.2.2];rfl,H4.out.1,H4.out.2.1⟩
theorem Jq{B:Nat}{w0 w:World}{e:Nat}{lg:Int}{room limit most:Nat}{x:dQ}(h:bJ B w0 w e lg room limit most x)(tu:Int)(hab:∀ p ∈ aQ x.pl x.K ++ x.L,0≤p.t∧p.t < tu)(hT:x.T≤1048576)(hK:x.K≤400)(hn:x.n≤1000)(hlen:(aQ x.pl x.K ++ x.L).length≤100000):
  Calls Tryz.prog 104 #[.pointer (some ⟨e,0,none⟩),.agg (qV tu)] w (uD w (aQ x.pl x.K ++ x.L)):=by
 obtain⟨y,hy⟩:∃ y,y=w.heap.size:=⟨_,rfl⟩
 have o0:=Own.eX w hy 43 (qV tu)
 have HD:=zh (zN h (zN hab o0))
 clear h hab o0
 unfold qV
 go_enter Tryz.func104,Tryz.ntmps104
 go_wp2_with fail
 rw[←hy]
 clear hy
 refine aH (Own w [(y,43,qV tu)]) HD.out.2.2 ?_
 intro w1 o1
 have hS:=o1.drew
 clear o1
 have hS:(Own w [(y,43,qV tu)]) (w1.drew):=hS
 refine av (Own w [(y,43,qV tu)]) (by kernel_rfl) hS ?_
 refine zB [0,1,2,3,4,5,8,9] ?_
 iterate 8 (refine zV ?_ ?_ hS ?_;rotate_left;(intro w' hSw;have u2:=hSw.cell 0 2 rfl rfl;have u4:=hSw.cell 0 4 rfl rfl;have u5:=hSw.cell 0 5 rfl rfl;go_simp<;>with_reducible rfl);try simp only[zP])
 refine zE ?_
 refine zC 6 fun K HK=>?_
 go_simp
 refine(Nb (HD.out.1.call hS.bel)).mono ?_
 rintro u w2 ⟨rfl,hb2⟩
 have h2:=hS.call hb2
 clear hb2
 go_wp2_with fail
 refine HK.out.zt (Own w [(y,43,qV tu)]) (fun _ h=>h) (h2) ?_
 clear HK hS
 intro hS
 try simp only[zP]
 refine zT 7 ?_ ?_ hS ?_
 rotate_left
 ·(intro w' hSw;go_simp<;>with_reducible rfl)
 try simp only[zP]
 refine zC 10 fun K HK=>?_
 go_simp
 refine(Ed (HD.out.1.call h2.bel) 0 tu HD.out.2.1 hT hK hn hlen).mono ?_
 rintro u w3 ⟨A3,c3,rfl,hr3,hb3⟩
 have h3:=h2.call hb3
 obtain⟨n4,hn4⟩:∃ n,n=(aQ x.pl x.K ++ x.L).length:=⟨_,rfl⟩
 have H3:=zh (zN (aU hr3 h2.bel.size) (zN h3.bel hn4))
 rw[←hn4]
 clear hr3 hb3 h2 hn4
 go_wp2_with fail
 refine HK.out.zt (Own w [(y,43,qV tu)]) (fun _ h=>h) (h3) ?_
 clear HK hS
 intro hS
 try simp only[zP]
 refine zB [11,12,13,14] ?_
 iterate 4 (refine zV ?_ ?_ hS ?_;rotate_left;(intro w' hSw;go_simp<;>with_reducible rfl);try simp only[zP])
 refine zE ?_
 refine zD ?_
 try simp only[zP]
 clear hS h3
 go_wp2_with fail
 go_ret2
 exact⟨A3,c3,by rw[H3.out.2.2];rfl,H3.out.1,H3.out.2.1⟩
end
section
open Go.RowKit Go.Maps
def pQ(l:List Pt): List Value:=l.flatMap fun p=>[.int .i64 p.t,.int .i64 p.t,.bool false,.int .i64 0,.int .u64 p.v]
theorem BD(l l':List Pt): pQ (l ++ l')=pQ l ++ pQ l':=by unfold pQ;rw[List.flatMap_append]
def tV(w:World)(base:Nat)(v:Value)(l:List Pt): Prop:=w.ownsRow base 54 5 v l.length (pQ l)
theorem PE: (Tryz.prog.info? 54).map (fun i=>(i.zero,i.size,i.bytes))=some (some (.agg #[.int .i64 0,.int .i64 0,.bool false,.int .i64 0,.int .u64 0]),5,40):=by kernel_rfl
theorem Dm{w:World}{base g c:Nat}{v:Value}{l:List Pt}{p:Pt}{ty:TypeId}(hown:tV w base v l)(hg:au w g 54 #[.int .i64 p.t,.int .i64 p.t,.bool false,.int .i64 0,.int .u64 p.v])(h63:l.length < 4294967296)(hbase:base≤w.heap.size):
  ∃ v' w',(Builtin.append_ #[39,39] ty #[v,.slice (some ⟨g,0,none⟩) 1 c]).run Tryz.prog w=.ok v' w'∧tV w' base v' (l ++ [p])∧w.grownBy w' v.ownBlock∧(v'.ownBlock=v.ownBlock∨v'.ownBlock=some w.heap.size):=by
 obtain⟨i,hi,hz,hs,hb⟩:=info_parts PE
 have hadd:∀ i,(⟨g,0,none⟩:Addr).add i=⟨g,0+i,none⟩:=fun i=>by unfold Addr.add;split<;>simp_all
 obtain⟨v',w',h1,h2,h3,_,h4⟩:=run_append_own_at (P:=Tryz.prog) w base 39 ty 54 i _ 5 40 Tryz.underlying39 hi hz hs hb rfl (by decide) v l.length (pQ l) hown ⟨g,0,none⟩ 1 c [.int .i64 p.t,.int .i64 p.t,.bool false,.int .i64 0,.int .u64 p.v] rfl
  (fun j u hu=>by
   rw[hadd,Nat.zero_add,hg.cell j]
   simpa using hu)
  (by intro u hu;simp at hu;rcases hu with rfl | rfl | rfl | rfl<;>rfl) (by unfold maxLen;omega) (by omega) hbase
 refine⟨v',w',h1,?_,h3,h4⟩
 unfold tV
 rw[BD,List.length_append]
 exact h2
def Bq(w:World)(l:List Pt)(e:Ending)(w':World): Prop:=∃ A c,e=.returned (.tuple #[.slice A l.length c,.int .i64 0])∧tV w' w.heap.size (.slice A l.length c) l∧Below w.heap.size w w'
theorem JL(w:World)(A:Option Addr)(n c:Nat)(hn:n≤65536): Calls Tryz.prog 105 #[.slice A n c] w fun u w'=>u=.returned (.tuple #[.slice A n c,.int .i64 0])∧Below w.heap.size w w':=by
 have d1:decide ((65536:Int) < (n:Int))=false:=by simp;omega
 go_enter Tryz.func105,Tryz.ntmps105
 go_wp2_with fail
 go_ret2
 exact⟨rfl,Below.refl _ _⟩
theorem Lm{B:Nat}{w0 w:World}{e:Nat}{lg:Int}{room limit most:Nat}{x:dQ}(h:bJ B w0 w e lg room limit most x)(tu:Int)(hab:∀ p ∈ aQ x.pl x.K ++ x.L,0≤p.t∧p.t < tu)(hv:∀ p ∈ aQ x.pl x.K ++ x.L,0≤p.v∧p.v≤1000000)(hT:x.T≤1048576)(hK:x.K≤400)(hn:x.n≤1000)(hlen:(aQ x.pl x.K ++ x.L).length≤65536):
  Calls Tryz.prog 45 #[.pointer (some ⟨e,0,none⟩),.agg (qV tu)] w (Bq w (aQ x.pl x.K ++ x.L)):=by
 obtain⟨y,hy⟩:∃ y,y=w.heap.size:=⟨_,rfl⟩
 have o0:=Own.eX w hy 43 (qV tu)
 have HD:=zh (zN h (zN hab (zN hv o0)))
 clear h hab hv o0
 obtain⟨l,hl⟩:∃ l,l=aQ x.pl x.K ++ x.L:=⟨_,rfl⟩
 have HL:=zh hl
 rw[←hl] at hlen ⊢
 clear hl
 unfold qV
 go_enter Tryz.func45,Tryz.ntmps45
 go_wp2_with fail
 rw[←hy]
 clear hy
 refine bC (Own w [(y,43,qV tu)]) HD.out.2.2.2 ?_
 intro w1 o1
 have hE:=HD.out.1.call o1.bel
 have H1:=zh (zN hE o1.bel)
 clear hE o1
 have cc:=Jq H1.out.1 tu HD.out.2.1 hT hK hn (by rw[←HL.out];omega)
 rw[←HL.out] at cc
 refine cc.mono ?_
 clear cc
 rintro u w2 ⟨A2,c2,rfl,hr2,hb2⟩
 obtain⟨n,hn⟩:∃ n,n=l.length:=⟨_,rfl⟩
 have H2:=zh (zN (V.ay H1.out.2 hb2) (zN (hr2.sl.mono (E:=fun q=>q < w2.heap.size) (fun q hq=>(hr2.fC q hq.2).2)) hn))
 rw[←hn]
 have hlen':n≤65536:=by omega
 clear hr2 hb2 hn hlen
 go_wp2_with fail
 go_loopw [8,22] (fun o i wr=>∃ k,k≤n∧i=.int .i64 (k:Nat)∧tV wr w2.heap.size o (l.take k)∧Below w2.heap.size w2 wr) (fun _ i _=>n-(intOf i).toNat)
 case atStart=>exact ⟨0,Nat.zero_le _,rfl,⟨rfl,.inl ⟨rfl,rfl⟩⟩,Below.refl _ _⟩
 case round=>
  obtain⟨k,hk,rfl,hr,hb⟩:=hrel
  by_cases hkn:k < n
  ·have d1:(k:Int) < (n:Int):=by omega
   have hsl:=H2.out.2.1
   rw[←H2.out.2.2] at hsl
   obtain⟨g,off,rfl,hg,hc⟩:=hsl (by omega)
   have hc':∀ j,j < n→wr.cell? ⟨g,off+j*3,none⟩=some (.int .i64 (l.getD j ⟨0,0,0⟩).t)∧wr.cell? ⟨g,off+j*3+1,none⟩=some (.int .i64 (l.getD j ⟨0,0,0⟩).v)∧wr.cell? ⟨g,off+j*3+2,none⟩=some (.int .i64 (l.getD j ⟨0,0,0⟩).s):=fun j hj=>
    have hkb:=Keeps.of_below (S:=fun _=>False) hb
    ⟨pG (hc j hj).1 hkb (fun h=>h),pG (hc j hj).2.1 hkb (fun h=>h),pG (hc j hj).2.2 hkb (fun h=>h)⟩
   obtain⟨u0,u1,u2⟩:=hc' k hkn
   have hmem:l.getD k ⟨0,0,0⟩ ∈ l:=jQ (by rw[←H2.out.2.2];exact hkn)
   have htk:l.take (k+1)=l.take k ++ [l.getD k ⟨0,0,0⟩]:=by
    have hkl:k < l.length:=by rw[←H2.out.2.2];exact hkn
    rw[List.take_add_one,List.getD_eq_getElem?_getD,List.getElem?_eq_getElem hkl]
    rfl
   have hvk:=HD.out.2.2.1 _ (by rw[←HL.out];exact hmem)
   obtain⟨p,hp⟩:∃ p,p=l.getD k ⟨0,0,0⟩:=⟨_,rfl⟩
   rw[←hp] at u0 u1 u2 htk hvk
   have e1:p.v / 9223372036854775808=0:=by omega
   have e2:IntKind.u64.wrap p.v=p.v:=by simp only[IntKind.wrap_u64];omega
   obtain⟨A3,c3,hv3,-,-⟩:=aA hr
   subst hv3
   have H3:=zh (zN hr (zN hb htk))
   clear hr hb htk hc hc' hmem hp hsl hvk
   go_upto_region 8 with (fail)
   obtain⟨z,hz⟩:∃ z,z=wr.heap.size:=⟨_,rfl⟩
   rw[←hz]
   refine aH (Own wr [(z,149,#[.int .i64 p.t,.int .i64 p.v,.int .i64 p.s])]) (Own.eX wr hz _ _) ?_
   intro w4 h4
   have s0:=h4.cell 0 0 rfl rfl
   have s1:=h4.cell 0 1 rfl rfl
   clear hz u0 u1 u2
   obtain⟨w5,hw5⟩:∃ w5,w5=w4.alloc (.cells #[.int .i64 p.t,.int .i64 p.t,.bool false,.int .i64 0,.int .u64 p.v] 54):=⟨_,rfl⟩
   have hb5:Below w4.heap.size w4 w5:=by rw[hw5];exact (Below.refl _ _).alloc (Nat.le_refl _) _
   have hb35:Below wr.heap.size wr w5:=V.ay h4.bel hb5
   have hbk:au w5 w4.heap.size 54 #[.int .i64 p.t,.int .i64 p.t,.bool false,.int .i64 0,.int .u64 p.v]:=by rw[hw5];exact au.fresh _ _ _
   have hr5:tV w5 w2.heap.size (.slice A3 (l.take k).length c3) (l.take k):=aF H3.out.1 (Keeps.of_below (S:=fun _=>False) hb35) (fun _ _ h=>h)
   obtain⟨v6,w6,hrun,hr6,hg6,hx6⟩:=Dm (ty:=39) (c:=1) hr5 hbk (by rw[List.length_take];omega) (Nat.le_trans H3.out.2.1.size hb35.size)
   rw[←H3.out.2.2] at hr6
   have hb6:Below w2.heap.size w2 w6:=(H3.out.2.1.trans (hb35.mono H3.out.2.1.size)).grown hg6 (Nat.le_trans H3.out.2.1.size hb35.size) (fun q hq=>(hr5.lt q hq).1)
   have H6:=zh (zN hr6 hb6)
   rw[hw5] at hrun
   clear hr5 hbk hb35 hb5 hg6 hx6 hr6 hb6 h4 hw5
   go_wp2_with (at_builtin;refine wpList_append_run rfl (.tmp 26) (.tmp 39) rfl rfl rfl hrun ?_)
   go_roundw
   case rel=>exact ⟨k+1,by omega,by go_num,H6.out.1,H6.out.2⟩
   case measure=>simp[intOf]<;>omega
  ·obtain rfl:k=n:=by omega
   have htk:l.take k=l:=by rw[H2.out.2.2];exact List.take_length
   rw[htk] at hr
   obtain⟨A3,c3,hv3,-,-⟩:=aA hr
   have hll:=H2.out.2.2
   rw[←hll] at hv3
   subst hv3
   have H3:=zh (zN hr hb)
   clear hr hb htk hll
   go_wp2_with fail
   refine(JL wr A3 k c3 hlen').mono ?_
   rintro u w4 ⟨rfl,hb4⟩
   have H4:=zh (zN (aF H3.out.1 (Keeps.of_below (S:=fun _=>False) hb4) (fun _ _ h=>h)) (V.ay H3.out.2 hb4))
   clear hb4
   go_wp2_with fail
   go_ret2
   refine⟨A3,c3,by rw[←H2.out.2.2];rfl,?_,V.ay H2.out.1 H4.out.2⟩
   have:=aU H4.out.1 H2.out.1.size
   unfold tV
   rw[←H2.out.2.2] at this ⊢
   exact this
theorem wU{B:Nat}{w0 w:World}{e:Nat}{lg:Int}{room limit most:Nat}{x:dQ}(h:bJ B w0 w e lg room limit most x)(tu:Int)(ht0:0≤tu)(ht1:tu≤1000000)(hab:∀ p ∈ aQ x.pl x.K ++ x.L,0≤p.t∧p.t < tu)(hv:∀ p ∈ aQ x.pl x.K ++ x.L,0≤p.v∧p.v≤1000000)(hT:x.T≤1048576)(hK:x.K≤400)(hn:x.n≤1000)(hlen:(aQ x.pl x.K ++ x.L).length≤65536):
  Calls Tryz.prog 12 #[.pointer (some ⟨e,0,none⟩),.agg (qV tu)] w (Bq w (aQ x.pl x.K ++ x.L)):=by
 obtain⟨y,hy⟩:∃ y,y=w.heap.size:=⟨_,rfl⟩
 have o0:=Own.oJ w hy 27 #[.pointer (some ⟨e,0,none⟩)] 43 (qV tu)
 have HD:=zh (zN h (zN hab (zN hv o0)))
 clear h hab hv o0
 unfold qV
 go_enter Tryz.func12,Tryz.ntmps12
 go_wp2_with fail
 rw[←hy]
 clear hy
 refine bC (Own w [(y,27,#[.pointer (some ⟨e,0,none⟩)]),(y+1,43,qV tu)]) HD.out.2.2.2 ?_
 intro w1 o1
 refine(HD.out.1.call o1.bel).none.mono ?_
 rintro u w2 ⟨rfl,hb2⟩
 have h2:=o1.call hb2
 have z0_0:=h2.cell 0 0 rfl rfl;have z1_0:=h2.cell 1 0 rfl rfl;have z1_1:=h2.cell 1 1 rfl rfl;have z1_2:=h2.cell 1 2 rfl rfl;have z1_3:=h2.cell 1 3 rfl rfl;have z1_4:=h2.cell 1 4 rfl rfl;have z1_5:=h2.cell 1 5 rfl rfl;have z1_6:=h2.cell 1 6 rfl rfl;have z1_7:=h2.cell 1 7 rfl rfl;have z1_8:=h2.cell 1 8 rfl rfl;have z1_9:=h2.cell 1 9 rfl rfl;have z1_10:=h2.cell 1 10 rfl rfl;have z1_11:=h2.cell 1 11 rfl rfl
 have H2:=zh h2
 clear h2 hb2 o1
 go_wp2_with fail
 refine(F8 w2 tu ht0 ht1).mono ?_
 rintro u w3 ⟨rfl,hb3⟩
 have h3:=H2.out.call hb3
 clear z0_0 z1_0 z1_1 z1_2 z1_3 z1_4 z1_5 z1_6 z1_7 z1_8 z1_9 z1_10 z1_11
 have z0_0:=h3.cell 0 0 rfl rfl;have z1_0:=h3.cell 1 0 rfl rfl;have z1_1:=h3.cell 1 1 rfl rfl;have z1_2:=h3.cell 1 2 rfl rfl;have z1_3:=h3.cell 1 3 rfl rfl;have z1_4:=h3.cell 1 4 rfl rfl;have z1_5:=h3.cell 1 5 rfl rfl;have z1_6:=h3.cell 1 6 rfl rfl;have z1_7:=h3.cell 1 7 rfl rfl;have z1_8:=h3.cell 1 8 rfl rfl;have z1_9:=h3.cell 1 9 rfl rfl;have z1_10:=h3.cell 1 10 rfl rfl;have z1_11:=h3.cell 1 11 rfl rfl
 have H3:=zh h3
 clear h3 hb3
 go_wp2_with fail
 refine(Lm (HD.out.1.call H3.out.bel) tu HD.out.2.1 HD.out.2.2.1 hT hK hn hlen).mono ?_
 rintro u w4 ⟨A4,c4,rfl,hr4,hb4⟩
 obtain⟨n4,hn4⟩:∃ n,n=(aQ x.pl x.K ++ x.L).length:=⟨_,rfl⟩
 have H4:=zh (zN (aU hr4 H3.out.bel.size) (zN (V.ay H3.out.bel hb4) hn4))
 rw[←hn4]
 clear hr4 hb4 hn4 z0_0 z1_0 z1_1 z1_2 z1_3 z1_4 z1_5 z1_6 z1_7 z1_8 z1_9 z1_10 z1_11
 go_wp2_with fail
 go_ret2
 exact⟨A4,c4,by rw[H4.out.2.2];rfl,H4.out.1,H4.out.2.1⟩
end
section
open Go.RowKit Go.Maps
def Sr: ByteArray→Option FS:=fun _=>none
def jl(st d M l t Mt T:Nat): dQ:=⟨st,d,M,l,t,Mt,Sr,T,0,none,0,0,fun _=>[],0,0,false,0,none,0,fun _=>0,0,0,0,none,0,[],0,0,false,0,0⟩
def gY(lg:Int)(most limit:Nat): Array Value:=#[.int .i64 lg,.int .i64 (-1),.int .i64 (most:Nat),.int .i64 (limit:Nat),.slice none 0 0]
def M5(B:Nat)(w0 w:World)(d M T:Nat)(lg:Int)(room limit most:Nat)(u:Ending)(w':World): Prop:=
 ∃ e st l t Mt,u=.returned (.tuple #[.pointer (some ⟨e,0,none⟩),.int .i64 0])∧bJ B w0 w' e lg room limit most (jl st d M l t Mt T)∧Below w.heap.size w w'
theorem zu(B:Nat)(w0 w:World)(d M room T:Nat)(lg:Int)(most limit:Nat)(hB:B≤w0.heap.size)(hbel:Below B w0 w)(hD:bq w d M Sr room T 0)(hlo:∀ r,aL d M Sr r→B≤r)(he:V.cu w0∧0 < B)(hlg:V.dh false 0 lg=true)(hm1:1≤most)(hm2:most≤65536)(hl1:1≤limit)(hl2:limit≤1048576):
  Calls Tryz.prog 8 #[.pointer (some ⟨d,0,none⟩),.agg (gY lg most limit)] w (M5 B w0 w d M T lg room limit most):=by
 obtain⟨y,hy⟩:∃ y,y=w.heap.size:=⟨_,rfl⟩
 have o0:=Own.eX w hy 32 (gY lg most limit)
 have HD:=zh (zN hbel (zN hD (zN hlo (zN he (zN hlg o0)))))
 clear hbel hD hlo he hlg o0
 unfold gY
 go_enter Tryz.func8,Tryz.ntmps8
 go_wp2_with fail
 rw[←hy]
 clear hy
 refine bC (Own w [(y,32,gY lg most limit)]) HD.out.2.2.2.2.2 ?_
 intro w1 o1
 refine(jv w1 d M _ _ room T 0 (HD.out.2.1.call o1.bel) (by rfl) (by decide)).mono ?_
 rintro u w2 ⟨rfl,hb2⟩
 have h2:=o1.call hb2
 have z0_0:=h2.cell 0 0 rfl rfl;have z0_1:=h2.cell 0 1 rfl rfl;have z0_2:=h2.cell 0 2 rfl rfl;have z0_3:=h2.cell 0 3 rfl rfl;have z0_4:=h2.cell 0 4 rfl rfl
 obtain⟨z,hz⟩:∃ z,z=w2.heap.size:=⟨_,rfl⟩
 have o3:=h2.alloc hz 81 #[.int .i64 (-1),.pointer none,.pointer none,.pointer none,.bool false,.int .i64 0,.int .i64 0,.int .i64 0,.bool false]
 have H2:=zh o3
 clear o1 hb2 h2 o3
 go_upto_region 8 with (fail)
 rw[←hz]
 clear hz z0_0 z0_1 z0_2 z0_3 z0_4
 refine aH (Own w [(y,32,gY lg most limit),(z,81,#[.int .i64 (-1),.pointer none,.pointer none,.pointer none,.bool false,.int .i64 0,.int .i64 0,.int .i64 0,.bool false])]) H2.out ?_
 intro w3 o3
 have z2:=o3.cell 0 2 rfl rfl
 have H3:=zh o3
 clear o3
 go_wp2_with fail
 refine(Nk w3 most hm1 hm2).mono ?_
 rintro u w4 ⟨t,Mt,rfl,hMt,ht,hT4,hb4⟩
 have h4:=H3.out.call hb4
 have z0_0:=h4.cell 0 0 rfl rfl;have z0_1:=h4.cell 0 1 rfl rfl;have z0_2:=h4.cell 0 2 rfl rfl;have z0_3:=h4.cell 0 3 rfl rfl;have z0_4:=h4.cell 0 4 rfl rfl;have z1_0:=h4.cell 1 0 rfl rfl;have z1_1:=h4.cell 1 1 rfl rfl;have z1_2:=h4.cell 1 2 rfl rfl;have z1_3:=h4.cell 1 3 rfl rfl;have z1_4:=h4.cell 1 4 rfl rfl;have z1_5:=h4.cell 1 5 rfl rfl;have z1_6:=h4.cell 1 6 rfl rfl;have z1_7:=h4.cell 1 7 rfl rfl;have z1_8:=h4.cell 1 8 rfl rfl
 have zf1:=h4.free 1 rfl
 have hzt:z < w3.heap.size:=H3.out.lt _ (List.mem_cons_of_mem _ (List.mem_singleton.2 rfl))
 have H4:=zh (zN h4 (zN hT4 (zN hMt ht)))
 clear z2 h4 hb4 hT4 hMt ht
 go_upto_region 11 with (fail)
 refine aH (fun wx=>Own w [(y,32,gY lg most limit),(z,81,#[.int .i64 (-1),.pointer none,.pointer none,.pointer (some ⟨t,0,none⟩),.bool false,.int .i64 0,.int .i64 0,.int .i64 0,.bool false])] wx∧Keeps (fun q=>q=z) w4 wx) ⟨H4.out.1.set 1 3 rfl _,(Keeps.refl (fun q=>q=z) w4).setCell (fun _=>rfl) _⟩ ?_
 rintro w5 ⟨h5,k5⟩
 clear z0_0 z0_1 z0_2 z0_3 z0_4 z1_0 z1_1 z1_2 z1_3 z1_4 z1_5 z1_6 z1_7 z1_8 zf1
 have z0_0:=h5.cell 0 0 rfl rfl;have z0_1:=h5.cell 0 1 rfl rfl;have z0_2:=h5.cell 0 2 rfl rfl;have z0_3:=h5.cell 0 3 rfl rfl;have z0_4:=h5.cell 0 4 rfl rfl
 have H5:=zh (zN h5 k5)
 have hD5:=HD.out.2.1.call h5.bel
 clear h5 k5
 go_wp2_with fail
 refine(Jh w5 d M room T lg (fun _=>[]) hD5 HD.out.2.2.2.2.1).mono ?_
 rintro u w6 ⟨st,rfl,hst,hS6,hb6⟩
 have h6:=H5.out.1.call hb6
 clear z0_0 z0_1 z0_2 z0_3 z0_4 hD5
 have z0_0:=h6.cell 0 0 rfl rfl;have z0_1:=h6.cell 0 1 rfl rfl;have z0_2:=h6.cell 0 2 rfl rfl;have z0_3:=h6.cell 0 3 rfl rfl;have z0_4:=h6.cell 0 4 rfl rfl;have z1_0:=h6.cell 1 0 rfl rfl;have z1_1:=h6.cell 1 1 rfl rfl;have z1_2:=h6.cell 1 2 rfl rfl;have z1_3:=h6.cell 1 3 rfl rfl;have z1_4:=h6.cell 1 4 rfl rfl;have z1_5:=h6.cell 1 5 rfl rfl;have z1_6:=h6.cell 1 6 rfl rfl;have z1_7:=h6.cell 1 7 rfl rfl;have z1_8:=h6.cell 1 8 rfl rfl
 have zf1:=h6.free 1 rfl
 have H6:=zh (zN h6 (zN hS6 (zN hst (H5.out.2.trans' (Keeps.of_below hb6)))))
 clear h6 hS6 hst hb6
 go_upto_region 15 with (fail)
 refine aH (fun wx=>Own w [(y,32,gY lg most limit),(z,81,#[.int .i64 (-1),.pointer (some ⟨st,0,none⟩),.pointer none,.pointer (some ⟨t,0,none⟩),.bool false,.int .i64 0,.int .i64 0,.int .i64 0,.bool false])] wx∧Keeps (fun q=>q=z) w6 wx) ⟨H6.out.1.set 1 1 rfl _,(Keeps.refl (fun q=>q=z) w6).setCell (fun _=>rfl) _⟩ ?_
 rintro w7 ⟨h7,k7⟩
 clear z0_0 z0_1 z0_2 z0_3 z0_4 z1_0 z1_1 z1_2 z1_3 z1_4 z1_5 z1_6 z1_7 z1_8 zf1
 have z0_0:=h7.cell 0 0 rfl rfl;have z0_1:=h7.cell 0 1 rfl rfl;have z0_2:=h7.cell 0 2 rfl rfl;have z0_3:=h7.cell 0 3 rfl rfl;have z0_4:=h7.cell 0 4 rfl rfl
 have H7:=zh (zN h7 k7)
 have hD7:=HD.out.2.1.call h7.bel
 clear h7 k7
 go_wp2_with fail
 refine(Kg w7 d M room T limit hD7 hl1 hl2).mono ?_
 rintro u w8 ⟨l,rfl,hl,hL8,hb8⟩
 have h8:=H7.out.1.call hb8
 clear z0_0 z0_1 z0_2 z0_3 z0_4 hD7
 have z0_0:=h8.cell 0 0 rfl rfl;have z0_1:=h8.cell 0 1 rfl rfl;have z0_2:=h8.cell 0 2 rfl rfl;have z0_3:=h8.cell 0 3 rfl rfl;have z0_4:=h8.cell 0 4 rfl rfl;have z1_0:=h8.cell 1 0 rfl rfl;have z1_1:=h8.cell 1 1 rfl rfl;have z1_2:=h8.cell 1 2 rfl rfl;have z1_3:=h8.cell 1 3 rfl rfl;have z1_4:=h8.cell 1 4 rfl rfl;have z1_5:=h8.cell 1 5 rfl rfl;have z1_6:=h8.cell 1 6 rfl rfl;have z1_7:=h8.cell 1 7 rfl rfl;have z1_8:=h8.cell 1 8 rfl rfl
 have zf1:=h8.free 1 rfl
 have H8:=zh (zN h8 (zN hL8 (zN hl (H7.out.2.trans' (Keeps.of_below hb8)))))
 clear h8 hL8 hl hb8
 go_upto_region 18 with (fail)
 refine aH (fun wx=>Own w [(y,32,gY lg most limit),(z,81,#[.int .i64 (-1),.pointer (some ⟨st,0,none⟩),.pointer (some ⟨l,0,none⟩),.pointer (some ⟨t,0,none⟩),.bool false,.int .i64 0,.int .i64 0,.int .i64 0,.bool false])] wx∧Keeps (fun q=>q=z) w8 wx) ⟨H8.out.1.set 1 2 rfl _,(Keeps.refl (fun q=>q=z) w8).setCell (fun _=>rfl) _⟩ ?_
 rintro w9 ⟨h9,k9⟩
 clear z0_0 z0_1 z0_2 z0_3 z0_4 z1_0 z1_1 z1_2 z1_3 z1_4 z1_5 z1_6 z1_7 z1_8 zf1
 have z0_0:=h9.cell 0 0 rfl rfl;have z0_1:=h9.cell 0 1 rfl rfl;have z0_2:=h9.cell 0 2 rfl rfl;have z0_3:=h9.cell 0 3 rfl rfl;have z0_4:=h9.cell 0 4 rfl rfl;have z1_0:=h9.cell 1 0 rfl rfl;have z1_1:=h9.cell 1 1 rfl rfl;have z1_2:=h9.cell 1 2 rfl rfl;have z1_3:=h9.cell 1 3 rfl rfl;have z1_4:=h9.cell 1 4 rfl rfl;have z1_5:=h9.cell 1 5 rfl rfl;have z1_6:=h9.cell 1 6 rfl rfl;have z1_7:=h9.cell 1 7 rfl rfl;have z1_8:=h9.cell 1 8 rfl rfl
 have H9:=zh (zN h9 k9)
 have hzne:z≠st:=fun e=>by have:=H6.out.2.2.1;have:=H5.out.1.lt _ (List.mem_cons_of_mem _ (List.mem_singleton.2 rfl));omega
 have hS9:=H6.out.2.1.keep (H8.out.2.2.2.trans' k9) (fun q hq hz=>by
  rcases hq with rfl | hq
  ·exact hzne hz.symm
  ·cases hq)
 clear h9 k9 hzne
 go_wp2_with fail
 refine(zn w9 st d 0 0 0 false 0 lg none 0 0 (fun _=>[]) hS9 (by omega)).mono ?_
 rintro u w10 ⟨A8,c8,rfl,-,h80,hb10⟩
 obtain⟨rfl,rfl⟩:=h80 rfl
 unfold aP
 have h10:=H9.out.1.call hb10
 have HS:=zh (zN hS9 hb10)
 clear z0_0 z0_1 z0_2 z0_3 z0_4 z1_0 z1_1 z1_2 z1_3 z1_4 z1_5 z1_6 z1_7 z1_8 h80 hb10 hS9
 obtain⟨v,hv⟩:∃ v,v=w10.heap.size:=⟨_,rfl⟩
 have o11:=h10.alloc hv 92 (aP 0 0 0 false 0 lg none 0 0)
 have H10:=zh (zN o11 (Keeps.of_below (S:=fun q=>q=z) ((Below.refl w10.heap.size w10).alloc (Nat.le_refl _) (.cells (aP 0 0 0 false 0 lg none 0 0) 92))))
 clear o11 h10
 go_upto_region 19 with (fail)
 rw[←hv]
 clear hv
 refine aH (fun wx=>Own w [(y,32,gY lg most limit),(z,81,#[.int .i64 (-1),.pointer (some ⟨st,0,none⟩),.pointer (some ⟨l,0,none⟩),.pointer (some ⟨t,0,none⟩),.bool false,.int .i64 0,.int .i64 0,.int .i64 0,.bool false]),(v,92,aP 0 0 0 false 0 lg none 0 0)] wx∧Keeps (fun q=>q=z) w10 wx) H10.out ?_
 rintro w11 ⟨o11,k11⟩
 have hS:Own w [(y,32,gY lg most limit),(v,92,aP 0 0 0 false 0 lg none 0 0)] w11.drew:=o11.drew.sub (by simp)
 have o12:=o11.drew
 have z1_4:=o11.cell 1 4 rfl rfl
 have z1_5:=o11.cell 1 5 rfl rfl
 have z1_6:=o11.cell 1 6 rfl rfl
 have z1_7:=o11.cell 1 7 rfl rfl
 have zf1:=o11.free 1 rfl
 have H12:=zh (zN o11 k11)
 clear o11 o12 k11
 have hS:(Own w [(y,32,gY lg most limit),(v,92,aP 0 0 0 false 0 lg none 0 0)]) (w11.drew):=hS
 refine av (Own w [(y,32,gY lg most limit),(v,92,aP 0 0 0 false 0 lg none 0 0)]) (by kernel_rfl) hS ?_
 refine zB [0,1,2,3,4,5,6,7] ?_
 iterate 8 (refine zV ?_ ?_ hS ?_;rotate_left;(intro w' hSw;have y2:=hSw.cell 1 2 rfl rfl;have y3:=hSw.cell 1 3 rfl rfl;have y4:=hSw.cell 1 4 rfl rfl;have y5:=hSw.cell 1 5 rfl rfl;go_simp<;>with_reducible rfl);try simp only[zP])
 refine zE ?_
 refine zC 8 fun K HK=>?_
 go_simp
 obtain⟨w13,hw13⟩:∃ wz,wz=((((w11.setCell ⟨z,4,none⟩ (.bool false)).setCell ⟨z,5,none⟩ (.int .i64 0)).setCell ⟨z,6,none⟩ (.int .i64 lg))).drew:=⟨_,rfl⟩
 rw[←hw13]
 have o13:Own w [(y,32,gY lg most limit),(z,81,#[.int .i64 (-1),.pointer (some ⟨st,0,none⟩),.pointer (some ⟨l,0,none⟩),.pointer (some ⟨t,0,none⟩),.bool false,.int .i64 0,.int .i64 lg,.int .i64 0,.bool false]),(v,92,aP 0 0 0 false 0 lg none 0 0)] w13:=by rw[hw13];exact (((H12.out.1.set 1 4 rfl _).set 1 5 rfl _).set 1 6 rfl _).drew
 have k13:Keeps (fun q=>q=z) w10 w13:=H12.out.2.trans' (by rw[hw13];exact (jT [.bool false,.int .i64 0,.int .i64 lg] 4 w11).drew)
 have hS13:Own w [(y,32,gY lg most limit),(v,92,aP 0 0 0 false 0 lg none 0 0)] w13:=o13.sub (by simp)
 clear z1_4 z1_5 z1_6 z1_7 zf1 hw13
 have z1_7:=o13.cell 1 7 rfl rfl
 have zf1:=o13.free 1 rfl
 have H13:=zh (zN o13 k13)
 clear o13 k13
 go_wp2_with fail
 refine HK.out.zt (Own w [(y,32,gY lg most limit),(v,92,aP 0 0 0 false 0 lg none 0 0)]) (fun _ h=>h) (hS13) ?_
 clear HK hS
 intro hS
 try simp only[zP]
 refine zB [9,10] ?_
 iterate 2 (refine zV ?_ ?_ hS ?_;rotate_left;(intro w' hSw;go_simp<;>with_reducible rfl);try simp only[zP])
 refine zE ?_
 refine zC 11 fun K HK=>?_
 go_simp
 obtain⟨w14,hw14⟩:∃ wz,wz=w13.setCell ⟨z,7,none⟩ (.int .i64 0):=⟨_,rfl⟩
 rw[←hw14]
 have o14:Own w [(y,32,gY lg most limit),(z,81,#[.int .i64 (-1),.pointer (some ⟨st,0,none⟩),.pointer (some ⟨l,0,none⟩),.pointer (some ⟨t,0,none⟩),.bool false,.int .i64 0,.int .i64 lg,.int .i64 0,.bool false]),(v,92,aP 0 0 0 false 0 lg none 0 0)] w14:=by rw[hw14];exact H13.out.1.set 1 7 rfl _
 have k14:Keeps (fun q=>q=z) w10 w14:=H13.out.2.trans' (by rw[hw14];exact (Keeps.refl (fun q=>q=z) w13).setCell (fun _=>rfl) _)
 have hS14:Own w [(y,32,gY lg most limit),(v,92,aP 0 0 0 false 0 lg none 0 0)] w14:=o14.sub (by simp)
 have H14:=zh (zN o14 k14)
 clear z1_7 zf1 hw14 o14 k14
 go_wp2_with fail
 refine HK.out.zt (Own w [(y,32,gY lg most limit),(v,92,aP 0 0 0 false 0 lg none 0 0)]) (fun _ h=>h) (hS14) ?_
 clear HK hS
 intro hS
 try simp only[zP]
 refine zD ?_
 try simp only[zP]
 clear hS hS13 hS14
 have hE:bJ B w0 w14 z lg room limit most (jl st d M l t Mt T):=by
  have k8:Keeps (fun q=>q=z) w8 w14:=(H9.out.2.trans' (Keeps.of_below HS.out.2)).trans' H14.out.2
  have k6:Keeps (fun q=>q=z) w6 w14:=H8.out.2.2.2.trans' k8
  have k4:Keeps (fun q=>q=z) w4 w14:=H6.out.2.2.2.trans' k6
  have hz3:z < w3.heap.size:=H3.out.lt _ (List.mem_cons_of_mem _ (List.mem_singleton.2 rfl))
  have hz5:z < w5.heap.size:=H5.out.1.lt _ (List.mem_cons_of_mem _ (List.mem_singleton.2 rfl))
  have hz7:z < w7.heap.size:=H7.out.1.lt _ (List.mem_cons_of_mem _ (List.mem_singleton.2 rfl))
  have hs3:=H3.out.bel.size
  have hs5:=H5.out.1.bel.size
  have hs7:=H7.out.1.bel.size
  have hMt:=H4.out.2.2.1
  have htt:=H4.out.2.2.2
  have hst:=H6.out.2.2.1
  have hll:=H8.out.2.2.1
  have hBw:B≤w.heap.size:=Nat.le_trans hB HD.out.1.size
  have hzg:w.heap.size≤z:=H14.out.1.geq 1 rfl
  exact {
   blk:=H14.out.1.get 1 rfl
   dt:=HD.out.2.1.call H14.out.1.bel
   sto:=H6.out.2.1.keep k6 (fun q hq e=>by
    rcases hq with rfl | hq
    ·omega
    ·cases hq)
   log:=H8.out.2.1.keep k8 (fun q hq e=>by
    rcases hq with rfl | hq
    ·omega
    ·cases hq)
   tab:=H4.out.2.1.keep k4 (fun q hq e=>by
    rcases hq with rfl | rfl | hq
    ·omega
    ·omega
    ·cases hq)
   mne:=by
    have h1:M < w.heap.size:=HD.out.2.1.dH (.inr (.inl rfl))
    show M≠Mt
    omega
   lo:=by
    intro r hr
    rcases hr with hr | (hr | hr) | (hr | hr) | (hr | hr | hr) | hr
    ·exact HD.out.2.2.1 r hr
    ·have:r=st:=hr
     omega
    ·cases hr
    ·have:r=l:=hr
     omega
    ·cases hr
    ·have:r=t:=hr
     omega
    ·have:r=Mt:=hr
     omega
    ·cases hr
    ·omega
   bel:=HD.out.1.trans (H14.out.1.bel.mono hBw)
   hB:=hB
   fso:=fun j hj=>absurd hj (Nat.not_lt_zero _)
   noN:=rfl
   noS:=fun j _ _=>rfl
   plo:=⟨fun j hj=>absurd hj (Nat.not_lt_zero _),List.Pairwise.nil,fun j hj=>absurd hj (Nat.not_lt_zero _)⟩
   inc:=List.Pairwise.nil
   sm:=fun p hp=>by cases hp
   mark:=HD.out.2.2.2.2.1
   fwd:=.inl rfl
   rn:=Nat.le_refl _
   qq:=Nat.le_refl _
   fsl:=fun j hj=>absurd hj (Nat.not_lt_zero _)
   nm:=Nat.zero_le _
   he:=HD.out.2.2.2.1 }
 have HE:=zh hE
 clear hE hzt
 go_upto_region 20 with (fail)
 have hS:=H14.out.1.drew
 have hE14:=HE.out.call (Below.refl w14.heap.size w14).drew
 have HE2:=zh hE14
 clear hE14
 have hS:(Own w [(y,32,gY lg most limit),(z,81,#[.int .i64 (-1),.pointer (some ⟨st,0,none⟩),.pointer (some ⟨l,0,none⟩),.pointer (some ⟨t,0,none⟩),.bool false,.int .i64 0,.int .i64 lg,.int .i64 0,.bool false]),(v,92,aP 0 0 0 false 0 lg none 0 0)]) (w14.drew):=hS
 refine av (Own w [(y,32,gY lg most limit),(z,81,#[.int .i64 (-1),.pointer (some ⟨st,0,none⟩),.pointer (some ⟨l,0,none⟩),.pointer (some ⟨t,0,none⟩),.bool false,.int .i64 0,.int .i64 lg,.int .i64 0,.bool false]),(v,92,aP 0 0 0 false 0 lg none 0 0)]) (by kernel_rfl) hS ?_
 refine zB [0,1,2,3,5,6] ?_
 iterate 6 (refine zV ?_ ?_ hS ?_;rotate_left;(intro w' hSw;have y1:=hSw.cell 2 1 rfl rfl;have y2:=hSw.cell 1 2 rfl rfl;go_simp<;>with_reducible rfl);try simp only[zP])
 refine zE ?_
 refine zC 4 fun K HK=>?_
 go_simp
 refine(vW w14.drew l d limit 0 0 0 none (fun _=>0) false HE2.out.log).mono ?_
 rintro u w15 ⟨rfl,hb15⟩
 have h15:=hS.call hb15
 have H15:=zh (HE2.out.call hb15)
 clear hb15
 go_wp2_with fail
 refine HK.out.zt (Own w [(y,32,gY lg most limit),(z,81,#[.int .i64 (-1),.pointer (some ⟨st,0,none⟩),.pointer (some ⟨l,0,none⟩),.pointer (some ⟨t,0,none⟩),.bool false,.int .i64 0,.int .i64 lg,.int .i64 0,.bool false]),(v,92,aP 0 0 0 false 0 lg none 0 0)]) (fun _ h=>h) (h15) ?_
 clear HK hS
 intro hS
 try simp only[zP]
 refine zB [7,8,9,10,11,12,14,15] ?_
 iterate 8 (refine zV ?_ ?_ hS ?_;rotate_left;(intro w' hSw;have y1:=hSw.cell 2 1 rfl rfl;have y2:=hSw.cell 1 2 rfl rfl;go_simp<;>with_reducible rfl);try simp only[zP])
 refine zE ?_
 refine zC 13 fun K HK=>?_
 go_simp
 refine(AO w15 l d limit none 0 (fun _=>0) 0 0 0 false H15.out.log).mono ?_
 rintro u w16 ⟨rfl,hb16⟩
 have h16:=h15.call hb16
 have H16:=zh (H15.out.call hb16)
 clear hb16 h15
 go_wp2_with fail
 refine HK.out.zt (Own w [(y,32,gY lg most limit),(z,81,#[.int .i64 (-1),.pointer (some ⟨st,0,none⟩),.pointer (some ⟨l,0,none⟩),.pointer (some ⟨t,0,none⟩),.bool false,.int .i64 0,.int .i64 lg,.int .i64 0,.bool false]),(v,92,aP 0 0 0 false 0 lg none 0 0)]) (fun _ h=>h) (h16) ?_
 clear HK hS
 intro hS
 try simp only[zP]
 refine zB [16,17] ?_
 iterate 2 (refine zV ?_ ?_ hS ?_;rotate_left;(intro w' hSw;go_simp<;>with_reducible rfl);try simp only[zP])
 refine zE ?_
 refine zD ?_
 try simp only[zP]
 clear h16
 have H17:=zh hS
 clear hS
 go_upto_region 22 with (fail)
 have hS:=H17.out.drew
 have hE17:=H16.out.call (Below.refl w16.heap.size w16).drew
 have HE3:=zh hE17
 clear hE17
 have hS:(Own w [(y,32,gY lg most limit),(z,81,#[.int .i64 (-1),.pointer (some ⟨st,0,none⟩),.pointer (some ⟨l,0,none⟩),.pointer (some ⟨t,0,none⟩),.bool false,.int .i64 0,.int .i64 lg,.int .i64 0,.bool false]),(v,92,aP 0 0 0 false 0 lg none 0 0)]) (w16.drew):=hS
 refine av (Own w [(y,32,gY lg most limit),(z,81,#[.int .i64 (-1),.pointer (some ⟨st,0,none⟩),.pointer (some ⟨l,0,none⟩),.pointer (some ⟨t,0,none⟩),.bool false,.int .i64 0,.int .i64 lg,.int .i64 0,.bool false]),(v,92,aP 0 0 0 false 0 lg none 0 0)]) (by kernel_rfl) hS ?_
 refine zB [0,1,2,3,4,5,6,11] ?_
 iterate 8 (refine zV ?_ ?_ hS ?_;rotate_left;(intro w' hSw;have y1:=hSw.cell 2 1 rfl rfl;have y2:=hSw.cell 1 2 rfl rfl;go_simp<;>with_reducible rfl);try simp only[zP])
 refine zE ?_
 refine zC 7 fun K HK=>?_
 go_simp
 refine(vW w16.drew l d limit 0 0 0 none (fun _=>0) false HE3.out.log).mono ?_
 rintro u w18 ⟨rfl,hb18⟩
 have h18:=hS.call hb18
 have H18:=zh (zN (HE3.out.call hb18) h18.bel)
 clear hb18
 go_wp2_with fail
 refine HK.out.zt (Own w [(y,32,gY lg most limit),(z,81,#[.int .i64 (-1),.pointer (some ⟨st,0,none⟩),.pointer (some ⟨l,0,none⟩),.pointer (some ⟨t,0,none⟩),.bool false,.int .i64 0,.int .i64 lg,.int .i64 0,.bool false]),(v,92,aP 0 0 0 false 0 lg none 0 0)]) (fun _ h=>h) (h18) ?_
 clear HK hS
 intro hS
 try simp only[zP]
 have hw0:IntKind.i64.wrap 0=0:=by decide
 refine zB [8,9,10] ?_
 iterate 3 (refine zV ?_ ?_ hS ?_;rotate_left;(intro w' hSw;go_simp<;>with_reducible rfl);try simp only[zP])
 refine zE ?_
 refine zD ?_
 try simp only[zP]
 clear h18 hS
 go_wp2_with fail
 go_loopw [121] (fun i wr=>i=.int .i64 0∧wr=w18) (fun i _=>0)
 case atStart=>exact ⟨rfl,rfl⟩
 case round=>
  obtain⟨rfl,rfl⟩:=hrel
  go_wp2_with fail
  go_ret2
  exact⟨z,st,l,t,Mt,rfl,H18.out.1,H18.out.2⟩
end
section
open Go.RowKit Go.Maps
theorem bJ.dH{B:Nat}{w0 w:World}{e:Nat}{lg:Int}{room limit most:Nat}{x:dQ}(h:bJ B w0 w e lg room limit most x){r:Nat}(hr:IX x e r): r < w.heap.size:=by
 rcases hr with hr | hr | hr | hr | hr
 ·exact h.dt.dH hr
 ·rcases hr with rfl | hr
  ·exact h.sto.blk.lt
  ·exact (h.sto.row.lt r (by rw[lZ];exact hr)).2
 ·exact h.log.dH hr
 ·exact h.tab.dH hr
 ·rw[hr];exact h.blk.lt
theorem Bo{w:World}{y:Nat}{tm v:Int}{w':World}(hy:y=w.heap.size)(h:Own w [(y,35,#[.string bD,.int .i64 tm,.int .i64 v])] w'): jN w' (fun q=>q=y) (some ⟨y,0,none⟩) tm v:=
 ⟨y,0,rfl,rfl,h.cell 0 0 rfl rfl,h.cell 0 1 rfl rfl,h.cell 0 2 rfl rfl⟩
theorem GN{w:World}(h:V.cu w): 0 < w.heap.size:=by
 rcases Nat.lt_or_ge 0 w.heap.size with h1 | h1
 ·exact h1
 ·unfold V.cu World.cell? at h
  simp only[Array.getElem?_eq_none h1] at h
  cases h
theorem MU(w:World)(hv:V.cu w): Calls Tryz.prog 6 #[] w fun u w'=>u=.returned (.bool true)∧Below w.heap.size w w':=by
 have HV:=zh hv
 clear hv
 go_enter Tryz.func6,Tryz.ntmps6
 go_wp2_with fail
 refine(NK w 1048576 (by decide)).mono ?_
 rintro u w1 ⟨d,M,rfl,hM,hd,hD,hb1⟩
 have H1:=zh (zN hM (zN hd (zN hD hb1)))
 clear hM hd hD hb1
 go_wp2_with fail
 refine(zu w.heap.size w w1 d M 1048576 0 5 10 100 (Nat.le_refl _) H1.out.2.2.2 H1.out.2.2.1 (fun r hr=>by
  rcases hr with rfl | rfl | ⟨s,a,ha,-⟩
  ·exact H1.out.2.1
  ·exact H1.out.1
  ·cases ha) ⟨HV.out,GN HV.out⟩ (by decide) (by decide) (by decide) (by decide) (by decide)).mono ?_
 rintro u w2 ⟨e,st,l,t,Mt,rfl,hE,hb2⟩
 have H2:=zh hE
 clear hE hb2
 go_wp2_with fail
 obtain⟨y,hy⟩:∃ y,y=w2.heap.size:=⟨_,rfl⟩
 have hY:=zh hy
 rw[←hy]
 clear hy
 refine bC (Own w2 [(y,35,#[.string bD,.int .i64 7,.int .i64 9])]) (Own.eX w2 hY.out _ _) ?_
 intro w3 o3
 have hx:aQ (jl st d M l t Mt 0).pl (jl st d M l t Mt 0).K ++ (jl st d M l t Mt 0).L=[]:=rfl
 refine(xD (H2.out.call o3.bel) (fun q=>q=y) (some ⟨y,0,none⟩) 1 7 9 (Bo hY.out o3) (fun r hr hf=>by
  have h1:=H2.out.dH hf
  have h2:=hY.out
  have h3:r=y:=hr
  omega) (by decide) (by decide) (by rw[hx];intro p hp;cases hp) (fun h=>by cases h) (fun h=>by cases h) (by simp[jl]) (by decide) (by simp[jl]) (by simp[jl]) (by simp[jl]) (by simp[jl]) (by decide) (by decide) (by simp[jl]) (by simp[jl]) (by simp[jl]) (by decide)).mono ?_
 clear o3 hx
 rintro u w4 ⟨rfl,p',Al,cl,fs,kl,sz,At,ct,-,-,hE4⟩
 have H4:=zh hE4
 clear hE4
 go_wp2_with fail
 have cc:Calls Tryz.prog 12 #[.pointer (some ⟨e,0,none⟩),.agg (qV 10)] w4 (Bq w4 [⟨7,9,0⟩]):=wU H4.out 10 (by decide) (by decide) (by
  intro p hp
  have hp:p ∈ [(⟨7,9,0⟩:Pt)]:=hp
  rw[List.mem_singleton] at hp
  rw[hp]
  decide) (by
  intro p hp
  have hp:p ∈ [(⟨7,9,0⟩:Pt)]:=hp
  rw[List.mem_singleton] at hp
  rw[hp]
  decide) (by simp[jl]) (by simp[jl]) (by simp[jl]) (by simp[jl,aQ])
 refine cc.mono ?_
 clear cc
 rintro u w5 ⟨A5,c5,rfl,hr5,hb5⟩
 have hb05:=V.ay H4.out.bel hb5
 obtain⟨A',c',e1,-,hg⟩:=aA hr5
 injection e1 with ea eb ec
 obtain⟨g,hA',-,hlt⟩:=hg (by decide)
 have hA5:A5=some ⟨g,0,none⟩:=ea.trans hA'
 subst hA5
 have z4:w5.cell? ⟨g,4,none⟩=some (.int .u64 9):=by
  have:=World.ownsRow.cells hr5 (g:=g) rfl 4 (.int .u64 9) rfl
  rwa [vL] at this
 have H5:=zh hb05
 have hl1:([(⟨7,9,0⟩:Pt)]:List Pt).length=1:=rfl
 rw[hl1]
 clear hr5 hb5 hb05 hg ea eb ec hA' hlt hl1
 go_wp2_with fail
 go_ret
 exact⟨rfl,H5.out⟩
end
section
open Go.RowKit Go.Maps
def vB(t:Nat): List Pt:=(List.range t).map fun j=>⟨(j:Nat),(j:Nat),(j:Nat)⟩
theorem Ma(t:Nat): vB (t+1)=vB t ++ [⟨(t:Nat),(t:Nat),(t:Nat)⟩]:=by unfold vB;rw[List.range_succ,List.map_append];rfl
theorem DW(t:Nat): (vB t).length=t:=by unfold vB;simp
theorem yJ{t:Nat}{p:Pt}(h:p ∈ vB t): ∃ j:Nat,j < t∧p.t=(j:Nat)∧p.v=(j:Nat):=by
 unfold vB at h
 obtain⟨j,hj,rfl⟩:=List.mem_map.1 h
 exact⟨j,List.mem_range.1 hj,rfl,rfl⟩
structure nJ(B:Nat)(w0 w:World)(e mo t:Nat)(x:dQ): Prop where
 eng:bJ B w0 w e 1000 16777216 500 mo x
 cnt:t=x.K*mo+x.n
 pts:aQ x.pl x.K ++ x.L=vB t
 sq:x.q=t
 nx:x.nx=t
 u:x.U≤t
 kl:x.kl≤t
 sz:x.sz≤72*t
 T:x.T≤72*t+8700*x.K
 G:x.G≤2*t+5*x.K
 k:x.K≤t
 la:x.s=true→x.la+1=(t:Nat)
theorem nJ.call{B:Nat}{w0 w w':World}{e mo t:Nat}{x:dQ}(h:nJ B w0 w e mo t x)(hb:Below w.heap.size w w'): nJ B w0 w' e mo t x:={ h with eng:=h.eng.call hb }
theorem nJ.hlt{B:Nat}{w0 w:World}{e mo t:Nat}{x:dQ}(h:nJ B w0 w e mo t x): ∀ p ∈ aQ x.pl x.K ++ x.L,p.t < (t:Nat):=by
 rw[h.pts]
 intro p hp
 obtain⟨j,hj,h1,-⟩:=yJ hp
 rw[h1]
 omega
theorem nJ.late{B:Nat}{w0 w:World}{e mo t:Nat}{x:dQ}(h:nJ B w0 w e mo t x)(hs:x.s=true): V.oU x.s x.la 1000≤(t:Nat):=by
 have h1:=h.la hs
 unfold V.oU
 split<;>omega
theorem xO{B:Nat}{w0 w w3:World}{e mo t y:Nat}{x:dQ}(h:nJ B w0 w e mo t x)(ht:t≤62)(hmo:mo≤32)(hn:x.n < mo)(hy:y=w.heap.size)(o:Own w [(y,35,#[.string bD,.int .i64 (t:Nat),.int .i64 (t:Nat)])] w3):
  Calls Tryz.prog 9 #[.pointer (some ⟨e,0,none⟩),.slice (some ⟨y,0,none⟩) 1 1] w3 fun u w'=>u=.returned (.int .i64 0)∧∃ x',nJ B w0 w' e mo (t+1) x'∧x'.n=x.n+1:=by
 have hE:=h.eng.call o.bel
 have hu:=h.u
 have hkl:=h.kl
 have hsz:=h.sz
 have hT:=h.T
 have hG:=h.G
 have hk:=h.k
 refine(xD hE (fun q=>q=y) (some ⟨y,0,none⟩) 1 (t:Nat) (t:Nat) (Bo hy o) (fun r hr hf=>by
  have h1:=h.eng.dH hf
  have h3:r=y:=hr
  omega) (by omega) (by omega) h.hlt h.late (fun hs=>by have:=h.la hs;omega) hn (by omega) (by omega) (by rw[h.sq];omega) (by omega) (by omega) (by decide) (by decide) (by omega) (by omega) (by rw[h.nx];omega) (by decide)).mono ?_
 rintro u w' ⟨rfl,p',Al,cl,fs,kl,sz,At,ct,h1,h2,hE'⟩
 refine⟨rfl,_,⟨hE',?_,?_,?_,?_,?_,?_,?_,?_,?_,?_,?_⟩,rfl⟩
 ·show t+1=x.K*mo+(x.n+1)
  have:=h.cnt
  omega
 ·show aQ x.pl x.K ++ (x.L ++ [⟨(t:Nat),(t:Nat),(x.q:Nat)⟩])=_
  rw[←List.append_assoc,h.pts,Ma,h.sq]
 ·show x.q+1=t+1
  rw[h.sq]
 ·show x.nx+1=t+1
  rw[h.nx]
 ·exact Nat.succ_le_succ hu
 ·show kl≤t+1
  omega
 ·show sz≤72*(t+1)
  omega
 ·show x.T+72≤72*(t+1)+8700*x.K
  omega
 ·show x.G+2≤2*(t+1)+5*x.K
  omega
 ·show x.K≤t+1
  omega
 ·intro _
  show (((t:Nat):Int))+1=((t+1:Nat):Int)
  omega
theorem Je{B:Nat}{w0 w w3:World}{e mo t y:Nat}{x:dQ}(h:nJ B w0 w e mo t x)(ht:t≤62)(hmo:mo≤32)(hn:x.n=mo)(hy:y=w.heap.size)(o:Own w [(y,35,#[.string bD,.int .i64 (t:Nat),.int .i64 (t:Nat)])] w3):
  Calls Tryz.prog 9 #[.pointer (some ⟨e,0,none⟩),.slice (some ⟨y,0,none⟩) 1 1] w3 fun u w'=>u=.returned (.int .i64 22)∧Below w3.heap.size w3 w':=
 ET (h.eng.call o.bel) (fun q=>q=y) (some ⟨y,0,none⟩) 1 (t:Nat) (t:Nat) (Bo hy o) (by omega) h.hlt h.late (by omega) (by omega)
theorem Js{B:Nat}{w0 w:World}{e mo t:Nat}{x:dQ}(h:nJ B w0 w e mo t x)(ht:t≤62)(h1:1≤mo)(hmo:mo≤32)(hn:x.n=mo):
  Calls Tryz.prog 11 #[.pointer (some ⟨e,0,none⟩),.int .i64 0] w fun u w'=>u=.returned (.int .i64 0)∧∃ x',nJ B w0 w' e mo t x'∧x'.n=0:=by
 have hT:=h.T
 have hG:=h.G
 have hc:=h.cnt
 have hk:x.K+1≤t:=by
  have:x.K*1≤x.K*mo:=Nat.mul_le_mul_left _ h1
  omega
 refine(IZ h.eng (by omega) (by omega) (by omega) (by omega) (by omega) (by decide) (by decide) (by rw[h.nx];omega) (by rw[h.sq];omega)).mono ?_
 rintro u w' ⟨rfl,p',A',cp',hE'⟩
 refine⟨rfl,_,⟨hE',?_,?_,h.sq,h.nx,h.u,h.kl,h.sz,?_,?_,hk,h.la⟩,rfl⟩
 ·show t=(x.K+1)*mo+0
  rw[Nat.succ_mul]
  omega
 ·show aQ (fZ x.pl x.K x.L) (x.K+1) ++ []=_
  rw[List.append_nil,yI]
  exact h.pts
 ·show x.T+5000+(100+53*(x.K+1))≤72*t+8700*(x.K+1)
  omega
 ·show x.G+5≤2*t+5*(x.K+1)
  omega
theorem QM{t mo k n:Nat}(h:t=k*mo+n)(hn:n≤mo)(hp:0 < t→0 < n)(h1:1≤mo): max 0 ((((t:Nat):Int)-1).tdiv ((mo:Nat):Int))=(k:Nat):=by
 rcases Nat.eq_zero_or_pos t with h0 | h0
 ·have hk:k=0:=by
   rcases Nat.eq_zero_or_pos k with hk | hk
   ·exact hk
   ·have:1*1≤k*mo:=Nat.mul_le_mul hk h1
    omega
  subst hk
  subst h0
  have:(((0:Nat):Int)-1).tdiv (mo:Nat)≤0:=by
   show (-(1:Int)).tdiv (mo:Nat)≤0
   rw[Int.neg_tdiv]
   have:(0:Int)≤(1:Int).tdiv (mo:Nat):=Int.tdiv_nonneg (by omega) (by omega)
   omega
  omega
 ·have h2:=hp h0
  have e:(((t:Nat):Int)-1)=(((k*mo+(n-1)):Nat):Int):=by omega
  rw[e]
  have e2:(((k*mo+(n-1):Nat)):Int).tdiv (mo:Nat)=(((k*mo+(n-1)) / mo:Nat):Int):=by
   rw[Int.tdiv_eq_ediv_of_nonneg (by omega)]
   exact(Int.natCast_ediv _ _).symm
  rw[e2,Nat.add_comm,Nat.add_mul_div_right _ _ (by omega),Nat.div_eq_of_lt (by omega)]
  omega
end
section
open Go.RowKit Go.Maps
theorem Gb(w:World)(hv:V.cu w)(a b:Int): Calls Tryz.prog 3 #[.int .i64 a,.int .i64 b] w fun u w'=>u=.returned (.bool true)∧Below w.heap.size w w':=by
 have HV:=zh hv
 have nt:∀ w:World,(Op.unary .not (.bool true)).run Tryz.prog w=.ok (.bool false) w:=fF
 clear hv
 obtain⟨mo,hmo⟩:∃ m:Nat,m=1+(a%32).toNat:=⟨_,rfl⟩
 obtain⟨nn,hnn⟩:∃ m:Nat,m=(b%64).toNat:=⟨_,rfl⟩
 have hA:wrap64 (1+bits .and .i64 a 31)=(mo:Nat):=by rw[Rl];unfold wrap64;omega
 have hB:bits .and .i64 b 63=(nn:Nat):=by rw[Q9];omega
 have hm1:1≤mo:=by omega
 have hm2:mo≤32:=by omega
 have hn2:nn≤63:=by omega
 clear hmo hnn
 go_enter Tryz.func3,Tryz.ntmps3
 go_wp2_with fail
 refine(MU w HV.out).mono ?_
 rintro u w1 ⟨rfl,hb1⟩
 have H1:=zh hb1
 clear hb1
 go_wp2_with fail
 rw[hA]
 clear hA hB
 refine(NK w1 16777216 (by decide)).mono ?_
 rintro u w2 ⟨d,M,rfl,hM,hd,hD,hb2⟩
 have H2:=zh (zN hM (zN hd (zN hD (V.ay H1.out hb2))))
 clear hM hd hD hb2
 go_wp2_with fail
 refine(zu w.heap.size w w2 d M 16777216 0 1000 mo 500 (Nat.le_refl _) H2.out.2.2.2 H2.out.2.2.1 (fun r hr=>by
  rcases hr with rfl | rfl | ⟨s,a,ha,-⟩
  ·exact Nat.le_trans H1.out.size H2.out.2.1
  ·exact Nat.le_trans H1.out.size H2.out.1
  ·cases ha) ⟨HV.out,GN HV.out⟩ (by decide) hm1 (by omega) (by decide) (by decide)).mono ?_
 rintro u w3 ⟨e,st,l,t,Mt,rfl,hE,hb3⟩
 have H3:=zh hE
 clear hE hb3
 go_wp2_with fail
 go_loopw [8,9] (fun tk i wr=>∃ (t:Nat) (x:dQ),t≤nn∧i=.int .i64 (t:Nat)∧tk=.int .i64 (t:Nat)∧nJ w.heap.size w wr e mo t x∧(0 < t→0 < x.n)) (fun _ i _=>nn-(intOf i).toNat)
 case atStart=>exact ⟨0,_,Nat.zero_le _,rfl,rfl,⟨H3.out,by simp[jl],rfl,rfl,rfl,Nat.le_refl _,Nat.le_refl _,Nat.le_refl _,by simp[jl],by simp[jl],Nat.le_refl _,fun h=>by cases h⟩,fun h=>absurd h (Nat.lt_irrefl _)⟩
 case round=>
  obtain⟨t,x,ht,rfl,rfl,hL,hpos⟩:=hrel
  by_cases htn:t < nn
  ·have d1:(t:Int) < (nn:Int):=by omega
   have ht2:t≤62:=by omega
   have HL:=zh hL
   clear hL hpos
   go_wp2_with fail
   obtain⟨y,hy⟩:∃ y,y=wr.heap.size:=⟨_,rfl⟩
   have hY:=zh hy
   rw[←hy]
   clear hy
   refine bC (Own wr [(y,35,#[.string bD,.int .i64 (t:Nat),.int .i64 (t:Nat)])]) (Own.eX wr hY.out _ _) ?_
   intro w4 o4
   rcases Nat.lt_or_ge x.n mo with hxn | hxn
   ·refine (xO HL.out ht2 hm2 hxn hY.out o4).mono ?_
    clear o4
    rintro u w5 ⟨rfl,x',hL5,hn5⟩
    have H5:=zh (zN hL5 hn5)
    obtain⟨n5,hn5'⟩:∃ n,n=x'.n:=⟨_,rfl⟩
    have hnle:n5≤mo:=by omega
    have HN:=zh hn5'
    clear hL5 hn5 hn5' hxn
    go_wp2_with fail
    refine(iJ H5.out.1.eng).mono ?_
    rintro u w6 ⟨rfl,hb6⟩
    rw[←HN.out]
    have H6:=zh (H5.out.1.call hb6)
    clear hb6
    have d3:decide ((mo:Int) < (n5:Int))=false:=by simp;omega
    have d3':decide (mo < n5)=false:=by simp;omega
    rcases Nat.lt_or_ge n5 mo with hlt | hge
    ·have d2:decide ((n5:Int) < (mo:Int))=true:=by simp;omega
     have d2':decide (n5 < mo)=true:=by simp;omega
     clear hlt hnle
     go_wp2_with fail
     refine(iJ H6.out.eng).mono ?_
     rintro u w7 ⟨rfl,hb7⟩
     rw[←HN.out]
     have H7:=zh (H6.out.call hb7)
     clear hb7
     go_wp2_with fail
     go_roundw
     case rel=>exact ⟨t+1,x',by omega,by go_num,by go_num,H7.out,fun _=>by rw[H5.out.2];omega⟩
     case measure=>simp[intOf]<;>omega
    ·have d2:decide ((n5:Int) < (mo:Int))=false:=by simp;omega
     have d2':decide (n5 < mo)=false:=by simp;omega
     clear hge hnle
     go_wp2_with fail
     refine(iJ H6.out.eng).mono ?_
     rintro u w7 ⟨rfl,hb7⟩
     rw[←HN.out]
     have H7:=zh (H6.out.call hb7)
     clear hb7
     go_wp2_with fail
     go_roundw
     case rel=>exact ⟨t+1,x',by omega,by go_num,by go_num,H7.out,fun _=>by rw[H5.out.2];omega⟩
     case measure=>simp[intOf]<;>omega
   ·have hxe:x.n=mo:=Nat.le_antisymm HL.out.eng.nm hxn
    refine(Je HL.out ht2 hm2 hxe hY.out o4).mono ?_
    rintro u w5 ⟨rfl,hb5⟩
    have H5:=zh (zN (HL.out.call (V.ay o4.bel hb5)) hxe)
    clear hb5 o4 hxe hxn
    go_wp2_with fail
    refine(iJ H5.out.1.eng).mono ?_
    rintro u w6 ⟨rfl,hb6⟩
    rw[H5.out.2]
    have H6:=zh (H5.out.1.call hb6)
    clear hb6
    have d2:decide ((mo:Int) < (mo:Int))=false:=by simp
    go_wp2_with fail
    refine(iJ H6.out.eng).mono ?_
    rintro u w7 ⟨rfl,hb7⟩
    rw[H5.out.2]
    have H7:=zh (H6.out.call hb7)
    clear hb7
    go_wp2_with fail
    refine(iJ H7.out.eng).mono ?_
    rintro u w8 ⟨rfl,hb8⟩
    rw[H5.out.2]
    have H8:=zh (H7.out.call hb8)
    clear hb8
    go_wp2_with fail
    refine(Js H8.out ht2 hm1 hm2 H5.out.2).mono ?_
    rintro u w9 ⟨rfl,x9,hL9,hn9⟩
    have H9:=zh (zN hL9 hn9)
    clear hL9 hn9
    go_wp2_with fail
    refine(iJ H9.out.1.eng).mono ?_
    rintro u w10 ⟨rfl,hb10⟩
    rw[H9.out.2]
    have H10:=zh (H9.out.1.call hb10)
    clear hb10
    go_wp2_with fail
    obtain⟨z,hz⟩:∃ z,z=w10.heap.size:=⟨_,rfl⟩
    have hZ:=zh hz
    rw[←hz]
    clear hz
    refine bC (Own w10 [(z,35,#[.string bD,.int .i64 (t:Nat),.int .i64 (t:Nat)])]) (Own.eX w10 hZ.out _ _) ?_
    intro w11 o11
    refine(xO H10.out ht2 hm2 (by rw[H9.out.2];omega) hZ.out o11).mono ?_
    clear o11
    rintro u w12 ⟨rfl,x12,hL12,hn12⟩
    have H12:=zh (zN hL12 hn12)
    clear hL12 hn12
    go_wp2_with fail
    go_roundw
    case rel=>exact ⟨t+1,x12,by omega,by go_num,by go_num,H12.out.1,fun _=>by rw[H12.out.2];omega⟩
    case measure=>simp[intOf]<;>omega
  ·obtain rfl:t=nn:=by omega
   have HL:=zh (zN hL hpos)
   clear hL hpos
   go_wp2_with fail
   have cc:=wU HL.out.1.eng 100 (by decide) (by decide) (by
    rw[HL.out.1.pts]
    intro p hp
    obtain⟨j,hj,h1,h2⟩:=yJ hp
    omega) (by
    rw[HL.out.1.pts]
    intro p hp
    obtain⟨j,hj,h1,h2⟩:=yJ hp
    omega) (by have:=HL.out.1.T;have:=HL.out.1.k;omega) (by have:=HL.out.1.k;omega) (by have:=HL.out.1.eng.nm;omega) (by rw[HL.out.1.pts,DW];omega)
   rw[HL.out.1.pts] at cc
   refine cc.mono ?_
   clear cc
   rintro u w5 ⟨A5,c5,rfl,-,hb5⟩
   rw[DW]
   have hL5:=HL.out.1.call hb5
   have H5:=zh hL5
   clear hb5 hL5
   go_upto_region 24 with (fail)
   have hS:Below w5.heap.size w5 w5.drew:=(Below.refl _ _).drew
   have hfk:=QM HL.out.1.cnt HL.out.1.eng.nm HL.out.2 hm1
   have hmz:¬ (mo=0):=by omega
   have hqr:=Int.natAbs_tdiv_le_natAbs ((t:Nat)-1:Int) (mo:Nat)
   have hw1:IntKind.i64.wrap ((t:Int)-1)=(t:Int)-1:=by simp only[IntKind.wrap_i64];omega
   obtain⟨q,hq⟩:∃ q:Int,q=((t:Int)-1).tdiv (mo:Nat):=⟨_,rfl⟩
   rw[←hq] at hfk hqr
   have hqe:IntKind.i64.wrap ((IntKind.i64.wrap ((t:Int)-1)).tdiv (mo:Nat))=q:=by rw[hw1,←hq];simp only[IntKind.wrap_i64];omega
   clear hqr hw1 hq
   have hS:(fun wx=>Below w5.heap.size w5 wx) (w5.drew):=hS
   refine av (fun wx=>Below w5.heap.size w5 wx) (by kernel_rfl) hS ?_
   refine zB [0,1,2,3,4,5,6,7,8,9,10,11,12,13,14,16,17,18,19,20] ?_
   iterate 20 (refine zV ?_ ?_ hS ?_;rotate_left;(intro w' hSw;go_simp<;>with_reducible rfl);try simp only[zP])
   refine zE ?_
   refine zC 15 fun K HK=>?_
   go_simp
   refine(FP (H5.out.call hS).eng (by have:=HL.out.1.k;omega)).mono ?_
   rintro u w6 ⟨rfl,hb6⟩
   have h6:=V.ay hS hb6
   have H6:=zh (V.ay (H5.out.eng.bel) h6)
   clear hb6
   go_wp2_with fail
   refine HK.out.zt (fun wx=>Below w5.heap.size w5 wx) (fun _ h=>h) (h6) ?_
   clear HK hS
   intro hS
   try simp only[zP]
   refine zB [21,22,23] ?_
   iterate 3 (refine zV ?_ ?_ hS ?_;rotate_left;(intro w' hSw;go_simp<;>with_reducible rfl);try simp only[zP])
   refine zE ?_
   refine zD ?_
   try simp only[zP]
   go_wp2_with fail
   go_ret
   exact⟨rfl,H6.out⟩
end
section
open Go.RowKit Go.Maps
theorem Bt(a0 a1:Int)(w:World)(w0:(Lit.int .i64 a0).wf=true)(w1:(Lit.int .i64 a1).wf=true)(hv:V.cu w):
  Calls Tryz.prog 3 #[.int .i64 a0,.int .i64 a1] w fun e w'=>e=.returned (.bool true)∧Below w.heap.size w w':=
 Gb w hv a0 a1
end
section
namespace topLimits
open Go.ChangeShapes Go.WideShapes Go.ChangeAt Go.RowKit
open Go.ChangeMaps (open_string shut_string)
set_option maxHeartbeats 0 in
theorem closed: joinedFacts Tryz.pinned.checked.prog 3 Tryz.f3 (OpenSpec.ofChange Rows.topLimitsSpec).bare Rows.topLimitsRow=true:=by
 simp only[joinedFacts,Bool.and_eq_true]
 repeat' refine zN ?_ ?_
 all_goals as_aux_lemma=>kernel_rfl
end topLimits
end
section
theorem Mj{P:Program}(h:P.funcs.any Func.goes=false)(f:FuncId): P.goes f=false:=by
 have h':∀ fn ∈ P.funcs,Func.goes fn=false:=fun fn hm=>by
  cases e:Func.goes fn with
  | false=>rfl
  | true=>exact absurd (Array.any_eq_true'.2 ⟨fn,hm,e⟩) (by rw[h];decide)
 unfold Program.goes
 rw[h,Bool.and_false,Bool.or_false]
 refine List.any_eq_false.2 fun g _=>?_
 cases e:P.funcs[g]? with
 | none=>simp
 | some fn=>simp[h' fn (Array.mem_of_getElem? e)]
theorem NC{P:Program}(h:P.funcs.any Func.goes=false)(o:Option FuncId): o.any P.goes=false:=by
 cases o with
 | none=>rfl
 | some f=>exact Mj h f
theorem SG: Tryz.prog.funcs.any Func.goes=false:=by kernel_rfl
theorem Rv{P:Program}{c:OpenClaim}(hs:c.start=.entering)(h:P.funcs.any Func.goes=false): false=c.goesBy P:=by
 unfold OpenClaim.goesBy Program.goesAt Program.goesFrom
 rw[NC h,hs]
 rfl
end
namespace topLimits
open Go.ChangeShapes Go.WideShapes Go.ChangeAt Go.RowKit
open Go.ChangeMaps (open_string shut_string)
theorem own: ownKnob Tryz.prog.godebug=none:=by kernel_rfl
theorem laidOut: laidOutB Tryz.prog=true:=by kernel_rfl
theorem errAt: Tryz.prog.globalNamed "errors.errorType" = some 0:=by kernel_rfl
theorem rtAt: (Tryz.prog.cutTypes.find? (·.1 == "internal/reflectlite.rtype")).map (·.2)=some 426:=by kernel_rfl
theorem oneRow: ((List.range Tryz.prog.types.size).filter fun t=>Tryz.prog.rowNamed t [101,114,114,111,114])=[223]:=by kernel_rfl
theorem herr{W:World}(h:laidMetH Tryz.prog Rows.topLimitsRow.laid W): V.cu W:=by
 have h':laidMet Tryz.prog [] W∧handlesMet Tryz.prog Rows.topLimitsRow.laid W:=h
 obtain⟨name,u,ty,e1,e2,e3,e4,e5⟩:=h'.2 _ (List.mem_singleton.2 rfl)
 have en:name=[101,114,114,111,114]:=(Option.some.inj e1).symm
 subst en
 obtain rfl:=Option.some.inj (rtAt.symm.trans e2)
 have hm:ty ∈ (List.range Tryz.prog.types.size).filter fun t=>Tryz.prog.rowNamed t [101,114,114,111,114]:=List.mem_filter.2 ⟨List.mem_range.2 e3,e4⟩
 rw[oneRow] at hm
 obtain rfl:=List.mem_singleton.1 hm
 have hh:typeHandle Tryz.prog 223=.pointer (some ⟨4,223,none⟩):=by kernel_rfl
 rw[hh] at e5
 have:=World.var?_cell errAt e5 0
 simpa [V.cu] using this
noncomputable def laidWorld(os:Os): World:=
 let w0:=World.holding Tryz.prog os ⟨#[],#[],[]⟩
 { w0 with heap:=w0.heap.modify 0 fun
   | .cells _ t frozen=>.cells #[.iface 426 (.agg #[.pointer (some ⟨4,223,none⟩)])] t frozen
   | o=>o }
theorem laid_met(os:Os)(args:Array Value): laidMetH Tryz.prog Rows.topLimitsRow.laid ((laidWorld os).forCall (fun _ _=>0) ⟨#[],args,[]⟩).memory:=
 laidMetH_of_parts (laidMet_nil _ _) (by kernel_rfl)
theorem reads(os:Os){H:Type}(enc:TypeId × Value→H): ∃ places,DataW.whole enc Tryz.prog ((laidWorld os).forCall (fun _ _=>0) ⟨#[],#[.int .i64 0,.int .i64 0],[]⟩).memory Tryz.f3.params.toList Rows.topLimitsSpec.vars false #[.int .i64 0,.int .i64 0].toList 8=some ([.lit (.int .i64 0),.lit (.int .i64 0)],[],places):=
 ⟨[],by kernel_rfl⟩
theorem lifted(os:Os)(started:os.Started)(H:Type)(enc:TypeId × Value→H)(F:Stop.Interp):
  ReturnsInHanded {} Tryz.checked os 3 .any ((OpenSpec.ofChange Rows.topLimitsSpec).preRow enc Tryz.prog Tryz.f3 Rows.topLimitsRow.domain false Rows.topLimitsRow.laid) (((OpenSpec.ofChange Rows.topLimitsSpec).at F).post enc Tryz.prog Tryz.f3 false true false false):=by
 obtain⟨places,hx⟩:=reads os enc
 refine returnsInHanded_of_row (C:=Tryz.checked) (s:=OpenSpec.ofChange Rows.topLimitsSpec) own started (by kernel_rfl) Tryz.func3
  (witness_row_at (enc:=enc) (C:=Tryz.checked) false (laidWorld os) #[.int .i64 0,.int .i64 0] rfl (by kernel_rfl) (by kernel_rfl) (by kernel_rfl)
   (OpenSpec.preRow_of_cond 8 hx (by kernel_rfl) (fun k hk=>by cases hk) (by kernel_rfl) (laid_met os _))) ?_
 intro W base args ds gs before hval0 hW hcnd _ hsz0 hL _ _
 have hErr:=herr hL
 have hval:∀ (j:Nat) t v,Tryz.f3.params[j]? = some t→args[j]? = some v→Value.okWide Tryz.prog W .any base t v:=hval0
 have hW':=hW
 obtain⟨p,q,hA0,hV,rfl,hfz,hnd⟩:=hW
 have hA:DataW.TrodAll enc Tryz.prog W 0 (fun _=>true) true Tryz.f3.params.toList args.toList ds p:=hA0
 rw[Tryz.params3] at hA hval
 obtain⟨v0,vs0,d0,ds0,p0,q0,hargs,rfl,rfl,h0,r0⟩:=trodAll_cons hA
 obtain⟨v1,vs1,d1,ds1,p1,q1,rfl,rfl,rfl,h1,r1⟩:=trodAll_cons r0
 obtain⟨rfl,rfl,rfl⟩:=trodAll_nil r1
 obtain rfl:args=#[v0,v1]:=by cases args;simp_all
 obtain⟨rfl,rfl⟩:=trodVars_none hV
 obtain⟨a0,rfl,rfl,rfl,w0⟩:=open_int Tryz.underlying3 (hval 0 3 v0 rfl rfl) h0
 obtain⟨a1,rfl,rfl,rfl,w1⟩:=open_int Tryz.underlying3 (hval 1 3 v1 rfl rfl) h1
 clear hA0 hval0
 refine(Bt a0 a1 W w0 w1 hErr).mono fun e W' ⟨he,bel⟩=>?_
 subst he
 exact⟨_,rfl,_,_,_,[],_,[],hW',trodAll_mk1 (shut_bool Tryz.underlying4 _),(trodAll_cons_mk (shut_int Tryz.underlying3 w0) (trodAll_cons_mk (shut_int Tryz.underlying3 w1) trodAll_mk0)),rfl,bel.frame _,fun h=>by cases h⟩
theorem said: Rows.TopLimitsSaid:=
 OpenClaim.holds_of_cond 3 Tryz.f3 rfl rfl rfl rfl rfl rfl rfl ⟨rfl,rfl,rfl,rfl,rfl⟩ rfl rfl rfl rfl rfl (by kernel_rfl) Tryz.func3 closed
  (of_decide_eq_true (by kernel_rfl)) (by unfold Func.isWrapper;first | (rw[if_pos (by decide +kernel)];kernel_rfl) | (rw[if_neg (by decide +kernel)];exact ⟨rfl,rfl⟩))
  (fun os started H enc _ F=>by rw[OpenClaim.pre_eq_preRow];exact lifted os started H enc F)
theorem plainArgs(f:FuncId)(fn:Func)(hf:Tryz.pinned.checked.prog.funcNamed "tidemill/tidemilltop.TopLimits" = some f)(hfn:Tryz.pinned.checked.prog.funcs[f]? = some fn):
  true=Tryz.pinned.checked.prog.looks []∧∀ (j:Nat) t,fn.params[j]? = some t→Tryz.pinned.checked.prog.wantsStandIn t=false:=by
 obtain rfl:f=3:=Option.some.inj ((show Tryz.prog.funcNamed "tidemill/tidemilltop.TopLimits" = some 3 by kernel_rfl).symm.trans hf) |>.symm
 obtain rfl:fn=Tryz.f3:=(Option.some.inj (Tryz.func3.symm.trans hfn)).symm
 refine⟨by kernel_rfl,fun j t ht=>?_⟩
 rw[Tryz.params3] at ht
 have hall:([3,3]:List TypeId).all (fun t=>Tryz.prog.wantsStandIn t == false)=true:=by kernel_rfl
 have hm:t ∈ ([3,3]:List TypeId):=by simpa using Array.mem_of_getElem? ht
 have hr:Tryz.prog.wantsStandIn t=false:=by simpa using List.all_eq_true.1 hall t hm
 exact hr
theorem proved: Rows.TopLimitsCardSaid:=
 Claim7.holds_tied_plain_at .later [] _ _ _ _ said (fun _ h=>by cases h) (by as_aux_lemma=>kernel_rfl) (fun _ h=>by cases h) topLimits_row_tie rfl ⟨rfl,rfl⟩ (by as_aux_lemma=>kernel_rfl) rfl plainArgs (Rv rfl SG)
#print axioms proved
end topLimits
end Go.Proofs.YtmffkpkgbdcnjaaGreatDoor
