/-
  Texts of this proof, joined.
-/
import Derived.Test.YtmffkpkgbdcnjaaGreatDoorRows
import Derived.Test.YtmffkpkgbdcnjaaGreatDoorTopLimits01
import Derived.Lib.MinMaxS
import Derived.WalkKit
import Derived.WalkSpells
import Derived.WalkLawsBesides
import Derived.Outline
import Derived.Lib.Hide
import Derived.Below
import Derived.Laws.BitsAllLaws
import Derived.Laws.BitsLemmas
import Derived.Deep.CutBlock
import Derived.Test.YtmffkpkgbdcnjaaGreatDoorTopLimits05
import Derived.Test.YtmffkpkgbdcnjaaGreatDoorProg
import Derived.Test.YtmffkpkgbdcnjaaGreatDoorTopLimits04
set_option linter.unusedVariables false
set_option linter.unusedSimpArgs false
set_option maxRecDepth 100000
set_option maxHeartbeats 20000000
namespace Go.Proofs.YtmffkpkgbdcnjaaGreatDoor
namespace V
open Go.RowKit
def fI(t:Int): Bool:=decide (-1152921504606846976≤t) && decide (t≤1152921504606846976)
def dh(s:Bool)(l g:Int): Bool:=decide (0≤g) && (fI g && (fI l && (s || decide (l=0))))
theorem tC(t:Int)(w:World): Calls Tryz.prog 139 #[.int .i64 t] w fun e w'=>e=.returned (.bool (fI t))∧w=w':=by
 by_cases h1 : -1152921504606846976≤t
 ·by_cases h2:t≤1152921504606846976
  ·have e:fI t=true:=by unfold fI;simp[h1,h2]
   rw[e]
   clear e
   go_enter Tryz.func139,Tryz.ntmps139
   go_wp2
   go_ret
   exact⟨rfl,rfl⟩
  ·have e:fI t=false:=by unfold fI;simp[h2]
   rw[e]
   clear e
   go_enter Tryz.func139,Tryz.ntmps139
   go_wp2
   go_ret
   exact⟨rfl,rfl⟩
 ·have e:fI t=false:=by unfold fI;simp[h1]
  rw[e]
  clear e
  go_enter Tryz.func139,Tryz.ntmps139
  go_wp2
  go_ret
  exact⟨rfl,rfl⟩
theorem iX(s:Bool)(l g:Int)(w:World): Calls Tryz.prog 119 #[.agg #[.bool s,.int .i64 l,.int .i64 g]] w fun e w'=>e=.returned (.bool (dh s l g))∧Below w.heap.size w w':=by
 have bel:=(((Below.refl w.heap.size w).alloc (Nat.le_refl _) (.cells #[.bool s,.int .i64 l,.int .i64 g] 79)).alloc (by simp) (.cells #[.bool false,.int .i64 0,.int .i64 g] 79))
 have HB:=zh bel
 clear bel
 by_cases hg:0≤g
 ·obtain ⟨b1,h1⟩:∃ b,b=fI g:=⟨_,rfl⟩
  obtain⟨b2,h2⟩:∃ b,b=fI l:=⟨_,rfl⟩
  have hr:dh s l g=(b1 && (b2 && (s || decide (l=0)))):=by unfold dh;rw[←h1,←h2];simp[hg]
  rw[hr]
  have H1:=zh h1
  have H2:=zh h2
  clear hr h1 h2
  go_enter Tryz.func119,Tryz.ntmps119
  go_wp2_with fail
  refine(tC _ _).mono ?_
  rintro e w1 ⟨rfl,rfl⟩
  rw[←H1.out]
  cases b1
  ·go_wp2_with fail
   go_ret
   exact⟨rfl,HB.out⟩
  ·go_wp2_with fail
   refine(tC _ _).mono ?_
   rintro e w1 ⟨rfl,rfl⟩
   rw[←H2.out]
   cases b2
   ·go_wp2_with fail
    go_ret
    exact⟨rfl,HB.out⟩
   ·cases s
    ·by_cases h0:l=0
     ·subst h0
      go_wp2_with fail
      go_ret
      exact⟨rfl,HB.out⟩
     ·have e:(l == 0)=false:=by simp[h0]
      have e2:decide (l=0)=false:=by simp[h0]
      clear h0
      go_wp2_with fail
      go_ret
      exact⟨by rw[e2];rfl,HB.out⟩
    ·go_wp2_with fail
     go_ret
     exact⟨rfl,HB.out⟩
 ·have hr:dh s l g=false:=by unfold dh;simp[hg]
  rw[hr]
  clear hr
  go_enter Tryz.func119,Tryz.ntmps119
  go_wp2_with fail
  go_ret
  exact⟨rfl,HB.out⟩
def yT(w:World)(s:Bool)(l g:Int)(er:Int)(e:Ending)(w':World): Prop:=
 e=.returned (.tuple #[.agg #[.bool s,.int .i64 l,.int .i64 g],.int .i64 er])∧Below w.heap.size w w'
theorem _root_.Go.Proofs.YtmffkpkgbdcnjaaGreatDoor.au.O8{w:World}{g:Nat}{t:TypeId}{a b c:Value}(h:au w g t #[a,b,c])(x y z:Value): au (((w.setCell ⟨g,0,none⟩ x).setCell ⟨g,1,none⟩ y).setCell ⟨g,2,none⟩ z) g t #[x,y,z]:=by
 simpa using ((h.set 0 x).set 1 y).set 2 z
theorem rY{B:Nat}{w w':World}{g:Nat}(h:Below B w w')(hg:B≤g)(x y z:Value): Below B w (((w'.setCell ⟨g,0,none⟩ x).setCell ⟨g,1,none⟩ y).setCell ⟨g,2,none⟩ z):=
 ((h.setCell (by simpa using hg) _).setCell (by simpa using hg) _).setCell (by simpa using hg) _
theorem SI(g:Int)(w:World)(h:dh false 0 g=true): Calls Tryz.prog 55 #[.int .i64 g] w (yT w false 0 g 0):=by
 have HR:=zh h
 clear h
 obtain⟨x,hx⟩:∃ x,x=w.heap.size:=⟨_,rfl⟩
 have HX:=zh hx
 go_enter Tryz.func55,Tryz.ntmps55
 go_wp2_with fail
 refine(iX _ _ _ _).mono ?_
 rintro e w1 ⟨rfl,hb⟩
 rw[HR.out]
 have b0:au w1 x 79 #[.bool false,.int .i64 0,.int .i64 0]:=by
  rw[hx];exact ((au.fresh w _ _).alloc _).below hb (by simp;omega)
 have b1:au w1 (x+1) 79 #[.bool false,.int .i64 0,.int .i64 g]:=by
  rw[hx]
  have h:=au.fresh (w.alloc (.cells #[.bool false,.int .i64 0,.int .i64 0] 79)) 79 #[.bool false,.int .i64 0,.int .i64 g]
  have h':=h.below hb (by simp)
  simpa using h'
 have bel:Below w.heap.size w w1:=(((Below.refl w.heap.size w).alloc (Nat.le_refl _) _).alloc (by simp) _).trans (hb.mono (by simp;omega))
 have f0:=b0.frozen
 have p0:=b0.cell 0
 have p1:=b0.cell 1
 have p2:=b0.cell 2
 have q0:=b1.cell 0
 have q1:=b1.cell 1
 have q2:=b1.cell 2
 simp at p0 p1 p2 q0 q1 q2
 rw[←hx]
 have HB:=zh (zN b0 (zN bel hx))
 clear hb b0 b1 bel hx
 go_wp2_with fail
 have b2:=HB.out.1.O8 (.bool false) (.int .i64 0) (.int .i64 g)
 have bel2:=rY (g:=x) HB.out.2.1 (by have:=HB.out.2.2;omega) (.bool false) (.int .i64 0) (.int .i64 g)
 generalize (((w1.setCell ⟨x,0,none⟩ (.bool false)).setCell ⟨x,1,none⟩ (.int .i64 0)).setCell ⟨x,2,none⟩ (.int .i64 g))=w2 at b2 bel2 ⊢
 have r0:=b2.cell 0
 have r1:=b2.cell 1
 have r2:=b2.cell 2
 simp at r0 r1 r2
 exact bodyPost_ret (v:=.tuple #[.agg #[.bool false,.int .i64 0,.int .i64 g],.int .i64 0]) (by simp[results,Tryz.results55,go_sem,r0,r1,r2]) rfl ⟨rfl,bel2⟩
theorem nX{s:Bool}{l g:Int}(h:dh s l g=true): 0≤g∧g≤1152921504606846976∧-1152921504606846976≤l∧l≤1152921504606846976∧(s=true∨l=0):=by
 unfold dh fI at h
 simp only[Bool.and_eq_true,Bool.or_eq_true,decide_eq_true_eq] at h
 obtain⟨h1,⟨h2,h3⟩,⟨h4,h5⟩,h6⟩:=h
 exact⟨h1,h3,h4,h5,h6⟩
def oU(s:Bool)(l g:Int): Int:=if (dh s l g && s)=true then max (l-g) (-1152921504606846976) else 0
def uU(s:Bool)(l g:Int): Bool:=dh s l g && s
def TG(w:World)(s:Bool)(l g:Int)(e:Ending)(w':World): Prop:=
 e=.returned (.tuple #[.int .i64 (oU s l g),.bool (uU s l g)])∧Below w.heap.size w w'
theorem qG{w w1:World}{t:TypeId}{cs:Array Value}(hb:Below (w.alloc (.cells cs t)).heap.size (w.alloc (.cells cs t)) w1): au w1 w.heap.size t cs∧Below w.heap.size w w1:=
 ⟨(au.fresh w t cs).below hb (by simp),((Below.refl w.heap.size w).alloc (Nat.le_refl _) _).trans (hb.mono (by simp))⟩
theorem AU(s:Bool)(l g:Int)(w:World): Calls Tryz.prog 52 #[.agg #[.bool s,.int .i64 l,.int .i64 g]] w (TG w s l g):=by
 cases hr:dh s l g with
 | false=>
  have e1:oU s l g=0:=by unfold oU;rw[hr];rfl
  have e2:uU s l g=false:=by unfold uU;rw[hr];rfl
  have HR:=zh (zN hr (zN e1 e2))
  clear hr e1 e2
  go_enter Tryz.func52,Tryz.ntmps52
  go_wp2_with fail
  refine(iX _ _ _ _).mono ?_
  rintro e w1 ⟨rfl,hb⟩
  rw[HR.out.1]
  have HB:=zh (qG hb).2
  clear hb
  go_wp2_with fail
  go_ret2
  exact⟨by rw[HR.out.2.1,HR.out.2.2];rfl,HB.out⟩
 | true=>
  obtain⟨g0,g1,l0,l1,-⟩:=nX hr
  cases s with
  | false=>
   have e1:oU false l g=0:=by unfold oU;rw[hr];rfl
   have e2:uU false l g=false:=by unfold uU;rw[hr];rfl
   have HR:=zh (zN hr (zN e1 e2))
   clear hr e1 e2
   go_enter Tryz.func52,Tryz.ntmps52
   go_wp2_with fail
   refine(iX _ _ _ _).mono ?_
   rintro e w1 ⟨rfl,hb⟩
   rw[HR.out.1]
   obtain⟨b0,bel⟩:=qG hb
   have p0:=b0.cell 0
   simp at p0
   have HB:=zh bel
   clear hb bel b0
   go_wp2_with fail
   go_ret2
   exact⟨by rw[HR.out.2.1,HR.out.2.2];rfl,HB.out⟩
  | true=>
   have e1:oU true l g=max (l-g) (-1152921504606846976):=by unfold oU;rw[hr];rfl
   have e2:uU true l g=true:=by unfold uU;rw[hr];rfl
   have HR:=zh (zN hr (zN e1 e2))
   clear hr e1 e2
   go_enter Tryz.func52,Tryz.ntmps52
   go_wp2_with fail
   refine(iX _ _ _ _).mono ?_
   rintro e w1 ⟨rfl,hb⟩
   rw[HR.out.1]
   obtain⟨b0,bel⟩:=qG hb
   have p0:=b0.cell 0
   have p1:=b0.cell 1
   have p2:=b0.cell 2
   simp at p0 p1 p2
   have HB:=zh bel
   clear hb bel b0
   go_wp2_with fail
   all_goals
    go_ret2
    refine⟨?_,HB.out⟩
    rw[HR.out.2.1,HR.out.2.2]
    first
    | rfl
    | (rw[show max (l-g) (-1152921504606846976) = -1152921504606846976 by omega];rfl)
    | (rw[show max (l-g) (-1152921504606846976)=l-g by omega];rfl)
def oZ(ok:Bool)(wm:Int)(f:Nat→Int): Nat→Nat→Int
 | 0,_=>-1
 | m+1,k=>if (ok && decide (f k < wm))=true then (k:Int) else oZ ok wm f m (k+1)
def Oj(w:World)(r:Int)(e:Ending)(w':World): Prop:=e=.returned (.int .i64 r)∧Below w.heap.size w w'
theorem OU(s:Bool)(l g:Int)(w:World)(A:Option Addr)(len c:Nat)(f:Nat→Int)(hsl:Sl w (fun k=>k < w.heap.size) A len (fun j=>.int .i64 (f j)))(hlen:len≤1048576):
  Calls Tryz.prog 73 #[.agg #[.bool s,.int .i64 l,.int .i64 g],.slice A len c] w (Oj w (oZ (uU s l g) (oU s l g) f len 0)):=by
 have HS:=zh hsl
 clear hsl
 go_enter Tryz.func73,Tryz.ntmps73
 go_wp2_with fail
 refine(AU _ _ _ _).mono ?_
 rintro e w1 ⟨rfl,hb⟩
 have bel:=(qG hb).2
 obtain⟨ok,hok⟩:∃ b,b=uU s l g:=⟨_,rfl⟩
 obtain⟨wm,hwm⟩:∃ b,b=oU s l g:=⟨_,rfl⟩
 rw[←hok,←hwm]
 have H1:=zh (zN bel (zN hok hwm))
 clear hb bel hok hwm
 go_wp2_with fail
 go_loopw [16] (fun i wr=>∃ k:Nat,k≤len∧i=.int .i64 k∧wr=w1∧oZ ok wm f len 0=oZ ok wm f (len-k) k) (fun i _=>len-(intOf i).toNat)
 case atStart=>exact ⟨0,Nat.zero_le _,rfl,rfl,rfl⟩
 case round=>
  obtain⟨k,hk,rfl,rfl,hlr⟩:=hrel
  by_cases hlt:k < len
  ·obtain ⟨m,hm⟩:∃ m,len-k=m+1:=⟨len-k-1,by omega⟩
   rw[hm] at hlr
   obtain⟨b,off,hA,-,hc⟩:=(HS.out.below H1.out.1 (fun _ h _=>h)) (by omega)
   have ck:wr.cell? ⟨b,off+k,none⟩=some (.int .i64 (f k)):=hc k hlt
   subst hA
   obtain⟨t,ht⟩:∃ t,t=f k:=⟨_,rfl⟩
   rw[←ht] at ck
   have HL:=zh (zN hlr (zN hm ht))
   clear hlr hm hc ht
   cases ok with
   | false=>
    go_wp2_with fail
    go_roundw
    case rel=>
     obtain⟨h1,h2,h3⟩:=HL.out
     refine⟨k+1,by omega,by go_num,by trivial,?_⟩
     rw[h1,show len-(k+1)=m by omega]
     rfl
    case measure=>simp[intOf];omega
   | true=>
    by_cases hlw:t < wm
    ·have d:decide (t < wm)=true:=by simp[hlw]
     go_wp2_with fail
     go_ret
     obtain⟨h1,h2,h3⟩:=HL.out
     obtain⟨g1,g2,g3⟩:=H1.out
     refine⟨?_,g1⟩
     rw[←g2,←g3,h1]
     unfold oZ
     rw[if_pos (by rw[←h3,d];rfl)]
     rfl
    ·have d:decide (t < wm)=false:=by simp;omega
     go_wp2_with fail
     go_roundw
     case rel=>
      obtain⟨h1,h2,h3⟩:=HL.out
      refine⟨k+1,by omega,by go_num,by trivial,?_⟩
      rw[h1,show len-(k+1)=m by omega]
      show (if _ then _ else _)=_
      rw[←h3,d,if_neg (by decide)]
     case measure=>simp[intOf];omega
  ·have hk':k=len:=by omega
   have HL:=zh (zN hlr hk')
   clear hlr hk'
   go_wp2_with fail
   go_ret
   obtain⟨h1,h2⟩:=HL.out
   obtain⟨g1,g2,g3⟩:=H1.out
   refine⟨?_,g1⟩
   rw[←g2,←g3,h1,h2,Nat.sub_self]
   rfl
def iM(s:Bool)(l:Int)(f:Nat→Int): Nat→Bool × Int
 | 0=>(s,l)
 | k+1=>if (!(iM s l f k).1 || decide ((iM s l f k).2 < f k))=true then (true,f k) else iM s l f k
def kQ(ok:Bool)(f:Nat→Int): Nat→Bool
 | 0=>ok
 | k+1=>kQ ok f k && fI (f k)
def Qo(w:World)(s:Bool)(l g:Int)(f:Nat→Int)(n:Nat)(e:Ending)(w':World): Prop:=
 (if kQ (dh s l g) f n=true then e=.returned (.tuple #[.agg #[.bool (iM s l f n).1,.int .i64 (iM s l f n).2,.int .i64 g],.int .i64 0])
  else e=.returned (.tuple #[.agg #[.bool false,.int .i64 0,.int .i64 0],.int .i64 2]))∧Below w.heap.size w w'
theorem Dz(s:Bool)(l g:Int)(w:World)(A:Option Addr)(len c:Nat)(f:Nat→Int)(hsl:Sl w (fun k=>k < w.heap.size) A len (fun j=>.int .i64 (f j)))(hlen:len≤1048576):
  Calls Tryz.prog 77 #[.agg #[.bool s,.int .i64 l,.int .i64 g],.slice A len c] w (Qo w s l g f len):=by
 have HS:=zh hsl
 clear hsl
 obtain⟨x,hx⟩:∃ x,x=w.heap.size:=⟨_,rfl⟩
 have HX:=zh hx
 go_enter Tryz.func77,Tryz.ntmps77
 go_wp2_with fail
 refine(iX _ _ _ _).mono ?_
 rintro e w1 ⟨rfl,hb⟩
 have b0:au w1 x 79 #[.bool s,.int .i64 l,.int .i64 g]:=by
  rw[hx];exact ((au.fresh w _ _).alloc _).below hb (by simp;omega)
 have b1:au w1 (x+1) 79 #[.bool false,.int .i64 0,.int .i64 0]:=by
  rw[hx]
  have h:=au.fresh (w.alloc (.cells #[.bool s,.int .i64 l,.int .i64 g] 79)) 79 #[.bool false,.int .i64 0,.int .i64 0]
  have h':=h.below hb (by simp)
  simpa using h'
 have bel:Below w.heap.size w w1:=(((Below.refl w.heap.size w).alloc (Nat.le_refl _) _).alloc (by simp) _).trans (hb.mono (by simp;omega))
 rw[←hx]
 obtain⟨ok,hok⟩:∃ b,b=dh s l g:=⟨_,rfl⟩
 rw[←hok]
 have HB:=zh (zN b0 (zN b1 (zN bel (zN hx hok))))
 clear hb b0 b1 bel hx hok
 go_wp2_with fail
 go_loopw [6,13] (fun o i wr=>∃ k:Nat,k≤len∧i=.int .i64 k∧o=.bool (kQ ok f k)∧au wr x 79 #[.bool (iM s l f k).1,.int .i64 (iM s l f k).2,.int .i64 g]∧au wr (x+1) 79 #[.bool false,.int .i64 0,.int .i64 0]∧Below w.heap.size w wr) (fun _ i _=>len-(intOf i).toNat)
 case atStart=>exact ⟨0,Nat.zero_le _,rfl,rfl,HB.out.1,HB.out.2.1,HB.out.2.2.1⟩
 case round=>
  obtain⟨k,hk,rfl,rfl,hb0,hb1,hbel⟩:=hrel
  have ho:kQ ok f (k+1)=(kQ ok f k && fI (f k)):=rfl
  have hn:iM s l f (k+1)=if (!(iM s l f k).1 || decide ((iM s l f k).2 < f k))=true then (true,f k) else iM s l f k:=rfl
  obtain⟨o,hoo⟩:∃ b,b=kQ ok f k:=⟨_,rfl⟩
  obtain⟨st,hst⟩:∃ b,b=iM s l f k:=⟨_,rfl⟩
  obtain⟨s',l'⟩:=st
  rw[←hst] at hn hb0
  rw[←hoo] at ho
  rw[←hoo]
  simp only[] at hn hb0
  by_cases hlt:k < len
  ·obtain ⟨b,off,hA,-,hc⟩:=(HS.out.below hbel (fun _ h _=>h)) (by omega)
   have ck:wr.cell? ⟨b,off+k,none⟩=some (.int .i64 (f k)):=hc k hlt
   subst hA
   obtain⟨t,ht⟩:∃ t,t=f k:=⟨_,rfl⟩
   rw[←ht] at ck ho hn
   obtain⟨it,hit⟩:∃ t',t'=fI t:=⟨_,rfl⟩
   rw[←hit] at ho
   have f0:=hb0.frozen
   have p0:=hb0.cell 0
   have p1:=hb0.cell 1
   simp at p0 p1
   have HR:=zh (zN hb0 (zN hb1 (zN hbel (zN ho (zN hn hit)))))
   clear hb0 hb1 hbel ho hn hit hc ht hst hoo
   have fin1:∀ wz o' st',kQ ok f (k+1)=o'→iM s l f (k+1)=st'→au wz x 79 #[.bool st'.1,.int .i64 st'.2,.int .i64 g]→au wz (x+1) 79 #[.bool false,.int .i64 0,.int .i64 0]→Below w.heap.size w wz→
     ∃ j:Nat,j≤len∧Value.int .i64 ((k:Int)+1)=.int .i64 j∧Value.bool o'=.bool (kQ ok f j)∧au wz x 79 #[.bool (iM s l f j).1,.int .i64 (iM s l f j).2,.int .i64 g]∧au wz (x+1) 79 #[.bool false,.int .i64 0,.int .i64 0]∧Below w.heap.size w wz:=by
    intro wz o' st' e1 e2 h1 h2 h3
    exact⟨k+1,by omega,by go_num,by rw[e1],by rw[e2];exact h1,h2,h3⟩
   have F1:=zh fin1
   clear fin1
   have belset:Below w.heap.size w ((wr.setCell ⟨x,0,none⟩ (.bool true)).setCell ⟨x,1,none⟩ (.int .i64 t)):=(HR.out.2.2.1.setCell (by have:=HX.out;show _≤x;omega) _).setCell (by have:=HX.out;show _≤x;omega) _
   have b0set:au ((wr.setCell ⟨x,0,none⟩ (.bool true)).setCell ⟨x,1,none⟩ (.int .i64 t)) x 79 #[.bool true,.int .i64 t,.int .i64 g]:=by simpa using (HR.out.1.set 0 (.bool true)).set 1 (.int .i64 t)
   have b1set:au ((wr.setCell ⟨x,0,none⟩ (.bool true)).setCell ⟨x,1,none⟩ (.int .i64 t)) (x+1) 79 #[.bool false,.int .i64 0,.int .i64 0]:=(HR.out.2.1.far (by show x+1≠x;omega) _).far (by show x+1≠x;omega) _
   have HW:=zh (zN belset (zN b0set b1set))
   clear belset b0set b1set
   cases o with
   | false=>
    cases s' with
    | false=>
     go_wp2_with fail
     go_roundw
     case rel=>exact F1.out _ false (true,t) (by rw[HR.out.2.2.2.1];rfl) (by rw[HR.out.2.2.2.2.1];rfl) HW.out.2.1 HW.out.2.2 HW.out.1
     case measure=>simp[intOf];omega
    | true=>
     by_cases hgt:l' < t
     ·have d:decide (l' < t)=true:=by simp[hgt]
      go_wp2_with fail
      go_roundw
      case rel=>exact F1.out _ false (true,t) (by rw[HR.out.2.2.2.1];rfl) (by rw[HR.out.2.2.2.2.1,d];rfl) HW.out.2.1 HW.out.2.2 HW.out.1
      case measure=>simp[intOf];omega
     ·have d:decide (l' < t)=false:=by simp;omega
      go_wp2_with fail
      go_roundw
      case rel=>exact F1.out _ false (true,l') (by rw[HR.out.2.2.2.1];rfl) (by rw[HR.out.2.2.2.2.1,d];rfl) HR.out.1 HR.out.2.1 HR.out.2.2.1
      case measure=>simp[intOf];omega
   | true=>
    go_wp2_with fail
    refine(tC _ _).mono ?_
    rintro e w2 ⟨rfl,rfl⟩
    rw[←HR.out.2.2.2.2.2]
    cases s' with
    | false=>
     go_wp2_with fail
     go_roundw
     case rel=>exact F1.out _ it (true,t) (by rw[HR.out.2.2.2.1];rfl) (by rw[HR.out.2.2.2.2.1];rfl) HW.out.2.1 HW.out.2.2 HW.out.1
     case measure=>simp[intOf];omega
    | true=>
     by_cases hgt:l' < t
     ·have d:decide (l' < t)=true:=by simp[hgt]
      go_wp2_with fail
      go_roundw
      case rel=>exact F1.out _ it (true,t) (by rw[HR.out.2.2.2.1];rfl) (by rw[HR.out.2.2.2.2.1,d];rfl) HW.out.2.1 HW.out.2.2 HW.out.1
      case measure=>simp[intOf];omega
     ·have d:decide (l' < t)=false:=by simp;omega
      go_wp2_with fail
      go_roundw
      case rel=>exact F1.out _ it (true,l') (by rw[HR.out.2.2.2.1];rfl) (by rw[HR.out.2.2.2.2.1,d];rfl) HR.out.1 HR.out.2.1 HR.out.2.2.1
      case measure=>simp[intOf];omega
  ·obtain rfl:k=len:=by omega
   have p0:=hb0.cell 0
   have p1:=hb0.cell 1
   have p2:=hb0.cell 2
   have q0:=hb1.cell 0
   have q1:=hb1.cell 1
   have q2:=hb1.cell 2
   have f1:=hb1.frozen
   simp at p0 p1 p2 q0 q1 q2
   have HR:=zh (zN hb1 (zN hbel (zN hoo hst)))
   clear hb0 hb1 hbel ho hn hoo hst
   cases o with
   | false=>
    go_wp2_with fail
    have b2:=HR.out.1.O8 (.bool false) (.int .i64 0) (.int .i64 0)
    have bel2:=rY (g:=x+1) HR.out.2.1 (by have:=HX.out;omega) (.bool false) (.int .i64 0) (.int .i64 0)
    generalize (((wr.setCell ⟨x+1,0,none⟩ (.bool false)).setCell ⟨x+1,1,none⟩ (.int .i64 0)).setCell ⟨x+1,2,none⟩ (.int .i64 0))=w2 at b2 bel2 ⊢
    have r0:=b2.cell 0
    have r1:=b2.cell 1
    have r2:=b2.cell 2
    simp at r0 r1 r2
    refine bodyPost_ret (v:=.tuple #[.agg #[.bool false,.int .i64 0,.int .i64 0],.int .i64 2]) (by simp[results,Tryz.results77,go_sem,r0,r1,r2]) rfl ⟨?_,bel2⟩
    rw[←HB.out.2.2.2.2,←HR.out.2.2.1,if_neg (by simp)]
   | true=>
    go_wp2_with fail
    have b2:=HR.out.1.O8 (.bool s') (.int .i64 l') (.int .i64 g)
    have bel2:=rY (g:=x+1) HR.out.2.1 (by have:=HX.out;omega) (.bool s') (.int .i64 l') (.int .i64 g)
    generalize (((wr.setCell ⟨x+1,0,none⟩ (.bool s')).setCell ⟨x+1,1,none⟩ (.int .i64 l')).setCell ⟨x+1,2,none⟩ (.int .i64 g))=w2 at b2 bel2 ⊢
    have r0:=b2.cell 0
    have r1:=b2.cell 1
    have r2:=b2.cell 2
    simp at r0 r1 r2
    refine bodyPost_ret (v:=.tuple #[.agg #[.bool s',.int .i64 l',.int .i64 g],.int .i64 0]) (by simp[results,Tryz.results77,go_sem,r0,r1,r2]) rfl ⟨?_,bel2⟩
    rw[←HB.out.2.2.2.2,←HR.out.2.2.1,←HR.out.2.2.2,if_pos rfl]
end V
section
theorem Gs(x:Int): (BitVec.ofInt 64 x).toNat=(x%18446744073709551616).toNat:=by
 rw[BitVec.toNat_ofInt];rfl
theorem vH(x:Int)(k:Nat)(hk:k≤62): bits .and .i64 x ((2 ^ k-1:Nat):Int)=((x%(2 ^ k:Nat)).toNat:Int):=by
 have h64:(2:Nat) ^ k≤2 ^ 62:=Nat.pow_le_pow_right (by omega) hk
 have hp:0 < 2 ^ k:=Nat.two_pow_pos k
 show IntKind.i64.wrap ((BitVec.ofInt 64 x &&& BitVec.ofInt 64 ((2 ^ k-1:Nat):Int)).toNat:Int)=_
 have h2:(BitVec.ofInt 64 ((2 ^ k-1:Nat):Int)).toNat=2 ^ k-1:=by
  rw[BitVec.ofInt_natCast,BitVec.toNat_ofNat];exact Nat.mod_eq_of_lt (by omega)
 have h3:(x%18446744073709551616).toNat%2 ^ k=(x%(2 ^ k:Nat)).toNat:=by
  have hd:((2 ^ k:Nat):Int) ∣ 18446744073709551616:=by
   have:(18446744073709551616:Int)=((2 ^ k:Nat):Int)*((2 ^ (64-k):Nat):Int):=by
    rw[←Int.natCast_mul,←Nat.pow_add,show k+(64-k)=64 by omega];rfl
   exact⟨_,this⟩
  have h4:x%18446744073709551616%((2 ^ k:Nat):Int)=x%((2 ^ k:Nat):Int):=Int.emod_emod_of_dvd x hd
  have h5:0≤x%18446744073709551616:=Int.emod_nonneg _ (by omega)
  obtain⟨y,hy⟩:=Int.eq_ofNat_of_zero_le h5
  rw[hy] at h4 ⊢
  rw[←h4]
  rfl
 rw[BitVec.toNat_and,h2,Gs,Nat.and_two_pow_sub_one_eq_mod,h3,IntKind.wrap_i64]
 have h6:0≤x%((2 ^ k:Nat):Int):=Int.emod_nonneg _ (by omega)
 have h7:x%((2 ^ k:Nat):Int) < ((2 ^ k:Nat):Int):=Int.emod_lt_of_pos _ (by omega)
 omega
theorem Q9(x:Int): bits .and .i64 x 63=((x%64).toNat:Int):=vH x 6 (by omega)
theorem Rl(x:Int): bits .and .i64 x 31=((x%32).toNat:Int):=vH x 5 (by omega)
end
namespace V
theorem BL(wm t:Int): oZ false wm (fun _=>t) 1 0 = -1:=rfl
end V
namespace V
open Go.RowKit
structure Er where
 s: Bool
 l:Int
 g:Int
 n:Nat
 e:Nat
def oL(e:Nat): Er:=⟨false,0,0,0,e⟩
def JR(lag:Int)(n:Nat)(k:List Nat): Er:=
 if (aB k).2.2≠0 then oL (aB k).2.2
 else if dh true (zag (aB k).1) lag=true then ⟨true,zag (aB k).1,lag,n+(aB k).2.1,0⟩ else oL 11
def JI(lag:Int)(n:Nat)(m:List Nat): Er:=
 if (aB m).2.2≠0 then oL (aB m).2.2
 else if 1 < (aB m).1 then oL 11
 else if (aB m).1=1 then JR lag (n+(aB m).2.1) (m.drop (aB m).2.1)
 else if dh false 0 lag=true then ⟨false,0,lag,n+(aB m).2.1,0⟩ else oL 11
def yE(l:List Nat): Er:=
 if (aB l).2.2≠0 then oL (aB l).2.2 else JI (IntKind.i64.wrap (aB l).1) (aB l).2.1 (l.drop (aB l).2.1)
theorem yV(l:List Nat): yE l=if (aB l).2.2≠0 then oL (aB l).2.2 else JI (IntKind.i64.wrap (aB l).1) (aB l).2.1 (l.drop (aB l).2.1):=rfl
theorem uI(lag:Int)(n:Nat)(m:List Nat): JI lag n m=if (aB m).2.2≠0 then oL (aB m).2.2
 else if 1 < (aB m).1 then oL 11
 else if (aB m).1=1 then JR lag (n+(aB m).2.1) (m.drop (aB m).2.1)
 else if dh false 0 lag=true then ⟨false,0,lag,n+(aB m).2.1,0⟩ else oL 11:=rfl
theorem Ch(lag:Int)(n:Nat)(k:List Nat): JR lag n k=if (aB k).2.2≠0 then oL (aB k).2.2
 else if dh true (zag (aB k).1) lag=true then ⟨true,zag (aB k).1,lag,n+(aB k).2.1,0⟩ else oL 11:=rfl
def Lx(l:List Nat)(w:World)(e:Ending)(w':World): Prop:=
 e=.returned (.tuple #[.agg #[.bool (yE l).s,.int .i64 (yE l).l,.int .i64 (yE l).g],.int .i64 ((yE l).n:Nat),.int .i64 ((yE l).e:Nat)])∧Below w.heap.size w w'
theorem kF{s:Bool}{l g:Int}{n e:Nat}{r:Er}(h:r=⟨s,l,g,n,e⟩):
  Ending.returned (.tuple #[.agg #[.bool s,.int .i64 l,.int .i64 g],.int .i64 (n:Nat),.int .i64 (e:Nat)])=.returned (.tuple #[.agg #[.bool r.s,.int .i64 r.l,.int .i64 r.g],.int .i64 (r.n:Nat),.int .i64 (r.e:Nat)]):=by subst h;rfl
theorem QB(w:World): (sizeOf 5).run Tryz.prog w=.ok 1 w:=by kernel_rfl
theorem Nv(w:World)(A:Option Addr)(len c:Nat)(l:List Nat)(hl:l.length=len)(hb:∀ j,l.getD j 0 < 256)(hsl:Sl w (fun q=>q < w.heap.size) A len (aD l))(hlc:len≤c)(hcm:c≤9223372036854775807)(hv:cu w):
  Calls Tryz.prog 286 #[.slice A len c] w (Lx l w):=by
 obtain⟨x,hx⟩:∃ x,x=w.heap.size:=⟨_,rfl⟩
 have o0:=Own.eX w hx 79 #[.bool false,.int .i64 0,.int .i64 0]
 have s0:=iF hsl o0.bel
 have hv0:=hv.below o0.bel
 have HS:=zh (zN hl (zN hb (zN hsl hv)))
 have HO:=zh (zN hx (zN o0 (zN s0 hv0)))
 clear hl hb hsl hv hx o0 s0 hv0
 go_enter Tryz.func286,Tryz.ntmps286
 go_wp2_with fail
 refine(kT _ _ A len c l HS.out.1 HS.out.2.1 HO.out.2.2.1 (by omega) HO.out.2.2.2).mono ?_
 rintro e w1 ⟨rfl,hb1⟩
 have hM:=yV l
 have hvl:=nH l
 rw[HS.out.1] at hvl
 obtain⟨u,hu⟩:∃ u,u=(aB l).1:=⟨_,rfl⟩
 obtain⟨n,hn⟩:∃ n,n=(aB l).2.1:=⟨_,rfl⟩
 obtain⟨k,hk⟩:∃ k,k=(aB l).2.2:=⟨_,rfl⟩
 rw[←hu,←hn,←hk] at hM
 rw[←hu,←hn] at hvl
 rw[←hu,←hn,←hk,←HO.out.1]
 obtain⟨hu64,hn10,hnl⟩:=hvl
 have hS:=HO.out.2.1.call hb1
 clear hu hn hk hb1
 by_cases h0:k=0
 ·subst h0
  rw[if_neg (by omega)] at hM
  obtain⟨A1,hA1,hA2⟩:=gI (P:=Tryz.prog) 72 5 Tryz.underlying72 QB A len c n hnl hlc
  have s1:=hA2 w1 _ l (iF HS.out.2.2.1 hS.bel)
  have hv1:=HS.out.2.2.2.below hS.bel
  have hm1:(l.drop n).length=len-n:=by rw[List.length_drop,HS.out.1]
  have hmb:=bN HS.out.2.1 n
  have HM1:=zh (zN hM (zN s1 (zN hv1 (zN hm1 (zN hmb hS)))))
  clear hM s1 hv1 hm1 hmb hS hA2
  obtain⟨lg,hlg⟩:∃ lg,lg=IntKind.i64.wrap (u:Int):=⟨_,rfl⟩
  have klg:IntKind.i64.wrap (u:Int)=lg:=hlg.symm
  rw[klg] at HM1
  clear hlg
  go_wp2_with fail
  refine(kT _ _ A1 (len-n) (c-n) (l.drop n) HM1.out.2.2.2.1 HM1.out.2.2.2.2.1 HM1.out.2.1 (by omega) HM1.out.2.2.1).mono ?_
  rintro e w2 ⟨rfl,hb2⟩
  have hM:=HM1.out.1
  rw[uI] at hM
  obtain⟨m,hm⟩:∃ m,m=l.drop n:=⟨_,rfl⟩
  rw[←hm] at hM ⊢
  have hvl:=nH m
  rw[hm,HM1.out.2.2.2.1,←hm] at hvl
  have hve:=M6 m
  obtain⟨sn,hsn⟩:∃ u,u=(aB m).1:=⟨_,rfl⟩
  obtain⟨n2,hn2⟩:∃ n,n=(aB m).2.1:=⟨_,rfl⟩
  obtain⟨k2,hk2⟩:∃ k,k=(aB m).2.2:=⟨_,rfl⟩
  rw[←hsn,←hn2,←hk2] at hM hve
  rw[←hsn,←hn2] at hvl
  rw[←hsn,←hn2,←hk2]
  obtain⟨hs64,hn210,hn2l⟩:=hvl
  have hS:=HM1.out.2.2.2.2.2.call hb2
  have hmm:m.drop n2=l.drop (n+n2):=by rw[hm,List.drop_drop]
  rw[hmm] at hM
  clear hsn hn2 hk2 hb2 hm hmm hA1 HM1
  by_cases h2:k2=0
  ·subst h2
   clear hve
   rw[if_neg (by omega)] at hM
   by_cases h3:sn=1
   ·subst h3
    rw[if_neg (by omega),if_pos rfl] at hM
    have d1:decide ((1:Int) < (1:Int))=false:=rfl
    have z0_0:=hS.cell 0 0 rfl rfl;have z0_1:=hS.cell 0 1 rfl rfl;have z0_2:=hS.cell 0 2 rfl rfl
    have zf0:=hS.free 0 rfl
    have HT:=zh hS
    clear hS
    have hSa:=HT.out
    have hSb:=(fu.of HT.out rfl).put [.bool true,.int .i64 0,.int .i64 lg] rfl
    have HB:=zh (zN hSb hM)
    clear hSa hSb hM
    go_upto_region 7 with (fail)
    refine aH (Own w [(x,79,#[.bool true,.int .i64 0,.int .i64 lg])]) HB.out.1 ?_
    clear z0_0 z0_1 z0_2 zf0 HT
    intro w3 hS
    have hM:=HB.out.2
    obtain⟨A2,hA1,hA2⟩:=gI (P:=Tryz.prog) 72 5 Tryz.underlying72 QB A len c (n+n2) (by omega) hlc
    have s1:=hA2 w3 _ l (iF HS.out.2.2.1 hS.bel)
    have hv1:=HS.out.2.2.2.below hS.bel
    have hm1:(l.drop (n+n2)).length=len-(n+n2):=by rw[List.length_drop,HS.out.1]
    have hmb:=bN HS.out.2.1 (n+n2)
    rw[show ((n+n2:Nat):Int)=(n:Int)+(n2:Int) by omega] at hA1
    have z0_0:=hS.cell 0 0 rfl rfl;have z0_1:=hS.cell 0 1 rfl rfl;have z0_2:=hS.cell 0 2 rfl rfl
    have HM2:=zh (zN hM (zN s1 (zN hv1 (zN hm1 (zN hmb hS)))))
    clear hM s1 hv1 hm1 hmb hS hA2 HB
    go_wp2_with fail
    refine(vS _ _ A2 (len-(n+n2)) (c-(n+n2)) (l.drop (n+n2)) HM2.out.2.2.2.1 HM2.out.2.2.2.2.1 HM2.out.2.1 (by omega) HM2.out.2.2.1).mono ?_
    rintro e w4 ⟨rfl,hb4⟩
    have hM:=HM2.out.1
    rw[Ch] at hM
    obtain⟨q,hq⟩:∃ q,q=l.drop (n+n2):=⟨_,rfl⟩
    rw[←hq] at hM ⊢
    have hvl:=nH q
    obtain⟨t,ht⟩:∃ t,t=zag (aB q).1:=⟨_,rfl⟩
    obtain⟨n3,hn3⟩:∃ n,n=(aB q).2.1:=⟨_,rfl⟩
    obtain⟨k3,hk3⟩:∃ k,k=(aB q).2.2:=⟨_,rfl⟩
    rw[←ht,←hn3,←hk3] at hM
    rw[←hn3] at hvl
    rw[←ht,←hn3,←hk3]
    have hn310:=hvl.2.1
    have hS:=HM2.out.2.2.2.2.2.call hb4
    clear hvl ht hn3 hk3 hb4 hq z0_0 z0_1 z0_2 hA1 HM2
    have hSb:=(fu.of hS rfl).put [.bool true,.int .i64 t,.int .i64 lg] rfl
    have hS0:=hS.set 0 1 rfl (.int .i64 t)
    have z0_0:=hS.cell 0 0 rfl rfl;have z0_1:=hS.cell 0 1 rfl rfl;have z0_2:=hS.cell 0 2 rfl rfl
    have zf0:=hS.free 0 rfl
    have HB:=zh (zN hS0 hM)
    clear hS hSb hS0 hM
    go_upto_region 9 with (fail)
    refine aH (Own w [(x,79,#[.bool true,.int .i64 t,.int .i64 lg])]) HB.out.1 ?_
    clear z0_0 z0_1 z0_2 zf0
    intro w5 hS
    have hM:=HB.out.2
    clear HB
    by_cases h4:k3=0
    ·subst h4
     rw[if_neg (by omega)] at hM
     have z0_0:=hS.cell 0 0 rfl rfl;have z0_1:=hS.cell 0 1 rfl rfl;have z0_2:=hS.cell 0 2 rfl rfl
     have HT:=zh hS
     clear hS
     by_cases hr:dh true t lg=true
     ·rw[if_pos hr] at hM
      have HM:=zh (zN hM hr)
      clear hM hr
      go_wp2_with fail
      refine(iX true t lg _).mono ?_
      rintro e w6 ⟨rfl,hb6⟩
      rw[HM.out.2]
      have hS:=HT.out.call hb6
      clear z0_0 z0_1 z0_2 hb6 HT
      have z0_0:=hS.cell 0 0 rfl rfl;have z0_1:=hS.cell 0 1 rfl rfl;have z0_2:=hS.cell 0 2 rfl rfl
      have zf0:=hS.free 0 rfl
      have HT:=zh hS
      clear hS
      have HP:=zh (((fu.of HT.out rfl).put [.bool true,.int .i64 t,.int .i64 lg] rfl).bel)
      go_wp2_with fail
      exact bodyPost_ret (v:=.tuple #[.agg #[.bool true,.int .i64 t,.int .i64 lg],.int .i64 ((n+n2+n3:Nat):Int),.int .i64 0]) (by simp[results,Tryz.results286,go_sem,z0_0,z0_1,z0_2]) rfl ⟨kF (e:=0) HM.out.1,HP.out⟩
     ·rw[if_neg hr] at hM
      have HM:=zh hM
      have HR:=zh (show dh true t lg=false by simpa using hr)
      clear hM hr
      go_wp2_with fail
      refine(iX true t lg _).mono ?_
      rintro e w6 ⟨rfl,hb6⟩
      rw[HR.out]
      have hS:=HT.out.call hb6
      clear z0_0 z0_1 z0_2 hb6 HT
      have z0_0:=hS.cell 0 0 rfl rfl;have z0_1:=hS.cell 0 1 rfl rfl;have z0_2:=hS.cell 0 2 rfl rfl
      have zf0:=hS.free 0 rfl
      have HT:=zh hS
      clear hS
      have HP:=zh (((fu.of HT.out rfl).put [.bool false,.int .i64 0,.int .i64 0] rfl).bel)
      go_wp2_with fail
      exact bodyPost_ret (v:=.tuple #[.agg #[.bool false,.int .i64 0,.int .i64 0],.int .i64 0,.int .i64 11]) (by simp[results,Tryz.results286,go_sem,z0_0,z0_1,z0_2]) rfl ⟨kF (e:=11) (n:=0) HM.out,HP.out⟩
    ·rw[if_pos h4] at hM
     have HM:=zh hM
     have d2:((k3:Int) != 0)=true:=by simp;omega
     clear hM h4
     have z0_0:=hS.cell 0 0 rfl rfl;have z0_1:=hS.cell 0 1 rfl rfl;have z0_2:=hS.cell 0 2 rfl rfl
     have zf0:=hS.free 0 rfl
     have HT:=zh hS
     clear hS
     have HP:=zh (((fu.of HT.out rfl).put [.bool false,.int .i64 0,.int .i64 0] rfl).bel)
     go_wp2_with fail
     exact bodyPost_ret (v:=.tuple #[.agg #[.bool false,.int .i64 0,.int .i64 0],.int .i64 0,.int .i64 k3]) (by simp[results,Tryz.results286,go_sem,z0_0,z0_1,z0_2]) rfl ⟨kF (e:=k3) (n:=0) HM.out,HP.out⟩
   ·have d1:((sn:Int) == 1)=false:=by simp;omega
    by_cases h4:1 < sn
    ·rw[if_pos h4] at hM
     have HM:=zh hM
     have d2:decide ((1:Int) < (sn:Int))=true:=by simp;omega
     clear hM h3 h4
     have z0_0:=hS.cell 0 0 rfl rfl;have z0_1:=hS.cell 0 1 rfl rfl;have z0_2:=hS.cell 0 2 rfl rfl
     have zf0:=hS.free 0 rfl
     have HT:=zh hS
     clear hS
     have HB:=zh ((fu.of HT.out rfl).put [.bool false,.int .i64 0,.int .i64 lg] rfl)
     go_upto_region 7 with (fail)
     refine aH (Own w [(x,79,#[.bool false,.int .i64 0,.int .i64 lg])]) HB.out ?_
     clear z0_0 z0_1 z0_2 zf0 HT HB
     intro w3 hS
     have z0_0:=hS.cell 0 0 rfl rfl;have z0_1:=hS.cell 0 1 rfl rfl;have z0_2:=hS.cell 0 2 rfl rfl
     have zf0:=hS.free 0 rfl
     have HT:=zh hS
     clear hS
     have HP:=zh (((fu.of HT.out rfl).put [.bool false,.int .i64 0,.int .i64 0] rfl).bel)
     go_wp2_with fail
     exact bodyPost_ret (v:=.tuple #[.agg #[.bool false,.int .i64 0,.int .i64 0],.int .i64 0,.int .i64 11]) (by simp[results,Tryz.results286,go_sem,z0_0,z0_1,z0_2]) rfl ⟨kF (e:=11) (n:=0) HM.out,HP.out⟩
    ·obtain rfl:sn=0:=by omega
     rw[if_neg (by omega),if_neg (by omega)] at hM
     clear d1 h3 h4
     have z0_0:=hS.cell 0 0 rfl rfl;have z0_1:=hS.cell 0 1 rfl rfl;have z0_2:=hS.cell 0 2 rfl rfl
     have zf0:=hS.free 0 rfl
     have HT:=zh hS
     clear hS
     have hSb:=(fu.of HT.out rfl).put [.bool false,.int .i64 0,.int .i64 lg] rfl
     have HB:=zh (zN hSb hM)
     clear hSb hM
     go_upto_region 7 with (fail)
     refine aH (Own w [(x,79,#[.bool false,.int .i64 0,.int .i64 lg])]) HB.out.1 ?_
     clear z0_0 z0_1 z0_2 zf0 HT
     intro w3 hS
     have hM:=HB.out.2
     clear HB
     have z0_0:=hS.cell 0 0 rfl rfl;have z0_1:=hS.cell 0 1 rfl rfl;have z0_2:=hS.cell 0 2 rfl rfl
     have HT:=zh hS
     clear hS
     by_cases hr:dh false 0 lg=true
     ·rw[if_pos hr] at hM
      have HM:=zh (zN hM hr)
      clear hM hr
      go_wp2_with fail
      refine(iX false 0 lg _).mono ?_
      rintro e w6 ⟨rfl,hb6⟩
      rw[HM.out.2]
      have hS:=HT.out.call hb6
      clear z0_0 z0_1 z0_2 hb6 HT
      have z0_0:=hS.cell 0 0 rfl rfl;have z0_1:=hS.cell 0 1 rfl rfl;have z0_2:=hS.cell 0 2 rfl rfl
      have zf0:=hS.free 0 rfl
      have HT:=zh hS
      clear hS
      have HP:=zh (((fu.of HT.out rfl).put [.bool false,.int .i64 0,.int .i64 lg] rfl).bel)
      go_wp2_with fail
      exact bodyPost_ret (v:=.tuple #[.agg #[.bool false,.int .i64 0,.int .i64 lg],.int .i64 ((n+n2:Nat):Int),.int .i64 0]) (by simp[results,Tryz.results286,go_sem,z0_0,z0_1,z0_2]) rfl ⟨kF (e:=0) HM.out.1,HP.out⟩
     ·rw[if_neg hr] at hM
      have HM:=zh hM
      have HR:=zh (show dh false 0 lg=false by simpa using hr)
      clear hM hr
      go_wp2_with fail
      refine(iX false 0 lg _).mono ?_
      rintro e w6 ⟨rfl,hb6⟩
      rw[HR.out]
      have hS:=HT.out.call hb6
      clear z0_0 z0_1 z0_2 hb6 HT
      have z0_0:=hS.cell 0 0 rfl rfl;have z0_1:=hS.cell 0 1 rfl rfl;have z0_2:=hS.cell 0 2 rfl rfl
      have zf0:=hS.free 0 rfl
      have HT:=zh hS
      clear hS
      have HP:=zh (((fu.of HT.out rfl).put [.bool false,.int .i64 0,.int .i64 0] rfl).bel)
      go_wp2_with fail
      exact bodyPost_ret (v:=.tuple #[.agg #[.bool false,.int .i64 0,.int .i64 0],.int .i64 0,.int .i64 11]) (by simp[results,Tryz.results286,go_sem,z0_0,z0_1,z0_2]) rfl ⟨kF (e:=11) (n:=0) HM.out,HP.out⟩
  ·rw[if_pos h2] at hM
   have HM:=zh hM
   have d2:((k2:Int) != 0)=true:=by simp;omega
   have d3:((k2:Int) == 0)=false:=by simp;omega
   obtain rfl:sn=0:=by omega
   clear hM h2 hve
   have z0_0:=hS.cell 0 0 rfl rfl;have z0_1:=hS.cell 0 1 rfl rfl;have z0_2:=hS.cell 0 2 rfl rfl
   have zf0:=hS.free 0 rfl
   have HT:=zh hS
   clear hS
   have HB:=zh ((fu.of HT.out rfl).put [.bool false,.int .i64 0,.int .i64 lg] rfl)
   go_upto_region 7 with (fail)
   refine aH (Own w [(x,79,#[.bool false,.int .i64 0,.int .i64 lg])]) HB.out ?_
   clear z0_0 z0_1 z0_2 zf0 HT HB
   intro w3 hS
   have z0_0:=hS.cell 0 0 rfl rfl;have z0_1:=hS.cell 0 1 rfl rfl;have z0_2:=hS.cell 0 2 rfl rfl
   have zf0:=hS.free 0 rfl
   have HT:=zh hS
   clear hS
   have HP:=zh (((fu.of HT.out rfl).put [.bool false,.int .i64 0,.int .i64 0] rfl).bel)
   go_wp2_with fail
   exact bodyPost_ret (v:=.tuple #[.agg #[.bool false,.int .i64 0,.int .i64 0],.int .i64 0,.int .i64 k2]) (by simp[results,Tryz.results286,go_sem,z0_0,z0_1,z0_2]) rfl ⟨kF (e:=k2) (n:=0) HM.out,HP.out⟩
 ·rw[if_pos h0] at hM
  have HM:=zh hM
  have d0:((k:Int) != 0)=true:=by simp;omega
  clear hM h0
  have z0_0:=hS.cell 0 0 rfl rfl;have z0_1:=hS.cell 0 1 rfl rfl;have z0_2:=hS.cell 0 2 rfl rfl
  have zf0:=hS.free 0 rfl
  have HT:=zh hS
  clear hS
  have HP:=zh (((fu.of HT.out rfl).put [.bool false,.int .i64 0,.int .i64 0] rfl).bel)
  go_wp2_with fail
  exact bodyPost_ret (v:=.tuple #[.agg #[.bool false,.int .i64 0,.int .i64 0],.int .i64 0,.int .i64 k]) (by simp[results,Tryz.results286,go_sem,z0_0,z0_1,z0_2]) rfl ⟨kF (e:=k) (n:=0) HM.out,HP.out⟩
end V
namespace V
open Go.RowKit
end V
namespace V
open Go.RowKit
end V
namespace V
open Go.RowKit
def mE(s:Bool)(l g:Int): List Nat:=aC (g%18446744073709551616).toNat ++ (if s=true then aC 1 ++ aC (zig l) else aC 0)
theorem FH(w:World)(A:Option Addr)(len c:Nat)(bs:List Nat)(s:Bool)(l g:Int)(hl:bs.length=len)(hsl:Sl w (fun k=>k < w.heap.size) A len (aD bs))(hlc:len≤c)(hsm:len≤1099511627000)(h0 : -9223372036854775808≤l)(h1:l≤9223372036854775807):
  Calls Tryz.prog 289 #[.slice A len c,.agg #[.bool s,.int .i64 l,.int .i64 g]] w (qo w (bs ++ mE s l g)):=by
 obtain⟨x,hx⟩:∃ x,x=w.heap.size:=⟨_,rfl⟩
 have o0:=Own.eX w hx 79 #[.bool s,.int .i64 l,.int .i64 g]
 obtain⟨u,hu⟩:∃ u,u=(g%18446744073709551616).toNat:=⟨_,rfl⟩
 have ku:IntKind.u64.wrap g=(u:Int):=by rw[IntKind.wrap_u64];omega
 have hu64:u < 18446744073709551616:=by omega
 have HO:=zh (zN hx (zN o0 (zN (iF hsl o0.bel) (zN hl hu))))
 have HZ:=zh (zN h0 h1)
 clear hx o0 hsl hl hu h0 h1
 go_enter Tryz.func289,Tryz.ntmps289
 go_wp2_with fail
 refine(gW _ A len c bs (u:Int) HO.out.2.2.2.1 HO.out.2.2.1 hlc (by omega) (by omega) (by omega)).mono ?_
 rintro e w1 ⟨v,rfl,ho,hb⟩
 rw[Int.toNat_natCast] at ho
 have hlen:(bs ++ aC u).length≤len+10:=by
  have:=aR hu64
  rw[List.length_append,HO.out.2.2.2.1];omega
 obtain⟨B,hB⟩:∃ B,B=bs ++ aC u:=⟨_,rfl⟩
 rw[←hB] at ho hlen
 obtain⟨n1,hn1⟩:∃ n,n=B.length:=⟨_,rfl⟩
 rw[←hn1] at ho hlen
 obtain⟨A1,c1,hv1,hc1,-⟩:=aA ho
 subst hv1
 have hS:=HO.out.2.1.call hb
 have HB:=zh (zN hB (zN hn1.symm (zN (dN ho) hS)))
 clear hb hB hn1 ho
 rw[←HO.out.1]
 have z0_0:=hS.cell 0 0 rfl rfl;have z0_1:=hS.cell 0 1 rfl rfl;have z0_2:=hS.cell 0 2 rfl rfl
 clear hS
 cases s with
 | false=>
  go_wp2_with fail
  refine(gW _ A1 n1 c1 B 0 HB.out.2.1 HB.out.2.2.1 hc1 (by omega) (by omega) (by omega)).mono ?_
  rintro e w2 ⟨v,rfl,ho,hb⟩
  rw[show (0:Int).toNat=0 from rfl] at ho
  have e1:bs ++ mE false l g=B ++ aC 0:=by unfold mE;rw[←HO.out.2.2.2.2,HB.out.1,List.append_assoc];rfl
  have HF:=zh (zN ho (zN hb e1))
  clear ho hb e1
  go_wp2_with fail
  go_ret
  refine⟨v,rfl,?_,(HB.out.2.2.2.call HF.out.2.1).bel⟩
  rw[HF.out.2.2]
  exact aU HF.out.1 HB.out.2.2.2.size
 | true=>
  go_wp2_with fail
  have hS:(Own w [(x,79,#[.bool true,.int .i64 l,.int .i64 g])]) (w1.drew):=HB.out.2.2.2.drew
  refine av (Own w [(x,79,#[.bool true,.int .i64 l,.int .i64 g])]) (by kernel_rfl) hS ?_
  refine zB [0,2,3] ?_
  iterate 3 (refine zV ?_ ?_ hS ?_;rotate_left;(intro w' hSw;have z0_0:=hSw.cell 0 0 rfl rfl;have z0_1:=hSw.cell 0 1 rfl rfl;have z0_2:=hSw.cell 0 2 rfl rfl;go_simp<;>with_reducible rfl);try simp only[zP])
  refine zE ?_
  refine zC 1 fun K HK=>?_
  go_simp
  refine(gW _ A1 n1 c1 B 1 HB.out.2.1 (iF HB.out.2.2.1 (Below.refl _ _).drew) hc1 (by omega) (by omega) (by omega)).mono ?_
  rintro e w2 ⟨v,rfl,ho,hb⟩
  rw[show (1:Int).toNat=1 from rfl] at ho
  have hlen2:(B ++ aC 1).length≤len+20:=by
   have:=aR (u:=1) (by omega)
   rw[List.length_append,HB.out.2.1];omega
  obtain⟨B2,hB2⟩:∃ C,C=B ++ aC 1:=⟨_,rfl⟩
  rw[←hB2] at ho hlen2
  obtain⟨n2,hn2⟩:∃ n,n=B2.length:=⟨_,rfl⟩
  rw[←hn2] at ho hlen2
  obtain⟨A2,c2,hv2,hc2,-⟩:=aA ho
  subst hv2
  have hS2:=hS.call hb
  have H2:=zh (zN hB2 (zN hn2.symm (zN (dN ho) hS2)))
  clear ho hb hB2 hn2 hS2
  go_wp2_with fail
  refine HK.out.zt (Own w [(x,79,#[.bool true,.int .i64 l,.int .i64 g])]) (fun _ h=>h) (H2.out.2.2.2) ?_
  clear HK hS
  intro hS
  try simp only[zP]
  refine zC 4 fun K HK=>?_
  go_simp
  refine(jO _ A2 n2 c2 B2 l H2.out.2.1 H2.out.2.2.1 hc2 (by omega) HZ.out.1 HZ.out.2).mono ?_
  rintro e w3 ⟨v,rfl,ho,hb⟩
  have e1:bs ++ mE true l g=B2 ++ aC (zig l):=by unfold mE;rw[←HO.out.2.2.2.2,H2.out.1,HB.out.1,List.append_assoc,List.append_assoc];rfl
  have HF:=zh (zN ho (zN (hS.call hb) e1))
  clear ho hb e1
  go_wp2_with fail
  refine HK.out.zt (Own w [(x,79,#[.bool true,.int .i64 l,.int .i64 g])]) (fun _ h=>h) (HF.out.2.1) ?_
  clear HK hS
  intro hS
  try simp only[zP]
  refine zT 5 ?_ ?_ hS ?_
  rotate_left
  ·(intro w' hSw;go_simp<;>with_reducible rfl)
  try simp only[zP]
  refine zD ?_
  try simp only[zP]
  go_wp2_with fail
  go_ret
  refine⟨v,rfl,?_,HF.out.2.1.bel⟩
  rw[HF.out.2.2]
  exact aU HF.out.1 H2.out.2.2.2.size
end V
namespace V
theorem Ez(l g:Int): mE true l g=aC (g%18446744073709551616).toNat ++ (aC 1 ++ aC (zig l)):=rfl
theorem E5(l g:Int): mE false l g=aC (g%18446744073709551616).toNat ++ aC 0:=rfl
theorem Po{g:Int}(h0:0≤g)(h1:g≤1152921504606846976): (g%18446744073709551616).toNat < 18446744073709551616∧IntKind.i64.wrap (((g%18446744073709551616).toNat:Nat):Int)=g:=by
 refine⟨by omega,?_⟩
 rw[IntKind.wrap_i64];omega
theorem KU{s:Bool}{l g:Int}(ms:List Nat)(hr:dh s l g=true): yE (mE s l g ++ ms)=⟨s,l,g,(mE s l g).length,0⟩:=by
 obtain⟨h1,h2,h3,h4,h5⟩:=nX hr
 obtain⟨g1,g2⟩:=Po h1 h2
 have hz:=jc (n:=l) (by omega) (by omega)
 cases s with
 | false=>
  have hl:l=0:=by simpa using h5
  subst hl
  rw[E5,List.append_assoc,yV,iA _ _ g1,if_neg (by simp),g2,List.drop_left,uI,iA 0 ms (by omega),if_neg (by simp),if_neg (by simp),if_neg (by simp),if_pos hr,List.length_append]
 | true=>
  rw[Ez,List.append_assoc,yV,iA _ _ g1,if_neg (by simp),g2,List.drop_left,List.append_assoc,uI,iA 1 _ (by omega),if_neg (by simp),if_neg (by simp),if_pos rfl,List.drop_left,Ch,iA _ ms hz,if_neg (by simp)]
  simp only[AX]
  rw[if_pos hr,List.length_append,List.length_append,←Nat.add_assoc]
theorem ER(s:Bool)(l g:Int)(h0 : -9223372036854775808≤l)(h1:l≤9223372036854775807): 1≤(mE s l g).length∧(mE s l g).length≤30:=by
 have a:=aR (u:=(g%18446744073709551616).toNat) (by omega)
 have b:=aR (jc h0 h1)
 have c:=aR (u:=1) (by omega)
 have d:=aR (u:=0) (by omega)
 have e:=PL (g%18446744073709551616).toNat
 cases s with
 | false=>rw[E5,List.length_append];omega
 | true=>rw[Ez,List.length_append,List.length_append];omega
theorem Ce(s:Bool)(l g:Int): ∀ b ∈ mE s l g,b < 256:=by
 intro b hb
 cases s with
 | false=>
  rw[E5] at hb
  rcases List.mem_append.1 hb with h | h
  ·exact cK _ b h
  ·exact cK _ b h
 | true=>
  rw[Ez] at hb
  rcases List.mem_append.1 hb with h | h
  ·exact cK _ b h
  ·rcases List.mem_append.1 h with h | h
   ·exact cK _ b h
   ·exact cK _ b h
end V
section
open Go.RowKit
def gD(t:Int): Prop:=-1152921504606846976≤t∧t≤1152921504606846976
def vG(p:Pt): Prop:=(0≤p.t∧p.t≤1000000)∧(0≤p.v∧p.v≤1000000)∧0≤p.s∧p.s≤1000000
def j4(l:List Pt): Int:=(l.getD 0 ⟨0,0,0⟩).t
def j6(l:List Pt): Int:=(l.getD (l.length-1) ⟨0,0,0⟩).t
structure nu(pl:Nat→List Pt)(K:Nat): Prop where
 len:∀ j,j < K→0 < (pl j).length∧(pl j).length≤40
 inc:Inc (aQ pl K)
 sm:∀ j,j < K→∀ p ∈ pl j,vG p
def nK(w:World)(D:Nat→Prop)(A:Option Addr)(K:Nat)(pl:Nat→List Pt): Prop:=0 < K→∃ g,A=some ⟨g,0,none⟩∧D g∧∀ j,j < K→
 (w.cell? ⟨g,j*4,none⟩=some (.string (bU 115 j))∧w.cell? ⟨g,j*4+1,none⟩=some (.int .i64 (j4 (pl j))))∧w.cell? ⟨g,j*4+2,none⟩=some (.int .i64 (j6 (pl j)))∧w.cell? ⟨g,j*4+3,none⟩=some (.int .i64 ((pl j).length:Nat))
theorem nK.keep{w w':World}{S D:Nat→Prop}{A:Option Addr}{K:Nat}{pl:Nat→List Pt}(h:nK w D A K pl)(hk:Keeps S w w')(hS:∀ q,D q→¬ S q): nK w' D A K pl:=fun hK=>by
 obtain⟨g,hA,hD,hc⟩:=h hK
 have hlt:g < w.heap.size:=World.block_lt_of_cell? w _ (hc 0 hK).1.1
 have e:=fun i=>World.cell?_of_block (w:=w) (w':=w') (a:=⟨g,i,none⟩) (hk.block g hlt (hS g hD))
 exact⟨g,hA,hD,fun j hj=>⟨⟨(e _).trans (hc j hj).1.1,(e _).trans (hc j hj).1.2⟩,(e _).trans (hc j hj).2.1,(e _).trans (hc j hj).2.2⟩⟩
theorem nK.later{w w':World}{A:Option Addr}{K:Nat}{pl:Nat→List Pt}(h:nK w (fun q=>q < w.heap.size) A K pl)(hb:Below w.heap.size w w'): nK w' (fun q=>q < w'.heap.size) A K pl:=fun hK=>by
 obtain⟨g,hA,hD,hc⟩:=(h.keep (S:=fun _=>False) (Keeps.of_below hb) (fun _ _ h=>h)) hK
 exact⟨g,hA,Nat.lt_of_lt_of_le hD hb.size,hc⟩
theorem nu.fst{pl:Nat→List Pt}{K:Nat}(h:nu pl K){j:Nat}(hj:j < K): (0≤j4 (pl j)∧j4 (pl j)≤1000000)∧(0≤j6 (pl j)∧j6 (pl j)≤1000000)∧j4 (pl j)≤j6 (pl j):=by
 have hl:=h.len j hj
 refine⟨(h.sm j hj _ (jQ hl.1)).1,(h.sm j hj _ (jQ (by omega))).1,?_⟩
 have hi:=tX K h.inc j hj
 unfold j4 j6
 by_cases e:(pl j).length=1
 ·rw[e];exact Int.le_refl _
 ·have:=List.pairwise_iff_getElem.1 hi 0 ((pl j).length-1) (by omega) (by omega) (by omega)
  rw[List.getD_eq_getElem?_getD,List.getD_eq_getElem?_getD,List.getElem?_eq_getElem (by omega),List.getElem?_eq_getElem (by omega)]
  exact Int.le_of_lt this
theorem Jk(w:World)(s:ByteArray)(h1:1≤s.size)(h64:s.size≤64): Calls Tryz.prog 341 #[.string s] w fun e w'=>e=.returned (.bool true)∧Below w.heap.size w w':=by
 have hne:s≠ByteArray.empty:=fun h=>by rw[h] at h1;exact absurd h1 (by decide)
 have d0:s.toList.isEmpty=false:=by
  cases h:s.toList with
  | nil=>exact absurd ((toList_nil_iff_emptyBytes s).1 h) hne
  | cons a l=>rfl
 have d1:decide ((s.size:Int)≤64)=true:=by simp;omega
 have d2:decide (s.size≤64)=true:=by simp;omega
 go_enter Tryz.func341,Tryz.ntmps341
 go_wp2_with fail
 go_ret
 exact⟨rfl,Below.refl _ _⟩
theorem Ac(w:World)(t:Int)(ht:gD t): Calls Tryz.prog 342 #[.int .i64 t] w fun e w'=>e=.returned (.bool true)∧Below w.heap.size w w':=by
 have d1:decide (-1152921504606846976≤t)=true:=by simp;exact ht.1
 have d2:decide (t≤1152921504606846976)=true:=by simp;exact ht.2
 clear ht
 go_enter Tryz.func342,Tryz.ntmps342
 go_wp2_with fail
 go_ret
 exact⟨rfl,Below.refl _ _⟩
theorem zJ(w:World)(A:Option Addr)(n c:Nat)(f:Nat→Int)(hsl:Sl w (fun q=>q < w.heap.size) A n (fun j=>.int .i64 (f j)))(hn:n≤1000)(hf:∀ j,j < n→0≤f j∧f j≤1000000): Calls Tryz.prog 290 #[.slice A n c] w fun e w'=>e=.returned (.bool true)∧Below w.heap.size w w':=by
 have HS:=zh (zN hsl hf)
 clear hsl hf
 go_enter Tryz.func290,Tryz.ntmps290
 go_wp2_with fail
 go_loopw [7] (fun i wr=>∃ k:Nat,k≤n∧i=.int .i64 (k:Nat)∧Below w.heap.size w wr) (fun i _=>n-(intOf i).toNat)
 case atStart=>exact ⟨0,by omega,rfl,Below.refl _ _⟩
 case round=>
  obtain⟨k,hk,rfl,hb⟩:=hrel
  by_cases hlt:k < n
  ·have hki:(k:Int) < (n:Int):=by omega
   obtain⟨bb,off,rfl,-,hc⟩:=(V.iF HS.out.1 hb) (by omega)
   have c0:wr.cell? ⟨bb,off+k,none⟩=some (.int .i64 (f k)):=hc k hlt
   have hr:=HS.out.2 k hlt
   obtain⟨z,hz⟩:∃ z,z=f k:=⟨_,rfl⟩
   rw[←hz] at c0 hr
   have d1:decide (z < 0)=false:=by simp;exact hr.1
   have d2:decide (1152921504606846976 < z)=false:=by simp;omega
   have HB:=zh hb
   clear hb hc hz hr
   go_wp2_with fail
   go_roundw
   case rel=>exact ⟨k+1,by omega,by go_num,HB.out⟩
   case measure=>simp[intOf]<;>omega
  ·obtain rfl:k=n:=by omega
   have HB:=zh hb
   clear hb
   go_wp2_with fail
   go_ret
   exact⟨rfl,HB.out⟩
theorem Gm(w:World)(s:ByteArray)(a b:Int)(c:Nat)(hs1:1≤s.size)(hs:s.size≤64)(ha:gD a)(hb:gD b)(hab:a≤b)(hc0:0 < c)(hc:c≤1000000):
  Calls Tryz.prog 291 #[.agg #[.string s,.int .i64 a,.int .i64 b,.int .i64 (c:Nat)]] w fun e w'=>e=.returned (.bool true)∧Below w.heap.size w w':=by
 obtain⟨x,hx⟩:∃ x,x=w.heap.size:=⟨_,rfl⟩
 have o0:=Own.eX w hx 164 #[.string s,.int .i64 a,.int .i64 b,.int .i64 (c:Nat)]
 have d1:decide (a≤b)=true:=by simp;exact hab
 have d2:decide ((0:Int) < (c:Int))=true:=by simp;omega
 have d3:decide (0 < c)=true:=by simp;omega
 have HD:=zh (zN o0 (zN ha hb))
 clear ha hb hab o0
 go_enter Tryz.func291,Tryz.ntmps291
 go_wp2_with fail
 rw[←hx]
 clear hx
 refine bC (Own w [(x,164,#[.string s,.int .i64 a,.int .i64 b,.int .i64 (c:Nat)])]) HD.out.1 ?_
 intro w1 h1
 have H1:=zh h1
 clear h1
 refine(Jk w1 s hs1 hs).mono ?_
 rintro e w2 ⟨rfl,hb2⟩
 have h2:=H1.out.call hb2
 have H2:=zh h2
 have z0_0:=h2.cell 0 0 rfl rfl;have z0_1:=h2.cell 0 1 rfl rfl;have z0_2:=h2.cell 0 2 rfl rfl;have z0_3:=h2.cell 0 3 rfl rfl
 clear h2 hb2
 go_wp2_with fail
 refine(Ac w2 a HD.out.2.1).mono ?_
 rintro e w3 ⟨rfl,hb3⟩
 clear z0_0 z0_1 z0_2 z0_3
 have h3:=H2.out.call hb3
 have H3:=zh h3
 have z0_0:=h3.cell 0 0 rfl rfl;have z0_1:=h3.cell 0 1 rfl rfl;have z0_2:=h3.cell 0 2 rfl rfl;have z0_3:=h3.cell 0 3 rfl rfl
 clear h3 hb3
 go_wp2_with fail
 refine(Ac w3 b HD.out.2.2).mono ?_
 rintro e w4 ⟨rfl,hb4⟩
 clear z0_0 z0_1 z0_2 z0_3
 have h4:=H3.out.call hb4
 have H4:=zh h4
 have z0_0:=h4.cell 0 0 rfl rfl;have z0_1:=h4.cell 0 1 rfl rfl;have z0_2:=h4.cell 0 2 rfl rfl;have z0_3:=h4.cell 0 3 rfl rfl
 clear h4 hb4
 go_wp2_with fail
 clear z0_0 z0_1 z0_2 z0_3
 have a5:Below w4.heap.size w4 (w4.alloc (.cells #[.int .i64 (c:Nat)] 3)):=(Below.refl _ _).alloc (Nat.le_refl _) _
 refine(zJ _ (some ⟨w4.heap.size,0,none⟩) 1 1 (fun _=>(c:Nat)) ((kS w4 3 (.int .i64 (c:Nat))).mono (fun q e=>by rw[e];simp)) (by omega) (fun j _=>by omega)).mono ?_
 rintro e w5 ⟨rfl,hb5⟩
 have H5:=zh ((H4.out.call a5).call hb5)
 clear hb5 a5
 go_wp2_with fail
 go_ret
 exact⟨rfl,H5.out.bel⟩
end
section
open Go.RowKit
def aP(N R q:Nat)(s:Bool)(la lg:Int)(A:Option Addr)(K cp:Nat): Array Value:=#[.int .i64 (N:Nat),.int .i64 (R:Nat),.int .i64 (q:Nat),.bool s,.int .i64 la,.int .i64 lg,.slice A K cp,.slice none 0 0]
structure Dt(N R q:Nat)(s:Bool)(la lg:Int)(K cp:Nat): Prop where
 n:N≤1000000
 r:R≤1000000
 q:q≤1000000
 m:V.dh s la lg=true
 k:K≤500
 kc:K≤cp
 cp:cp≤9223372036854775807
theorem FJ(w:World)(N R q:Nat)(s:Bool)(la lg:Int)(A:Option Addr)(K cp:Nat)(pl:Nat→List Pt)(hn:Dt N R q s la lg K cp)(hfl:nK w (fun q=>q < w.heap.size) A K pl)(hpl:nu pl K)(hv:V.cu w):
  Calls Tryz.prog 200 #[.agg (aP N R q s la lg A K cp)] w fun e w'=>e=.returned (.bool true)∧Below w.heap.size w w':=by
 unfold aP
 obtain⟨x,hx⟩:∃ x,x=w.heap.size:=⟨_,rfl⟩
 have o0:=Own.eX w hx 92 #[.int .i64 (N:Nat),.int .i64 (R:Nat),.int .i64 (q:Nat),.bool s,.int .i64 la,.int .i64 lg,.slice A K cp,.slice none 0 0]
 have hk:=hn.k
 have hkc:=hn.kc
 have HD:=zh (zN o0 (zN hn (zN hfl (zN hpl hv))))
 clear o0 hn hfl hpl hv
 go_enter Tryz.func200,Tryz.ntmps200
 go_wp2_with fail
 rw[←hx]
 clear hx
 refine bC (Own w [(x,92,#[.int .i64 (N:Nat),.int .i64 (R:Nat),.int .i64 (q:Nat),.bool s,.int .i64 la,.int .i64 lg,.slice A K cp,.slice none 0 0])]) HD.out.1 ?_
 intro w1 h1
 obtain⟨hr1,hr2,hr3,hr4,hr5⟩:=V.nX HD.out.2.1.m
 refine(V.FH w1 none 0 0 [] s la lg rfl (Sl.nil _ _ _ _) (Nat.le_refl _) (by omega) (by omega) (by omega)).mono ?_
 rintro e w2 ⟨v2,rfl,ho2,hb2⟩
 have hml:=V.ER s la lg (by omega) (by omega)
 have hmb:=V.Ce s la lg
 have hmg:=V.KU [] HD.out.2.1.m
 rw[List.append_nil] at hmg
 rw[List.nil_append] at ho2
 obtain⟨l2,hl2⟩:∃ l2,l2=V.mE s la lg:=⟨_,rfl⟩
 rw[←hl2] at ho2 hml hmb hmg
 obtain⟨n2,hn2⟩:∃ n2,n2=l2.length:=⟨_,rfl⟩
 rw[←hn2] at ho2 hml hmg
 obtain⟨A2,c2,hv2,hc2,-⟩:=aA ho2
 subst hv2
 have h2:=h1.call hb2
 have H2:=zh (zN ho2 (zN hb2 (zN h2 (zN hmb (zN hmg hn2)))))
 clear ho2 hb2 h2 hmb hmg hn2 hl2 h1 hr1 hr2 hr3 hr4 hr5
 go_wp2_with fail
 refine(V.Nv w2 A2 n2 c2 l2 H2.out.2.2.2.2.2.symm (V.bW H2.out.2.2.2.1) (V.dN H2.out.1) hc2 (V.iC H2.out.1).2 (HD.out.2.2.2.2.below H2.out.2.2.1.bel)).mono ?_
 rintro e w3 ⟨rfl,hb3⟩
 rw[H2.out.2.2.2.2.1]
 have h3:=H2.out.2.2.1.call hb3
 have H3:=zh h3
 clear hb3 h3
 go_upto_region 2 with (fail)
 obtain⟨y,hy⟩:∃ y,y=w3.heap.size:=⟨_,rfl⟩
 rw[←hy]
 refine aH (Own w [(x,92,#[.int .i64 (N:Nat),.int .i64 (R:Nat),.int .i64 (q:Nat),.bool s,.int .i64 la,.int .i64 lg,.slice A K cp,.slice none 0 0]),(y,79,#[.bool s,.int .i64 la,.int .i64 lg])]) (H3.out.alloc hy _ _) ?_
 intro w4 h4
 clear hy
 have H4:=zh h4
 have z0_0:=h4.cell 0 0 rfl rfl;have z0_1:=h4.cell 0 1 rfl rfl;have z0_2:=h4.cell 0 2 rfl rfl;have z0_3:=h4.cell 0 3 rfl rfl;have z0_4:=h4.cell 0 4 rfl rfl;have z0_5:=h4.cell 0 5 rfl rfl;have z0_6:=h4.cell 0 6 rfl rfl;have z0_7:=h4.cell 0 7 rfl rfl;have z1_0:=h4.cell 1 0 rfl rfl;have z1_1:=h4.cell 1 1 rfl rfl;have z1_2:=h4.cell 1 2 rfl rfl
 clear h4
 have d1:decide ((K:Int)≤512)=true:=by simp;omega
 have d2:decide (K≤512)=true:=by simp;omega
 go_wp2_with fail
 clear z0_0 z0_1 z0_2 z0_3 z0_4 z0_5 z0_6 z0_7 z1_0 z1_1 z1_2 d1 d2
 have a5:Below w4.heap.size w4 (w4.alloc (.cells #[.int .i64 (N:Nat),.int .i64 (R:Nat),.int .i64 (q:Nat)] 3)):=(Below.refl _ _).alloc (Nat.le_refl _) _
 refine(zJ _ (some ⟨w4.heap.size,0,none⟩) 3 3 (fun j=>if j=0 then (N:Int) else if j=1 then (R:Int) else (q:Int)) (fun _=>⟨w4.heap.size,0,rfl,by simp,fun j hj=>by
   have hb:=au.fresh w4 3 #[.int .i64 (N:Nat),.int .i64 (R:Nat),.int .i64 (q:Nat)]
   rw[Nat.zero_add,hb.cell j]
   rcases(show j=0∨j=1∨j=2 by omega) with rfl | rfl | rfl<;>rfl⟩) (by omega) (fun j hj=>by
   have h1:=HD.out.2.1.n
   have h2:=HD.out.2.1.r
   have h3:=HD.out.2.1.q
   rcases(show j=0∨j=1∨j=2 by omega) with rfl | rfl | rfl<;>simp<;>omega)).mono ?_
 rintro e w5 ⟨rfl,hb5⟩
 have h5:=(H4.out.call a5).call hb5
 have H5:=zh h5
 have z0_0:=h5.cell 0 0 rfl rfl;have z0_1:=h5.cell 0 1 rfl rfl;have z0_2:=h5.cell 0 2 rfl rfl;have z0_3:=h5.cell 0 3 rfl rfl;have z0_4:=h5.cell 0 4 rfl rfl;have z0_5:=h5.cell 0 5 rfl rfl;have z0_6:=h5.cell 0 6 rfl rfl;have z0_7:=h5.cell 0 7 rfl rfl;have z1_0:=h5.cell 1 0 rfl rfl;have z1_1:=h5.cell 1 1 rfl rfl;have z1_2:=h5.cell 1 2 rfl rfl
 have d1:decide ((K:Int)≤512)=true:=by simp;omega
 have d2:decide (K≤512)=true:=by simp;omega
 clear h5 hb5 a5
 go_wp2_with fail
 clear z0_0 z0_1 z0_2 z0_3 z0_4 z0_5 z0_6 z0_7 z1_0 z1_1 z1_2 d1 d2
 go_loopw [6,7] (fun b i wr=>∃ k:Nat,k≤K∧b=.bool true∧i=.int .i64 (k:Nat)∧Own w [(x,92,#[.int .i64 (N:Nat),.int .i64 (R:Nat),.int .i64 (q:Nat),.bool s,.int .i64 la,.int .i64 lg,.slice A K cp,.slice none 0 0]),(y,79,#[.bool s,.int .i64 la,.int .i64 lg])] wr) (fun _ i _=>K-(intOf i).toNat)
 case atStart=>exact ⟨0,Nat.zero_le _,rfl,rfl,H5.out⟩
 case round=>
  obtain⟨k,hk2,rfl,rfl,hw⟩:=hrel
  by_cases hlt:k < K
  ·have d1:decide ((k:Int) < (K:Int))=true:=by simp;omega
   have d2:decide (k < K)=true:=by simp;omega
   have hki:(k:Int) < (K:Int):=by omega
   obtain⟨g,hA,-,hc⟩:=(HD.out.2.2.1.later hw.bel) (by omega)
   subst hA
   obtain⟨⟨f0,f1⟩,f2,f3⟩:=hc k hlt
   obtain⟨nb,hnb⟩:∃ a,a=bU 115 k:=⟨_,rfl⟩
   obtain⟨ft,hft⟩:∃ a,a=j4 (pl k):=⟨_,rfl⟩
   obtain⟨lt,hltt⟩:∃ a,a=j6 (pl k):=⟨_,rfl⟩
   obtain⟨ln,hln⟩:∃ a,a=(pl k).length:=⟨_,rfl⟩
   rw[←hnb] at f0
   rw[←hft] at f1
   rw[←hltt] at f2
   rw[←hln] at f3
   have hW:=zh (zN hw (zN hnb (zN hft (zN hltt hln))))
   have z0_0:=hw.cell 0 0 rfl rfl;have z0_1:=hw.cell 0 1 rfl rfl;have z0_2:=hw.cell 0 2 rfl rfl;have z0_3:=hw.cell 0 3 rfl rfl;have z0_4:=hw.cell 0 4 rfl rfl;have z0_5:=hw.cell 0 5 rfl rfl;have z0_6:=hw.cell 0 6 rfl rfl;have z0_7:=hw.cell 0 7 rfl rfl;have z1_0:=hw.cell 1 0 rfl rfl;have z1_1:=hw.cell 1 1 rfl rfl;have z1_2:=hw.cell 1 2 rfl rfl
   clear hw hc hnb hft hltt hln
   go_wp2_with fail
   have hp:=HD.out.2.2.2.1.fst hlt
   have hpl:=HD.out.2.2.2.1.len k hlt
   rw[←hW.out.2.2.1,←hW.out.2.2.2.1] at hp
   rw[←hW.out.2.2.2.2] at hpl
   have hn13:nb.size=13:=by rw[hW.out.2.1];exact dZ 115 k
   refine(Gm wr nb ft lt ln (by omega) (by omega) ⟨by omega,by omega⟩ ⟨by omega,by omega⟩ hp.2.2 hpl.1 (by omega)).mono ?_
   rintro e w6 ⟨rfl,hb6⟩
   have H6:=zh (hW.out.1.call hb6)
   clear hb6 z0_0 z0_1 z0_2 z0_3 z0_4 z0_5 z0_6 z0_7 z1_0 z1_1 z1_2 d1 d2 f0 f1 f2 f3 hp hpl
   go_wp2_with fail
   go_roundw
   case rel=>exact ⟨k+1,by omega,rfl,by go_num,H6.out⟩
   case measure=>simp[intOf]<;>omega
  ·obtain rfl:k=K:=by omega
   have d1:decide ((k:Int) < (k:Int))=false:=by simp
   have hW:=zh hw
   have z0_0:=hw.cell 0 0 rfl rfl;have z0_1:=hw.cell 0 1 rfl rfl;have z0_2:=hw.cell 0 2 rfl rfl;have z0_3:=hw.cell 0 3 rfl rfl;have z0_4:=hw.cell 0 4 rfl rfl;have z0_5:=hw.cell 0 5 rfl rfl;have z0_6:=hw.cell 0 6 rfl rfl;have z0_7:=hw.cell 0 7 rfl rfl;have z1_0:=hw.cell 1 0 rfl rfl;have z1_1:=hw.cell 1 1 rfl rfl;have z1_2:=hw.cell 1 2 rfl rfl
   clear hw
   go_wp2_with fail
   clear z0_0 z0_1 z0_2 z0_3 z0_4 z0_5 z0_6 z0_7 z1_0 z1_1 z1_2 d1
   go_loopw [6,8] (fun b i wr=>b=.bool true∧i=.int .i64 0∧Own w [(x,92,#[.int .i64 (N:Nat),.int .i64 (R:Nat),.int .i64 (q:Nat),.bool s,.int .i64 la,.int .i64 lg,.slice A k cp,.slice none 0 0]),(y,79,#[.bool s,.int .i64 la,.int .i64 lg])] wr) (fun _ i _=>(intOf i).toNat)
   case atStart=>exact ⟨rfl,rfl,hW.out⟩
   case round=>
    obtain⟨rfl,rfl,hw⟩:=hrel
    have hW2:=zh hw
    have z0_0:=hw.cell 0 0 rfl rfl;have z0_1:=hw.cell 0 1 rfl rfl;have z0_2:=hw.cell 0 2 rfl rfl;have z0_3:=hw.cell 0 3 rfl rfl;have z0_4:=hw.cell 0 4 rfl rfl;have z0_5:=hw.cell 0 5 rfl rfl;have z0_6:=hw.cell 0 6 rfl rfl;have z0_7:=hw.cell 0 7 rfl rfl;have z1_0:=hw.cell 1 0 rfl rfl;have z1_1:=hw.cell 1 1 rfl rfl;have z1_2:=hw.cell 1 2 rfl rfl
    clear hw
    go_wp2_with fail
    go_ret
    exact⟨rfl,hW2.out.bel⟩
end
section
open Go.RowKit
structure fK(w0:World)(L:List (Nat × TypeId × Array Value))(xb:Nat)(v:Value)(bs:List Nat)(w:World): Prop where
 own:Own w0 ((xb,72,#[v]) :: L) w
 row:w.ownsRow w0.heap.size 5 1 v bs.length (bs.map V.aI)
 byte:∀ b ∈ bs,b < 256
theorem fK.call{w0 w w':World}{L:List (Nat × TypeId × Array Value)}{xb:Nat}{v:Value}{bs:List Nat}(h:fK w0 L xb v bs w)(hb:Below w.heap.size w w'): fK w0 L xb v bs w':=⟨h.own.call hb,V.bH h.row hb,h.byte⟩
theorem fK.drew{w0 w:World}{L:List (Nat × TypeId × Array Value)}{xb:Nat}{v:Value}{bs:List Nat}(h:fK w0 L xb v bs w): fK w0 L xb v bs w.drew:=h.call (Below.refl _ _).drew
theorem fK.put{w0 w w':World}{L:List (Nat × TypeId × Array Value)}{xb:Nat}{v v':Value}{bs bs':List Nat}(h:fK w0 L xb v bs w)(hb:Below w.heap.size w w')(ho:w'.ownsRow w.heap.size 5 1 v' bs'.length (bs'.map V.aI))(hy:∀ b ∈ bs',b < 256): fK w0 L xb v' bs' (w'.setCell ⟨xb,0,none⟩ v'):=by
 have h':=h.call hb
 have hx:=h'.own.get 0 rfl
 exact⟨h'.own.set 0 0 rfl v',rU (aU ho h.own.bel.size) hx,hy⟩
theorem fK.alloc{w0 w:World}{L:List (Nat × TypeId × Array Value)}{xb y:Nat}{v:Value}{bs:List Nat}(h:fK w0 L xb v bs w)(hy:y=w.heap.size)(t:TypeId)(cs:Array Value): fK w0 (L ++ [(y,t,cs)]) xb v bs (w.alloc (.cells cs t)):=
 ⟨h.own.alloc hy t cs,V.bH h.row ((Below.refl _ _).alloc (Nat.le_refl _) _),h.byte⟩
theorem fK.drop{w0 w:World}{L M:List (Nat × TypeId × Array Value)}{xb:Nat}{v:Value}{bs:List Nat}(h:fK w0 (L ++ M) xb v bs w): fK w0 L xb v bs w:=
 ⟨h.own.sub (List.Sublist.cons_cons _ (List.sublist_append_left L M)),h.row,h.byte⟩
theorem fK.form{w0 w:World}{L:List (Nat × TypeId × Array Value)}{xb:Nat}{v:Value}{bs:List Nat}(h:fK w0 L xb v bs w): ∃ A c,v=.slice A bs.length c∧bs.length≤c:=by
 obtain⟨A,c,hv,hc,-⟩:=aA h.row
 exact⟨A,c,hv,hc⟩
theorem iI{a b:List Nat}(ha:∀ x ∈ a,x < 256)(hb:∀ x ∈ b,x < 256): ∀ x ∈ a ++ b,x < 256:=fun x hx=>by
 rcases List.mem_append.1 hx with h | h
 ·exact ha x h
 ·exact hb x h
def R9(w0:World)(L:List (Nat × TypeId × Array Value))(xb:Nat)(bs:List Nat)(e:Ending)(w':World): Prop:=e=.returned (.tuple #[])∧∃ (v':Value) (bs':List Nat),fK w0 L xb v' bs' w'∧bs'.length≤bs.length+10
theorem nQ(w0 w:World)(L:List (Nat × TypeId × Array Value))(xb:Nat)(v:Value)(bs:List Nat)(n:Nat)(h:fK w0 L xb v bs w)(hl:bs.length≤1000000)(hn:n≤1000000):
  Calls Tryz.prog 301 #[.int .i64 (n:Nat),.pointer (some ⟨xb,0,none⟩)] w (R9 w0 L xb bs):=by
 obtain⟨A,c,rfl,hc⟩:=h.form
 have u0:=h.own.cell 0 0 rfl rfl
 have ku:IntKind.u64.wrap (n:Int)=((n:Nat):Int):=by rw[IntKind.wrap_u64];omega
 have HD:=zh h
 clear h
 go_enter Tryz.func301,Tryz.ntmps301
 go_wp2_with fail
 refine(V.gW w A bs.length c bs (n:Nat) rfl (V.dN (V.bH HD.out.row (Below.refl _ _))) hc (by omega) (by omega) (by omega)).mono ?_
 rintro e w1 ⟨v1,rfl,ho,hb⟩
 rw[Int.toNat_natCast] at ho
 have hl10:=V.aR (u:=n) (by omega)
 have hby:=iI HD.out.byte (V.cK n)
 have hll:(bs ++ V.aC n).length≤bs.length+10:=by rw[List.length_append];omega
 obtain⟨l1,hl1⟩:∃ l1,l1=bs ++ V.aC n:=⟨_,rfl⟩
 rw[←hl1] at ho hby hll
 obtain⟨A1,c1,hv1,hc1,-⟩:=aA ho
 subst hv1
 have hP:=HD.out.put hb ho hby
 have h1:=HD.out.call hb
 have u1:=h1.own.cell 0 0 rfl rfl
 have uf:=h1.own.free 0 rfl
 have HP:=zh hP
 clear hP h1 ho hb u0 hl1 hby
 go_wp2_with fail
 refine bodyPost_end (v:=.tuple #[]) (by simp[results,Tryz.results301,go_sem]) rfl ?_
 exact⟨rfl,_,l1,HP.out,hll⟩
theorem Rx(w:World)(B:Nat): w.ownsRow B 5 1 (.slice none 0 0) ([]:List Nat).length (([]:List Nat).map V.aI):=⟨rfl,.inl ⟨rfl,rfl⟩⟩
def SA(w:World)(K:Nat)(e:Ending)(w':World): Prop:=∃ (A:Option Addr) (c:Nat) (bs:List Nat),e=.returned (.tuple #[.slice A bs.length c,.int .i64 0])∧bs.length≤100+53*K∧w'.ownsRow w.heap.size 5 1 (.slice A bs.length c) bs.length (bs.map V.aI)∧Below w.heap.size w w'
theorem xL(w:World)(N R q:Nat)(s:Bool)(la lg:Int)(A:Option Addr)(Kf cp:Nat)(pl:Nat→List Pt)(hn:Dt N R q s la lg Kf cp)(hfl:nK w (fun q=>q < w.heap.size) A Kf pl)(hpl:nu pl Kf)(hv:V.cu w):
  Calls Tryz.prog 217 #[.agg (aP N R q s la lg A Kf cp)] w (SA w Kf):=by
 obtain⟨x,hx⟩:∃ x,x=w.heap.size:=⟨_,rfl⟩
 have o0:=Own.eX w hx 92 (aP N R q s la lg A Kf cp)
 have nt:∀ w:World,(Op.unary .not (.bool true)).run Tryz.prog w=.ok (.bool false) w:=fF
 have hk:=hn.k
 have hkc:=hn.kc
 have HD:=zh (zN o0 (zN hn (zN hfl (zN hpl hv))))
 have z0_0:=o0.cell 0 0 rfl rfl;have z0_1:=o0.cell 0 1 rfl rfl;have z0_2:=o0.cell 0 2 rfl rfl;have z0_3:=o0.cell 0 3 rfl rfl;have z0_4:=o0.cell 0 4 rfl rfl;have z0_5:=o0.cell 0 5 rfl rfl;have z0_6:=o0.cell 0 6 rfl rfl;have z0_7:=o0.cell 0 7 rfl rfl
 clear o0 hn hfl hpl hv
 unfold aP
 go_enter Tryz.func217,Tryz.ntmps217
 go_wp2_with fail
 rw[←hx]
 clear hx
 refine bC (Own w [(x,92,aP N R q s la lg A Kf cp)]) HD.out.1 ?_
 intro w1 h1
 have H1:=zh h1
 clear h1 z0_0 z0_1 z0_2 z0_3 z0_4 z0_5 z0_6 z0_7
 refine(FJ w1 N R q s la lg A Kf cp pl HD.out.2.1 (HD.out.2.2.1.later H1.out.bel) HD.out.2.2.2.1 (HD.out.2.2.2.2.below H1.out.bel)).mono ?_
 rintro e w2 ⟨rfl,hb2⟩
 have H2:=zh (H1.out.call hb2)
 clear hb2
 go_upto_region 4 with (fail)
 obtain⟨xb,hxb⟩:∃ xb,xb=w2.heap.size:=⟨_,rfl⟩
 rw[←hxb]
 refine aH (fK w [(x,92,aP N R q s la lg A Kf cp)] xb (.slice none 0 0) []) ⟨(H2.out.alloc hxb 72 #[.slice none 0 0]).front 1 rfl,Rx _ _,fun b hb=>by cases hb⟩ ?_
 intro w3 h3
 have H3:=zh h3
 have z1_0:=h3.own.cell 1 0 rfl rfl;have z1_1:=h3.own.cell 1 1 rfl rfl;have z1_2:=h3.own.cell 1 2 rfl rfl;have z1_3:=h3.own.cell 1 3 rfl rfl;have z1_4:=h3.own.cell 1 4 rfl rfl;have z1_5:=h3.own.cell 1 5 rfl rfl;have z1_6:=h3.own.cell 1 6 rfl rfl;have z1_7:=h3.own.cell 1 7 rfl rfl
 clear h3 hxb
 go_wp2_with fail
 clear z1_0 z1_1 z1_2 z1_3 z1_4 z1_5 z1_6 z1_7
 refine(nQ w w3 [(x,92,aP N R q s la lg A Kf cp)] xb _ [] N H3.out (by first | omega | (simp;done)) (by have:=HD.out.2.1.n;have:=HD.out.2.1.r;have:=HD.out.2.1.q;omega)).mono ?_
 rintro e w4 ⟨rfl,v4,b4,h4,l4⟩
 have l4:b4.length≤10:=by first | omega | (simp at l4;omega)
 obtain⟨A4,c4,rfl,hc4⟩:=h4.form
 have H4:=zh h4
 have z0_0:=h4.own.cell 0 0 rfl rfl
 have z1_0:=h4.own.cell 1 0 rfl rfl;have z1_1:=h4.own.cell 1 1 rfl rfl;have z1_2:=h4.own.cell 1 2 rfl rfl;have z1_3:=h4.own.cell 1 3 rfl rfl;have z1_4:=h4.own.cell 1 4 rfl rfl;have z1_5:=h4.own.cell 1 5 rfl rfl;have z1_6:=h4.own.cell 1 6 rfl rfl;have z1_7:=h4.own.cell 1 7 rfl rfl
 clear h4
 go_wp2_with fail
 clear z0_0
 clear z1_0 z1_1 z1_2 z1_3 z1_4 z1_5 z1_6 z1_7
 refine(nQ w w4 [(x,92,aP N R q s la lg A Kf cp)] xb _ b4 R H4.out (by first | omega | (simp;done)) (by have:=HD.out.2.1.n;have:=HD.out.2.1.r;have:=HD.out.2.1.q;omega)).mono ?_
 rintro e w5 ⟨rfl,v5,b5,h5,l5⟩
 have l5:b5.length≤20:=by first | omega | (simp at l5;omega)
 obtain⟨A5,c5,rfl,hc5⟩:=h5.form
 have H5:=zh h5
 have z0_0:=h5.own.cell 0 0 rfl rfl
 have z1_0:=h5.own.cell 1 0 rfl rfl;have z1_1:=h5.own.cell 1 1 rfl rfl;have z1_2:=h5.own.cell 1 2 rfl rfl;have z1_3:=h5.own.cell 1 3 rfl rfl;have z1_4:=h5.own.cell 1 4 rfl rfl;have z1_5:=h5.own.cell 1 5 rfl rfl;have z1_6:=h5.own.cell 1 6 rfl rfl;have z1_7:=h5.own.cell 1 7 rfl rfl
 clear h5
 go_wp2_with fail
 clear z0_0
 clear z1_0 z1_1 z1_2 z1_3 z1_4 z1_5 z1_6 z1_7
 refine(nQ w w5 [(x,92,aP N R q s la lg A Kf cp)] xb _ b5 q H5.out (by first | omega | (simp;done)) (by have:=HD.out.2.1.n;have:=HD.out.2.1.r;have:=HD.out.2.1.q;omega)).mono ?_
 rintro e w6 ⟨rfl,v6,b6,h6,l6⟩
 have l6:b6.length≤30:=by first | omega | (simp at l6;omega)
 obtain⟨A6,c6,rfl,hc6⟩:=h6.form
 have H6:=zh h6
 have z0_0:=h6.own.cell 0 0 rfl rfl
 have z1_0:=h6.own.cell 1 0 rfl rfl;have z1_1:=h6.own.cell 1 1 rfl rfl;have z1_2:=h6.own.cell 1 2 rfl rfl;have z1_3:=h6.own.cell 1 3 rfl rfl;have z1_4:=h6.own.cell 1 4 rfl rfl;have z1_5:=h6.own.cell 1 5 rfl rfl;have z1_6:=h6.own.cell 1 6 rfl rfl;have z1_7:=h6.own.cell 1 7 rfl rfl
 clear h6
 go_wp2_with fail
 clear z0_0 z1_0 z1_1 z1_2 z1_3 z1_4 z1_5 z1_6 z1_7
 obtain⟨hr1,hr2,hr3,hr4,hr5⟩:=V.nX HD.out.2.1.m
 have hml:=V.ER s la lg (by omega) (by omega)
 refine(V.FH w6 A6 b6.length c6 b6 s la lg rfl (V.dN (V.bH H6.out.row (Below.refl _ _))) hc6 (by omega) (by omega) (by omega)).mono ?_
 rintro e w7 ⟨v7,rfl,ho7,hb7⟩
 have hby:=iI H6.out.byte (V.Ce s la lg)
 have hll:(b6 ++ V.mE s la lg).length≤60:=by rw[List.length_append];omega
 clear hr1 hr2 hr3 hr4 hr5 hml
 obtain⟨b8,hb8⟩:∃ l1,l1=b6 ++ V.mE s la lg:=⟨_,rfl⟩
 rw[←hb8] at ho7 hby hll
 obtain⟨A8,c8,hv8,hc8,-⟩:=aA ho7
 subst hv8
 have hP:=H6.out.put hb7 ho7 hby
 have u1:=(H6.out.call hb7).own.cell 0 0 rfl rfl
 have uf:=(H6.out.call hb7).own.free 0 rfl
 obtain⟨w8,hw8⟩:∃ w8,w8=(w7).setCell ⟨xb,0,none⟩ (.slice A8 b8.length c8):=⟨_,rfl⟩
 rw[←hw8] at hP
 have H8:=zh hP
 have HW8:=zh hw8
 have z0_0:=hP.own.cell 0 0 rfl rfl
 have z1_0:=hP.own.cell 1 0 rfl rfl;have z1_1:=hP.own.cell 1 1 rfl rfl;have z1_2:=hP.own.cell 1 2 rfl rfl;have z1_3:=hP.own.cell 1 3 rfl rfl;have z1_4:=hP.own.cell 1 4 rfl rfl;have z1_5:=hP.own.cell 1 5 rfl rfl;have z1_6:=hP.own.cell 1 6 rfl rfl;have z1_7:=hP.own.cell 1 7 rfl rfl
 clear hP hb8 hw8 ho7 hb7 hby
 have l8:=hll
 clear hll
 go_wp2_with (rw[←HW8.out])
 clear u1 uf z0_0
 clear z1_0 z1_1 z1_2 z1_3 z1_4 z1_5 z1_6 z1_7
 refine(nQ w w8 [(x,92,aP N R q s la lg A Kf cp)] xb _ b8 Kf H8.out (by first | omega | (simp;done)) (by have:=HD.out.2.1.n;have:=HD.out.2.1.r;have:=HD.out.2.1.q;omega)).mono ?_
 rintro e w9 ⟨rfl,v9,b9,h9,l9⟩
 have l9:b9.length≤70:=by first | omega | (simp at l9;omega)
 obtain⟨A9,c9,rfl,hc9⟩:=h9.form
 have H9:=zh h9
 have z0_0:=h9.own.cell 0 0 rfl rfl
 have z1_0:=h9.own.cell 1 0 rfl rfl;have z1_1:=h9.own.cell 1 1 rfl rfl;have z1_2:=h9.own.cell 1 2 rfl rfl;have z1_3:=h9.own.cell 1 3 rfl rfl;have z1_4:=h9.own.cell 1 4 rfl rfl;have z1_5:=h9.own.cell 1 5 rfl rfl;have z1_6:=h9.own.cell 1 6 rfl rfl;have z1_7:=h9.own.cell 1 7 rfl rfl
 clear h9
 go_wp2_with fail
 clear z0_0 z1_0 z1_1 z1_2 z1_3 z1_4 z1_5 z1_6 z1_7
 go_loopw [38] (fun i wr=>∃ (k:Nat) (v:Value) (b:List Nat),k≤Kf∧i=.int .i64 (k:Nat)∧fK w [(x,92,aP N R q s la lg A Kf cp)] xb v b wr∧b.length≤70+53*k) (fun i _=>Kf-(intOf i).toNat)
 case atStart=>exact ⟨0,_,_,Nat.zero_le _,rfl,H9.out,by omega⟩
 case round=>
  obtain⟨k,v,b,hk2,rfl,hB,lb⟩:=hrel
  by_cases hlt:k < Kf
  ·have d1:decide ((k:Int) < (Kf:Int))=true:=by simp;omega
   have hki:(k:Int) < (Kf:Int):=by omega
   obtain⟨g,hA,-,hc⟩:=(HD.out.2.2.1.later hB.own.bel) (by omega)
   subst hA
   obtain⟨⟨f0,f1⟩,f2,f3⟩:=hc k hlt
   obtain⟨nb,hnb⟩:∃ a,a=bU 115 k:=⟨_,rfl⟩
   obtain⟨ft,hft⟩:∃ a,a=j4 (pl k):=⟨_,rfl⟩
   obtain⟨lt,hltt⟩:∃ a,a=j6 (pl k):=⟨_,rfl⟩
   obtain⟨ln,hln⟩:∃ a,a=(pl k).length:=⟨_,rfl⟩
   rw[←hnb] at f0
   rw[←hft] at f1
   rw[←hltt] at f2
   rw[←hln] at f3
   have hp:=HD.out.2.2.2.1.fst hlt
   have hpl:=HD.out.2.2.2.1.len k hlt
   rw[←hft,←hltt] at hp
   rw[←hln] at hpl
   have hn13:nb.size=13:=by rw[hnb];exact dZ 115 k
   obtain⟨Ab,cb,rfl,hcb⟩:=hB.form
   have HW:=zh (zN hB (zN hn13 (zN hp hpl)))
   clear hB hc hnb hft hltt hln hp hpl hn13
   go_upto_region 13 with (fail)
   obtain⟨y,hy⟩:∃ y,y=wr.heap.size:=⟨_,rfl⟩
   rw[←hy]
   refine aH (fK w [(x,92,aP N R q s la lg (some ⟨g,0,none⟩) Kf cp),(y,164,#[.string nb,.int .i64 ft,.int .i64 lt,.int .i64 (ln:Nat)])] xb (.slice Ab b.length cb) b) (HW.out.1.alloc hy _ _) ?_
   intro w10 h10
   have H10:=zh h10
   have hS:=h10.drew.own.sub (List.sublist_cons_self _ _)
   have u0:=h10.drew.own.cell 0 0 rfl rfl
   clear h10 hy f0 f1 f2 f3
   have hS:(Own w [(x,92,aP N R q s la lg (some ⟨g,0,none⟩) Kf cp),(y,164,#[.string nb,.int .i64 ft,.int .i64 lt,.int .i64 (ln:Nat)])]) (w10.drew):=hS
   refine av (Own w [(x,92,aP N R q s la lg (some ⟨g,0,none⟩) Kf cp),(y,164,#[.string nb,.int .i64 ft,.int .i64 lt,.int .i64 (ln:Nat)])]) (by kernel_rfl) hS ?_
   refine zB [1,2,4,5,7,8] ?_
   iterate 6 (refine zV ?_ ?_ hS ?_;rotate_left;(intro w' hSw;have u1:=hSw.cell 1 0 rfl rfl;have u2:=hSw.cell 1 1 rfl rfl;have u3:=hSw.cell 1 2 rfl rfl;go_simp<;>with_reducible rfl);try simp only[zP])
   refine zE ?_
   refine zC 0 fun K HK=>?_
   go_simp
   go_wp2_with fail
   refine HK.out.zt (Own w [(x,92,aP N R q s la lg (some ⟨g,0,none⟩) Kf cp),(y,164,#[.string nb,.int .i64 ft,.int .i64 lt,.int .i64 (ln:Nat)])]) (fun _ h=>h) (hS) ?_
   clear HK hS
   intro hS
   try simp only[zP]
   clear u0
   refine zC 3 fun K HK=>?_
   go_simp
   refine(V.jU w10.drew Ab b.length cb b nb rfl (V.dN (V.bH H10.out.row (Below.refl _ _).drew)) hcb (by omega) (by have:=HW.out.2.1;omega)).mono ?_
   rintro e w11 ⟨v11,rfl,ho11,hb11⟩
   have hll:(b ++ V.aC nb.size ++ V.txt nb).length≤b.length+23:=by
    have h1:=V.aR (u:=nb.size) (by have:=HW.out.2.1;omega)
    have h2:=V.iZ nb
    have h3:=HW.out.2.1
    rw[List.length_append,List.length_append];omega
   have hby:=iI (iI H10.out.byte (V.cK nb.size)) (V.rW nb)
   obtain⟨b11,hb11e⟩:∃ l,l=b ++ V.aC nb.size ++ V.txt nb:=⟨_,rfl⟩
   rw[←hb11e] at ho11 hll hby
   obtain⟨A11,c11,hv11,hc11,-⟩:=aA ho11
   subst hv11
   have H11:=zh (zN ho11 (zN (H10.out.drew.call hb11) hby))
   have l11:=hll
   clear ho11 hb11 hll hby hb11e
   go_wp2_with fail
   refine HK.out.zt (Own w [(x,92,aP N R q s la lg (some ⟨g,0,none⟩) Kf cp),(y,164,#[.string nb,.int .i64 ft,.int .i64 lt,.int .i64 (ln:Nat)])]) (fun _ h=>h) (H11.out.2.1.own.sub (List.sublist_cons_self _ _)) ?_
   clear HK hS
   intro hS
   try simp only[zP]
   refine zC 6 fun K HK=>?_
   go_simp
   refine(V.jO w11 A11 b11.length c11 b11 ft rfl (V.dN H11.out.1) hc11 (by omega) (by have:=HW.out.2.2.1;omega) (by have:=HW.out.2.2.1;omega)).mono ?_
   rintro e w12 ⟨v12,rfl,ho12,hb12⟩
   have hll:(b11 ++ V.aC (zig ft)).length≤b11.length+10:=by
    have h1:=V.aR (u:=zig ft) (jc (by have:=HW.out.2.2.1;omega) (by have:=HW.out.2.2.1;omega))
    rw[List.length_append];omega
   have hby:=iI H11.out.2.2 (V.cK (zig ft))
   obtain⟨b12,hb12e⟩:∃ l,l=b11 ++ V.aC (zig ft):=⟨_,rfl⟩
   rw[←hb12e] at ho12 hll hby
   obtain⟨A12,c12,hv12,hc12,-⟩:=aA ho12
   subst hv12
   have H12:=zh (zN ho12 (zN (H11.out.2.1.call hb12) hby))
   have HB12:=zh hb12
   have l12:=hll
   clear ho12 hb12 hll hby hb12e
   go_wp2_with fail
   refine HK.out.zt (Own w [(x,92,aP N R q s la lg (some ⟨g,0,none⟩) Kf cp),(y,164,#[.string nb,.int .i64 ft,.int .i64 lt,.int .i64 (ln:Nat)])]) (fun _ h=>h) (H12.out.2.1.own.sub (List.sublist_cons_self _ _)) ?_
   clear HK hS
   intro hS
   try simp only[zP]
   refine zC 9 fun K HK=>?_
   go_simp
   refine(V.jO w12 A12 b12.length c12 b12 lt rfl (V.dN H12.out.1) hc12 (by omega) (by have:=HW.out.2.2.1;omega) (by have:=HW.out.2.2.1;omega)).mono ?_
   rintro e w13 ⟨v13,rfl,ho13,hb13⟩
   have hll:(b12 ++ V.aC (zig lt)).length≤b12.length+10:=by
    have h1:=V.aR (u:=zig lt) (jc (by have:=HW.out.2.2.1;omega) (by have:=HW.out.2.2.1;omega))
    rw[List.length_append];omega
   have hby:=iI H12.out.2.2 (V.cK (zig lt))
   obtain⟨b13,hb13e⟩:∃ l,l=b12 ++ V.aC (zig lt):=⟨_,rfl⟩
   rw[←hb13e] at ho13 hll hby
   obtain⟨A13,c13,hv13,hc13,-⟩:=aA ho13
   subst hv13
   have H13:=zh (zN ho13 (zN (H12.out.2.1.call hb13) hby))
   have HB13:=zh hb13
   have l13:=hll
   clear ho13 hb13 hll hby hb13e
   go_wp2_with fail
   refine HK.out.zt (Own w [(x,92,aP N R q s la lg (some ⟨g,0,none⟩) Kf cp),(y,164,#[.string nb,.int .i64 ft,.int .i64 lt,.int .i64 (ln:Nat)])]) (fun _ h=>h) (H13.out.2.1.own.sub (List.sublist_cons_self _ _)) ?_
   clear HK hS
   intro hS
   try simp only[zP]
   have hP:=H12.out.2.1.put HB13.out H13.out.1 H13.out.2.2
   have u1:=H13.out.2.1.own.cell 0 0 rfl rfl
   have uf:=H13.out.2.1.own.free 0 rfl
   obtain⟨w14,hw14⟩:∃ w8,w8=w13.setCell ⟨xb,0,none⟩ (.slice A13 b13.length c13):=⟨_,rfl⟩
   rw[←hw14] at hP
   have H14:=zh hP
   have HW14:=zh hw14
   clear hP hw14
   refine zC 10 fun K HK=>?_
   go_simp
   rw[←HW14.out]
   go_wp2_with fail
   refine HK.out.zt (Own w [(x,92,aP N R q s la lg (some ⟨g,0,none⟩) Kf cp),(y,164,#[.string nb,.int .i64 ft,.int .i64 lt,.int .i64 (ln:Nat)])]) (fun _ h=>h) (H14.out.own.sub (List.sublist_cons_self _ _)) ?_
   clear HK hS
   intro hS
   try simp only[zP]
   refine zD ?_
   try simp only[zP]
   clear u1 uf hS
   have u3:=H14.out.own.cell 2 3 rfl rfl
   go_wp2_with fail
   clear u3
   refine(nQ w w14 _ xb _ b13 ln H14.out (by omega) (by have:=HW.out.2.2.2;omega)).mono ?_
   rintro e w15 ⟨rfl,v15,b15,h15,l15⟩
   have H15:=zh (fK.drop (L:=[(x,92,aP N R q s la lg (some ⟨g,0,none⟩) Kf cp)]) (M:=[(y,164,#[.string nb,.int .i64 ft,.int .i64 lt,.int .i64 (ln:Nat)])]) h15)
   clear h15
   go_wp2_with fail
   go_roundw
   case rel=>exact ⟨k+1,v15,b15,by omega,by go_num,H15.out,by omega⟩
   case measure=>simp[intOf]<;>omega
  ·obtain rfl:k=Kf:=by omega
   obtain⟨Ab,cb,rfl,hcb⟩:=hB.form
   have HW:=zh hB
   have z1_0:=hB.own.cell 1 0 rfl rfl;have z1_1:=hB.own.cell 1 1 rfl rfl;have z1_2:=hB.own.cell 1 2 rfl rfl;have z1_3:=hB.own.cell 1 3 rfl rfl;have z1_4:=hB.own.cell 1 4 rfl rfl;have z1_5:=hB.own.cell 1 5 rfl rfl;have z1_6:=hB.own.cell 1 6 rfl rfl;have z1_7:=hB.own.cell 1 7 rfl rfl
   clear hB
   go_wp2_with fail
   clear z1_0 z1_1 z1_2 z1_3 z1_4 z1_5 z1_6 z1_7
   refine(nQ w wr _ xb _ b 0 HW.out (by omega) (by omega)).mono ?_
   rintro e w10 ⟨rfl,v10,b10,h10,l10⟩
   obtain⟨A10,c10,rfl,hc10⟩:=h10.form
   have H10:=zh h10
   have z1_0:=h10.own.cell 1 0 rfl rfl;have z1_1:=h10.own.cell 1 1 rfl rfl;have z1_2:=h10.own.cell 1 2 rfl rfl;have z1_3:=h10.own.cell 1 3 rfl rfl;have z1_4:=h10.own.cell 1 4 rfl rfl;have z1_5:=h10.own.cell 1 5 rfl rfl;have z1_6:=h10.own.cell 1 6 rfl rfl;have z1_7:=h10.own.cell 1 7 rfl rfl
   clear h10
   go_wp2_with fail
   clear z1_0 z1_1 z1_2 z1_3 z1_4 z1_5 z1_6 z1_7
   go_loopw [65] (fun i wr=>i=.int .i64 0∧fK w [(x,92,aP N R q s la lg A k cp)] xb (.slice A10 b10.length c10) b10 wr) (fun i _=>(intOf i).toNat)
   case atStart=>exact ⟨rfl,H10.out⟩
   case round=>
    obtain⟨rfl,hB⟩:=hrel
    have H11:=zh hB
    have u0:=hB.own.cell 0 0 rfl rfl
    clear hB
    go_wp2_with fail
    refine(F.pR _ 7 A10 b10.length c10 (fun q=>q < _) b10 rfl (V.dN H11.out.row) (V.bW H11.out.byte) (by omega) (by omega)).mono ?_
    rintro e w12 ⟨A12,c12,rfl,ho12,hk12⟩
    have H12:=zh (zN ho12 hk12)
    clear ho12 hk12 u0
    go_wp2_with fail
    go_ret2
    refine⟨A12,c12,_,rfl,?_,aU H12.out.1 H11.out.own.bel.size,H11.out.own.bel.trans (H12.out.2.bM.mono H11.out.own.bel.size)⟩
    rw[F.bB]
    omega
end
section
open Go.RowKit Go.Maps
theorem tY{w w1:World}{a:Addr}{v:Value}(hb:Below w.heap.size w w1)(h:w.cell? a=some v): w1.cell? a=some v:=rF (dn hb none) h (by simp)
theorem I7(w:World)(d M xd xn xw n cp:Nat)(A:Option Addr)(nm:Nat→ByteArray)(s:ByteArray)(a:FS)(F:FuncId)(caps:Array Value)(p:ByteArray→Option FS)(room:Nat)(used:Int)(ops c:Nat)(Post:World→Prop)(hD:aO w d M p room used ops c)(hs:nm 0=s)(hps:p s=some a)(b1:w.cell? ⟨xd,0,none⟩=some (.pointer (some ⟨d,0,none⟩)))(b2:w.cell? ⟨xn,0,none⟩=some (.slice A n cp))(b3:w.cell? ⟨xw,0,none⟩=some (.func (.func F) #[] caps))(hn:Sl w (fun q=>q < w.heap.size) A n (fun j=>.string (nm j)))(hn0:0 < n)(hs64:s.size≤64)(hcf:∀ w,(callFunc F (#[.pointer (some ⟨a.blk,0,none⟩)] ++ caps)).run Tryz.prog w=.ok (.enter F (#[.pointer (some ⟨a.blk,0,none⟩)] ++ caps)) w)(hF:∀ w1,Below w.heap.size w w1→Calls Tryz.prog F (#[.pointer (some ⟨a.blk,0,none⟩)] ++ caps) w1 fun e w2=>e=.returned (.tuple #[])∧Post w2):
  Calls Tryz.prog 216 #[.pointer (some ⟨xd,0,none⟩),.pointer (some ⟨xn,0,none⟩),.pointer (some ⟨xw,0,none⟩)] w fun e w'=>e=.returned (.int .i64 0)∧∃ w2,Post w2∧Below w2.heap.size w2 w':=by
 have k2:=tq
 have hsm:s.size≤maxLen:=by unfold maxLen;omega
 have hm:(dJ p s).getD (.pointer none)=.pointer (some ⟨a.blk,0,none⟩):=by unfold dJ;rw[hps];rfl
 obtain⟨bA,off,hA,-,hc⟩:=hn hn0
 have z0:w.cell? ⟨bA,off+0,none⟩=some (.string s):=by rw[←hs];exact hc 0 hn0
 rw[Nat.add_zero] at z0
 subst hA
 have HD:=zh (zN hD (zN b1 (zN b2 (zN b3 (zN z0 (zN hm (zN hsm hF)))))))
 clear hD hps b1 b2 b3 hn hc z0 hm hsm hF hs
 go_enter Tryz.func216,Tryz.ntmps216
 go_wp2_with fail
 have hS:Below w.heap.size w w.drew:=(Below.refl _ _).drew
 have hS:(Below w.heap.size w) (w.drew):=hS
 refine av (Below w.heap.size w) (by kernel_rfl) hS ?_
 refine zB [0,1,2,3,4,5,6,7,8] ?_
 iterate 9 (refine zV ?_ ?_ hS ?_;rotate_left;(intro w' hSw;have u1:=tY hSw HD.out.2.1;have u2:=tY hSw HD.out.2.2.1;have u3:=(HD.out.1.call hSw).blk.cell 0;have u4:=tY hSw HD.out.2.2.2.2.1;have u5:=(HD.out.1.call hSw).look s HD.out.2.2.2.2.2.2.1;rw[HD.out.2.2.2.2.2.1] at u5;go_simp<;>with_reducible rfl);try simp only[zP])
 refine zE ?_
 refine zD ?_
 try simp only[zP]
 have u6:=tY hS HD.out.2.2.2.1
 have HS:=zh hS
 clear hS
 go_wp2_with fail
 refine(HD.out.2.2.2.2.2.2.2 _ HS.out).mono ?_
 rintro e w2 ⟨rfl,hp2⟩
 have HP:=zh hp2
 clear hp2
 go_wp2_with fail
 go_ret
 exact⟨rfl,w2,HP.out,Below.refl _ _⟩
theorem Co(w:World)(d M n cp:Nat)(A:Option Addr)(nm:Nat→ByteArray)(s:ByteArray)(a:FS)(F:FuncId)(caps:Array Value)(p:ByteArray→Option FS)(room:Nat)(used:Int)(ops c:Nat)(Post:World→Prop)(hD:aO w d M p room used ops c)(hs:nm 0=s)(hps:p s=some a)(hn:Sl w (fun q=>q < w.heap.size) A n (fun j=>.string (nm j)))(hn0:0 < n)(hn2:n≤2)(hnm:∀ j,j < n→1≤(nm j).size∧(nm j).size≤64)(ho:ops < 4611686018427387904)(hcf:∀ w,(callFunc F (#[.pointer (some ⟨a.blk,0,none⟩)] ++ caps)).run Tryz.prog w=.ok (.enter F (#[.pointer (some ⟨a.blk,0,none⟩)] ++ caps)) w)(hF:∀ w1,Below w.heap.size w w1→Calls Tryz.prog F (#[.pointer (some ⟨a.blk,0,none⟩)] ++ caps) w1 fun e w2=>e=.returned (.tuple #[])∧Post w2)(hP:∀ w2,Post w2→∃ M' a b,au w2 d 71 #[.map (some M'),a,b,.int .i64 (-1),.int .i64 (ops:Nat)]):
  Calls Tryz.prog 144 #[.pointer (some ⟨d,0,none⟩),.slice A n cp,.func (.func F) #[] caps] w fun e w'=>e=.returned (.int .i64 0)∧∃ w2 w3,Post w2∧Below w2.heap.size w2 w3∧Below w3.heap.size (w3.setCell ⟨d,4,none⟩ (.int .i64 ((ops+1:Nat)))) w':=by
 obtain⟨x,hx⟩:∃ x,x=w.heap.size:=⟨_,rfl⟩
 have o0:=Own.Tg w hx 23 #[.pointer (some ⟨d,0,none⟩)] 110 #[.slice A n cp] 247 #[.func (.func F) #[] caps]
 have HD:=zh (zN hD (zN hn (zN hnm (zN hF (zN hP o0)))))
 clear hD hn hnm hF hP o0
 go_enter Tryz.func144,Tryz.ntmps144
 go_wp2_with fail
 rw[←hx]
 refine bC (Own w [(x,23,#[.pointer (some ⟨d,0,none⟩)]),(x+1,110,#[.slice A n cp]),(x+1+1,247,#[.func (.func F) #[] caps])]) HD.out.2.2.2.2.2 ?_
 intro w1 h1
 have H1:=zh h1
 clear h1
 have hb1:=H1.out.bel
 refine(GY w1 d M n cp ops (.int .i64 (room:Nat)) (.int .i64 used) A nm 216 #[.pointer (some ⟨x,0,none⟩),.pointer (some ⟨x+1,0,none⟩),.pointer (some ⟨x+1+1,0,none⟩)] (fun w2=>∃ w3,Post w3∧Below w3.heap.size w3 w2) (HD.out.1.call hb1).blk (V.iF HD.out.2.1 hb1) hn2 HD.out.2.2.1 ho (fun _=>by kernel_rfl) ?_ ?_).mono ?_
 ·intro w2 hb2
  have hb3:Below w.heap.size w w2:=V.ay hb1 hb2
  have o2:=H1.out.call hb2
  refine(I7 w2 d M x (x+1) (x+1+1) n cp A nm s a F caps p room used ops c Post (HD.out.1.call hb3) hs hps (o2.cell 0 0 rfl rfl) (o2.cell 1 0 rfl rfl) (o2.cell 2 0 rfl rfl) (V.iF HD.out.2.1 hb3) hn0 (by rw[←hs];exact (HD.out.2.2.1 0 hn0).2) hcf ?_).mono ?_
  ·intro w3 hb4
   exact HD.out.2.2.2.1 w3 (V.ay hb3 hb4)
  ·rintro e w3 ⟨rfl,w4,hp4,hb4⟩
   exact⟨rfl,w4,hp4,hb4⟩
 ·rintro w2 ⟨w3,hp3,hb3⟩
  obtain⟨M',a',b',hk⟩:=HD.out.2.2.2.2.1 w3 hp3
  exact⟨M',a',b',hk.below hb3 hk.lt⟩
 ·rintro e w2 ⟨rfl,w3,⟨w4,hp4,hb4⟩,hb3⟩
  have HR:=zh (zN hp4 (zN hb4 hb3))
  clear hp4 hb4 hb3
  go_wp2_with fail
  go_ret
  exact⟨rfl,w4,w3,HR.out.1,HR.out.2.1,HR.out.2.2⟩
theorem Ka(w:World)(d M:Nat)(s:ByteArray)(a:FS)(p:ByteArray→Option FS)(room:Nat)(used:Int)(ops c:Nat)(hD:aO w d M p room used ops c)(hps:p s=some a)(hl:a.bs.length≤1048576):
  Calls Tryz.prog 145 #[.pointer (some ⟨a.blk,0,none⟩)] w fun e w'=>e=.returned (.tuple #[])∧aO w' d M (aS p s { a with lasts:=a.bs.length,syn:=true }) room used ops c∧DStep w w' d M p (aS p s { a with lasts:=a.bs.length,syn:=true }):=by
 have hfa:=(hD.fil s a hps).1
 obtain⟨A0,c0,hav,-⟩:=aA (hD.fil s a hps).2
 have u0:=hfa.cell 0
 have u1:=hfa.cell 1
 have u2:=hfa.cell 2
 have uf:=hfa.frozen
 rw[hav] at u0
 obtain⟨n,hn⟩:∃ n,n=a.bs.length:=⟨_,rfl⟩
 rw[←hn] at u0 hl ⊢
 have HD:=zh (zN hD (zN hps (zN hfa (zN hav hn))))
 clear hD hps hfa hav hn
 go_enter Tryz.func145,Tryz.ntmps145
 go_wp2_with fail
 refine bodyPost_end (v:=.tuple #[]) (by simp[results,Tryz.results145,go_sem]) rfl ?_
 refine⟨rfl,HD.out.1.kf HD.out.2.1 (((Keeps.refl (fun q=>q=a.blk) w).setCell (fun _=>rfl) _).setCell (fun _=>rfl) _) n true ?_⟩
 exact(HD.out.2.2.1.set 1 _).set 2 _
theorem K6(w:World)(d M:Nat)(s:ByteArray)(a:FS)(p:ByteArray→Option FS)(room:Nat)(used:Int)(ops c:Nat)(hD:aO w d M p room used ops c)(hps:p s=some a)(hl:a.bs.length≤1048576)(hs1:1≤s.size)(hs:s.size≤64)(ho:ops < 4611686018427387904):
  Calls Tryz.prog 84 #[.pointer (some ⟨d,0,none⟩),.string s] w fun e w'=>e=.returned (.int .i64 0)∧aO w' d M (aS p s { a with lasts:=a.bs.length,syn:=true }) room used (ops+1) c∧DStep w w' d M p (aS p s { a with lasts:=a.bs.length,syn:=true }):=by
 obtain⟨x,hx⟩:∃ x,x=w.heap.size:=⟨_,rfl⟩
 have o0:=Own.eX w hx 9 #[.string s]
 have HD:=zh (zN hD (zN hps o0))
 clear hD hps o0
 go_enter Tryz.func84,Tryz.ntmps84
 go_wp2_with fail
 rw[←hx]
 refine bC (Own w [(x,9,#[.string s])]) HD.out.2.2 ?_
 intro w1 h1
 have H1:=zh h1
 clear h1
 have hb1:=H1.out.bel
 refine(Co w1 d M 1 1 (some ⟨x,0,none⟩) (fun _=>s) s a 145 #[] p room used ops c (fun w2=>aO w2 d M (aS p s { a with lasts:=a.bs.length,syn:=true }) room used ops c∧DStep w w2 d M p (aS p s { a with lasts:=a.bs.length,syn:=true })) (HD.out.1.call hb1) rfl HD.out.2.1 ?_ (by omega) (by omega) (fun _ _=>⟨hs1,hs⟩) ho (fun _=>by kernel_rfl) ?_ ?_).mono ?_
 ·intro _
  exact⟨x,0,rfl,(H1.out.get 0 rfl).lt,fun j hj=>by obtain rfl:j=0:=(by omega);exact H1.out.cell 0 0 rfl rfl⟩
 ·intro w2 hb2
  have hb3:Below w.heap.size w w2:=V.ay hb1 hb2
  refine(Ka w2 d M s a p room used ops c (HD.out.1.call hb3) HD.out.2.1 hl).mono ?_
  rintro e w3 ⟨rfl,h1,h2⟩
  exact⟨rfl,h1,(DStep.of_below hb3).trans h2⟩
 ·rintro w2 ⟨h1,-⟩
  exact⟨M,_,_,h1.blk⟩
 ·rintro e w2 ⟨rfl,w3,w4,⟨h3,h4⟩,hb4,hb2⟩
  have HR:=zh (zN h3 (zN h4 (zN hb4 hb2)))
  clear h3 h4 hb4 hb2
  go_wp2_with fail
  go_ret
  have h5:=(HR.out.1.call HR.out.2.2.1).Kl HR.out.2.2.2
  exact⟨rfl,h5.1,(HR.out.2.1.below HR.out.2.2.1).trans h5.2⟩
end
section
open Go.RowKit Go.Maps
theorem KI(a:Addr)(w:World): (binOp .neq 112 (.pointer (some a)) (.pointer none)).run Tryz.prog w=.ok (.bool true) w:=by kernel_rfl
theorem IQ(w:World): (binOp .neq 112 (.pointer none) (.pointer none)).run Tryz.prog w=.ok (.bool false) w:=by kernel_rfl
theorem ND{α:Type}{p:ByteArray→Option α}{s:ByteArray}(h:p s=none): gq p s=p:=by
 funext y
 unfold gq
 split
 ·rename_i e
  rw[e,h]
 ·rfl
theorem LV(w:World)(d M:Nat)(s:ByteArray)(p:ByteArray→Option FS)(room:Nat)(used:Int)(ops c:Nat)(hD:aO w d M p room used ops c)(hlow : -1099511627776≤used)(hu:used≤1099511627776)(hbig:(gT p s).length≤1048576)(hs64:s.size≤64):
  Calls Tryz.prog 167 #[.pointer (some ⟨d,0,none⟩),.string s] w fun e w'=>e=.returned (.tuple #[])∧aO w' d M (gq p s) room (used-((gT p s).length:Int)) ops c∧DStep w w' d M p (gq p s):=by
 have k1:=KI
 have k2:=IQ
 have hsm:s.size≤maxLen:=by unfold maxLen;omega
 have u0:=hD.blk.cell 0
 have u4:=hD.look s hsm
 cases hps:p s with
 | none=>
  have hm:(dJ p s).getD (.pointer none)=.pointer none:=by unfold dJ;rw[hps];rfl
  have hol:gT p s=[]:=by unfold gT;rw[hps];rfl
  rw[hm] at u4
  have HD:=zh (zN hD (zN hps hol))
  clear hD hps hol hm
  go_enter Tryz.func167,Tryz.ntmps167
  go_wp2_with fail
  refine bodyPost_end (v:=.tuple #[]) (by simp[results,Tryz.results167,go_sem]) rfl ?_
  refine⟨rfl,?_⟩
  rw[ND HD.out.2.1,HD.out.2.2,show used-(([]:List Nat).length:Int)=used by simp]
  exact⟨HD.out.1,DStep.refl _ _ _ _⟩
 | some a=>
  have hm:(dJ p s).getD (.pointer none)=.pointer (some ⟨a.blk,0,none⟩):=by unfold dJ;rw[hps];rfl
  have hol:gT p s=a.bs:=by unfold gT;rw[hps];rfl
  rw[hm] at u4
  obtain⟨A0,c0,hav,-⟩:=aA (hD.fil s a hps).2
  obtain⟨n,hn⟩:∃ n,n=a.bs.length:=⟨_,rfl⟩
  rw[hol,←hn] at hbig ⊢
  rw[←hn] at hav
  have d1:IntKind.i64.wrap (used-(n:Int))=used-(n:Int):=by simp only[IntKind.wrap_i64];omega
  have hba:au w a.blk 114 #[.slice A0 n c0,.int .i64 (a.lasts:Nat),.bool a.syn]:=by rw[←hav];exact (hD.fil s a hps).1
  have had:a.blk≠d:=hba.ne hD.blk (by decide)
  obtain⟨w1,hw1⟩:∃ w1,w1=(w.setCell ⟨d,2,none⟩ (.int .i64 (used-(n:Int)))).drew:=⟨_,rfl⟩
  have h1:aO w1 d M p room (used-(n:Int)) ops c∧DStep w w1 d M p p:=by
   rw[hw1]
   exact hD.kd (((Keeps.refl (fun q=>q=d) w).setCell (p:=⟨d,2,none⟩) (fun _=>rfl) _).drew) (hD.blk.set 2 _).drew
  obtain⟨n0,D0,hown0,hn0,hF0⟩:=h1.1.map
  obtain⟨w2,hrun2,hown2,ht2⟩:=hown0.drop law Tryz.underlying69 (kD hsm) 0
  have h2:=h1.1.Tx s hn0 hF0 hown2 ht2.grown
  have HD:=zh (zN hD (zN hps (zN hba (zN had (zN h1 h2)))))
  have hv0:=h1.1.blk.cell 0
  have hbw:au w1 a.blk 114 #[.slice A0 n c0,.int .i64 (a.lasts:Nat),.bool a.syn]:=by rw[hw1];exact (hba.far (p:=⟨d,2,none⟩) had _).drew
  have HW:=zh (zN hw1 hbw)
  clear hD hps hba had h1 h2 hm hol hav hown0 hown2 hF0 hn ht2 hw1 hbw
  go_enter Tryz.func167,Tryz.ntmps167
  go_wp2_with fail
  clear u0 u4
  have hS:au w.drew a.blk 114 #[.slice A0 n c0,.int .i64 (a.lasts:Nat),.bool a.syn]:=HD.out.2.2.1.drew
  have hS:(fun wx=>au wx a.blk 114 #[.slice A0 n c0,.int .i64 (a.lasts:Nat),.bool a.syn]) (w.drew):=hS
  refine av (fun wx=>au wx a.blk 114 #[.slice A0 n c0,.int .i64 (a.lasts:Nat),.bool a.syn]) (by kernel_rfl) hS ?_
  refine zB [0,1,2,4,5,6,7,8] ?_
  iterate 8 (refine zV ?_ ?_ hS ?_;rotate_left;(intro w' hSw;have u1:=hSw.cell 0;go_simp<;>with_reducible rfl);try simp only[zP])
  refine zE ?_
  have u2:w.drew.cell? ⟨d,2,none⟩=some (.int .i64 used):=HD.out.1.blk.cell 2
  refine zC 3 fun K HK=>?_
  go_simp
  go_wp2_with fail
  refine HK.out.zt (fun wx=>au wx a.blk 114 #[.slice A0 n c0,.int .i64 (a.lasts:Nat),.bool a.syn]) (fun _ h=>h) (hS) ?_
  clear HK hS
  intro hS
  try simp only[zP]
  refine zB [9,10,11] ?_
  iterate 3 (refine zV ?_ ?_ hS ?_;rotate_left;(intro w' hSw;go_simp<;>with_reducible rfl);try simp only[zP])
  refine zE ?_
  have uf:∀ i,w.drew.frozen? ⟨d,i,none⟩=false:=HD.out.1.blk.frozen
  refine zC 12 fun K HK=>?_
  go_simp
  rw[←HW.out.1]
  go_wp2_with fail
  refine HK.out.zt (fun wx=>au wx a.blk 114 #[.slice A0 n c0,.int .i64 (a.lasts:Nat),.bool a.syn]) (fun _ h=>h) (HW.out.2) ?_
  clear HK hS
  intro hS
  try simp only[zP]
  refine zD ?_
  try simp only[zP]
  clear u2 uf hS
  go_wp2_with fail
  refine bodyPost_end (v:=.tuple #[]) (by simp[results,Tryz.results167,go_sem]) rfl ?_
  exact⟨rfl,HD.out.2.2.2.2.2.1,HD.out.2.2.2.2.1.2.trans HD.out.2.2.2.2.2.2⟩
end
section
open Go.RowKit Go.Maps
theorem Sy{x y:ByteArray}(h:x≠y): (x.toList == y.toList)=false:=by
 cases hb:(x.toList == y.toList) with
 | false=>rfl
 | true=>
  rw[beq_iff_eq,ByteArray.toList_eq,ByteArray.toList_eq] at hb
  exact absurd (ByteArray.ext (Array.toList_inj.mp hb)) h
structure nL(d xo xn xd:Nat)(old s:ByteArray)(w:World): Prop where
 o:w.cell? ⟨xo,0,none⟩=some (.string old)
 n:w.cell? ⟨xn,0,none⟩=some (.string s)
 d:w.cell? ⟨xd,0,none⟩=some (.pointer (some ⟨d,0,none⟩))
theorem nL.keeps{S:Nat→Prop}{d xo xn xd:Nat}{old s:ByteArray}{w w':World}(h:nL d xo xn xd old s w)(hk:Keeps S w w')(h1:¬ S xo)(h2:¬ S xn)(h3:¬ S xd): nL d xo xn xd old s w':=by
 have hc:∀ q v,w.cell? ⟨q,0,none⟩=some v→¬ S q→w'.cell? ⟨q,0,none⟩=some v:=fun q v hq hn=>(World.cell?_of_block (w:=w) (a:=⟨q,0,none⟩) (hk.block q (World.block_lt_of_cell? w _ hq) hn)).trans hq
 exact⟨hc _ _ h.o h1,hc _ _ h.n h2,hc _ _ h.d h3⟩
theorem nL.drew{d xo xn xd:Nat}{old s:ByteArray}{w:World}(h:nL d xo xn xd old s w): nL d xo xn xd old s w.drew:=⟨h.o,h.n,h.d⟩
def qZ(p:ByteArray→Option FS)(old s:ByteArray)(a:FS): ByteArray→Option FS:=aS (gq (gq p s) old) s a
theorem Q8{w:World}{d M:Nat}{p:ByteArray→Option FS}{room:Nat}{used:Int}{ops c:Nat}{old s:ByteArray}{a:FS}(hD:aO w d M p room used ops c)(hps:p old=some a):
  ∀ t b,t≠s→gq (gq p s) old t=some b→a.blk≠b.blk∧∀ g,a.v.ownBlock=some g→b.v.ownBlock≠some g:=by
 intro t b hts hb
 have hto:t≠old:=fun e=>by subst e;rw[uJ] at hb;cases hb
 rw[jS _ hto,jS _ hts] at hb
 exact hD.dis old t a b (fun e=>hto e.symm) hps hb
theorem RY{d M:Nat}{p:ByteArray→Option FS}{old s:ByteArray}{a:FS}(hps:p old=some a): ∀ q,aL d M (qZ p old s a) q→aL d M p q:=by
 rintro q (rfl | rfl | ⟨t,x,hx,hqx⟩)
 ·exact .inl rfl
 ·exact .inr (.inl rfl)
 ·unfold qZ at hx
  by_cases hts:t=s
  ·subst hts
   rw[gQ] at hx
   injection hx with hx
   subst hx
   exact .inr (.inr ⟨old,a,hps,hqx⟩)
  ·rw[fP _ _ hts] at hx
   have hto:t≠old:=fun e=>by subst e;rw[uJ] at hx;cases hx
   rw[jS _ hto,jS _ hts] at hx
   exact .inr (.inr ⟨t,x,hx,hqx⟩)
theorem EO(w:World)(d M xo xn xd:Nat)(old s:ByteArray)(a:FS)(p:ByteArray→Option FS)(room:Nat)(used:Int)(ops c:Nat)(hD:aO w d M p room used ops c)(hB:nL d xo xn xd old s w)(hps:p old=some a)(hne:old≠s)(h1:¬ aL d M p xo)(h2:¬ aL d M p xn)(h3:¬ aL d M p xd)(hlow : -1099511627776≤used)(hu:used≤1099511627776)(hbig:(gT p s).length≤1048576)(ho64:old.size≤64)(hs64:s.size≤64)(hc:c < 512):
  Calls Tryz.prog 298 #[.pointer (some ⟨a.blk,0,none⟩),.pointer (some ⟨xo,0,none⟩),.pointer (some ⟨xn,0,none⟩),.pointer (some ⟨xd,0,none⟩)] w fun e w'=>e=.returned (.tuple #[])∧aO w' d M (qZ p old s a) room (used-((gT p s).length:Int)) ops (c+1)∧DStep w w' d M p (qZ p old s a):=by
 have hsm:s.size≤maxLen:=by unfold maxLen;omega
 have hom:old.size≤maxLen:=by unfold maxLen;omega
 have e1:(old.toList == s.toList)=false:=Sy hne
 have z0:=hB.o
 have z1:=hB.n
 have z2:=hB.d
 obtain⟨u',hu'⟩:∃ u',u'=used-((gT p s).length:Int):=⟨_,rfl⟩
 have HD:=zh (zN hD (zN hB (zN hps (zN hne (zN h1 (zN h2 (zN h3 hu')))))))
 clear hD hB hps hne h1 h2 h3 hu'
 go_enter Tryz.func298,Tryz.ntmps298
 go_wp2_with fail
 refine(LV w d M s p room used ops c HD.out.1 hlow hu hbig hs64).mono ?_
 rintro e w1 ⟨rfl,hd1,hst1⟩
 rw[←HD.out.2.2.2.2.2.2.2] at hd1
 have hb1:=HD.out.2.1.keeps hst1.keep HD.out.2.2.2.2.1 HD.out.2.2.2.2.2.1 HD.out.2.2.2.2.2.2.1
 clear z0 z1 z2 e1
 obtain⟨n0,D0,hown0,hn0,hF0⟩:=hd1.drew.map
 obtain⟨w2,hrun2,hown2,ht2⟩:=hown0.drop law Tryz.underlying69 (kD hom) 0
 have h2:=hd1.drew.Tx old hn0 hF0 hown2 ht2.grown
 have hfa1:=hd1.drew.fil old a (by rw[jS _ HD.out.2.2.2.1];exact HD.out.2.2.1)
 have hfa2:au w2 a.blk 114 #[a.v,.int .i64 (a.lasts:Nat),.bool a.syn]∧w2.ownsRow 0 5 1 a.v a.bs.length (a.bs.map V.aI):=
  ⟨dK ht2.grown hfa1.1 (fun e=>hd1.drew.jB _ _ _ hfa1.1 (by injection e)),hfa1.2.kept ht2.grown (iU hown0 hfa1.2)⟩
 have hb2:=hb1.drew.keeps h2.2.keep (fun hf=>HD.out.2.2.2.2.1 (hst1.far _ (World.block_lt_of_cell? w ⟨xo,0,none⟩ HD.out.2.1.o) hf)) (fun hf=>HD.out.2.2.2.2.2.1 (hst1.far _ (World.block_lt_of_cell? w ⟨xn,0,none⟩ HD.out.2.1.n) hf)) (fun hf=>HD.out.2.2.2.2.2.2.1 (hst1.far _ (World.block_lt_of_cell? w ⟨xd,0,none⟩ HD.out.2.1.d) hf))
 have hst2:=(hst1.trans (DStep.of_below (Below.refl _ w1).drew)).trans h2.2
 obtain⟨n2,D2,hown2',hn2,hF2⟩:=h2.1.drew.map
 obtain⟨w3,hrun3,hown3,ht3⟩:=hown2'.store law Tryz.underlying69 (by unfold maxLen;omega) (kD hsm) (val:=.pointer (some ⟨a.blk,0,none⟩)) (d:=.held (.pointer (some ⟨a.blk,0,none⟩))) (ps:=[]) rfl
 have h3:=h2.1.drew.Ui s a hfa2 (Q8 HD.out.1 HD.out.2.2.1) hn2 hF2 hown3 ht3.grown
 have hb3:=hb2.drew.keeps h3.2 (h2.1.D9 hb2.o) (h2.1.D9 hb2.n) (h2.1.D9 hb2.d)
 have HR:=zh (zN h3.1 (zN h3.2 (zN hst2 (zN hb1 (zN hd1.blk (zN hb2 (zN h2.1.blk (zN hb3 h3.1.blk))))))))
 clear h2 h3 hb1 hb2 hb3 hst1 hst2 hd1 hfa1 hfa2 hown0 hown2 hown2' hown3 hF0 hF2 ht2 ht3
 go_wp2_with fail
 have hS:=zN HR.out.2.2.2.1.drew HR.out.2.2.2.2.1.drew
 have hS:(fun wx=>nL d xo xn xd old s wx∧au wx d 71 #[.map (some M),.int .i64 (room:Nat),.int .i64 u',.int .i64 (-1),.int .i64 (ops:Nat)]) (w1.drew):=hS
 refine av (fun wx=>nL d xo xn xd old s wx∧au wx d 71 #[.map (some M),.int .i64 (room:Nat),.int .i64 u',.int .i64 (-1),.int .i64 (ops:Nat)]) (by kernel_rfl) hS ?_
 refine zB [0,1,2,3,4] ?_
 iterate 5 (refine zV ?_ ?_ hS ?_;rotate_left;(intro w' hSw;have u1:=hSw.1.o;have u2:=hSw.1.d;have u3:=hSw.2.cell 0;go_simp<;>with_reducible rfl);try simp only[zP])
 refine zE ?_
 refine zC 5 fun K HK=>?_
 go_simp
 go_wp2_with fail
 refine HK.out.zt (fun wx=>nL d xo xn xd old s wx∧au wx d 71 #[.map (some M),.int .i64 (room:Nat),.int .i64 u',.int .i64 (-1),.int .i64 (ops:Nat)]) (fun _ h=>h) (⟨HR.out.2.2.2.2.2.1,HR.out.2.2.2.2.2.2.1⟩) ?_
 clear HK hS
 intro hS
 try simp only[zP]
 refine zD ?_
 try simp only[zP]
 clear hS hrun2
 go_wp2_with fail
 have hS:=zN HR.out.2.2.2.2.2.1.drew HR.out.2.2.2.2.2.2.1.drew
 have hS:(fun wx=>nL d xo xn xd old s wx∧au wx d 71 #[.map (some M),.int .i64 (room:Nat),.int .i64 u',.int .i64 (-1),.int .i64 (ops:Nat)]) (w2.drew):=hS
 refine av (fun wx=>nL d xo xn xd old s wx∧au wx d 71 #[.map (some M),.int .i64 (room:Nat),.int .i64 u',.int .i64 (-1),.int .i64 (ops:Nat)]) (by kernel_rfl) hS ?_
 refine zB [0,1,2,3,4,5] ?_
 iterate 6 (refine zV ?_ ?_ hS ?_;rotate_left;(intro w' hSw;have u1:=hSw.1.n;have u2:=hSw.1.d;have u3:=hSw.2.cell 0;go_simp<;>with_reducible rfl);try simp only[zP])
 refine zE ?_
 refine zC 6 fun K HK=>?_
 go_simp
 go_wp2_with fail
 refine HK.out.zt (fun wx=>nL d xo xn xd old s wx∧au wx d 71 #[.map (some M),.int .i64 (room:Nat),.int .i64 u',.int .i64 (-1),.int .i64 (ops:Nat)]) (fun _ h=>h) (⟨HR.out.2.2.2.2.2.2.2.1,HR.out.2.2.2.2.2.2.2.2⟩) ?_
 clear HK hS
 intro hS
 try simp only[zP]
 refine zD ?_
 try simp only[zP]
 clear hS hrun3
 go_wp2_with fail
 refine bodyPost_end (v:=.tuple #[]) (by simp[results,Tryz.results298,go_sem]) rfl ?_
 rw[←HD.out.2.2.2.2.2.2.2]
 refine⟨rfl,HR.out.1,(HR.out.2.2.1.keep.drew).trans HR.out.2.1 (fun q hq e=>.inr (.inl e)),fun q _ hq=>RY HD.out.2.2.1 q hq⟩
end
section
open Go.RowKit
theorem Qj(w:World)(n:Nat)(hn:n≤1): Calls Tryz.prog 282 #[.int .u64 (n:Nat)] w fun e w'=>(∃ u:Int,e=.returned (.int .i64 u))∧Below w.heap.size w w':=by
 obtain rfl | rfl:n=0∨n=1:=by omega
 ·go_enter Tryz.func282,Tryz.ntmps282
  go_wp2_with fail
  go_ret
  exact⟨⟨_,rfl⟩,Below.refl _ _⟩
 ·go_enter Tryz.func282,Tryz.ntmps282
  go_wp2_with fail
  go_ret
  exact⟨⟨_,rfl⟩,Below.refl _ _⟩
theorem RO(w:World)(n:Nat)(hn:n≤1): Calls Tryz.prog 191 #[.int .u64 (n:Nat)] w fun e w'=>(∃ u:Int,e=.returned (.int .i64 u))∧Below w.heap.size w w':=by
 go_enter Tryz.func191,Tryz.ntmps191
 go_wp2_with fail
 refine(Qj w n hn).mono ?_
 rintro e w1 ⟨⟨u,rfl⟩,hb⟩
 have HB:=zh hb
 clear hb
 go_wp2_with fail
 go_ret
 exact⟨⟨_,rfl⟩,HB.out⟩
theorem SE(w:World)(n c:Nat)(A:Option Addr)(hn:n≤1): Calls Tryz.prog 272 #[.slice A n c,.int .i64 0,.int .i64 (n:Nat)] w fun e w'=>e=.returned (.tuple #[])∧Below w.heap.size w w':=by
 have d1:decide ((1:Int) < (n:Int))=false:=by simp;omega
 have d2:decide (1 < n)=false:=by simp;omega
 go_enter Tryz.func272,Tryz.ntmps272
 go_wp2_with fail
 go_loopw [6] (fun i wr=>i=.int .i64 1∧wr=w) (fun _ _=>0)
 case atStart=>exact ⟨rfl,rfl⟩
 case round=>
  obtain⟨rfl,rfl⟩:=hrel
  go_wp2_with fail
  refine bodyPost_end (v:=.tuple #[]) (by simp[results,Tryz.results272,go_sem]) rfl ?_
  exact⟨rfl,Below.refl _ _⟩
theorem Sk(w:World)(n c:Nat)(A:Option Addr)(u:Int)(hn:n≤1): Calls Tryz.prog 190 #[.slice A n c,.int .i64 0,.int .i64 (n:Nat),.int .i64 u] w fun e w'=>e=.returned (.tuple #[])∧Below w.heap.size w w':=by
 have d1:decide ((n:Int)≤(12:Int))=true:=by simp;omega
 have d2:decide (n≤12)=true:=by simp;omega
 go_enter Tryz.func190,Tryz.ntmps190
 go_wp2_with fail
 go_loopw [1,2,3,8,9] (fun s1 s2 s3 s8 s9 wr=>s1=.int .i64 0∧s2=.int .i64 (n:Nat)∧s3=.int .i64 u∧s8=.bool true∧s9=.bool true∧wr=w) (fun _ _ _ _ _ _=>0)
 case atStart=>exact ⟨rfl,rfl,rfl,rfl,rfl,rfl⟩
 case round=>
  obtain⟨rfl,rfl,rfl,rfl,rfl,rfl⟩:=hrel
  go_wp2_with fail
  refine(SE _ n c A hn).mono ?_
  rintro e w1 ⟨rfl,hb⟩
  have HB:=zh hb
  clear hb
  go_wp2_with fail
  refine bodyPost_ret (v:=.tuple #[]) (by simp[results,Tryz.results190,go_sem]) rfl ?_
  exact⟨rfl,HB.out⟩
theorem Hu(w:World)(n c:Nat)(A:Option Addr)(hn:n≤1): Calls Tryz.prog 121 #[.slice A n c] w fun e w'=>e=.returned (.tuple #[])∧Below w.heap.size w w':=by
 go_enter Tryz.func121,Tryz.ntmps121
 go_wp2_with fail
 refine(RO w n hn).mono ?_
 rintro e w1 ⟨⟨u,rfl⟩,hb⟩
 have HB:=zh hb
 clear hb
 go_wp2_with fail
 refine(Sk w1 n c A u hn).mono ?_
 rintro e w2 ⟨rfl,hb2⟩
 have HB2:=zh hb2
 clear hb2
 go_wp2_with fail
 refine bodyPost_end (v:=.tuple #[]) (by simp[results,Tryz.results121,go_sem]) rfl ?_
 exact⟨rfl,HB.out.trans (HB2.out.mono HB.out.size)⟩
end
section
open Go.RowKit Go.Maps
theorem Gy(w:World)(d M:Nat)(old s:ByteArray)(a:FS)(p:ByteArray→Option FS)(room:Nat)(used:Int)(ops c:Nat)(hD:aO w d M p room used ops c)(hps:p old=some a)(hne:old≠s)(hlow : -1099511627776≤used)(hu:used≤1099511627776)(hbig:(gT p s).length≤1048576)(ho1:1≤old.size)(ho64:old.size≤64)(hs1:1≤s.size)(hs64:s.size≤64)(hc:c < 512)(ho:ops < 4611686018427387904):
  Calls Tryz.prog 207 #[.pointer (some ⟨d,0,none⟩),.string old,.string s] w fun e w'=>e=.returned (.int .i64 0)∧aO w' d M (qZ p old s a) room (used-((gT p s).length:Int)) (ops+1) (c+1)∧DStep w w' d M p (qZ p old s a):=by
 obtain⟨x,hx⟩:∃ x,x=w.heap.size:=⟨_,rfl⟩
 have o0:=Own.SL w hx 23 #[.pointer (some ⟨d,0,none⟩)] 9 #[.string old] 9 #[.string s] 9 #[.string old,.string s]
 have HD:=zh (zN hD (zN hps (zN hne (zN hx o0))))
 clear hD hps hne o0
 go_enter Tryz.func207,Tryz.ntmps207
 go_wp2_with fail
 rw[←hx]
 refine bC (Own w [(x,23,#[.pointer (some ⟨d,0,none⟩)]),(x+1,9,#[.string old]),(x+1+1,9,#[.string s]),(x+1+1+1,9,#[.string old,.string s])]) HD.out.2.2.2.2 ?_
 intro w1 h1
 have H1:=zh h1
 clear h1
 have hb1:=H1.out.bel
 refine(Co w1 d M 2 2 (some ⟨x+1+1+1,0,none⟩) (fun j=>if j=0 then old else s) old a 298 #[.pointer (some ⟨x+1,0,none⟩),.pointer (some ⟨x+1+1,0,none⟩),.pointer (some ⟨x,0,none⟩)] p room used ops c
  (fun w2=>aO w2 d M (qZ p old s a) room (used-((gT p s).length:Int)) ops (c+1)∧DStep w w2 d M p (qZ p old s a)) (HD.out.1.call hb1) rfl HD.out.2.1 ?_ (by omega) (by omega) ?_ ho (fun _=>by kernel_rfl) ?_ ?_).mono ?_
 ·intro _
  refine⟨x+1+1+1,0,rfl,(H1.out.get 3 rfl).lt,fun j hj=>?_⟩
  obtain rfl | rfl:j=0∨j=1:=by omega
  ·exact H1.out.cell 3 0 rfl rfl
  ·exact H1.out.cell 3 1 rfl rfl
 ·intro j hj
  obtain rfl | rfl:j=0∨j=1:=by omega
  ·exact ⟨ho1,ho64⟩
  ·exact ⟨hs1,hs64⟩
 ·intro w2 hb2
  have hb3:Below w.heap.size w w2:=V.ay hb1 hb2
  have o2:=H1.out.call hb2
  refine(EO w2 d M (x+1) (x+1+1) x old s a p room used ops c (HD.out.1.call hb3) ⟨o2.cell 1 0 rfl rfl,o2.cell 2 0 rfl rfl,o2.cell 0 0 rfl rfl⟩ HD.out.2.1 HD.out.2.2.1 (kW HD.out.1 (by omega)) (kW HD.out.1 (by omega)) (kW HD.out.1 (by omega)) hlow hu hbig ho64 hs64 hc).mono ?_
  rintro e w3 ⟨rfl,h1,h2⟩
  exact⟨rfl,h1,(DStep.of_below hb3).trans h2⟩
 ·rintro w2 ⟨h1,-⟩
  exact⟨M,_,_,h1.blk⟩
 ·rintro e w2 ⟨rfl,w3,w4,⟨h3,h4⟩,hb4,hb2⟩
  have HR:=zh (zN h3 (zN h4 (zN hb4 hb2)))
  clear h3 h4 hb4 hb2
  go_wp2_with fail
  go_ret
  have h5:=(HR.out.1.call HR.out.2.2.1).Kl HR.out.2.2.2
  exact⟨rfl,h5.1,(HR.out.2.1.below HR.out.2.2.1).trans h5.2⟩
def xY(w:World)(bs:List Nat)(e:Ending)(w':World): Prop:=∃ A c,e=.returned (.tuple #[.slice A bs.length c,.int .i64 0])∧w'.ownsRow w.heap.size 5 1 (.slice A bs.length c) bs.length (bs.map V.aI)∧Below w.heap.size w w'
theorem I6(w:World)(d M:Nat)(s:ByteArray)(p:ByteArray→Option FS)(room:Nat)(used:Int)(ops c:Nat)(hD:aO w d M p room used ops c)(hps:p s=none)(hs64:s.size≤64):
  Calls Tryz.prog 21 #[.pointer (some ⟨d,0,none⟩),.string s] w fun e w'=>e=.returned (.tuple #[.slice none 0 0,.int .i64 13])∧Below w.heap.size w w':=by
 have k1:=BP
 have hm:(dJ p s).getD (.pointer none)=.pointer none:=by unfold dJ;rw[hps];rfl
 have HD:=zh (zN hD hm)
 clear hD hps hm
 go_enter Tryz.func21,Tryz.ntmps21
 go_wp2_with fail
 refine(qR w d M (HD.out.1.blk.cell 0)).mono ?_
 rintro e w1 ⟨rfl,hb1⟩
 have u0:=(HD.out.1.call hb1).blk.cell 0
 have u4:=(HD.out.1.call hb1).look s (by unfold maxLen;omega)
 rw[HD.out.2] at u4
 have HB:=zh hb1
 clear hb1
 go_wp2_with fail
 go_ret2
 exact⟨rfl,HB.out⟩
theorem Ki(w:World)(d M:Nat)(s:ByteArray)(a:FS)(p:ByteArray→Option FS)(room:Nat)(used:Int)(ops c:Nat)(hD:aO w d M p room used ops c)(hps:p s=some a)(hbig:a.bs.length≤1048576)(hs64:s.size≤64):
  Calls Tryz.prog 21 #[.pointer (some ⟨d,0,none⟩),.string s] w (xY w a.bs):=by
 have k1:=tq
 have hm:(dJ p s).getD (.pointer none)=.pointer (some ⟨a.blk,0,none⟩):=by unfold dJ;rw[hps];rfl
 have HD:=zh (zN hD (zN hm hps))
 clear hD hps hm
 obtain⟨A0,c0,hav,hc0,-⟩:=aA (HD.out.1.fil s a HD.out.2.2).2
 obtain⟨n,hn⟩:∃ n,n=a.bs.length:=⟨_,rfl⟩
 rw[←hn] at hav hbig hc0
 have HN:=zh (zN hav hn)
 clear hav hn
 go_enter Tryz.func21,Tryz.ntmps21
 go_wp2_with fail
 refine(qR w d M (HD.out.1.blk.cell 0)).mono ?_
 rintro e w1 ⟨rfl,hb1⟩
 have h1:=HD.out.1.call hb1
 obtain⟨w2,hw2⟩:∃ w2,w2=w1.alloc (.cells #[] 5):=⟨_,rfl⟩
 have hb2:Below w1.heap.size w1 w2:=by rw[hw2];exact (Below.refl w1.heap.size w1).alloc (Nat.le_refl _) _
 have h2:=h1.call hb2
 have u0:=h1.blk.cell 0
 have u4:=h1.look s (by unfold maxLen;omega)
 have v0:=h2.blk.cell 0
 have v4:=h2.look s (by unfold maxLen;omega)
 have v5:=(h2.fil s a HD.out.2.2).1.cell 0
 have hsl:=V.dN (n:=n) (bs:=a.bs) (A:=A0) (c:=c0) (by have:=(h2.fil s a HD.out.2.2).2;rw[←HN.out.2,HN.out.1] at this;exact this)
 rw[HD.out.2.1] at u4 v4
 rw[HN.out.1] at v5
 have hown:w2.ownsRow w.heap.size 5 1 (.slice (some ⟨w1.heap.size,0,none⟩) 0 0) 0 []:=by rw[hw2];exact V.DU w1 _ _ hb1.size
 rw[hw2] at v0 v4 v5
 have HB:=zh (zN hb1 (zN hb2 (zN hsl (zN hown hw2))))
 clear hb1 hb2 hsl hown h1 h2 hw2
 go_wp2_with (at_builtin;refine aW (f:=aD a.bs) (D:=fun q=>q < w2.heap.size) (base:=w.heap.size) (n:=0) (xs:=[]) Ey rfl (.tmp 17) (.tmp 26) rfl rfl rfl ?hown ?hsl ?h1 ?h63 ?hby ?hbase ?_)
 case hown=>rw[←HB.out.2.2.2.2];exact HB.out.2.2.2.1
 case hsl=>rw[←HB.out.2.2.2.2];exact HB.out.2.2.1
 case h1=>intro j _;rfl
 case h63=>unfold maxLen;omega
 case hby=>omega
 case hbase=>have:=HB.out.1.size;simp;omega
 intro v5' w5 ho5 hg5 hx5
 have hb5:Below w.heap.size w w5:=by
  have h35:Below w1.heap.size w1 w5:=jD ((Below.refl _ _).alloc (Nat.le_refl _) _) hg5 (Nat.le_refl _)
  exact HB.out.1.trans (h35.mono HB.out.1.size)
 obtain⟨A5,c5,hv5,hc5,-⟩:=aA ho5
 subst hv5
 have ho5':w5.ownsRow w.heap.size 5 1 (.slice A5 a.bs.length c5) a.bs.length (a.bs.map V.aI):=by
  rw[←HN.out.2,V.fE HN.out.2.symm]
  exact ho5
 have H5:=zh (zN hb5 ho5')
 clear ho5 ho5' hg5 hx5 hb5 u0 u4 v0 v4 v5
 go_wp2_with fail
 go_ret2
 exact⟨A5,c5,by rw[←HN.out.2];rfl,H5.out.2,H5.out.1⟩
theorem KC(w:World)(d M:Nat)(s:ByteArray)(p:ByteArray→Option FS)(room:Nat)(used:Int)(ops:Nat)(hD:aO w d M p room used ops 0):
  Calls Tryz.prog 54 #[.pointer (some ⟨d,0,none⟩),.string s] w fun e w'=>e=.returned (.slice none 0 0)∧Below w.heap.size w w':=by
 have HD:=zh hD
 clear hD
 go_enter Tryz.func54,Tryz.ntmps54
 go_wp2_with fail
 refine(qR w d M (HD.out.blk.cell 0)).mono ?_
 rintro e w1 ⟨rfl,hb1⟩
 have h1:=HD.out.call hb1
 have u0:=h1.blk.cell 0
 obtain⟨n,D,hown,hn,hF⟩:=h1.map
 obtain⟨w2,hr2,hrg2,hg2,hs2⟩:=hown.range law Tryz.underlying69
 have hb2:Below w.heap.size w w2:=hb1.grown hg2 hb1.size (fun k hk=>by cases hk)
 have hsz:Maps.size D=0:=Nat.le_zero.1 hF.sz
 rw[hsz] at hrg2
 have hnx:(Instr.next (.pointer (some ⟨w1.heap.size,0,none⟩)) false 0).run Tryz.prog w2=.ok (.tuple #[.bool false]) w2:=by
  rcases hrg2.next law 0 with ⟨-,-,hnx⟩ | ⟨key,v,kl,y,w3,cnt',-,-,-,-,-,-,hlt,-⟩
  ·exact hnx
  ·exact absurd hlt (Nat.not_lt_zero _)
 have H2:=zh hb2
 clear hb2 hrg2 hg2 hs2 hown hF hb1 h1
 go_wp2_with fail
 go_loopw [5] (fun o wr=>o=.slice none 0 0∧wr=w2) (fun _ _=>0)
 case atStart=>exact ⟨rfl,rfl⟩
 case round=>
  obtain⟨rfl,rfl⟩:=hrel
  go_wp2_with fail
  refine(Hu _ 0 0 none (by omega)).mono ?_
  rintro e w3 ⟨rfl,hb3⟩
  have H3:=zh hb3
  clear hb3
  go_wp2_with fail
  go_ret
  exact⟨rfl,V.ay H2.out H3.out⟩
end
section
open Go.RowKit Go.Maps
def fb(p:ByteArray→Option FS)(s:ByteArray): Option (List Nat):=(p s).map FS.bs
theorem Bd(p:ByteArray→Option FS)(s:ByteArray)(a:FS): fb (aS p s a)=aS (fb p) s a.bs:=by
 funext y
 unfold fb aS
 by_cases e:y=s
 ·simp[e]
 ·simp[e]
theorem Ip(p:ByteArray→Option FS)(s:ByteArray): fb (gq p s)=gq (fb p) s:=by
 funext y
 unfold fb gq
 by_cases e:y=s
 ·simp[e]
 ·simp[e]
theorem Bw{p:ByteArray→Option FS}{s:ByteArray}{bs:List Nat}(h:fb p s=some bs): ∃ a,p s=some a∧a.bs=bs:=by
 unfold fb at h
 cases hp:p s with
 | none=>rw[hp] at h;cases h
 | some a=>rw[hp] at h;exact ⟨a,rfl,by simpa using h⟩
theorem RQ{p:ByteArray→Option FS}{s:ByteArray}(h:fb p s=none): p s=none:=by
 unfold fb at h
 cases hp:p s with
 | none=>rfl
 | some a=>rw[hp] at h;cases h
theorem R7(p:ByteArray→Option FS)(s:ByteArray): gT p s=(fb p s).getD []:=rfl
structure bq(w:World)(d M:Nat)(p:ByteArray→Option FS)(room T G:Nat): Prop where
 ex:∃ (used:Int) (ops c:Nat),aO w d M p room used ops c∧used≤T∧-((G:Int)*1048576)≤used∧ops≤G∧c≤G
 small:∀ s a,p s=some a→a.bs.length≤T
theorem bq.keep{S:Nat→Prop}{w w':World}{d M:Nat}{p:ByteArray→Option FS}{room T G:Nat}(h:bq w d M p room T G)(hk:Keeps S w w')(hS:∀ q,aL d M p q→¬ S q): bq w' d M p room T G:=by
 obtain⟨⟨u,o,c,hD,hr⟩,hs⟩:=h
 exact⟨⟨u,o,c,hD.keep hk hS,hr⟩,hs⟩
theorem bq.call{w w':World}{d M:Nat}{p:ByteArray→Option FS}{room T G:Nat}(h:bq w d M p room T G)(hb:Below w.heap.size w w'): bq w' d M p room T G:=
 h.keep (S:=fun _=>False) (Keeps.of_below hb) (fun _ _ h=>h)
theorem bq.dH{w:World}{d M:Nat}{p:ByteArray→Option FS}{room T G q:Nat}(h:bq w d M p room T G)(hq:aL d M p q): q < w.heap.size:=by
 obtain⟨⟨u,o,c,hD,hr⟩,hs⟩:=h
 exact hD.dH hq
theorem bq.more{w:World}{d M:Nat}{p:ByteArray→Option FS}{room T G T' G':Nat}(h:bq w d M p room T G)(hT:T≤T')(hG:G≤G'): bq w d M p room T' G':=by
 obtain⟨⟨u,o,c,hD,h1,h2,h3,h4⟩,hs⟩:=h
 exact⟨⟨u,o,c,hD,by omega,by omega,by omega,by omega⟩,fun s a ha=>Nat.le_trans (hs s a ha) hT⟩
def rM(w:World)(d M:Nat)(p:ByteArray→Option FS)(room T G:Nat)(f:ByteArray→Option (List Nat))(e:Ending)(w':World): Prop:=
 e=.returned (.int .i64 0)∧∃ p',bq w' d M p' room T G∧DStep w w' d M p p'∧fb p'=f
theorem oq(w:World)(d M n cp:Nat)(A:Option Addr)(s:ByteArray)(bs:List Nat)(p:ByteArray→Option FS)(room T G:Nat)(h:bq w d M p room T G)(hlen:bs.length=n)(hsl:Sl w (fun q=>q < w.heap.size∧¬ aL d M p q) A n (aD bs))(hT:T+n≤1048576)(hr1:1048576≤room)(hr:room≤1073741824)(hG:G < 512)(hs1:1≤s.size)(hs:s.size≤64):
  Calls Tryz.prog 79 #[.pointer (some ⟨d,0,none⟩),.string s,.slice A n cp] w (rM w d M p room (T+n) (G+1) (aS (fb p) s ((fb p s).getD [] ++ bs))):=by
 obtain⟨⟨u,o,c,hD,h1,h2,h3,h4⟩,hsm⟩:=h
 have hol:(gT p s).length≤T:=by
  unfold gT
  cases hp:p s with
  | none=>exact Nat.zero_le _
  | some a=>exact hsm s a hp
 refine(FW w d M n cp A s bs p room u o c hD hlen hsl (by omega) (by omega) hr (by omega) (by omega) hs1 hs (by omega)).mono ?_
 rintro e w' ⟨rfl,a,ha,hd,hst⟩
 refine⟨rfl,aS p s a,⟨⟨_,_,_,hd,by omega,by omega,by omega,by omega⟩,fun t x hx=>?_⟩,hst,by rw[Bd,ha,R7]⟩
 unfold aS at hx
 split at hx
 ·injection hx with hx
  subst hx
  rw[ha,List.length_append]
  omega
 ·have:=hsm t x hx
  omega
theorem Ba(w:World)(d M:Nat)(s:ByteArray)(bs:List Nat)(p:ByteArray→Option FS)(room T G:Nat)(h:bq w d M p room T G)(hf:fb p s=some bs)(hT:T≤1048576)(hG:G < 512)(hs1:1≤s.size)(hs:s.size≤64):
  Calls Tryz.prog 84 #[.pointer (some ⟨d,0,none⟩),.string s] w (rM w d M p room T (G+1) (fb p)):=by
 obtain⟨a,hps,hab⟩:=Bw hf
 obtain⟨⟨u,o,c,hD,h1,h2,h3,h4⟩,hsm⟩:=h
 have hal:a.bs.length≤1048576:=Nat.le_trans (hsm s a hps) hT
 refine(K6 w d M s a p room u o c hD hps hal hs1 hs (by omega)).mono ?_
 rintro e w' ⟨rfl,hd,hst⟩
 refine⟨rfl,_,⟨⟨_,_,_,hd,by omega,by omega,by omega,by omega⟩,fun t x hx=>?_⟩,hst,?_⟩
 ·unfold aS at hx
  split at hx
  ·injection hx with hx
   subst hx
   exact hsm s a hps
  ·exact hsm t x hx
 ·rw[Bd]
  funext y
  unfold aS
  split
  ·rename_i e
   rw[e,hf,hab]
  ·rfl
theorem Ng(w:World)(d M:Nat)(old s:ByteArray)(bs:List Nat)(p:ByteArray→Option FS)(room T G:Nat)(h:bq w d M p room T G)(hf:fb p old=some bs)(hne:old≠s)(hT:T≤1048576)(hG:G < 512)(ho1:1≤old.size)(ho:old.size≤64)(hs1:1≤s.size)(hs:s.size≤64):
  Calls Tryz.prog 207 #[.pointer (some ⟨d,0,none⟩),.string old,.string s] w (rM w d M p room T (G+1) (aS (gq (fb p) old) s bs)):=by
 obtain⟨a,hps,hab⟩:=Bw hf
 obtain⟨⟨u,o,c,hD,h1,h2,h3,h4⟩,hsm⟩:=h
 have hol:(gT p s).length≤T:=by
  unfold gT
  cases hp:p s with
  | none=>exact Nat.zero_le _
  | some a=>exact hsm s a hp
 refine(Gy w d M old s a p room u o c hD hps hne (by omega) (by omega) (by omega) ho1 ho hs1 hs (by omega) (by omega)).mono ?_
 rintro e w' ⟨rfl,hd,hst⟩
 refine⟨rfl,_,⟨⟨_,_,_,hd,by omega,by omega,by omega,by omega⟩,fun t x hx=>?_⟩,hst,?_⟩
 ·unfold qZ at hx
  by_cases hts:t=s
  ·subst hts
   rw[gQ] at hx
   injection hx with hx
   subst hx
   exact hsm old a hps
  ·rw[fP _ _ hts] at hx
   have hto:t≠old:=fun e=>by subst e;rw[uJ] at hx;cases hx
   rw[jS _ hto,jS _ hts] at hx
   exact hsm t x hx
 ·unfold qZ
  rw[Bd,Ip,Ip,hab]
  funext y
  unfold aS gq
  by_cases e:y=s
  ·rw[if_pos e,if_pos e]
  ·rw[if_neg e,if_neg e,if_neg e]
theorem jv(w:World)(d M:Nat)(s:ByteArray)(p:ByteArray→Option FS)(room T G:Nat)(h:bq w d M p room T G)(hf:fb p s=none)(hs:s.size≤64):
  Calls Tryz.prog 21 #[.pointer (some ⟨d,0,none⟩),.string s] w fun e w'=>e=.returned (.tuple #[.slice none 0 0,.int .i64 13])∧Below w.heap.size w w':=by
 obtain⟨⟨u,o,c,hD,-⟩,-⟩:=h
 exact I6 w d M s p room u o c hD (RQ hf) hs
theorem Fv(w:World)(d M:Nat)(s:ByteArray)(bs:List Nat)(p:ByteArray→Option FS)(room T G:Nat)(h:bq w d M p room T G)(hf:fb p s=some bs)(hT:T≤1048576)(hs:s.size≤64):
  Calls Tryz.prog 21 #[.pointer (some ⟨d,0,none⟩),.string s] w (xY w bs):=by
 obtain⟨a,hps,rfl⟩:=Bw hf
 obtain⟨⟨u,o,c,hD,-⟩,hsm⟩:=h
 exact Ki w d M s a p room u o c hD hps (Nat.le_trans (hsm s a hps) hT) hs
theorem qh(w:World)(d M:Nat)(s:ByteArray)(p:ByteArray→Option FS)(room T:Nat)(h:bq w d M p room T 0):
  Calls Tryz.prog 54 #[.pointer (some ⟨d,0,none⟩),.string s] w fun e w'=>e=.returned (.slice none 0 0)∧Below w.heap.size w w':=by
 obtain⟨⟨u,o,c,hD,-,-,-,hc⟩,-⟩:=h
 obtain rfl:c=0:=by omega
 exact KC w d M s p room u o hD
theorem NK(w:World)(room:Nat)(hr:room≤1073741824): Calls Tryz.prog 7 #[.int .i64 (room:Nat)] w fun e w'=>∃ d M,e=.returned (.tuple #[.pointer (some ⟨d,0,none⟩),.int .i64 0])∧w.heap.size≤M∧w.heap.size≤d∧bq w' d M (fun _=>none) room 0 0∧Below w.heap.size w w':=by
 refine(Qe w room hr).mono ?_
 rintro e w' ⟨d,M,rfl,h1,h2,h3,h4⟩
 exact⟨d,M,rfl,h1,h2,⟨⟨0,0,0,h3,by omega,by omega,by omega,by omega⟩,fun s a hs=>by cases hs⟩,h4⟩
end
section
open Go.RowKit Go.Maps
def iP: ByteArray:=⟨#[110]⟩
def rQ: ByteArray:=⟨#[109]⟩
theorem TH: iP≠rQ:=by decide
theorem DStep.rO{w w':World}{d M:Nat}{p p':ByteArray→Option FS}(h:DStep w w' d M p p'){q:Nat}(hq:q < w.heap.size)(hn:¬ aL d M p q): ¬ aL d M p' q:=fun hf=>hn (h.far q hq hf)
theorem bq.fresh{w:World}{d M:Nat}{p:ByteArray→Option FS}{room T G:Nat}(h:bq w d M p room T G){q:Nat}(hq:w.heap.size≤q): ¬ aL d M p q:=fun hf=>by have:=h.dH hf;omega
theorem OE{w:World}{q:Nat}{t:TypeId}{cs:Array Value}(h:au w q t cs)(i:Nat)(v:Value)(hi:cs[i]? = some v): au (w.setCell ⟨q,i,none⟩ v) q t cs:=by
 have:=h.set i v
 have e:cs.setIfInBounds i v=cs:=by
  apply Array.ext_getElem?
  intro j
  rw[Array.getElem?_setIfInBounds]
  by_cases hij:i=j
  ·subst hij
   rw[if_pos rfl]
   have hlt:i < cs.size:=by
    rcases Nat.lt_or_ge i cs.size with h1 | h1
    ·exact h1
    ·rw[Array.getElem?_eq_none h1] at hi;cases hi
   rw[if_pos hlt,hi]
  ·rw[if_neg hij]
 rw[e] at this
 exact this
theorem yc(w:World)(x8:Nat)(F:FuncId)(caps:Array Value)(Post:World→Prop)(h8:au w x8 24 #[.int .i64 0])(hcf:∀ w,(callFunc F caps).run Tryz.prog w=.ok (.enter F caps) w)(hF:Calls Tryz.prog F caps w fun e w2=>e=.returned (.int .i64 0)∧Post w2)(hP:∀ w2,Post w2→au w2 x8 24 #[.int .i64 0]):
  Calls Tryz.prog 235 #[.func (.func F) #[] caps,.pointer (some ⟨x8,0,none⟩)] w fun e w'=>e=.returned (.tuple #[])∧∃ w2,Post w2∧Keeps (fun q=>q=x8) w2 w'∧au w' x8 24 #[.int .i64 0]:=by
 have u0:w.cell? ⟨x8,0,none⟩=some (.int .i64 0):=h8.cell 0
 have HD:=zh (zN hF hP)
 clear hF hP h8
 go_enter Tryz.func235,Tryz.ntmps235
 go_wp2_with fail
 refine HD.out.1.mono ?_
 rintro e w2 ⟨rfl,hp⟩
 have hb:=HD.out.2 w2 hp
 have u1:w2.cell? ⟨x8,0,none⟩=some (.int .i64 0):=hb.cell 0
 have uf:=hb.frozen
 have H2:=zh (zN hp hb)
 clear hp hb u0
 go_wp2_with fail
 refine bodyPost_end (v:=.tuple #[]) (by simp[results,Tryz.results235,go_sem]) rfl ?_
 exact⟨rfl,w2,H2.out.1,(Keeps.refl (fun q=>q=x8) w2).setCell (fun _=>rfl) _,OE H2.out.2 0 _ rfl⟩
structure QH(w:World)(d x2 x7 x8:Nat)(A:Option Addr)(n c:Nat)(bs:List Nat): Prop where
 b2:au w x2 23 #[.pointer (some ⟨d,0,none⟩)]
 b7:au w x7 72 #[.slice A n c]
 b8:au w x8 24 #[.int .i64 0]
 row:w.ownsRow 0 5 1 (.slice A n c) n (bs.map V.aI)
theorem QH.keep{S:Nat→Prop}{w w':World}{d x2 x7 x8:Nat}{A:Option Addr}{n c:Nat}{bs:List Nat}(h:QH w d x2 x7 x8 A n c bs)(hk:Keeps S w w')(h2:¬ S x2)(h7:¬ S x7)(h8:¬ S x8)(hr:∀ g,(Value.slice A n c).ownBlock=some g→¬ S g): QH w' d x2 x7 x8 A n c bs:=
 ⟨h.b2.keeps hk h2,h.b7.keeps hk h7,h.b8.keeps hk h8,aF h.row hk hr⟩
theorem I9(w:World)(d M:Nat)(p:ByteArray→Option FS)(room T G x2 x7 n c:Nat)(A:Option Addr)(bs:List Nat)(h2:w.cell? ⟨x2,0,none⟩=some (.pointer (some ⟨d,0,none⟩)))(h7:w.cell? ⟨x7,0,none⟩=some (.slice A n c))(h:bq w d M p room T G)(hlen:bs.length=n)(hsl:Sl w (fun q=>q < w.heap.size∧¬ aL d M p q) A n (aD bs))(hT:T+n≤1048576)(hr1:1048576≤room)(hr:room≤1073741824)(hG:G < 512):
  Calls Tryz.prog 237 #[.pointer (some ⟨x2,0,none⟩),.pointer (some ⟨x7,0,none⟩)] w (rM w d M p room (T+n) (G+1) (aS (fb p) iP ((fb p iP).getD [] ++ bs))):=by
 have hc:=oq w d M n c A iP bs p room T G h hlen hsl hT hr1 hr hG (by decide) (by decide)
 have HD:=zh hc
 clear hc h hsl
 go_enter Tryz.func237,Tryz.ntmps237
 go_wp2_with fail
 refine HD.out.mono ?_
 rintro e w' ⟨rfl,hp⟩
 have HP:=zh hp
 clear hp
 go_wp2_with fail
 go_ret
 exact⟨rfl,HP.out⟩
theorem Kj(w:World)(d M:Nat)(p:ByteArray→Option FS)(room T G x2:Nat)(bs:List Nat)(h2:w.cell? ⟨x2,0,none⟩=some (.pointer (some ⟨d,0,none⟩)))(h:bq w d M p room T G)(hf:fb p iP=some bs)(hT:T≤1048576)(hG:G < 512):
  Calls Tryz.prog 238 #[.pointer (some ⟨x2,0,none⟩)] w (rM w d M p room T (G+1) (fb p)):=by
 have hc:=Ba w d M iP bs p room T G h hf hT hG (by decide) (by decide)
 have HD:=zh hc
 clear hc h hf
 go_enter Tryz.func238,Tryz.ntmps238
 go_wp2_with fail
 refine HD.out.mono ?_
 rintro e w' ⟨rfl,hp⟩
 have HP:=zh hp
 clear hp
 go_wp2_with fail
 go_ret
 exact⟨rfl,HP.out⟩
theorem Kq(w:World)(d M:Nat)(p:ByteArray→Option FS)(room T G x2:Nat)(bs:List Nat)(h2:w.cell? ⟨x2,0,none⟩=some (.pointer (some ⟨d,0,none⟩)))(h:bq w d M p room T G)(hf:fb p iP=some bs)(hT:T≤1048576)(hG:G < 512):
  Calls Tryz.prog 239 #[.pointer (some ⟨x2,0,none⟩)] w (rM w d M p room T (G+1) (aS (gq (fb p) iP) rQ bs)):=by
 have hc:=Ng w d M iP rQ bs p room T G h hf TH hT hG (by decide) (by decide) (by decide) (by decide)
 have HD:=zh hc
 clear hc h hf
 go_enter Tryz.func239,Tryz.ntmps239
 go_wp2_with fail
 refine HD.out.mono ?_
 rintro e w' ⟨rfl,hp⟩
 have HP:=zh hp
 clear hp
 go_wp2_with fail
 go_ret
 exact⟨rfl,HP.out⟩
theorem KV(w:World)(d M:Nat)(p:ByteArray→Option FS)(room T G:Nat)(h:bq w d M p room T G)(hf:fb p rQ=none):
  Calls Tryz.prog 57 #[.pointer (some ⟨d,0,none⟩)] w fun e w'=>e=.returned (.tuple #[.agg (aP 0 0 0 false 0 0 none 0 0),.bool false,.int .i64 0])∧Below w.heap.size w w':=by
 obtain⟨x,hx⟩:∃ x,x=w.heap.size:=⟨_,rfl⟩
 have o0:=Own.eX w hx 92 (aP 0 0 0 false 0 0 none 0 0)
 have HD:=zh (zN h (zN hf o0))
 clear h hf o0
 go_enter Tryz.func57,Tryz.ntmps57
 go_wp2_with fail
 rw[←hx]
 clear hx
 refine bC (Own w [(x,92,aP 0 0 0 false 0 0 none 0 0)]) HD.out.2.2 ?_
 intro w1 h1
 refine(jv w1 d M rQ p room T G (HD.out.1.call h1.bel) HD.out.2.1 (by decide)).mono ?_
 rintro e w2 ⟨rfl,hb2⟩
 have h2:=h1.call hb2
 obtain⟨W,hW⟩:∃ W,W=((((((((w2.setCell ⟨x,0,none⟩ (.int .i64 0)).setCell ⟨x,1,none⟩ (.int .i64 0)).setCell ⟨x,2,none⟩ (.int .i64 0)).setCell ⟨x,3,none⟩ (.bool false)).setCell ⟨x,4,none⟩ (.int .i64 0)).setCell ⟨x,5,none⟩ (.int .i64 0)).setCell ⟨x,6,none⟩ (.slice none 0 0)).setCell ⟨x,7,none⟩ (.slice none 0 0)):=⟨_,rfl⟩
 have hP:Own w [(x,92,aP 0 0 0 false 0 0 none 0 0)] W:=by rw[hW];exact (fu.of h2 rfl).put [.int .i64 0,.int .i64 0,.int .i64 0,.bool false,.int .i64 0,.int .i64 0,.slice none 0 0,.slice none 0 0] rfl
 have H2:=zh hP
 have HW:=zh hW
 have z0_0:=h2.cell 0 0 rfl rfl;have z0_1:=h2.cell 0 1 rfl rfl;have z0_2:=h2.cell 0 2 rfl rfl;have z0_3:=h2.cell 0 3 rfl rfl;have z0_4:=h2.cell 0 4 rfl rfl;have z0_5:=h2.cell 0 5 rfl rfl;have z0_6:=h2.cell 0 6 rfl rfl;have z0_7:=h2.cell 0 7 rfl rfl
 have zf0:=h2.free 0 rfl
 clear h1 h2 hb2 hW hP
 go_wp2_with (rw[←HW.out])
 clear z0_0 z0_1 z0_2 z0_3 z0_4 z0_5 z0_6 z0_7 zf0
 have h3:=H2.out
 have z0_0:=h3.cell 0 0 rfl rfl;have z0_1:=h3.cell 0 1 rfl rfl;have z0_2:=h3.cell 0 2 rfl rfl;have z0_3:=h3.cell 0 3 rfl rfl;have z0_4:=h3.cell 0 4 rfl rfl;have z0_5:=h3.cell 0 5 rfl rfl;have z0_6:=h3.cell 0 6 rfl rfl;have z0_7:=h3.cell 0 7 rfl rfl
 simp only[Int.ofNat_eq_natCast,Int.natCast_zero] at z0_0 z0_1 z0_2 z0_3 z0_4 z0_5 z0_6 z0_7
 refine bodyPost_ret (v:=.tuple #[.agg (aP 0 0 0 false 0 0 none 0 0),.bool false,.int .i64 0]) (by unfold aP;simp[results,Tryz.results57,go_sem,z0_0,z0_1,z0_2,z0_3,z0_4,z0_5,z0_6,z0_7]) rfl ?_
 exact⟨rfl,H2.out.bel⟩
end
section
open Go.RowKit Go.Maps
theorem DStep.locals{w w1 w2:World}{d M x:Nat}{p p1:ByteArray→Option FS}(h:DStep w w1 d M p p1)(hk:Keeps (fun q=>q=x) w1 w2)(hx:w.heap.size≤x): DStep w w2 d M p p1:=
 ⟨h.keep.trans hk (fun q hq e=>by omega),h.far⟩
structure uj(w wx:World)(d M:Nat)(p p':ByteArray→Option FS)(room T G:Nat)(f:ByteArray→Option (List Nat))(x2 x7 x8:Nat)(A:Option Addr)(n c:Nat)(bs:List Nat): Prop where
 dt:bq wx d M p' room T G
 st:DStep w wx d M p p'
 fe:fb p'=f
 sv:QH wx d x2 x7 x8 A n c bs
 nf:∀ q,(q=x2∨q=x7∨q=x8∨(Value.slice A n c).ownBlock=some q)→¬ aL d M p' q
theorem uj.op{w wx wy:World}{d M:Nat}{p p' p2:ByteArray→Option FS}{room T G T2 G2:Nat}{f f2:ByteArray→Option (List Nat)}{x2 x7 x8:Nat}{A:Option Addr}{n c:Nat}{bs:List Nat}(h:uj w wx d M p p' room T G f x2 x7 x8 A n c bs)(hd:bq wy d M p2 room T2 G2)(hs:DStep wx wy d M p' p2)(hf:fb p2=f2): uj w wy d M p p2 room T2 G2 f2 x2 x7 x8 A n c bs:=
 ⟨hd,h.st.trans hs,hf,h.sv.keep hs.keep (h.nf _ (.inl rfl)) (h.nf _ (.inr (.inl rfl))) (h.nf _ (.inr (.inr (.inl rfl)))) (fun g hg=>h.nf g (.inr (.inr (.inr hg)))),fun q hq=>hs.rO (by
  rcases hq with rfl | rfl | rfl | hq
  ·exact h.sv.b2.lt
  ·exact h.sv.b7.lt
  ·exact h.sv.b8.lt
  ·exact (h.sv.row.lt q hq).2) (h.nf q hq)⟩
theorem uj.x8{w wx wy:World}{d M:Nat}{p p':ByteArray→Option FS}{room T G:Nat}{f:ByteArray→Option (List Nat)}{x2 x7 x8:Nat}{A:Option Addr}{n c:Nat}{bs:List Nat}(h:uj w wx d M p p' room T G f x2 x7 x8 A n c bs)(hk:Keeps (fun q=>q=x8) wx wy)(hb:au wy x8 24 #[.int .i64 0])(hx:w.heap.size≤x8): uj w wy d M p p' room T G f x2 x7 x8 A n c bs:=
 ⟨h.dt.keep hk (fun q hq e=>h.nf q (.inr (.inr (.inl e))) hq),h.st.locals hk hx,h.fe,
  ⟨h.sv.b2.keeps hk (h.sv.b2.ne h.sv.b8 (by decide)),h.sv.b7.keeps hk (h.sv.b7.ne h.sv.b8 (by decide)),hb,aF h.sv.row hk (fun g hg e=>own_ne h.sv.row h.sv.b8 (by decide) (by rw[hg,e]))⟩,h.nf⟩
theorem uj.sl{w wx:World}{d M:Nat}{p p':ByteArray→Option FS}{room T G:Nat}{f:ByteArray→Option (List Nat)}{x2 x7 x8:Nat}{A:Option Addr}{n c:Nat}{bs:List Nat}(h:uj w wx d M p p' room T G f x2 x7 x8 A n c bs)(hl:bs.length=n): Sl wx (fun q=>q < wx.heap.size∧¬ aL d M p' q) A n (aD bs):=by
 have hr:=h.sv.row
 subst hl
 exact(F.rD rfl hr).mono (fun q hq=>⟨(h.sv.row.lt q hq).2,h.nf q (.inr (.inr (.inr hq)))⟩)
def Pw(w:World)(d M:Nat)(p:ByteArray→Option FS)(room T G K:Nat)(e:Ending)(w':World): Prop:=
 e=.returned (.int .i64 0)∧∃ (p':ByteArray→Option FS) (bs:List Nat),bq w' d M p' room (T+(100+53*K)) (G+3)∧DStep w w' d M p p'∧fb p'=aS (fb p) rQ bs
theorem JX(f:ByteArray→Option (List Nat))(bs:List Nat)(h:f iP=none): aS (gq (aS f iP ((f iP).getD [] ++ bs)) iP) rQ bs=aS f rQ bs:=by
 funext y
 unfold aS gq
 by_cases e:y=rQ
 ·rw[if_pos e,if_pos e]
 ·rw[if_neg e,if_neg e]
  by_cases e2:y=iP
  ·rw[if_pos e2,e2,h]
  ·rw[if_neg e2];show (if y=iP then _ else f y)=f y;rw[if_neg e2]
theorem MO(w:World)(d M:Nat)(p:ByteArray→Option FS)(room T G:Nat)(N R q:Nat)(s:Bool)(la lg:Int)(A:Option Addr)(Kf cp:Nat)(pl:Nat→List Pt)(hD:bq w d M p room T G)(hN:fb p iP=none)(hn:Dt N R q s la lg Kf cp)(hfl:nK w (fun q=>q < w.heap.size) A Kf pl)(hpl:nu pl Kf)(hv:V.cu w)(hT:T+(100+53*Kf)≤1048576)(hr1:1048576≤room)(hr:room≤1073741824)(hG:G+2 < 512):
  Calls Tryz.prog 157 #[.pointer (some ⟨d,0,none⟩),.agg (aP N R q s la lg A Kf cp)] w (Pw w d M p room T G Kf):=by
 obtain⟨x,hx⟩:∃ x,x=w.heap.size:=⟨_,rfl⟩
 have o0:=Own.oJ w hx 23 #[.pointer (some ⟨d,0,none⟩)] 92 (aP N R q s la lg A Kf cp)
 have HD:=zh (zN hD (zN hN (zN hn (zN hfl (zN hpl (zN hv (zN o0 hx)))))))
 have u0:((w.alloc (.cells #[.pointer (some ⟨d,0,none⟩)] 23)).alloc (.cells (aP N R q s la lg A Kf cp) 92)).cell? ⟨x,0,none⟩=some (.pointer (some ⟨d,0,none⟩)):=o0.cell 0 0 rfl rfl
 clear hD hN hn hfl hpl hv o0
 unfold aP at u0 ⊢
 go_enter Tryz.func157,Tryz.ntmps157
 go_wp2_with fail
 rw[←hx]
 clear hx u0
 refine bC (Own w [(x,23,#[.pointer (some ⟨d,0,none⟩)]),(x+1,92,aP N R q s la lg A Kf cp)]) HD.out.2.2.2.2.2.2.1 ?_
 intro w1 h1
 refine(jv w1 d M iP p room T G (HD.out.1.call h1.bel) HD.out.2.1 (by decide)).mono ?_
 rintro e w2 ⟨rfl,hb2⟩
 have h2:=h1.call hb2
 have H2:=zh h2
 have z0_0:=h2.cell 0 0 rfl rfl;have z1_0:=h2.cell 1 0 rfl rfl;have z1_1:=h2.cell 1 1 rfl rfl;have z1_2:=h2.cell 1 2 rfl rfl;have z1_3:=h2.cell 1 3 rfl rfl;have z1_4:=h2.cell 1 4 rfl rfl;have z1_5:=h2.cell 1 5 rfl rfl;have z1_6:=h2.cell 1 6 rfl rfl;have z1_7:=h2.cell 1 7 rfl rfl
 clear h1 h2 hb2
 go_wp2_with fail
 clear z0_0 z1_0 z1_1 z1_2 z1_3 z1_4 z1_5 z1_6 z1_7
 have hby:=xL w2 N R q s la lg A Kf cp pl HD.out.2.2.1 (HD.out.2.2.2.1.later H2.out.bel) HD.out.2.2.2.2.1 (HD.out.2.2.2.2.2.1.below H2.out.bel)
 unfold aP at hby
 refine hby.mono ?_
 clear hby
 rintro e w3 ⟨A3,c3,bs,rfl,hl3,hr3,hb3⟩
 obtain⟨n3,hn3⟩:∃ n,n=bs.length:=⟨_,rfl⟩
 rw[←hn3] at hl3 hr3 ⊢
 have H3:=zh (zN hr3 (zN (H2.out.call hb3) (zN hn3 (aU hr3 H2.out.size))))
 clear hr3 hb3 hn3
 go_upto_region 5 with (fail)
 obtain⟨x7,hx7⟩:∃ x,x=w3.heap.size:=⟨_,rfl⟩
 have o4:=(H3.out.2.1.alloc hx7 72 #[.slice A3 n3 c3]).alloc (g:=x7+1) (by rw[hx7];simp) 24 #[.int .i64 0]
 have al:Below w3.heap.size w3 ((w3.alloc (.cells #[.slice A3 n3 c3] 72)).alloc (.cells #[.int .i64 0] 24)):=((Below.refl _ _).alloc (Nat.le_refl _) _).alloc (by simp) _
 refine aH (fun wx=>uj w wx d M p p room T G (fb p) x x7 (x7+1) A3 n3 c3 bs) ⟨HD.out.1.call o4.bel,DStep.of_below o4.bel,rfl,⟨o4.get 0 rfl,o4.get 2 rfl,o4.get 3 rfl,V.bH (aU H3.out.1 (Nat.zero_le _)) al⟩,fun q hq=>HD.out.1.fresh (by
  rcases hq with rfl | rfl | rfl | hq
  ·exact o4.geq 0 rfl
  ·exact o4.geq 2 rfl
  ·exact o4.geq 3 rfl
  ·exact (H3.out.2.2.2.lt q hq).1)⟩ ?_
 intro w4 h4
 rw[←hx7]
 have hx8:w.heap.size≤x7+1:=o4.geq 3 rfl
 clear o4 al hx7
 have H4:=zh h4
 have u8:w4.cell? ⟨x7+1,0,none⟩=some (.int .i64 0):=h4.sv.b8.cell 0
 clear h4
 go_wp2_with fail
 clear u8
 have hc4:=yc w4 (x7+1) 237 #[.pointer (some ⟨x,0,none⟩),.pointer (some ⟨x7,0,none⟩)] (fun wx=>∃ p2,uj w wx d M p p2 room (T+n3) (G+1) (aS (fb p) iP ((fb p iP).getD [] ++ bs)) x x7 (x7+1) A3 n3 c3 bs) H4.out.sv.b8 (fun _=>by kernel_rfl)
  ((I9 w4 d M p room T G x x7 n3 c3 A3 bs (H4.out.sv.b2.cell 0) (H4.out.sv.b7.cell 0) H4.out.dt H3.out.2.2.1.symm (H4.out.sl H3.out.2.2.1.symm) (by omega) hr1 hr (by omega)).mono (by
   rintro e wx ⟨rfl,p2,hd2,hs2,hf2⟩
   exact⟨rfl,p2,H4.out.op hd2 hs2 hf2⟩)) (fun wx hx=>by obtain ⟨p2,h⟩:=hx;exact h.sv.b8)
 refine hc4.mono ?_
 clear hc4
 rintro e w5 ⟨rfl,wx,⟨p2,hx2⟩,hk,hb⟩
 have H5:=zh (hx2.x8 hk hb hx8)
 clear hx2 hk hb
 go_wp2_with fail
 have hf5:fb p2 iP=some ((fb p iP).getD [] ++ bs):=by rw[H5.out.fe];exact gQ _ _ _
 have hc5:=yc w5 (x7+1) 238 #[.pointer (some ⟨x,0,none⟩)] (fun wx=>∃ p3,uj w wx d M p p3 room (T+n3) (G+2) (aS (fb p) iP ((fb p iP).getD [] ++ bs)) x x7 (x7+1) A3 n3 c3 bs) H5.out.sv.b8 (fun _=>by kernel_rfl)
  ((Kj w5 d M p2 room (T+n3) (G+1) x _ (H5.out.sv.b2.cell 0) H5.out.dt hf5 (by omega) (by omega)).mono (by
   rintro e wx ⟨rfl,p3,hd2,hs2,hf2⟩
   exact⟨rfl,p3,H5.out.op hd2 hs2 (hf2.trans H5.out.fe)⟩)) (fun wx hx=>by obtain ⟨p2,h⟩:=hx;exact h.sv.b8)
 refine hc5.mono ?_
 clear hc5
 rintro e w6 ⟨rfl,wx,⟨p3,hx2⟩,hk,hb⟩
 have H6:=zh (hx2.x8 hk hb hx8)
 clear hx2 hk hb hf5
 go_wp2_with fail
 have hf6:fb p3 iP=some ((fb p iP).getD [] ++ bs):=by rw[H6.out.fe];exact gQ _ _ _
 have hc6:=yc w6 (x7+1) 239 #[.pointer (some ⟨x,0,none⟩)] (fun wx=>∃ p4,uj w wx d M p p4 room (T+n3) (G+3) (aS (fb p) rQ bs) x x7 (x7+1) A3 n3 c3 bs) H6.out.sv.b8 (fun _=>by kernel_rfl)
  ((Kq w6 d M p3 room (T+n3) (G+2) x _ (H6.out.sv.b2.cell 0) H6.out.dt hf6 (by omega) (by omega)).mono (by
   rintro e wx ⟨rfl,p4,hd2,hs2,hf2⟩
   refine⟨rfl,p4,H6.out.op hd2 hs2 (hf2.trans ?_)⟩
   have e2:=JX (fb p) bs HD.out.2.1
   rw[H6.out.fe]
   rw[HD.out.2.1] at e2 ⊢
   exact e2)) (fun wx hx=>by obtain ⟨p2,h⟩:=hx;exact h.sv.b8)
 refine hc6.mono ?_
 clear hc6
 rintro e w7 ⟨rfl,wx,⟨p4,hx2⟩,hk,hb⟩
 have h7:=hx2.x8 hk hb hx8
 have H7:=zh h7
 have u8:w7.cell? ⟨x7+1,0,none⟩=some (.int .i64 0):=h7.sv.b8.cell 0
 clear hx2 hk hb hf6 h7
 go_wp2_with fail
 go_ret
 exact⟨rfl,p4,bs,H7.out.dt.more (by omega) (Nat.le_refl _),H7.out.st,H7.out.fe⟩
end
section
open Go.RowKit
theorem J8(w:World): (Op.unary .not (.bool true)).run Tryz.prog w=.ok (.bool false) w:=by kernel_rfl
theorem dw{w w1:World}{a:Addr}{v:Value}(hb:Below w.heap.size w w1)(h:w.cell? a=some v): w1.cell? a=some v:=rF (dn hb none) h (by simp)
theorem FB(w:World)(xl xp:Nat)(A:Option Addr)(n c:Nat)(f:Nat→Pt)(t:Int)(i:Nat)(hi:i < n)(hsl:dO w (fun q=>q < w.heap.size) A n f)(hn:n≤1048576)(b1:w.cell? ⟨xl,0,none⟩=some (.slice A n c))(b2:w.cell? ⟨xp,0,none⟩=some (.int .i64 t))(hlt:(f i).t < t):
  Calls Tryz.prog 212 #[.int .i64 (i:Nat),.pointer (some ⟨xl,0,none⟩),.pointer (some ⟨xp,0,none⟩)] w fun e w'=>e=.returned (.bool false)∧Below w.heap.size w w':=by
 obtain⟨bb,off,rfl,-,-⟩:=id hsl (by omega)
 have d1:decide (t≤(f i).t)=false:=by simp;omega
 have e2:(i:Int) < (n:Int):=by omega
 have HD:=zh (zN hsl (zN b1 b2))
 clear hsl b1 b2 hlt
 go_enter Tryz.func212,Tryz.ntmps212
 go_wp2_with fail
 have hS:Below w.heap.size w w.drew:=(Below.refl _ _).drew
 have hS:(Below w.heap.size w) (w.drew):=hS
 refine av (Below w.heap.size w) (by kernel_rfl) hS ?_
 refine zB [0,1,2,3,4,5,6,7,8] ?_
 iterate 9 (refine zV ?_ ?_ hS ?_;rotate_left;(intro w' hSw;have u1:=dw hSw HD.out.2.1;have u2:=dw hSw HD.out.2.2;have u3:=(lN (HD.out.1.below hSw) hi).1;go_simp<;>with_reducible rfl);try simp only[zP])
 refine zE ?_
 refine zD ?_
 try simp only[zP]
 have HS:=zh hS
 clear hS
 go_wp2_with fail
 go_ret
 exact⟨rfl,HS.out⟩
def Q5(w:World)(l:List Pt)(e:Ending)(w':World): Prop:=∃ A c,e=.returned (.tuple #[.slice A l.length c,.int .i64 0])∧aX w' w.heap.size (.slice A l.length c) l∧Below w.heap.size w w'
theorem FZ(w:World)(A:Option Addr)(n c:Nat)(l:List Pt)(p:Pt)(hl:l.length=n)(hsl:dO w (fun q=>q < w.heap.size) A n (fun j=>l.getD j ⟨0,0,0⟩))(hn:n≤1000)(hnc:n≤c)(hc63:c≤9223372036854775807)(hrise:∀ j,j+1 < n→(l.getD j ⟨0,0,0⟩).t < (l.getD (j+1) ⟨0,0,0⟩).t)(hlt:∀ j,j < n→(l.getD j ⟨0,0,0⟩).t < p.t):
  Calls Tryz.prog 138 #[.slice A n c,.agg #[.int .i64 p.t,.int .i64 p.v,.int .i64 p.s]] w (Q5 w (l ++ [p])):=by
 have nt:=J8
 obtain⟨x,hx⟩:∃ x,x=w.heap.size:=⟨_,rfl⟩
 have o0:=Own.oJ w hx 186 #[.slice A n c] 149 #[.int .i64 p.t,.int .i64 p.v,.int .i64 p.s]
 have HD:=zh (zN hl (zN hsl (zN hrise (zN hlt (zN hx o0)))))
 clear hl hsl hrise hlt o0
 go_enter Tryz.func138,Tryz.ntmps138
 go_wp2_with fail
 rw[←hx]
 clear hx
 refine bC (Own w [(x,186,#[.slice A n c]),(x+1,149,#[.int .i64 p.t,.int .i64 p.v,.int .i64 p.s])]) HD.out.2.2.2.2.2 ?_
 intro w1 h1
 have H1:=zh h1
 clear h1
 refine(wX w1 A n c _ ((HD.out.2.1.below H1.out.bel).mono (fun q hq=>Nat.lt_of_lt_of_le hq H1.out.bel.size)) (by omega) HD.out.2.2.1).mono ?_
 rintro e w2 ⟨rfl,hb2⟩
 have H2:=zh (H1.out.call hb2)
 clear hb2
 have z0:=H2.out.cell 0 0 rfl rfl
 go_wp2_with fail
 refine(xg w2 n 212 #[.pointer (some ⟨x,0,none⟩),.pointer (some ⟨x+1,0,none⟩)] (by omega) (fun _ _=>by kernel_rfl) ?_).mono ?_
 ·intro w3 hb3 i hi
  have o3:=H2.out.call hb3
  exact FB w3 x (x+1) A n c _ p.t i hi ((HD.out.2.1.below o3.bel).mono (fun q hq=>Nat.lt_of_lt_of_le hq o3.bel.size)) (by omega) (o3.cell 0 0 rfl rfl) (o3.cell 1 0 rfl rfl) (HD.out.2.2.2.1 i hi)
 rintro e w3 ⟨rfl,hb3⟩
 have H3:=zh (H2.out.call hb3)
 clear hb3 z0
 have z0:=(H3.out.get 0 rfl).alloc (.cells #[] 149) |>.cell 0
 have hbs:=H3.out.bel.size
 go_wp2_with (at_builtin;refine wQ (base:=w.heap.size) (n:=n) (l:=[]) (l2:=l) (D:=fun q=>q < w3.heap.size) rfl (.tmp 15) (.tmp 18) rfl rfl rfl ?hown ?hl2 ?hr ?h63 ?hbase ?_)
 case hown=>exact World.ownsRow_made w3 #[] 0 hbs (by unfold maxLen;omega) rfl
 case hl2=>exact HD.out.1
 case hr=>exact ((HD.out.2.1.below (H3.out.bel.alloc hbs (.cells #[] 149))).mono (fun q hq=>Nat.lt_of_lt_of_le hq hbs))
 case h63=>simp;omega
 case hbase=>simp;omega
 intro v4 w4 hr4 hg4 hx4
 have o4:=(H3.out.call ((Below.refl w3.heap.size w3).alloc (Nat.le_refl _) (.cells #[] 149))).grown hg4 (fun k hk=>by
  simp[Value.ownBlock] at hk
  subst hk
  exact⟨hbs,fun b hb=>Nat.ne_of_lt (H3.out.lt b hb)⟩)
 have hlo:∀ g,v4.ownBlock=some g→w3.heap.size≤g:=fun g hg=>by
  rcases hx4 with h | h<;>rw[h] at hg<;>simp[Value.ownBlock] at hg<;>omega
 obtain⟨A4,c4,hv4,hc4⟩:=hr4.form
 rw[HD.out.1] at hv4 hc4
 subst hv4
 have hs34:w3.heap.size≤w4.heap.size:=by have:=hg4.size;simp at this;omega
 have H4:=zh (zN o4 (zN hr4 hlo))
 have hS:=o4.drew
 clear o4 hr4 hg4 hx4 hlo z0
 go_wp2_with fail
 have hS:(Own w [(x,186,#[.slice A n c]),(x+1,149,#[.int .i64 p.t,.int .i64 p.v,.int .i64 p.s])]) (w4.drew):=hS
 refine av (Own w [(x,186,#[.slice A n c]),(x+1,149,#[.int .i64 p.t,.int .i64 p.v,.int .i64 p.s])]) (by kernel_rfl) hS ?_
 refine zB [0,1,2,3,4] ?_
 iterate 5 (refine zV ?_ ?_ hS ?_;rotate_left;(intro w' hSw;have u0:=hSw.cell 0 0 rfl rfl;go_simp<;>with_reducible rfl);try simp only[zP])
 refine zE ?_
 refine zB [5,6,7,8,9,10,11,12] ?_
 iterate 8 (refine zW hS ?_;try simp only[zP])
 refine zE ?_
 refine zT 13 ?_ ?_ hS ?_
 rotate_left
 ·(intro w' hSw;go_simp<;>with_reducible rfl)
 try simp only[zP]
 refine zD ?_
 try simp only[zP]
 clear hS
 go_wp2_with fail
 refine aH (fun wx=>Own w [(x,186,#[.slice A n c]),(x+1,149,#[.int .i64 p.t,.int .i64 p.v,.int .i64 p.s])] wx∧aX wx w.heap.size (.slice A4 n c4) l∧w4.heap.size≤wx.heap.size) ⟨H4.out.1.drew,H4.out.2.1.below (Below.refl _ _).drew,Nat.le_refl _⟩ ?_
 rintro w5 ⟨o5,r5,s5⟩
 have hS:=o5.drew
 have H5:=zh (zN o5 (zN r5 s5))
 clear o5 r5 s5
 have hS:(Own w [(x,186,#[.slice A n c]),(x+1,149,#[.int .i64 p.t,.int .i64 p.v,.int .i64 p.s])]) (w5.drew):=hS
 refine av (Own w [(x,186,#[.slice A n c]),(x+1,149,#[.int .i64 p.t,.int .i64 p.v,.int .i64 p.s])]) (by kernel_rfl) hS ?_
 refine zB [0,1,4,5,6] ?_
 iterate 5 (refine zV ?_ ?_ hS ?_;rotate_left;(intro w' hSw;have u0:=hSw.cell 0 0 rfl rfl;have u1:=hSw.cell 1 0 rfl rfl;have u2:=hSw.cell 1 1 rfl rfl;have u3:=hSw.cell 1 2 rfl rfl;go_simp<;>with_reducible rfl);try simp only[zP])
 refine zE ?_
 obtain⟨A',hA'⟩:∃ A',A'=(if c=n then A else Option.map (fun x=>x.add (n*3)) A):=⟨_,rfl⟩
 rw[←hA']
 clear hA'
 have hb5:=H5.out.1.bel.size
 have a5:Below w5.heap.size w5 (w5.alloc (.cells #[.int .i64 p.t,.int .i64 p.v,.int .i64 p.s] 149)).drew:=((Below.refl _ _).alloc (Nat.le_refl _) _).drew
 obtain⟨v6,w6,hrun6,r6,g6,x6⟩:=uz (w:=(w5.alloc (.cells #[.int .i64 p.t,.int .i64 p.v,.int .i64 p.s] 149)).drew) (base:=w.heap.size) (g:=w5.heap.size) (v:=.slice A4 n c4) (l:=l) (p:=p) (c:=1) (ty:=186) (H5.out.2.1.below a5) (au.fresh w5 _ _).drew (by have:=HD.out.1;omega) (Nat.le_trans hb5 a5.size)
 have o6:=(H5.out.1.call a5).grown g6 (fun k hk=>by
  have h1:=H4.out.2.2 k hk
  exact⟨Nat.le_trans hbs h1,fun b hb=>Nat.ne_of_lt (Nat.lt_of_lt_of_le (H3.out.lt b hb) h1)⟩)
 obtain⟨v7,w7,hrun7,r7,g7,x7⟩:=nR (w:=w6) (base:=w.heap.size) (n:=0) (A:=A') (c:=c-n) (v:=v6) (l:=l ++ [p]) (l2:=[]) (D:=fun _=>True) (ty:=186) r6 rfl (dO.nil _ _ _ _) (by have:=HD.out.1;simp;omega) o6.bel.size
 have o7:=o6.grown g7 (fun k hk=>by
  have h1:w3.heap.size≤k:=by
   rcases x6 with h | h
   ·exact H4.out.2.2 k (by rw[←h];exact hk)
   ·rw[h] at hk
    injection hk with hk
    have:=H5.out.2.2
    have:=g6.size
    have h4:w3.heap.size≤w4.heap.size:=by
     have:=H4.out.1.bel.size
     exact hs34
    have:(w5.alloc (.cells #[.int .i64 p.t,.int .i64 p.v,.int .i64 p.s] 149)).drew.heap.size=w5.heap.size+1:=by simp
    omega
  exact⟨Nat.le_trans hbs h1,fun b hb=>Nat.ne_of_lt (Nat.lt_of_lt_of_le (H3.out.lt b hb) h1)⟩)
 obtain⟨A7,c7,hv7,hc7⟩:=r7.form
 rw[List.append_nil] at r7 hv7 hc7
 have HL:=zh (show (l ++ [p]).length=n+1 by rw[List.length_append,HD.out.1];rfl)
 rw[HL.out] at hv7
 subst hv7
 have H7:=zh (zN r7 (zN o7 o6))
 clear r6 g6 x6 o6 r7 g7 x7 o7 a5 hc7
 refine zC 2 fun K HK=>?_
 go_simp
 go_wp2_with fail
 refine HK.out.zt (Own w [(x,186,#[.slice A n c]),(x+1,149,#[.int .i64 p.t,.int .i64 p.v,.int .i64 p.s])]) (fun _ h=>h) (H5.out.1.call (((Below.refl _ _).alloc (Nat.le_refl _) _).drew)) ?_
 clear HK hS
 intro hS
 try simp only[zP]
 refine zC 3 fun K HK=>?_
 refine dB rfl (.tmp 48) (.tmp 50) rfl rfl rfl hrun6 ?_
 refine HK.out.zt (Own w [(x,186,#[.slice A n c]),(x+1,149,#[.int .i64 p.t,.int .i64 p.v,.int .i64 p.s])]) (fun _ h=>h) (H7.out.2.2) ?_
 clear HK hS
 intro hS
 try simp only[zP]
 refine zC 7 fun K HK=>?_
 refine dB rfl (.tmp 51) (.tmp 54) rfl rfl rfl hrun7 ?_
 refine HK.out.zt (Own w [(x,186,#[.slice A n c]),(x+1,149,#[.int .i64 p.t,.int .i64 p.v,.int .i64 p.s])]) (fun _ h=>h) (H7.out.2.1) ?_
 clear HK hS
 intro hS
 try simp only[zP]
 refine zB [8,9] ?_
 iterate 2 (refine zV ?_ ?_ hS ?_;rotate_left;(intro w' hSw;go_simp<;>with_reducible rfl);try simp only[zP])
 refine zE ?_
 refine zD ?_
 try simp only[zP]
 clear hrun6 hrun7 hS
 go_wp2_with fail
 go_ret2
 refine⟨A7,c7,by rw[HL.out];rfl,?_,H7.out.2.1.bel⟩
 rw[HL.out]
 exact H7.out.1
end
section
open Go.RowKit Go.Maps
def bD: ByteArray:=⟨#[97]⟩
theorem OM(w:World): (zeroValue 186).run Tryz.prog w=.ok (.slice none 0 0) w:=by kernel_rfl
theorem Lb{w:World}{M N c:Nat}{D:DataW Value}{s:ByteArray→Option Value}(t e:TypeId)(ht:Tryz.prog.underlying t=some (.map 9 e))(z:Value)(hz:∀ w:World,(zeroValue e).run Tryz.prog w=.ok z w)(hown:w.ownsMap Tryz.prog 9 eP M N D)(hF:iE D s c)(k:ByteArray)(hk:k.size≤maxLen):
  (Instr.lookup t (.map (some M)) (.string k) false).run Tryz.prog w=.ok ((s k).getD z) w:=by
 obtain⟨v,ps,hrun,hv⟩:=World.ownsMap.lookup hown law ht (hz w) (zd:=.held z) (zp:=[]) rfl (kD hk)
 have hv2:v=(s k).getD z:=by
  unfold eP at hv
  cases hs:s k with
  | none=>
   rw[hF.none hs] at hv
   simp only[Option.some.injEq,Prod.mk.injEq,DataW.held.injEq] at hv
   exact hv.1
  | some u=>
   rw[hF.val k u hs] at hv
   simp only[Option.some.injEq,Prod.mk.injEq,DataW.held.injEq] at hv
   exact hv.1
 rw[hv2] at hrun
 exact hrun
structure eB(w:World)(t Mt:Nat)(A:Option Addr)(cp:Nat)(L:List Pt)(n most U:Nat): Prop where
 blk:au w t 117 #[.map (some Mt),.int .i64 (n:Nat),.int .i64 (most:Nat)]
 map:∃ s N D,w.ownsMap Tryz.prog 9 eP Mt N D∧N≤U∧iE D s U∧(∀ x,x≠bD→s x=none)∧(s bD).getD (.slice none 0 0)=.slice A n cp∧(0 < n→s bD=some (.slice A n cp))
 row:aX w 0 (.slice A n cp) L
 len:L.length=n
def dM(t Mt:Nat)(A:Option Addr)(q:Nat): Prop:=q=t∨q=Mt∨(A.map (·.block))=some q
theorem lZ(A:Option Addr)(n c:Nat): (Value.slice A n c).ownBlock=A.map (·.block):=by cases A<;>rfl
theorem eB.keep{S:Nat→Prop}{w w':World}{t Mt:Nat}{A:Option Addr}{cp:Nat}{L:List Pt}{n most U:Nat}(h:eB w t Mt A cp L n most U)(hk:Keeps S w w')(hS:∀ q,dM t Mt A q→¬ S q): eB w' t Mt A cp L n most U:=by
 refine⟨h.blk.keeps hk (hS _ (.inl rfl)),?_,h.row.keeps hk (fun g hg=>hS _ (.inr (.inr (by rw[←lZ A n cp];exact hg)))),h.len⟩
 obtain⟨s,N,D,h1,h2⟩:=h.map
 have hM:w'.heap[Mt]? = w.heap[Mt]?:=hk.block Mt (World.ownsMap.lt h1) (hS _ (.inr (.inl rfl)))
 obtain⟨es,clock,e1,e2⟩:=h1
 exact⟨s,N,D,⟨es,clock,by rw[hM];exact e1,e2⟩,h2⟩
theorem eB.call{w w':World}{t Mt:Nat}{A:Option Addr}{cp:Nat}{L:List Pt}{n most U:Nat}(h:eB w t Mt A cp L n most U)(hb:Below w.heap.size w w'): eB w' t Mt A cp L n most U:=
 h.keep (S:=fun _=>False) (Keeps.of_below hb) (fun _ _ h=>h)
theorem eB.dH{w:World}{t Mt:Nat}{A:Option Addr}{cp:Nat}{L:List Pt}{n most U:Nat}(h:eB w t Mt A cp L n most U){q:Nat}(hq:dM t Mt A q): q < w.heap.size:=by
 rcases hq with rfl | rfl | hq
 ·exact h.blk.lt
 ·obtain ⟨s,N,D,h1,-⟩:=h.map
  exact World.ownsMap.lt h1
 ·exact (h.row.fC q (by rw[lZ];exact hq)).2
theorem eB.look{w:World}{t Mt:Nat}{A:Option Addr}{cp:Nat}{L:List Pt}{n most U:Nat}(h:eB w t Mt A cp L n most U): (Instr.lookup 115 (.map (some Mt)) (.string bD) false).run Tryz.prog w=.ok (.slice A n cp) w:=by
 obtain⟨s,N,D,h1,h2,h3,h4,h5,-⟩:=h.map
 have:=Lb 115 186 Tryz.underlying115 (.slice none 0 0) OM h1 h3 bD (by decide)
 rw[h5] at this
 exact this
theorem eB.cap{w:World}{t Mt:Nat}{A:Option Addr}{cp:Nat}{L:List Pt}{n most U:Nat}(h:eB w t Mt A cp L n most U): n≤cp∧cp≤9223372036854775807:=V.iC h.row
theorem eB.sl{w:World}{t Mt:Nat}{A:Option Addr}{cp:Nat}{L:List Pt}{n most U:Nat}(h:eB w t Mt A cp L n most U): dO w (fun q=>q < w.heap.size∧dM t Mt A q) A n (fun j=>L.getD j ⟨0,0,0⟩):=by
 have hr:=h.row
 have hlt:=h.row.fC
 rw[←h.len] at hr hlt ⊢
 exact(hr.sl).mono (fun q hq=>⟨(hlt q hq.2).2,.inr (.inr (by rw[←lZ A L.length cp];exact hq.2))⟩)
theorem BQ(a:Addr)(w:World): (binOp .eql 77 (.pointer (some a)) (.pointer none)).run Tryz.prog w=.ok (.bool false) w:=by kernel_rfl
theorem Kt(M:Nat)(w:World): (binOp .eql 115 (.map (some M)) (.map none)).run Tryz.prog w=.ok (.bool false) w:=by kernel_rfl
theorem Jz(w:World): (Op.unary .not (.bool true)).run Tryz.prog w=.ok (.bool false) w:=by kernel_rfl
theorem nY(w:World): (Op.unary .not (.bool false)).run Tryz.prog w=.ok (.bool true) w:=by kernel_rfl
theorem kZ(w:World)(t M:Nat)(hc:w.cell? ⟨t,0,none⟩=some (.map (some M))): Calls Tryz.prog 85 #[.pointer (some ⟨t,0,none⟩)] w fun e w'=>e=.returned (.bool false)∧Below w.heap.size w w':=by
 have q2:=fun y=>BQ ⟨y,0,none⟩
 have q3:=Kt
 go_enter Tryz.func85,Tryz.ntmps85
 go_wp2_with fail
 go_ret
 exact⟨rfl,Below.refl _ _⟩
theorem Nk(w:World)(most:Nat)(h1:1≤most)(h2:most≤65536): Calls Tryz.prog 22 #[.int .i64 (most:Nat)] w fun e w'=>∃ t M,e=.returned (.tuple #[.pointer (some ⟨t,0,none⟩),.int .i64 0])∧w.heap.size≤M∧w.heap.size≤t∧eB w' t M none 0 [] 0 most 0∧Below w.heap.size w w':=by
 have hmm:=@run_makeMap Tryz.prog
 have d1:decide ((most:Int) < 1)=false:=by simp;omega
 have d2:decide ((65536:Int) < (most:Int))=false:=by simp;omega
 have d3:decide (most < 1)=false:=by simp;omega
 have d4:decide (65536 < most)=false:=by simp;omega
 go_enter Tryz.func22,Tryz.ntmps22
 go_wp2_with fail
 go_ret2
 refine⟨w.heap.size+1,w.heap.size,rfl,Nat.le_refl _,by omega,⟨?_,⟨fun _=>none,0,_,(World.ownsMap_made w Tryz.prog 9 eP).alloc _,Nat.le_refl _,iE.nil,fun _ _=>rfl,rfl,fun h=>absurd h (Nat.lt_irrefl _)⟩,aX.nil _ _,rfl⟩,((Below.refl _ _).alloc (Nat.le_refl _) _).alloc (by simp) _⟩
 have:=au.fresh (w.alloc (.map #[] 0)) 117 #[.map (some w.heap.size),.int .i64 0,.int .i64 (most:Nat)]
 rw[show (w.alloc (.map #[] 0)).heap.size=w.heap.size+1 by simp] at this
 exact this
theorem C8(w:World)(t Mt:Nat)(A:Option Addr)(cp:Nat)(L:List Pt)(n most U:Nat)(h:eB w t Mt A cp L n most U): Calls Tryz.prog 35 #[.pointer (some ⟨t,0,none⟩)] w fun e w'=>e=.returned (.int .i64 (n:Nat))∧Below w.heap.size w w':=by
 have HD:=zh h
 clear h
 go_enter Tryz.func35,Tryz.ntmps35
 go_wp2_with fail
 refine(kZ w t Mt (HD.out.blk.cell 0)).mono ?_
 rintro e w1 ⟨rfl,hb1⟩
 have u0:=(HD.out.call hb1).blk.cell 1
 have HB:=zh hb1
 clear hb1
 go_wp2_with fail
 go_ret
 exact⟨rfl,HB.out⟩
theorem LK(w:World)(xl xp:Nat)(A:Option Addr)(n c:Nat)(f:Nat→Pt)(t:Int)(i:Nat)(hi:i < n)(hsl:dO w (fun q=>q < w.heap.size) A n f)(hn:n≤1048576)(b1:w.cell? ⟨xl,0,none⟩=some (.slice A n c))(b2:w.cell? ⟨xp,0,none⟩=some (.int .i64 t))(hlt:(f i).t < t):
  Calls Tryz.prog 210 #[.int .i64 (i:Nat),.pointer (some ⟨xl,0,none⟩),.pointer (some ⟨xp,0,none⟩)] w fun e w'=>e=.returned (.bool false)∧Below w.heap.size w w':=by
 obtain⟨bb,off,rfl,-,-⟩:=id hsl (by omega)
 have d1:decide (t≤(f i).t)=false:=by simp;omega
 have e2:(i:Int) < (n:Int):=by omega
 have HD:=zh (zN hsl (zN b1 b2))
 clear hsl b1 b2 hlt
 go_enter Tryz.func210,Tryz.ntmps210
 go_wp2_with fail
 have hS:Below w.heap.size w w.drew:=(Below.refl _ _).drew
 have hS:(Below w.heap.size w) (w.drew):=hS
 refine av (Below w.heap.size w) (by kernel_rfl) hS ?_
 refine zB [0,1,2,3,4,5,6,7] ?_
 iterate 8 (refine zV ?_ ?_ hS ?_;rotate_left;(intro w' hSw;have u1:=dw hSw HD.out.2.1;have u2:=dw hSw HD.out.2.2;have u3:=(lN (HD.out.1.below hSw) hi).1;go_simp<;>with_reducible rfl);try simp only[zP])
 refine zE ?_
 refine zD ?_
 try simp only[zP]
 have HS:=zh hS
 clear hS
 go_wp2_with fail
 go_ret
 exact⟨rfl,HS.out⟩
theorem Fu(w:World)(t Mt:Nat)(A:Option Addr)(cp:Nat)(L:List Pt)(n most U:Nat)(tm:Int)(h:eB w t Mt A cp L n most U)(hn:n≤1000)(hlt:∀ j,j < n→(L.getD j ⟨0,0,0⟩).t < tm):
  Calls Tryz.prog 137 #[.pointer (some ⟨t,0,none⟩),.string bD,.int .i64 tm] w fun e w'=>e=.returned (.bool false)∧Below w.heap.size w w':=by
 obtain⟨x,hx⟩:∃ x,x=w.heap.size:=⟨_,rfl⟩
 have o0:=Own.oJ w hx 3 #[.int .i64 tm] 186 #[.slice A n cp]
 have a0:Below w.heap.size w (w.alloc (.cells #[.int .i64 tm] 3)):=(Below.refl _ _).alloc (Nat.le_refl _) _
 have u0:=(h.call a0).blk.cell 0
 have u1:=(h.call a0).look
 have HD:=zh (zN h (zN hlt (zN hx o0)))
 clear h hlt o0 a0
 go_enter Tryz.func137,Tryz.ntmps137
 go_wp2_with fail
 rw[←hx]
 clear hx u0 u1
 refine bC (Own w [(x,3,#[.int .i64 tm]),(x+1,186,#[.slice A n cp])]) HD.out.2.2.2 ?_
 intro w1 h1
 have H1:=zh h1
 clear h1
 refine(xg w1 n 210 #[.pointer (some ⟨x+1,0,none⟩),.pointer (some ⟨x,0,none⟩)] (by omega) (fun _ _=>by kernel_rfl) ?_).mono ?_
 ·intro w3 hb3 i hi
  have o3:=H1.out.call hb3
  exact LK w3 (x+1) x A n cp _ tm i hi (((HD.out.1.call o3.bel).sl).mono (fun q hq=>hq.1)) (by omega) (o3.cell 1 0 rfl rfl) (o3.cell 0 0 rfl rfl) (HD.out.2.1 i hi)
 rintro e w2 ⟨rfl,hb2⟩
 have H2:=zh (H1.out.call hb2)
 clear hb2
 go_wp2_with fail
 have hS:=H2.out.drew
 have hS:(Own w [(x,3,#[.int .i64 tm]),(x+1,186,#[.slice A n cp])]) (w2.drew):=hS
 refine av (Own w [(x,3,#[.int .i64 tm]),(x+1,186,#[.slice A n cp])]) (by kernel_rfl) hS ?_
 refine zB [0,1,2,3,4] ?_
 iterate 5 (refine zV ?_ ?_ hS ?_;rotate_left;(intro w' hSw;have u0:=hSw.cell 1 0 rfl rfl;go_simp<;>with_reducible rfl);try simp only[zP])
 refine zE ?_
 refine zB [5,6,7,8,9,10,11] ?_
 iterate 7 (refine zW hS ?_;try simp only[zP])
 refine zE ?_
 refine zB [12,13] ?_
 iterate 2 (refine zV ?_ ?_ hS ?_;rotate_left;(intro w' hSw;go_simp<;>with_reducible rfl);try simp only[zP])
 refine zE ?_
 refine zD ?_
 try simp only[zP]
 have HS:=zh hS
 clear hS
 go_wp2_with fail
 go_ret
 exact⟨rfl,HS.out.bel⟩
end
section
open Go.RowKit Go.Maps
theorem Fb: dI bD=true:=by kernel_rfl
structure Stp(w w':World)(F F':Nat→Prop): Prop where
 keep:Keeps F w w'
 far:∀ q,q < w.heap.size→F' q→F q
theorem Stp.trans{w w1 w2:World}{F F1 F2:Nat→Prop}(h:Stp w w1 F F1)(k:Stp w1 w2 F1 F2): Stp w w2 F F2:=
 ⟨h.keep.trans k.keep (fun q hq hf=>h.far q hq hf),fun q hq hf=>h.far q hq (k.far q (Nat.lt_of_lt_of_le hq h.keep.size) hf)⟩
theorem Stp.of_below{w w':World}(F:Nat→Prop)(h:Below w.heap.size w w'): Stp w w' F F:=⟨Keeps.of_below h,fun _ _ h=>h⟩
def Ku(L:List Pt): Prop:=∀ j,j+1 < L.length→(L.getD j ⟨0,0,0⟩).t < (L.getD (j+1) ⟨0,0,0⟩).t
def EJ(w:World)(t Mt:Nat)(A:Option Addr)(L:List Pt)(n most U:Nat)(p:Pt)(e:Ending)(w':World): Prop:=
 e=.returned (.int .i64 0)∧∃ A' cp',eB w' t Mt A' cp' (L ++ [p]) (n+1) most (U+1)∧Stp w w' (dM t Mt A) (dM t Mt A')
theorem eB.jB{w:World}{t Mt:Nat}{A:Option Addr}{cp:Nat}{L:List Pt}{n most U:Nat}(h:eB w t Mt A cp L n most U): ∀ q ty cs,au w q ty cs→q≠Mt:=by
 intro q ty cs hq e
 obtain⟨s,N,D,h1,-⟩:=h.map
 obtain⟨es,clock,e1,-⟩:=h1
 unfold au at hq
 rw[e,e1] at hq
 cases hq
theorem R6{w w6 w7 w8:World}{t Mt:Nat}{A A6:Option Addr}{cp c6:Nat}{L:List Pt}{n most U N:Nat}{p:Pt}{s:ByteArray→Option Value}{D:DataW Value}(h6:eB w6 t Mt A cp L n most U)(hb:Below w.heap.size w w6)(hrow:aX w6 w.heap.size (.slice A6 (n+1) c6) (L ++ [p]))(hN:N≤U)(hF:iE D s U)(hso:∀ x,x≠bD→s x=none)(hown:w7.ownsMap Tryz.prog 9 eP Mt (N+1) (D.put (bP bD) (.held (.slice A6 (n+1) c6))))(hm:w6.mapTurned w7 Mt)(hM:w6.ownsMap Tryz.prog 9 eP Mt N D)(hE:w8=w7.setCell ⟨t,1,none⟩ (.int .i64 ((n:Int)+1))): EJ w t Mt A L n most U p (.returned (.int .i64 0)) w8:=by
 have hg:=hm.grown
 have htM:=h6.jB _ _ _ h6.blk
 have hb7:=dK hg h6.blk (fun e=>htM (by injection e))
 have hrow7:aX w7 w.heap.size (.slice A6 (n+1) c6) (L ++ [p]):=hrow.kept hg (iU hM hrow)
 have hk7:Keeps (fun q=>q=Mt) w6 w7:=(Keeps.refl _ w6).grown hg (fun k hk _=>by injection hk with hk;exact hk.symm)
 have hk8:Keeps (fun q=>q=t) w7 w8:=by rw[hE];exact (Keeps.refl (fun q=>q=t) w7).setCell (fun _=>rfl) _
 have hb8:=hb7.set 1 (.int .i64 ((n:Int)+1))
 rw[←hE] at hb8
 refine⟨rfl,A6,c6,⟨hb8,⟨aS s bD (.slice A6 (n+1) c6),N+1,_,?_,by omega,hF.put bD _,fun x hx=>?_,?_,fun _=>gQ _ _ _⟩,?_,?_⟩,?_⟩
 ·have hlt:=World.ownsMap.lt hown
  obtain⟨es,clock,e1,e2⟩:=hown
  exact⟨es,clock,by rw[hk8.block Mt hlt (fun e=>htM e.symm)];exact e1,e2⟩
 ·rw[fP _ _ hx]
  exact hso x hx
 ·rw[gQ];rfl
 ·refine aX.keeps (w:=w7) (aU hrow7 (Nat.zero_le _)) hk8 (fun g hg' e=>?_)
  exact own_ne hrow7 hb7 (by decide) (by rw[hg',e])
 ·rw[List.length_append,h6.len];rfl
 ·refine ⟨((Keeps.of_below (S:=dM t Mt A) hb).trans' (hk7.mono (fun q _ e=>.inr (.inl e)))).trans' (hk8.mono (fun q _ e=>.inl e)),?_⟩
  rintro q hq (rfl | rfl | hq')
  ·exact .inl rfl
  ·exact .inr (.inl rfl)
  ·have:=(hrow.fC q (by rw[lZ];exact hq')).1
   omega
theorem La(w:World)(t Mt:Nat)(A:Option Addr)(cp:Nat)(L:List Pt)(n most U:Nat)(p:Pt)(h:eB w t Mt A cp L n most U)(hlt:∀ j,j < n→(L.getD j ⟨0,0,0⟩).t < p.t)(hrise:Ku L)(hnm:n < most)(hm:most≤1000)(hU:U < 1000000):
  Calls Tryz.prog 76 #[.pointer (some ⟨t,0,none⟩),.string bD,.agg #[.int .i64 p.t,.int .i64 p.v,.int .i64 p.s]] w (EJ w t Mt A L n most U p):=by
 have nt:=Jz
 have nf:=nY
 obtain⟨x,hx⟩:∃ x,x=w.heap.size:=⟨_,rfl⟩
 have o0:=Own.eX w hx 149 #[.int .i64 p.t,.int .i64 p.v,.int .i64 p.s]
 have HD:=zh (zN h (zN hlt (zN hrise (zN hx o0))))
 clear h hlt hrise o0
 go_enter Tryz.func76,Tryz.ntmps76
 go_wp2_with fail
 rw[←hx]
 clear hx
 refine bC (Own w [(x,149,#[.int .i64 p.t,.int .i64 p.v,.int .i64 p.s])]) HD.out.2.2.2.2 ?_
 intro w1 h1
 have H1:=zh h1
 clear h1
 refine(kZ w1 t Mt ((HD.out.1.call H1.out.bel).blk.cell 0)).mono ?_
 rintro e w2 ⟨rfl,hb2⟩
 have H2:=zh (H1.out.call hb2)
 clear hb2
 go_wp2_with fail
 refine(o9 bD (by decide) w2).mono ?_
 rw[Fb]
 rintro e w3 ⟨rfl,hb3⟩
 have H3:=zh (H2.out.call hb3)
 clear hb3
 have v0:=H3.out.cell 0 0 rfl rfl
 go_wp2_with fail
 refine(Fu w3 t Mt A cp L n most U p.t (HD.out.1.call H3.out.bel) (by omega) HD.out.2.1).mono ?_
 rintro e w4 ⟨rfl,hb4⟩
 have H4:=zh (H3.out.call hb4)
 clear hb4 v0
 go_wp2_with fail
 have d1:decide ((most:Int)≤(n:Int))=false:=by simp;omega
 have d2:decide (most≤n)=false:=by simp;omega
 have hS:=(HD.out.1.call H4.out.bel).blk.drew
 have hS:(fun wx=>au wx t 117 #[.map (some Mt),.int .i64 (n:Nat),.int .i64 (most:Nat)]) (w4.drew):=hS
 refine av (fun wx=>au wx t 117 #[.map (some Mt),.int .i64 (n:Nat),.int .i64 (most:Nat)]) (by kernel_rfl) hS ?_
 refine zB [0,1,2,3,4,5,6,7,8,9,10,11] ?_
 iterate 12 (refine zV ?_ ?_ hS ?_;rotate_left;(intro w' hSw;have u1:=hSw.cell 1;have u2:=hSw.cell 2;go_simp<;>with_reducible rfl);try simp only[zP])
 refine zE ?_
 refine zD ?_
 try simp only[zP]
 clear hS d1 d2
 go_wp2_with fail
 refine aH (Own w [(x,149,#[.int .i64 p.t,.int .i64 p.v,.int .i64 p.s])]) H4.out.drew ?_
 intro w5 h5
 have ht5:=HD.out.1.call h5.bel
 have hS:=zN (h5.get 0 rfl).drew ht5.blk.drew
 have H5:=zh (zN h5 ht5)
 clear h5 ht5
 have hS:(fun wx=>au wx x 149 #[.int .i64 p.t,.int .i64 p.v,.int .i64 p.s]∧au wx t 117 #[.map (some Mt),.int .i64 (n:Nat),.int .i64 (most:Nat)]) (w5.drew):=hS
 refine av (fun wx=>au wx x 149 #[.int .i64 p.t,.int .i64 p.v,.int .i64 p.s]∧au wx t 117 #[.map (some Mt),.int .i64 (n:Nat),.int .i64 (most:Nat)]) (by kernel_rfl) hS ?_
 refine zB [0,1,2,3,4,5,6,7,8,9,11] ?_
 iterate 11 (refine zV ?_ ?_ hS ?_;rotate_left;(intro w' hSw;have u0:=hSw.1.cell 0;have u1:=hSw.1.cell 1;have u2:=hSw.1.cell 2;have u3:=hSw.2.cell 0;go_simp<;>with_reducible rfl);try simp only[zP])
 refine zE ?_
 have u5:=(H5.out.2.call (Below.refl _ _).drew).look
 refine zC 10 fun K HK=>?_
 go_simp
 go_wp2_with fail
 refine HK.out.zt (fun wx=>au wx x 149 #[.int .i64 p.t,.int .i64 p.v,.int .i64 p.s]∧au wx t 117 #[.map (some Mt),.int .i64 (n:Nat),.int .i64 (most:Nat)]) (fun _ h=>h) (hS) ?_
 clear HK hS
 intro hS
 try simp only[zP]
 clear u5
 have t5d:=H5.out.2.call (Below.refl _ _).drew
 refine zC 12 fun K HK=>?_
 go_simp
 refine(FZ w5.drew A n cp L p HD.out.1.len (t5d.sl.mono (fun q hq=>hq.1)) (by omega) t5d.cap.1 t5d.cap.2 (fun j hj=>HD.out.2.2.1 j (by rw[HD.out.1.len];exact hj)) HD.out.2.1).mono ?_
 rintro e w6 ⟨A6,c6,rfl,hr6,hb6⟩
 have e6:(L ++ [p]).length=n+1:=by rw[List.length_append,HD.out.1.len];rfl
 rw[e6] at hr6 ⊢
 have t6:=t5d.call hb6
 have hbw:Below w.heap.size w w6:=V.ay H5.out.1.bel (V.ay (Below.refl _ _).drew hb6)
 have hrw:aX w6 w.heap.size (.slice A6 (n+1) c6) (L ++ [p]):=aU hr6 H5.out.1.bel.size
 have hs6:=zN ((H5.out.1.get 0 rfl).drew.below hb6 (H5.out.1.get 0 rfl).lt) t6.blk
 have H6:=zh (zN t6 (zN hbw (zN hrw hs6)))
 clear e6 hr6 t6 hbw hrw hs6 hb6 t5d
 go_wp2_with fail
 refine HK.out.zt (fun wx=>au wx x 149 #[.int .i64 p.t,.int .i64 p.v,.int .i64 p.s]∧au wx t 117 #[.map (some Mt),.int .i64 (n:Nat),.int .i64 (most:Nat)]) (fun _ h=>h) (H6.out.2.2.2) ?_
 clear HK hS
 intro hS
 try simp only[zP]
 refine zB [13,14,15] ?_
 iterate 3 (refine zV ?_ ?_ hS ?_;rotate_left;(intro w' hSw;go_simp<;>with_reducible rfl);try simp only[zP])
 refine zE ?_
 obtain⟨s,N,D,hown,hN,hF,hso,hsa,-⟩:=H6.out.1.map
 obtain⟨w7,hrun7,hown7,hm7⟩:=hown.store law Tryz.underlying115 (by unfold maxLen;omega) (kD (s:=bD) (by decide)) (val:=.slice A6 (n+1) c6) (d:=.held (.slice A6 (n+1) c6)) (ps:=[]) rfl
 have hg7:=hm7.grown
 have hb7:au w7 x 149 #[.int .i64 p.t,.int .i64 p.v,.int .i64 p.s]∧au w7 t 117 #[.map (some Mt),.int .i64 (n:Nat),.int .i64 (most:Nat)]:=
  ⟨dK hg7 H6.out.2.2.2.1 (fun e=>H6.out.1.jB _ _ _ H6.out.2.2.2.1 (by injection e)),dK hg7 H6.out.2.2.2.2 (fun e=>H6.out.1.jB _ _ _ H6.out.2.2.2.2 (by injection e))⟩
 have H7:=zh (zN hb7 (zN hown7 (zN hm7 (zN hown (zN hN (zN hF hso))))))
 clear hb7 hown7 hm7 hg7 hown hN hF hso hsa
 refine zC 16 fun K HK=>?_
 go_simp
 go_wp2_with fail
 refine HK.out.zt (fun wx=>au wx x 149 #[.int .i64 p.t,.int .i64 p.v,.int .i64 p.s]∧au wx t 117 #[.map (some Mt),.int .i64 (n:Nat),.int .i64 (most:Nat)]) (fun _ h=>h) (H7.out.1) ?_
 clear HK hS
 intro hS
 try simp only[zP]
 refine zD ?_
 try simp only[zP]
 clear hrun7 hS
 have v1:=H7.out.1.2.cell 1
 have vf:=H7.out.1.2.frozen
 go_wp2_with fail
 go_ret
 exact R6 H6.out.1 H6.out.2.1 H6.out.2.2.1 H7.out.2.2.2.2.1 H7.out.2.2.2.2.2.1 H7.out.2.2.2.2.2.2 H7.out.2.1 H7.out.2.2.1 H7.out.2.2.2.1 rfl
end
section
open Go.RowKit
theorem IB(f:Nat→Pt)(a b:Int): ∀ n,(∀ j,j < n→jf a b (f j)=true)→eD f a b n=(List.range n).map f
 | 0,_=>rfl
 | n+1,h=>by
  show (if jf a b (f n)=true then eD f a b n ++ [f n] else _)=_
  rw[if_pos (h n (by omega)),IB f a b n (fun j hj=>h j (by omega)),List.range_succ,List.map_append]
  rfl
theorem JG(L:List Pt): (List.range L.length).map (fun j=>L.getD j ⟨0,0,0⟩)=L:=by
 apply List.ext_getElem?
 intro j
 rw[List.getElem?_map]
 rcases Nat.lt_or_ge j L.length with h | h
 ·rw[List.getElem?_range h,List.getElem?_eq_getElem h]
  simp[List.getD_eq_getElem?_getD,h]
 ·rw[List.getElem?_eq_none (by simpa using h),List.getElem?_eq_none h]
  rfl
theorem Qb(w:World)(A:Option Addr)(n c:Nat)(f:Nat→Pt)(a b:Int)(hsl:dO w (fun q=>q < w.heap.size) A n f)(hn:n≤1048576):
  Calls Tryz.prog 257 #[.slice A n c,.int .i64 a,.int .i64 b] w fun e w'=>∃ v,e=.returned v∧aX w' w.heap.size v (eD f a b n)∧Below w.heap.size w w':=by
 have HS:=zh hsl
 clear hsl
 go_enter Tryz.func257,Tryz.ntmps257
 go_wp2_with fail
 go_loopw [7,12] (fun out jj wq=>∃ j,j≤n∧jj=.int .i64 (j:Nat)∧aX wq w.heap.size out (eD f a b j)∧Below w.heap.size w wq) (fun _ jj _=>n-(intOf jj).toNat)
 case atStart=>exact ⟨0,by omega,rfl,aX.nil _ _,Below.refl _ _⟩
 case round=>
  obtain⟨j,hj,rfl,hrow,hbel⟩:=hrel
  obtain⟨Aq,cq,hvq,hcq⟩:=hrow.form
  subst hvq
  obtain⟨lj,hlj⟩:∃ lj,lj=eD f a b j:=⟨_,rfl⟩
  rw[←hlj] at hrow hcq ⊢
  by_cases hjx:j < n
  ·have hjk:(j:Int) < (n:Int):=by omega
   obtain⟨bb,off,rfl,-,-⟩:=id HS.out (by omega)
   obtain⟨P0,hP0⟩:∃ P0,P0=f j:=⟨_,rfl⟩
   obtain⟨tt,vv,ss⟩:=P0
   have hcj:=lN (HS.out.below hbel) hjx
   rw[←hP0] at hcj
   have c0:=hcj.1
   have c1:=hcj.2.1
   have c2:=hcj.2.2
   have hs1:jf a b ⟨tt,vv,ss⟩=true→eD f a b (j+1)=lj ++ [⟨tt,vv,ss⟩]:=fun h=>by
    show (if jf a b (f j)=true then eD f a b j ++ [f j] else _)=_
    rw[←hP0,if_pos h,hlj]
   have hs2:jf a b ⟨tt,vv,ss⟩=false→eD f a b (j+1)=lj:=fun h=>by
    show (if jf a b (f j)=true then _ else eD f a b j)=_
    rw[←hP0,if_neg (by rw[h];simp),hlj]
   have hll:lj.length≤j:=by rw[hlj];exact yP _ _ _ _
   have HQ:=zh (zN hrow (zN hbel (zN hs1 hs2)))
   clear hrow hbel hs1 hs2 hcj hP0 hlj
   go_upto_region 5 with (fail)
   obtain⟨gp,hgp⟩:∃ gp,gp=wr.heap.size:=⟨_,rfl⟩
   rw[←hgp]
   have hal:Below wr.heap.size wr (wr.alloc (.cells #[.int .i64 tt,.int .i64 vv,.int .i64 ss] 149)):=(Below.refl _ _).alloc (Nat.le_refl _) _
   refine aH (fun wx=>aX wx w.heap.size (.slice Aq lj.length cq) lj∧Below w.heap.size w wx∧au wx gp 149 #[.int .i64 tt,.int .i64 vv,.int .i64 ss]) ⟨HQ.out.1.below hal,HQ.out.2.1.trans (hal.mono HQ.out.2.1.size),by rw[hgp];exact au.fresh _ _ _⟩ ?_
   rintro w9 ⟨h9,b9,g9⟩
   have v0:=g9.cell 0
   have v1:=g9.cell 1
   have v2:=g9.cell 2
   have H9:=zh (zN h9 b9)
   clear h9 b9 g9 hal hgp c0 c1 c2
   by_cases k1:a≤tt
   ·have d4:decide (a≤tt)=true:=by simp;omega
    by_cases k2:tt < b
    ·have d5:decide (tt < b)=true:=by simp;omega
     have HI:=zh (show jf a b ⟨tt,vv,ss⟩=true by unfold jf;rw[d4,d5];rfl)
     clear k1 k2
     go_wp2_with (at_builtin;refine jM (base:=w.heap.size) (p:=⟨tt,vv,ss⟩) (l:=lj) rfl (.tmp 26) (.tmp 28) rfl rfl rfl ?hown ?hg ?h63 ?hbase ?_)
     case hown=>exact H9.out.1.below ((Below.refl _ _).alloc (Nat.le_refl _) _)
     case hg=>exact au.fresh _ _ _
     case h63=>omega
     case hbase=>have:=H9.out.2.size;simp;omega
     intro v10 w10 hr10 hg10 hx10
     have a9:=(Below.refl w9.heap.size w9).alloc (Nat.le_refl _) (.cells #[.int .i64 tt,.int .i64 vv,.int .i64 ss] 149)
     have b10:Below w.heap.size w w10:=Dc (H9.out.2.trans (a9.mono H9.out.2.size)) (H9.out.1.below a9) hg10
     have H10:=zh (zN hr10 b10)
     clear hr10 hg10 hx10 v0 v1 v2 a9 b10
     go_wp2_with fail
     go_roundw
     case rel=>exact ⟨j+1,by omega,by go_num,by rw[HQ.out.2.2.1 HI.out];exact H10.out.1,H10.out.2⟩
     case measure=>simp[intOf]<;>omega
    ·have d5:decide (tt < b)=false:=by simp;omega
     have HI:=zh (show jf a b ⟨tt,vv,ss⟩=false by unfold jf;rw[d4,d5];rfl)
     clear k1 k2
     go_wp2_with fail
     go_roundw
     case rel=>exact ⟨j+1,by omega,by go_num,by rw[HQ.out.2.2.2 HI.out];exact H9.out.1,H9.out.2⟩
     case measure=>simp[intOf]<;>omega
   ·have d4:decide (a≤tt)=false:=by simp;omega
    have HI:=zh (show jf a b ⟨tt,vv,ss⟩=false by unfold jf;rw[d4];rfl)
    clear k1
    go_wp2_with fail
    go_roundw
    case rel=>exact ⟨j+1,by omega,by go_num,by rw[HQ.out.2.2.2 HI.out];exact H9.out.1,H9.out.2⟩
    case measure=>simp[intOf]<;>omega
  ·obtain rfl:j=n:=by omega
   have HQ:=zh (zN hrow (zN hbel hlj))
   clear hrow hbel hlj
   go_wp2_with fail
   go_ret
   exact⟨_,rfl,by rw[←HQ.out.2.2];exact HQ.out.1,HQ.out.2.1⟩
end
section
open Go.RowKit Go.Maps
theorem Jc(f:Nat→Pt)(n j:Nat): (bX f n j).length≤9+10*n:=by
 match j with
 | 0=>show (pack _).length≤_;rw[bK];have:=D.oH (mR f n) n;omega
 | 1=>show (pack _).length≤_;rw[bK];have:=X.sD (nC f n) n;omega
 | j+2=>show (pack _).length≤_;rw[bK];have:=D.oH (mQ f n) n;omega
theorem Az(f:Nat→Pt)(n:Nat)(hn:n≤4096): ∀ j,(eG f n j).length≤10+j*(19+10*n)
 | 0=>by have:=V.aR (u:=n) (by omega);show (V.aC n).length≤_;omega
 | j+1=>by
  have h1:=Az f n hn j
  have h2:=Jc f n j
  have h4:=mI f n j hn
  have h3:=V.aR (u:=(bX f n j).length) (by omega)
  show (eG f n j ++ V.aC (bX f n j).length ++ bX f n j).length≤_
  rw[List.length_append,List.length_append]
  have:(j+1)*(19+10*n)=j*(19+10*n)+(19+10*n):=by rw[Nat.succ_mul]
  omega
theorem Mv(f:Nat→Pt)(n:Nat)(hn:n≤4096): (dU f n).1.length≤80+30*n:=by
 unfold dU
 have:=Az f n hn 3
 split
 ·show (F.aN 3 _).length≤_
  rw[F.bB];omega
 ·show ([]:List Nat).length≤_;simp
theorem Io(f:Nat→Pt)(n:Nat)(hn:n≤4096): ∀ m,(bO f n m).length≤80*m+30*min (1024*m) n
 | 0=>by simp[bO]
 | m+1=>by
  have ih:=Io f n hn m
  have h:=Mv (aZ f (1024*m)) (bn n (1024*m)) (by unfold bn;omega)
  have e:min (1024*m) n+bn n (1024*m)=min (1024*(m+1)) n∨bn n (1024*m)=0:=by unfold bn;omega
  have e2:min (1024*m) n≤min (1024*(m+1)) n:=by omega
  rw[wo,List.length_append]
  omega
theorem Bj(nm:Nat→ByteArray)(pf:Nat→Nat→Pt)(pn:Nat→Nat)(k:Nat)(hp:∀ j,j < k→pn j≤4096): ∀ i,i≤k→(sO pf pn i).length≤320*i+30*jL nm pn k i
 | 0,_=>by simp[sO]
 | i+1,hi=>by
  have ih:=Bj nm pf pn k hp i (by omega)
  have h1:=hp i (by omega)
  have h2:=Io (pf i) (pn i) h1 (aT (pn i))
  have h3:aT (pn i)≤4:=by unfold aT;omega
  have h4:=Br (pn i)
  have h5:jL nm pn k (i+1)=jL nm pn k i+pn i+(nm i).size:=rfl
  rw[wG,List.length_append,h5]
  rw[h4] at h2
  omega
theorem Bb(nm:Nat→ByteArray)(pf:Nat→Nat→Pt)(pn:Nat→Nat)(k:Nat)(hk:k≤250)(hok:∀ j i,oM (pf j i))(hp:∀ j,j < k→pn j≤4096)(hn:∀ j,j < k→(nm j).size≤2500): ∀ i,i≤k→(sF nm pf pn k i).length≤10+k*2510+i*170
 | 0,_=>by
  have:=qp nm k (by omega) k hn
  show (dx nm k k).length≤_
  omega
 | i+1,hi=>by
  have ih:=Bb nm pf pn k hk hok hp hn i (by omega)
  have h1:=hp i (by omega)
  have h2:=vI (pf i) (hok i) (pn i) h1 (aT (pn i))
  have h3:aT (pn i)≤4:=by unfold aT;omega
  have h5:=V.aR (u:=aT (pn i)) (by omega)
  rw[Bn,List.length_append,List.length_append]
  omega
theorem Pg{nm:Nat→ByteArray}{pn:Nat→Nat}{pf:Nat→Nat→Pt}{k:Nat}(hok:∀ j i,oM (pf j i))(h:jL nm pn k k < 2500): (F.aN 5 (sF nm pf pn k k)).length+(sO pf pn k).length≤1048563:=by
 have hk:k < 250:=by
  have:=wO nm pn k 0 k (by omega)
  have h3:jL nm pn k 0=10*k:=rfl
  omega
 have hp:∀ j,j < k→pn j≤4096:=fun j hj=>by have:=qL nm pn k j hj;omega
 have hn:∀ j,j < k→(nm j).size≤2500:=fun j hj=>by have:=qL nm pn k j hj;omega
 have h1:=Bj nm pf pn k hp k (Nat.le_refl _)
 have h2:=Bb nm pf pn k (by omega) hok hp hn k (Nat.le_refl _)
 rw[F.bB]
 omega
theorem Np(f:Nat→Pt)(n:Nat): ∀ x ∈ (dU f n).1,x < 256:=by
 unfold dU
 split
 ·exact F.sM (by omega) (oW f n 3)
 ·intro x hx;exact absurd hx List.not_mem_nil
theorem IE(f:Nat→Pt)(n:Nat): ∀ m,∀ x ∈ bO f n m,x < 256
 | 0=>fun x hx=>by simp[bO] at hx
 | m+1=>iR (IE f n m) (Np _ _)
theorem Bh(pf:Nat→Nat→Pt)(pn:Nat→Nat): ∀ i,∀ x ∈ sO pf pn i,x < 256
 | 0=>fun x hx=>by simp[sO] at hx
 | i+1=>iR (Bh pf pn i) (IE _ _ _)
theorem Qd{nm:Nat→ByteArray}{pf:Nat→Nat→Pt}{pn:Nat→Nat}{k:Nat}(hs:Small nm pf pn k)(hf:(F.aN 5 (sF nm pf pn k k)).length+(sO pf pn k).length≤1048563):
  (sB nm pf pn k=([],2))∨((sB nm pf pn k).2=0∧Built nm pf pn k∧ig (sB nm pf pn k).1 (sO pf pn k) nm pf pn k):=by
 unfold sB
 by_cases h:(dP nm k && (decide (0 < k) && sV pf pn k))=true
 ·rw[if_pos h,if_neg (by omega)]
  simp only[Bool.and_eq_true,decide_eq_true_eq] at h
  refine .inr ⟨rfl,⟨h.2.1,hs.kb,h.1,h.2.2,hs.pb⟩,⟨rfl,rfl,Bh pf pn k,?_⟩⟩
  show (sO pf pn k ++ F.aN 5 (sF nm pf pn k k) ++ F.aN 6 (four (F.aN 5 (sF nm pf pn k k)).length)).length≤_
  rw[List.length_append,List.length_append,F.bB 6]
  show _+(4+9)≤_
  omega
 ·rw[if_neg h]
  exact .inl rfl
theorem Ru{nm:Nat→ByteArray}{pf:Nat→Nat→Pt}{pn:Nat→Nat}{k:Nat}(hs:Small nm pf pn k)(hf:(F.aN 5 (sF nm pf pn k k)).length+(sO pf pn k).length≤1048563)(hV:(dP nm k && (decide (0 < k) && sV pf pn k))=true):
  (sB nm pf pn k).2=0∧Built nm pf pn k∧ig (sB nm pf pn k).1 (sO pf pn k) nm pf pn k:=by
 rcases Qd hs hf with h | h
 ·unfold sB at h
  rw[if_pos hV,if_neg (by omega)] at h
  simp at h
 ·exact h
theorem DR{nm:Nat→ByteArray}{pf:Nat→Nat→Pt}{pn:Nat→Nat}{k i m:Nat}(hB:Built nm pf pn k)(hi:i < k)(hm:m < aT (pn i)): kg (oO (sO pf pn k) (bG pf pn i m)) (aZ (pf i) (1024*m)) (bn (pn i) (1024*m)):=by
 have h1:=O4 pf pn hi hm
 have h2:=SK (ny (hB.bv hi) hm)
 unfold oO
 rw[h1]
 exact h2
def Rf(w:World)(l:List Pt)(e:Ending)(w':World): Prop:=Below w.heap.size w w'∧∃ v,e=.returned (.tuple #[v,.int .i64 0])∧aX w' w.heap.size v l
theorem Gl(w:World)(p:Nat)(nm:Nat→ByteArray)(pf:Nat→Nat→Pt)(pn:Nat→Nat)(k M o:Nat)(Ab:Option Addr)(cb cn:Nat)(VS:Nat→Value)(h:mZ w p (sO pf pn k) nm pf pn k M o Ab cb cn VS)(hB:Built nm pf pn k)(hO20:(sO pf pn k).length≤1048576)(hok:∀ j i,oM (pf j i))(i:Nat)(hi:i < k)(a b:Int)(hv:V.cu w):
  Calls Tryz.prog 221 #[.pointer (some ⟨p,0,none⟩),.string (nm i),.int .i64 a,.int .i64 b] w (Rf w (eD (pf i) a b (pn i))):=by
 refine(Gf w p _ nm pf pn k M o Ab cb cn VS h hB (Bh pf pn k) hO20 rfl hok i hi (fun m hm=>.inl (DR hB hi hm)) a b hv).mono ?_
 rintro e w' ⟨hb,hc | ⟨⟨m,hm,hN⟩,-⟩⟩
 ·exact ⟨hb,hc⟩
 ·exact absurd (DR hB hi hm) (hN _ _)
end
section
open Go.RowKit Go.Maps
theorem R8: dL Tryz.prog 110 9 (.string ByteArray.empty) 16:=dL.mk' Tryz.underlying110 rfl Iy
theorem Ga(w:World): (Op.unary .not (.bool false)).run Tryz.prog w=.ok (.bool true) w:=by kernel_rfl
def mq(left:Lit→Bool)(nm:Nat→ByteArray)(pn:Nat→Nat): Nat→Nat
 | 0=>0
 | j+1=>mq left nm pn j+if left (bP (nm j))=true then pn j else 0
def oQ(pn:Nat→Nat): Nat→Nat
 | 0=>0
 | j+1=>oQ pn j+pn j
theorem Eh{left:Lit→Bool}{nm:Nat→ByteArray}{pn:Nat→Nat}: ∀ k,(∀ j,j < k→left (bP (nm j))=true)→mq left nm pn k=oQ pn k
 | 0,_=>rfl
 | k+1,h=>by
  show mq left nm pn k+_=oQ pn k+pn k
  rw[Eh k (fun j hj=>h j (by omega)),if_pos (h k (by omega))]
theorem BX{left:Lit→Bool}{nm:Nat→ByteArray}{pn:Nat→Nat}(h:∀ kl,left kl=false): ∀ k,mq left nm pn k=0
 | 0=>rfl
 | k+1=>by
  show mq left nm pn k+_=0
  rw[BX h k,if_neg (by rw[h];simp)]
theorem BK{left:Lit→Bool}{nm:Nat→ByteArray}{pn:Nat→Nat}{j:Nat}: ∀ k,(∀ i,i < k→nm i≠nm j)→mq (fun z=>left z && !z.sameKey (bP (nm j))) nm pn k=mq left nm pn k
 | 0,_=>rfl
 | k+1,h=>by
  show mq _ nm pn k+(if (left (bP (nm k)) && !(bP (nm k)).sameKey (bP (nm j)))=true then pn k else 0)=mq left nm pn k+_
  rw[BK k (fun i hi=>h i (by omega))]
  have hne:bP (nm k)≠bP (nm j):=fun e=>h k (by omega) (iQ e)
  rw[sameKey_ne hne]
  simp
theorem Ew{left:Lit→Bool}{nm:Nat→ByteArray}{pn:Nat→Nat}{j:Nat}: ∀ k,Apart nm k→j < k→left (bP (nm j))=true→mq left nm pn k=mq (fun z=>left z && !z.sameKey (bP (nm j))) nm pn k+pn j
 | 0,_,hj,_=>by omega
 | k+1,ha,hj,hl=>by
  show mq left nm pn k+(if left (bP (nm k))=true then pn k else 0)=mq _ nm pn k+(if (left (bP (nm k)) && !(bP (nm k)).sameKey (bP (nm j)))=true then pn k else 0)+pn j
  by_cases e:j=k
  ·subst e
   rw[BK j (fun i hi=>ha i j hi (by omega)),if_pos hl,if_neg (by simp[WideAt.sameKey_self (jo (nm j))])]
   omega
  ·have hne:bP (nm k)≠bP (nm j):=fun h=>ha j k (by omega) (by omega) (iQ h).symm
   rw[Ew k (fun a b h1 h2=>ha a b h1 (by omega)) (by omega) hl,sameKey_ne hne]
   simp
   omega
theorem Im{pn:Nat→Nat}{c:Nat}: ∀ k,(∀ j,j < k→pn j≤c)→oQ pn k≤k*c
 | 0,_=>Nat.zero_le _
 | k+1,h=>by
  have:=Im k (fun j hj=>h j (by omega))
  have:=h k (by omega)
  show oQ pn k+pn k≤_
  rw[Nat.succ_mul];omega
theorem G5{v:Value}{z:DataW Value × List MemPlace}(h:eP v=some z): z=(.held v,[]):=by unfold eP at h;injection h with h;exact h.symm
theorem zQ(w:World)(p:Nat)(O:List Nat)(nm:Nat→ByteArray)(pf:Nat→Nat→Pt)(pn:Nat→Nat)(k M o:Nat)(Ab:Option Addr)(cb cn:Nat)(VS:Nat→Value)(h:mZ w p O nm pf pn k M o Ab cb cn VS)(hB:Built nm pf pn k):
  Calls Tryz.prog 154 #[.pointer (some ⟨p,0,none⟩)] w fun e w'=>e=.returned (.int .i64 (oQ pn k:Nat))∧Below w.heap.size w w':=by
 have hseg:=h.seg
 have hps:oQ pn k≤4194304:=by
  have h1:=Im (pn:=pn) (c:=4096) k hB.pb
  have h2:k*4096≤1024*4096:=Nat.mul_le_mul_right _ hB.k1
  omega
 have HS:=zh (zN h hB)
 clear h hB
 go_enter Tryz.func154,Tryz.ntmps154
 go_wp2_with fail
 refine(uL w p M (hseg.cell 2)).mono ?_
 rintro e w1 ⟨rfl,hb1⟩
 have h1:=HS.out.1.below hb1
 have zp2:=h1.seg.cell 2
 have hown:World.ownsMap w1 Tryz.prog 9 eP M k (DB nm VS k):=h1.map
 have nf:=Ga
 have H1:=zh (zN h1 hb1)
 clear h1 hb1 hseg
 go_wp2_with (at_range;refine wpList_range_own _ rfl _ 351 rfl 9 358 law Tryz.underlying351 _ M k _ rfl hown ?_;intro w3 hrg0 hg0 hs0)
 try go_frame
 obtain⟨r,hr⟩:∃ r,r=w1.heap.size:=⟨_,rfl⟩
 rw[←hr] at hrg0 ⊢
 have hl3:Below w1.heap.size w1 w3:=⟨hg0.os,hg0.tape,hg0.output,hg0.size,fun q hq=>hg0.block q hq (fun e=>by cases e)⟩
 have HR:=zh (zN hrg0 (zN hl3 hr))
 clear hrg0 hl3 hr hg0 hs0 hown zp2 nf
 go_loopw [3] (fun nv wr=>∃ (left:Lit→Bool) (cnt c:Nat),wr.ranges Tryz.prog 9 eP M r k (DB nm VS k) left cnt∧nv=.int .i64 (c:Nat)∧c+mq left nm pn k=oQ pn k∧Below w1.heap.size w1 wr)
  (fun _ wr=>wr.rangeLeft M r)
 case atStart=>
  refine⟨_,_,0,HR.out.1,rfl,?_,HR.out.2.1⟩
  rw[Nat.zero_add]
  exact Eh k fun j hj=>(uV nm VS (nm j) k).2 ⟨j,hj,rfl⟩
 case round=>
  obtain⟨left,cnt,c,hrg,rfl,hsum,hbel⟩:=hrel
  go_wp2_with (at_next;refine wpList_next_ranges _ rfl _ rfl 9 law eP Value.string (fun v=>v) (fun key kl h=>(jY h).imp fun _ h=>h.1) (fun v y h=>⟨v,rfl⟩) M r k _ _ _ rfl hrg ?_ ?_)
  ·intro hc0 hl0
   have hcp:c=oQ pn k:=by rw[←hsum,BX hl0];rfl
   have HF:=zh (zN hbel hcp)
   clear hl0 hbel hrg hc0 hsum hcp
   go_wp2_with fail
   go_ret
   exact⟨by rw[←HF.out.2];rfl,H1.out.2.trans (HF.out.1.mono H1.out.2.size)⟩
  ·intro x v kl y1 y2 w4 cnt1 hkx hlx hvy hat hrg1 hlt hg1 hs1 hen
   obtain⟨s',e1,rfl⟩:=jY hkx
   injection e1 with e1
   subst e1
   obtain⟨j,hjk,rfl⟩:=(uV nm VS x k).1 (has_true_of_atKey hat)
   have hvj:v=VS j:=by
    have h1:=hat .nil
    have h2:=G5 hvy
    injection h2 with h2 _
    rw[Dx nm VS .nil k HS.out.2.apart j hjk,h2] at h1
    injection h1 with h1
    exact h1.symm
   have hl4:Below w1.heap.size w1 w4:=jD hbel hg1 (by rw[HR.out.2.2];exact Nat.le_refl _)
   obtain⟨g,cc,hvs,hgl,hnc,hcell⟩:=H1.out.1.bks j hjk
   have hsum1:=Ew (nm:=nm) (pn:=pn) k HS.out.2.apart hjk hlx
   obtain⟨n,hn⟩:∃ n,n=pn j:=⟨_,rfl⟩
   obtain⟨nb,hnb⟩:∃ nb,nb=aT n:=⟨_,rfl⟩
   rw[←hn,←hnb] at hvs hnc hcell
   rw[←hn] at hsum1
   have hnle:n≤4096:=by rw[hn];exact HS.out.2.pb j hjk
   have hnb4:nb≤4:=by rw[hnb];unfold aT;omega
   rw[hvs] at hvj
   subst hvj
   obtain⟨ls,hls⟩:∃ ls,ls=mq (fun z=>left z && !z.sameKey (bP (nm j))) nm pn k:=⟨_,rfl⟩
   rw[←hls] at hsum1
   have hc1:c+n+ls=oQ pn k:=by omega
   have hbv:=HS.out.2.bv hjk
   rw[←hn] at hbv
   have HV:=zh (zN hrg1 (zN hl4 (zN hcell (zN hgl (zN hls (zN hc1 (zN hlt (zN hrg.left_eq (zN hn (zN hnb hbv))))))))))
   have hcps:c+n≤4194304:=by omega
   clear hrg1 hl4 hcell hgl hls hc1 hlt hrg hn hnb hbv hsum hsum1 hbel hat hvy hkx hlx hg1 hs1 hvs
   go_wp2_with fail
   clear hen
   go_loopw [3,22] (fun nv ii wq=>∃ m,m≤nb∧ii=.int .i64 (m:Nat)∧nv=.int .i64 ((c+min (1024*m) n:Nat))∧Below w4.heap.size w4 wq) (fun _ ii _=>nb-(intOf ii).toNat)
   case atStart=>exact ⟨0,by omega,rfl,by rw[show min (1024*0) n=0 by omega];rfl,Below.refl _ _⟩
   case round=>
    obtain⟨m,hm,rfl,rfl,hq⟩:=hrel
    obtain⟨c2,hc2⟩:∃ c2,c2=c+min (1024*m) n:=⟨_,rfl⟩
    rw[←hc2]
    by_cases hmn:m < nb
    ·have hmk:(m:Int) < (nb:Int):=by omega
     obtain⟨x,hx⟩:∃ x,x=bG pf pn j m:=⟨_,rfl⟩
     have hce:∀ i,i < 5→wr.cell? ⟨g,m*5+i,none⟩=(qx x)[i]?:=fun i hi=>by
      rw[hx]
      exact((HV.out.2.1.trans (hq.mono HV.out.2.1.size)).cell (by exact HV.out.2.2.2.1)).trans (HV.out.2.2.1 m hmn i hi)
     have hbo:vN (pf j) n m:=ny HV.out.2.2.2.2.2.2.2.2.2.2 (by rw[←HV.out.2.2.2.2.2.2.2.2.2.1];exact hmn)
     obtain⟨xa,xb,xf,xt,xn⟩:=x
     have e4:xn=bn n (1024*m):=by rw[HV.out.2.2.2.2.2.2.2.2.1];exact congrArg Bk.n hx
     have c0:wr.cell? ⟨g,m*5,none⟩=some (.int .i64 (xa:Nat)):=hce 0 (by omega)
     have c1:wr.cell? ⟨g,m*5+1,none⟩=some (.int .i64 (xb:Nat)):=hce 1 (by omega)
     have c2':wr.cell? ⟨g,m*5+2,none⟩=some (.int .i64 xf):=hce 2 (by omega)
     have c3:wr.cell? ⟨g,m*5+3,none⟩=some (.int .i64 xt):=hce 3 (by omega)
     have c4:wr.cell? ⟨g,m*5+4,none⟩=some (.int .i64 (xn:Nat)):=hce 4 (by omega)
     have hmin:min (1024*m) n=1024*m:=Ny (f:=pf j) (by rw[←HV.out.2.2.2.2.2.2.2.2.2.1];exact hmn)
     have hend:min (1024*(m+1)) n=1024*m+xn:=by rw[e4];exact (Lp hbo (by rw[←HV.out.2.2.2.2.2.2.2.2.2.1];omega)).symm
     have hxn:1024*m+xn≤n:=by rw[←hend];omega
     have ka:IntKind.i64.wrap ((c2:Int)+(xn:Int))=((c2+xn:Nat):Int):=by rw[IntWalk.i64_in _ (by omega)];omega
     have HX:=zh (zN hx (zN hc2 (zN hend (zN hmin hq))))
     clear hx hc2 hend hmin hq hce hbo e4 hxn
     go_upto_region 9 with (fail)
     obtain⟨gx,hgx⟩:∃ gx,gx=wr.heap.size:=⟨_,rfl⟩
     rw[←hgx]
     have hal:Below wr.heap.size wr (wr.alloc (.cells #[.int .i64 (xa:Nat),.int .i64 (xb:Nat),.int .i64 xf,.int .i64 xt,.int .i64 (xn:Nat)] 360)):=(Below.refl _ _).alloc (Nat.le_refl _) _
     refine aH (fun wx=>Below w4.heap.size w4 wx∧au wx gx 360 #[.int .i64 (xa:Nat),.int .i64 (xb:Nat),.int .i64 xf,.int .i64 xt,.int .i64 (xn:Nat)]) ⟨HX.out.2.2.2.2.trans (hal.mono HX.out.2.2.2.2.size),by rw[hgx];exact au.fresh _ _ _⟩ ?_
     rintro w7 ⟨b7,g7⟩
     have u4:=g7.cell 4
     have H7:=zh b7
     clear b7 g7 hal hgx c0 c1 c2' c3 c4
     go_wp2_with fail
     go_roundw
     case rel=>exact ⟨m+1,by omega,by go_num,by rw[HX.out.2.2.1,HX.out.2.1,HX.out.2.2.2.1,←Int.natCast_add,Nat.add_assoc],H7.out⟩
     case measure=>simp[intOf]<;>omega
    ·obtain rfl:m=nb:=by omega
     have hc3:c2=c+n:=by rw[hc2,HV.out.2.2.2.2.2.2.2.2.2.1,Br]
     subst hc3
     have HQ:=zh hq
     clear hq hc2
     have hrg5:=HV.out.1.kept (dn HQ.out none) (fun e=>by cases e) (fun e=>by cases e)
     have H5:=zh (zN hrg5 (HV.out.2.1.trans (HQ.out.mono HV.out.2.1.size)))
     clear hrg5
     go_wp2_with fail
     go_roundw
     case rel=>exact ⟨_,cnt1,c+n,H5.out.1,rfl,by rw[←HV.out.2.2.2.2.1];exact HV.out.2.2.2.2.2.1,H5.out.2⟩
     case measure=>rw[H5.out.1.left_eq,HV.out.2.2.2.2.2.2.2.1];exact HV.out.2.2.2.2.2.2.1
end
section
open Go.RowKit Go.Maps
theorem DI(w:World)(t Mt:Nat)(A:Option Addr)(cp:Nat)(L:List Pt)(n most U:Nat)(a b:Int)(h:eB w t Mt A cp L n most U)(hn:n≤1000):
  Calls Tryz.prog 175 #[.pointer (some ⟨t,0,none⟩),.string bD,.int .i64 a,.int .i64 b] w fun e w'=>∃ v,e=.returned v∧aX w' w.heap.size v (eD (fun j=>L.getD j ⟨0,0,0⟩) a b n)∧Below w.heap.size w w':=by
 have HD:=zh h
 clear h
 go_enter Tryz.func175,Tryz.ntmps175
 go_wp2_with fail
 refine(kZ w t Mt (HD.out.blk.cell 0)).mono ?_
 rintro e w1 ⟨rfl,hb1⟩
 have h1:=HD.out.call hb1
 have u0:=h1.blk.cell 0
 have u1:=h1.look
 have H1:=zh (zN hb1 h1)
 clear hb1 h1
 go_wp2_with fail
 refine(Qb w1 A n cp _ a b (H1.out.2.sl.mono (fun q hq=>hq.1)) (by omega)).mono ?_
 rintro e w2 ⟨v,rfl,hr,hb2⟩
 have H2:=zh (zN hr hb2)
 clear hr hb2
 go_wp2_with fail
 go_ret
 exact⟨v,rfl,aU H2.out.1 H1.out.1.size,V.ay H1.out.1 H2.out.2⟩
def TD: Value→Nat
 | .slice _ n _=>n
 | _=>0
theorem sameKey_self(s:ByteArray): (bP s).sameKey (bP s)=true:=WideAt.sameKey_self (jo s)
theorem FQ(w:World)(t Mt:Nat)(A:Option Addr)(cp:Nat)(L:List Pt)(n most U:Nat)(h:eB w t Mt A cp L n most U)(hn:0 < n):
  Calls Tryz.prog 148 #[.pointer (some ⟨t,0,none⟩)] w fun e w'=>∃ A1 c1,e=.returned (.slice A1 1 c1)∧w'.ownsRow w.heap.size 9 1 (.slice A1 1 c1) 1 [.string bD]∧Below w.heap.size w w':=by
 have nf:=nY
 have HD:=zh h
 clear h
 go_enter Tryz.func148,Tryz.ntmps148
 go_wp2_with fail
 refine(kZ w t Mt (HD.out.blk.cell 0)).mono ?_
 rintro e w1 ⟨rfl,hb1⟩
 have h1:=HD.out.call hb1
 have u0:=h1.blk.cell 0
 obtain⟨s,N,D,hown,hN,hF,hso,-,hsa⟩:=h1.map
 have H1:=zh (zN hb1 (zN hF (zN hso (hsa hn))))
 clear hb1 h1 hF hso hsa
 go_wp2_with (at_range;refine wpList_range_own _ rfl _ 115 rfl 9 186 law Tryz.underlying115 _ Mt N _ rfl hown ?_;intro w3 hrg0 hg0 hs0)
 try go_frame
 obtain⟨r,hr⟩:∃ r,r=w1.heap.size:=⟨_,rfl⟩
 rw[←hr] at hrg0 ⊢
 have hl3:Below w.heap.size w w3:=H1.out.1.grown hg0 H1.out.1.size (fun k hk=>by cases hk)
 have hMt:Mt < w1.heap.size:=World.ownsMap.lt hown
 have hrw:w.heap.size≤r:=by rw[hr];exact H1.out.1.size
 have HR:=zh (zN hrg0 (zN hl3 (zN hrw (show Mt≠r from by omega))))
 clear hrg0 hl3 hr hg0 hs0 hown u0 nf hMt hrw
 have hkey:∀ (x:ByteArray) (z:DataW Value),(∀ zd,D.atKey (bP x) zd=z)→x=bD:=fun x z hat=>by
  have h1:=has_true_of_atKey hat
  rw[H1.out.2.1.has] at h1
  rcases Classical.em (x=bD) with h | h
  ·exact h
  ·rw[H1.out.2.2.1 x h] at h1
   cases h1
 have HK:=zh hkey
 clear hkey
 go_loopw [3] (fun out wr=>(out=.slice none 0 0∧∃ cnt,wr.ranges Tryz.prog 9 eP Mt r N D (Maps.has D) cnt∧Below w.heap.size w wr)∨(∃ A1 c1 cnt,out=.slice A1 1 c1∧wr.ownsRow w.heap.size 9 1 (.slice A1 1 c1) 1 [.string bD]∧wr.ranges Tryz.prog 9 eP Mt r N D (fun z=>Maps.has D z && !z.sameKey (bP bD)) cnt∧Below w.heap.size w wr))
  (fun out _=>1-TD out)
 case atStart=>exact .inl ⟨rfl,_,HR.out.1,HR.out.2.1⟩
 case round=>
  rcases hrel with ⟨rfl,cnt,hrg,hbel⟩ | ⟨A1,c1,cnt,rfl,hrow,hrg,hbel⟩
  ·go_wp2_with (at_next;refine wpList_next_ranges _ rfl _ rfl 9 law eP Value.string (fun v=>v) (fun key kl h=>(jY h).imp fun _ h=>h.1) (fun v y h=>⟨v,rfl⟩) Mt r N _ _ _ rfl hrg ?_ ?_)
   ·intro hc0 hl0
    exfalso
    have h1:=hl0 (bP bD)
    rw[H1.out.2.1.has,H1.out.2.2.2] at h1
    cases h1
   ·intro x v kl y1 y2 w4 cnt1 hkx hlx hvy hat hrg1 hlt hg1 hs1 hen
    obtain⟨s',e1,rfl⟩:=jY hkx
    injection e1 with e1
    subst e1
    obtain rfl:=HK.out x _ hat
    have hl4:Below w.heap.size w w4:=hbel.grown hg1 hbel.size (fun k hk=>by injection hk with hk;rw[←hk];exact HR.out.2.2.1)
    have H4:=zh (zN hrg1 hl4)
    clear hrg1 hl4 hrg hbel hkx hlx hvy hat hlt hg1 hs1
    go_wp2_with (at_builtin;refine aW (f:=fun _=>.string bD) (D:=fun q=>q=w4.heap.size) (base:=w.heap.size) (n:=0) (xs:=[]) R8 rfl (.tmp 17) (.tmp 19) rfl rfl rfl ?hown ?hsl ?h1 ?h63 ?hby ?hbase ?_)
    case hown=>exact World.ownsRow_nil _ _ _ _
    case hsl=>exact kS w4 _ _
    case h1=>intro j _;rfl
    case h63=>unfold maxLen;omega
    case hby=>omega
    case hbase=>have:=H4.out.2.size;simp;omega
    intro v5 w5 ho5 hg5 hx5
    obtain⟨A5,c5,hv5,hc5,-⟩:=aA ho5
    subst hv5
    have hb5:Below w.heap.size w w5:=(H4.out.2.alloc H4.out.2.size _).grown hg5 (Nat.le_trans H4.out.2.size (by simp)) (fun k hk=>by simp[Value.ownBlock] at hk)
    have hr5:w5.ranges Tryz.prog 9 eP Mt r N D (fun z=>Maps.has D z && !z.sameKey (bP bD)) cnt1:=(H4.out.1.alloc _).kept hg5 (by simp[Value.ownBlock]) (by simp[Value.ownBlock])
    have H5:=zh (zN ho5 (zN hr5 hb5))
    clear ho5 hg5 hx5 hb5 hr5 hen
    go_wp2_with fail
    go_roundw
    case rel=>exact .inr ⟨A5,c5,cnt1,rfl,H5.out.1,H5.out.2.1,H5.out.2.2⟩
    case measure=>simp[TD]
  ·go_wp2_with (at_next;refine wpList_next_ranges _ rfl _ rfl 9 law eP Value.string (fun v=>v) (fun key kl h=>(jY h).imp fun _ h=>h.1) (fun v y h=>⟨v,rfl⟩) Mt r N _ _ _ rfl hrg ?_ ?_)
   ·intro hc0 hl0
    have H4:=zh (zN hrow hbel)
    clear hrow hbel hrg hl0 hc0
    go_wp2_with fail
    refine(Hu wr 1 c1 A1 (by omega)).mono ?_
    rintro e w5 ⟨rfl,hb5⟩
    have H5:=zh (zN (V.bH H4.out.1 hb5) (V.ay H4.out.2 hb5))
    clear hb5
    go_wp2_with fail
    go_ret
    exact⟨A1,c1,rfl,H5.out.1,H5.out.2⟩
   ·intro x v kl y1 y2 w4 cnt1 hkx hlx hlx2 hvy hat hrg1 hlt hg1 hs1 hen
    exfalso
    obtain⟨s',e1,rfl⟩:=jY hkx
    injection e1 with e1
    subst e1
    obtain rfl:=HK.out x _ hat
    rw[sameKey_self] at hlx2
    simp at hlx2
end
section
open Go.RowKit Go.Maps
def RH(left:Lit→Bool)(nm:Nat→ByteArray)(F L:Int)(a b:Value): Prop:=
 (left (bP (nm 0))=true∧a=.int .i64 1152921504606846976∧b=.int .i64 (-1152921504606846976))∨(left (bP (nm 0))=false∧a=.int .i64 F∧b=.int .i64 L)
theorem CB(w:World)(p:Nat)(O:List Nat)(nm:Nat→ByteArray)(pf:Nat→Nat→Pt)(pn:Nat→Nat)(M o:Nat)(Ab:Option Addr)(cb cn:Nat)(VS:Nat→Value)(h:mZ w p O nm pf pn 1 M o Ab cb cn VS)(hB:Built nm pf pn 1)(h0:0 < pn 0)(hn:pn 0≤1000)(F L:Int)(hF:F=(pf 0 0).t)(hL:L=(pf 0 (pn 0-1)).t)(tF:gD F)(tL:gD L):
  Calls Tryz.prog 155 #[.pointer (some ⟨p,0,none⟩)] w fun e w'=>e=.returned (.tuple #[.int .i64 F,.int .i64 L,.bool true])∧Below w.heap.size w w':=by
 have hseg:=h.seg
 have HS:=zh (zN h (zN hB (zN hF (zN hL (zN tF tL)))))
 clear h hB hF hL tF tL
 go_enter Tryz.func155,Tryz.ntmps155
 go_wp2_with fail
 refine(uL w p M (hseg.cell 2)).mono ?_
 rintro e w1 ⟨rfl,hb1⟩
 have h1:=HS.out.1.below hb1
 have zp2:=h1.seg.cell 2
 have hown:World.ownsMap w1 Tryz.prog 9 eP M 1 (DB nm VS 1):=h1.map
 have H1:=zh (zN h1 hb1)
 clear h1 hb1 hseg
 go_wp2_with (at_range;refine wpList_range_own _ rfl _ 351 rfl 9 358 law Tryz.underlying351 _ M 1 _ rfl hown ?_;intro w3 hrg0 hg0 hs0)
 try go_frame
 obtain⟨r,hr⟩:∃ r,r=w1.heap.size:=⟨_,rfl⟩
 rw[←hr] at hrg0 ⊢
 have hl3:Below w1.heap.size w1 w3:=⟨hg0.os,hg0.tape,hg0.output,hg0.size,fun q hq=>hg0.block q hq (fun e=>by cases e)⟩
 have HR:=zh (zN hrg0 (zN hl3 hr))
 clear hrg0 hl3 hr hg0 hs0 hown zp2
 go_loopw [2,3] (fun a b wr=>∃ (left:Lit→Bool) (cnt:Nat),wr.ranges Tryz.prog 9 eP M r 1 (DB nm VS 1) left cnt∧RH left nm F L a b∧Below w1.heap.size w1 wr)
  (fun _ _ wr=>wr.rangeLeft M r)
 case atStart=>exact ⟨_,_,HR.out.1,.inl ⟨(uV nm VS (nm 0) 1).2 ⟨0,by omega,rfl⟩,rfl,rfl⟩,HR.out.2.1⟩
 case round=>
  obtain⟨left,cnt,hrg,hinv,hbel⟩:=hrel
  go_wp2_with (at_next;refine wpList_next_ranges _ rfl _ rfl 9 law eP Value.string (fun v=>v) (fun key kl h=>(jY h).imp fun _ h=>h.1) (fun v y h=>⟨v,rfl⟩) M r 1 _ _ _ rfl hrg ?_ ?_)
  ·intro hc0 hl0
   rcases hinv with ⟨h1,-⟩ | ⟨-,rfl,rfl⟩
   ·rw[hl0] at h1;cases h1
   ·have HF:=zh hbel
    clear hl0 hbel hrg hc0
    go_wp2_with fail
    refine bodyPost_ret (v:=.tuple #[.int .i64 F,.int .i64 L,.bool true]) (by simp[results,Tryz.results155,go_sem]) rfl ?_
    exact⟨rfl,H1.out.2.trans (HF.out.mono H1.out.2.size)⟩
  ·intro x v kl y1 y2 w4 cnt1 hkx hlx hvy hat hrg1 hlt hg1 hs1 hen
   obtain⟨s',e1,rfl⟩:=jY hkx
   injection e1 with e1
   subst e1
   obtain⟨j,hjk,rfl⟩:=(uV nm VS x 1).1 (has_true_of_atKey hat)
   obtain rfl:j=0:=by omega
   have hvj:v=VS 0:=by
    have h1:=hat .nil
    have h2:=G5 hvy
    injection h2 with h2 _
    rw[Dx nm VS .nil 1 HS.out.2.1.apart 0 hjk,h2] at h1
    injection h1 with h1
    exact h1.symm
   rcases hinv with ⟨-,rfl,rfl⟩ | ⟨h2,-⟩
   ·have hl4:Below w1.heap.size w1 w4:=jD hbel hg1 (by rw[HR.out.2.2];exact Nat.le_refl _)
    obtain⟨g,cc,hvs,hgl,hnc,hcell⟩:=H1.out.1.bks 0 hjk
    have hnb1:aT (pn 0)=1:=by unfold aT;omega
    rw[hnb1] at hvs hnc hcell
    have hfF:(bG pf pn 0 0).f=F:=by
     rw[HS.out.2.2.1]
     rfl
    have hfL:(bG pf pn 0 0).t=L:=by
     rw[HS.out.2.2.2.1]
     show (pf 0 (1024*0+(bn (pn 0) (1024*0)-1))).t=_
     rw[show 1024*0+(bn (pn 0) (1024*0)-1)=pn 0-1 by unfold bn;omega]
    have c2:∀ wx,Below w1.heap.size w1 wx→wx.cell? ⟨g,2,none⟩=some (.int .i64 F)∧wx.cell? ⟨g,3,none⟩=some (.int .i64 L):=fun wx hb=>by
     have h2:=(hb.cell (p:=⟨g,0*5+2,none⟩) (by exact hgl)).trans (hcell 0 (by omega) 2 (by omega))
     have h3:=(hb.cell (p:=⟨g,0*5+3,none⟩) (by exact hgl)).trans (hcell 0 (by omega) 3 (by omega))
     rw[show (qx (bG pf pn 0 0))[2]? = some (.int .i64 F) by rw[←hfF];rfl] at h2
     rw[show (qx (bG pf pn 0 0))[3]? = some (.int .i64 L) by rw[←hfL];rfl] at h3
     exact⟨by simpa using h2,by simpa using h3⟩
    rw[hvs] at hvj
    subst hvj
    have e0:IntKind.i64.wrap 0=0:=by decide
    have m1:min (1152921504606846976:Int) F=F:=by have:=HS.out.2.2.2.2.1.2;omega
    have m2:max (-1152921504606846976:Int) L=L:=by have:=HS.out.2.2.2.2.2.1;omega
    have HV:=zh (zN hrg1 (zN hl4 (zN c2 (zN hlt hrg.left_eq))))
    clear hrg1 hl4 hcell hgl hlt hrg hbel hat hvy hkx hlx hg1 hs1 hvs c2 hfF hfL hnb1
    go_wp2_with fail
    clear hen
    have hS:=V.ay HV.out.2.1 (Below.refl _ _).drew
    have hS:(Below w1.heap.size w1) (w4.drew):=hS
    refine av (Below w1.heap.size w1) (by kernel_rfl) hS ?_
    refine zB [0,1,2,3,4,5,6,7,8,9,10,11,12,13,14] ?_
    iterate 15 (refine zV ?_ ?_ hS ?_;rotate_left;(intro w' hSw;have u2:=(HV.out.2.2.1 _ hSw).1;have u3:=(HV.out.2.2.1 _ hSw).2;go_simp<;>with_reducible rfl);try simp only[zP])
    refine zE ?_
    refine zB [15,16] ?_
    iterate 2 (refine zV ?_ ?_ hS ?_;rotate_left;(intro w' hSw;go_simp<;>with_reducible rfl);try simp only[zP])
    refine zE ?_
    refine zD ?_
    try simp only[zP]
    have hrg5:=HV.out.1.kept (dn (Below.refl _ _).drew none) (fun e=>by cases e) (fun e=>by cases e)
    have H5:=zh (zN hrg5 hS)
    clear hrg5 m1 m2
    go_wp2_with fail
    go_roundw
    case rel=>exact ⟨_,cnt1,H5.out.1,.inr ⟨by simp[sameKey_self],rfl,rfl⟩,H5.out.2⟩
    case measure=>rw[H5.out.1.left_eq,HV.out.2.2.2.2];exact HV.out.2.2.2.1
   ·rw[hlx] at h2;cases h2
end
end Go.Proofs.YtmffkpkgbdcnjaaGreatDoor
